
/- Net: a network in memory; slices.Delete of one packet. -/
import Derived.Test.YtfofmbmmighdiaaDoorSeamNa
set_option linter.unusedSimpArgs false
set_option linter.unusedVariables false
namespace Go.Proofs.YtfofmbmmighdiaaDoor
open Go.RowKit Go.IntWalk

/-- The row of packets behind a slice that the program itself made. -/
theorem pk_row {w : World} {base : Nat} {v : Value} {F : List Pk} (h : w.ownsRow base 76 3 v F.length (pc F)) : ∃ A c, v = .slice A F.length c ∧ F.length ≤ c ∧ c ≤ maxLen ∧
    (F ≠ [] → ∃ g cur, A = some ⟨g, 0, none⟩ ∧ base ≤ g ∧ g < w.heap.size ∧ Blk w g 76 cur ∧ cur.size = c * 3 ∧ cur.toList.take (F.length * 3) = pc F) := by
  rcases h.2 with ⟨hv, hn⟩ | ⟨g, cap, cur, hv, hg, hh, hc, hm, hs, ht⟩
  · have : F = [] := List.eq_nil_of_length_eq_zero hn
    subst this
    exact ⟨none, 0, hv, by simp, by simp [maxLen], fun h => absurd rfl h⟩
  · refine ⟨some ⟨g, 0, none⟩, cap, hv, hc, hm, fun _ => ⟨g, cur, rfl, hg, Blk.lt (cs := cur) hh, hh, hs, ht⟩⟩
theorem pk_cell {w : World} {g : Nat} {cur : Array Value} {F : List Pk} (hb : Blk w g 76 cur) (ht : cur.toList.take (F.length * 3) = pc F) {i : Nat} (hi : i < F.length) :
    w.cell? ⟨g, i * 3, none⟩ = some (.int .i64 F[i].1) ∧ w.cell? ⟨g, i * 3 + 1, none⟩ = some (.int .i64 F[i].2.1) ∧ w.cell? ⟨g, i * 3 + 2, none⟩ = some (.string F[i].2.2) := by
  obtain ⟨h0, h1, h2⟩ := pc_at F i hi
  rw [← ht, List.getElem?_take_of_lt (by omega)] at h0 h1 h2
  rw [Array.getElem?_toList] at h0 h1 h2
  exact ⟨(hb.cell _).trans h0, (hb.cell _).trans h1, (hb.cell _).trans h2⟩
theorem ret_sl {A : Option Addr} {n m c : Nat} (h : n = m) : Ending.returned (.slice A n c) = .returned (.slice A m c) := by rw [h]
theorem add_z (g o j : Nat) : (⟨g, o, none⟩ : Addr).add j = ⟨g, o + j, none⟩ := by unfold Addr.add; split <;> simp_all
theorem pc_one : ∀ (F : List Pk) (u : Value), u ∈ pc F → u.oneCell' = true
  | [], u, hu => by simp [pc] at hu
  | p :: l, u, hu => by
    simp only [pc, List.mem_cons] at hu
    rcases hu with rfl | rfl | rfl | hu
    · rfl
    · rfl
    · rfl
    · exact pc_one l u hu
set_option maxRecDepth 100000 in
set_option maxHeartbeats 4000000 in
theorem delete_any (base g cap : Nat) (F : List Pk) (i : Nat) (hi : i < F.length) (w : World) (h : w.ownsRow base 76 3 (.slice (some ⟨g, 0, none⟩) F.length cap) F.length (pc F)) :
    Calls Tryd.prog 75 #[.slice (some ⟨g, 0, none⟩) F.length cap, .int .i64 (i : Int), .int .i64 ((i : Int) + 1)] w fun e w' => e = .returned (.slice (some ⟨g, 0, none⟩) (F.length - 1) cap) ∧
      w'.ownsRow base 76 3 (.slice (some ⟨g, 0, none⟩) (F.length - 1) cap) (F.eraseIdx i).length (pc (F.eraseIdx i)) ∧ w.grownBy w' (some g) := by
  obtain ⟨A0, c0, hv, hcap, hmax, hrow⟩ := pk_row h
  obtain ⟨g0, cur, rfl, hbg, hlt, hb, hsz, htk⟩ := hrow (by intro e; subst e; simp at hi)
  simp only [Value.slice.injEq, Option.some.injEq, Addr.mk.injEq] at hv
  obtain ⟨⟨rfl, _⟩, _, rfl⟩ := hv
  obtain ⟨i0, hi0, hz0, hz1, hz2⟩ := info_parts infoPk
  obtain ⟨n, hn⟩ : ∃ n, n = F.length := ⟨_, rfl⟩
  obtain ⟨news, hnews⟩ : ∃ news, news = (pc F).drop ((i + 1) * 3) := ⟨_, rfl⟩
  have hlen : news.length = (n - (i + 1)) * 3 := by rw [hnews, List.length_drop, pc_len, ← hn]; omega
  have hget : ∀ t u, news[t]? = some u → w.cell? ⟨g, (i + 1) * 3 + t, none⟩ = some u := by
    intro t u hu
    have htl : t < news.length := (List.getElem?_eq_some_iff.1 hu).1
    rw [hnews, List.getElem?_drop, ← htk, List.getElem?_take_of_lt (by omega), Array.getElem?_toList] at hu
    exact (hb.cell _).trans hu
  obtain ⟨A, hA, hsrc⟩ : ∃ A : Addr, (if cap = i + 1 then some (⟨g, 0, none⟩ : Addr) else some ⟨g, (i + 1) * 3, none⟩) = some A ∧ Hid (∀ t u, news[t]? = some u → w.drew.cell? (A.add t) = some u) := by
    by_cases hc : cap = i + 1
    · refine ⟨⟨g, 0, none⟩, by simp [hc], fun t u hu => ?_⟩
      have h0 : news.length = 0 := by rw [hlen]; omega
      rw [List.length_eq_zero_iff.1 h0] at hu
      simp at hu
    · refine ⟨⟨g, (i + 1) * 3, none⟩, by simp [hc], fun t u hu => ?_⟩
      rw [add_z]
      exact hget t u hu
  have hcs : ∀ t, t < cap * 3 → (w.cell? ⟨g, t, none⟩).isSome = true := by
    intro t ht
    rw [hb.cell, Array.getElem?_eq_getElem (by omega)]; rfl
  have s1 : Hid (news.length = (n - (i + 1)) * 3) := hlen
  have s2 : Hid (∀ u ∈ news, u.oneCell' = true) := by
    intro u hu
    rw [hnews] at hu
    exact pc_one F u (List.mem_of_mem_drop hu)
  have s3 : Hid (∀ t, t < news.length → (w.drew.cell? ⟨g, 0 + i * 3 + t, none⟩).isSome = true ∧ w.drew.frozen? ⟨g, 0 + i * 3 + t, none⟩ = false) := by
    intro t ht
    exact ⟨hcs _ (by omega), hb.frozen _⟩
  obtain ⟨W1, hW1⟩ : ∃ W1, W1 = w.drew.setCells g (i * 3) news := ⟨_, rfl⟩
  have hb1 : Blk W1 g 76 ⟨putL cur.toList (i * 3) news⟩ := by rw [hW1]; exact setCells_blk news _ _ _ hb
  have hsz1 : (putL cur.toList (i * 3) news).length = cap * 3 := by rw [putL_len]; simpa using hsz
  have hcl : ∀ ty, (Builtin.clear_ #[73] ty #[.slice (some ⟨g, (n - 1) * 3, none⟩) 1 (cap - (n - 1))]).run Tryd.prog W1 = .ok (.tuple #[]) (W1.setCells g ((n - 1) * 3) [.int .i64 0, .int .i64 0, .string ⟨#[]⟩]) :=
    fun ty => run_clear3 W1 ty g ((n - 1) * 3) _ (fun j hj => by rw [hb1.cell, Array.getElem?_eq_getElem (by simp; omega)]; rfl) (fun j hj => hb1.frozen _)
  have hcl : ∀ ty, (Builtin.clear_ #[73] ty #[.slice (some ⟨g, (i + (n - (i + 1))) * 3, none⟩) (n - (i + (n - (i + 1)))) (cap - (i + (n - (i + 1))))]).run Tryd.prog W1 = .ok (.tuple #[]) (W1.setCells g ((n - 1) * 3) [.int .i64 0, .int .i64 0, .string ⟨#[]⟩]) := by
    intro ty
    rw [show i + (n - (i + 1)) = n - 1 by omega, show n - (n - 1) = 1 by omega]
    exact hcl ty
  have hfin : Hid ((W1.setCells g ((n - 1) * 3) [.int .i64 0, .int .i64 0, .string ⟨#[]⟩]).ownsRow base 76 3 (.slice (some ⟨g, 0, none⟩) (F.length - 1) cap) (F.eraseIdx i).length (pc (F.eraseIdx i)) ∧ w.grownBy (W1.setCells g ((n - 1) * 3) [.int .i64 0, .int .i64 0, .string ⟨#[]⟩]) (some g)) := by
    refine ⟨⟨by rw [pc_len], .inr ⟨g, cap, _, by rw [List.length_eraseIdx_of_lt hi], hbg, setCells_blk _ _ _ _ hb1, by rw [List.length_eraseIdx_of_lt hi]; omega, hmax, by simp [putL_len]; simpa using hsz, ?_⟩⟩, ?_⟩
    · rw [List.length_eraseIdx_of_lt hi, ← hn, putL_eq _ _ _ (by simp [putL_len]; omega), List.append_assoc, List.take_left' (by simp [putL_len]; omega)]
      rw [putL_eq _ _ _ (by simp; omega), List.take_append_of_le_length (by simp; omega), pc_erase F i hi, ← hnews]
      rw [List.take_of_length_le (by simp; omega)]
      congr 1
      rw [← htk, List.take_take, Nat.min_eq_left (by omega)]
    · rw [hW1]
      exact grown_tr (grown_tr (grown_b0 ((Below.refl _ _).drew)) (setCells_grown g news _ w.drew)) (setCells_grown g _ _ _)
  have hW : Hid (W1 = w.drew.setCells g (0 + i * 3) news) := by rw [hW1, Nat.zero_add]; exact rfl
  have hic : i ≤ cap := by omega
  have hjc : i + 1 ≤ cap := by omega
  have hni : i < F.length := by omega
  have hnc : F.length ≤ cap := by omega
  subst hn
  unfold maxLen at hmax
  have hne : ((i : Int) == (i : Int) + 1) = false := by simp; omega
  have hu0 : (0 : Int) ≤ (i : Int) + 1 := by omega
  have hu1 : (i : Int) + 1 ≤ (F.length : Int) := by omega
  clear hW1 hb1 hsz1 hget hnews hlen h hb htk hrow hcs hsz hi hcap
  go_enter Tryd.func75, Tryd.ntmps75
  go_wp2_with fail
  go_region_law (refine step_append_room rfl (.tmp 22) (.tmp 25) 73 rfl 76 i0 3 Tryd.underlying73 hi0 hz1 g 0 i cap (by simp [Act.eval, Act.put]) A (F.length - (i + 1)) (cap - (i + 1)) news (by simp [Act.eval, Act.put]) s1.out hsrc.out s2.out (by omega) s3.out ?_; rw [← hW.out])
  go_wp2_with fail
  go_ret
  exact ⟨ret_sl (by omega), hfin.out⟩
end Go.Proofs.YtfofmbmmighdiaaDoor
