
/- Game: Solve. -/
import Derived.Test.YtdjjhflhdhihcaaGamL
set_option linter.unusedSimpArgs false
set_option linter.unusedVariables false
namespace Go.Proofs.Ytdjjhflhdhihcaa
open Go.RowKit Go.IntWalk Go.Shelf

/-- The Act of the first good move. -/
def firstA (g : Gm) (R : List Int) (p : Nat) : Int := match (g.2.getD p []).find? (fun m => !m.2.any (badF R p)) with | some m => m.1 | none => 0
def rowF (g : Gm) (R : List Int) (p : Nat) : Option Row := if R.getD p 0 = 0 then some ((p : Int), -1, 0) else if 0 < R.getD p 0 then some ((p : Int), firstA g R p, R.getD p 0) else none
def rowsK (g : Gm) (R : List Int) (k : Nat) : List Row := (List.range k).filterMap (rowF g R)
def solveL (g : Gm) : List Row := rowsK g (rankL g) g.1.length
theorem rowsK_succ (g : Gm) (R : List Int) (k : Nat) : rowsK g R (k + 1) = rowsK g R k ++ (rowF g R k).toList := by
  unfold rowsK
  rw [List.range_succ, List.filterMap_append]
  cases h : rowF g R k <;> simp [h]
theorem rowsK_len (g : Gm) (R : List Int) (k : Nat) : (rowsK g R k).length ≤ k := by
  have := List.length_filterMap_le (rowF g R) (List.range k)
  simpa [rowsK] using this
theorem find_first {α : Type} {l : List α} {f : α → Bool} {m : α} (h : l.find? f = some m) : ∃ k, ∃ hk : k < l.length, l[k] = m ∧ f m = true ∧ ∀ j, ∀ hj : j < k, f (l[j]'(by omega)) = false := by
  rw [List.find?_eq_some_iff_getElem] at h
  obtain ⟨h1, k, hk, h2, h3⟩ := h
  exact ⟨k, hk, h2, h1, fun j hj => by simpa using h3 j hj⟩
theorem badF_no {R : List Int} {p : Nat} {x : Int} (h0 : 0 ≤ R.getD x.toNat 0) (h1 : R.getD x.toNat 0 ≤ R.getD p 0 - 1) : badF R p x = false := by
  unfold badF
  simp only [Bool.or_eq_false_iff, decide_eq_false_iff_not]
  omega
theorem badF_iff {R : List Int} {p : Nat} {x : Int} : badF R p x = false ↔ 0 ≤ R.getD x.toNat 0 ∧ R.getD x.toNat 0 < R.getD p 0 := by
  unfold badF
  simp only [Bool.or_eq_false_iff, decide_eq_false_iff_not]
  omega
theorem Rk.first {g : Gm} {R : List Int} (h : Rk g R) {p : Nat} (hp : p < g.1.length) (h1 : 1 ≤ R.getD p 0) : ∃ k, ∃ hk : k < (g.2.getD p []).length, firstA g R p = (g.2.getD p [])[k].1 ∧ gdF R p (g.2.getD p []) k = true ∧ ∀ j, j < k → gdF R p (g.2.getD p []) j = false := by
  obtain ⟨m, hm, ht⟩ := h.up p hp h1
  have hx : (g.2.getD p []).find? (fun m => !m.2.any (badF R p)) ≠ none := by
    intro he
    rw [List.find?_eq_none] at he
    refine he m hm ?_
    simp only [Bool.not_eq_true', List.any_eq_false, Bool.not_eq_true]
    intro t h'
    exact badF_no (ht t h').1 (ht t h').2
  obtain ⟨m', hm'⟩ := Option.ne_none_iff_exists'.1 hx
  obtain ⟨k, hk, he, hy, hn⟩ := find_first hm'
  refine ⟨k, hk, by simp only [firstA, hm', he], ?_, fun j hj => ?_⟩
  · subst he
    unfold gdF
    rw [show (g.2.getD p []).getD k (0, []) = (g.2.getD p [])[k] by rw [List.getD, List.getElem?_eq_getElem hk]; rfl]
    exact hy
  · have := hn j hj
    have hj' : j < (g.2.getD p []).length := by omega
    unfold gdF
    rw [show (g.2.getD p []).getD j (0, []) = (g.2.getD p [])[j] by rw [List.getD, List.getElem?_eq_getElem hj']; rfl]
    exact this
theorem rowF_zero {g : Gm} {R : List Int} {p : Nat} (h : R.getD p 0 = 0) : (rowF g R p).toList = [((p : Int), (-1 : Int), (0 : Int))] := by unfold rowF; rw [if_pos h]; rfl
theorem rowF_pos {g : Gm} {R : List Int} {p : Nat} {r a : Int} (h : R.getD p 0 = r) (hr : 0 < r) (ha : firstA g R p = a) : (rowF g R p).toList = [((p : Int), a, r)] := by unfold rowF; rw [h, if_neg (by omega), if_pos hr, ha]; rfl
theorem rowF_neg {g : Gm} {R : List Int} {p : Nat} {r : Int} (h : R.getD p 0 = r) (h0 : ¬ r = 0) (hr : ¬ 0 < r) : (rowF g R p).toList = [] := by unfold rowF; rw [h, if_neg h0, if_neg hr]; rfl
set_option maxRecDepth 100000 in
set_option maxHeartbeats 4000000 in
theorem solve_any (Ag Am : Option Addr) (cg cm : Nat) (g : Gm) (w : World) (h : GmR w w.heap.size Ag Am g) (hg : GmOK g) :
    Calls Try.prog 10 #[.agg #[.slice Ag g.1.length cg, .slice Am g.2.length cm]] w fun e w' => ∃ v, e = .returned v ∧ OwnR w' w.heap.size v (solveL g) ∧ Below w.heap.size w w' := by
  have hB1 := hid (show Below w.heap.size w (w.alloc (Obj.cells #[.slice Ag g.1.length cg, .slice Am g.2.length cm] 25)) by (repeat (first | exact Below.refl _ _ | assumption | refine below_drewN ?_ _ | refine Below.drew ?_ | refine Below.alloc ?_ (by (try simp); (try omega)) _ | refine Below.setCell ?_ (by (try simp); (try omega)) _)))
  have X1 := hid (Blk.new w 25 #[.slice Ag g.1.length cg, .slice Am g.2.length cm])
  have H1 := hid (h.to hB1.out)
  have H := hid h
  have HG := hid hg
  have HC := hid (ranks_any Ag Am cg cm g _ H1.out hg)
  have hs := hg.s
  clear h hg
  obtain ⟨w1, hw1⟩ : ∃ w1, w1 = (w.alloc (Obj.cells #[.slice Ag g.1.length cg, .slice Am g.2.length cm] 25)) := ⟨_, rfl⟩
  rw [← hw1] at hB1 X1 H1 HC
  have HW1 := hid hw1
  clear hw1
  have x0 := X1.out.cell 0; have x1 := X1.out.cell 1; have xz := X1.out.lt
  simp at x0 x1
  go_enter Try.func10, Try.ntmps10
  go_upto_region 1 with fail
  rw [← HW1.out]
  go_wp2_with fail
  refine HC.out.mono ?_
  rintro e w2 ⟨v2, rfl, hown, hB2⟩
  have hrk := hid (rankL_rk HG.out)
  have hrn := hrk.out.len
  have hsol := hid (show rowsK g (rankL g) (rankL g).length = solveL g by rw [hrn]; rfl)
  obtain ⟨AR, cR, rfl, hlc, hcm, hsl⟩ := hown.slr (fun x hx => by
    obtain ⟨q, hq, rfl⟩ := List.getElem_of_mem hx
    have h1 := hrk.out.lo q (by omega)
    have h2 := (stB_le (g := g) HG.out.n HG.out.fm g.1.length q)
    have h3 : (stB g g.1.length).r q = (rankL g)[q] := by simp [St.r, rankL, List.getD, show q < (stB g g.1.length).R.length from hq]
    have h4 : (rankL g).getD q 0 = (rankL g)[q] := by simp [List.getD, hq]
    rw [h3] at h2
    rw [h4] at h1
    unfold I64
    omega)
  have HS := hid hsl
  have hBw := hid (hB1.out.trans (hB2.mono hB1.out.size))
  have X2 := hid (X1.out.below hB2 X1.out.lt)
  have H2 := hid (H.out.to hBw.out)
  have hlR : (rankL g).length ≤ 1000 := by omega
  have HRN := hid hrn
  have hcm' := hid (show (rankL g).length ≤ maxLen from Nat.le_trans hlc hcm)
  generalize hR : rankL g = R at *
  have HRr := hid hR
  clear hown hB2 hsl hlc hcm hrn hR x0 x1 xz HC X1 hB1 H1 HW1
  go_wp2_with fail
  go_loopw [4, 11] (fun ov j wr => ∃ (k : Nat) (v : Value), k ≤ R.length ∧ j = .int .i64 k ∧ v = ov ∧ OwnR wr w2.heap.size v (rowsK g R k) ∧ Below w2.heap.size w2 wr) (fun _ j _ => R.length - (intOf j).toNat)
  case atStart => exact ⟨0, .slice none 0 0, by omega, rfl, rfl, OwnR.nil _ _, Below.refl _ _⟩
  case round =>
    obtain ⟨k, v, hk, rfl, rfl, hown, hB⟩ := hrel
    have HO := hid hown
    have HB := hid hB
    have hlen := hid (rowsK_len g R k)
    by_cases hlt : k < R.length
    · have hlt' : (k : Int) < R.length := by omega
      obtain ⟨b, off, rfl, hb, hc, hi⟩ := HS.out.int hlt
      replace hc := (bcell hB b _ hb).trans hc
      have hz : b < wr.heap.size := by have := hB.size; omega
      have X3 := X2.out.below hB X2.out.lt
      have x0 := X3.cell 0; have x1 := X3.cell 1; have xz := X3.lt
      simp at x0 x1
      have hst := hid (rowsK_succ g R k)
      have hgd := hid (show R.getD k 0 = R[k] by simp [List.getD, hlt])
      have HFI := hid (show 1 ≤ R.getD k 0 → _ from fun h1 => hrk.out.first (p := k) (by have := HRN.out; omega) h1)
      have HLT := hid hlt
      clear hown hB X3 hi
      generalize R[k] = r at *
      by_cases h0 : r = 0
      · subst h0
        have hrow := hid (hst.out.trans (show _ = rowsK g R k ++ [((k : Int), (-1 : Int), (0 : Int))] by rw [rowF_zero hgd.out]))
        have HO2 := hid (HO.out.below ((Below.refl _ _).alloc (Nat.le_refl _) (Obj.cells #[.int .i64 (k : Int), .int .i64 (-1), .int .i64 0] 33)))
        have hnw := hid (Blk.new wr 33 #[.int .i64 (k : Int), .int .i64 (-1), .int .i64 0])
        have HBz := HB.out.size
        clear hst hgd HFI
        as_aux_lemma =>
          go_wp2_with (at_builtin; refine wp_appRow _ rfl (.tmp 19) (.tmp 22) rfl w2.heap.size v (rowsK g R k) rfl HO2.out wr.heap.size 1 ((k : Int), -1, 0) rfl hnw.out (by have := hlen.out; omega) (by simp; omega) ?_; intro v3 w3 ho3 hg3; have HO3 := hid ho3; have HB3 := hid ((HB.out.alloc HB.out.size (Obj.cells #[.int .i64 (k : Int), .int .i64 (-1), .int .i64 0] 33)).grown hg3 (by simp; omega) (fun q e => (World.ownsRow.lt HO2.out q e).1)); clear ho3 hg3)
          go_roundw
          case rel => exact ⟨k + 1, v3, by omega, by go_num, rfl, by rw [hrow.out]; exact HO3.out, HB3.out⟩
          case measure => simp [intOf]; omega
      by_cases h1 : 0 < r
      · obtain ⟨k0, hk0, hf1, hf2, hf3⟩ := HFI.out (by rw [hgd.out]; omega)
        have hkg : k < g.1.length := by have := HRN.out; omega
        have hkm : k < g.2.length := by have := HG.out.n; omega
        have hgk : g.2.getD k [] = g.2[k] := by rw [List.getD, List.getElem?_eq_getElem hkm]; rfl
        obtain ⟨ac, hac⟩ : ∃ ac, (g.2.getD k [])[k0].1 = ac := ⟨_, rfl⟩
        rw [hac] at hf1
        have hgo := hid (show Calls Try.prog 22 #[.agg #[.slice Ag g.1.length cg, .slice Am g.2.length cm], .slice (some ⟨b, off, none⟩) R.length cR, .int .i64 k] wr fun e w' => e = .returned (.int .i64 ac) ∧ Below wr.heap.size wr w' by
          have hm9 : ∀ m ∈ g.2[k], ∀ x ∈ m.2, 0 ≤ x ∧ x < R.length := fun m hm x hx => by
            have := (HG.out.m _ (List.getElem_mem hkm) m hm).2.2.2 x hx
            have := HRN.out
            omega
          have hac' : (g.2[k]'hkm)[k0]'(by rw [← hgk]; exact hk0) = (g.2.getD k [])[k0] := by simp only [hgk]
          rw [← hac, ← hac']
          exact good_any Ag Am _ cg cm _ g R k k0 wr ((H2.out.below HB.out).more HB.out.size) hcm'.out ((HS.out.below HB.out).more HB.out.size) hkm HLT.out hm9 (by rw [← hgk]; exact hk0) (by rw [← hgk]; exact hf2) (fun j hj => by rw [← hgk]; exact hf3 j hj))
        have hrow := hid (hst.out.trans (show _ = rowsK g R k ++ [((k : Int), ac, r)] by rw [rowF_pos hgd.out h1 hf1]))
        have HBz := HB.out.size
        clear hst hgd HFI hf1 hf2 hf3 hgk hac hk0
        as_aux_lemma =>
          go_wp2_with fail
          refine hgo.out.mono ?_
          rintro e w4 ⟨rfl, hB4⟩
          have HO2 := hid (HO.out.below (hB4.alloc hB4.size (Obj.cells #[.int .i64 (k : Int), .int .i64 ac, .int .i64 r] 33)))
          have HBB := hid (HB.out.trans (hB4.mono HB.out.size))
          have HBz4 := HBB.out.size
          have hnw := hid (Blk.new w4 33 #[.int .i64 (k : Int), .int .i64 ac, .int .i64 r])
          clear hB4 hgo x0 x1 xz hc hz
          go_wp2_with (at_builtin; refine wp_appRow _ rfl (.tmp 27) (.tmp 35) rfl w2.heap.size v (rowsK g R k) rfl HO2.out w4.heap.size 1 ((k : Int), ac, r) rfl hnw.out (by have := hlen.out; omega) (by simp; omega) ?_; intro v3 w3 ho3 hg3; have HO3 := hid ho3; have HB3 := hid ((HBB.out.alloc HBB.out.size (Obj.cells #[.int .i64 (k : Int), .int .i64 ac, .int .i64 r] 33)).grown hg3 (by simp; omega) (fun q e => (World.ownsRow.lt HO2.out q e).1)); clear ho3 hg3)
          go_roundw
          case rel => exact ⟨k + 1, v3, by omega, by go_num, rfl, by rw [hrow.out]; exact HO3.out, HB3.out⟩
          case measure => simp [intOf]; omega
      · have hrow := hid (hst.out.trans (show _ = rowsK g R k by rw [rowF_neg hgd.out h0 h1, List.append_nil]))
        clear hst hgd HFI
        as_aux_lemma =>
          go_wp2_with fail
          go_roundw
          case rel => exact ⟨k + 1, v, by omega, by go_num, rfl, by rw [hrow.out]; exact HO.out, HB.out⟩
          case measure => simp [intOf]; omega
    · obtain rfl : k = R.length := by omega
      clear hown hB
      go_wp2_with fail
      go_ret
      refine ⟨_, rfl, ?_, ?_⟩
      · rw [← hsol.out]; exact ⟨HO.out.1, HO.out.2.imp id (fun ⟨g, cap, cur, hv, hg, r⟩ => ⟨g, cap, cur, hv, Nat.le_trans hBw.out.size hg, r⟩)⟩
      · exact hBw.out.trans (HB.out.mono hBw.out.size)
end Go.Proofs.Ytdjjhflhdhihcaa
