/- Wire: WireBack, the walk. -/
import Derived.Test.YtjdblegmpmampaaDoorWireT
set_option linter.unusedSimpArgs false
set_option linter.unusedVariables false
namespace Go.Proofs.YtjdblegmpmampaaDoor
open Go.RowKit Go.IntWalk

set_option maxHeartbeats 400000 in
theorem rest_any (b : Nat) (l : List UInt8) (bad : Bool) (w : World) (h : Rd w b l bad) :
    Calls Tryd.prog 42 #[.pointer (some ⟨b, 0, none⟩)] w fun e w' => e = .returned (.string (bs l)) ∧ Rd w' b [] bad ∧ w.grownBy w' (some b) := by
  obtain ⟨c0, c1⟩ := blk2' h
  have f0 := h.frozen 0
  have hz := h.lt
  go_enter Tryd.func42, Tryd.ntmps42
  go_wp2_with fail
  go_ret
  refine ⟨rfl, ?_, grown_set _ _ _ _⟩
  have := Blk.set_ h 0 (.string ⟨#[]⟩)
  simpa [Rd, bs] using this

theorem SlR.val5 {w : World} {B : Nat} {A : Option Addr} {l : List Val} (h : SlR w B A l) {k : Nat} (hk : k < l.length) : ∃ b off A1 c1 A2 c2, A = some ⟨b, off, none⟩ ∧ b < B ∧
    w.cell? ⟨b, off + k * 5, none⟩ = some (.int .i64 l[k].1) ∧ w.cell? ⟨b, off + k * 5 + 1, none⟩ = some (.int .i64 l[k].2.1) ∧
    w.cell? ⟨b, off + k * 5 + 2, none⟩ = some (.string l[k].2.2.1) ∧ w.cell? ⟨b, off + k * 5 + 3, none⟩ = some (.slice A1 l[k].2.2.2.1.length c1) ∧ w.cell? ⟨b, off + k * 5 + 4, none⟩ = some (.slice A2 l[k].2.2.2.2.length c2) ∧
    I64 l[k].1 ∧ I64 l[k].2.1 ∧ l[k].2.2.2.1.length ≤ c1 ∧ c1 ≤ maxLen ∧ l[k].2.2.2.2.length ≤ c2 ∧ c2 ≤ maxLen ∧ SlR w B A1 l[k].2.2.2.1 ∧ SlR w B A2 l[k].2.2.2.2 := by
  obtain ⟨b, off, es, hA, hb, hs, hc, hr⟩ := h k _ (List.getElem?_eq_getElem hk)
  obtain ⟨A1, c1, A2, c2, rfl, h1, h2, h3, h4, h5, h6, h7, h8, h9⟩ := val_rep hr
  have h5' : Rep.size Val = 5 := rfl
  rw [h5'] at hc
  exact ⟨b, off, A1, c1, A2, c2, hA, hb, hc 0 _ rfl, hc 1 _ rfl, hc 2 _ rfl, hc 3 _ rfl, hc 4 _ rfl, h1, h2, h4, h5, h7, h8, h6, h9⟩
def encVs (l : List Val) : List UInt8 := (l.map encV).flatten
theorem encV_len (v : Val) (h : Ok v) (h1 : I64 v.2.1) (hi : ∀ x ∈ v.2.2.2.1, I64 x) : (encV v).length ≤ 300000 := by
  have li : ∀ n : Int, I64 n → (encI n).length ≤ 22 := by
    intro n hn
    have := Lib.itoa_length_le n hn.1 hn.2
    simp [encI]; omega
  have lh : ∀ n : Nat, n ≤ 400 → (Lib.itoa (n : Int)).length ≤ 21 := fun n hn => Lib.itoa_length_le (n : Int) (by omega) (by omega)
  have lt : ∀ s : ByteArray, s.size ≤ 400 → (encT s.data.toList).length ≤ 500 := by
    intro s hs
    have h2 := size_list s
    have h1 := lh s.data.toList.length (by omega)
    rw [encT]
    simp only [List.length_append, List.length_cons, List.length_nil]
    omega
  unfold encV
  split
  · have := li _ (nn_bd v.2.1 h1).2; omega
  split
  · have := li _ h1; omega
  split
  · have := lt _ h.s; omega
  split
  · have e := flat_bound (v.2.2.2.1.map encI) 22 (by
      intro y hy
      obtain ⟨x, hx, rfl⟩ := List.mem_map.1 hy
      exact li x (hi x hx))
    have l4 := h.l
    have l5 := lh _ l4
    rw [List.length_map] at e
    rw [encL]
    simp only [List.length_append, List.length_cons, List.length_nil, List.length_map]
    omega
  · have e := flat_bound (v.2.2.2.2.map encB) 500 (by
      intro y hy
      obtain ⟨x, hx, rfl⟩ := List.mem_map.1 hy
      exact lt x (h.e x hx))
    have l4 := h.t
    have l5 := lh _ l4
    rw [List.length_map] at e
    rw [encL]
    simp only [List.length_append, List.length_cons, List.length_nil, List.length_map]
    omega
theorem encVs_len (l : List Val) (h : ∀ v ∈ l, (encV v).length ≤ 300000) (n : Nat) (hn : l.length ≤ n) : (encVs l).length ≤ n * 300000 := by
  have := flat_bound (l.map encV) 300000 (by
    intro y hy
    obtain ⟨x, hx, rfl⟩ := List.mem_map.1 hy
    exact h x hx)
  rw [List.length_map] at this
  exact Nat.le_trans this (Nat.mul_le_mul_right _ hn)
theorem encVs_snoc (l : List Val) (k : Nat) (h : k < l.length) : encVs (l.take (k + 1)) = encVs (l.take k) ++ encV l[k] := by
  unfold encVs
  rw [List.take_add_one, List.getElem?_eq_getElem h, List.map_append, List.flatten_append]
  show _ ++ ([l[k]].map encV).flatten = _
  simp
theorem encVs_drop (l : List Val) (k : Nat) (h : k < l.length) : encVs (l.drop k) = encV l[k] ++ encVs (l.drop (k + 1)) := by
  unfold encVs
  rw [List.drop_eq_getElem_cons h, List.map_cons, List.flatten_cons]
theorem SlR.ints_of {w : World} {B : Nat} {A : Option Addr} {l : List Val} (h : SlR w B A l) : ∀ v ∈ l, I64 v.1 ∧ I64 v.2.1 ∧ ∀ x ∈ v.2.2.2.1, I64 x := by
  intro v hv
  obtain ⟨k, hk, rfl⟩ := List.getElem_of_mem hv
  obtain ⟨_, _, _, _, _, _, _, _, _, _, _, _, _, h1, h2, _, _, _, _, h3, _⟩ := h.val5 hk
  exact ⟨h1, h2, h3.ints⟩
set_option maxRecDepth 20000 in
set_option maxHeartbeats 4000000 in
theorem back_any (A : Option Addr) (c : Nat) (l : List Val) (S0 : ByteArray) (w : World) (hl : l.length ≤ maxLen) (hs : SlR w w.heap.size A l) (hS : S0.size ≤ maxLen) (he : Env w) :
    Calls Tryd.prog 8 #[.slice A l.length c, .string S0] w fun e w' => e = .returned (.bool true) ∧ Below w.heap.size w w' := by
  go_enter Tryd.func8, Tryd.ntmps8
  go_wp2_with fail
  refine (small_any _ he).mono ?_
  rintro e w1 ⟨rfl, hB1⟩
  go_wp2_with fail
  refine (few_any A c l w1 hl ((hs.below hB1).more hB1.size)).mono ?_
  rintro e w2 ⟨rfl, hB⟩
  have hB2 := hid (hB1.trans (hB.mono hB1.size))
  clear hB hB1
  cases hfew : fewB l with
  | false =>
    clear hfew
    go_wp2_with fail
    go_ret
    exact ⟨rfl, hB2.out⟩
  | true =>
    have hF : Few l := by simpa [fewB] using hfew
    have hFl := hF.n
    have hO := hid hF.o
    clear hfew hF
    have hIs := hid hs.ints_of
    have hLen := hid (show ∀ v ∈ l, (encV v).length ≤ 300000 from fun v hv => encV_len v (hO.out v hv) (hIs.out v hv).2.1 (hIs.out v hv).2.2)
    by_cases hS4 : (400 : Int) < S0.size
    · go_wp2_with fail
      go_ret
      exact ⟨rfl, hB2.out⟩
    · go_wp2_with fail
      go_loopw [6, 7] (fun s i wr => ∃ k : Nat, k ≤ l.length ∧ i = .int .i64 k ∧ s = .string (bs (encVs (l.take k))) ∧ Below w.heap.size w wr) (fun _ i _ => l.length - (intOf i).toNat)
      case atStart => exact ⟨0, by omega, rfl, by simp [encVs, bs], hB2.out⟩
      case round =>
        obtain ⟨k, hk, rfl, rfl, hB⟩ := hrel
        have hsz : (bs (encVs (l.take k))).size ≤ 6000000 := by
          rw [bs_size]
          have := encVs_len (l.take k) (fun v hv => hLen.out v (List.mem_of_mem_take hv)) 20 (by simp; omega)
          omega
        have Hl := hid hl
        clear hl
        by_cases hlt : k < l.length
        · obtain ⟨b1, o1, A1, c1, A2, c2, rfl, hbb, g0, g1, g2, g3, g4, q0, q1, q2, q3, q4, q5, q6, q7⟩ := (hs.below hB).val5 hlt
          have hsn := hid (encVs_snoc l k hlt)
          have hok := hid (hO.out l[k] (List.getElem_mem hlt))
          have hle := hid (hLen.out l[k] (List.getElem_mem hlt))
          have hlt' : (k : Int) < l.length := by omega
          generalize l[k] = v at *
          obtain ⟨v0, v1, S, L, T⟩ := v
          simp only at g0 g1 g2 g3 g4 q0 q1 q2 q3 q4 q5 q6 q7
          go_wp2_with fail
          refine (write_any v0 v1 S A1 c1 L A2 c2 T _ q0 q1 q2 q3 (q6.more hB.size) q4 q5 (q7.more hB.size) hok.out (he.below hB)).mono ?_
          rintro e w3 ⟨rfl, hB3⟩
          have hz3 : (bs (encV (v0, v1, S, L, T))).size ≤ 300000 := by rw [bs_size]; exact hle.out
          go_wp2_with fail
          go_roundw
          case rel => exact ⟨k + 1, by omega, by go_num, by rw [bs_app, hsn.out], hB.trans (hB3.mono hB.size)⟩
          case measure => simp [intOf]; omega
        · obtain rfl : k = l.length := by omega
          rw [List.take_length] at hsz ⊢
          have hB3 := hid hB
          have hBz := hB.size
          clear hB hB2
          go_wp2_with fail
          refine (open_any _ _).mono ?_
          rintro e w3 ⟨rfl, hR, hB⟩
          have hB4 := hid (hB3.out.trans (hB.mono hB3.out.size))
          have hR3 : Hid (Rd w3 wr.heap.size (encVs (l.drop 0) ++ S0.data.toList) false) := by
            rw [show bs (encVs l) ++ S0 = bs (encVs (l.drop 0) ++ S0.data.toList) by rw [List.drop_zero, ← bs_app, bs_of]] at hR
            refine hid ?_
            simpa [bs] using hR
          clear hB hR hB3
          generalize wr.heap.size = bb at *
          go_wp2_with fail
          go_loopw [9] (fun i wx => ∃ k : Nat, k ≤ l.length ∧ i = .int .i64 k ∧ Rd wx bb (encVs (l.drop k) ++ S0.data.toList) false ∧ Below w.heap.size w wx) (fun i _ => l.length - (intOf i).toNat)
          case atStart => exact ⟨0, by omega, rfl, hR3.out, hB4.out⟩
          case round =>
            clear hR3 hB4
            obtain ⟨k, hk, rfl, hR, hB⟩ := hrel
            by_cases hlt : k < l.length
            · obtain ⟨b1, o1, A1, c1, A2, c2, rfl, hbb, g0, g1, g2, g3, g4, q0, q1, q2, q3, q4, q5, q6, q7⟩ := hs.val5 hlt
              have hbz : b1 < w.heap.size := hbb
              have g0 := (bcell hB b1 (o1 + k * 5) hbz).trans g0
              have g1 := (bcell hB b1 (o1 + k * 5 + 1) hbz).trans g1
              have g2 := (bcell hB b1 (o1 + k * 5 + 2) hbz).trans g2
              have g3 := (bcell hB b1 (o1 + k * 5 + 3) hbz).trans g3
              have g4 := (bcell hB b1 (o1 + k * 5 + 4) hbz).trans g4
              rw [encVs_drop l k hlt, List.append_assoc] at hR
              have hok := hid (hO.out l[k] (List.getElem_mem hlt))
              have hle : (encV l[k] ++ (encVs (l.drop (k + 1)) ++ S0.data.toList)).length ≤ 1000000000000 := by
                have h1 := hLen.out l[k] (List.getElem_mem hlt)
                have h2 := encVs_len (l.drop (k + 1)) (fun v hv => hLen.out v (List.mem_of_mem_drop hv)) 20 (by simp; omega)
                have h3 := size_list S0
                simp only [List.length_append]
                omega
              have hlt' : (k : Int) < l.length := by omega
              generalize l[k] = v at *
              obtain ⟨v0, v1, S, L, T⟩ := v
              simp only at g0 g1 g2 g3 g4 q0 q1 q2 q3 q4 q5 q6 q7
              go_wp2_with fail
              refine (equal_any v0 v1 S A1 c1 L A2 c2 T w q0 q1 q2 q3 q6 q4 q5 q7 hok.out he bb hBz wr hB (encVs (l.drop (k + 1)) ++ S0.data.toList) hR hle).mono ?_
              rintro e w4 ⟨rfl, hR4, hg⟩
              go_wp2_with fail
              go_roundw
              case rel => exact ⟨k + 1, by omega, by go_num, hR4, bg hB hg hBz⟩
              case measure => simp [intOf]; omega
            · obtain rfl : k = l.length := by omega
              rw [List.drop_length] at hR
              replace hR : Rd wr bb S0.data.toList false := hR
              go_wp2_with fail
              refine (left_any _ _ _ _ hR).mono ?_
              rw [← size_list]
              rintro e w4 ⟨rfl, hB4⟩
              have hR4 : Rd w4 bb S0.data.toList false := Blk.below hR hB4 hR.lt
              have hB5 := hid (hB.trans (hB4.mono hB.size))
              clear hB hB4 hR
              go_wp2_with fail
              refine (done_any _ _ _ _ hR4).mono ?_
              rw [Bool.not_false, Bool.true_and]
              rintro e w5 ⟨rfl, hB4⟩
              have hR5 : Rd w5 bb S0.data.toList false := Blk.below hR4 hB4 hR4.lt
              have hB6 := hid (hB5.out.trans (hB4.mono hB5.out.size))
              clear hB4 hB5 hR4
              have hem : S0.data.toList.isEmpty = S0.toList.isEmpty := by
                rw [← bs_of S0, bs_list]; simp [bs]
              rw [hem]
              clear hem
              go_wp2_with fail
              refine (rest_any _ _ _ _ hR5).mono ?_
              rw [bs_of]
              rintro e w6 ⟨rfl, hR6, hg6⟩
              have hB7 := hid (bg hB6.out hg6 hBz)
              clear hR5 hB6 hg6
              go_wp2_with fail
              refine (done_any _ _ _ _ hR6).mono ?_
              rw [Bool.not_false, Bool.true_and, List.isEmpty_nil]
              rintro e w7 ⟨rfl, hB4⟩
              have hR7 : Rd w7 bb [] false := Blk.below hR6 hB4 hR6.lt
              have hB8 := hid (hB7.out.trans (hB4.mono hB7.out.size))
              clear hB4 hB7 hR6
              go_wp2_with fail
              refine (left_any _ _ _ _ hR7).mono ?_
              rw [List.length_nil]
              rintro e w8 ⟨rfl, hB4⟩
              have hB9 := hid (hB8.out.trans (hB4.mono hB8.out.size))
              clear hB4 hB8 hR7
              go_wp2_with fail
              go_ret
              exact ⟨rfl, hB9.out⟩
end Go.Proofs.YtjdblegmpmampaaDoor
