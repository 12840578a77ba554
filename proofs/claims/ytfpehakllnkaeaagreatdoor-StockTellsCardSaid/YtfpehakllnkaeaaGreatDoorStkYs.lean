
/- Stock: Same. -/
import Derived.Test.YtfpehakllnkaeaaGreatDoorStkQ
import Derived.Test.YtfpehakllnkaeaaGreatDoorWireD
set_option linter.unusedSimpArgs false
set_option linter.unusedVariables false
namespace Go.Proofs.YtfpehakllnkaeaaGreatDoor
open Go.RowKit Go.IntWalk

theorem bytes_ne {x y : ByteArray} (h : x ≠ y) : (x.toList == y.toList) = false := by
  have e : ∀ z : ByteArray, z.toList = z.data.toList := fun z => by rw [← bs_of z, bs_list]; simp [bs]
  rw [e, e]
  have : x.data.toList ≠ y.data.toList := fun h2 => h (by
    cases x; cases y
    simp at h2
    rw [h2])
  simpa using this
set_option maxRecDepth 100000 in
set_option maxHeartbeats 2000000 in
theorem same_any (A B C A' B' C' : Option Addr) (c d e0 c' d' e0' : Nat) (ks ks' : List Kd) (lots lots' : List Lt) (bxs bxs' : List Bx) (w : World) (hk : ks.length ≤ maxLen) (hk' : ks'.length ≤ maxLen) (hl : lots.length ≤ maxLen) (hl' : lots'.length ≤ maxLen) (hb : bxs.length ≤ maxLen) (hb' : bxs'.length ≤ maxLen)
    (h1 : SlR w w.heap.size A ks) (h2 : SlR w w.heap.size B lots) (h3 : SlR w w.heap.size C bxs) (h1' : SlR w w.heap.size A' ks') (h2' : SlR w w.heap.size B' lots') (h3' : SlR w w.heap.size C' bxs') :
    Calls Tryz.prog 8 #[.slice A ks.length c, .slice B lots.length d, .slice C bxs.length e0, .slice A' ks'.length c', .slice B' lots'.length d', .slice C' bxs'.length e0'] w fun e w' => e = .returned (.bool (decide (ks = ks') && decide (lots = lots') && decide (bxs = bxs'))) ∧ Below w.heap.size w w' := by
  have HL := hid hl; have HL' := hid hl'; have HB1 := hid hb; have HB1' := hid hb'
  unfold maxLen at hk hk' hl hl' hb hb'
  by_cases hne : ks.length = ks'.length
  case neg =>
    have hne' : ¬ (ks.length : Int) = ks'.length := by omega
    have hr := hid (show decide (ks = ks') = false by have : ks ≠ ks' := (fun e => hne (by rw [e])); simp [this])
    clear hne
    go_enter Tryz.func8, Tryz.ntmps8
    go_wp2_with fail
    go_ret
    exact ⟨ret_bool (by rw [hr.out]; rfl), Below.refl _ _⟩
  have HN := hid hne
  have hne' : (ks.length : Int) = ks'.length := by omega
  clear hne
  go_enter Tryz.func8, Tryz.ntmps8
  go_wp2_with fail
  go_loopw [13] (fun i wr => ∃ k : Nat, k ≤ ks'.length ∧ i = .int .i64 k ∧ Below w.heap.size w wr ∧ ks.take k = ks'.take k) (fun i _ => ks'.length - (intOf i).toNat)
  case atStart => exact ⟨0, by omega, rfl, Below.refl _ _, by simp⟩
  case round =>
    obtain ⟨k, hkk, rfl, hB, ht⟩ := hrel
    have HB := hid hB
    have HT := hid ht
    by_cases hlt : k < ks'.length
    · have hlt' : (k : Int) < ks'.length := by omega
      have hkl : k < ks.length := by have := HN.out; omega
      obtain ⟨b1, o1, rfl, hb1, c1, c2, _⟩ := h1.kd hkl
      obtain ⟨b2, o2, rfl, hb2, d1, d2, _⟩ := h1'.kd hlt
      replace c1 := (bcell hB b1 _ hb1).trans c1
      replace c2 := (bcell hB b1 _ hb1).trans c2
      replace d1 := (bcell hB b2 _ hb2).trans d1
      replace d2 := (bcell hB b2 _ hb2).trans d2
      have z1 : b1 < wr.heap.size := by have := hB.size; omega
      have z2 : b2 < wr.heap.size := by have := hB.size; omega
      have HE := hid (fun (e : ks[k] = ks'[k]) => take_snoc_eq hkl hlt ht e)
      have HNE := hid (fun (e : ks[k] ≠ ks'[k]) => show decide (ks = ks') = false from by simp [take_snoc_ne hkl hlt e])
      clear hB ht
      generalize ks[k] = x at *
      generalize ks'[k] = y at *
      obtain ⟨x0, x1⟩ := x
      obtain ⟨y0, y1⟩ := y
      simp only at c1 c2 d1 d2
      by_cases e0 : x0 = y0
      · by_cases e1 : x1 = y1
        · subst e0 e1
          have HT2 := hid (HE.out rfl)
          clear HE HNE
          as_aux_lemma =>
            go_wp2_with fail
            go_quiet (fail)
            go_wp2_with fail
            go_roundw
            case rel => exact ⟨k + 1, by omega, by go_num, below_drewN HB.out _, HT2.out⟩
            case measure => simp [intOf]; omega
        · have hf := hid (HNE.out (by simp [e1]))
          subst e0
          clear HE HNE
          as_aux_lemma =>
            go_wp2_with fail
            go_quiet (fail)
            go_wp2_with fail
            go_ret
            exact ⟨ret_bool (by rw [hf.out]; rfl), below_drewN HB.out _⟩
      · have hf := hid (HNE.out (by simp [e0]))
        have hbe := bytes_ne e0
        clear HE HNE e0
        as_aux_lemma =>
          go_wp2_with fail
          go_quiet (fail)
          go_wp2_with fail
          go_ret
          exact ⟨ret_bool (by rw [hf.out]; rfl), below_drewN HB.out _⟩
    · obtain rfl : k = ks'.length := by omega
      have hr := hid (show decide (ks = ks') = true by
        have h5 := HN.out
        have h6 := ht
        rw [List.take_length, ← h5, List.take_length] at h6
        simp [h6])
      clear hB ht
      have HSL := hid (samelots_any B B' d d' lots lots' wr HL.out HL'.out ((h2.below HB.out).more HB.out.size) ((h2'.below HB.out).more HB.out.size))
      go_wp2_with fail
      refine HSL.out.mono ?_
      cases hql : decide (lots = lots') with
      | false =>
        rintro e w2 ⟨rfl, hB2⟩
        have B2 := hid (HB.out.trans (hB2.mono HB.out.size))
        clear hB2
        as_aux_lemma =>
          go_wp2_with fail
          go_ret
          exact ⟨ret_bool (by simp [hr.out, hql]), B2.out⟩
      | true =>
        rintro e w2 ⟨rfl, hB2⟩
        have B2 := hid (HB.out.trans (hB2.mono HB.out.size))
        clear hB2
        have HSB := hid (sameboxes_any C C' e0 e0' bxs bxs' w2 HB1.out HB1'.out ((h3.below B2.out).more B2.out.size) ((h3'.below B2.out).more B2.out.size))
        as_aux_lemma =>
          go_wp2_with fail
          refine HSB.out.mono ?_
          rintro e w3 ⟨rfl, hB3⟩
          have B3 := hid (B2.out.trans (hB3.mono B2.out.size))
          clear hB3
          go_wp2_with fail
          go_ret
          exact ⟨ret_bool (by rw [hr.out, hql]; simp), B3.out⟩
end Go.Proofs.YtfpehakllnkaeaaGreatDoor
