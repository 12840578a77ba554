
/- Stock: lists that are equal; Expired. -/
import Derived.Test.YtfpehakllnkaeaaDoorStkO
set_option linter.unusedSimpArgs false
set_option linter.unusedVariables false
namespace Go.Proofs.YtfpehakllnkaeaaDoor
open Go.RowKit Go.IntWalk

theorem take_snoc_eq {α : Type} {l m : List α} {k : Nat} (hl : k < l.length) (hm : k < m.length) (h : l.take k = m.take k) (he : l[k] = m[k]) : l.take (k + 1) = m.take (k + 1) := by
  rw [List.take_add_one, List.take_add_one, List.getElem?_eq_getElem hl, List.getElem?_eq_getElem hm, h, he]
theorem take_snoc_ne {α : Type} {l m : List α} {k : Nat} (hl : k < l.length) (hm : k < m.length) (he : l[k] ≠ m[k]) : l ≠ m := fun e => he (by subst e; rfl)
set_option maxRecDepth 100000 in
set_option maxHeartbeats 1000000 in
theorem sameboxes_any (A B : Option Addr) (c d : Nat) (l m : List Bx) (w : World) (hl : l.length ≤ maxLen) (hm : m.length ≤ maxLen) (h1 : SlR w w.heap.size A l) (h2 : SlR w w.heap.size B m) :
    Calls Tryd.prog 36 #[.slice A l.length c, .slice B m.length d] w fun e w' => e = .returned (.bool (decide (l = m))) ∧ Below w.heap.size w w' := by
  unfold maxLen at hl hm
  by_cases hne : l.length = m.length
  case neg =>
    have hne' : ¬ (l.length : Int) = m.length := by omega
    have hr := hid (show decide (l = m) = false by have : l ≠ m := (fun e => hne (by rw [e])); simp [this])
    clear hne
    go_enter Tryd.func36, Tryd.ntmps36
    go_wp2_with fail
    go_ret
    exact ⟨ret_bool hr.out.symm, Below.refl _ _⟩
  have HN := hid hne
  have hne' : (l.length : Int) = m.length := by omega
  clear hne
  go_enter Tryd.func36, Tryd.ntmps36
  go_wp2_with fail
  go_loopw [5] (fun i wr => ∃ k : Nat, k ≤ m.length ∧ i = .int .i64 k ∧ Below w.heap.size w wr ∧ l.take k = m.take k) (fun i _ => m.length - (intOf i).toNat)
  case atStart => exact ⟨0, by omega, rfl, Below.refl _ _, by simp⟩
  case round =>
    obtain ⟨k, hk, rfl, hB, ht⟩ := hrel
    have HB := hid hB
    have HT := hid ht
    by_cases hlt : k < m.length
    · have hlt' : (k : Int) < m.length := by omega
      have hkl : k < l.length := by have := HN.out; omega
      obtain ⟨b1, o1, rfl, hb1, c1, c2, c3, _⟩ := h1.i3 hkl
      obtain ⟨b2, o2, rfl, hb2, d1, d2, d3, _⟩ := h2.i3 hlt
      replace c1 := (bcell hB b1 _ hb1).trans c1
      replace c2 := (bcell hB b1 _ hb1).trans c2
      replace c3 := (bcell hB b1 _ hb1).trans c3
      replace d1 := (bcell hB b2 _ hb2).trans d1
      replace d2 := (bcell hB b2 _ hb2).trans d2
      replace d3 := (bcell hB b2 _ hb2).trans d3
      have z1 : b1 < wr.heap.size := by have := hB.size; omega
      have z2 : b2 < wr.heap.size := by have := hB.size; omega
      have HE := hid (fun (e : l[k] = m[k]) => take_snoc_eq hkl hlt ht e)
      have HNE := hid (fun (e : l[k] ≠ m[k]) => show decide (l = m) = false from by simp [take_snoc_ne hkl hlt e])
      clear hB ht
      generalize l[k] = x at *
      generalize m[k] = y at *
      obtain ⟨x0, x1, x2⟩ := x
      obtain ⟨y0, y1, y2⟩ := y
      simp only at c1 c2 c3 d1 d2 d3
      by_cases e0 : x0 = y0
      · by_cases e1 : x1 = y1
        · by_cases e2 : x2 = y2
          · subst e0 e1 e2
            have HT2 := hid (HE.out rfl)
            clear HE HNE
            as_aux_lemma =>
              go_wp2_with fail
              go_quiet (fail)
              go_wp2_with fail
              go_roundw
              case rel => exact ⟨k + 1, by omega, by go_num, below_drewN HB.out _, HT2.out⟩
              case measure => simp [intOf]; omega
          · have hf := hid (HNE.out (by simp [e2]))
            subst e0 e1
            clear HE HNE
            as_aux_lemma =>
              go_wp2_with fail
              go_quiet (fail)
              go_wp2_with fail
              go_ret
              exact ⟨ret_bool hf.out.symm, below_drewN HB.out _⟩
        · have hf := hid (HNE.out (by simp [e1]))
          subst e0
          clear HE HNE
          as_aux_lemma =>
            go_wp2_with fail
            go_quiet (fail)
            go_wp2_with fail
            go_ret
            exact ⟨ret_bool hf.out.symm, below_drewN HB.out _⟩
      · have hf := hid (HNE.out (by simp [e0]))
        clear HE HNE
        as_aux_lemma =>
          go_wp2_with fail
          go_quiet (fail)
          go_wp2_with fail
          go_ret
          exact ⟨ret_bool hf.out.symm, below_drewN HB.out _⟩
    · obtain rfl : k = m.length := by omega
      have hr := hid (show decide (l = m) = true by
        have h5 := HN.out
        have h6 := ht
        rw [List.take_length, ← h5, List.take_length] at h6
        simp [h6])
      clear hB ht
      go_wp2_with fail
      go_ret
      exact ⟨ret_bool hr.out.symm, HB.out⟩
set_option maxRecDepth 100000 in
set_option maxHeartbeats 1000000 in
theorem samelots_any (A B : Option Addr) (c d : Nat) (l m : List Lt) (w : World) (hl : l.length ≤ maxLen) (hm : m.length ≤ maxLen) (h1 : SlR w w.heap.size A l) (h2 : SlR w w.heap.size B m) :
    Calls Tryd.prog 35 #[.slice A l.length c, .slice B m.length d] w fun e w' => e = .returned (.bool (decide (l = m))) ∧ Below w.heap.size w w' := by
  unfold maxLen at hl hm
  by_cases hne : l.length = m.length
  case neg =>
    have hne' : ¬ (l.length : Int) = m.length := by omega
    have hr := hid (show decide (l = m) = false by have : l ≠ m := (fun e => hne (by rw [e])); simp [this])
    clear hne
    go_enter Tryd.func35, Tryd.ntmps35
    go_wp2_with fail
    go_ret
    exact ⟨ret_bool hr.out.symm, Below.refl _ _⟩
  have HN := hid hne
  have hne' : (l.length : Int) = m.length := by omega
  clear hne
  go_enter Tryd.func35, Tryd.ntmps35
  go_wp2_with fail
  go_loopw [5] (fun i wr => ∃ k : Nat, k ≤ m.length ∧ i = .int .i64 k ∧ Below w.heap.size w wr ∧ l.take k = m.take k) (fun i _ => m.length - (intOf i).toNat)
  case atStart => exact ⟨0, by omega, rfl, Below.refl _ _, by simp⟩
  case round =>
    obtain ⟨k, hk, rfl, hB, ht⟩ := hrel
    have HB := hid hB
    have HT := hid ht
    by_cases hlt : k < m.length
    · have hlt' : (k : Int) < m.length := by omega
      have hkl : k < l.length := by have := HN.out; omega
      obtain ⟨b1, o1, rfl, hb1, c1, c2, c3, _⟩ := h1.lt hkl
      obtain ⟨b2, o2, rfl, hb2, d1, d2, d3, _⟩ := h2.lt hlt
      replace c1 := (bcell hB b1 _ hb1).trans c1
      replace c2 := (bcell hB b1 _ hb1).trans c2
      replace c3 := (bcell hB b1 _ hb1).trans c3
      replace d1 := (bcell hB b2 _ hb2).trans d1
      replace d2 := (bcell hB b2 _ hb2).trans d2
      replace d3 := (bcell hB b2 _ hb2).trans d3
      have z1 : b1 < wr.heap.size := by have := hB.size; omega
      have z2 : b2 < wr.heap.size := by have := hB.size; omega
      have HE := hid (fun (e : l[k] = m[k]) => take_snoc_eq hkl hlt ht e)
      have HNE := hid (fun (e : l[k] ≠ m[k]) => show decide (l = m) = false from by simp [take_snoc_ne hkl hlt e])
      clear hB ht
      generalize l[k] = x at *
      generalize m[k] = y at *
      obtain ⟨x0, x1, x2⟩ := x
      obtain ⟨y0, y1, y2⟩ := y
      simp only at c1 c2 c3 d1 d2 d3
      by_cases e0 : x0 = y0
      · by_cases e1 : x1 = y1
        · by_cases e2 : x2 = y2
          · subst e0 e1 e2
            have HT2 := hid (HE.out rfl)
            clear HE HNE
            as_aux_lemma =>
              go_wp2_with fail
              go_quiet (fail)
              go_wp2_with fail
              go_roundw
              case rel => exact ⟨k + 1, by omega, by go_num, below_drewN HB.out _, HT2.out⟩
              case measure => simp [intOf]; omega
          · have hf := hid (HNE.out (by simp [e2]))
            subst e0 e1
            clear HE HNE
            as_aux_lemma =>
              go_wp2_with fail
              go_quiet (fail)
              go_wp2_with fail
              go_ret
              exact ⟨ret_bool hf.out.symm, below_drewN HB.out _⟩
        · have hf := hid (HNE.out (by simp [e1]))
          subst e0
          clear HE HNE
          as_aux_lemma =>
            go_wp2_with fail
            go_quiet (fail)
            go_wp2_with fail
            go_ret
            exact ⟨ret_bool hf.out.symm, below_drewN HB.out _⟩
      · have hf := hid (HNE.out (by simp [e0]))
        clear HE HNE
        as_aux_lemma =>
          go_wp2_with fail
          go_quiet (fail)
          go_wp2_with fail
          go_ret
          exact ⟨ret_bool hf.out.symm, below_drewN HB.out _⟩
    · obtain rfl : k = m.length := by omega
      have hr := hid (show decide (l = m) = true by
        have h5 := HN.out
        have h6 := ht
        rw [List.take_length, ← h5, List.take_length] at h6
        simp [h6])
      clear hB ht
      go_wp2_with fail
      go_ret
      exact ⟨ret_bool hr.out.symm, HB.out⟩
set_option maxRecDepth 100000 in
set_option maxHeartbeats 1000000 in
theorem sametakes_any (A B : Option Addr) (c d : Nat) (l m : List Tk) (w : World) (hl : l.length ≤ maxLen) (hm : m.length ≤ maxLen) (h1 : SlR w w.heap.size A l) (h2 : SlR w w.heap.size B m) :
    Calls Tryd.prog 46 #[.slice A l.length c, .slice B m.length d] w fun e w' => e = .returned (.bool (decide (l = m))) ∧ Below w.heap.size w w' := by
  unfold maxLen at hl hm
  by_cases hne : l.length = m.length
  case neg =>
    have hne' : ¬ (l.length : Int) = m.length := by omega
    have hr := hid (show decide (l = m) = false by have : l ≠ m := (fun e => hne (by rw [e])); simp [this])
    clear hne
    go_enter Tryd.func46, Tryd.ntmps46
    go_wp2_with fail
    go_ret
    exact ⟨ret_bool hr.out.symm, Below.refl _ _⟩
  have HN := hid hne
  have hne' : (l.length : Int) = m.length := by omega
  clear hne
  go_enter Tryd.func46, Tryd.ntmps46
  go_wp2_with fail
  go_loopw [5] (fun i wr => ∃ k : Nat, k ≤ m.length ∧ i = .int .i64 k ∧ Below w.heap.size w wr ∧ l.take k = m.take k) (fun i _ => m.length - (intOf i).toNat)
  case atStart => exact ⟨0, by omega, rfl, Below.refl _ _, by simp⟩
  case round =>
    obtain ⟨k, hk, rfl, hB, ht⟩ := hrel
    have HB := hid hB
    have HT := hid ht
    by_cases hlt : k < m.length
    · have hlt' : (k : Int) < m.length := by omega
      have hkl : k < l.length := by have := HN.out; omega
      obtain ⟨b1, o1, rfl, hb1, c1, c2, _⟩ := h1.tk hkl
      obtain ⟨b2, o2, rfl, hb2, d1, d2, _⟩ := h2.tk hlt
      replace c1 := (bcell hB b1 _ hb1).trans c1
      replace c2 := (bcell hB b1 _ hb1).trans c2
      replace d1 := (bcell hB b2 _ hb2).trans d1
      replace d2 := (bcell hB b2 _ hb2).trans d2
      have z1 : b1 < wr.heap.size := by have := hB.size; omega
      have z2 : b2 < wr.heap.size := by have := hB.size; omega
      have HE := hid (fun (e : l[k] = m[k]) => take_snoc_eq hkl hlt ht e)
      have HNE := hid (fun (e : l[k] ≠ m[k]) => show decide (l = m) = false from by simp [take_snoc_ne hkl hlt e])
      clear hB ht
      generalize l[k] = x at *
      generalize m[k] = y at *
      obtain ⟨x0, x1⟩ := x
      obtain ⟨y0, y1⟩ := y
      simp only at c1 c2 d1 d2
      by_cases e0 : x0 = y0
      · by_cases e1 : x1 = y1
        · subst e0 e1
          have HT2 := hid (HE.out rfl)
          clear HE HNE
          as_aux_lemma =>
            go_wp2_with fail
            go_quiet (fail)
            go_wp2_with fail
            go_roundw
            case rel => exact ⟨k + 1, by omega, by go_num, below_drewN HB.out _, HT2.out⟩
            case measure => simp [intOf]; omega
        · have hf := hid (HNE.out (by simp [e1]))
          subst e0
          clear HE HNE
          as_aux_lemma =>
            go_wp2_with fail
            go_quiet (fail)
            go_wp2_with fail
            go_ret
            exact ⟨ret_bool hf.out.symm, below_drewN HB.out _⟩
      · have hf := hid (HNE.out (by simp [e0]))
        clear HE HNE
        as_aux_lemma =>
          go_wp2_with fail
          go_quiet (fail)
          go_wp2_with fail
          go_ret
          exact ⟨ret_bool hf.out.symm, below_drewN HB.out _⟩
    · obtain rfl : k = m.length := by omega
      have hr := hid (show decide (l = m) = true by
        have h5 := HN.out
        have h6 := ht
        rw [List.take_length, ← h5, List.take_length] at h6
        simp [h6])
      clear hB ht
      go_wp2_with fail
      go_ret
      exact ⟨ret_bool hr.out.symm, HB.out⟩

/-- The lots that cannot be sold any more. -/
def expK (lots : List Lt) (t : Int) (k : Nat) : List Nat := (List.range k).filter fun i => decide ((lots.getD i (0, 0, false)).2.1 < t)
theorem expK_succ (lots : List Lt) (t : Int) (k : Nat) : expK lots t (k + 1) = expK lots t k ++ (if (lots.getD k (0, 0, false)).2.1 < t then [k] else []) := by
  unfold expK
  rw [List.range_succ, List.filter_append]
  congr 1
  by_cases h : (lots.getD k (0, 0, false)).2.1 < t <;> simp [List.filter_cons, h]
end Go.Proofs.YtfpehakllnkaeaaDoor
