
/- Petri: the reference's Meets. -/
import Derived.Test.YtbbogflibekgfaaDoorPetN
set_option linter.unusedSimpArgs false
set_option linter.unusedVariables false
namespace Go.Proofs.YtbbogflibekgfaaDoor
open Go.RowKit Go.IntWalk Go.Shelf

def meetsN (a b : List Int) : Bool := a.any (fun x => b.any (fun y => decide (x = y)))
set_option maxRecDepth 100000 in
set_option maxHeartbeats 1000000 in
theorem meets_any (A B : Option Addr) (c d : Nat) (a b : List Int) (w : World) (hl : a.length ≤ maxLen) (hm : b.length ≤ maxLen) (h1 : SlR w w.heap.size A a) (h2 : SlR w w.heap.size B b) :
    Calls Tryd.prog 18 #[.slice A a.length c, .slice B b.length d] w fun e w' => e = .returned (.bool (meetsN a b)) ∧ Below w.heap.size w w' := by
  unfold maxLen at hl hm
  go_enter Tryd.func18, Tryd.ntmps18
  go_wp2_with fail
  go_loopw [5] (fun i wr => ∃ k : Nat, k ≤ a.length ∧ i = .int .i64 k ∧ Below w.heap.size w wr ∧ meetsN (a.take k) b = false) (fun i _ => a.length - (intOf i).toNat)
  case atStart => exact ⟨0, by omega, rfl, Below.refl _ _, by simp [meetsN]⟩
  case round =>
    obtain ⟨k, hk, rfl, hB, ht⟩ := hrel
    have HB := hid hB
    have HT := hid ht
    clear hB ht
    by_cases hlt : k < a.length
    · have hlt' : (k : Int) < a.length := by omega
      obtain ⟨b1, o1, rfl, hb1, g0, _⟩ := h1.int hlt
      have hyes := hid (fun (j : Nat) (hj : j < b.length) (he : a[k] = b[j]) => show meetsN a b = true from List.any_eq_true.2 ⟨a[k], List.getElem_mem hlt, List.any_eq_true.2 ⟨b[j], List.getElem_mem hj, decide_eq_true he⟩⟩)
      have hno := hid (fun (hn : b.any (fun y => decide (a[k] = y)) = false) => show meetsN (a.take (k + 1)) b = false by
        unfold meetsN
        rw [List.take_add_one, List.getElem?_eq_getElem hlt, List.any_append]
        have := HT.out
        unfold meetsN at this
        rw [this]
        simpa using hn)
      generalize a[k] = x at *
      go_upto_region 5 with fail
      go_loopw [6] (fun i wr => ∃ j : Nat, j ≤ b.length ∧ i = .int .i64 j ∧ Below w.heap.size w wr ∧ (b.take j).any (fun y => decide (x = y)) = false) (fun i _ => b.length - (intOf i).toNat)
      case atStart => exact ⟨0, by omega, rfl, HB.out, by simp⟩
      case round =>
        clear HB
        obtain ⟨j, hj, rfl, hB, ht⟩ := hrel
        have HB := hid hB
        have HT2 := hid ht
        by_cases hlj : j < b.length
        · have hlj' : (j : Int) < b.length := by omega
          obtain ⟨b2, o2, rfl, hb2, g2, _⟩ := h2.int hlj
          replace g0 := (bcell hB b1 _ hb1).trans g0
          replace g2 := (bcell hB b2 _ hb2).trans g2
          have z1 : b1 < wr.heap.size := by have := hB.size; omega
          have z2 : b2 < wr.heap.size := by have := hB.size; omega
          have hy := hid (hyes.out j hlj)
          have hn := hid (fun (he : x ≠ b[j]) => show (b.take (j + 1)).any (fun y => decide (x = y)) = false by
            rw [List.take_add_one, List.getElem?_eq_getElem hlj, List.any_append, HT2.out]
            simpa using he)
          clear hB ht
          generalize b[j] = y at *
          by_cases he : x = y
          · have hr := hid (hy.out he)
            subst he
            clear hy hn
            as_aux_lemma =>
              go_wp2_with fail
              go_quiet (fail)
              go_wp2_with fail
              go_ret
              exact ⟨ret_bool hr.out.symm, below_drewN HB.out _⟩
          · have hr := hid (hn.out he)
            clear hy hn
            as_aux_lemma =>
              go_wp2_with fail
              go_quiet (fail)
              go_wp2_with fail
              go_roundw
              case rel => exact ⟨j + 1, by omega, by go_num, below_drewN HB.out _, hr.out⟩
              case measure => simp [intOf]; omega
        · obtain rfl : j = b.length := by omega
          rw [List.take_length] at ht
          have hr := hid (hno.out ht)
          clear hB ht
          go_wp2_with fail
          go_roundw
          case rel => exact ⟨k + 1, by omega, by go_num, HB.out, hr.out⟩
          case measure => simp [intOf]; omega
    · obtain rfl : k = a.length := by omega
      have hr := hid (show meetsN a b = false by have := HT.out; rwa [List.take_length] at this)
      go_wp2_with fail
      go_ret
      exact ⟨ret_bool hr.out.symm, HB.out⟩
end Go.Proofs.YtbbogflibekgfaaDoor
