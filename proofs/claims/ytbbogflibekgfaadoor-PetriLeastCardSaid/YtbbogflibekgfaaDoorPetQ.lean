
/- Petri: the reference's Few. -/
import Derived.Test.YtbbogflibekgfaaDoorPetO
set_option linter.unusedSimpArgs false
set_option linter.unusedVariables false
namespace Go.Proofs.YtbbogflibekgfaaDoor
open Go.RowKit Go.IntWalk Go.Shelf

def shF (t : Tr) : Bool := decide (t.1.length ≤ 20) && decide (t.2.length ≤ 20)
def fewN (n : Int) (T : List Tr) (p q : Int) : Bool := decide (n ≤ p) && decide ((T.length : Int) ≤ q) && T.all shF
set_option maxRecDepth 100000 in
set_option maxHeartbeats 1000000 in
theorem few_any (n : Int) (A : Option Addr) (c : Nat) (T : List Tr) (p q : Int) (w : World) (hl : T.length ≤ maxLen) (h : SlR w w.heap.size A T) :
    Calls Tryd.prog 23 #[.agg #[.int .i64 n, .slice A T.length c], .int .i64 p, .int .i64 q] w fun e w' => e = .returned (.bool (fewN n T p q)) ∧ Below w.heap.size w w' := by
  unfold maxLen at hl
  obtain ⟨w1, hw1⟩ : ∃ w1, w1 = (w.alloc (Obj.cells #[.int .i64 n, .slice A T.length c] 24)) := ⟨_, rfl⟩
  have B1 : Below w.heap.size w w1 := by rw [hw1]; (repeat (first | exact Below.refl _ _ | assumption | refine below_drewN ?_ _ | refine Below.drew ?_ | refine Below.alloc ?_ (by (try simp); (try omega)) _ | refine Below.setCell ?_ (by (try simp); (try omega)) _))
  have x1 : Blk w1 w.heap.size 24 #[.int .i64 n, .slice A T.length c] := by rw [hw1]; exact Blk.new w _ _
  have y0 := x1.cell 0; have y1 := x1.cell 1; have z1 := x1.lt
  simp at y0 y1
  have HB1 := hid B1
  have h1 := (h.below B1).more B1.size
  have hno := hid (fun (k : Nat) (hk : k < T.length) (hf : shF T[k] = false) => show fewN n T p q = false by
    unfold fewN
    have : T.all shF = false := by
      rw [List.all_eq_false]
      exact ⟨_, List.getElem_mem hk, by simp [hf]⟩
    rw [this, Bool.and_false])
  clear x1 B1 h
  go_enter Tryd.func23, Tryd.ntmps23
  go_upto_region 1 with fail
  rw [← hw1]
  clear hw1
  go_upto_region 2 with fail
  go_loopw [7] (fun i wr => ∃ k : Nat, k ≤ T.length ∧ i = .int .i64 k ∧ w1 = wr ∧ (T.take k).all shF = true) (fun i _ => T.length - (intOf i).toNat)
  case atStart => exact ⟨0, by omega, rfl, rfl, by simp⟩
  case round =>
    obtain ⟨k, hk, rfl, rfl, ht⟩ := hrel
    have HT := hid ht
    clear ht
    by_cases hlt : k < T.length
    · have hlt' : (k : Int) < T.length := by omega
      by_cases hq : (k : Int) ≤ q
      · obtain ⟨b, off, A1, c1, A2, c2, rfl, hb, g0, g1, _, _, _, _⟩ := h1.tr hlt
        have hf := hid (hno.out k hlt)
        have hst := hid (show (T.take (k + 1)).all shF = shF T[k] by rw [List.take_add_one, List.getElem?_eq_getElem hlt, List.all_append, HT.out]; simp)
        generalize T[k] = t at *
        obtain ⟨I, O⟩ := t
        simp only at g0 g1
        by_cases hI : 20 < I.length
        · go_wp2_with fail
          go_ret
          exact ⟨ret_bool (by rw [hf.out (by simp [shF]; omega)]), HB1.out⟩
        · by_cases hO : 20 < O.length
          · go_wp2_with fail
            go_ret
            exact ⟨ret_bool (by rw [hf.out (by simp [shF]; omega)]), HB1.out⟩
          · go_wp2_with fail
            go_roundw
            case rel => exact ⟨k + 1, by omega, by go_num, by first | trivial | rfl, by rw [hst.out]; simp [shF]; omega⟩
            case measure => simp [intOf]; omega
      · have hr := hid (show fewN n T p q = false by unfold fewN; have : ¬ ((T.length : Int) ≤ q) := by omega
                                                     simp [this])
        by_cases hp : n ≤ p
        · have hTq : ¬ ((T.length : Int) ≤ q) := by omega
          go_wp2_with fail
          go_ret
          exact ⟨ret_bool hr.out.symm, HB1.out⟩
        · go_wp2_with fail
          go_ret
          exact ⟨ret_bool hr.out.symm, HB1.out⟩
    · obtain rfl : k = T.length := by omega
      rw [List.take_length] at HT
      have hr := hid (show fewN n T p q = (decide (n ≤ p) && decide ((T.length : Int) ≤ q)) by unfold fewN; rw [HT.out, Bool.and_true])
      by_cases hp : n ≤ p
      · go_wp2_with fail
        go_ret
        exact ⟨ret_bool (by rw [hr.out]; simp [hp]), HB1.out⟩
      · go_wp2_with fail
        go_ret
        exact ⟨ret_bool (by rw [hr.out]; simp [hp]; try omega), HB1.out⟩
end Go.Proofs.YtbbogflibekgfaaDoor
