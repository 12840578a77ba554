
/- Stock: Has, Weight, Units, Supply, the two readings of a right want. -/
import Derived.Test.YtfpehakllnkaeaaDoorStkC
set_option linter.unusedSimpArgs false
set_option linter.unusedVariables false
namespace Go.Proofs.YtfpehakllnkaeaaDoor
open Go.RowKit Go.IntWalk

/-- Boxes with few units each: their sums stay small. -/
def CntOK (bs : List Bx) : Prop := ∀ b ∈ bs, 0 ≤ b.2.1 ∧ b.2.1 ≤ 20000
theorem CntOK.units {bs : List Bx} (h : CntOK bs) (k : Nat) : 0 ≤ unitsL (bs.take k) ∧ unitsL (bs.take k) ≤ 20000 * k := by
  induction k with
  | zero => simp [unitsL, sumI]
  | succ k ih =>
    by_cases hk : k < bs.length
    · rw [unitsL_take hk]
      have := h _ (List.getElem_mem hk)
      omega
    · rw [List.take_of_length_le (by omega)] at ih ⊢
      omega
theorem CntOK.supply {bs : List Bx} (h : CntOK bs) (lots : List Lt) (x : Wt) (k : Nat) : 0 ≤ supplyL lots (bs.take k) x ∧ supplyL lots (bs.take k) x ≤ 20000 * k := by
  induction k with
  | zero => simp [supplyL, sumI]
  | succ k ih =>
    by_cases hk : k < bs.length
    · rw [supplyL_take hk]
      have := h _ (List.getElem_mem hk)
      split <;> omega
    · rw [List.take_of_length_le (by omega)] at ih ⊢
      omega
set_option maxRecDepth 100000 in
set_option maxHeartbeats 2000000 in
theorem units_any (A : Option Addr) (c : Nat) (bs : List Bx) (w : World) (hl : bs.length ≤ 100000) (h : SlR w w.heap.size A bs) (hc : CntOK bs) :
    Calls Tryd.prog 28 #[.slice A bs.length c] w fun e w' => e = .returned (.int .i64 (unitsL bs)) ∧ Below w.heap.size w w' := by
  go_enter Tryd.func28, Tryd.ntmps28
  go_wp2_with fail
  go_loopw [3, 8] (fun sv i wr => ∃ k : Nat, k ≤ bs.length ∧ i = .int .i64 k ∧ sv = .int .i64 (unitsL (bs.take k)) ∧ Below w.heap.size w wr) (fun _ i _ => bs.length - (intOf i).toNat)
  case atStart => exact ⟨0, by omega, rfl, rfl, Below.refl _ _⟩
  case round =>
    obtain ⟨k, hk, rfl, rfl, hB⟩ := hrel
    have HB := hid hB
    have hbd := hc.units k
    by_cases hlt : k < bs.length
    · have hlt' : (k : Int) < bs.length := by omega
      have hcb := hc _ (List.getElem_mem hlt)
      obtain ⟨b, off, rfl, hb, c0, c1, c2, -⟩ := h.i3 hlt
      replace c0 := (bcell hB b _ hb).trans c0
      replace c1 := (bcell hB b _ hb).trans c1
      replace c2 := (bcell hB b _ hb).trans c2
      have hz : b < wr.heap.size := by have := hB.size; omega
      have HT := hid (unitsL_take hlt)
      have hsz := hB.size
      clear hB
      generalize bs[k] = x at *
      obtain ⟨x0, x1, x2⟩ := x
      simp only at *
      generalize unitsL (bs.take k) = s at *
      have hwr : IntKind.i64.wrap (s + x1) = s + x1 := IntWalk.i64_in _ (by omega)
      have B1 := hid (show Below w.heap.size w (wr.alloc (Obj.cells #[.int .i64 x0, .int .i64 x1, .int .i64 x2] 46)) from HB.out.alloc hsz _)
      as_aux_lemma =>
        go_wp2_with fail
        go_roundw
        case rel => exact ⟨k + 1, by omega, by go_num, by rw [HT.out], B1.out⟩
        case measure => simp [intOf]; omega
    · obtain rfl : k = bs.length := by omega
      rw [List.take_length]
      clear hB
      go_wp2_with fail
      go_ret
      exact ⟨rfl, HB.out⟩
end Go.Proofs.YtfpehakllnkaeaaDoor
