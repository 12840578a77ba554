
/- Stock: arguments of the tied laws, opened. -/
import Derived.Test.YtfpehakllnkaeaaDoorTied
import Derived.Test.YtfpehakllnkaeaaDoorStkA
set_option linter.unusedSimpArgs false
set_option linter.unusedVariables false
namespace Go.Proofs.YtfpehakllnkaeaaDoor
open Go.RowKit Go.IntWalk Go.ChangeShapes Go.WideShapes

set_option maxRecDepth 100000 in
theorem opBool : Opens Tryd.prog 4 Bool := opens_bool Tryd.underlying4 (by kernel_rfl)
set_option maxRecDepth 100000 in
theorem opKind : Opens Tryd.prog 42 Kd := opens_struct Tryd.underlying42 (by kernel_rfl) (opensFs_cons opStr rfl (opensFs_one opInt rfl))
set_option maxRecDepth 100000 in
theorem opLot : Opens Tryd.prog 44 Lt := opens_struct Tryd.underlying44 (by kernel_rfl) (opensFs_cons opInt rfl (opensFs_cons opInt rfl (opensFs_one opBool rfl)))
set_option maxRecDepth 100000 in
theorem opBox : Opens Tryd.prog 46 Bx := opens_struct Tryd.underlying46 (by kernel_rfl) (opensFs_cons opInt rfl (opensFs_cons opInt rfl (opensFs_one opInt rfl)))
set_option maxRecDepth 100000 in
theorem opWant : Opens Tryd.prog 54 Wt := opens_struct Tryd.underlying54 (by kernel_rfl) (opensFs_cons opInt rfl (opensFs_cons opInt rfl (opensFs_one opInt rfl)))
set_option maxRecDepth 100000 in
theorem opTake : Opens Tryd.prog 58 Tk := opens_struct Tryd.underlying58 (by kernel_rfl) (opensFs_cons opInt rfl (opensFs_one opInt rfl))
set_option maxRecDepth 100000 in
theorem opKinds : Opens Tryd.prog 22 (List Kd) := opens_list Tryd.underlying22 (by kernel_rfl) (by decide) opKind
set_option maxRecDepth 100000 in
theorem opLots : Opens Tryd.prog 23 (List Lt) := opens_list Tryd.underlying23 (by kernel_rfl) (by decide) opLot
set_option maxRecDepth 100000 in
theorem opBoxes : Opens Tryd.prog 24 (List Bx) := opens_list Tryd.underlying24 (by kernel_rfl) (by decide) opBox
set_option maxRecDepth 100000 in
theorem opWants : Opens Tryd.prog 51 (List Wt) := opens_list Tryd.underlying51 (by kernel_rfl) (by decide) opWant
set_option maxRecDepth 100000 in
theorem opTakes : Opens Tryd.prog 59 (List Tk) := opens_list Tryd.underlying59 (by kernel_rfl) (by decide) opTake
set_option maxRecDepth 100000 in
theorem opStock : Opens Tryd.prog 26 (List Kd × List Lt × List Bx) := opens_struct Tryd.underlying26 (by kernel_rfl) (opensFs_cons opKinds rfl (opensFs_cons opLots rfl (opensFs_one opBoxes rfl)))
theorem stock_rep {w : World} {cs : List Value} {x : List Kd × List Lt × List Bx} (h : Rep.rep w w.heap.size cs x) : ∃ A B C c d e0, cs = [.slice A x.1.length c, .slice B x.2.1.length d, .slice C x.2.2.length e0] ∧ x.1.length ≤ maxLen ∧ x.2.1.length ≤ maxLen ∧ x.2.2.length ≤ maxLen ∧ SlR w w.heap.size A x.1 ∧ SlR w w.heap.size B x.2.1 ∧ SlR w w.heap.size C x.2.2 := by
  obtain ⟨c1, c2, rfl, _, _, ⟨A, c, rfl, h1, h2, h3⟩, c3, c4, rfl, _, _, ⟨B, d, rfl, h4, h5, h6⟩, C, e, rfl, h7, h8, h9⟩ := h
  exact ⟨A, B, C, c, d, e, rfl, Nat.le_trans h1 h2, Nat.le_trans h4 h5, Nat.le_trans h7 h8, h3, h6, h9⟩
theorem want_rep {w : World} {cs : List Value} {x : Wt} (h : Rep.rep w w.heap.size cs x) : cs = [.int .i64 x.1, .int .i64 x.2.1, .int .i64 x.2.2] ∧ I3 x := by
  obtain ⟨c1, c2, rfl, _, _, ⟨rfl, i0⟩, c3, c4, rfl, _, _, ⟨rfl, i1⟩, rfl, i2⟩ := h
  exact ⟨rfl, i0, i1, i2⟩
end Go.Proofs.YtfpehakllnkaeaaDoor
