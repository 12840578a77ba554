
/- Stock: arguments of the laws, opened. -/
import Derived.Test.YtmffdhfpfijocaaOpen
import Derived.Test.YtmffdhfpfijocaaStkA
set_option linter.unusedSimpArgs false
set_option linter.unusedVariables false
namespace Go.Proofs.Ytmffdhfpfijocaa
open Go.RowKit Go.IntWalk Go.ChangeShapes Go.WideShapes

theorem own : ownKnob Try.prog.godebug = none := by kernel_rfl
theorem laidOut : laidOutB Try.prog = true := by kernel_rfl
theorem opens_str {P : Program} {t : TypeId} (ht : P.underlying t = some .string) (hc : P.cellsOf t = 1) : Opens P t ByteArray := by
  refine ⟨hc, fun h => ?_⟩
  obtain ⟨s, rfl, _, hs⟩ := DataW.trod_string ht h
  exact ⟨s, rfl, hs⟩
theorem opInt : Opens Try.prog 3 Int := opens_int Try.underlying3 (by kernel_rfl)
theorem opBool : Opens Try.prog 4 Bool := opens_bool Try.underlying4 (by kernel_rfl)
theorem opStr : Opens Try.prog 9 ByteArray := opens_str Try.underlying9 (by kernel_rfl)
theorem opKind : Opens Try.prog 53 Kd := opens_struct Try.underlying53 (by kernel_rfl) (opensFs_cons opStr rfl (opensFs_one opInt rfl))
theorem opLot : Opens Try.prog 40 Lt := opens_struct Try.underlying40 (by kernel_rfl) (opensFs_cons opInt rfl (opensFs_cons opInt rfl (opensFs_one opBool rfl)))
theorem opBox : Opens Try.prog 38 Bx := opens_struct Try.underlying38 (by kernel_rfl) (opensFs_cons opInt rfl (opensFs_cons opInt rfl (opensFs_one opInt rfl)))
theorem opWant : Opens Try.prog 43 Wt := opens_struct Try.underlying43 (by kernel_rfl) (opensFs_cons opInt rfl (opensFs_cons opInt rfl (opensFs_one opInt rfl)))
theorem opTake : Opens Try.prog 36 Tk := opens_struct Try.underlying36 (by kernel_rfl) (opensFs_cons opInt rfl (opensFs_one opInt rfl))
theorem opKinds : Opens Try.prog 22 (List Kd) := opens_list Try.underlying22 (by kernel_rfl) (by decide) opKind
theorem opLots : Opens Try.prog 23 (List Lt) := opens_list Try.underlying23 (by kernel_rfl) (by decide) opLot
theorem opBoxes : Opens Try.prog 24 (List Bx) := opens_list Try.underlying24 (by kernel_rfl) (by decide) opBox
theorem opWants : Opens Try.prog 27 (List Wt) := opens_list Try.underlying27 (by kernel_rfl) (by decide) opWant
theorem opTakes : Opens Try.prog 34 (List Tk) := opens_list Try.underlying34 (by kernel_rfl) (by decide) opTake
theorem opStock : Opens Try.prog 26 (List Kd × List Lt × List Bx) := opens_struct Try.underlying26 (by kernel_rfl) (opensFs_cons opKinds rfl (opensFs_cons opLots rfl (opensFs_one opBoxes rfl)))
theorem stock_rep {w : World} {cs : List Value} {x : List Kd × List Lt × List Bx} (h : Rep.rep w w.heap.size cs x) : ∃ A B C c d e0, cs = [.slice A x.1.length c, .slice B x.2.1.length d, .slice C x.2.2.length e0] ∧ x.1.length ≤ maxLen ∧ x.2.1.length ≤ maxLen ∧ x.2.2.length ≤ maxLen ∧ SlR w w.heap.size A x.1 ∧ SlR w w.heap.size B x.2.1 ∧ SlR w w.heap.size C x.2.2 := by
  obtain ⟨c1, c2, rfl, _, _, ⟨A, c, rfl, h1, h2, h3⟩, c3, c4, rfl, _, _, ⟨B, d, rfl, h4, h5, h6⟩, C, e, rfl, h7, h8, h9⟩ := h
  exact ⟨A, B, C, c, d, e, rfl, Nat.le_trans h1 h2, Nat.le_trans h4 h5, Nat.le_trans h7 h8, h3, h6, h9⟩
theorem want_rep {w : World} {cs : List Value} {x : Wt} (h : Rep.rep w w.heap.size cs x) : cs = [.int .i64 x.1, .int .i64 x.2.1, .int .i64 x.2.2] ∧ I3 x := by
  obtain ⟨c1, c2, rfl, _, _, ⟨rfl, i0⟩, c3, c4, rfl, _, _, ⟨rfl, i1⟩, rfl, i2⟩ := h
  exact ⟨rfl, i0, i1, i2⟩
end Go.Proofs.Ytmffdhfpfijocaa
