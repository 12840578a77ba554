
/- Layouts: arguments of the tied laws, opened. -/
import Derived.Test.YtnnephifjikkdaaDoorTied
set_option linter.unusedSimpArgs false
set_option linter.unusedVariables false
namespace Go.Proofs.YtnnephifjikkdaaDoor
open Go.RowKit Go.IntWalk Go.ChangeShapes Go.WideShapes

set_option maxRecDepth 100000 in
theorem opLayout : Opens Tryd.prog 24 (List Bool × Int) :=
  opens_pair Tryd.underlying24 (by kernel_rfl) (opens_list Tryd.underlying22 (by kernel_rfl) (by decide) (opens_bool Tryd.underlying4 (by kernel_rfl))) (opens_int Tryd.underlying3 (by kernel_rfl)) rfl rfl
theorem layout_rep {w : World} {B : Nat} {cs : List Value} {x : List Bool × Int} (h : Rep.rep w B cs x) : ∃ A c, cs = [.slice A x.1.length c, .int .i64 x.2] ∧ x.1.length ≤ maxLen ∧ SlR w B A x.1 ∧ I64 x.2 := by
  obtain ⟨c1, c2, rfl, _, _, ⟨A, c, rfl, h1, h2, h3⟩, rfl, h0⟩ := h
  exact ⟨A, c, rfl, Nat.le_trans h1 h2, h3, h0⟩
end Go.Proofs.YtnnephifjikkdaaDoor
