
/- Seam: arguments of the tied laws, opened. -/
import Derived.Test.YtnnephifjikkdaaDoorTied
import Derived.Test.YtnnephifjikkdaaDoorOpen
import Derived.Test.YtnnephifjikkdaaDoorSeamK
set_option linter.unusedSimpArgs false
set_option linter.unusedVariables false
namespace Go.Proofs.YtnnephifjikkdaaDoor
open Go.RowKit Go.IntWalk Go.ChangeShapes Go.WideShapes

theorem opBool : Opens Tryd.prog 4 Bool := opens_bool Tryd.underlying4 (by kernel_rfl)
theorem opBools : Opens Tryd.prog 22 (List Bool) := opens_list Tryd.underlying22 (by kernel_rfl) (by decide) opBool
set_option maxRecDepth 100000 in
theorem opPass : Opens Tryd.prog 48 Pas :=
  opens_struct Tryd.underlying48 (by kernel_rfl) (opensFs_cons opInt rfl (opensFs_cons opInt rfl (opensFs_one opInt rfl)))
set_option maxRecDepth 100000 in
theorem opOp : Opens Tryd.prog 53 Opp :=
  opens_struct Tryd.underlying53 (by kernel_rfl) (opensFs_cons opInt rfl (opensFs_cons opPass rfl (opensFs_one opBool rfl)))
theorem opOps : Opens Tryd.prog 43 (List Opp) := opens_list Tryd.underlying43 (by kernel_rfl) (by decide) opOp
end Go.Proofs.YtnnephifjikkdaaDoor
