
/- Seam: arguments of the tied laws, opened. -/
import Derived.Test.YtfofmbmmighdiaaDoorTied
import Derived.Test.YtfofmbmmighdiaaDoorOpen
import Derived.Test.YtfofmbmmighdiaaDoorSeamK
set_option linter.unusedSimpArgs false
set_option linter.unusedVariables false
namespace Go.Proofs.YtfofmbmmighdiaaDoor
open Go.RowKit Go.IntWalk Go.ChangeShapes Go.WideShapes

theorem opBool : Opens Tryd.prog 4 Bool := opens_bool Tryd.underlying4 (by kernel_rfl)
theorem opBools : Opens Tryd.prog 22 (List Bool) := opens_list Tryd.underlying22 (by kernel_rfl) (by decide) opBool
set_option maxRecDepth 100000 in
theorem opPass : Opens Tryd.prog 27 Pas :=
  opens_struct Tryd.underlying27 (by kernel_rfl) (opensFs_cons opInt rfl (opensFs_cons opInt rfl (opensFs_one opInt rfl)))
set_option maxRecDepth 100000 in
theorem opOp : Opens Tryd.prog 40 Opp :=
  opens_struct Tryd.underlying40 (by kernel_rfl) (opensFs_cons opInt rfl (opensFs_cons opPass rfl (opensFs_one opBool rfl)))
theorem opOps : Opens Tryd.prog 23 (List Opp) := opens_list Tryd.underlying23 (by kernel_rfl) (by decide) opOp
end Go.Proofs.YtfofmbmmighdiaaDoor
