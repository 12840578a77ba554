
/- Seam: the acts, opened. -/
import Derived.Test.YtfofmbmmighdiaaDoorSeamNk
import Derived.Test.YtfofmbmmighdiaaDoorSeamOw
set_option linter.unusedSimpArgs false
set_option linter.unusedVariables false
namespace Go.Proofs.YtfofmbmmighdiaaDoor
open Go.RowKit Go.IntWalk Go.ChangeShapes Go.WideShapes

set_option maxRecDepth 100000 in
theorem opAct : Opens Tryd.prog 62 Ac :=
  opens_struct Tryd.underlying62 (by kernel_rfl) (opensFs_cons opInt rfl (opensFs_cons opInt rfl (opensFs_cons opInt rfl (opensFs_one opInt rfl))))
theorem opActs : Opens Tryd.prog 57 (List Ac) := opens_list Tryd.underlying57 (by kernel_rfl) (by decide) opAct
end Go.Proofs.YtfofmbmmighdiaaDoor
