
/- Lease: the acts, opened. -/
import Derived.Test.YtappgjdnfllblaaDoorLzC
import Derived.Test.YtappgjdnfllblaaDoorLeaTb
set_option linter.unusedSimpArgs false
set_option linter.unusedVariables false
namespace Go.Proofs.YtappgjdnfllblaaDoor
open Go.RowKit Go.IntWalk Go.ChangeShapes Go.WideShapes

set_option maxRecDepth 100000 in
theorem opAct : Opens Tryd.prog 64 Ac :=
  opens_struct Tryd.underlying64 (by kernel_rfl) (opensFs_cons opInt rfl (opensFs_cons opInt rfl (opensFs_cons opInt rfl (opensFs_one opInt rfl))))
set_option maxRecDepth 100000 in
theorem opActs : Opens Tryd.prog 59 (List Ac) := opens_list Tryd.underlying59 (by kernel_rfl) (by decide) opAct
end Go.Proofs.YtappgjdnfllblaaDoor
