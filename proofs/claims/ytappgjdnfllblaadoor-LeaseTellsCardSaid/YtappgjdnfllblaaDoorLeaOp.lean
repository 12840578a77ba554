
/- Lease: the calls, opened. -/
import Derived.Test.YtappgjdnfllblaaDoorLzC
import Derived.Test.YtappgjdnfllblaaDoorLrE
set_option linter.unusedSimpArgs false
set_option linter.unusedVariables false
namespace Go.Proofs.YtappgjdnfllblaaDoor
open Go.RowKit Go.IntWalk Go.ChangeShapes Go.WideShapes

set_option maxRecDepth 100000 in
theorem opNote : Opens Tryd.prog 26 P4 :=
  opens_struct Tryd.underlying26 (by kernel_rfl) (opensFs_cons opInt rfl (opensFs_cons opInt rfl (opensFs_cons opInt rfl (opensFs_one opInt rfl))))
set_option maxRecDepth 100000 in
theorem opOpl : Opens Tryd.prog 41 Opl :=
  opens_struct Tryd.underlying41 (by kernel_rfl) (opensFs_cons opInt rfl (opensFs_cons opInt rfl (opensFs_cons opInt rfl (opensFs_cons opInt rfl (opensFs_one opNote rfl)))))
set_option maxRecDepth 100000 in
theorem opOps : Opens Tryd.prog 22 (List Opl) := opens_list Tryd.underlying22 (by kernel_rfl) (by decide) opOpl
end Go.Proofs.YtappgjdnfllblaaDoor
