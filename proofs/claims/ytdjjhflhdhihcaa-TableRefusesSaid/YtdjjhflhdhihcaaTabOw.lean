
/- Table: arguments of the laws, opened. -/
import Derived.Test.YtdjjhflhdhihcaaGamOw
import Derived.Test.YtdjjhflhdhihcaaGamM
set_option linter.unusedSimpArgs false
set_option linter.unusedVariables false
namespace Go.Proofs.Ytdjjhflhdhihcaa
open Go.RowKit Go.IntWalk Go.ChangeShapes Go.WideShapes

theorem opRow : Opens Try.prog 33 Row := opens_struct Try.underlying33 (by kernel_rfl) (opensFs_cons opInt rfl (opensFs_cons opInt rfl (opensFs_one opInt rfl)))
theorem opRows : Opens Try.prog 26 (List Row) := opens_list Try.underlying26 (by kernel_rfl) (by decide) opRow
end Go.Proofs.Ytdjjhflhdhihcaa
