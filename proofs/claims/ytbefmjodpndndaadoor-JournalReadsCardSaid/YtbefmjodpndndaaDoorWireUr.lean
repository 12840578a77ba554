
/- Wire: the reference reader's Int and Num, each in one contract for success and failure. -/
import Derived.Test.YtbefmjodpndndaaDoorWire5
import Derived.Test.YtbefmjodpndndaaDoorWireUni
set_option linter.unusedSimpArgs false
set_option linter.unusedVariables false
namespace Go.Proofs.YtbefmjodpndndaaDoor
open Go.RowKit Go.IntWalk

end Go.Proofs.YtbefmjodpndndaaDoor
