
/- Wire: the reader's Texts. -/
import Derived.Test.YtbefmjodpndndaaDoorWireM
import Derived.Test.YtbefmjodpndndaaDoorWireL
set_option linter.unusedSimpArgs false
set_option linter.unusedVariables false
namespace Go.Proofs.YtbefmjodpndndaaDoor
open Go.RowKit Go.IntWalk

end Go.Proofs.YtbefmjodpndndaaDoor
