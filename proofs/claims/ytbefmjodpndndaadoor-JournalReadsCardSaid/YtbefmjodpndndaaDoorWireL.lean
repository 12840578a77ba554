
/- Wire: the reader's Nums. -/
import Derived.Test.YtbefmjodpndndaaDoorWireK
set_option linter.unusedSimpArgs false
set_option linter.unusedVariables false
namespace Go.Proofs.YtbefmjodpndndaaDoor
open Go.RowKit Go.IntWalk

end Go.Proofs.YtbefmjodpndndaaDoor
