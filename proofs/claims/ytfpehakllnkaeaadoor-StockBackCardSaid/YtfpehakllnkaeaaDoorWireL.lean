
/- Wire: the reader's Nums. -/
import Derived.Test.YtfpehakllnkaeaaDoorWireK
set_option linter.unusedSimpArgs false
set_option linter.unusedVariables false
namespace Go.Proofs.YtfpehakllnkaeaaDoor
open Go.RowKit Go.IntWalk

end Go.Proofs.YtfpehakllnkaeaaDoor
