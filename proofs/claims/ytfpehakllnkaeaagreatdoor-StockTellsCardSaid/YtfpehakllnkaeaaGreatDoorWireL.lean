
/- Wire: the reader's Nums. -/
import Derived.Test.YtfpehakllnkaeaaGreatDoorWireK
set_option linter.unusedSimpArgs false
set_option linter.unusedVariables false
namespace Go.Proofs.YtfpehakllnkaeaaGreatDoor
open Go.RowKit Go.IntWalk

end Go.Proofs.YtfpehakllnkaeaaGreatDoor
