
/- Wire: the reader's Nums. -/
import Derived.Test.YtfofmbmmighdiaaDoorWireK
set_option linter.unusedSimpArgs false
set_option linter.unusedVariables false
namespace Go.Proofs.YtfofmbmmighdiaaDoor
open Go.RowKit Go.IntWalk

end Go.Proofs.YtfofmbmmighdiaaDoor
