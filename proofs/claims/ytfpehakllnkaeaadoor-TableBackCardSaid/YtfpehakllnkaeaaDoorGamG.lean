
/- Game: given, most, easier. -/
import Derived.Test.YtfpehakllnkaeaaDoorGamF
set_option linter.unusedSimpArgs false
set_option linter.unusedVariables false
namespace Go.Proofs.YtfpehakllnkaeaaDoor
open Go.RowKit Go.IntWalk

/-- The greatest rank of the positions of a move; -1, if one of them has none, or is no position. -/
def mostG (R : List Int) : Int → List Int → Int
  | acc, [] => acc
  | acc, t :: r => if t < 0 ∨ (R.length : Int) ≤ t then -1 else if R.getD t.toNat 0 < 0 then -1 else mostG R (max acc (R.getD t.toNat 0)) r
end Go.Proofs.YtfpehakllnkaeaaDoor
