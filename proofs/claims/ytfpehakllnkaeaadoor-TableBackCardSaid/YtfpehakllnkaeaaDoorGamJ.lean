
/- Game: the closures of good and Answer; good. -/
import Derived.Test.YtfpehakllnkaeaaDoorGamI
import Derived.Shelf.Abstract
import Derived.Laws.EntriesVeiled
set_option linter.unusedSimpArgs false
set_option linter.unusedVariables false
namespace Go.Proofs.YtfpehakllnkaeaaDoor
open Go.RowKit Go.IntWalk Go.Shelf

/-- The closure 'bad' of good. -/
def badF (R : List Int) (p : Nat) (x : Int) : Bool := decide (R.getD x.toNat 0 < 0) || decide (R.getD p 0 ≤ R.getD x.toNat 0)
/-- Is the j-th move of a position good? -/
def gdF (R : List Int) (p : Nat) (l : List Mv) (j : Nat) : Bool := !(l.getD j (0, [])).2.any (badF R p)
end Go.Proofs.YtfpehakllnkaeaaDoor
