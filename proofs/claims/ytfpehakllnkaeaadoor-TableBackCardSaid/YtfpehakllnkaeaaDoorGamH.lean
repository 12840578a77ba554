
/- Game: easier. -/
import Derived.Test.YtfpehakllnkaeaaDoorGamG
set_option linter.unusedSimpArgs false
set_option linter.unusedVariables false
namespace Go.Proofs.YtfpehakllnkaeaaDoor
open Go.RowKit Go.IntWalk

def EasyAt (a b : List Int) (i : Nat) : Prop := ¬ (0 ≤ b.getD i 0 ∧ (a.getD i 0 < 0 ∨ b.getD i 0 < a.getD i 0))
/-- No rank of a is greater than that of b. -/
def Easy (a b : List Int) : Prop := a.length = b.length ∧ ∀ i, i < b.length → EasyAt a b i
end Go.Proofs.YtfpehakllnkaeaaDoor
