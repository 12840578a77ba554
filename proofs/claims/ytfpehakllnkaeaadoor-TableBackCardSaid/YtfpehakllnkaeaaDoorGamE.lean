
/- Game: Ranks: a range over the growing queue. -/
import Derived.Test.YtfpehakllnkaeaaDoorGamDa
import Derived.Test.YtfpehakllnkaeaaDoorGamR
import Derived.Shelf.Abstract
import Derived.Shelf.RegionOpen
import Derived.OwnWalkIn
import Derived.TacticsInMore
import Derived.LoopNIn
import Derived.LoopIn
set_option linter.unusedSimpArgs false
set_option linter.unusedVariables false
namespace Go.Proofs.YtfpehakllnkaeaaDoor
open Go.RowKit Go.IntWalk Go.Shelf
attribute [local go_sem] Oper.semAt_some

theorem Blk.offc {W W' : World} {row : Option Nat} {g : Nat} {t : TypeId} {cs : Array Value} (h : Blk W g t cs) (hg : W.grownBy W' row) (hr : ∀ r, row = some r → ∃ o : Obj, W.heap[r]? = some o ∧ o.isCells = false) : Blk W' g t cs :=
  h.grown hg (fun e => by
    obtain ⟨o, ho, hc⟩ := hr g e.symm
    rw [show W.heap[g]? = _ from h] at ho
    injection ho with ho
    subst ho
    simp [Obj.isCells] at hc)
end Go.Proofs.YtfpehakllnkaeaaDoor
