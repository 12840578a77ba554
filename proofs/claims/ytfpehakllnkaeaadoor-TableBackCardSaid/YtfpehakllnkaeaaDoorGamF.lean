
/- Game: the reference's Ints and Few. -/
import Derived.Test.YtfpehakllnkaeaaDoorGamB
set_option linter.unusedSimpArgs false
set_option linter.unusedVariables false
namespace Go.Proofs.YtfpehakllnkaeaaDoor
open Go.RowKit Go.IntWalk

theorem take_snoc_eq {α : Type} {l m : List α} {k : Nat} (hl : k < l.length) (hm : k < m.length) (h : l.take k = m.take k) (he : l[k] = m[k]) : l.take (k + 1) = m.take (k + 1) := by
  rw [List.take_add_one, List.take_add_one, List.getElem?_eq_getElem hl, List.getElem?_eq_getElem hm, h, he]
theorem take_snoc_ne {α : Type} {l m : List α} {k : Nat} (hl : k < l.length) (hm : k < m.length) (he : l[k] ≠ m[k]) : l ≠ m := fun e => he (by subst e; rfl)
abbrev fewM (l : List Mv) : Bool := decide (l.length ≤ 12) && l.all (fun m => decide (m.2.length ≤ 12))
/-- At most n positions, 12 moves in each of them, 12 answers. -/
def fewL (g : Gm) (n : Int) : Bool := g.2.all fewM && decide ((g.2.length : Int) ≤ n) && decide ((g.1.length : Int) ≤ n)
end Go.Proofs.YtfpehakllnkaeaaDoor
