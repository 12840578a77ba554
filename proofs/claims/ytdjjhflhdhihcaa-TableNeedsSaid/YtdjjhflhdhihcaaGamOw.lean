
/- Game: arguments of the laws, opened. -/
import Derived.Test.YtdjjhflhdhihcaaOpen
import Derived.Test.YtdjjhflhdhihcaaGamB
set_option linter.unusedSimpArgs false
set_option linter.unusedVariables false
namespace Go.Proofs.Ytdjjhflhdhihcaa
open Go.RowKit Go.IntWalk Go.ChangeShapes Go.WideShapes

theorem own : ownKnob Try.prog.godebug = none := by kernel_rfl
theorem laidOut : laidOutB Try.prog = true := by kernel_rfl
theorem opInt : Opens Try.prog 3 Int := opens_int Try.underlying3 (by kernel_rfl)
theorem opBool : Opens Try.prog 4 Bool := opens_bool Try.underlying4 (by kernel_rfl)
theorem opInts : Opens Try.prog 34 (List Int) := opens_list Try.underlying34 (by kernel_rfl) (by decide) opInt
theorem opBools : Opens Try.prog 22 (List Bool) := opens_list Try.underlying22 (by kernel_rfl) (by decide) opBool
theorem opMove : Opens Try.prog 49 Mv := opens_struct Try.underlying49 (by kernel_rfl) (opensFs_cons opInt rfl (opensFs_one opInts rfl))
theorem opMoves : Opens Try.prog 60 (List Mv) := opens_list Try.underlying60 (by kernel_rfl) (by decide) opMove
theorem opMvs : Opens Try.prog 23 (List (List Mv)) := opens_list Try.underlying23 (by kernel_rfl) (by decide) opMoves
theorem opGame : Opens Try.prog 25 Gm := opens_struct Try.underlying25 (by kernel_rfl) (opensFs_cons opBools rfl (opensFs_one opMvs rfl))
theorem game_rep {w : World} {cs : List Value} {x : Gm} (h : Rep.rep w w.heap.size cs x) : ∃ Ag Am cg cm, cs = [.slice Ag x.1.length cg, .slice Am x.2.length cm] ∧ GmR w w.heap.size Ag Am x := by
  obtain ⟨c1, c2, rfl, _, _, ⟨A, c, rfl, h1, h2, h3⟩, A', c', rfl, h4, h5, h6⟩ := h
  exact ⟨A, A', c, c', rfl, h3, h6, Nat.le_trans h1 h2, Nat.le_trans h4 h5⟩
end Go.Proofs.Ytdjjhflhdhihcaa
