
/- LayoutShifts: arguments of the law, opened. -/
import Derived.Test.YtbelaeellcnpmaaOpen
import Derived.Test.YtbelaeellcnpmaaLshA
set_option linter.unusedSimpArgs false
set_option linter.unusedVariables false
namespace Go.Proofs.Ytbelaeellcnpmaa
open Go.RowKit Go.IntWalk Go.ChangeShapes Go.WideShapes

theorem own : ownKnob Try.prog.godebug = none := by kernel_rfl
theorem laidOut : laidOutB Try.prog = true := by kernel_rfl
theorem opInt : Opens Try.prog 3 Int := opens_int Try.underlying3 (by kernel_rfl)
theorem opBool : Opens Try.prog 4 Bool := opens_bool Try.underlying4 (by kernel_rfl)
theorem opInts : Opens Try.prog 22 (List Int) := opens_list Try.underlying22 (by kernel_rfl) (by decide) opInt
theorem opBools : Opens Try.prog 25 (List Bool) := opens_list Try.underlying25 (by kernel_rfl) (by decide) opBool
set_option maxRecDepth 100000 in
theorem opFloor : Opens Try.prog 24 (Int × Int × Int × List Int × List Int) :=
  opens_struct Try.underlying24 (by kernel_rfl) (opensFs_cons opInt rfl (opensFs_cons opInt rfl (opensFs_cons opInt rfl (opensFs_cons opInts rfl (opensFs_one opInts rfl)))))
set_option maxRecDepth 100000 in
theorem opLayout : Opens Try.prog 27 (List Bool × Int) :=
  opens_struct Try.underlying27 (by kernel_rfl) (opensFs_cons opBools rfl (opensFs_one opInt rfl))
theorem layout_rep {w : World} {B : Nat} {cs : List Value} {x : List Bool × Int} (h : Rep.rep w B cs x) : ∃ A c, cs = [.slice A x.1.length c, .int .i64 x.2] ∧ x.1.length ≤ maxLen ∧ SlR w B A x.1 ∧ I64 x.2 := by
  obtain ⟨c1, c2, rfl, _, _, ⟨A, c, rfl, h1, h2, h3⟩, rfl, h0⟩ := h
  exact ⟨A, c, rfl, Nat.le_trans h1 h2, h3, h0⟩
theorem floor_rep {w : World} {B : Nat} {cs : List Value} {x : Int × Int × Int × List Int × List Int} (h : Rep.rep w B cs x) : ∃ Ak Ao ck co, cs = [.int .i64 x.1, .int .i64 x.2.1, .int .i64 x.2.2.1, .slice Ak x.2.2.2.1.length ck, .slice Ao x.2.2.2.2.length co] ∧ x.2.2.2.1.length ≤ maxLen ∧ x.2.2.2.2.length ≤ maxLen ∧ SlR w B Ak x.2.2.2.1 ∧ SlR w B Ao x.2.2.2.2 := by
  obtain ⟨c1, c2, rfl, _, _, ⟨rfl, _⟩, c3, c4, rfl, _, _, ⟨rfl, _⟩, c5, c6, rfl, _, _, ⟨rfl, _⟩, c7, c8, rfl, _, _, ⟨A, c, rfl, h1, h2, h3⟩, A', c', rfl, h4, h5, h6⟩ := h
  exact ⟨A, A', c, c', rfl, Nat.le_trans h1 h2, Nat.le_trans h4 h5, h3, h6⟩
end Go.Proofs.Ytbelaeellcnpmaa
