
/- Robots: arguments of the tied laws, opened. -/
import Derived.Test.YtnnephifjikkdaaGreatDoorTied
import Derived.Test.YtnnephifjikkdaaGreatDoorOpen
set_option linter.unusedSimpArgs false
set_option linter.unusedVariables false
namespace Go.Proofs.YtnnephifjikkdaaGreatDoor
open Go.RowKit Go.IntWalk Go.ChangeShapes Go.WideShapes

set_option maxRecDepth 100000 in
theorem opMind : Opens Tryz.prog 48 (Int × List Int) :=
  opens_struct Tryz.underlying48 (by kernel_rfl) (opensFs_cons opInt rfl (opensFs_one opInts rfl))
set_option maxRecDepth 100000 in
theorem opFloor : Opens Tryz.prog 24 (Int × Int × Int × List Int × List Int) :=
  opens_struct Tryz.underlying24 (by kernel_rfl) (opensFs_cons opInt rfl (opensFs_cons opInt rfl (opensFs_cons opInt rfl (opensFs_cons opInts rfl (opensFs_one opInts rfl)))))
theorem mind_rep {w : World} {B : Nat} {cs : List Value} {x : Int × List Int} (h : Rep.rep w B cs x) : ∃ A c, cs = [.int .i64 x.1, .slice A x.2.length c] ∧ x.2.length ≤ maxLen ∧ SlR w B A x.2 ∧ I64 x.1 := by
  obtain ⟨c1, c2, rfl, _, _, ⟨rfl, h0⟩, A, c, rfl, h1, h2, h3⟩ := h
  exact ⟨A, c, rfl, Nat.le_trans h1 h2, h3, h0⟩
theorem floor_rep {w : World} {B : Nat} {cs : List Value} {x : Int × Int × Int × List Int × List Int} (h : Rep.rep w B cs x) : ∃ Ak Ao ck co, cs = [.int .i64 x.1, .int .i64 x.2.1, .int .i64 x.2.2.1, .slice Ak x.2.2.2.1.length ck, .slice Ao x.2.2.2.2.length co] ∧ x.2.2.2.1.length ≤ maxLen ∧ x.2.2.2.2.length ≤ maxLen ∧ SlR w B Ak x.2.2.2.1 ∧ SlR w B Ao x.2.2.2.2 := by
  obtain ⟨c1, c2, rfl, _, _, ⟨rfl, _⟩, c3, c4, rfl, _, _, ⟨rfl, _⟩, c5, c6, rfl, _, _, ⟨rfl, _⟩, c7, c8, rfl, _, _, ⟨A, c, rfl, h1, h2, h3⟩, A', c', rfl, h4, h5, h6⟩ := h
  exact ⟨A, A', c, c', rfl, Nat.le_trans h1 h2, Nat.le_trans h4 h5, h3, h6⟩
end Go.Proofs.YtnnephifjikkdaaGreatDoor
