
/- Floors: what is right: the reference for any floor, the program for right floors. -/
import Derived.Test.YtgbgcmhmlnmklaaGreatDoorFloE
set_option linter.unusedSimpArgs false
set_option linter.unusedVariables false
namespace Go.Proofs.YtgbgcmhmlnmklaaGreatDoor
open Go.RowKit Go.IntWalk

def okK (x : Int) : Bool := decide (0 ≤ x ∧ x < 7)
def okO (x : Int) : Bool := decide (0 ≤ x ∧ x ≤ 63)
def refR (W H D : Int) (kind out : List Int) : Bool :=
  decide (1 ≤ W ∧ 1 ≤ H ∧ 1 ≤ D ∧ D ≤ 4 ∧ W ≤ 4096 ∧ H ≤ 4096 ∧ W * H * D ≤ 4096 ∧ (kind.length : Int) = W * H * D ∧ (out.length : Int) = W * H * D) && (kind.all okK && out.all okO)
theorem refR_iff {W H D : Int} {kind out : List Int} : refR W H D kind out = true ↔ RF W H D kind out := by
  unfold refR
  simp only [Bool.and_eq_true, decide_eq_true_eq, List.all_eq_true, okK, okO]
  constructor
  · rintro ⟨⟨a1, a2, a3, a4, a5, a6, a7, a8, a9⟩, hk, ho⟩
    exact ⟨⟨a1, a5, a2, a6, a3, a4, a7⟩, a8, a9, hk, ho⟩
  · rintro ⟨⟨a1, a5, a2, a6, a3, a4, a7⟩, a8, a9, hk, ho⟩
    exact ⟨⟨a1, a2, a3, a4, a5, a6, a7, a8, a9⟩, hk, ho⟩
/-- From k on both lists are as they must be. -/
def tailR (kind out : List Int) (k : Nat) : Bool := (kind.drop k).all okK && (out.drop k).all okO
theorem tailR_step {kind out : List Int} {k : Nat} (h1 : k < kind.length) (h2 : k < out.length) : tailR kind out k = ((okK kind[k] && okO out[k]) && tailR kind out (k+1)) := by
  unfold tailR
  rw [List.drop_eq_getElem_cons h1, List.drop_eq_getElem_cons h2]
  simp only [List.all_cons]
  cases okK kind[k] <;> cases okO out[k] <;> simp
theorem tailR_end {kind out : List Int} {k : Nat} (h1 : kind.length ≤ k) (h2 : out.length ≤ k) : tailR kind out k = true := by
  unfold tailR
  rw [List.drop_eq_nil_of_le h1, List.drop_eq_nil_of_le h2]; rfl

end Go.Proofs.YtgbgcmhmlnmklaaGreatDoor
