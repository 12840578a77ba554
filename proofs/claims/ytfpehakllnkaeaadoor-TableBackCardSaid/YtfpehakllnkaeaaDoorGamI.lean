
/- Game: slices.IndexFunc and ContainsFunc with a closure; the closures of good and Answer. -/
import Derived.Test.YtfpehakllnkaeaaDoorGamH
set_option linter.unusedSimpArgs false
set_option linter.unusedVariables false
namespace Go.Proofs.YtfpehakllnkaeaaDoor
open Go.RowKit Go.IntWalk

/-- What IndexFunc returns. -/
def IxR (f : Nat → Bool) (n : Nat) (r : Int) : Prop := (∃ k, k < n ∧ r = k ∧ f k = true ∧ ∀ j, j < k → f j = false) ∨ (r = -1 ∧ ∀ j, j < n → f j = false)
theorem IxR.uniq {f : Nat → Bool} {n : Nat} {r s : Int} (h : IxR f n r) (h' : IxR f n s) : r = s := by
  rcases h with ⟨k, hk, rfl, h1, h2⟩ | ⟨rfl, h1⟩ <;> rcases h' with ⟨k', hk', rfl, h1', h2'⟩ | ⟨rfl, h1'⟩
  · rcases Nat.lt_trichotomy k k' with hx | hx | hx
    · have := h2' k hx; rw [h1] at this; cases this
    · rw [hx]
    · have := h2 k' hx; rw [h1'] at this; cases this
  · have := h1' k hk; rw [h1] at this; cases this
  · have := h1 k' hk'; rw [h1'] at this; cases this
  · rfl
theorem IxR.step {f : Nat → Bool} {k : Nat} (h : ∀ j, j < k → f j = false) (hk : f k = false) : ∀ j, j < k + 1 → f j = false := fun j hj => by
  by_cases e : j = k
  · subst e; exact hk
  · exact h j (by omega)
end Go.Proofs.YtfpehakllnkaeaaDoor
