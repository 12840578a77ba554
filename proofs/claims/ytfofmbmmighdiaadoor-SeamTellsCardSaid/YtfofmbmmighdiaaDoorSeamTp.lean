
/- Seam, plain: for right robots the reference's Hear makes what the program's makes. -/
import Derived.Test.YtfofmbmmighdiaaDoorSeamRc
import Derived.Test.YtfofmbmmighdiaaDoorSeamP
set_option linter.unusedSimpArgs false
set_option linter.unusedVariables false
namespace Go.Proofs.YtfofmbmmighdiaaDoor
open Go.RowKit Go.IntWalk

theorem hearR1_0 {M : Int} {r : Rob} (h : RobOK M r) (i no : Int) (take : Bool) : hearR1 r (0, i, no) take = ((offeredL r no take).1, (if (offeredL r no take).2.1 < 0 then (0, 0, 0) else ((offeredL r no take).2.1, i, no)), decide (0 ≤ (offeredL r no take).2.1), (offeredL r no take).2.2) := by
  obtain ⟨p, n, f⟩ := r
  have hp := h.p
  have hf := h.f
  simp only at hp hf
  have hp3 : p = 0 ∨ p = 1 ∨ p = 2 := by omega
  rcases Int.lt_trichotomy no n with hn | hn | hn
  · have h1 : ¬ n < no := by omega
    have h2 : no ≠ n := by omega
    simp [hearR1, offeredL, h1, h2, hn]
  · subst hn
    have h1 : ¬ no < no := by omega
    rcases hp3 with rfl | rfl | rfl
    · cases f <;> simp [hearR1, offeredL]
    · cases f with
      | true => simp at hf
      | false => simp [hearR1, offeredL]
    · cases f with
      | true => simp at hf
      | false => simp [hearR1, offeredL]
  · have h1 : ¬ no < n := by omega
    have h2 : n < no := hn
    rcases hp3 with rfl | rfl | rfl <;> cases take <;> simp [hearR1, offeredL, h1, h2]
theorem hearR1_1 {M : Int} {r : Rob} (h : RobOK M r) (i no : Int) (take : Bool) : hearR1 r (1, i, no) take = (takenL r no, (0, 0, 0), false, 0) := by
  obtain ⟨p, n, f⟩ := r
  by_cases hn : no = n
  · subst hn
    by_cases hp : p = 2 <;> simp [hearR1, takenL, hp]
  · simp [hearR1, takenL, hn, Ne.symm hn]
theorem hearR1_2 {M : Int} {r : Rob} (h : RobOK M r) (i no : Int) (take : Bool) : hearR1 r (2, i, no) take = (keptL r no, (0, 0, 0), false, 0) := by
  obtain ⟨p, n, f⟩ := r
  have hf := h.f
  simp only at hf
  by_cases hn : no = n
  · subst hn
    by_cases hp : p = 2
    · subst hp
      cases f with
      | true => simp at hf
      | false => simp [hearR1, keptL]
    · simp [hearR1, keptL, hp]
  · simp [hearR1, keptL, hn, Ne.symm hn]
theorem hearR_eq {M : Int} {rs : List Rob} (hM : 0 ≤ M) (h : ∀ r ∈ rs, RobOK M r) (p : Pas) (take : Bool) : hearR rs p take = hearL rs p take := by
  obtain ⟨k, i, no⟩ := p
  have hr := getR_ok hM h i
  unfold hearR hearL
  simp only
  by_cases hi : i < 0 ∨ (rs.length : Int) ≤ i
  · rw [if_pos (by omega), if_pos hi]
  · by_cases k0 : k = 0
    · subst k0
      rw [if_neg (by omega), if_neg hi, if_pos rfl, hearR1_0 hr]
    · by_cases k1 : k = 1
      · subst k1
        rw [if_neg (by omega), if_neg hi, if_neg (by decide), if_pos rfl, hearR1_1 hr]
      · by_cases k2 : k = 2
        · subst k2
          rw [if_neg (by omega), if_neg hi, if_neg (by decide), if_neg (by decide), if_pos rfl, hearR1_2 hr]
        · rw [if_pos (by omega), if_neg hi, if_neg k0, if_neg k1, if_neg k2]
end Go.Proofs.YtfofmbmmighdiaaDoor
