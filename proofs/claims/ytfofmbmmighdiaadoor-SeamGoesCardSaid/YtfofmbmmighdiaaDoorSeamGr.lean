
/- Seam, plain: all that was offered is offered again. -/
import Derived.Test.YtfofmbmmighdiaaDoorSeamGq
set_option linter.unusedSimpArgs false
set_option linter.unusedVariables false
namespace Go.Proofs.YtfofmbmmighdiaaDoor
open Go.RowKit Go.IntWalk

theorem Inv.mono {M M' : Int} {n : Nat} {ra rb : List Rob} {F : List Pk} {sp : Int} (h : Inv M n ra rb F sp) (hM : M ≤ M') : Inv M' n ra rb F sp :=
  ⟨⟨h.t.lx, h.t.ly, fun r hr => (h.t.ox r hr).mono hM, fun r hr => (h.t.oy r hr).mono hM, h.t.sh⟩, h.f, h.l, h.s⟩
/-- The first t robots of the side of x are offered again, if they are offered. -/
def Off (x : List Rob) (F : List Pk) (sd : Int) (t : Nat) : Prop := ∀ r : Int, 0 ≤ r → r < t → (getR x r).1 = 2 → toS F sd r 0 (getR x r).2.1
theorem Off.zero (x : List Rob) (F : List Pk) (sd : Int) : Off x F sd 0 := fun r h0 h1 _ => by omega
theorem Off.app {x : List Rob} {F : List Pk} {sd : Int} {t : Nat} (h : Off x F sd t) (p : Pk) : Off x (F ++ [p]) sd t := fun r h0 h1 h2 => by
  obtain ⟨q, hq, e⟩ := h r h0 h1 h2
  exact ⟨q, List.mem_append_left _ hq, e⟩
theorem Off.step_yes {x : List Rob} {F : List Pk} {sd from_ : Int} {t : Nat} (h : Off x F sd t) (h2 : (againL x t).2 = 0) (i1 : I64 (t : Int)) (i2 : I64 (getR x t).2.1) : Off x (F ++ [(from_, sd, bs (encP (againL x t).1))]) sd (t + 1) := by
  intro r h0 h1 h3
  by_cases e : r = t
  · subst e
    refine ⟨(from_, sd, bs (encP (againL x t).1)), by simp, rfl, ?_⟩
    have ea : (againL x t).1 = (0, (t : Int), (getR x t).2.1) := by
      unfold againL at h2 ⊢
      split at h2
      · simp at h2
      · rename_i hc
        rw [if_neg hc]
        rw [if_neg (by simp [h3])]
    rw [ea, dec_enc from_ sd (0, (t : Int), (getR x t).2.1) (by simp [I64]) i1 i2]
  · exact h.app _ r h0 (by omega) h3
theorem Off.step_no {x : List Rob} {F : List Pk} {sd : Int} {t : Nat} (h : Off x F sd t) (ht : t < x.length) (h2 : (againL x t).2 ≠ 0) : Off x F sd (t + 1) := by
  intro r h0 h1 h3
  by_cases e : r = t
  · subst e
    exfalso
    apply h2
    unfold againL
    rw [if_neg (by omega), if_neg (by simp [h3])]
  · exact h r h0 (by omega) h3
theorem live_of_off {M : Int} {n : Nat} {ra rb : List Rob} {F : List Pk} (hI : Inv M n ra rb F 0) (ha : Off ra F 1 n) (hb : Off rb F 0 n) : Gl M n ra rb F :=
  ⟨hI, fun i h0 h1 => live_of_shape (hI.t.sh i h0 h1) (ha i h0 h1) (hb i h0 h1)⟩
/-- Each robot is commanded by exactly one controller. -/
def Set1 (n : Nat) (ra rb : List Rob) : Prop := ∀ i : Int, 0 ≤ i → i < n → (getR ra i).2.1 = (getR rb i).2.1 ∧ (((getR ra i).1 = 1 ∧ (getR ra i).2.2 = false ∧ (getR rb i).1 = 0) ∨ ((getR rb i).1 = 1 ∧ (getR rb i).2.2 = false ∧ (getR ra i).1 = 0))
theorem set_of_live {M : Int} {n : Nat} {ra rb : List Rob} (h : Gl M n ra rb []) : Set1 n ra rb := fun i h0 h1 =>
  live_settled (h.l i h0 h1) (fun k n ⟨p, hp, _⟩ => by simp at hp) (fun k n ⟨p, hp, _⟩ => by simp at hp)
theorem wt_le (p : Pk) (F : List Pk) : wtF (F ++ [p]) ≤ wtF F + 2 := by rw [wtF_snoc]; have := (wtP_pos p).2; omega
theorem wt_nil {F : List Pk} (h : F.length = 0) : F = [] := List.eq_nil_of_length_eq_zero h
/-- The last offer: the other one takes it, or does not. -/
theorem last_offer {M : Int} {n : Nat} {x y : List Rob} (hM : 0 ≤ M) (h : Two M x y n) {r : Int} (h0 : 0 ≤ r) (h1 : r < n) (hx : (getR x r).1 = 1) (hy : (getR y r).1 = 0) (he : (getR x r).2.1 = (getR y r).2.1) (take : Bool) :
    ∃ k, offerL x r = (setR x r (2, k + 1, (getR x r).2.2), (0, r, k + 1), 0) ∧ 0 ≤ k ∧ k ≤ M ∧
      hearL y (0, r, k + 1) take = (setR y r (if take then (1, k + 1, false) else (0, k + 1, true)), (if take then 1 else 2, r, k + 1), true, 0) ∧
      hearL (setR x r (2, k + 1, (getR x r).2.2)) (if take then 1 else 2, r, k + 1) take = (setR (setR x r (2, k + 1, (getR x r).2.2)) r (if take then (0, k + 1, false) else (1, k + 1, (getR x r).2.2)), (0, 0, 0), false, 0) := by
  have hl : r < x.length := by rw [h.lx]; exact h1
  have hl2 : r < y.length := by rw [h.ly]; exact h1
  have hok := (getR_ok hM h.ox r).n
  refine ⟨(getR x r).2.1, ?_, hok.1, hok.2, ?_, ?_⟩
  · unfold offerL
    rw [if_neg (by omega), if_neg (by simp [hx])]
  · rw [hearL_eq h0 hl2 (.inl rfl)]
    have e : hear1 (getR y r) 0 ((getR x r).2.1 + 1) take = (if take then ((1, (getR x r).2.1 + 1, false), 1, 0) else ((0, (getR x r).2.1 + 1, true), 2, 0)) := by
      unfold hear1 offeredL
      simp only [if_true]
      rw [if_neg (by omega), if_pos (by omega), if_neg (by omega)]
    simp only
    rw [e]
    cases take <;> simp
  · have hl3 : r < (setR x r (2, (getR x r).2.1 + 1, (getR x r).2.2)).length := by rw [setR_len]; exact hl
    rw [hearL_eq h0 hl3 (by cases take <;> simp)]
    simp only
    rw [getR_set _ h0 hl, if_pos rfl]
    cases take
    · simp [hear1, keptL]
    · simp [hear1, takenL]
end Go.Proofs.YtfofmbmmighdiaaDoor
