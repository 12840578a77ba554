
/- Game: the worst answer: plain laws. -/
import Derived.Test.YtiaplhdgchbkkaaGamT
set_option linter.unusedSimpArgs false
set_option linter.unusedVariables false
namespace Go.Proofs.Ytiaplhdgchbkkaa
open Go.RowKit Go.IntWalk Go.Shelf

theorem worst_fold {R : List Int} : ∀ (tos : List Int) (a : Int),
    (R.getD a.toNat 0 < 0 → R.getD (tos.foldl (wstep R) a).toNat 0 < 0) ∧ ((∃ t ∈ tos, R.getD t.toNat 0 < 0) → R.getD (tos.foldl (wstep R) a).toNat 0 < 0) ∧
    (0 ≤ R.getD (tos.foldl (wstep R) a).toNat 0 → R.getD a.toNat 0 ≤ R.getD (tos.foldl (wstep R) a).toNat 0 ∧ ∀ t ∈ tos, R.getD t.toNat 0 ≤ R.getD (tos.foldl (wstep R) a).toNat 0)
  | [], a => ⟨fun h => h, fun ⟨t, ht, _⟩ => by simp at ht, fun _ => ⟨Int.le_refl _, fun t ht => by simp at ht⟩⟩
  | x :: tos, a => by
    obtain ⟨h1, h2, h3⟩ := worst_fold tos (wstep R a x)
    simp only [List.foldl_cons]
    have hw : wstep R a x = a ∧ ¬ (0 ≤ R.getD a.toNat 0 ∧ (R.getD x.toNat 0 < 0 ∨ R.getD a.toNat 0 < R.getD x.toNat 0)) ∨ wstep R a x = x ∧ (0 ≤ R.getD a.toNat 0 ∧ (R.getD x.toNat 0 < 0 ∨ R.getD a.toNat 0 < R.getD x.toNat 0)) := by
      unfold wstep
      split
      · rename_i h; exact .inr ⟨rfl, h⟩
      · rename_i h; exact .inl ⟨rfl, h⟩
    rcases hw with ⟨e, hc⟩ | ⟨e, hc⟩ <;> rw [e] at h1 h2 h3 ⊢
    · refine ⟨h1, fun ⟨t, ht, hn⟩ => ?_, fun h => ?_⟩
      · rcases List.mem_cons.1 ht with rfl | ht
        · exact h1 (by omega)
        · exact h2 ⟨t, ht, hn⟩
      · obtain ⟨h4, h5⟩ := h3 h
        refine ⟨h4, fun t ht => ?_⟩
        rcases List.mem_cons.1 ht with rfl | ht
        · have : ¬ R.getD a.toNat 0 < 0 := fun hx => by have := h1 hx; omega
          omega
        · exact h5 t ht
    · refine ⟨fun h => by omega, fun ⟨t, ht, hn⟩ => ?_, fun h => ?_⟩
      · rcases List.mem_cons.1 ht with rfl | ht
        · exact h1 hn
        · exact h2 ⟨t, ht, hn⟩
      · obtain ⟨h4, h5⟩ := h3 h
        have : ¬ R.getD x.toNat 0 < 0 := fun hx => by have := h1 hx; omega
        refine ⟨by omega, fun t ht => ?_⟩
        rcases List.mem_cons.1 ht with rfl | ht
        · exact h4
        · exact h5 t ht
/-- The worst answer: one of the positions, without a rank if one has none, else of the greatest. -/
theorem worst_law {R : List Int} {tos : List Int} (hne : tos ≠ []) : worstL R tos ∈ tos ∧ ((∃ t ∈ tos, R.getD t.toNat 0 < 0) → R.getD (worstL R tos).toNat 0 < 0) ∧ (0 ≤ R.getD (worstL R tos).toNat 0 → ∀ t ∈ tos, 0 ≤ R.getD t.toNat 0 ∧ R.getD t.toNat 0 ≤ R.getD (worstL R tos).toNat 0) := by
  cases tos with
  | nil => exact absurd rfl hne
  | cons a r =>
    obtain ⟨_, h2, h3⟩ := worst_fold (R := R) (a :: r) a
    refine ⟨worst_mem (a :: r) a (a :: r) (fun x hx => hx) (List.mem_cons_self ..), h2, fun h t ht => ⟨?_, (h3 h).2 t ht⟩⟩
    rcases (by omega : R.getD t.toNat 0 < 0 ∨ 0 ≤ R.getD t.toNat 0) with hc | hc
    · have := h2 ⟨t, ht, hc⟩
      simp only [worstL, List.headD] at h
      omega
    · exact hc
/-- What Answer returns for a move that is there. -/
theorem answer_law {g : Gm} (hg : GmOK g) {R : List Int} (h : Rk g R) {p : Nat} (hp : p < g.1.length) {act : Int} (ha : ∃ m ∈ g.2.getD p [], m.1 = act) :
    ∃ q : Nat, answerL g R p act = ((q : Int), true) ∧ q < g.1.length ∧ (∃ m ∈ g.2.getD p [], m.1 = act ∧ q = (worstL R m.2).toNat ∧ (q : Int) ∈ m.2) ∧ (R.getD p 0 < 0 → R.getD q 0 < 0) ∧ (0 ≤ R.getD q 0 → R.getD p 0 - 1 ≤ R.getD q 0) := by
  have hpm : p < g.2.length := by have := hg.n; omega
  have hgk : g.2.getD p [] = g.2[p] := by rw [List.getD, List.getElem?_eq_getElem hpm]; rfl
  obtain ⟨m, hm⟩ : ∃ m, (g.2.getD p []).find? (fun m => decide (m.1 = act)) = some m := by
    cases hf : (g.2.getD p []).find? (fun m => decide (m.1 = act)) with
    | some m => exact ⟨m, rfl⟩
    | none =>
      obtain ⟨m, hm, e⟩ := ha
      rw [List.find?_eq_none] at hf
      exact absurd (by simpa using e) (hf m hm)
  have hmm := List.mem_of_find?_eq_some hm
  have hma : m.1 = act := by have := List.find?_some hm; simpa using this
  have hmo := hg.m _ (by rw [hgk]; exact List.getElem_mem hpm) m hmm
  obtain ⟨hw1, hw2, hw3⟩ := worst_law (R := R) hmo.2.2.1
  have hr := hmo.2.2.2 _ hw1
  refine ⟨(worstL R m.2).toNat, ?_, by omega, ⟨m, hmm, hma, rfl, ?_⟩, ?_, ?_⟩
  · unfold answerL
    rw [if_neg (by have := h.len; have := hg.n; omega)]
    simp only [Int.toNat_natCast, hm]
    rw [Int.toNat_of_nonneg hr.1]
  · rw [Int.toNat_of_nonneg hr.1]; exact hw1
  · intro hn
    refine hw2 (Classical.byContradiction fun hc => ?_)
    have := h.all p m hmm (fun t ht => Int.not_lt.1 (fun hx => hc ⟨t, ht, hx⟩))
    omega
  · intro h0
    by_cases h1 : 1 ≤ R.getD p 0
    · obtain ⟨t, ht, hd⟩ := h.dn p hp h1 m hmm
      have := hw3 h0 t ht
      omega
    · omega
/-- A position with moves to go on from: the remainder as an index. -/
def idxOf (c : Int) (n : Nat) : Int := if c.tmod n < 0 then c.tmod n + n else c.tmod n
theorem idxOf_lt (c : Int) (n : Nat) (hn : 0 < n) : 0 ≤ idxOf c n ∧ idxOf c n < n := by
  have h1 := Int.tmod_lt_of_pos c (show (0 : Int) < n by omega)
  have h2 : -(n : Int) < c.tmod n := by
    have := Int.tmod_lt_of_pos (-c) (show (0 : Int) < n by omega)
    rw [Int.neg_tmod] at this
    omega
  unfold idxOf
  split <;> omega
end Go.Proofs.Ytiaplhdgchbkkaa
