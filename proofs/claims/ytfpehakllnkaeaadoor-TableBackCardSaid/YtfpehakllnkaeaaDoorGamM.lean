
/- Game: Solve. -/
import Derived.Test.YtfpehakllnkaeaaDoorGamL
set_option linter.unusedSimpArgs false
set_option linter.unusedVariables false
namespace Go.Proofs.YtfpehakllnkaeaaDoor
open Go.RowKit Go.IntWalk Go.Shelf

/-- The Act of the first good move. -/
def firstA (g : Gm) (R : List Int) (p : Nat) : Int := match (g.2.getD p []).find? (fun m => !m.2.any (badF R p)) with | some m => m.1 | none => 0
def rowF (g : Gm) (R : List Int) (p : Nat) : Option Row := if R.getD p 0 = 0 then some ((p : Int), -1, 0) else if 0 < R.getD p 0 then some ((p : Int), firstA g R p, R.getD p 0) else none
def rowsK (g : Gm) (R : List Int) (k : Nat) : List Row := (List.range k).filterMap (rowF g R)
def solveL (g : Gm) : List Row := rowsK g (rankL g) g.1.length
theorem rowsK_succ (g : Gm) (R : List Int) (k : Nat) : rowsK g R (k + 1) = rowsK g R k ++ (rowF g R k).toList := by
  unfold rowsK
  rw [List.range_succ, List.filterMap_append]
  cases h : rowF g R k <;> simp [h]
theorem rowsK_len (g : Gm) (R : List Int) (k : Nat) : (rowsK g R k).length ≤ k := by
  have := List.length_filterMap_le (rowF g R) (List.range k)
  simpa [rowsK] using this
theorem find_first {α : Type} {l : List α} {f : α → Bool} {m : α} (h : l.find? f = some m) : ∃ k, ∃ hk : k < l.length, l[k] = m ∧ f m = true ∧ ∀ j, ∀ hj : j < k, f (l[j]'(by omega)) = false := by
  rw [List.find?_eq_some_iff_getElem] at h
  obtain ⟨h1, k, hk, h2, h3⟩ := h
  exact ⟨k, hk, h2, h1, fun j hj => by simpa using h3 j hj⟩
theorem badF_no {R : List Int} {p : Nat} {x : Int} (h0 : 0 ≤ R.getD x.toNat 0) (h1 : R.getD x.toNat 0 ≤ R.getD p 0 - 1) : badF R p x = false := by
  unfold badF
  simp only [Bool.or_eq_false_iff, decide_eq_false_iff_not]
  omega
theorem badF_iff {R : List Int} {p : Nat} {x : Int} : badF R p x = false ↔ 0 ≤ R.getD x.toNat 0 ∧ R.getD x.toNat 0 < R.getD p 0 := by
  unfold badF
  simp only [Bool.or_eq_false_iff, decide_eq_false_iff_not]
  omega
theorem Rk.first {g : Gm} {R : List Int} (h : Rk g R) {p : Nat} (hp : p < g.1.length) (h1 : 1 ≤ R.getD p 0) : ∃ k, ∃ hk : k < (g.2.getD p []).length, firstA g R p = (g.2.getD p [])[k].1 ∧ gdF R p (g.2.getD p []) k = true ∧ ∀ j, j < k → gdF R p (g.2.getD p []) j = false := by
  obtain ⟨m, hm, ht⟩ := h.up p hp h1
  have hx : (g.2.getD p []).find? (fun m => !m.2.any (badF R p)) ≠ none := by
    intro he
    rw [List.find?_eq_none] at he
    refine he m hm ?_
    simp only [Bool.not_eq_true', List.any_eq_false, Bool.not_eq_true]
    intro t h'
    exact badF_no (ht t h').1 (ht t h').2
  obtain ⟨m', hm'⟩ := Option.ne_none_iff_exists'.1 hx
  obtain ⟨k, hk, he, hy, hn⟩ := find_first hm'
  refine ⟨k, hk, by simp only [firstA, hm', he], ?_, fun j hj => ?_⟩
  · subst he
    unfold gdF
    rw [show (g.2.getD p []).getD k (0, []) = (g.2.getD p [])[k] by rw [List.getD, List.getElem?_eq_getElem hk]; rfl]
    exact hy
  · have := hn j hj
    have hj' : j < (g.2.getD p []).length := by omega
    unfold gdF
    rw [show (g.2.getD p []).getD j (0, []) = (g.2.getD p [])[j] by rw [List.getD, List.getElem?_eq_getElem hj']; rfl]
    exact this
theorem rowF_zero {g : Gm} {R : List Int} {p : Nat} (h : R.getD p 0 = 0) : (rowF g R p).toList = [((p : Int), (-1 : Int), (0 : Int))] := by unfold rowF; rw [if_pos h]; rfl
theorem rowF_pos {g : Gm} {R : List Int} {p : Nat} {r a : Int} (h : R.getD p 0 = r) (hr : 0 < r) (ha : firstA g R p = a) : (rowF g R p).toList = [((p : Int), a, r)] := by unfold rowF; rw [h, if_neg (by omega), if_pos hr, ha]; rfl
theorem rowF_neg {g : Gm} {R : List Int} {p : Nat} {r : Int} (h : R.getD p 0 = r) (h0 : ¬ r = 0) (hr : ¬ 0 < r) : (rowF g R p).toList = [] := by unfold rowF; rw [h, if_neg h0, if_neg hr]; rfl
end Go.Proofs.YtfpehakllnkaeaaDoor
