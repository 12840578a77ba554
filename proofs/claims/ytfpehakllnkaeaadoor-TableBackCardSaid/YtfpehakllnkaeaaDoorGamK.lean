
/- Game: Answer. -/
import Derived.Test.YtfpehakllnkaeaaDoorGamJ
import Derived.Test.YtfpehakllnkaeaaDoorGamC
set_option linter.unusedSimpArgs false
set_option linter.unusedVariables false
namespace Go.Proofs.YtfpehakllnkaeaaDoor
open Go.RowKit Go.IntWalk Go.Shelf

def wstep (R : List Int) (wst p : Int) : Int := if 0 ≤ R.getD wst.toNat 0 ∧ (R.getD p.toNat 0 < 0 ∨ R.getD wst.toNat 0 < R.getD p.toNat 0) then p else wst
/-- The worst of the positions of a move. -/
def worstL (R : List Int) (tos : List Int) : Int := tos.foldl (wstep R) (tos.headD 0)
def answerL (g : Gm) (R : List Int) (pos act : Int) : Int × Bool :=
  if pos < 0 ∨ (g.2.length : Int) ≤ pos ∨ R.length ≠ g.2.length then (0, false) else match (g.2.getD pos.toNat []).find? (fun m => decide (m.1 = act)) with
    | none => (0, false)
    | some m => (worstL R m.2, true)
theorem wstep_mem {R : List Int} {a b : Int} {l : List Int} (ha : a ∈ l) (hb : b ∈ l) : wstep R a b ∈ l := by unfold wstep; split <;> assumption
theorem worst_mem {R : List Int} : ∀ (tos : List Int) (a : Int) (l : List Int), (∀ x ∈ tos, x ∈ l) → a ∈ l → tos.foldl (wstep R) a ∈ l
  | [], _, _, _, ha => ha
  | x :: tos, a, l, h, ha => worst_mem tos (wstep R a x) l (fun y hy => h y (List.mem_cons_of_mem _ hy)) (wstep_mem ha (h x (List.mem_cons_self ..)))
def actF (l : List Mv) (act : Int) (j : Nat) : Bool := decide ((l.getD j (0, [])).1 = act)
theorem find_ix {l : List Mv} {act : Int} {r : Int} (h : IxR (actF l act) l.length r) : (∃ k, ∃ hk : k < l.length, r = k ∧ l.find? (fun m => decide (m.1 = act)) = some l[k]) ∨ (r = -1 ∧ l.find? (fun m => decide (m.1 = act)) = none) := by
  rcases h with ⟨k, hk, rfl, h1, h2⟩ | ⟨rfl, h1⟩
  · refine .inl ⟨k, hk, rfl, ?_⟩
    rw [List.find?_eq_some_iff_getElem]
    refine ⟨by simpa [actF, hk] using h1, k, hk, rfl, fun j hj => ?_⟩
    have := h2 j hj
    simp [actF, show j < l.length by omega] at this
    simpa using this
  · refine .inr ⟨rfl, ?_⟩
    rw [List.find?_eq_none]
    intro x hx
    obtain ⟨j, hj, rfl⟩ := List.getElem_of_mem hx
    have := h1 j hj
    simp [actF, hj] at this
    simpa using this
end Go.Proofs.YtfpehakllnkaeaaDoor
