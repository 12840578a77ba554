
/- Game: the plain law of GameForces. -/
import Derived.Test.YtiaplhdgchbkkaaGamX
set_option linter.unusedSimpArgs false
set_option linter.unusedVariables false
namespace Go.Proofs.Ytiaplhdgchbkkaa
open Go.RowKit Go.IntWalk Go.Shelf

theorem mvsOK_asc {n : Int} : ∀ {l : List Mv} {last : Int}, mvsOK n last l = true → l.Pairwise (fun a b => a.1 < b.1)
  | [], _, _ => List.Pairwise.nil
  | m :: r, last, h => by
    simp only [mvsOK, Bool.and_eq_true, decide_eq_true_eq] at h
    refine List.pairwise_cons.2 ⟨fun x hx => (mvsOK_mem h.2 x hx).1, mvsOK_asc h.2⟩
theorem acts_of {g : Gm} (hr : rightL g = true) : ∀ l ∈ g.2, l.Pairwise (fun a b => a.1 < b.1) := by
  intro l hl
  simp only [rightL, Bool.and_eq_true, decide_eq_true_eq, List.all_eq_true] at hr
  exact mvsOK_asc (hr.2 l hl)
/-- The row of a position that has a rank. -/
def frow (g : Gm) (p : Nat) : Row := ((p : Int), if (rankL g).getD p 0 = 0 then -1 else firstA g (rankL g) p, (rankL g).getD p 0)
theorem rowF_some {g : Gm} {p : Nat} (h : 0 ≤ (rankL g).getD p 0) : rowF g (rankL g) p = some (frow g p) := by
  unfold rowF frow
  by_cases h0 : (rankL g).getD p 0 = 0
  · rw [if_pos h0, if_pos h0, h0]
  · rw [if_neg h0, if_neg h0, if_pos (by omega)]
theorem rowF_mem {g : Gm} {x : Row} (h : x ∈ solveL g) : ∃ p, p < g.1.length ∧ 0 ≤ (rankL g).getD p 0 ∧ x = frow g p := by
  unfold solveL rowsK at h
  rw [List.mem_filterMap] at h
  obtain ⟨p, hp, hx⟩ := h
  have h0 : 0 ≤ (rankL g).getD p 0 := by
    unfold rowF at hx
    split at hx
    · omega
    · split at hx
      · omega
      · cases hx
  rw [rowF_some h0] at hx
  injection hx with hx
  exact ⟨p, by simpa using hp, h0, hx.symm⟩
theorem row_yes {g : Gm} {p : Nat} (hp : p < g.1.length) (h : 0 ≤ (rankL g).getD p 0) : rowL (solveL g) p = (frow g p, true) := by
  have hm : frow g p ∈ solveL g := by
    unfold solveL rowsK
    rw [List.mem_filterMap]
    exact ⟨p, by simpa using hp, rowF_some h⟩
  unfold rowL
  cases hf : (solveL g).find? (fun x => decide (x.1 = (p : Int))) with
  | none =>
    rw [List.find?_eq_none] at hf
    exact absurd (by simp [frow]) (hf _ hm)
  | some x =>
    obtain ⟨p', _, _, rfl⟩ := rowF_mem (List.mem_of_find?_eq_some hf)
    have e : (frow g p').1 = (p : Int) := by simpa using List.find?_some hf
    simp only [frow] at e
    have : p' = p := by omega
    subst this
    rfl
theorem row_no {g : Gm} {pos : Int} (h : ∀ p : Nat, p < g.1.length → pos = p → (rankL g).getD p 0 < 0) : rowL (solveL g) pos = ((0, 0, 0), false) := by
  unfold rowL
  cases hf : (solveL g).find? (fun x => decide (x.1 = pos)) with
  | none => rfl
  | some x =>
    obtain ⟨p', hp, h0, rfl⟩ := rowF_mem (List.mem_of_find?_eq_some hf)
    have e : (frow g p').1 = pos := by simpa using List.find?_some hf
    have := h p' hp e.symm
    omega
/-- THE PLAIN LAW: the first good move leads to lesser ranks; the worst answer to the next lesser one. -/
theorem force_law {g : Gm} (hg : GmOK g) (hr : rightL g = true) {p : Nat} (hp : p < g.1.length) (h1 : 1 ≤ (rankL g).getD p 0) :
    ∃ k0, ∃ hk0 : k0 < (g.2.getD p []).length, (frow g p).2.1 = (g.2.getD p [])[k0].1 ∧ (∀ j, ∀ hj : j < k0, ((g.2.getD p [])[j]'(by omega)).1 ≠ (frow g p).2.1) ∧
      (∀ t ∈ (g.2.getD p [])[k0].2, 0 ≤ t ∧ t < g.1.length ∧ 0 ≤ (rankL g).getD t.toNat 0 ∧ (rankL g).getD t.toNat 0 ≤ (rankL g).getD p 0 - 1) ∧
      ∃ q : Nat, answerL g (rankL g) p (frow g p).2.1 = ((q : Int), true) ∧ q < g.1.length ∧ (rankL g).getD q 0 = (rankL g).getD p 0 - 1 := by
  have hrk := rankL_rk hg
  have hpm : p < g.2.length := by have := hg.n; omega
  have hgk : g.2.getD p [] = g.2[p] := by rw [List.getD, List.getElem?_eq_getElem hpm]; rfl
  obtain ⟨k0, hk0, hf, hg1, _⟩ := hrk.first hp h1
  have hfr : (frow g p).2.1 = (g.2.getD p [])[k0].1 := by unfold frow; simp only; rw [if_neg (by omega), hf]
  have hpw := acts_of hr (g.2.getD p []) (by rw [hgk]; exact List.getElem_mem hpm)
  have hgd : ∀ t ∈ (g.2.getD p [])[k0].2, 0 ≤ t ∧ t < g.1.length ∧ 0 ≤ (rankL g).getD t.toNat 0 ∧ (rankL g).getD t.toNat 0 ≤ (rankL g).getD p 0 - 1 := fun t ht => by
    have hmo := hg.m (g.2.getD p []) (by rw [hgk]; exact List.getElem_mem hpm) _ (List.getElem_mem hk0)
    obtain ⟨h2, h3⟩ := hmo.2.2.2 t ht
    have e : gdF (rankL g) p (g.2.getD p []) k0 = !(g.2.getD p [])[k0].2.any (badF (rankL g) p) := by unfold gdF; rw [show (g.2.getD p []).getD k0 (0, []) = (g.2.getD p [])[k0] by rw [List.getD, List.getElem?_eq_getElem hk0]; rfl]
    rw [e, Bool.not_eq_true', List.any_eq_false] at hg1
    have h4 := badF_iff.1 (by simpa using hg1 t ht)
    omega
  refine ⟨k0, hk0, hfr, fun j hj e => ?_, hgd, ?_⟩
  · rw [hfr] at e
    have := List.pairwise_iff_getElem.1 hpw j k0 (by omega) hk0 hj
    omega
  · obtain ⟨q, hq1, hq2, ⟨m, hm, hma, _, hmq⟩, _, hq4⟩ := answer_law hg hrk hp (act := (frow g p).2.1) ⟨_, List.getElem_mem hk0, hfr.symm⟩
    obtain ⟨j, hj, rfl⟩ := List.getElem_of_mem hm
    have hjk : j = k0 := by
      rw [hfr] at hma
      rcases Nat.lt_trichotomy j k0 with hx | hx | hx
      · have := List.pairwise_iff_getElem.1 hpw j k0 hj hk0 hx; omega
      · exact hx
      · have := List.pairwise_iff_getElem.1 hpw k0 j hk0 hj hx; omega
    subst hjk
    have h5 := hgd _ hmq
    simp only [Int.toNat_natCast] at h5
    have := hq4 h5.2.2.1
    exact ⟨q, hq1, hq2, by omega⟩
theorem rank_le {g : Gm} (hg : GmOK g) (p : Nat) : (rankL g).getD p 0 ≤ g.1.length := stB_le (g := g) hg.n hg.fm g.1.length p
end Go.Proofs.Ytiaplhdgchbkkaa
