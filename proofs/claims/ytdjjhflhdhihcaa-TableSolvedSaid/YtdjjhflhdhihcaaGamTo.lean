
/- Game: what Ranks and Solve hand back reads as (out of GamT). -/
import Derived.Test.YtdjjhflhdhihcaaGamM
set_option linter.unusedSimpArgs false
set_option linter.unusedVariables false
namespace Go.Proofs.Ytdjjhflhdhihcaa
open Go.RowKit Go.IntWalk Go.Shelf

/-- What the slice that Ranks hands back says. -/
theorem rank_form {g : Gm} (hg : GmOK g) {w : World} {base : Nat} {v : Value} (h : OwnI w base v (rankL g)) : ∃ A c, v = .slice A (rankL g).length c ∧ (rankL g).length ≤ maxLen ∧ SlR w w.heap.size A (rankL g) ∧ (rankL g).length = g.1.length ∧ (rankL g).length ≤ 1000 ∧ (∀ x ∈ rankL g, -1 ≤ x ∧ x ≤ 1000) := by
  have hrk := rankL_rk hg
  have hrn := hrk.len
  have hs := hg.s
  have hb : ∀ x ∈ rankL g, -1 ≤ x ∧ x ≤ 1000 := fun x hx => by
    obtain ⟨q, hq, rfl⟩ := List.getElem_of_mem hx
    have h1 := hrk.lo q (by omega)
    have h2 := (stB_le (g := g) hg.n hg.fm g.1.length q)
    have h3 : (stB g g.1.length).r q = (rankL g)[q] := by simp [St.r, rankL, List.getD, show q < (stB g g.1.length).R.length from hq]
    have h4 : (rankL g).getD q 0 = (rankL g)[q] := by simp [List.getD, hq]
    rw [h3] at h2
    rw [h4] at h1
    omega
  obtain ⟨A, c, hv, h1, h2, h3⟩ := h.slr (fun x hx => by have := hb x hx; unfold I64; omega)
  exact ⟨A, c, hv, by omega, h3, hrn, by omega, hb⟩
theorem solve_form {g : Gm} (hg : GmOK g) {w : World} {base : Nat} {v : Value} (h : OwnR w base v (solveL g)) (hI : ∀ x ∈ solveL g, RowI x) : ∃ A c, v = .slice A (solveL g).length c ∧ (solveL g).length ≤ maxLen ∧ SlR w w.heap.size A (solveL g) ∧ (solveL g).length ≤ 1000 := by
  obtain ⟨A, c, hv, h1, h2, h3⟩ := h.slr hI
  have := rowsK_len g (rankL g) g.1.length
  have := hg.s
  exact ⟨A, c, hv, by omega, h3, by unfold solveL; omega⟩
/-- The Acts are numbers. -/
def ActI (g : Gm) : Prop := ∀ l ∈ g.2, ∀ m ∈ l, I64 m.1
theorem GmR.acts {w : World} {B : Nat} {Ag Am : Option Addr} {g : Gm} (h : GmR w B Ag Am g) : ActI g := by
  intro l hl m hm
  obtain ⟨p, hp, rfl⟩ := List.getElem_of_mem hl
  obtain ⟨b, off, A', c', _, _, _, _, _, hs⟩ := h.mvs.list hp
  obtain ⟨k, hk, rfl⟩ := List.getElem_of_mem hm
  obtain ⟨_, _, _, _, _, _, _, _, _, _, _, hi⟩ := hs.mv hk
  exact hi
theorem solve_rows {g : Gm} (hg : GmOK g) (ha : ActI g) : ∀ x ∈ solveL g, RowI x := by
  intro x hx
  unfold solveL rowsK at hx
  rw [List.mem_filterMap] at hx
  obtain ⟨p, hp, hx⟩ := hx
  have hp : p < g.1.length := by simpa using hp
  have hs := hg.s
  have hrk := rankL_rk hg
  have hpR : p < (rankL g).length := by have := hrk.len; omega
  have hb : -1 ≤ (rankL g).getD p 0 ∧ (rankL g).getD p 0 ≤ 1000 := by
    have h1 := hrk.lo p hp
    have h2 := (stB_le (g := g) hg.n hg.fm g.1.length p)
    have h3 : (stB g g.1.length).r p = (rankL g).getD p 0 := rfl
    rw [h3] at h2
    omega
  unfold rowF at hx
  split at hx
  · injection hx with hx; subst hx; exact ⟨I64.nat (by omega), by simp [I64], by simp [I64]⟩
  · split at hx
    · injection hx with hx; subst hx
      rename_i h1 h2
      obtain ⟨k, hk, hf, _⟩ := hrk.first hp (by omega)
      have hpm : p < g.2.length := by have := hg.n; omega
      refine ⟨I64.nat (by omega), ?_, ?_⟩
      · simp only [hf]
        have hgk : g.2.getD p [] = g.2[p] := by rw [List.getD, List.getElem?_eq_getElem hpm]; rfl
        refine ha (g.2.getD p []) (by rw [hgk]; exact List.getElem_mem hpm) _ (List.getElem_mem hk)
      · simp only [I64]; omega
    · cases hx
end Go.Proofs.Ytdjjhflhdhihcaa
