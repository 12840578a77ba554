
/- Game: the plain laws of GameMore and GameApart. -/
import Derived.Test.YtiaplhdgchbkkaaGamY
import Derived.Test.YtiaplhdgchbkkaaGamH
set_option linter.unusedSimpArgs false
set_option linter.unusedVariables false
namespace Go.Proofs.Ytiaplhdgchbkkaa
open Go.RowKit Go.IntWalk Go.Shelf

/-- g' has all goals of g, and to each move of g one that leads to no other positions. -/
structure Eased (g g' : Gm) : Prop where
  n : g.1.length = g'.1.length
  goal : ∀ p, p < g.1.length → g.1.getD p false = true → g'.1.getD p false = true
  mv : ∀ p, p < g.1.length → ∀ m ∈ g.2.getD p [], ∃ m' ∈ g'.2.getD p [], ∀ t ∈ m'.2, t ∈ m.2
theorem eased_key {g g' : Gm} (hg : GmOK g) (hE : Eased g g') {R R' : List Int} (h : Rk g R) (h' : Rk g' R') : ∀ (k : Nat) (p : Nat), p < g.1.length → R.getD p 0 = k → 0 ≤ R'.getD p 0 ∧ R'.getD p 0 ≤ k := by
  intro k
  induction k using Nat.strongRecOn with
  | _ k ih =>
    intro p hp hk
    have hp' : p < g'.1.length := by have := hE.n; omega
    by_cases h0 : k = 0
    · have hz := (h.zero p hp).1 (by omega)
      have := (h'.zero p hp').2 (hE.goal p hp hz)
      omega
    · obtain ⟨m, hm, hu⟩ := h.up p hp (by omega)
      obtain ⟨m', hm', hsub⟩ := hE.mv p hp m hm
      have hpm : p < g.2.length := by have := hg.n; omega
      have hgk : g.2.getD p [] = g.2[p] := by rw [List.getD, List.getElem?_eq_getElem hpm]; rfl
      have hmo := hg.m _ (by rw [hgk]; exact List.getElem_mem hpm) m hm
      have hall : ∀ t ∈ m'.2, 0 ≤ R'.getD t.toNat 0 ∧ R'.getD t.toNat 0 ≤ k - 1 := fun t ht => by
        have h1 := hu t (hsub t ht)
        have h2 := hmo.2.2.2 t (hsub t ht)
        have h3 := ih (R.getD t.toNat 0).toNat (by omega) t.toNat (by omega) (by omega)
        omega
      have hr := h'.all p m' hm' (fun t ht => (hall t ht).1)
      refine ⟨hr, ?_⟩
      by_cases h1 : 1 ≤ R'.getD p 0
      · obtain ⟨t, ht, hd⟩ := h'.dn p hp' h1 m' hm'
        have := hall t ht
        omega
      · omega
/-- THE PLAIN LAW: where more helps, no rank is greater. -/
theorem eased_law {g g' : Gm} (hg : GmOK g) (hE : Eased g g') {R R' : List Int} (h : Rk g R) (h' : Rk g' R') : Easy R' R := by
  refine ⟨by rw [h.len, h'.len, hE.n], fun i hi => ?_⟩
  unfold EasyAt
  rintro ⟨h0, h1⟩
  have hig : i < g.1.length := by have := h.len; omega
  have := eased_key hg hE h h' (R.getD i 0).toNat i hig (by omega)
  omega
/-- One position more is a goal. -/
def moreGoal (g : Gm) (p : Nat) : Gm := (g.1.set p true, g.2)
/-- The moves of one position are others. -/
def setMvs (g : Gm) (p : Nat) (l : List Mv) : Gm := (g.1, g.2.set p l)
theorem setMvs_at {g : Gm} {p q : Nat} {l : List Mv} (hp : p < g.2.length) : (setMvs g p l).2.getD q [] = if q = p then l else g.2.getD q [] := by
  unfold setMvs
  simp only
  by_cases e : q = p
  · subst e; rw [if_pos rfl]; simp [List.getD, hp]
  · rw [if_neg e, List.getD, List.getElem?_set_ne (fun h => e h.symm)]; rfl
theorem eased_goal (g : Gm) (p : Nat) : Eased g (moreGoal g p) := by
  refine ⟨by simp [moreGoal], fun q hq h => ?_, fun q _ m hm => ⟨m, hm, fun t ht => ht⟩⟩
  unfold moreGoal
  simp only
  by_cases e : q = p
  · subst e; simp [List.getD, hq]
  · rw [List.getD, List.getElem?_set_ne (fun h => e h.symm)]; exact h
theorem eased_more {g : Gm} {p : Nat} {l : List Mv} (hp : p < g.2.length) (hsub : ∀ m ∈ g.2.getD p [], ∃ m' ∈ l, ∀ t ∈ m'.2, t ∈ m.2) : Eased g (setMvs g p l) := by
  refine ⟨rfl, fun q _ h => h, fun q _ m hm => ?_⟩
  rw [setMvs_at hp]
  by_cases e : q = p
  · subst e; rw [if_pos rfl]; exact hsub m hm
  · rw [if_neg e]; exact ⟨m, hm, fun t ht => ht⟩
theorem eased_less {g : Gm} {p : Nat} {l : List Mv} (hp : p < g.2.length) (hsub : ∀ m ∈ l, ∃ m' ∈ g.2.getD p [], ∀ t ∈ m'.2, t ∈ m.2) : Eased (setMvs g p l) g := by
  refine ⟨rfl, fun q _ h => h, fun q _ m hm => ?_⟩
  rw [setMvs_at hp] at hm
  by_cases e : q = p
  · subst e; rw [if_pos rfl] at hm; exact hsub m hm
  · rw [if_neg e] at hm; exact ⟨m, hm, fun t ht => ht⟩
theorem setMvs_ok {g : Gm} (hg : GmOK g) {p : Nat} {l : List Mv} (hl : l.length ≤ 1000) (hm : ∀ m ∈ l, m.2.length ≤ 1000 ∧ m.2.Nodup ∧ m.2 ≠ [] ∧ ∀ t ∈ m.2, 0 ≤ t ∧ t < g.1.length) : GmOK (setMvs g p l) := by
  refine ⟨by simp [setMvs, hg.n], hg.s, fun x hx => ?_, fun x hx m hmx => ?_⟩
  · rcases List.mem_or_eq_of_mem_set hx with hx | rfl
    · exact hg.l x hx
    · exact hl
  · rcases List.mem_or_eq_of_mem_set hx with hx | rfl
    · exact hg.m x hx m hmx
    · exact hm m hmx
theorem moreGoal_ok {g : Gm} (hg : GmOK g) (p : Nat) : GmOK (moreGoal g p) := by
  refine ⟨by simp [moreGoal, hg.n], by simp [moreGoal]; exact hg.s, hg.l, fun l hl m hm => ?_⟩
  have := hg.m l hl m hm
  simpa [moreGoal] using this
/-! ### Two games side by side -/
def shiftM (n : Nat) (m : Mv) : Mv := (m.1, m.2.map (fun t => t + n))
def bothG (g h : Gm) : Gm := (g.1 ++ h.1, g.2 ++ h.2.map (fun l => l.map (shiftM g.1.length)))
theorem getD_app_l {α : Type} (a b : List α) (q : Nat) (d : α) (hq : q < a.length) : (a ++ b).getD q d = a.getD q d := by
  rw [List.getD, List.getElem?_append_left hq]; rfl
theorem getD_app_r {α : Type} (a b : List α) (q : Nat) (d : α) (hq : a.length ≤ q) : (a ++ b).getD q d = b.getD (q - a.length) d := by
  rw [List.getD, List.getElem?_append_right hq]; rfl
theorem both_ok {g h : Gm} (hg : GmOK g) (hh : GmOK h) (hs : g.1.length + h.1.length ≤ 1000) : GmOK (bothG g h) := by
  refine ⟨by simp [bothG, hg.n, hh.n], by simp [bothG]; exact hs, fun l hl => ?_, fun l hl m hm => ?_⟩
  · rcases List.mem_append.1 hl with hl | hl
    · exact hg.l l hl
    · obtain ⟨l', hl', rfl⟩ := List.mem_map.1 hl
      rw [List.length_map]; exact hh.l l' hl'
  · rcases List.mem_append.1 hl with hl | hl
    · obtain ⟨a, b, c, d⟩ := hg.m l hl m hm
      exact ⟨a, b, c, fun t ht => by have := d t ht; simp [bothG]; omega⟩
    · obtain ⟨l', hl', rfl⟩ := List.mem_map.1 hl
      obtain ⟨m', hm', rfl⟩ := List.mem_map.1 hm
      obtain ⟨a, b, c, d⟩ := hh.m l' hl' m' hm'
      refine ⟨by simpa [shiftM] using a, ?_, by simpa [shiftM] using c, fun t ht => ?_⟩
      · refine List.pairwise_map.2 (b.imp ?_)
        intro x y hxy e
        exact hxy (by omega)
      · obtain ⟨y, hy, rfl⟩ := List.mem_map.1 ht
        have := d y hy
        simp [bothG]; omega
/-- THE PLAIN LAW: both together have the ranks of the one, and then those of the other. -/
theorem both_rk {g h : Gm} (hg : GmOK g) (hh : GmOK h) {R S : List Int} (hR : Rk g R) (hS : Rk h S) : Rk (bothG g h) (R ++ S) := by
  have hRl := hR.len; have hSl := hS.len; have hgn := hg.n; have hhn := hh.n
  have hgl : (bothG g h).1.length = g.1.length + h.1.length := by simp [bothG]
  have hml : ∀ q, q < g.1.length → (bothG g h).2.getD q [] = g.2.getD q [] := fun q hq => getD_app_l _ _ _ _ (by omega)
  have hmr : ∀ q, g.1.length ≤ q → (bothG g h).2.getD q [] = (h.2.getD (q - g.1.length) []).map (shiftM g.1.length) := fun q hq => by
    show (g.2 ++ h.2.map (fun l => l.map (shiftM g.1.length))).getD q [] = _
    rw [getD_app_r _ _ _ _ (by omega), ← hgn]
    rw [List.getD, List.getElem?_map, List.getD]
    cases h.2[q - g.1.length]? <;> rfl
  have hrl : ∀ q, q < g.1.length → (R ++ S).getD q 0 = R.getD q 0 := fun q hq => getD_app_l _ _ _ _ (by omega)
  have hrr : ∀ q, g.1.length ≤ q → (R ++ S).getD q 0 = S.getD (q - g.1.length) 0 := fun q hq => by rw [getD_app_r _ _ _ _ (by omega), hRl]
  have hto : ∀ q, q < g.1.length → ∀ m ∈ g.2.getD q [], ∀ t ∈ m.2, 0 ≤ t ∧ t < g.1.length := fun q hq m hm t ht => by
    have hpm : q < g.2.length := by omega
    have hgk : g.2.getD q [] = g.2[q] := by rw [List.getD, List.getElem?_eq_getElem hpm]; rfl
    exact (hg.m _ (by rw [hgk]; exact List.getElem_mem hpm) m hm).2.2.2 t ht
  have hto2 : ∀ q, ∀ m ∈ h.2.getD q [], ∀ t ∈ m.2, 0 ≤ t ∧ t < h.1.length := fun q m hm t ht => by
    have hpm : q < h.2.length := by
      rcases Nat.lt_or_ge q h.2.length with hx | hx
      · exact hx
      · rw [List.getD, List.getElem?_eq_none hx] at hm; simp at hm
    have hgk : h.2.getD q [] = h.2[q] := by rw [List.getD, List.getElem?_eq_getElem hpm]; rfl
    exact (hh.m _ (by rw [hgk]; exact List.getElem_mem hpm) m hm).2.2.2 t ht
  have hsh : ∀ t : Int, 0 ≤ t → (R ++ S).getD (t + g.1.length).toNat 0 = S.getD t.toNat 0 := fun t ht => by
    rw [hrr _ (by omega), show (t + g.1.length).toNat - g.1.length = t.toNat by omega]
  refine ⟨by rw [List.length_append, hgl, hRl, hSl], fun q hq => ?_, fun q hq => ?_, fun q hq h1 => ?_, fun q hq h1 m hm => ?_, fun q m hm ht => ?_⟩
  · by_cases hc : q < g.1.length
    · rw [hrl q hc]; exact hR.lo q hc
    · rw [hrr q (by omega)]; exact hS.lo _ (by omega)
  · by_cases hc : q < g.1.length
    · rw [hrl q hc, show (bothG g h).1.getD q false = g.1.getD q false from getD_app_l _ _ _ _ hc]; exact hR.zero q hc
    · rw [hrr q (by omega), show (bothG g h).1.getD q false = h.1.getD (q - g.1.length) false from getD_app_r _ _ _ _ (by omega)]; exact hS.zero _ (by omega)
  · by_cases hc : q < g.1.length
    · rw [hrl q hc] at h1 ⊢
      obtain ⟨m, hm, hu⟩ := hR.up q hc h1
      refine ⟨m, by rw [hml q hc]; exact hm, fun t ht => ?_⟩
      have := hto q hc m hm t ht
      rw [hrl _ (by omega)]; exact hu t ht
    · rw [hrr q (by omega)] at h1 ⊢
      obtain ⟨m, hm, hu⟩ := hS.up _ (by omega) h1
      refine ⟨shiftM g.1.length m, by rw [hmr q (by omega)]; exact List.mem_map.2 ⟨m, hm, rfl⟩, fun t ht => ?_⟩
      obtain ⟨y, hy, rfl⟩ := List.mem_map.1 ht
      rw [hsh y (hto2 _ m hm y hy).1]; exact hu y hy
  · by_cases hc : q < g.1.length
    · rw [hrl q hc] at h1 ⊢
      rw [hml q hc] at hm
      obtain ⟨t, ht, hd⟩ := hR.dn q hc h1 m hm
      refine ⟨t, ht, ?_⟩
      have := hto q hc m hm t ht
      rw [hrl _ (by omega)]; exact hd
    · rw [hrr q (by omega)] at h1 ⊢
      rw [hmr q (by omega)] at hm
      obtain ⟨m', hm', rfl⟩ := List.mem_map.1 hm
      obtain ⟨t, ht, hd⟩ := hS.dn _ (by omega) h1 m' hm'
      refine ⟨t + g.1.length, List.mem_map.2 ⟨t, ht, rfl⟩, ?_⟩
      rw [hsh t (hto2 _ m' hm' t ht).1]; exact hd
  · by_cases hc : q < g.1.length
    · rw [hml q hc] at hm
      rw [hrl q hc]
      refine hR.all q m hm (fun t h' => ?_)
      have := ht t h'
      have h2 := hto q hc m hm t h'
      rwa [hrl _ (by omega)] at this
    · rw [hmr q (by omega)] at hm
      obtain ⟨m', hm', rfl⟩ := List.mem_map.1 hm
      rw [hrr q (by omega)]
      refine hS.all _ m' hm' (fun t h' => ?_)
      have := ht (t + g.1.length) (List.mem_map.2 ⟨t, h', rfl⟩)
      rwa [hsh t (hto2 _ m' hm' t h').1] at this
theorem both_ranks {g h : Gm} (hg : GmOK g) (hh : GmOK h) (hs : g.1.length + h.1.length ≤ 1000) : rankL (bothG g h) = rankL g ++ rankL h := ((both_rk hg hh (rankL_rk hg) (rankL_rk hh)).eq (both_ok hg hh hs)).symm
end Go.Proofs.Ytiaplhdgchbkkaa
