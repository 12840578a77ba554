
/- Game: two games side by side: rows, and that it is right. -/
import Derived.Test.YtiaplhdgchbkkaaGamSp
set_option linter.unusedSimpArgs false
set_option linter.unusedVariables false
namespace Go.Proofs.Ytiaplhdgchbkkaa
open Go.RowKit Go.IntWalk Go.Shelf

theorem asc_wider {n n' : Int} (hn : n ≤ n') : ∀ {l : List Int} {last : Int}, asc n last l = true → asc n' last l = true
  | [], _, _ => rfl
  | x :: r, last, h => by
    simp only [asc, Bool.and_eq_true, decide_eq_true_eq] at h ⊢
    exact ⟨⟨h.1.1, by omega⟩, asc_wider hn h.2⟩
theorem asc_shift {m : Int} {n : Nat} : ∀ {l : List Int} {last last' : Int}, last' ≤ last + n → asc m last l = true → asc (n + m) last' (l.map (fun t => t + n)) = true
  | [], _, _, _, _ => rfl
  | x :: r, last, last', hl, h => by
    simp only [asc, List.map_cons, Bool.and_eq_true, decide_eq_true_eq] at h ⊢
    exact ⟨⟨by omega, by omega⟩, asc_shift (Int.le_refl _) h.2⟩
theorem mvsOK_wider {n n' : Int} (hn : n ≤ n') : ∀ {l : List Mv} {last : Int}, mvsOK n last l = true → mvsOK n' last l = true
  | [], _, _ => rfl
  | m :: r, last, h => by
    simp only [mvsOK, Bool.and_eq_true, decide_eq_true_eq] at h ⊢
    exact ⟨⟨h.1.1, asc_wider hn h.1.2⟩, mvsOK_wider hn h.2⟩
theorem mvsOK_shift {m : Int} {n : Nat} : ∀ {l : List Mv} {last : Int}, mvsOK m last l = true → mvsOK (n + m) last (l.map (shiftM n)) = true
  | [], _, _ => rfl
  | x :: r, last, h => by
    simp only [mvsOK, List.map_cons, Bool.and_eq_true, decide_eq_true_eq, shiftM] at h ⊢
    refine ⟨⟨⟨h.1.1.1, ?_⟩, asc_shift (by omega) h.1.2⟩, mvsOK_shift h.2⟩
    have := h.1.1.2
    simpa using this
theorem both_right {g h : Gm} (hg : rightL g = true) (hh : rightL h = true) (hs : g.1.length + h.1.length ≤ 1000) : rightL (bothG g h) = true := by
  simp only [rightL, Bool.and_eq_true, decide_eq_true_eq, List.all_eq_true] at hg hh ⊢
  refine ⟨⟨by simp [bothG]; omega, by simp [bothG]; omega⟩, fun l hl => ?_⟩
  have hn : ((bothG g h).1.length : Int) = g.1.length + h.1.length := by simp [bothG]
  rw [hn]
  rcases List.mem_append.1 hl with hl | hl
  · exact mvsOK_wider (by omega) (hg.2 l hl)
  · obtain ⟨l', hl', rfl⟩ := List.mem_map.1 hl
    exact mvsOK_shift (hh.2 l' hl')
theorem find_congr {α : Type} {f f' : α → Bool} : ∀ {l : List α}, (∀ m ∈ l, f m = f' m) → l.find? f = l.find? f'
  | [], _ => rfl
  | x :: r, h => by
    rw [List.find?_cons, List.find?_cons, h x (List.mem_cons_self ..), find_congr (fun m hm => h m (List.mem_cons_of_mem _ hm))]
theorem any_congr {f f' : Int → Bool} : ∀ {l : List Int}, (∀ m ∈ l, f m = f' m) → l.any f = l.any f'
  | [], _ => rfl
  | x :: r, h => by
    rw [List.any_cons, List.any_cons, h x (List.mem_cons_self ..), any_congr (fun m hm => h m (List.mem_cons_of_mem _ hm))]
def shiftR (n : Nat) (x : Row) : Row := (x.1 + n, x.2)
theorem firstA_l {g h : Gm} (hg : GmOK g) {R S : List Int} (hR : R.length = g.1.length) {p : Nat} (hp : p < g.1.length) : firstA (bothG g h) (R ++ S) p = firstA g R p := by
  have hgn := hg.n
  have hm : (bothG g h).2.getD p [] = g.2.getD p [] := getD_app_l _ _ _ _ (by omega)
  have hgk : g.2.getD p [] = g.2[p]'(by omega) := by rw [List.getD, List.getElem?_eq_getElem (by omega)]; rfl
  unfold firstA
  rw [hm, find_congr (f' := fun m => !m.2.any (badF R p))]
  intro m hmm
  rw [any_congr (f' := badF R p)]
  intro t ht
  have := (hg.m _ (by rw [hgk]; exact List.getElem_mem _) m hmm).2.2.2 t ht
  unfold badF
  rw [getD_app_l R S t.toNat 0 (by omega), getD_app_l R S p 0 (by omega)]
theorem firstA_r {g h : Gm} (hg : GmOK g) (hh : GmOK h) {R S : List Int} (hR : R.length = g.1.length) {p : Nat} (hp : p < h.1.length) : firstA (bothG g h) (R ++ S) (g.1.length + p) = firstA h S p := by
  have hgn := hg.n; have hhn := hh.n
  have hm : (bothG g h).2.getD (g.1.length + p) [] = (h.2.getD p []).map (shiftM g.1.length) := by
    show (g.2 ++ h.2.map (fun l => l.map (shiftM g.1.length))).getD (g.1.length + p) [] = _
    rw [getD_app_r _ _ _ _ (by omega), ← hgn, show g.1.length + p - g.1.length = p by omega]
    rw [List.getD, List.getElem?_map, List.getD]
    cases h.2[p]? <;> rfl
  have hgk : h.2.getD p [] = h.2[p]'(by omega) := by rw [List.getD, List.getElem?_eq_getElem (by omega)]; rfl
  unfold firstA
  rw [hm, List.find?_map, find_congr (f' := fun m => !m.2.any (badF S p))]
  · cases (h.2.getD p []).find? (fun m => !m.2.any (badF S p)) <;> rfl
  · intro m hmm
    show (!(shiftM g.1.length m).2.any (badF (R ++ S) (g.1.length + p))) = _
    have e : (shiftM g.1.length m).2.any (badF (R ++ S) (g.1.length + p)) = m.2.any (badF S p) := by
      show (m.2.map (fun t => t + (g.1.length : Int))).any (badF (R ++ S) (g.1.length + p)) = _
      rw [List.any_map]
      refine any_congr (fun t ht => ?_)
      have h2 := (hh.m _ (by rw [hgk]; exact List.getElem_mem _) m hmm).2.2.2 t ht
      show badF (R ++ S) (g.1.length + p) (t + g.1.length) = badF S p t
      unfold badF
      rw [getD_app_r R S (t + g.1.length).toNat 0 (by omega), getD_app_r R S (g.1.length + p) 0 (by omega), hR, show (t + (g.1.length : Int)).toNat - g.1.length = t.toNat by omega, show g.1.length + p - g.1.length = p by omega]
    rw [e]
theorem rowF_l {g h : Gm} (hg : GmOK g) {R S : List Int} (hR : R.length = g.1.length) {p : Nat} (hp : p < g.1.length) : rowF (bothG g h) (R ++ S) p = rowF g R p := by
  unfold rowF
  rw [firstA_l hg hR hp, getD_app_l R S p 0 (by omega)]
theorem rowF_r {g h : Gm} (hg : GmOK g) (hh : GmOK h) {R S : List Int} (hR : R.length = g.1.length) {p : Nat} (hp : p < h.1.length) : rowF (bothG g h) (R ++ S) (g.1.length + p) = (rowF h S p).map (shiftR g.1.length) := by
  unfold rowF
  rw [firstA_r hg hh hR hp, getD_app_r R S _ 0 (by omega), hR, show g.1.length + p - g.1.length = p by omega]
  split
  · simp [shiftR]; omega
  · split
    · simp [shiftR]; omega
    · rfl
theorem rowsK_both {g h : Gm} (hg : GmOK g) (hh : GmOK h) {R S : List Int} (hR : R.length = g.1.length) : ∀ k, k ≤ h.1.length → rowsK (bothG g h) (R ++ S) (g.1.length + k) = rowsK g R g.1.length ++ (rowsK h S k).map (shiftR g.1.length)
  | 0, _ => by
    have key : ∀ k, k ≤ g.1.length → rowsK (bothG g h) (R ++ S) k = rowsK g R k := by
      intro k
      induction k with
      | zero => intro _; rfl
      | succ k ih => intro hk; rw [rowsK_succ, rowsK_succ, ih (by omega), rowF_l hg hR (by omega)]
    rw [Nat.add_zero, key _ (Nat.le_refl _)]
    simp [rowsK]
  | k + 1, hk => by
    rw [← Nat.add_assoc, rowsK_succ, rowsK_succ, rowsK_both hg hh hR k (by omega), rowF_r hg hh hR (by omega), List.map_append, List.append_assoc]
    cases rowF h S k <;> rfl
/-- THE PLAIN LAW: the rows of both together. -/
theorem both_rows {g h : Gm} (hg : GmOK g) (hh : GmOK h) (hs : g.1.length + h.1.length ≤ 1000) : solveL (bothG g h) = solveL g ++ (solveL h).map (shiftR g.1.length) := by
  have hR := (rankL_rk hg).len
  unfold solveL
  rw [both_ranks hg hh hs, show (bothG g h).1.length = g.1.length + h.1.length by simp [bothG]]
  exact rowsK_both hg hh hR h.1.length (Nat.le_refl _)
end Go.Proofs.Ytiaplhdgchbkkaa
