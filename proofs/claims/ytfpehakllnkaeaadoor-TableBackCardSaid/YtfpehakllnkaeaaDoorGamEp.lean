
/- Game: the search's states, more: bounds; what holds within a round. -/
import Derived.Test.YtfpehakllnkaeaaDoorGamE
set_option linter.unusedSimpArgs false
set_option linter.unusedVariables false
namespace Go.Proofs.YtfpehakllnkaeaaDoor
open Go.RowKit Go.IntWalk

theorem OwnI.mono {w : World} {base base' : Nat} {v : Value} {l : List Int} (h : OwnI w base v l) (hb : base' ≤ base) : OwnI w base' v l :=
  ⟨h.1, h.2.imp id (fun ⟨g, cap, cur, hv, hg, r⟩ => ⟨g, cap, cur, hv, Nat.le_trans hb hg, r⟩)⟩
theorem getD_setn {α : Type} (l : List α) (i j : Nat) (x d : α) (h : j ≠ i) : (l.set i x).getD j d = l.getD j d := by
  simp only [List.getD]; rw [List.getElem?_set_ne (fun e => h e.symm)]
theorem stepM_p {fm : List (Nat × List Nat)} {p m : Nat} {s : St} (h : 0 ≤ s.r p) : (stepM fm p s m).r p = s.r p := by
  unfold stepM
  simp only
  split
  · rename_i hc
    have hne : p ≠ (fm.getD m (0, [])).1 := fun e => by rw [← e] at hc; have := hc.2; simp only [St.r] at h; omega
    exact getD_setn _ _ _ _ _ hne
  · rfl
theorem stepM_le {fm : List (Nat × List Nat)} {p m : Nat} {s : St} {B : Int} (hp : s.r p + 1 ≤ B) (h : ∀ q, s.r q ≤ B) (q : Nat) : (stepM fm p s m).r q ≤ B := by
  unfold stepM
  simp only
  split
  · by_cases e : q = (fm.getD m (0, [])).1
    · by_cases hl : (fm.getD m (0, [])).1 < s.R.length
      · rw [e]
        simp only [St.r]
        rw [getD_set_ _ _ _ _ _ hl, if_pos rfl]
        exact hp
      · simp only [St.r]
        rw [List.set_eq_of_length_le (by omega)]
        exact h q
    · simp only [St.r]
      rw [getD_setn _ _ _ _ _ e]
      exact h q
  · exact h q
theorem fold_le {fm : List (Nat × List Nat)} {p : Nat} {B : Int} : ∀ (ms : List Nat) (s : St), 0 ≤ s.r p → s.r p + 1 ≤ B → (∀ q, s.r q ≤ B) → (∀ q, (ms.foldl (stepM fm p) s).r q ≤ B) ∧ (ms.foldl (stepM fm p) s).r p = s.r p
  | [], s, _, _, h => ⟨h, rfl⟩
  | m :: ms, s, h0, hp, h => by
    have e := stepM_p (fm := fm) (m := m) h0
    obtain ⟨a, b⟩ := fold_le (fm := fm) (p := p) (B := B) ms (stepM fm p s m) (by rw [e]; exact h0) (by rw [e]; exact hp) (stepM_le hp h)
    exact ⟨a, b.trans e⟩
theorem stB_le {g : Gm} (hl : g.1.length = g.2.length) (hf : FmOK g.1.length (flatF 0 g.2)) : ∀ k q, (stB g k).r q ≤ k
  | 0, q => by
    simp only [stB, start, St.r, List.getD]
    rw [List.getElem?_map]
    cases g.1[q]? with
    | none => simp
    | some b => cases b <;> simp
  | k + 1, q => by
    have ih := stB_le hl hf k
    simp only [stB]
    split
    · rename_i hk
      obtain ⟨j, hj, hB, _⟩ := stB_bk hl hf k (by omega)
      have hp : (stB g k).Q.getD k 0 ∈ (stB g k).Q := by
        have : (stB g k).Q.getD k 0 = (stB g k).Q[k] := by simp [List.getD, hk]
        rw [this]; exact List.getElem_mem hk
      have h0 := ((hB.qr _).1 hp).2
      refine (fold_le _ _ h0 ?_ ?_).1 q
      · have := ih ((stB g k).Q.getD k 0); omega
      · intro q; have := ih q; omega
    · have := ih q; omega
/-- Within the round of the k-th position: what holds behind j of the moves that lead to it. -/
theorem mid {g : Gm} (hl : g.1.length = g.2.length) (hf : FmOK g.1.length (flatF 0 g.2)) {k : Nat} (hk : k < (stB g k).Q.length) (j : Nat) :
    ∃ dn c, BI g.1 (flatF 0 g.2) (((intoN (flatF 0 g.2) 0 (stB g k).Q[k]).take j).foldl (stepM (flatF 0 g.2) (stB g k).Q[k]) (stB g k)) dn c ∧ (((intoN (flatF 0 g.2) 0 (stB g k).Q[k]).take j).foldl (stepM (flatF 0 g.2) (stB g k).Q[k]) (stB g k)).r (stB g k).Q[k] = c ∧ 0 ≤ c ∧ c ≤ k ∧ (stB g k).Q[k] < g.1.length := by
  obtain ⟨i, hi, h, he⟩ := stB_bk hl hf k (by omega)
  have hik : i = k := by omega
  subst hik
  generalize hs : stB g i = s at *
  have hp : s.Q[i] ∈ s.Q := List.getElem_mem hk
  have hp0 : s.Q[i] ∉ s.Q.take i := by
    intro hx
    obtain ⟨j, hj, e⟩ := List.getElem_of_mem hx
    simp only [List.length_take] at hj
    rw [List.getElem_take] at e
    exact List.pairwise_iff_getElem.1 h.nd j i (by omega) hk (by omega) e
  have B : BI g.1 (flatF 0 g.2) s (fun m t => (s.Q.take i).contains t || (([] : List Nat).contains m && t == s.Q[i])) (s.r s.Q[i]) := by
    refine ⟨h.lenR, h.lenL, h.nd, h.qr, h.mono, fun q hq => h.cap i hk (Nat.le_refl _) q hq, fun m hm => by simpa using h.cnt m hm, h.own, h.lo, h.zero, h.up, h.dn_, ?_, ?_⟩
    · intro q hq hlt m
      obtain ⟨j, hj, rfl⟩ := List.getElem_of_mem hq
      have hjk : j < i := by
        refine Nat.lt_of_not_le fun hx => ?_
        have := pw_le (f := s.r) h.mono hx hj
        omega
      have : s.Q[j] ∈ s.Q.take i := by
        rw [List.mem_iff_getElem]
        exact ⟨j, by simp; omega, by simp⟩
      simp [this]
    · intro m t hx
      have hx : t ∈ s.Q.take i := by simpa using hx
      obtain ⟨j, hj, rfl⟩ := List.getElem_of_mem hx
      simp only [List.length_take] at hj
      rw [List.getElem_take]
      exact ⟨List.getElem_mem _, pw_le (f := s.r) h.mono (by omega) hk⟩
  have hin : ∀ m ∈ (intoN (flatF 0 g.2) 0 s.Q[i]).take j, m < (flatF 0 g.2).length ∧ s.Q[i] ∈ ((flatF 0 g.2).getD m (0, [])).2 := fun m hm => by
    have := (into_mem (flatF 0 g.2) 0 _ m).1 (List.mem_of_mem_take hm)
    simpa using this.2
  obtain ⟨b1, b2, _⟩ := BI.fold hf (s.Q.take i) ((intoN (flatF 0 g.2) 0 s.Q[i]).take j) [] s (by
    have := into_nodup (flatF 0 g.2) 0 s.Q[i]
    simpa using this.sublist (List.take_sublist j _)) hin hp0 hp rfl B
  have hle := stB_le hl hf i s.Q[i]
  rw [hs] at hle
  exact ⟨_, _, b1, b2, ((h.qr _).1 hp).2, hle, ((h.qr _).1 hp).1⟩
theorem stepM_no {fm : List (Nat × List Nat)} {p m : Nat} {s : St} {lw : Int} (hm : m < s.L.length) (hl : s.L.getD m 0 = lw + 1) (h : lw ≠ 0 ∨ 0 ≤ s.r (fm.getD m (0, [])).1) : stepM fm p s m = ⟨s.R, s.L.set m lw, s.Q⟩ := by
  unfold stepM
  simp only [hl, show lw + 1 - 1 = lw by omega]
  rw [getD_set_ _ _ _ _ _ hm, if_pos rfl, if_neg (fun hc => by
    rcases h with h | h
    · exact h hc.1
    · have := hc.2; simp only [St.r] at h; omega)]
theorem stepM_yes {fm : List (Nat × List Nat)} {p m : Nat} {s : St} (hm : m < s.L.length) (hl : s.L.getD m 0 = 1) (h : s.r (fm.getD m (0, [])).1 < 0) : stepM fm p s m = ⟨s.R.set (fm.getD m (0, [])).1 (s.r p + 1), s.L.set m 0, s.Q ++ [(fm.getD m (0, [])).1]⟩ := by
  unfold stepM
  simp only [hl, show (1 : Int) - 1 = 0 by omega]
  rw [getD_set_ _ _ _ _ _ hm, if_pos rfl, if_pos ⟨rfl, h⟩]
theorem GmOK.len2 {g : Gm} (h : GmOK g) : ∀ m ∈ flatF 0 g.2, m.2.length ≤ 1000 := by
  intro m hm
  obtain ⟨p, x, _, h2, h3, rfl⟩ := flatF_mem g.2 0 m hm
  have hp : p < g.2.length := by omega
  have hx : x ∈ g.2[p] := by simpa [List.getD, hp] using h3
  simpa using (h.m _ (List.getElem_mem hp) x hx).1
end Go.Proofs.YtfpehakllnkaeaaDoor
