
/- Game: what is given is bounded and right; the plain law of GameRanks. -/
import Derived.Test.YtiaplhdgchbkkaaGamO
set_option linter.unusedSimpArgs false
set_option linter.unusedVariables false
namespace Go.Proofs.Ytiaplhdgchbkkaa
open Go.RowKit Go.IntWalk Go.Shelf

theorem ok_of {g : Gm} {n : Int} (hf : fewL g n = true) (hr : rightL g = true) (hn : n ≤ 1000) : GmOK g := by
  simp only [fewL, Bool.and_eq_true, decide_eq_true_eq, List.all_eq_true] at hf
  simp only [rightL, Bool.and_eq_true, decide_eq_true_eq, List.all_eq_true] at hr
  obtain ⟨⟨hf1, hf2⟩, hf3⟩ := hf
  obtain ⟨⟨hr1, hr2⟩, hr3⟩ := hr
  refine ⟨hr1, by omega, fun l hl => ?_, fun l hl m hm => ?_⟩
  · have := (hf1 l hl).1
    omega
  · have h1 := hf1 l hl
    have h2 := h1.2 m hm
    obtain ⟨_, h3, h4⟩ := mvsOK_mem (hr3 l hl) m hm
    refine ⟨by omega, asc_nodup h4, h3, fun t ht => ?_⟩
    have := asc_mem h4 t ht
    omega
/-! ### The greatest rank of a move -/
theorem mostG_neg {R : List Int} : ∀ (tos : List Int) (acc : Int), 0 ≤ acc → (∃ t ∈ tos, R.getD t.toNat 0 < 0) → (∀ t ∈ tos, 0 ≤ t ∧ t < R.length) → mostG R acc tos = -1
  | x :: tos, acc, ha, ⟨t, ht, h⟩, hr => by
    unfold mostG
    rw [if_neg (by have := hr x (List.mem_cons_self ..); omega)]
    by_cases hx : R.getD x.toNat 0 < 0
    · rw [if_pos hx]
    · rw [if_neg hx]
      rcases List.mem_cons.1 ht with rfl | ht
      · exact absurd h hx
      · exact mostG_neg tos _ (by omega) ⟨t, ht, h⟩ (fun y hy => hr y (List.mem_cons_of_mem _ hy))
theorem mostG_pos {R : List Int} : ∀ (tos : List Int) (acc : Int), 0 ≤ acc → (∀ t ∈ tos, 0 ≤ R.getD t.toNat 0) → (∀ t ∈ tos, 0 ≤ t ∧ t < R.length) →
    acc ≤ mostG R acc tos ∧ (∀ t ∈ tos, R.getD t.toNat 0 ≤ mostG R acc tos) ∧ (mostG R acc tos = acc ∨ ∃ t ∈ tos, R.getD t.toNat 0 = mostG R acc tos)
  | [], acc, ha, _, _ => ⟨Int.le_refl _, by simp, .inl rfl⟩
  | x :: tos, acc, ha, h, hr => by
    have hx := h x (List.mem_cons_self ..)
    have e : mostG R acc (x :: tos) = mostG R (max acc (R.getD x.toNat 0)) tos := by
      conv => lhs; unfold mostG
      rw [if_neg (by have := hr x (List.mem_cons_self ..); omega), if_neg (by omega)]
    obtain ⟨h1, h2, h3⟩ := mostG_pos tos (max acc (R.getD x.toNat 0)) (by omega) (fun t ht => h t (List.mem_cons_of_mem _ ht)) (fun t ht => hr t (List.mem_cons_of_mem _ ht))
    rw [e]
    refine ⟨by omega, fun t ht => ?_, ?_⟩
    · rcases List.mem_cons.1 ht with rfl | ht
      · omega
      · exact h2 t ht
    · rcases h3 with h3 | ⟨t, ht, h3⟩
      · rcases Int.le_total acc (R.getD x.toNat 0) with hc | hc
        · right; exact ⟨x, List.mem_cons_self .., by omega⟩
        · left; omega
      · right; exact ⟨t, List.mem_cons_of_mem _ ht, h3⟩
theorem mostG_cases {R : List Int} {tos : List Int} (hne : tos ≠ []) (hr : ∀ t ∈ tos, 0 ≤ t ∧ t < R.length) :
    (mostG R 0 tos = -1 ∧ ∃ t ∈ tos, R.getD t.toNat 0 < 0) ∨ (0 ≤ mostG R 0 tos ∧ (∀ t ∈ tos, 0 ≤ R.getD t.toNat 0 ∧ R.getD t.toNat 0 ≤ mostG R 0 tos) ∧ ∃ t ∈ tos, R.getD t.toNat 0 = mostG R 0 tos) := by
  by_cases h : ∃ t ∈ tos, R.getD t.toNat 0 < 0
  · exact .inl ⟨mostG_neg tos 0 (Int.le_refl _) h hr, h⟩
  · have h' : ∀ t ∈ tos, 0 ≤ R.getD t.toNat 0 := fun t ht => Int.not_lt.1 (fun hc => h ⟨t, ht, hc⟩)
    obtain ⟨h1, h2, h3⟩ := mostG_pos tos 0 (Int.le_refl _) h' hr
    refine .inr ⟨h1, fun t ht => ⟨h' t ht, h2 t ht⟩, ?_⟩
    rcases h3 with h3 | h3
    · cases tos with
      | nil => exact absurd rfl hne
      | cons a r =>
        have := h2 a (List.mem_cons_self ..)
        have := h' a (List.mem_cons_self ..)
        exact ⟨a, List.mem_cons_self .., by omega⟩
    · exact h3
/-! ### The inner loop: the least of the greatest ranks -/
def lstep (R : List Int) (s : Int × Int) (m : Mv) : Int × Int := if 0 ≤ mostG R 0 m.2 ∧ (s.1 < 0 ∨ mostG R 0 m.2 < s.1) then (mostG R 0 m.2, m.1) else s
def leastL (R : List Int) (l : List Mv) : Int × Int := l.foldl (lstep R) (-1, -1)
theorem leastL_succ (R : List Int) (l : List Mv) (k : Nat) (hk : k < l.length) : leastL R (l.take (k + 1)) = lstep R (leastL R (l.take k)) l[k] := by
  unfold leastL
  rw [List.take_add_one, List.getElem?_eq_getElem hk, List.foldl_append]
  rfl
theorem leastL_spec (R : List Int) (l : List Mv) : ∀ k, k ≤ l.length → (leastL R (l.take k) = (-1, -1) ∧ ∀ j (hj : j < l.length), j < k → mostG R 0 l[j].2 < 0) ∨
    ∃ i, ∃ hi : i < l.length, i < k ∧ 0 ≤ mostG R 0 l[i].2 ∧ leastL R (l.take k) = (mostG R 0 l[i].2, l[i].1) ∧ (∀ j (hj : j < l.length), j < k → mostG R 0 l[j].2 < 0 ∨ mostG R 0 l[i].2 ≤ mostG R 0 l[j].2) ∧ (∀ j (hj : j < l.length), j < i → mostG R 0 l[j].2 < 0 ∨ mostG R 0 l[i].2 < mostG R 0 l[j].2)
  | 0, _ => .inl ⟨by simp [leastL], fun j hj h => by omega⟩
  | k + 1, hk => by
    have hkl : k < l.length := by omega
    rw [leastL_succ R l k hkl]
    rcases leastL_spec R l k (by omega) with ⟨e, h⟩ | ⟨i, hi, hik, h0, e, h1, h2⟩
    · rw [e]
      unfold lstep
      by_cases hc : 0 ≤ mostG R 0 l[k].2
      · rw [if_pos ⟨hc, .inl (by simp)⟩]
        refine .inr ⟨k, hkl, by omega, hc, rfl, fun j hj hjk => ?_, fun j hj hjk => .inl (h j hj hjk)⟩
        by_cases e : j = k
        · subst e; exact .inr (Int.le_refl _)
        · exact .inl (h j hj (by omega))
      · rw [if_neg (fun h => hc h.1)]
        refine .inl ⟨rfl, fun j hj hjk => ?_⟩
        by_cases e : j = k
        · subst e; omega
        · exact h j hj (by omega)
    · rw [e]
      unfold lstep
      by_cases hc : 0 ≤ mostG R 0 l[k].2 ∧ (mostG R 0 l[i].2 < 0 ∨ mostG R 0 l[k].2 < mostG R 0 l[i].2)
      · rw [if_pos hc]
        refine .inr ⟨k, hkl, by omega, hc.1, rfl, fun j hj hjk => ?_, fun j hj hjk => ?_⟩
        · by_cases e : j = k
          · subst e; exact .inr (Int.le_refl _)
          · rcases h1 j hj (by omega) with h | h
            · exact .inl h
            · exact .inr (by omega)
        · rcases h1 j hj (by omega) with h | h
          · exact .inl h
          · exact .inr (by omega)
      · rw [if_neg hc]
        refine .inr ⟨i, hi, by omega, h0, rfl, fun j hj hjk => ?_, h2⟩
        by_cases e : j = k
        · subst e; omega
        · exact h1 j hj (by omega)
theorem gdF_iff {R : List Int} {p : Nat} {l : List Mv} {j : Nat} (hj : j < l.length) (hne : l[j].2 ≠ []) (hr : ∀ t ∈ l[j].2, 0 ≤ t ∧ t < R.length) : gdF R p l j = true ↔ 0 ≤ mostG R 0 l[j].2 ∧ mostG R 0 l[j].2 < R.getD p 0 := by
  have e : gdF R p l j = !(l[j]).2.any (badF R p) := by simp [gdF, hj]
  rw [e, Bool.not_eq_true', List.any_eq_false]
  constructor
  · intro h
    rcases mostG_cases hne hr with ⟨_, t, ht, h1⟩ | ⟨h1, _, t, ht, h2⟩
    · have := badF_iff.1 (by simpa using h t ht)
      omega
    · have := badF_iff.1 (by simpa using h t ht)
      omega
  · rintro ⟨h1, h2⟩ t ht
    rcases mostG_cases hne hr with ⟨h3, _⟩ | ⟨_, h3, _⟩
    · omega
    · have := h3 t ht
      have := (badF_iff (R := R) (p := p) (x := t)).2 (by omega)
      simp [this]
/-- THE PLAIN LAW: what the inner loop finds is the rank, and the Act of the row. -/
theorem rank_law {g : Gm} (hg : GmOK g) {R : List Int} (h : Rk g R) {p : Nat} (hp : p < g.1.length) (hgoal : g.1.getD p false = false) :
    (leastL R (g.2.getD p []) = (-1, -1) ∧ R.getD p 0 = -1) ∨ (∃ n a, 0 ≤ n ∧ leastL R (g.2.getD p []) = (n, a) ∧ R.getD p 0 = n + 1 ∧ firstA g R p = a) := by
  have hpm : p < g.2.length := by have := hg.n; omega
  have hgk : g.2.getD p [] = g.2[p] := by simp [List.getD, hpm]
  have hml : ∀ m ∈ g.2.getD p [], m.2 ≠ [] ∧ ∀ t ∈ m.2, 0 ≤ t ∧ t < R.length := fun m hm => by
    rw [hgk] at hm
    have := hg.m _ (List.getElem_mem hpm) m hm
    exact ⟨this.2.2.1, fun t ht => by have := this.2.2.2 t ht; have := h.len; omega⟩
  have hz : R.getD p 0 ≠ 0 := fun e => by have := (h.zero p hp).1 e; rw [hgoal] at this; cases this
  have hlo := h.lo p hp
  have hsp := leastL_spec R (g.2.getD p []) _ (Nat.le_refl _)
  rw [List.take_length] at hsp
  by_cases h1 : 1 ≤ R.getD p 0
  · right
    obtain ⟨m, hm, hu⟩ := h.up p hp h1
    obtain ⟨j, hj, rfl⟩ := List.getElem_of_mem hm
    obtain ⟨hjne, hjr⟩ := hml _ hm
    have hj0 : 0 ≤ mostG R 0 (g.2.getD p [])[j].2 ∧ mostG R 0 (g.2.getD p [])[j].2 ≤ R.getD p 0 - 1 := by
      rcases mostG_cases hjne hjr with ⟨_, t, ht, h3⟩ | ⟨h3, _, t, ht, h4⟩
      · have := hu t ht; omega
      · have := hu t ht; omega
    rcases hsp with ⟨_, hn⟩ | ⟨i, hi, _, h0, e, hle, hfi⟩
    · have := hn j hj hj; omega
    · have hmi : (g.2.getD p [])[i] ∈ g.2.getD p [] := List.getElem_mem hi
      obtain ⟨hine, hir⟩ := hml _ hmi
      obtain ⟨t, ht, hd⟩ := h.dn p hp h1 _ hmi
      have hn : mostG R 0 (g.2.getD p [])[i].2 = R.getD p 0 - 1 := by
        have h5 := hle j hj hj
        rcases mostG_cases hine hir with ⟨h3, _⟩ | ⟨_, h3, _⟩
        · omega
        · have := h3 t ht; omega
      refine ⟨_, _, h0, e, by omega, ?_⟩
      obtain ⟨k, hk, hfa, hg1, hg2⟩ := h.first hp h1
      obtain ⟨hkne, hkr⟩ := hml _ (List.getElem_mem hk)
      have hgk1 := (gdF_iff hk hkne hkr).1 hg1
      have hki : k = i := by
        rcases Nat.lt_trichotomy k i with hx | hx | hx
        · have := hfi k hk hx; omega
        · exact hx
        · have h6 := hg2 i hx
          have h7 := (gdF_iff (p := p) hi hine hir).2 (by omega)
          rw [h6] at h7; cases h7
      subst hki
      exact hfa
  · left
    refine ⟨?_, by omega⟩
    rcases hsp with ⟨e, _⟩ | ⟨i, hi, _, h0, e, _⟩
    · exact e
    · exfalso
      obtain ⟨hine, hir⟩ := hml _ (List.getElem_mem hi)
      rcases mostG_cases hine hir with ⟨h3, _⟩ | ⟨_, h3, _⟩
      · omega
      · have := h.all p _ (List.getElem_mem hi) (fun t ht => (h3 t ht).1)
        omega
theorem rowsK_pre (g : Gm) (R : List Int) (k d : Nat) : ∃ s, rowsK g R (k + d) = rowsK g R k ++ s := by
  induction d with
  | zero => exact ⟨[], by simp⟩
  | succ d ih =>
    obtain ⟨s, hs⟩ := ih
    exact ⟨s ++ (rowF g R (k + d)).toList, by rw [← Nat.add_assoc, rowsK_succ, hs, List.append_assoc]⟩
theorem rowsK_at {g : Gm} {R : List Int} {k n : Nat} (hk : k < n) {x : Row} (h : (rowF g R k).toList = [x]) : ∃ ha : (rowsK g R k).length < (rowsK g R n).length, (rowsK g R n)[(rowsK g R k).length] = x := by
  obtain ⟨d, rfl⟩ : ∃ d, n = k + 1 + d := ⟨n - (k + 1), by omega⟩
  obtain ⟨s, hs⟩ := rowsK_pre g R (k + 1) d
  rw [rowsK_succ, h] at hs
  have hlen : (rowsK g R k).length < (rowsK g R (k + 1 + d)).length := by rw [hs]; simp
  refine ⟨hlen, ?_⟩
  have e : (rowsK g R (k + 1 + d))[(rowsK g R k).length]? = some x := by rw [hs]; simp
  rw [List.getElem?_eq_getElem hlen] at e
  injection e
end Go.Proofs.Ytiaplhdgchbkkaa
