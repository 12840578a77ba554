
/- Petri, plain: what a firing does; siphons stay empty, traps stay marked. -/
import Derived.Test.YtbbogflibekgfaaDoorPetWp
set_option linter.unusedSimpArgs false
set_option linter.unusedVariables false
namespace Go.Proofs.YtbbogflibekgfaaDoor
open Go.RowKit Go.IntWalk

theorem getD_set (m : List Int) (k i : Nat) (x : Int) (hk : k < m.length) : (m.set k x).getD i 0 = if i = k then x else m.getD i 0 := by
  rw [List.getD_eq_getElem?_getD, List.getElem?_set]
  by_cases h : k = i
  · subst h; simp [hk]
  · rw [if_neg h, if_neg (fun e => h e.symm), List.getD_eq_getElem?_getD]
theorem addN_get (d : Int) : ∀ (s m : List Int), s.Pairwise (· < ·) → (∀ p ∈ s, 0 ≤ p ∧ p < m.length) → ∀ i : Nat, (addN d m s).getD i 0 = m.getD i 0 + (if (i : Int) ∈ s then d else 0)
  | [], m, _, _, i => by simp [addN]
  | p :: s, m, hp, hs, i => by
    obtain ⟨h1, h2⟩ := List.pairwise_cons.1 hp
    have hp0 := hs p (List.mem_cons_self ..)
    have hl : p.toNat < m.length := by omega
    have ih := addN_get d s (m.set p.toNat (m.getD p.toNat 0 + d)) h2 (fun q hq => by rw [List.length_set]; exact hs q (List.mem_cons_of_mem _ hq)) i
    rw [show addN d m (p :: s) = addN d (m.set p.toNat (m.getD p.toNat 0 + d)) s from rfl, ih, getD_set _ _ _ _ hl]
    by_cases hi : i = p.toNat
    · subst hi
      have hns : ¬ ((p.toNat : Nat) : Int) ∈ s := fun hm => by have := h1 _ hm; omega
      have e : ((p.toNat : Nat) : Int) = p := by omega
      rw [if_pos rfl, if_neg hns, if_pos (by rw [e]; exact List.mem_cons_self ..)]
      omega
    · rw [if_neg hi]
      have hip : ¬ (i : Int) = p := by omega
      by_cases hm : (i : Int) ∈ s
      · rw [if_pos hm, if_pos (List.mem_cons_of_mem _ hm)]
      · rw [if_neg hm, if_neg (fun hc => (List.mem_cons.1 hc).elim hip hm)]
structure Fired (N : Nat) (T : List Tr) (m m' : List Int) (t : Tr) : Prop where
  mem : t ∈ T
  len : m'.length = N
  ok : markOK ((N : Int), T) m' = true
  en : ∀ p ∈ t.1, 1 ≤ m.getD p.toNat 0
  get : ∀ i : Nat, m'.getD i 0 = m.getD i 0 - (if (i : Int) ∈ t.1 then 1 else 0) + (if (i : Int) ∈ t.2 then 1 else 0)
theorem net_sets {N : Nat} {T : List Tr} (hok : netOK ((N : Int), T) = true) {t : Tr} (ht : t ∈ T) : setB N t.1 = true ∧ setB N t.2 = true := by
  simp only [netOK, Bool.and_eq_true, decide_eq_true_eq, List.all_eq_true] at hok
  exact hok.2 t ht
theorem fired {N : Nat} {T : List Tr} {m : List Int} {q : Int} (hok : netOK ((N : Int), T) = true) (hmk : markOK ((N : Int), T) m = true) (h : (fireN N T m q).2 = 0) : ∃ t, Fired N T m (fireN N T m q).1 t := by
  unfold fireN at h ⊢
  split at h
  · cases h
  · rename_i hq
    rw [if_neg hq]
    split at h
    · cases h
    · rename_i he
      rw [if_neg he]
      split at h
      · rename_i hm
        rw [if_pos hm]
        have hql : q.toNat < T.length := by omega
        have hT : T.getD q.toNat ([], []) = T[q.toNat] := by rw [List.getD_eq_getElem?_getD, List.getElem?_eq_getElem hql]; rfl
        rw [hT] at hm ⊢
        obtain ⟨s1, s2⟩ := net_sets hok (List.getElem_mem hql)
        have hml : m.length = N := by
          simp only [markOK, Bool.and_eq_true, decide_eq_true_eq] at hmk
          omega
        have b1 : ∀ p ∈ T[q.toNat].1, 0 ≤ p ∧ p < m.length := fun p hp => by have := setB_mem s1 p hp; omega
        have b2 : ∀ p ∈ T[q.toNat].2, 0 ≤ p ∧ p < (addN (-1) m T[q.toNat].1).length := fun p hp => by rw [addN_len]; have := setB_mem s2 p hp; omega
        refine ⟨T[q.toNat], List.getElem_mem hql, by rw [addN_len, addN_len, hml], hm, fun p hp => ?_, fun i => ?_⟩
        · simp only [Bool.not_eq_false] at he
          unfold enN at he
          simp only [Bool.and_eq_true, Bool.not_eq_true', List.any_eq_false, hT] at he
          have := he.2 p hp
          simp only [lowF, decide_eq_true_eq] at this
          omega
        · rw [addN_get 1 _ _ (setB_pw s2) b2 i, addN_get (-1) _ _ (setB_pw s1) b1 i]
          split <;> omega
      · cases h
def emptyN (m s : List Int) : Bool := s.all (fun p => decide (m.getD p.toNat 0 = 0))
def markedN (m s : List Int) : Bool := s.any (fun p => decide (0 < m.getD p.toNat 0))
theorem not_hit {v : Nat} {e : Ed} (h : hit v e = false) (i : Nat) (h1 : e.1.testBit i = true) (h2 : v.testBit i = true) : ∃ j, e.2.testBit j = true ∧ v.testBit j = true := by
  unfold hit at h
  have h3 : e.1 &&& v ≠ 0 := fun hc => and_zero.1 hc i ⟨h1, h2⟩
  simp only [h3, ne_eq, not_false_eq_true, decide_true, Bool.true_and, decide_eq_false_iff_not] at h
  refine Classical.byContradiction fun hc => h (and_zero.2 fun j hj => hc ⟨j, hj⟩)
theorem large_parts {N : Nat} {T : List Tr} {trap : Bool} {b : Int} {r : List Int} (hN : N ≤ 64) (h : LargeL N T trap (pickN b N) r) : ∃ v, r = listN v ∧ v < 2 ^ N ∧ (v = 0 ∨ closedN (edgesN ((N : Int), T) trap) v = true) := by
  unfold LargeL at h
  rw [if_pos (pickN_set _ _)] at h
  obtain ⟨v, hv, rfl⟩ := h
  exact ⟨v, rfl, sub_lt hv.sub (word_lt (fun p hp => by have := pickN_mem.1 hp; omega)), hv.cl⟩
theorem large_is {N : Nat} {T : List Tr} {trap : Bool} {b : Int} {r : List Int} (hN : N ≤ 64) (h : LargeL N T trap (pickN b N) r) : (r.length = 0 ∨ isN N T trap r = true) ∧ setB N r = true := by
  obtain ⟨v, rfl, hl, hc⟩ := large_parts hN h
  refine ⟨?_, list_set hl⟩
  rcases hc with rfl | hc
  · left; rw [list_zero]; rfl
  · right
    unfold isN
    rw [list_set hl, word_list (Nat.lt_of_lt_of_le hl (Nat.pow_le_pow_right (by omega) hN)), hc]
    rfl
theorem word_mem {N : Nat} {s : List Int} (h : setB N s = true) (i : Nat) : (wordN s).testBit i = true ↔ (i : Int) ∈ s := by
  rw [word_bit (fun p hp => (setB_mem h p hp).1)]
  simp
theorem list_bit {v : Nat} {p : Int} (h : p ∈ listN v) : 0 ≤ p ∧ p < 64 ∧ v.testBit p.toNat = true := list_mem.1 h
theorem keep_siphon {N : Nat} {T : List Tr} {b : Int} {s m m' : List Int} {t : Tr} (hN : N ≤ 64) (hok : netOK ((N : Int), T) = true) (h : LargeL N T false (pickN b N) s) (hf : Fired N T m m' t) (he : emptyN m s = true) : emptyN m' s = true := by
  obtain ⟨v, rfl, hl, hc⟩ := large_parts hN h
  obtain ⟨s1, s2⟩ := net_sets hok hf.mem
  unfold emptyN at he ⊢
  rw [List.all_eq_true] at he ⊢
  intro p hp
  have h0 := he p hp
  simp only [decide_eq_true_eq] at h0 ⊢
  obtain ⟨p0, p1, pb⟩ := list_bit hp
  have ep : ((p.toNat : Nat) : Int) = p := by omega
  rcases hc with rfl | hc
  · rw [Nat.zero_testBit] at pb; cases pb
  have hh := (closed_parts hc).2 (wordN t.2, wordN t.1) (List.mem_map.2 ⟨t, hf.mem, rfl⟩)
  have hin : ∀ j : Nat, (j : Int) ∈ t.1 → v.testBit j = true → False := fun j hj hv => by
    have hl2 := setB_mem s1 _ hj
    have := he (j : Int) (list_mem.2 ⟨by omega, by omega, hv⟩)
    simp only [decide_eq_true_eq, Int.toNat_natCast] at this
    have h4 := hf.en _ hj
    rw [Int.toNat_natCast] at h4
    omega
  have hn1 : ¬ ((p.toNat : Nat) : Int) ∈ t.1 := fun hj => hin p.toNat hj pb
  have hn2 : ¬ ((p.toNat : Nat) : Int) ∈ t.2 := fun hj => by
    obtain ⟨j, h1, h2⟩ := not_hit hh p.toNat ((word_mem s2 _).2 hj) pb
    exact hin j ((word_mem s1 _).1 h1) h2
  rw [hf.get, if_neg hn1, if_neg hn2, h0]
  rfl
theorem keep_trap {N : Nat} {T : List Tr} {b : Int} {s m m' : List Int} {t : Tr} (hN : N ≤ 64) (hok : netOK ((N : Int), T) = true) (hmk : markOK ((N : Int), T) m = true) (h : LargeL N T true (pickN b N) s) (hf : Fired N T m m' t) (he : markedN m s = true) : markedN m' s = true := by
  obtain ⟨v, rfl, hl, hc⟩ := large_parts hN h
  obtain ⟨s1, s2⟩ := net_sets hok hf.mem
  unfold markedN at he ⊢
  rw [List.any_eq_true] at he ⊢
  obtain ⟨p, hp, h0⟩ := he
  simp only [decide_eq_true_eq] at h0
  obtain ⟨p0, p1, pb⟩ := list_bit hp
  have ep : ((p.toNat : Nat) : Int) = p := by omega
  rcases hc with rfl | hc
  · rw [Nat.zero_testBit] at pb; cases pb
  have hh := (closed_parts hc).2 (wordN t.1, wordN t.2) (List.mem_map.2 ⟨t, hf.mem, rfl⟩)
  have hpos : ∀ i : Nat, 0 ≤ m.getD i 0 := fun i => by
    simp only [markOK, Bool.and_eq_true, decide_eq_true_eq, List.all_eq_true] at hmk
    rw [List.getD_eq_getElem?_getD]
    by_cases hi : i < m.length
    · rw [List.getElem?_eq_getElem hi]
      exact (hmk.2 _ (List.getElem_mem hi)).1
    · rw [List.getElem?_eq_none (by omega)]
      exact Int.le_refl 0
  by_cases hi : ((p.toNat : Nat) : Int) ∈ t.1
  · obtain ⟨j, h1, h2⟩ := not_hit hh p.toNat ((word_mem s1 _).2 hi) pb
    have hj := (word_mem s2 _).1 h1
    have hjl := setB_mem s2 _ hj
    refine ⟨(j : Int), list_mem.2 ⟨by omega, by omega, h2⟩, ?_⟩
    simp only [decide_eq_true_eq, Int.toNat_natCast]
    rw [hf.get, if_pos hj]
    by_cases hji : (j : Int) ∈ t.1
    · rw [if_pos hji]
      have := hf.en _ hji
      rw [Int.toNat_natCast] at this
      omega
    · rw [if_neg hji]
      have := hpos j
      omega
  · refine ⟨p, hp, ?_⟩
    simp only [decide_eq_true_eq]
    rw [hf.get, if_neg hi]
    split <;> omega
end Go.Proofs.YtbbogflibekgfaaDoor
