
/- Layouts, the plain mathematics: the rank of a layout in the combinatorial number system, its inverse, its order. No program is looked into here. -/
set_option linter.unusedSimpArgs false
set_option linter.unusedVariables false
namespace Go.Proofs.YtgbgcmhmlnmklaaGreatDoor

def binom : Nat → Nat → Nat
  | _, 0 => 1
  | 0, _+1 => 0
  | n+1, k+1 => binom n k + binom n (k+1)
theorem binom_big (n k : Nat) (h : n < k) : binom n k = 0 := by
  induction n generalizing k with
  | zero => cases k with | zero => omega | succ k => rfl
  | succ n ih => cases k with | zero => omega | succ k => simp [binom, ih k (by omega), ih (k+1) (by omega)]
theorem binom_pos (n k : Nat) (h : k ≤ n) : 0 < binom n k := by
  induction n generalizing k with
  | zero => cases k with | zero => exact Nat.one_pos | succ k => omega
  | succ n ih => cases k with | zero => exact Nat.one_pos | succ k => have := ih k (by omega); simp only [binom]; omega
theorem binom_le_pow (n k : Nat) : binom n k ≤ 2^n := by
  induction n generalizing k with
  | zero => cases k with | zero => exact Nat.le_refl _ | succ k => exact Nat.zero_le _
  | succ n ih => cases k with
    | zero => exact Nat.one_le_two_pow
    | succ k => have h1 := ih k; have h2 := ih (k+1); simp only [binom, Nat.pow_succ]; omega
theorem binom_le (n k : Nat) (h : n ≤ 24) : binom n k ≤ 16777216 :=
  Nat.le_trans (binom_le_pow n k) (Nat.le_trans (Nat.pow_le_pow_right (by omega) h) (by decide))

/-- The rank of a list of cells among those with as many shelves. -/
def rankO : List Bool → Nat
  | [] => 0
  | true :: r => rankO r
  | false :: r => (if 0 < r.count true then binom r.length (r.count true - 1) else 0) + rankO r
def unrankO : Nat → Nat → Nat → List Bool
  | 0, _, _ => []
  | m+1, 0, r => false :: unrankO m 0 r
  | m+1, c+1, r => if r < binom m c then true :: unrankO m c r else false :: unrankO m (c+1) (r - binom m c)

theorem rankO_lt : ∀ o : List Bool, rankO o < binom o.length (o.count true)
  | [] => by simp [rankO, binom]
  | true :: r => by
    have := rankO_lt r
    simp only [rankO, List.length_cons, List.count_cons_self, binom]; omega
  | false :: r => by
    have := rankO_lt r
    have hc : (false :: r).count true = r.count true := by simp
    rw [hc]
    simp only [rankO, List.length_cons]
    by_cases h : 0 < r.count true
    · rw [if_pos h]
      obtain ⟨c, hc'⟩ : ∃ c, r.count true = c + 1 := ⟨r.count true - 1, by omega⟩
      rw [hc'] at this ⊢
      simp only [binom, Nat.add_sub_cancel]; omega
    · rw [if_neg h]
      have h0 : r.count true = 0 := by omega
      rw [h0] at this ⊢
      have e1 : binom r.length 0 = 1 := by cases r.length <;> rfl
      have e2 : binom (r.length + 1) 0 = 1 := rfl
      omega

theorem unrankO_length : ∀ m c r, (unrankO m c r).length = m
  | 0, _, _ => rfl
  | m+1, 0, r => by simp [unrankO, unrankO_length m]
  | m+1, c+1, r => by
    simp only [unrankO]
    split <;> simp [unrankO_length m]
theorem unrankO_count : ∀ m c r, r < binom m c → (unrankO m c r).count true = c
  | 0, 0, _, _ => rfl
  | 0, c+1, r, h => by simp [binom] at h
  | m+1, 0, r, h => by
    have h0 : r < binom m 0 := by have e : binom (m+1) 0 = 1 := rfl; have : binom m 0 = 1 := by cases m <;> rfl
                                  omega
    simp [unrankO, unrankO_count m 0 r h0]
  | m+1, c+1, r, h => by
    simp only [unrankO]
    simp only [binom] at h
    split
    · rename_i h1; simp [unrankO_count m c r h1]
    · rename_i h1; simp [unrankO_count m (c+1) (r - binom m c) (by omega)]
theorem rank_unrank : ∀ m c r, r < binom m c → rankO (unrankO m c r) = r
  | 0, 0, r, h => by simp [binom] at h; simp [unrankO, rankO, h]
  | 0, c+1, r, h => by simp [binom] at h
  | m+1, 0, r, h => by
    have e : binom (m+1) 0 = 1 := rfl
    have e2 : binom m 0 = 1 := by cases m <;> rfl
    have h0 : r < binom m 0 := by omega
    simp only [unrankO, rankO, unrankO_count m 0 r h0, Nat.lt_irrefl, if_false, rank_unrank m 0 r h0]
    omega
  | m+1, c+1, r, h => by
    simp only [binom] at h
    simp only [unrankO]
    split
    · rename_i h1; simp only [rankO, rank_unrank m c r h1]
    · rename_i h1
      have h2 : r - binom m c < binom m (c+1) := by omega
      simp only [rankO, unrankO_count m (c+1) _ h2, unrankO_length, rank_unrank m (c+1) _ h2, Nat.add_sub_cancel]
      rw [if_pos (by omega)]; omega
theorem unrank_rank : ∀ o : List Bool, unrankO o.length (o.count true) (rankO o) = o
  | [] => rfl
  | true :: r => by
    have h := rankO_lt r
    simp only [List.length_cons, List.count_cons_self, rankO, unrankO]
    rw [if_pos h, unrank_rank r]
  | false :: r => by
    have hc : (false :: r).count true = r.count true := by simp
    have ih := unrank_rank r
    rw [hc]
    simp only [List.length_cons, rankO]
    by_cases h : 0 < r.count true
    · rw [if_pos h]
      obtain ⟨c, hc'⟩ : ∃ c, r.count true = c + 1 := ⟨r.count true - 1, by omega⟩
      rw [hc'] at ih ⊢
      simp only [unrankO, Nat.add_sub_cancel]
      rw [if_neg (by omega), Nat.add_sub_cancel_left, ih]
    · rw [if_neg h]
      have h0 : r.count true = 0 := by omega
      rw [h0] at ih ⊢
      simp only [unrankO, Nat.zero_add, ih]

/-- The order of lists: the first that differs has a shelf. -/
def lexB : List Bool → List Bool → Bool
  | a :: x, b :: y => if a = b then lexB x y else a
  | _, _ => false
theorem rankO_lex : ∀ x y : List Bool, x.length = y.length → x.count true = y.count true → (rankO x < rankO y ↔ lexB x y = true)
  | [], [], _, _ => by simp [lexB]
  | true :: x, true :: y, h1, h2 => by simpa [rankO, lexB] using rankO_lex x y (by simpa using h1) (by simpa using h2)
  | false :: x, false :: y, h1, h2 => by
    have hl : x.length = y.length := by simpa using h1
    have hc : x.count true = y.count true := by simpa using h2
    have := rankO_lex x y hl hc
    simp only [rankO, lexB, if_true, hl, hc]
    rw [← this]; omega
  | true :: x, false :: y, h1, h2 => by
    have hl : x.length = y.length := by simpa using h1
    have hc : x.count true + 1 = y.count true := by simpa using h2
    have := rankO_lt x
    simp only [rankO, lexB]
    rw [if_pos (by omega), ← hl, ← hc, Nat.add_sub_cancel]
    simp; omega
  | false :: x, true :: y, h1, h2 => by
    have hl : x.length = y.length := by simpa using h1
    have hc : x.count true = y.count true + 1 := by simpa using h2
    have := rankO_lt y
    simp only [rankO, lexB]
    rw [if_pos (by omega), hl, hc, Nat.add_sub_cancel]
    simp; omega
  | [], _ :: _, h, _ => by simp at h
  | _ :: _, [], h, _ => by simp at h

/-- The cells from i on, without the target. -/
def restL (l : List Bool) (t i : Nat) : List Bool := if i ≤ t then (l.drop i).eraseIdx (t - i) else l.drop i
theorem restL_at (l : List Bool) (t : Nat) (ht : t < l.length) : restL l t t = restL l t (t+1) := by
  unfold restL
  rw [if_pos (Nat.le_refl _), if_neg (by omega), Nat.sub_self, List.drop_eq_getElem_cons ht, List.eraseIdx_cons_zero]
theorem restL_step (l : List Bool) (t i : Nat) (hi : i < l.length) (h : i ≠ t) : restL l t i = l[i] :: restL l t (i+1) := by
  unfold restL
  by_cases hlt : i ≤ t
  · rw [if_pos hlt, if_pos (by omega), List.drop_eq_getElem_cons hi]
    obtain ⟨d, hd⟩ : ∃ d, t - i = d + 1 := ⟨t - i - 1, by omega⟩
    rw [hd, List.eraseIdx_cons_succ, show t - (i+1) = d by omega]
  · rw [if_neg hlt, if_neg (by omega), List.drop_eq_getElem_cons hi]
theorem restL_end (l : List Bool) (t : Nat) (ht : t < l.length) : restL l t l.length = [] := by
  unfold restL; rw [if_neg (by omega)]; simp
theorem restL_len (l : List Bool) (t i : Nat) (ht : t < l.length) (hi : i ≤ l.length) : (restL l t i).length = if i ≤ t then l.length - i - 1 else l.length - i := by
  unfold restL
  split
  · rw [List.length_eraseIdx_of_lt (by simp; omega)]; simp
  · simp
theorem restL_count0 (l : List Bool) (t : Nat) (ht : t < l.length) (hb : l[t] = true) : (restL l t 0).count true + 1 = l.count true := by
  have h : l = l.take t ++ l[t] :: l.drop (t+1) := by
    rw [← List.drop_eq_getElem_cons ht, List.take_append_drop]
  unfold restL
  rw [if_pos (Nat.zero_le _), List.drop_zero, Nat.sub_zero, List.eraseIdx_eq_take_drop_succ, List.count_append]
  conv => rhs; rw [h]
  rw [List.count_append, hb, List.count_cons_self]
  omega

theorem ins_erase : ∀ (l : List Bool) (t : Nat) (h : t < l.length), (l.eraseIdx t).insertIdx t l[t] = l
  | a :: l, 0, _ => by simp
  | a :: l, t+1, h => by simp [List.insertIdx_succ_cons, ins_erase l t (by simpa using h)]
theorem erase_ins : ∀ (o : List Bool) (t : Nat) (b : Bool), (o.insertIdx t b).eraseIdx t = if t ≤ o.length then o else o.eraseIdx t
  | o, 0, b => by simp
  | [], t+1, b => by simp
  | a :: o, t+1, b => by
    simp only [List.insertIdx_succ_cons, List.eraseIdx_cons_succ, erase_ins o t b, List.length_cons, Nat.add_le_add_iff_right]
    split <;> rfl
theorem ins_at : ∀ (o : List Bool) (t : Nat) (b : Bool) (h : t ≤ o.length), (o.insertIdx t b)[t]? = some b
  | o, 0, b, _ => by simp
  | a :: o, t+1, b, h => by simpa [List.insertIdx_succ_cons] using ins_at o t b (by simpa using h)
theorem ins_count : ∀ (o : List Bool) (t : Nat) (h : t ≤ o.length), (o.insertIdx t true).count true = o.count true + 1
  | o, 0, _ => by simp
  | a :: o, t+1, h => by
    simp only [List.insertIdx_succ_cons, List.count_cons, ins_count o t (by simpa using h)]
    omega

/-- The rank of a layout with the target t. -/
def rankN (l : List Bool) (t : Nat) : Nat := t * binom (l.length - 1) (l.count true - 1) + rankO (restL l t 0)
/-- A layout of n cells and k shelves by its rank. -/
def unrankN (n k r : Nat) : List Bool := (unrankO (n-1) (k-1) (r % binom (n-1) (k-1))).insertIdx (r / binom (n-1) (k-1)) true

/-- What is right. -/
def RightN (l : List Bool) (t : Nat) : Prop := 1 ≤ l.length ∧ l.length ≤ 24 ∧ ∃ h : t < l.length, l[t] = true
theorem RightN.count {l : List Bool} {t : Nat} (h : RightN l t) : 1 ≤ l.count true ∧ l.count true ≤ l.length ∧ (restL l t 0).length = l.length - 1 ∧ (restL l t 0).count true = l.count true - 1 := by
  obtain ⟨h1, h2, ht, hb⟩ := h
  have := restL_count0 l t ht hb
  have h3 := restL_len l t 0 ht (by omega)
  rw [if_pos (by omega)] at h3
  have h4 : l.count true ≤ l.length := List.count_le_length
  omega
theorem rankN_lt {l : List Bool} {t : Nat} (h : RightN l t) : rankN l t < l.length * binom (l.length - 1) (l.count true - 1) := by
  obtain ⟨c1, c2, c3, c4⟩ := h.count
  obtain ⟨h1, h2, ht, hb⟩ := h
  have := rankO_lt (restL l t 0)
  rw [c3, c4] at this
  unfold rankN
  have h5 : (t + 1) * binom (l.length - 1) (l.count true - 1) ≤ l.length * binom (l.length - 1) (l.count true - 1) := Nat.mul_le_mul_right _ (by omega)
  rw [Nat.add_mul, Nat.one_mul] at h5
  omega
theorem rankN_div {l : List Bool} {t : Nat} (h : RightN l t) : rankN l t / binom (l.length - 1) (l.count true - 1) = t ∧ rankN l t % binom (l.length - 1) (l.count true - 1) = rankO (restL l t 0) := by
  obtain ⟨c1, c2, c3, c4⟩ := h.count
  have := rankO_lt (restL l t 0)
  rw [c3, c4] at this
  unfold rankN
  constructor
  · rw [Nat.mul_comm, Nat.mul_add_div (by omega), Nat.div_eq_of_lt this]; rfl
  · rw [Nat.mul_comm, Nat.mul_add_mod, Nat.mod_eq_of_lt this]
theorem unrank_rankN {l : List Bool} {t : Nat} (h : RightN l t) : unrankN l.length (l.count true) (rankN l t) = l := by
  obtain ⟨c1, c2, c3, c4⟩ := h.count
  obtain ⟨e1, e2⟩ := rankN_div h
  unfold unrankN
  rw [e1, e2]
  have := unrank_rank (restL l t 0)
  rw [c3, c4] at this
  rw [this]
  obtain ⟨_, _, ht, hb⟩ := h
  unfold restL
  rw [if_pos (Nat.zero_le _), List.drop_zero, Nat.sub_zero]
  rw [← hb]
  exact ins_erase l t ht
theorem unrankN_facts {n k r : Nat} (hn : 1 ≤ n) (hn' : n ≤ 24) (hk : 1 ≤ k) (hk' : k ≤ n) (hr : r < n * binom (n-1) (k-1)) :
    RightN (unrankN n k r) (r / binom (n-1) (k-1)) ∧ (unrankN n k r).length = n ∧ (unrankN n k r).count true = k ∧ rankN (unrankN n k r) (r / binom (n-1) (k-1)) = r ∧
      restL (unrankN n k r) (r / binom (n-1) (k-1)) 0 = unrankO (n-1) (k-1) (r % binom (n-1) (k-1)) := by
  have hp : 0 < binom (n-1) (k-1) := binom_pos _ _ (by omega)
  have hq : r / binom (n-1) (k-1) < n := by rw [Nat.div_lt_iff_lt_mul hp]; exact hr
  have hm : r % binom (n-1) (k-1) < binom (n-1) (k-1) := Nat.mod_lt _ hp
  have hdm := Nat.div_add_mod r (binom (n-1) (k-1))
  generalize hQ : r / binom (n-1) (k-1) = q at *
  generalize hM : r % binom (n-1) (k-1) = m at *
  have hu : unrankN n k r = (unrankO (n-1) (k-1) m).insertIdx q true := by unfold unrankN; rw [hQ, hM]
  have hl : (unrankO (n-1) (k-1) m).length = n - 1 := unrankO_length _ _ _
  have h1 : (unrankN n k r).length = n := by rw [hu, List.length_insertIdx_of_le_length (by omega), hl]; omega
  have h2 : (unrankN n k r).count true = k := by rw [hu, ins_count _ _ (by omega), unrankO_count _ _ _ hm]; omega
  have h3 : restL (unrankN n k r) q 0 = unrankO (n-1) (k-1) m := by
    unfold restL
    rw [if_pos (Nat.zero_le _), List.drop_zero, Nat.sub_zero, hu, erase_ins, if_pos (by omega)]
  have h4 : (unrankN n k r)[q]? = some true := by rw [hu]; exact ins_at _ _ _ (by omega)
  have h5 : RightN (unrankN n k r) q := ⟨by omega, by omega, by omega, by
    rw [List.getElem?_eq_getElem (by omega)] at h4; exact Option.some.inj h4⟩
  refine ⟨h5, h1, h2, ?_, h3⟩
  unfold rankN
  rw [h3, rank_unrank _ _ _ hm, h1, h2, Nat.mul_comm]; exact hdm
theorem rankN_inj {a b : List Bool} {s t : Nat} (ha : RightN a s) (hb : RightN b t) (hl : a.length = b.length) (hc : a.count true = b.count true) (h : rankN a s = rankN b t) : a = b ∧ s = t := by
  have e1 := unrank_rankN ha
  have e2 := unrank_rankN hb
  obtain ⟨d1, _⟩ := rankN_div ha
  obtain ⟨d2, _⟩ := rankN_div hb
  rw [h, hl, hc] at e1 d1
  exact ⟨e1.symm.trans e2, d1.symm.trans d2⟩
end Go.Proofs.YtgbgcmhmlnmklaaGreatDoor
