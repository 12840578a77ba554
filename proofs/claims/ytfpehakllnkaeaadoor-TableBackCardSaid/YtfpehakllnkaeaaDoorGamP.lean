
/- Game, plain: games, what a right game is, and the search from the goals. -/
import Derived.Test.YtfpehakllnkaeaaDoorBase
set_option linter.unusedSimpArgs false
set_option linter.unusedVariables false
namespace Go.Proofs.YtfpehakllnkaeaaDoor
open Go.RowKit Go.IntWalk

/-- A move: the act, the positions. -/
abbrev Mv := Int × List Int
abbrev Gm := List Bool × List (List Mv)
/-- Numbers ascend strictly above 'last', and lie below n. -/
def asc (n : Int) : Int → List Int → Bool
  | _, [] => true
  | last, x :: r => decide (last < x) && decide (x < n) && asc n x r
def mvsOK (n : Int) : Int → List Mv → Bool
  | _, [] => true
  | last, m :: r => decide (last < m.1) && !m.2.isEmpty && asc n (-1) m.2 && mvsOK n m.1 r
def rightL (g : Gm) : Bool := decide (g.1.length = g.2.length) && decide (g.1.length ≤ 2000000) && g.2.all (mvsOK g.1.length (-1))

theorem asc_mem {n : Int} : ∀ {l : List Int} {last : Int}, asc n last l = true → ∀ x ∈ l, last < x ∧ x < n
  | x :: r, last, h, y, hy => by
    simp only [asc, Bool.and_eq_true, decide_eq_true_eq] at h
    rcases List.mem_cons.1 hy with rfl | hy
    · exact ⟨h.1.1, h.1.2⟩
    · have := asc_mem h.2 y hy; omega
theorem asc_nodup {n : Int} : ∀ {l : List Int} {last : Int}, asc n last l = true → l.Nodup
  | [], _, _ => List.nodup_nil
  | x :: r, last, h => by
    simp only [asc, Bool.and_eq_true, decide_eq_true_eq] at h
    refine List.nodup_cons.2 ⟨fun hx => ?_, asc_nodup h.2⟩
    have := asc_mem h.2 x hx; omega
theorem mvsOK_mem {n : Int} : ∀ {l : List Mv} {last : Int}, mvsOK n last l = true → ∀ m ∈ l, last < m.1 ∧ m.2 ≠ [] ∧ asc n (-1) m.2 = true
  | x :: r, last, h, y, hy => by
    simp only [mvsOK, Bool.and_eq_true, decide_eq_true_eq] at h
    rcases List.mem_cons.1 hy with rfl | hy
    · exact ⟨h.1.1.1, by have := h.1.1.2; simpa using this, h.1.2⟩
    · obtain ⟨a, b, c⟩ := mvsOK_mem h.2 y hy
      exact ⟨by have := h.1.1.1; omega, b, c⟩

/-! ### The search -/
/-- All moves in order, each with its position; positions as natural numbers. -/
def flatF : Nat → List (List Mv) → List (Nat × List Nat)
  | _, [] => []
  | p, l :: r => l.map (fun m => (p, m.2.map Int.toNat)) ++ flatF (p + 1) r
/-- The moves that may lead to t. -/
def intoN : List (Nat × List Nat) → Nat → Nat → List Nat
  | [], _, _ => []
  | m :: r, k, t => (if t ∈ m.2 then [k] else []) ++ intoN r (k + 1) t
structure St where
  R : List Int
  L : List Int
  Q : List Nat
/-- One move loses one of its positions. -/
def stepM (fm : List (Nat × List Nat)) (p : Nat) (s : St) (m : Nat) : St :=
  let L := s.L.set m (s.L.getD m 0 - 1)
  let o := (fm.getD m (0, [])).1
  if L.getD m 0 = 0 ∧ s.R.getD o 0 < 0 then ⟨s.R.set o (s.R.getD p 0 + 1), L, s.Q ++ [o]⟩ else ⟨s.R, L, s.Q⟩
def roundB (fm : List (Nat × List Nat)) (s : St) (p : Nat) : St := (intoN fm 0 p).foldl (stepM fm p) s
def start (g : Gm) : St := ⟨g.1.map (fun b => if b then 0 else -1), (flatF 0 g.2).map (fun m => (m.2.length : Int)), (List.range g.1.length).filter (fun p => g.1.getD p false)⟩
/-- The state behind the first k positions of the queue. -/
def stB (g : Gm) : Nat → St
  | 0 => start g
  | k + 1 => let s := stB g k; if k < s.Q.length then roundB (flatF 0 g.2) s (s.Q.getD k 0) else s

/-- What ranks are, by the moves alone. -/
structure IsRk (goal : List Bool) (fm : List (Nat × List Nat)) (R : List Int) : Prop where
  len : R.length = goal.length
  lo : ∀ q, q < goal.length → -1 ≤ R.getD q 0
  zero : ∀ q, q < goal.length → (R.getD q 0 = 0 ↔ goal.getD q false = true)
  up : ∀ q, q < goal.length → 1 ≤ R.getD q 0 → ∃ m ∈ fm, m.1 = q ∧ ∀ t ∈ m.2, 0 ≤ R.getD t 0 ∧ R.getD t 0 ≤ R.getD q 0 - 1
  dn : ∀ q, q < goal.length → 1 ≤ R.getD q 0 → ∀ m ∈ fm, m.1 = q → ∃ t ∈ m.2, R.getD t 0 < 0 ∨ R.getD q 0 - 1 ≤ R.getD t 0
  all : ∀ m ∈ fm, (∀ t ∈ m.2, 0 ≤ R.getD t 0) → 0 ≤ R.getD m.1 0

/-- A game's moves over n positions: all that is looked at lies inside. -/
structure FmOK (n : Nat) (fm : List (Nat × List Nat)) : Prop where
  o : ∀ m ∈ fm, m.1 < n
  t : ∀ m ∈ fm, ∀ t ∈ m.2, t < n
  ne : ∀ m ∈ fm, m.2 ≠ []
  nd : ∀ m ∈ fm, m.2.Nodup

theorem IsRk.le_of {goal : List Bool} {fm : List (Nat × List Nat)} {R S : List Int} (hf : FmOK goal.length fm) (hR : IsRk goal fm R) (hS : IsRk goal fm S) :
    ∀ (k : Nat) (q : Nat), q < goal.length → (R.getD q 0 = k → S.getD q 0 = k) ∧ (S.getD q 0 = k → R.getD q 0 = k) := by
  have key : ∀ {R S : List Int}, IsRk goal fm R → IsRk goal fm S → ∀ (k : Nat), (∀ j : Nat, j < k → ∀ q, q < goal.length → (R.getD q 0 = j → S.getD q 0 = j) ∧ (S.getD q 0 = j → R.getD q 0 = j)) → ∀ q, q < goal.length → R.getD q 0 = k → S.getD q 0 = k := by
    intro R S hR hS k ih q hq hk
    rcases Nat.eq_zero_or_pos k with rfl | hk0
    · exact (hS.zero q hq).2 ((hR.zero q hq).1 hk)
    · obtain ⟨m, hm, hmq, ht⟩ := hR.up q hq (by omega)
      have hts : ∀ t ∈ m.2, S.getD t 0 = R.getD t 0 := by
        intro t htm
        obtain ⟨a, b⟩ := ht t htm
        obtain ⟨j, hj⟩ : ∃ j : Nat, R.getD t 0 = j := ⟨(R.getD t 0).toNat, by omega⟩
        rw [hj]
        exact (ih j (by omega) t (hf.t m hm t htm)).1 hj
      have h1 := hS.all m hm (fun t htm => by rw [hts t htm]; exact (ht t htm).1)
      rw [hmq] at h1
      rcases Int.lt_or_le (S.getD q 0) k with hlt | hge
      · exfalso
        obtain ⟨j, hj⟩ : ∃ j : Nat, S.getD q 0 = j := ⟨(S.getD q 0).toNat, by omega⟩
        have := (ih j (by omega) q hq).2 hj
        omega
      · rcases Int.lt_or_le (k : Int) (S.getD q 0) with hgt | hle
        · exfalso
          obtain ⟨t, htm, h2⟩ := hS.dn q hq (by omega) m hm hmq
          rw [hts t htm] at h2
          have := ht t htm
          omega
        · omega
  intro k
  induction k using Nat.strongRecOn with
  | ind k ih => exact fun q hq => ⟨key hR hS k ih q hq, key hS hR k (fun j hj q hq => (ih j hj q hq).symm) q hq⟩
theorem IsRk.uniq {goal : List Bool} {fm : List (Nat × List Nat)} {R S : List Int} (hf : FmOK goal.length fm) (hR : IsRk goal fm R) (hS : IsRk goal fm S) : R = S := by
  apply List.ext_getElem
  · rw [hR.len, hS.len]
  · intro q h1 h2
    have hq : q < goal.length := by rw [← hR.len]; exact h1
    have e1 : R[q] = R.getD q 0 := by simp [List.getD, h1]
    have e2 : S[q] = S.getD q 0 := by simp [List.getD, h2]
    rw [e1, e2]
    rcases Int.lt_or_le (R.getD q 0) 0 with h | h
    · rcases Int.lt_or_le (S.getD q 0) 0 with h' | h'
      · have := hR.lo q hq; have := hS.lo q hq; omega
      · obtain ⟨j, hj⟩ : ∃ j : Nat, S.getD q 0 = j := ⟨(S.getD q 0).toNat, by omega⟩
        rw [hj, (IsRk.le_of hf hR hS j q hq).2 hj]
    · obtain ⟨j, hj⟩ : ∃ j : Nat, R.getD q 0 = j := ⟨(R.getD q 0).toNat, by omega⟩
      rw [hj, (IsRk.le_of hf hR hS j q hq).1 hj]

theorem getD_set_ {α : Type} (l : List α) (i j : Nat) (x d : α) (h : i < l.length) : (l.set i x).getD j d = if j = i then x else l.getD j d := by
  simp only [List.getD]
  by_cases e : j = i
  · subst e; simp [h]
  · rw [List.getElem?_set_ne (fun h => e h.symm), if_neg e]
theorem into_mem : ∀ (fm : List (Nat × List Nat)) (k t m : Nat), m ∈ intoN fm k t ↔ k ≤ m ∧ m < k + fm.length ∧ t ∈ (fm.getD (m - k) (0, [])).2
  | [], k, t, m => by
    simp [intoN]
  | x :: r, k, t, m => by
    rw [intoN, List.mem_append, into_mem r (k + 1) t m]
    constructor
    · rintro (h | ⟨h1, h2, h3⟩)
      · split at h
        · rename_i hx
          simp only [List.mem_cons, List.not_mem_nil, or_false] at h
          subst h
          exact ⟨Nat.le_refl _, by simp, by simpa using hx⟩
        · simp at h
      · refine ⟨by omega, by simp; omega, ?_⟩
        obtain ⟨j, rfl⟩ : ∃ j, m = k + 1 + j := ⟨m - (k + 1), by omega⟩
        rw [show k + 1 + j - k = j + 1 by omega]
        rw [show k + 1 + j - (k + 1) = j by omega] at h3
        simpa using h3
    · rintro ⟨h1, h2, h3⟩
      rcases Nat.eq_or_lt_of_le h1 with rfl | h4
      · left
        simp only [Nat.sub_self, List.getD_cons_zero] at h3
        rw [if_pos h3]; simp
      · right
        refine ⟨h4, by simp at h2; omega, ?_⟩
        obtain ⟨j, rfl⟩ : ∃ j, m = k + 1 + j := ⟨m - (k + 1), by omega⟩
        rw [show k + 1 + j - k = j + 1 by omega] at h3
        rw [show k + 1 + j - (k + 1) = j by omega]
        simpa using h3
theorem into_nodup : ∀ (fm : List (Nat × List Nat)) (k t : Nat), (intoN fm k t).Nodup
  | [], k, t => by simp [intoN]
  | x :: r, k, t => by
    rw [intoN]
    refine List.nodup_append.2 ⟨by split <;> simp, into_nodup r (k + 1) t, ?_⟩
    intro a ha b hb e
    subst e
    have := (into_mem r (k + 1) t a).1 hb
    split at ha
    · simp at ha; omega
    · simp at ha
theorem countP_less {l : List Nat} (h : l.Nodup) {p : Nat} (hp : p ∈ l) (d : Nat → Bool) (hd : d p = false) : l.countP (fun t => !(d t || t == p)) + 1 = l.countP (fun t => !d t) := by
  induction l with
  | nil => simp at hp
  | cons x r ih =>
    obtain ⟨h1, h2⟩ := List.nodup_cons.1 h
    simp only [List.countP_cons]
    by_cases e : x = p
    · subst e
      have : r.countP (fun t => !(d t || t == x)) = r.countP (fun t => !d t) := by
        apply List.countP_congr
        intro t ht
        have : t ≠ x := fun e => h1 (e ▸ ht)
        simp [this]
      rw [this]; simp [hd]
    · have hp' : p ∈ r := by
        rcases List.mem_cons.1 hp with h | h
        · exact absurd h.symm e
        · exact h
      have := ih h2 hp'
      have e2 : (x == p) = false := by simpa using e
      simp only [e2, Bool.or_false]
      omega

abbrev St.r (s : St) (q : Nat) : Int := s.R.getD q 0
/-- In the round of a position of the rank c: dn says which positions of a move are struck off. -/
structure BI (goal : List Bool) (fm : List (Nat × List Nat)) (s : St) (dn : Nat → Nat → Bool) (c : Int) : Prop where
  lenR : s.R.length = goal.length
  lenL : s.L.length = fm.length
  nd : s.Q.Nodup
  qr : ∀ q, q ∈ s.Q ↔ q < goal.length ∧ 0 ≤ s.r q
  mono : s.Q.Pairwise (fun a b => s.r a ≤ s.r b)
  cap : ∀ q ∈ s.Q, s.r q ≤ c + 1
  cnt : ∀ m, m < fm.length → s.L.getD m 0 = ((fm.getD m (0, [])).2.countP (fun t => !dn m t) : Nat)
  own : ∀ m, m < fm.length → s.L.getD m 0 = 0 → 0 ≤ s.r (fm.getD m (0, [])).1
  lo : ∀ q, q < goal.length → -1 ≤ s.r q
  zero : ∀ q, q < goal.length → (s.r q = 0 ↔ goal.getD q false = true)
  up : ∀ q, q < goal.length → 1 ≤ s.r q → ∃ m, m < fm.length ∧ (fm.getD m (0, [])).1 = q ∧ ∀ t ∈ (fm.getD m (0, [])).2, 0 ≤ s.r t ∧ s.r t ≤ s.r q - 1
  dn_ : ∀ q, q < goal.length → 1 ≤ s.r q → ∀ m, m < fm.length → (fm.getD m (0, [])).1 = q → ∃ t ∈ (fm.getD m (0, [])).2, s.r t < 0 ∨ s.r q - 1 ≤ s.r t
  low : ∀ q ∈ s.Q, s.r q < c → ∀ m, dn m q = true
  don : ∀ m t, dn m t = true → t ∈ s.Q ∧ s.r t ≤ c
theorem fm_mem {fm : List (Nat × List Nat)} {m : Nat} (h : m < fm.length) : fm.getD m (0, []) ∈ fm := by
  have : fm.getD m (0, []) = fm[m] := by simp [List.getD, h]
  rw [this]; exact List.getElem_mem h
theorem BI.step {goal : List Bool} {fm : List (Nat × List Nat)} {s : St} {dn : Nat → Nat → Bool} {c : Int} (hf : FmOK goal.length fm) (h : BI goal fm s dn c) {p m : Nat} (hp : p ∈ s.Q) (hc : s.r p = c) (hm : m < fm.length) (hpm : p ∈ (fm.getD m (0, [])).2) (hd : dn m p = false) :
    BI goal fm (stepM fm p s m) (fun m' t => dn m' t || (m' == m && t == p)) c ∧ (stepM fm p s m).r p = c ∧ ∃ X, (stepM fm p s m).Q = s.Q ++ X := by
  have hmf := fm_mem hm
  have hc0 : 0 ≤ c := by rw [← hc]; exact ((h.qr p).1 hp).2
  have hlm : m < s.L.length := by rw [h.lenL]; exact hm
  have hcnt := countP_less (hf.nd _ hmf) hpm (dn m) hd
  have hLm : (s.L.set m (s.L.getD m 0 - 1)).getD m 0 = s.L.getD m 0 - 1 := by rw [getD_set_ _ _ _ _ _ hlm, if_pos rfl]
  have hLo : ∀ m', m' ≠ m → (s.L.set m (s.L.getD m 0 - 1)).getD m' 0 = s.L.getD m' 0 := fun m' e => by rw [getD_set_ _ _ _ _ _ hlm, if_neg e]
  have hcn : ∀ m', m' < fm.length → (s.L.set m (s.L.getD m 0 - 1)).getD m' 0 = ((fm.getD m' (0, [])).2.countP (fun t => !(dn m' t || (m' == m && t == p))) : Nat) := by
    intro m' hm'
    by_cases e : m' = m
    · subst e
      rw [hLm, h.cnt m' hm']
      simp only [beq_self_eq_true, Bool.true_and]
      omega
    · rw [hLo m' e, h.cnt m' hm']
      have : (m' == m) = false := by simpa using e
      simp [this]
  have hall : (s.L.set m (s.L.getD m 0 - 1)).getD m 0 = 0 → ∀ t ∈ (fm.getD m (0, [])).2, (dn m t || (m == m && t == p)) = true := by
    intro h0 t ht
    have h1 := hcn m hm
    rw [h0] at h1
    have h2 : (fm.getD m (0, [])).2.countP (fun t => !(dn m t || (m == m && t == p))) = 0 := by omega
    have h3 := List.countP_eq_zero.1 h2 t ht
    cases hb : (dn m t || (m == m && t == p)) with
    | true => rfl
    | false => exact absurd (by simp only [hb]; rfl) h3
  have ho := hf.o _ hmf
  obtain ⟨o, hoe⟩ : ∃ o, (fm.getD m (0, [])).1 = o := ⟨_, rfl⟩
  have hdon : ∀ (m' t : Nat), (dn m' t || (m' == m && t == p)) = true → t ∈ s.Q ∧ s.r t ≤ c := by
    intro m' t hx
    simp only [Bool.or_eq_true, Bool.and_eq_true, beq_iff_eq] at hx
    rcases hx with hx | ⟨_, rfl⟩
    · exact h.don m' t hx
    · exact ⟨hp, by rw [hc]; exact Int.le_refl _⟩
  unfold stepM
  simp only [hoe]
  rw [hoe] at ho
  by_cases hcase : (s.L.set m (s.L.getD m 0 - 1)).getD m 0 = 0 ∧ s.R.getD o 0 < 0
  · rw [if_pos hcase]
    obtain ⟨h0, hR⟩ := hcase
    have hoR : o < s.R.length := by rw [h.lenR]; exact ho
    have hoQ : o ∉ s.Q := fun hx => by have := ((h.qr o).1 hx).2; simp only [St.r] at this; omega
    have hr : ∀ q, (s.R.set o (s.R.getD p 0 + 1)).getD q 0 = if q = o then c + 1 else s.r q := fun q => by
      rw [getD_set_ _ _ _ _ _ hoR]
      split
      · rw [← hc]
      · rfl
    have hrn : ∀ q, q ≠ o → (s.R.set o (s.R.getD p 0 + 1)).getD q 0 = s.r q := fun q e => by rw [hr, if_neg e]
    have hro : (s.R.set o (s.R.getD p 0 + 1)).getD o 0 = c + 1 := by rw [hr, if_pos rfl]
    have hne : ∀ q, 0 ≤ s.r q → q ≠ o := fun q hq e => by subst e; simp only [St.r] at hq; omega
    have hpo : p ≠ o := hne p (by rw [hc]; exact hc0)
    refine ⟨⟨by simp [h.lenR], by simp [h.lenL], ?_, ?_, ?_, ?_, hcn, ?_, ?_, ?_, ?_, ?_, ?_, ?_⟩, by simp only [St.r]; rw [hrn p hpo]; exact hc, [o], rfl⟩
    · refine List.nodup_append.2 ⟨h.nd, by simp, ?_⟩
      intro a ha b hb e
      simp at hb
      subst hb; subst e
      exact hoQ ha
    · intro q
      simp only [St.r, List.mem_append, List.mem_cons, List.not_mem_nil, or_false]
      by_cases e : q = o
      · subst e
        rw [hro]
        exact ⟨fun _ => ⟨ho, by omega⟩, fun _ => .inr rfl⟩
      · rw [hrn q e]
        exact ⟨fun hx => (h.qr q).1 (hx.resolve_right e), fun hx => .inl ((h.qr q).2 hx)⟩
    · refine List.pairwise_append.2 ⟨?_, by simp, ?_⟩
      · refine h.mono.imp_of_mem ?_
        intro a b ha hb hab
        simp only [St.r]
        rw [hrn a (fun e => hoQ (e ▸ ha)), hrn b (fun e => hoQ (e ▸ hb))]
        exact hab
      · intro a ha b hb
        simp at hb
        subst hb
        simp only [St.r]
        rw [hro, hrn a (fun e => hoQ (e ▸ ha))]
        exact h.cap a ha
    · intro q hq
      simp only [St.r]
      rw [hr]
      split
      · exact Int.le_refl _
      · rename_i e
        rcases List.mem_append.1 hq with hq | hq
        · exact h.cap q hq
        · simp at hq; exact absurd hq e
    · intro m' hm' hz
      simp only [St.r] at hz ⊢
      rw [hr]
      split
      · omega
      · by_cases e : m' = m
        · subst e
          rename_i h9
          exact absurd hoe h9
        · rw [hLo m' e] at hz
          exact h.own m' hm' hz
    · intro q hq
      simp only [St.r]
      rw [hr]
      split
      · omega
      · exact h.lo q hq
    · intro q hq
      simp only [St.r]
      rw [hr]
      split
      · rename_i e
        subst e
        have := h.zero q hq
        simp only [St.r] at this
        constructor
        · intro; omega
        · intro hg; have := this.2 hg; omega
      · exact h.zero q hq
    · intro q hq
      simp only [St.r]
      rw [hr]
      split
      · rename_i e
        subst e
        intro _
        refine ⟨m, hm, hoe, fun t ht => ?_⟩
        obtain ⟨a, b⟩ := hdon m t (hall h0 t ht)
        have h3 := ((h.qr t).1 a).2
        rw [hrn t (hne t h3)]
        omega
      · intro h1
        obtain ⟨m', a, b, d⟩ := h.up q hq h1
        refine ⟨m', a, b, fun t ht => ?_⟩
        have := d t ht
        rw [hrn t (hne t this.1)]
        exact this
    · intro q hq
      simp only [St.r]
      rw [hr]
      split
      · rename_i e
        subst e
        intro _ m' hm' hmo
        refine Classical.byContradiction fun hx => ?_
        have hx : ∀ t ∈ (fm.getD m' (0, [])).2, 0 ≤ (s.R.set q (s.R.getD p 0 + 1)).getD t 0 ∧ (s.R.set q (s.R.getD p 0 + 1)).getD t 0 < c := by
          intro t ht
          refine ⟨?_, ?_⟩
          · refine Int.not_lt.1 fun h9 => hx ⟨t, ht, .inl h9⟩
          · refine Int.not_le.1 fun h9 => hx ⟨t, ht, .inr (by omega)⟩
        have hz : (fm.getD m' (0, [])).2.countP (fun t => !dn m' t) = 0 := by
          refine List.countP_eq_zero.2 fun t ht => ?_
          obtain ⟨a, b⟩ := hx t ht
          have hto : t ≠ q := fun e => by subst e; rw [hro] at b; omega
          rw [hrn t hto] at a b
          have := h.low t ((h.qr t).2 ⟨hf.t _ (fm_mem hm') t ht, a⟩) b m'
          simp [this]
        have := h.own m' hm' (by rw [h.cnt m' hm', hz]; rfl)
        rw [hmo] at this
        simp only [St.r] at this
        omega
      · intro h1 m' hm' hmo
        obtain ⟨t, ht, hx⟩ := h.dn_ q hq h1 m' hm' hmo
        refine ⟨t, ht, ?_⟩
        rw [hr]
        split
        · right
          have := h.cap q ((h.qr q).2 ⟨hq, by have h1' : 1 ≤ s.r q := h1; omega⟩)
          omega
        · exact hx
    · intro q hq hlt m'
      simp only [St.r] at hlt
      rw [hr] at hlt
      split at hlt
      · omega
      · rename_i e
        have hq' : q ∈ s.Q := by
          rcases List.mem_append.1 hq with hq | hq
          · exact hq
          · simp at hq; exact absurd hq e
        simp [h.low q hq' hlt m']
    · intro m' t hx
      obtain ⟨a, b⟩ := hdon m' t hx
      refine ⟨List.mem_append_left _ a, ?_⟩
      simp only [St.r]
      rw [hrn t (hne t ((h.qr t).1 a).2)]
      exact b
  · rw [if_neg hcase]
    refine ⟨⟨h.lenR, by simp [h.lenL], h.nd, h.qr, h.mono, h.cap, hcn, ?_, h.lo, h.zero, h.up, h.dn_, ?_, hdon⟩, hc, [], by simp⟩
    · intro m' hm' hz
      by_cases e : m' = m
      · subst e
        rw [hoe]
        exact Int.not_lt.1 fun h9 => hcase ⟨hz, h9⟩
      · rw [hLo m' e] at hz
        exact h.own m' hm' hz
    · intro q hq hlt m'
      simp [h.low q hq hlt m']

theorem contains_snoc (l : List Nat) (a t : Nat) : (l ++ [a]).contains t = (l.contains t || t == a) := by
  by_cases e : t = a <;> simp [e]
/-- Between two rounds: the first k positions of the queue are done. -/
structure BK (goal : List Bool) (fm : List (Nat × List Nat)) (s : St) (k : Nat) : Prop where
  lenR : s.R.length = goal.length
  lenL : s.L.length = fm.length
  nd : s.Q.Nodup
  qr : ∀ q, q ∈ s.Q ↔ q < goal.length ∧ 0 ≤ s.r q
  mono : s.Q.Pairwise (fun a b => s.r a ≤ s.r b)
  cap : ∀ i (h : i < s.Q.length), k ≤ i → ∀ q ∈ s.Q, s.r q ≤ s.r s.Q[i] + 1
  cnt : ∀ m, m < fm.length → s.L.getD m 0 = ((fm.getD m (0, [])).2.countP (fun t => !(s.Q.take k).contains t) : Nat)
  own : ∀ m, m < fm.length → s.L.getD m 0 = 0 → 0 ≤ s.r (fm.getD m (0, [])).1
  lo : ∀ q, q < goal.length → -1 ≤ s.r q
  zero : ∀ q, q < goal.length → (s.r q = 0 ↔ goal.getD q false = true)
  up : ∀ q, q < goal.length → 1 ≤ s.r q → ∃ m, m < fm.length ∧ (fm.getD m (0, [])).1 = q ∧ ∀ t ∈ (fm.getD m (0, [])).2, 0 ≤ s.r t ∧ s.r t ≤ s.r q - 1
  dn_ : ∀ q, q < goal.length → 1 ≤ s.r q → ∀ m, m < fm.length → (fm.getD m (0, [])).1 = q → ∃ t ∈ (fm.getD m (0, [])).2, s.r t < 0 ∨ s.r q - 1 ≤ s.r t
theorem BI.fold {goal : List Bool} {fm : List (Nat × List Nat)} (hf : FmOK goal.length fm) {p : Nat} {c : Int} (Q0 : List Nat) : ∀ (ms pre : List Nat) (s : St), (pre ++ ms).Nodup → (∀ m ∈ ms, m < fm.length ∧ p ∈ (fm.getD m (0, [])).2) → p ∉ Q0 → p ∈ s.Q → s.r p = c →
    BI goal fm s (fun m t => Q0.contains t || (pre.contains m && t == p)) c → BI goal fm (ms.foldl (stepM fm p) s) (fun m t => Q0.contains t || ((pre ++ ms).contains m && t == p)) c ∧ (ms.foldl (stepM fm p) s).r p = c ∧ ∃ X, (ms.foldl (stepM fm p) s).Q = s.Q ++ X
  | [], pre, s, _, _, _, _, hc, h => ⟨by simpa using h, hc, [], by simp⟩
  | m :: ms, pre, s, hnd, hin, hp0, hp, hc, h => by
    obtain ⟨h1, h2⟩ := hin m (by simp)
    have hmp : m ∉ pre := fun hx => by
      have := (List.nodup_append.1 hnd).2.2 m hx m (by simp)
      exact this rfl
    have hd : (Q0.contains p || (pre.contains m && p == p)) = false := by
      simp [hp0, hmp]
    obtain ⟨b1, b2, X, b3⟩ := h.step hf hp hc h1 h2 hd
    have e : (fun m' t => (Q0.contains t || (pre.contains m' && t == p)) || (m' == m && t == p)) = (fun m' t => Q0.contains t || ((pre ++ [m]).contains m' && t == p)) := by
      funext m' t
      have e0 : (pre ++ [m]).contains m' = (pre.contains m' || decide (m' = m)) := by simp
      rw [e0]
      by_cases e1 : m' = m
      · subst e1
        simp only [beq_self_eq_true, Bool.true_and, decide_true, Bool.or_true]
        generalize (t == p) = z
        generalize List.contains Q0 t = y
        generalize List.contains pre m' = x
        cases x <;> cases y <;> cases z <;> rfl
      · have : (m' == m) = false := by simpa using e1
        simp [e1, this]
    rw [e] at b1
    obtain ⟨c1, c2, Y, c3⟩ := BI.fold hf Q0 ms (pre ++ [m]) (stepM fm p s m) (by simpa using hnd) (fun m' h => hin m' (by simp [h])) hp0 (by rw [b3]; exact List.mem_append_left _ hp) b2 b1
    exact ⟨by simpa using c1, c2, X ++ Y, by rw [List.foldl_cons, c3, b3, List.append_assoc]⟩
theorem pw_le {l : List Nat} {f : Nat → Int} (h : l.Pairwise (fun a b => f a ≤ f b)) {i j : Nat} (hij : i ≤ j) (hj : j < l.length) : f (l[i]'(by omega)) ≤ f l[j] := by
  rcases Nat.eq_or_lt_of_le hij with rfl | hlt
  · exact Int.le_refl _
  · exact List.pairwise_iff_getElem.1 h i j (by omega) hj hlt
theorem BK.round {goal : List Bool} {fm : List (Nat × List Nat)} (hf : FmOK goal.length fm) {s : St} {k : Nat} (h : BK goal fm s k) (hk : k < s.Q.length) : BK goal fm (roundB fm s s.Q[k]) (k + 1) ∧ ∃ X, (roundB fm s s.Q[k]).Q = s.Q ++ X := by
  have hp : s.Q[k] ∈ s.Q := List.getElem_mem hk
  have hp0 : s.Q[k] ∉ s.Q.take k := by
    intro hx
    obtain ⟨j, hj, e⟩ := List.getElem_of_mem hx
    simp only [List.length_take] at hj
    rw [List.getElem_take] at e
    have := List.pairwise_iff_getElem.1 h.nd j k (by omega) hk (by omega)
    exact this e
  have B : BI goal fm s (fun m t => (s.Q.take k).contains t || (([] : List Nat).contains m && t == s.Q[k])) (s.r s.Q[k]) := by
    refine ⟨h.lenR, h.lenL, h.nd, h.qr, h.mono, fun q hq => h.cap k hk (Nat.le_refl _) q hq, fun m hm => by simpa using h.cnt m hm, h.own, h.lo, h.zero, h.up, h.dn_, ?_, ?_⟩
    · intro q hq hlt m
      obtain ⟨j, hj, rfl⟩ := List.getElem_of_mem hq
      have hjk : j < k := by
        refine Nat.lt_of_not_le fun hx => ?_
        have := pw_le (f := s.r) h.mono hx hj
        omega
      have : s.Q[j] ∈ s.Q.take k := by
        rw [List.mem_iff_getElem]
        exact ⟨j, by simp; omega, by simp⟩
      simp [this]
    · intro m t hx
      have hx : t ∈ s.Q.take k := by simpa using hx
      obtain ⟨j, hj, rfl⟩ := List.getElem_of_mem hx
      simp only [List.length_take] at hj
      rw [List.getElem_take]
      exact ⟨List.getElem_mem _, pw_le (f := s.r) h.mono (by omega) hk⟩
  obtain ⟨b1, b2, X, b3⟩ := BI.fold hf (s.Q.take k) (intoN fm 0 s.Q[k]) [] s (by simpa using into_nodup fm 0 s.Q[k]) (fun m hm => by have := (into_mem fm 0 _ m).1 hm; simpa using this.2) hp0 hp rfl B
  have hQk : (roundB fm s s.Q[k]).Q = s.Q ++ X := b3
  have e1 : ((roundB fm s s.Q[k]).Q)[k]'(by rw [hQk]; simp; omega) = s.Q[k] := by
    simp only [hQk]
    rw [List.getElem_append_left hk]
  have b1' : BI goal fm (roundB fm s s.Q[k]) (fun m t => (s.Q.take k).contains t || (([] ++ intoN fm 0 s.Q[k]).contains m && t == s.Q[k])) (s.r s.Q[k]) := b1
  clear b1
  have htk : (roundB fm s s.Q[k]).Q.take (k + 1) = s.Q.take k ++ [s.Q[k]] := by
    rw [hQk, List.take_append_of_le_length (by omega), List.take_add_one, List.getElem?_eq_getElem hk]
    rfl
  refine ⟨⟨b1'.lenR, b1'.lenL, b1'.nd, b1'.qr, b1'.mono, ?_, ?_, b1'.own, b1'.lo, b1'.zero, b1'.up, b1'.dn_⟩, X, b3⟩
  · intro i hi hki q hq
    have h1 := b1'.cap q hq
    have h2 := pw_le (f := (roundB fm s s.Q[k]).r) b1'.mono (show k ≤ i by omega) hi
    rw [e1] at h2
    have h3 : (roundB fm s s.Q[k]).r s.Q[k] = s.r s.Q[k] := b2
    rw [h3] at h2
    have h4 : (roundB fm s s.Q[k]).r q ≤ s.r s.Q[k] + 1 := h1
    omega
  · intro m hm
    have := b1'.cnt m hm
    show (roundB fm s s.Q[k]).L.getD m 0 = _
    rw [htk]
    refine this.trans ?_
    congr 1
    apply List.countP_congr
    intro t ht
    have hiff : m ∈ intoN fm 0 s.Q[k] ↔ s.Q[k] ∈ (fm.getD m (0, [])).2 := by
      rw [into_mem]
      simp only [Nat.zero_le, Nat.zero_add, hm, true_and, Nat.sub_zero]
    rw [contains_snoc]
    by_cases e : t = s.Q[k]
    · have : m ∈ intoN fm 0 s.Q[k] := hiff.2 (e ▸ ht)
      have h9 : ([] ++ intoN fm 0 s.Q[k]).contains m = true := by simpa using this
      have h8 : (t == s.Q[k]) = true := by simpa using e
      rw [h9, h8]
      exact Iff.rfl
    · have h8 : (t == s.Q[k]) = false := by simpa using e
      rw [h8, Bool.and_false]
theorem bk_start {g : Gm} (hl : g.1.length = g.2.length) (hf : FmOK g.1.length (flatF 0 g.2)) : BK g.1 (flatF 0 g.2) (start g) 0 := by
  have hr : ∀ q, q < g.1.length → (start g).r q = if g.1.getD q false then 0 else -1 := by
    intro q hq
    simp [St.r, start, hq]
  have hq : ∀ q, q ∈ (start g).Q ↔ q < g.1.length ∧ g.1.getD q false = true := by
    intro q
    simp only [start, List.mem_filter, List.mem_range]
  have hgd : ∀ m, m < (flatF 0 g.2).length → (start g).L.getD m 0 = (((flatF 0 g.2).getD m (0, [])).2.length : Nat) := by
    intro m hm
    simp only [start, List.getD]
    rw [List.getElem?_map, List.getElem?_eq_getElem hm]
    rfl
  refine ⟨by simp [start], by simp [start], ?_, ?_, ?_, ?_, ?_, ?_, ?_, ?_, ?_, ?_⟩
  · exact List.Pairwise.filter _ List.nodup_range
  · intro q
    rw [hq]
    constructor
    · rintro ⟨a, b⟩
      exact ⟨a, by rw [hr q a, b]; simp⟩
    · rintro ⟨a, b⟩
      refine ⟨a, ?_⟩
      rw [hr q a] at b
      split at b
      · assumption
      · omega
  · refine List.Pairwise.imp_of_mem (R := fun _ _ => True) ?_ (List.pairwise_of_forall (fun _ _ => trivial))
    intro a b ha hb _
    obtain ⟨a1, a2⟩ := (hq a).1 ha
    obtain ⟨b1, b2⟩ := (hq b).1 hb
    rw [hr a a1, hr b b1, a2, b2]; simp
  · intro i hi _ q hqq
    obtain ⟨a1, a2⟩ := (hq q).1 hqq
    obtain ⟨b1, b2⟩ := (hq _).1 (List.getElem_mem hi)
    rw [hr q a1, hr _ b1, a2, b2]; simp
  · intro m hm
    rw [hgd m hm]
    simp only [List.take_zero, List.contains_nil, Bool.not_false]
    congr 1
    exact (List.countP_eq_length.2 (fun _ _ => rfl)).symm
  · intro m hm hz
    rw [hgd m hm] at hz
    have := hf.ne _ (fm_mem hm)
    exact absurd (List.eq_nil_of_length_eq_zero (by omega)) this
  · intro q h; rw [hr q h]; split <;> omega
  · intro q h; rw [hr q h]; cases g.1.getD q false <;> simp
  · intro q h h1; rw [hr q h] at h1; split at h1 <;> omega
  · intro q h h1; rw [hr q h] at h1; split at h1 <;> omega
theorem stB_bk {g : Gm} (hl : g.1.length = g.2.length) (hf : FmOK g.1.length (flatF 0 g.2)) : ∀ k, k ≤ (stB g k).Q.length ∨ (stB g k).Q.length ≤ k → (∃ j, j ≤ k ∧ BK g.1 (flatF 0 g.2) (stB g k) j ∧ (j = k ∨ j = (stB g k).Q.length))
  | 0, _ => ⟨0, Nat.le_refl _, bk_start hl hf, .inl rfl⟩
  | k + 1, _ => by
    obtain ⟨j, hj, hB, he⟩ := stB_bk hl hf k (by omega)
    simp only [stB]
    by_cases hk : k < (stB g k).Q.length
    · rw [if_pos hk]
      have hjk : j = k := by omega
      subst hjk
      obtain ⟨a, X, b⟩ := hB.round hf hk
      have e : (stB g j).Q.getD j 0 = (stB g j).Q[j] := by simp [List.getD, hk]
      rw [e]
      exact ⟨j + 1, Nat.le_refl _, a, .inl rfl⟩
    · rw [if_neg hk]
      refine ⟨(stB g k).Q.length, by omega, ?_, .inr rfl⟩
      rcases he with rfl | he
      · have : (stB g j).Q.length ≤ j := by omega
        refine ⟨hB.lenR, hB.lenL, hB.nd, hB.qr, hB.mono, fun i hi hx => by omega, fun m hm => ?_, hB.own, hB.lo, hB.zero, hB.up, hB.dn_⟩
        rw [hB.cnt m hm, List.take_of_length_le this, List.take_of_length_le (Nat.le_refl _)]
      · rw [← he]; exact hB
theorem BK.done {goal : List Bool} {fm : List (Nat × List Nat)} (hf : FmOK goal.length fm) {s : St} {k : Nat} (h : BK goal fm s k) (hk : s.Q.length ≤ k) : IsRk goal fm s.R := by
  refine ⟨h.lenR, h.lo, h.zero, ?_, ?_, ?_⟩
  · intro q hq h1
    obtain ⟨m, a, b, c⟩ := h.up q hq h1
    exact ⟨_, fm_mem a, b, c⟩
  · intro q hq h1 m hm hmq
    obtain ⟨j, hj, rfl⟩ := List.getElem_of_mem hm
    have e : fm.getD j (0, []) = fm[j] := by simp [List.getD, hj]
    have := h.dn_ q hq h1 j hj (by rw [e]; exact hmq)
    rw [e] at this
    exact this
  · intro m hm ht
    obtain ⟨j, hj, rfl⟩ := List.getElem_of_mem hm
    have e : fm.getD j (0, []) = fm[j] := by simp [List.getD, hj]
    have := h.own j hj
    rw [e] at this
    refine this ?_
    rw [h.cnt j hj, e]
    have : fm[j].2.countP (fun t => !(s.Q.take k).contains t) = 0 := by
      refine List.countP_eq_zero.2 fun t htm => ?_
      have : t ∈ s.Q := (h.qr t).2 ⟨hf.t _ hm t htm, ht t htm⟩
      rw [List.take_of_length_le hk]
      simp [this]
    rw [this]; rfl
/-- The queue holds positions, each at most once. -/
theorem BK.len {goal : List Bool} {fm : List (Nat × List Nat)} {s : St} {k : Nat} (h : BK goal fm s k) : s.Q.length ≤ goal.length := by
  have := List.Nodup.length_le_of_subset (l₂ := List.range goal.length) h.nd (fun q hq => List.mem_range.2 ((h.qr q).1 hq).1)
  simpa using this
/-- The ranks of a game. -/
def rankL (g : Gm) : List Int := (stB g g.1.length).R
theorem rankL_is {g : Gm} (hl : g.1.length = g.2.length) (hf : FmOK g.1.length (flatF 0 g.2)) : IsRk g.1 (flatF 0 g.2) (rankL g) := by
  obtain ⟨j, hj, hB, he⟩ := stB_bk hl hf g.1.length (by omega)
  refine hB.done hf ?_
  have := hB.len
  omega
/-- When the queue is through, it stays so. -/
theorem stB_stop {g : Gm} {k : Nat} (h : (stB g k).Q.length ≤ k) : ∀ d, stB g (k + d) = stB g k
  | 0 => rfl
  | d + 1 => by
    have := stB_stop h d
    show stB g (k + d + 1) = _
    simp only [stB]
    rw [this, if_neg (by omega)]
theorem stB_rank {g : Gm} (hl : g.1.length = g.2.length) (hf : FmOK g.1.length (flatF 0 g.2)) {k : Nat} (h : (stB g k).Q.length ≤ k) : (stB g k).R = rankL g := by
  rcases Nat.le_total k g.1.length with hk | hk
  · obtain ⟨d, hd⟩ : ∃ d, g.1.length = k + d := ⟨g.1.length - k, by omega⟩
    rw [rankL, hd, stB_stop h d]
  · obtain ⟨j, hj, hB, he⟩ := stB_bk hl hf g.1.length (by omega)
    have := hB.len
    obtain ⟨d, hd⟩ : ∃ d, k = g.1.length + d := ⟨k - g.1.length, by omega⟩
    rw [rankL, hd, stB_stop this d]
end Go.Proofs.YtfpehakllnkaeaaDoor
