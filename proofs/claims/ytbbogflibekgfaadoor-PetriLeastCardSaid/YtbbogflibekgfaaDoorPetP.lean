
/- Petri, plain: nets, sets of places as words, siphons and traps, the largest one within a set. -/
import Derived.Test.YtbbogflibekgfaaDoorBase
import Derived.Lib.TrailingZeros
set_option linter.unusedSimpArgs false
set_option linter.unusedVariables false
namespace Go.Proofs.YtbbogflibekgfaaDoor
open Go.RowKit Go.IntWalk

abbrev Tr := List Int × List Int
abbrev Net := Int × List Tr
/-- Numbers ascend strictly above 'last', and lie below n. -/
def asc (n : Int) : Int → List Int → Bool
  | _, [] => true
  | last, x :: r => decide (last < x) && decide (x < n) && asc n x r
def setB (n : Int) (s : List Int) : Bool := asc n (-1) s
def netOK (n : Net) : Bool := decide (0 ≤ n.1) && decide (n.1 ≤ 64) && decide (n.2.length ≤ 5000) && n.2.all (fun t => setB n.1 t.1 && setB n.1 t.2)
def markOK (n : Net) (m : List Int) : Bool := decide ((m.length : Int) = n.1) && m.all (fun k => decide (0 ≤ k) && decide (k ≤ 1099511627776))
theorem asc_mem {n : Int} : ∀ {l : List Int} {last : Int}, asc n last l = true → ∀ x ∈ l, last < x ∧ x < n
  | x :: r, last, h, y, hy => by
    simp only [asc, Bool.and_eq_true, decide_eq_true_eq] at h
    rcases List.mem_cons.1 hy with rfl | hy
    · exact ⟨h.1.1, h.1.2⟩
    · have := asc_mem h.2 y hy; omega
theorem asc_pw {n : Int} : ∀ {l : List Int} {last : Int}, asc n last l = true → l.Pairwise (· < ·)
  | [], _, _ => List.Pairwise.nil
  | x :: r, last, h => by
    simp only [asc, Bool.and_eq_true, decide_eq_true_eq] at h
    exact List.pairwise_cons.2 ⟨fun y hy => (asc_mem h.2 y hy).1, asc_pw h.2⟩
theorem asc_of {n : Int} : ∀ {l : List Int} {last : Int}, l.Pairwise (· < ·) → (∀ x ∈ l, last < x ∧ x < n) → asc n last l = true
  | [], _, _, _ => rfl
  | x :: r, last, hp, h => by
    obtain ⟨h1, h2⟩ := List.pairwise_cons.1 hp
    simp only [asc, Bool.and_eq_true, decide_eq_true_eq]
    exact ⟨h x (List.mem_cons_self ..), asc_of h2 (fun y hy => ⟨h1 y hy, (h y (List.mem_cons_of_mem _ hy)).2⟩)⟩
theorem setB_mem {n : Int} {s : List Int} (h : setB n s = true) : ∀ x ∈ s, 0 ≤ x ∧ x < n := fun x hx => by
  have := asc_mem h x hx; omega
theorem setB_of {n : Int} {s : List Int} (hp : s.Pairwise (· < ·)) (h : ∀ x ∈ s, 0 ≤ x ∧ x < n) : setB n s = true := asc_of hp (fun x hx => by have := h x hx; omega)
theorem setB_pw {n : Int} {s : List Int} (h : setB n s = true) : s.Pairwise (· < ·) := asc_pw h
/-- Two ascending lists with the same elements. -/
theorem asc_ext : ∀ {a b : List Int}, a.Pairwise (· < ·) → b.Pairwise (· < ·) → (∀ x, x ∈ a ↔ x ∈ b) → a = b
  | [], [], _, _, _ => rfl
  | [], y :: b, _, _, h => absurd ((h y).2 (List.mem_cons_self ..)) (by simp)
  | x :: a, [], _, _, h => absurd ((h x).1 (List.mem_cons_self ..)) (by simp)
  | x :: a, y :: b, ha, hb, h => by
    obtain ⟨ha1, ha2⟩ := List.pairwise_cons.1 ha
    obtain ⟨hb1, hb2⟩ := List.pairwise_cons.1 hb
    have e : x = y := by
      rcases List.mem_cons.1 ((h x).1 (List.mem_cons_self ..)) with e | hx
      · exact e
      · rcases List.mem_cons.1 ((h y).2 (List.mem_cons_self ..)) with e | hy
        · exact e.symm
        · have := hb1 x hx; have := ha1 y hy; omega
    subst e
    congr 1
    refine asc_ext ha2 hb2 fun z => ⟨fun hz => ?_, fun hz => ?_⟩
    · rcases List.mem_cons.1 ((h z).1 (List.mem_cons_of_mem _ hz)) with rfl | hz2
      · have := ha1 z hz; omega
      · exact hz2
    · rcases List.mem_cons.1 ((h z).2 (List.mem_cons_of_mem _ hz)) with rfl | hz2
      · have := hb1 z hz; omega
      · exact hz2

/-! ### Words -/
def wordN (s : List Int) : Nat := s.foldl (fun w p => w ||| 2 ^ p.toNat) 0
theorem word_go : ∀ (s : List Int) (a i : Nat), (∀ p ∈ s, 0 ≤ p) → (s.foldl (fun w p => w ||| 2 ^ p.toNat) a).testBit i = (a.testBit i || decide ((i : Int) ∈ s))
  | [], a, i, _ => by simp
  | p :: s, a, i, h => by
    rw [List.foldl_cons, word_go s _ i (fun q hq => h q (List.mem_cons_of_mem _ hq)), Nat.testBit_or, Nat.testBit_two_pow]
    have hp := h p (List.mem_cons_self ..)
    have e : decide (p.toNat = i) = decide ((i : Int) = p) := decide_eq_decide.2 (by omega)
    rw [e, Bool.or_assoc]
    congr 1
    simp only [List.mem_cons]
    rw [← Bool.decide_or]
theorem word_bit {s : List Int} (h : ∀ p ∈ s, 0 ≤ p) (i : Nat) : (wordN s).testBit i = decide ((i : Int) ∈ s) := by
  unfold wordN
  rw [word_go s 0 i h, Nat.zero_testBit, Bool.false_or]
theorem word_golt : ∀ (s : List Int) (a k : Nat), a < 2 ^ k → (∀ p ∈ s, 0 ≤ p ∧ p < k) → s.foldl (fun w p => w ||| 2 ^ p.toNat) a < 2 ^ k
  | [], a, k, h, _ => h
  | p :: s, a, k, h, hs => by
    have hp := hs p (List.mem_cons_self ..)
    exact word_golt s _ k (Nat.or_lt_two_pow h (Nat.pow_lt_pow_right (by omega) (by omega))) (fun q hq => hs q (List.mem_cons_of_mem _ hq))
theorem word_lt {s : List Int} {k : Nat} (h : ∀ p ∈ s, 0 ≤ p ∧ p < k) : wordN s < 2 ^ k := word_golt s 0 k (Nat.two_pow_pos k) h
def listN (w : Nat) : List Int := ((List.range 64).filter (fun i => w.testBit i)).map (fun (i : Nat) => (i : Int))
theorem list_mem {w : Nat} {x : Int} : x ∈ listN w ↔ 0 ≤ x ∧ x < 64 ∧ w.testBit x.toNat = true := by
  unfold listN
  rw [List.mem_map]
  constructor
  · rintro ⟨i, hi, rfl⟩
    rw [List.mem_filter, List.mem_range] at hi
    exact ⟨by omega, by omega, by simpa using hi.2⟩
  · rintro ⟨h0, h1, h2⟩
    exact ⟨x.toNat, List.mem_filter.2 ⟨List.mem_range.2 (by omega), h2⟩, by omega⟩
theorem list_pw (w : Nat) : (listN w).Pairwise (· < ·) := by
  unfold listN
  refine List.Pairwise.map (R := (· < ·)) _ (fun a b h => by omega) (List.Pairwise.filter _ List.pairwise_lt_range)
theorem list_word {s : List Int} (hp : s.Pairwise (· < ·)) (h : ∀ p ∈ s, 0 ≤ p ∧ p < 64) : listN (wordN s) = s := by
  refine asc_ext (list_pw _) hp fun x => ?_
  rw [list_mem, word_bit (fun p hp => (h p hp).1)]
  constructor
  · rintro ⟨h0, h1, h2⟩
    have := of_decide_eq_true h2
    rwa [show ((x.toNat : Nat) : Int) = x by omega] at this
  · intro hx
    have := h x hx
    exact ⟨this.1, this.2, decide_eq_true (by rwa [show ((x.toNat : Nat) : Int) = x by omega])⟩
theorem bit_lt {w i : Nat} (hw : w < 2 ^ 64) (h : w.testBit i = true) : i < 64 := by
  rcases Nat.lt_or_ge i 64 with h1 | h1
  · exact h1
  · rw [Nat.testBit_lt_two_pow (Nat.lt_of_lt_of_le hw (Nat.pow_le_pow_right (by omega) h1))] at h
    cases h
theorem word_list {w : Nat} (hw : w < 2 ^ 64) : wordN (listN w) = w := by
  refine Nat.eq_of_testBit_eq fun i => ?_
  rw [word_bit (fun p hp => (list_mem.1 hp).1)]
  cases h : w.testBit i with
  | true => exact decide_eq_true (list_mem.2 ⟨by omega, by have := bit_lt hw h; omega, by simpa using h⟩)
  | false => exact decide_eq_false fun hx => by have := (list_mem.1 hx).2.2; simp [h] at this
/-- The lowest bit, struck off. -/
theorem low_bits {w : Nat} (h0 : w ≠ 0) (hw : w < 2 ^ 64) : ∃ k, Lib.ctz 64 w = k ∧ k < 64 ∧ w.testBit k = true ∧ (∀ i, i < k → w.testBit i = false) ∧ ∀ i, (w &&& (w - 1)).testBit i = (w.testBit i && decide (i ≠ k)) := by
  obtain ⟨m, hm, hk⟩ := Lib.ctzFrom_spec 64 w (by omega) hw
  have e : Lib.ctz 64 w = Lib.ctzFrom 64 w := by simp [Lib.ctz, h0]
  obtain ⟨k, hkk⟩ : ∃ k, k = Lib.ctzFrom 64 w := ⟨_, rfl⟩
  rw [← hkk] at hm hk e
  have hp := Nat.two_pow_pos k
  have b1 : ∀ i, w.testBit i = if i < k then false else (2 * m + 1).testBit (i - k) := by
    intro i
    have := Nat.testBit_two_pow_mul_add (2 * m + 1) hp i
    rw [Nat.add_zero, ← hm] at this
    rw [this, Nat.zero_testBit]
  have hm1 : w - 1 = 2 ^ k * (2 * m) + (2 ^ k - 1) := by
    rw [hm, Nat.mul_add, Nat.mul_one]
    omega
  have b2 : ∀ i, (w - 1).testBit i = if i < k then true else (2 * m).testBit (i - k) := by
    intro i
    rw [hm1, Nat.testBit_two_pow_mul_add (2 * m) (by omega : 2 ^ k - 1 < 2 ^ k) i]
    split
    · rename_i h
      rw [Nat.testBit_two_pow_sub_one]
      exact decide_eq_true h
    · rfl
  refine ⟨k, e, hk, ?_, fun i hi => ?_, fun i => ?_⟩
  · rw [b1, if_neg (Nat.lt_irrefl _), Nat.sub_self, Nat.testBit_zero]
    simp
  · rw [b1, if_pos hi]
  · rw [Nat.testBit_and, b1, b2]
    by_cases hi : i < k
    · simp [hi]
    · rw [if_neg hi, if_neg hi]
      obtain ⟨j, rfl⟩ : ∃ j, i = k + j := ⟨i - k, by omega⟩
      rw [show k + j - k = j by omega]
      cases j with
      | zero => simp [Nat.testBit_zero]
      | succ j =>
        rw [Nat.testBit_succ, Nat.testBit_succ, show (2 * m + 1) / 2 = m by omega, show 2 * m / 2 = m by omega, Bool.and_self, show decide (k + (j + 1) ≠ k) = true from decide_eq_true (by omega), Bool.and_true]
theorem list_step {w : Nat} (h0 : w ≠ 0) (hw : w < 2 ^ 64) : listN w = (Lib.ctz 64 w : Int) :: listN (w &&& (w - 1)) := by
  obtain ⟨k, e, hk, hb, hlo, hst⟩ := low_bits h0 hw
  rw [e]
  refine asc_ext (list_pw _) (List.pairwise_cons.2 ⟨fun y hy => ?_, list_pw _⟩) fun x => ?_
  · obtain ⟨h1, h2, h3⟩ := list_mem.1 hy
    rw [hst] at h3
    simp only [Bool.and_eq_true, decide_eq_true_eq] at h3
    rcases Nat.lt_or_ge y.toNat k with h | h
    · rw [hlo _ h] at h3; cases h3.1
    · omega
  · rw [List.mem_cons, list_mem, list_mem, hst]
    simp only [Bool.and_eq_true, decide_eq_true_eq]
    constructor
    · rintro ⟨h1, h2, h3⟩
      by_cases hx : x.toNat = k
      · left; omega
      · exact .inr ⟨h1, h2, h3, hx⟩
    · rintro (rfl | ⟨h1, h2, h3, h4⟩)
      · exact ⟨by omega, by omega, by simpa using hb⟩
      · exact ⟨h1, h2, h3⟩
theorem list_zero : listN 0 = [] := by
  unfold listN
  simp [Nat.zero_testBit]
theorem and_pred_lt {w : Nat} (h0 : w ≠ 0) : w &&& (w - 1) < w := Nat.lt_of_le_of_lt Nat.and_le_right (by omega)

/-! ### Siphons and traps -/
abbrev Ed := Nat × Nat
/-- The edges: to, from. -/
def edgesN (n : Net) (trap : Bool) : List Ed := n.2.map (fun t => if trap then (wordN t.1, wordN t.2) else (wordN t.2, wordN t.1))
def hit (w : Nat) (e : Ed) : Bool := decide (e.1 &&& w ≠ 0) && decide (e.2 &&& w = 0)
def closedN (l : List Ed) (w : Nat) : Bool := decide (w ≠ 0) && !l.any (hit w)
def clr (w e : Nat) : Nat := w &&& (18446744073709551615 - e)
def sweep (l : List Ed) (w : Nat) : Nat := l.foldl (fun w e => if e.2 &&& w = 0 then clr w e.1 else w) w
theorem clr_bit {w e : Nat} (hw : w < 2 ^ 64) (he : e < 2 ^ 64) (i : Nat) : (clr w e).testBit i = (w.testBit i && !e.testBit i) := by
  unfold clr
  rw [Nat.testBit_and, show 18446744073709551615 - e = 2 ^ 64 - (e + 1) by omega, Nat.testBit_two_pow_sub_succ he]
  cases h : w.testBit i with
  | false => rfl
  | true => rw [show decide (i < 64) = true from decide_eq_true (bit_lt hw h)]; simp
theorem clr_le (w e : Nat) : clr w e ≤ w := Nat.and_le_left
theorem clr_lt {w e : Nat} (hw : w < 2 ^ 64) (he : e < 2 ^ 64) (h : e &&& w ≠ 0) : clr w e < w := by
  refine Nat.lt_of_le_of_ne (clr_le w e) fun hx => h ?_
  refine Nat.eq_of_testBit_eq fun i => ?_
  rw [Nat.zero_testBit, Nat.testBit_and]
  have := clr_bit hw he i
  rw [hx] at this
  cases h1 : w.testBit i <;> cases h2 : e.testBit i <;> simp [h1, h2] at this ⊢
theorem sweep_le : ∀ (l : List Ed) (w : Nat), sweep l w ≤ w
  | [], w => Nat.le_refl _
  | e :: l, w => by
    unfold sweep
    rw [List.foldl_cons]
    refine Nat.le_trans (sweep_le l _) ?_
    split
    · exact clr_le _ _
    · exact Nat.le_refl _
theorem sweep_lt : ∀ {l : List Ed} {w : Nat}, w < 2 ^ 64 → (∀ e ∈ l, e.1 < 2 ^ 64) → l.any (hit w) = true → sweep l w < w
  | e :: l, w, hw, hl, h => by
    rw [List.any_cons] at h
    unfold sweep
    rw [List.foldl_cons]
    by_cases hf : e.2 &&& w = 0
    · rw [if_pos hf]
      by_cases ht : e.1 &&& w = 0
      · have e0 : clr w e.1 = w := by
          refine Nat.eq_of_testBit_eq fun i => ?_
          rw [clr_bit hw (hl e (List.mem_cons_self ..))]
          have := congrArg (fun x => x.testBit i) ht
          simp only [Nat.testBit_and, Nat.zero_testBit] at this
          cases h1 : w.testBit i <;> cases h2 : e.1.testBit i <;> simp [h1, h2] at this ⊢
        rw [e0]
        refine sweep_lt hw (fun x hx => hl x (List.mem_cons_of_mem _ hx)) ?_
        simpa [hit, ht] using h
      · exact Nat.lt_of_le_of_lt (sweep_le l _) (clr_lt hw (hl e (List.mem_cons_self ..)) ht)
    · rw [if_neg hf]
      refine sweep_lt hw (fun x hx => hl x (List.mem_cons_of_mem _ hx)) ?_
      simpa [hit, hf] using h
/-- x lies within w. -/
def sub (x w : Nat) : Prop := ∀ i, x.testBit i = true → w.testBit i = true
theorem sub_refl (w : Nat) : sub w w := fun _ h => h
theorem sub_trans {a b c : Nat} (h : sub a b) (h' : sub b c) : sub a c := fun i hi => h' i (h i hi)
theorem sub_antisymm {a b : Nat} (h : sub a b) (h' : sub b a) : a = b := Nat.eq_of_testBit_eq fun i => by
  cases h1 : a.testBit i <;> cases h2 : b.testBit i <;> first | rfl | (have := h i h1; rw [h2] at this; cases this) | (have := h' i h2; rw [h1] at this; cases this)
theorem and_zero {a b : Nat} : a &&& b = 0 ↔ ∀ i, ¬ (a.testBit i = true ∧ b.testBit i = true) := by
  constructor
  · intro h i ⟨h1, h2⟩
    have := congrArg (fun x => x.testBit i) h
    simp [Nat.testBit_and, h1, h2] at this
  · intro h
    refine Nat.eq_of_testBit_eq fun i => ?_
    rw [Nat.zero_testBit, Nat.testBit_and]
    have := h i
    cases h1 : a.testBit i <;> cases h2 : b.testBit i <;> simp_all
theorem sweep_sub : ∀ (l : List Ed) {w : Nat}, w < 2 ^ 64 → (∀ e ∈ l, e.1 < 2 ^ 64) → sub (sweep l w) w
  | [], w, _, _ => sub_refl w
  | e :: l, w, hw, hl => by
    unfold sweep
    rw [List.foldl_cons]
    have hl2 := fun x hx => hl x (List.mem_cons_of_mem _ hx)
    split
    · refine sub_trans (sweep_sub l (Nat.lt_of_le_of_lt (clr_le _ _) hw) hl2) fun i hi => ?_
      rw [clr_bit hw (hl e (List.mem_cons_self ..))] at hi
      simp only [Bool.and_eq_true] at hi
      exact hi.1
    · exact sweep_sub l hw hl2
/-- A closed set that lies within stays within. -/
theorem sweep_keep {x : Nat} : ∀ (l : List Ed) {w : Nat}, w < 2 ^ 64 → (∀ e ∈ l, e.1 < 2 ^ 64) → (∀ e ∈ l, hit x e = false) → sub x w → sub x (sweep l w)
  | [], w, _, _, _, h => h
  | e :: l, w, hw, hl, hc, h => by
    unfold sweep
    rw [List.foldl_cons]
    have hl2 := fun y hy => hl y (List.mem_cons_of_mem _ hy)
    have hc2 := fun y hy => hc y (List.mem_cons_of_mem _ hy)
    split
    · rename_i hf
      refine sweep_keep l (Nat.lt_of_le_of_lt (clr_le _ _) hw) hl2 hc2 fun i hi => ?_
      rw [clr_bit hw (hl e (List.mem_cons_self ..)), h i hi, Bool.true_and, Bool.not_eq_true']
      have hf2 : e.2 &&& x = 0 := and_zero.2 fun j ⟨h1, h2⟩ => and_zero.1 hf j ⟨h1, h j h2⟩
      have := hc e (List.mem_cons_self ..)
      simp only [hit, hf2, decide_true, Bool.and_true, decide_eq_false_iff_not, ne_eq, Classical.not_not] at this
      cases he : e.1.testBit i with
      | false => rfl
      | true => exact absurd ⟨he, hi⟩ (and_zero.1 this i)
    · exact sweep_keep l hw hl2 hc2 h
/-- The largest closed set within w, or nothing. -/
def largeF (l : List Ed) : Nat → Nat → Nat
  | 0, w => w
  | f + 1, w => if w = 0 ∨ closedN l w = true then w else largeF l f (sweep l w)
def largeN (l : List Ed) (w : Nat) : Nat := largeF l w w
structure LargeR (l : List Ed) (w r : Nat) : Prop where
  sub : sub r w
  cl : r = 0 ∨ closedN l r = true
  max : ∀ x, closedN l x = true → Go.Proofs.YtbbogflibekgfaaDoor.sub x w → Go.Proofs.YtbbogflibekgfaaDoor.sub x r
theorem closed_parts {l : List Ed} {w : Nat} (h : closedN l w = true) : w ≠ 0 ∧ ∀ e ∈ l, hit w e = false := by
  simp only [closedN, Bool.and_eq_true, decide_eq_true_eq, Bool.not_eq_true', List.any_eq_false, Bool.not_eq_true] at h
  exact h
theorem closed_of {l : List Ed} {w : Nat} (h0 : w ≠ 0) (h : ∀ e ∈ l, hit w e = false) : closedN l w = true := by
  simp only [closedN, Bool.and_eq_true, decide_eq_true_eq, Bool.not_eq_true', List.any_eq_false, Bool.not_eq_true]
  exact ⟨h0, h⟩
theorem not_closed {l : List Ed} {w : Nat} (h0 : w ≠ 0) (h : closedN l w = false) : l.any (hit w) = true := by
  simp only [closedN, h0, ne_eq, not_false_eq_true, decide_true, Bool.true_and, Bool.not_eq_false'] at h
  exact h
theorem LargeR.step {l : List Ed} {w r : Nat} (hw : w < 2 ^ 64) (hl : ∀ e ∈ l, e.1 < 2 ^ 64) (h : LargeR l (sweep l w) r) : LargeR l w r :=
  ⟨sub_trans h.sub (sweep_sub l hw hl), h.cl, fun x hx hs => h.max x hx (sweep_keep l hw hl (closed_parts hx).2 hs)⟩
theorem LargeR.end_ {l : List Ed} {w : Nat} (h : w = 0 ∨ closedN l w = true) : LargeR l w w := ⟨sub_refl w, h, fun _ _ h => h⟩
theorem LargeR.uniq {l : List Ed} {w r s : Nat} (h : LargeR l w r) (h' : LargeR l w s) : r = s := by
  have key : ∀ {r s : Nat}, LargeR l w r → LargeR l w s → Go.Proofs.YtbbogflibekgfaaDoor.sub r s := fun {r s} h h' => by
    rcases h.cl with rfl | hc
    · intro i hi; rw [Nat.zero_testBit] at hi; cases hi
    · exact h'.max r hc h.sub
  exact sub_antisymm (key h h') (key h' h)
end Go.Proofs.YtbbogflibekgfaaDoor
