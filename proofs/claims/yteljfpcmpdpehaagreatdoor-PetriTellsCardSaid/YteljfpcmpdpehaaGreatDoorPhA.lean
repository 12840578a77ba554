
/- Petri: edges in memory; IndexFunc and ContainsFunc over them; closed. -/
import Derived.Test.YteljfpcmpdpehaaGreatDoorBase
import Derived.Lib.TrailingZeros
import Derived.Test.YteljfpcmpdpehaaGreatDoorRowG
import Derived.Shelf.Abstract
import Derived.Test.YteljfpcmpdpehaaGreatDoorMem
import Derived.Laws.Bits64b
import Derived.Laws.BitsAllLaws
set_option linter.unusedSimpArgs false
set_option linter.unusedVariables false
namespace Go.Proofs.YteljfpcmpdpehaaGreatDoor
open Go.RowKit Go.IntWalk

abbrev Tr := List Int × List Int
abbrev Net := Int × List Tr
/-- Numbers ascend strictly above 'last', and lie below n. -/
def asc (n : Int) : Int → List Int → Bool
  | _, [] => true
  | last, x :: r => decide (last < x) && decide (x < n) && asc n x r
def setB (n : Int) (s : List Int) : Bool := asc n (-1) s
def netOK (n : Net) : Bool := decide (0 ≤ n.1) && decide (n.1 ≤ 64) && decide (n.2.length ≤ 5000) && n.2.all (fun t => setB n.1 t.1 && setB n.1 t.2)
def markOK (n : Net) (m : List Int) : Bool := decide ((m.length : Int) = n.1) && m.all (fun k => decide (0 ≤ k) && decide (k ≤ 1099511627776))
theorem asc_mem {n : Int} : ∀ {l : List Int} {last : Int}, asc n last l = true → ∀ x ∈ l, last < x ∧ x < n
  | x :: r, last, h, y, hy => by
    simp only [asc, Bool.and_eq_true, decide_eq_true_eq] at h
    rcases List.mem_cons.1 hy with rfl | hy
    · exact ⟨h.1.1, h.1.2⟩
    · have := asc_mem h.2 y hy; omega
theorem asc_pw {n : Int} : ∀ {l : List Int} {last : Int}, asc n last l = true → l.Pairwise (· < ·)
  | [], _, _ => List.Pairwise.nil
  | x :: r, last, h => by
    simp only [asc, Bool.and_eq_true, decide_eq_true_eq] at h
    exact List.pairwise_cons.2 ⟨fun y hy => (asc_mem h.2 y hy).1, asc_pw h.2⟩
theorem asc_of {n : Int} : ∀ {l : List Int} {last : Int}, l.Pairwise (· < ·) → (∀ x ∈ l, last < x ∧ x < n) → asc n last l = true
  | [], _, _, _ => rfl
  | x :: r, last, hp, h => by
    obtain ⟨h1, h2⟩ := List.pairwise_cons.1 hp
    simp only [asc, Bool.and_eq_true, decide_eq_true_eq]
    exact ⟨h x (List.mem_cons_self ..), asc_of h2 (fun y hy => ⟨h1 y hy, (h y (List.mem_cons_of_mem _ hy)).2⟩)⟩
theorem setB_mem {n : Int} {s : List Int} (h : setB n s = true) : ∀ x ∈ s, 0 ≤ x ∧ x < n := fun x hx => by
  have := asc_mem h x hx; omega
theorem setB_of {n : Int} {s : List Int} (hp : s.Pairwise (· < ·)) (h : ∀ x ∈ s, 0 ≤ x ∧ x < n) : setB n s = true := asc_of hp (fun x hx => by have := h x hx; omega)
theorem setB_pw {n : Int} {s : List Int} (h : setB n s = true) : s.Pairwise (· < ·) := asc_pw h
/-- Two ascending lists with the same elements. -/
theorem asc_ext : ∀ {a b : List Int}, a.Pairwise (· < ·) → b.Pairwise (· < ·) → (∀ x, x ∈ a ↔ x ∈ b) → a = b
  | [], [], _, _, _ => rfl
  | [], y :: b, _, _, h => absurd ((h y).2 (List.mem_cons_self ..)) (by simp)
  | x :: a, [], _, _, h => absurd ((h x).1 (List.mem_cons_self ..)) (by simp)
  | x :: a, y :: b, ha, hb, h => by
    obtain ⟨ha1, ha2⟩ := List.pairwise_cons.1 ha
    obtain ⟨hb1, hb2⟩ := List.pairwise_cons.1 hb
    have e : x = y := by
      rcases List.mem_cons.1 ((h x).1 (List.mem_cons_self ..)) with e | hx
      · exact e
      · rcases List.mem_cons.1 ((h y).2 (List.mem_cons_self ..)) with e | hy
        · exact e.symm
        · have := hb1 x hx; have := ha1 y hy; omega
    subst e
    congr 1
    refine asc_ext ha2 hb2 fun z => ⟨fun hz => ?_, fun hz => ?_⟩
    · rcases List.mem_cons.1 ((h z).1 (List.mem_cons_of_mem _ hz)) with rfl | hz2
      · have := ha1 z hz; omega
      · exact hz2
    · rcases List.mem_cons.1 ((h z).2 (List.mem_cons_of_mem _ hz)) with rfl | hz2
      · have := hb1 z hz; omega
      · exact hz2

/-! ### Words -/
def wordN (s : List Int) : Nat := s.foldl (fun w p => w ||| 2 ^ p.toNat) 0
theorem word_go : ∀ (s : List Int) (a i : Nat), (∀ p ∈ s, 0 ≤ p) → (s.foldl (fun w p => w ||| 2 ^ p.toNat) a).testBit i = (a.testBit i || decide ((i : Int) ∈ s))
  | [], a, i, _ => by simp
  | p :: s, a, i, h => by
    rw [List.foldl_cons, word_go s _ i (fun q hq => h q (List.mem_cons_of_mem _ hq)), Nat.testBit_or, Nat.testBit_two_pow]
    have hp := h p (List.mem_cons_self ..)
    have e : decide (p.toNat = i) = decide ((i : Int) = p) := decide_eq_decide.2 (by omega)
    rw [e, Bool.or_assoc]
    congr 1
    simp only [List.mem_cons]
    rw [← Bool.decide_or]
theorem word_bit {s : List Int} (h : ∀ p ∈ s, 0 ≤ p) (i : Nat) : (wordN s).testBit i = decide ((i : Int) ∈ s) := by
  unfold wordN
  rw [word_go s 0 i h, Nat.zero_testBit, Bool.false_or]
theorem word_golt : ∀ (s : List Int) (a k : Nat), a < 2 ^ k → (∀ p ∈ s, 0 ≤ p ∧ p < k) → s.foldl (fun w p => w ||| 2 ^ p.toNat) a < 2 ^ k
  | [], a, k, h, _ => h
  | p :: s, a, k, h, hs => by
    have hp := hs p (List.mem_cons_self ..)
    exact word_golt s _ k (Nat.or_lt_two_pow h (Nat.pow_lt_pow_right (by omega) (by omega))) (fun q hq => hs q (List.mem_cons_of_mem _ hq))
theorem word_lt {s : List Int} {k : Nat} (h : ∀ p ∈ s, 0 ≤ p ∧ p < k) : wordN s < 2 ^ k := word_golt s 0 k (Nat.two_pow_pos k) h
def listN (w : Nat) : List Int := ((List.range 64).filter (fun i => w.testBit i)).map (fun (i : Nat) => (i : Int))
theorem list_mem {w : Nat} {x : Int} : x ∈ listN w ↔ 0 ≤ x ∧ x < 64 ∧ w.testBit x.toNat = true := by
  unfold listN
  rw [List.mem_map]
  constructor
  · rintro ⟨i, hi, rfl⟩
    rw [List.mem_filter, List.mem_range] at hi
    exact ⟨by omega, by omega, by simpa using hi.2⟩
  · rintro ⟨h0, h1, h2⟩
    exact ⟨x.toNat, List.mem_filter.2 ⟨List.mem_range.2 (by omega), h2⟩, by omega⟩
theorem list_pw (w : Nat) : (listN w).Pairwise (· < ·) := by
  unfold listN
  refine List.Pairwise.map (R := (· < ·)) _ (fun a b h => by omega) (List.Pairwise.filter _ List.pairwise_lt_range)
theorem list_word {s : List Int} (hp : s.Pairwise (· < ·)) (h : ∀ p ∈ s, 0 ≤ p ∧ p < 64) : listN (wordN s) = s := by
  refine asc_ext (list_pw _) hp fun x => ?_
  rw [list_mem, word_bit (fun p hp => (h p hp).1)]
  constructor
  · rintro ⟨h0, h1, h2⟩
    have := of_decide_eq_true h2
    rwa [show ((x.toNat : Nat) : Int) = x by omega] at this
  · intro hx
    have := h x hx
    exact ⟨this.1, this.2, decide_eq_true (by rwa [show ((x.toNat : Nat) : Int) = x by omega])⟩
theorem bit_lt {w i : Nat} (hw : w < 2 ^ 64) (h : w.testBit i = true) : i < 64 := by
  rcases Nat.lt_or_ge i 64 with h1 | h1
  · exact h1
  · rw [Nat.testBit_lt_two_pow (Nat.lt_of_lt_of_le hw (Nat.pow_le_pow_right (by omega) h1))] at h
    cases h
theorem word_list {w : Nat} (hw : w < 2 ^ 64) : wordN (listN w) = w := by
  refine Nat.eq_of_testBit_eq fun i => ?_
  rw [word_bit (fun p hp => (list_mem.1 hp).1)]
  cases h : w.testBit i with
  | true => exact decide_eq_true (list_mem.2 ⟨by omega, by have := bit_lt hw h; omega, by simpa using h⟩)
  | false => exact decide_eq_false fun hx => by have := (list_mem.1 hx).2.2; simp [h] at this
/-- The lowest bit, struck off. -/
theorem low_bits {w : Nat} (h0 : w ≠ 0) (hw : w < 2 ^ 64) : ∃ k, Lib.ctz 64 w = k ∧ k < 64 ∧ w.testBit k = true ∧ (∀ i, i < k → w.testBit i = false) ∧ ∀ i, (w &&& (w - 1)).testBit i = (w.testBit i && decide (i ≠ k)) := by
  obtain ⟨m, hm, hk⟩ := Lib.ctzFrom_spec 64 w (by omega) hw
  have e : Lib.ctz 64 w = Lib.ctzFrom 64 w := by simp [Lib.ctz, h0]
  obtain ⟨k, hkk⟩ : ∃ k, k = Lib.ctzFrom 64 w := ⟨_, rfl⟩
  rw [← hkk] at hm hk e
  have hp := Nat.two_pow_pos k
  have b1 : ∀ i, w.testBit i = if i < k then false else (2 * m + 1).testBit (i - k) := by
    intro i
    have := Nat.testBit_two_pow_mul_add (2 * m + 1) hp i
    rw [Nat.add_zero, ← hm] at this
    rw [this, Nat.zero_testBit]
  have hm1 : w - 1 = 2 ^ k * (2 * m) + (2 ^ k - 1) := by
    rw [hm, Nat.mul_add, Nat.mul_one]
    omega
  have b2 : ∀ i, (w - 1).testBit i = if i < k then true else (2 * m).testBit (i - k) := by
    intro i
    rw [hm1, Nat.testBit_two_pow_mul_add (2 * m) (by omega : 2 ^ k - 1 < 2 ^ k) i]
    split
    · rename_i h
      rw [Nat.testBit_two_pow_sub_one]
      exact decide_eq_true h
    · rfl
  refine ⟨k, e, hk, ?_, fun i hi => ?_, fun i => ?_⟩
  · rw [b1, if_neg (Nat.lt_irrefl _), Nat.sub_self, Nat.testBit_zero]
    simp
  · rw [b1, if_pos hi]
  · rw [Nat.testBit_and, b1, b2]
    by_cases hi : i < k
    · simp [hi]
    · rw [if_neg hi, if_neg hi]
      obtain ⟨j, rfl⟩ : ∃ j, i = k + j := ⟨i - k, by omega⟩
      rw [show k + j - k = j by omega]
      cases j with
      | zero => simp [Nat.testBit_zero]
      | succ j =>
        rw [Nat.testBit_succ, Nat.testBit_succ, show (2 * m + 1) / 2 = m by omega, show 2 * m / 2 = m by omega, Bool.and_self, show decide (k + (j + 1) ≠ k) = true from decide_eq_true (by omega), Bool.and_true]
theorem list_step {w : Nat} (h0 : w ≠ 0) (hw : w < 2 ^ 64) : listN w = (Lib.ctz 64 w : Int) :: listN (w &&& (w - 1)) := by
  obtain ⟨k, e, hk, hb, hlo, hst⟩ := low_bits h0 hw
  rw [e]
  refine asc_ext (list_pw _) (List.pairwise_cons.2 ⟨fun y hy => ?_, list_pw _⟩) fun x => ?_
  · obtain ⟨h1, h2, h3⟩ := list_mem.1 hy
    rw [hst] at h3
    simp only [Bool.and_eq_true, decide_eq_true_eq] at h3
    rcases Nat.lt_or_ge y.toNat k with h | h
    · rw [hlo _ h] at h3; cases h3.1
    · omega
  · rw [List.mem_cons, list_mem, list_mem, hst]
    simp only [Bool.and_eq_true, decide_eq_true_eq]
    constructor
    · rintro ⟨h1, h2, h3⟩
      by_cases hx : x.toNat = k
      · left; omega
      · exact .inr ⟨h1, h2, h3, hx⟩
    · rintro (rfl | ⟨h1, h2, h3, h4⟩)
      · exact ⟨by omega, by omega, by simpa using hb⟩
      · exact ⟨h1, h2, h3⟩
theorem list_zero : listN 0 = [] := by
  unfold listN
  simp [Nat.zero_testBit]
theorem and_pred_lt {w : Nat} (h0 : w ≠ 0) : w &&& (w - 1) < w := Nat.lt_of_le_of_lt Nat.and_le_right (by omega)

/-! ### Siphons and traps -/
abbrev Ed := Nat × Nat
/-- The edges: to, from. -/
def edgesN (n : Net) (trap : Bool) : List Ed := n.2.map (fun t => if trap then (wordN t.1, wordN t.2) else (wordN t.2, wordN t.1))
def hit (w : Nat) (e : Ed) : Bool := decide (e.1 &&& w ≠ 0) && decide (e.2 &&& w = 0)
def closedN (l : List Ed) (w : Nat) : Bool := decide (w ≠ 0) && !l.any (hit w)
def clr (w e : Nat) : Nat := w &&& (18446744073709551615 - e)
def sweep (l : List Ed) (w : Nat) : Nat := l.foldl (fun w e => if e.2 &&& w = 0 then clr w e.1 else w) w
theorem clr_bit {w e : Nat} (hw : w < 2 ^ 64) (he : e < 2 ^ 64) (i : Nat) : (clr w e).testBit i = (w.testBit i && !e.testBit i) := by
  unfold clr
  rw [Nat.testBit_and, show 18446744073709551615 - e = 2 ^ 64 - (e + 1) by omega, Nat.testBit_two_pow_sub_succ he]
  cases h : w.testBit i with
  | false => rfl
  | true => rw [show decide (i < 64) = true from decide_eq_true (bit_lt hw h)]; simp
theorem clr_le (w e : Nat) : clr w e ≤ w := Nat.and_le_left
theorem clr_lt {w e : Nat} (hw : w < 2 ^ 64) (he : e < 2 ^ 64) (h : e &&& w ≠ 0) : clr w e < w := by
  refine Nat.lt_of_le_of_ne (clr_le w e) fun hx => h ?_
  refine Nat.eq_of_testBit_eq fun i => ?_
  rw [Nat.zero_testBit, Nat.testBit_and]
  have := clr_bit hw he i
  rw [hx] at this
  cases h1 : w.testBit i <;> cases h2 : e.testBit i <;> simp [h1, h2] at this ⊢
theorem sweep_le : ∀ (l : List Ed) (w : Nat), sweep l w ≤ w
  | [], w => Nat.le_refl _
  | e :: l, w => by
    unfold sweep
    rw [List.foldl_cons]
    refine Nat.le_trans (sweep_le l _) ?_
    split
    · exact clr_le _ _
    · exact Nat.le_refl _
theorem sweep_lt : ∀ {l : List Ed} {w : Nat}, w < 2 ^ 64 → (∀ e ∈ l, e.1 < 2 ^ 64) → l.any (hit w) = true → sweep l w < w
  | e :: l, w, hw, hl, h => by
    rw [List.any_cons] at h
    unfold sweep
    rw [List.foldl_cons]
    by_cases hf : e.2 &&& w = 0
    · rw [if_pos hf]
      by_cases ht : e.1 &&& w = 0
      · have e0 : clr w e.1 = w := by
          refine Nat.eq_of_testBit_eq fun i => ?_
          rw [clr_bit hw (hl e (List.mem_cons_self ..))]
          have := congrArg (fun x => x.testBit i) ht
          simp only [Nat.testBit_and, Nat.zero_testBit] at this
          cases h1 : w.testBit i <;> cases h2 : e.1.testBit i <;> simp [h1, h2] at this ⊢
        rw [e0]
        refine sweep_lt hw (fun x hx => hl x (List.mem_cons_of_mem _ hx)) ?_
        simpa [hit, ht] using h
      · exact Nat.lt_of_le_of_lt (sweep_le l _) (clr_lt hw (hl e (List.mem_cons_self ..)) ht)
    · rw [if_neg hf]
      refine sweep_lt hw (fun x hx => hl x (List.mem_cons_of_mem _ hx)) ?_
      simpa [hit, hf] using h
/-- x lies within w. -/
def sub (x w : Nat) : Prop := ∀ i, x.testBit i = true → w.testBit i = true
theorem sub_refl (w : Nat) : sub w w := fun _ h => h
theorem sub_trans {a b c : Nat} (h : sub a b) (h' : sub b c) : sub a c := fun i hi => h' i (h i hi)
theorem sub_antisymm {a b : Nat} (h : sub a b) (h' : sub b a) : a = b := Nat.eq_of_testBit_eq fun i => by
  cases h1 : a.testBit i <;> cases h2 : b.testBit i <;> first | rfl | (have := h i h1; rw [h2] at this; cases this) | (have := h' i h2; rw [h1] at this; cases this)
theorem and_zero {a b : Nat} : a &&& b = 0 ↔ ∀ i, ¬ (a.testBit i = true ∧ b.testBit i = true) := by
  constructor
  · intro h i ⟨h1, h2⟩
    have := congrArg (fun x => x.testBit i) h
    simp [Nat.testBit_and, h1, h2] at this
  · intro h
    refine Nat.eq_of_testBit_eq fun i => ?_
    rw [Nat.zero_testBit, Nat.testBit_and]
    have := h i
    cases h1 : a.testBit i <;> cases h2 : b.testBit i <;> simp_all
theorem sweep_sub : ∀ (l : List Ed) {w : Nat}, w < 2 ^ 64 → (∀ e ∈ l, e.1 < 2 ^ 64) → sub (sweep l w) w
  | [], w, _, _ => sub_refl w
  | e :: l, w, hw, hl => by
    unfold sweep
    rw [List.foldl_cons]
    have hl2 := fun x hx => hl x (List.mem_cons_of_mem _ hx)
    split
    · refine sub_trans (sweep_sub l (Nat.lt_of_le_of_lt (clr_le _ _) hw) hl2) fun i hi => ?_
      rw [clr_bit hw (hl e (List.mem_cons_self ..))] at hi
      simp only [Bool.and_eq_true] at hi
      exact hi.1
    · exact sweep_sub l hw hl2
/-- A closed set that lies within stays within. -/
theorem sweep_keep {x : Nat} : ∀ (l : List Ed) {w : Nat}, w < 2 ^ 64 → (∀ e ∈ l, e.1 < 2 ^ 64) → (∀ e ∈ l, hit x e = false) → sub x w → sub x (sweep l w)
  | [], w, _, _, _, h => h
  | e :: l, w, hw, hl, hc, h => by
    unfold sweep
    rw [List.foldl_cons]
    have hl2 := fun y hy => hl y (List.mem_cons_of_mem _ hy)
    have hc2 := fun y hy => hc y (List.mem_cons_of_mem _ hy)
    split
    · rename_i hf
      refine sweep_keep l (Nat.lt_of_le_of_lt (clr_le _ _) hw) hl2 hc2 fun i hi => ?_
      rw [clr_bit hw (hl e (List.mem_cons_self ..)), h i hi, Bool.true_and, Bool.not_eq_true']
      have hf2 : e.2 &&& x = 0 := and_zero.2 fun j ⟨h1, h2⟩ => and_zero.1 hf j ⟨h1, h j h2⟩
      have := hc e (List.mem_cons_self ..)
      simp only [hit, hf2, decide_true, Bool.and_true, decide_eq_false_iff_not, ne_eq, Classical.not_not] at this
      cases he : e.1.testBit i with
      | false => rfl
      | true => exact absurd ⟨he, hi⟩ (and_zero.1 this i)
    · exact sweep_keep l hw hl2 hc2 h
/-- The largest closed set within w, or nothing. -/
def largeF (l : List Ed) : Nat → Nat → Nat
  | 0, w => w
  | f + 1, w => if w = 0 ∨ closedN l w = true then w else largeF l f (sweep l w)
def largeN (l : List Ed) (w : Nat) : Nat := largeF l w w
structure LargeR (l : List Ed) (w r : Nat) : Prop where
  sub : sub r w
  cl : r = 0 ∨ closedN l r = true
  max : ∀ x, closedN l x = true → Go.Proofs.YteljfpcmpdpehaaGreatDoor.sub x w → Go.Proofs.YteljfpcmpdpehaaGreatDoor.sub x r
theorem closed_parts {l : List Ed} {w : Nat} (h : closedN l w = true) : w ≠ 0 ∧ ∀ e ∈ l, hit w e = false := by
  simp only [closedN, Bool.and_eq_true, decide_eq_true_eq, Bool.not_eq_true', List.any_eq_false, Bool.not_eq_true] at h
  exact h
theorem closed_of {l : List Ed} {w : Nat} (h0 : w ≠ 0) (h : ∀ e ∈ l, hit w e = false) : closedN l w = true := by
  simp only [closedN, Bool.and_eq_true, decide_eq_true_eq, Bool.not_eq_true', List.any_eq_false, Bool.not_eq_true]
  exact ⟨h0, h⟩
theorem not_closed {l : List Ed} {w : Nat} (h0 : w ≠ 0) (h : closedN l w = false) : l.any (hit w) = true := by
  simp only [closedN, h0, ne_eq, not_false_eq_true, decide_true, Bool.true_and, Bool.not_eq_false'] at h
  exact h
theorem LargeR.step {l : List Ed} {w r : Nat} (hw : w < 2 ^ 64) (hl : ∀ e ∈ l, e.1 < 2 ^ 64) (h : LargeR l (sweep l w) r) : LargeR l w r :=
  ⟨sub_trans h.sub (sweep_sub l hw hl), h.cl, fun x hx hs => h.max x hx (sweep_keep l hw hl (closed_parts hx).2 hs)⟩
theorem LargeR.end_ {l : List Ed} {w : Nat} (h : w = 0 ∨ closedN l w = true) : LargeR l w w := ⟨sub_refl w, h, fun _ _ h => h⟩
theorem LargeR.uniq {l : List Ed} {w r s : Nat} (h : LargeR l w r) (h' : LargeR l w s) : r = s := by
  have key : ∀ {r s : Nat}, LargeR l w r → LargeR l w s → Go.Proofs.YteljfpcmpdpehaaGreatDoor.sub r s := fun {r s} h h' => by
    rcases h.cl with rfl | hc
    · intro i hi; rw [Nat.zero_testBit] at hi; cases hi
    · exact h'.max r hc h.sub
  exact sub_antisymm (key h h') (key h' h)
end Go.Proofs.YteljfpcmpdpehaaGreatDoor
namespace Go.Proofs.YteljfpcmpdpehaaGreatDoor
open Go.RowKit Go.IntWalk

theorem drop_cons {α : Type} (l : List α) (k : Nat) (hk : k < l.length) : l.drop k = l[k] :: l.drop (k + 1) := by rw [List.drop_eq_getElem_cons hk]
theorem SlR.tr {w : World} {B : Nat} {A : Option Addr} {l : List Tr} (h : SlR w B A l) {k : Nat} (hk : k < l.length) : ∃ b off A1 c1 A2 c2, A = some ⟨b, off, none⟩ ∧ b < B ∧
    w.cell? ⟨b, off + k * 2, none⟩ = some (.slice A1 l[k].1.length c1) ∧ w.cell? ⟨b, off + k * 2 + 1, none⟩ = some (.slice A2 l[k].2.length c2) ∧ SlR w B A1 l[k].1 ∧ SlR w B A2 l[k].2 ∧ l[k].1.length ≤ maxLen ∧ l[k].2.length ≤ maxLen := by
  obtain ⟨b, off, es, hA, hb, hs, hc, e1, e2, rfl, _, _, ⟨A1, c1, rfl, h1, h2, h3⟩, A2, c2, rfl, k1, k2, k3⟩ := h k _ (List.getElem?_eq_getElem hk)
  have h4 : Rep.size Tr = 2 := rfl
  rw [h4] at hc
  exact ⟨b, off, A1, c1, A2, c2, hA, hb, by simpa using hc 0 _ rfl, by simpa using hc 1 _ rfl, h3, k3, Nat.le_trans h1 h2, Nat.le_trans k1 k2⟩
def lastK (l : List Int) (k : Nat) : Int := if k = 0 then -1 else l.getD (k - 1) 0
theorem lastK_succ (l : List Int) (k : Nat) (hk : k < l.length) : lastK l (k + 1) = l[k] := by simp [lastK, hk]
set_option maxRecDepth 100000 in
set_option maxHeartbeats 1000000 in
theorem isSet_any (n : Int) (A : Option Addr) (c : Nat) (l : List Int) (w : World) (hl : l.length ≤ maxLen) (h : SlR w w.heap.size A l) :
    Calls Tryz.prog 48 #[.int .i64 n, .slice A l.length c] w fun e w' => e = .returned (.bool (setB n l)) ∧ w = w' := by
  unfold maxLen at hl
  go_enter Tryz.func48, Tryz.ntmps48
  go_wp2_with fail
  go_loopw [9] (fun i wr => ∃ k : Nat, k ≤ l.length ∧ i = .int .i64 k ∧ w = wr ∧ asc n (-1) l = asc n (lastK l k) (l.drop k) ∧ -1 ≤ lastK l k) (fun i _ => l.length - (intOf i).toNat)
  case atStart => exact ⟨0, by omega, rfl, rfl, by simp [lastK], by simp [lastK]⟩
  case round =>
    obtain ⟨k, hk, rfl, rfl, ha, hlo⟩ := hrel
    have HA := hid ha
    have HLO := hid hlo
    clear ha hlo
    by_cases hlt : k < l.length
    · have hlt' : (k : Int) < l.length := by omega
      obtain ⟨b, off, rfl, hb, hc0, hi0⟩ := h.int hlt
      have hst : asc n (lastK l k) (l.drop k) = (decide (lastK l k < l[k]) && decide (l[k] < n) && asc n l[k] (l.drop (k + 1))) := by rw [drop_cons l k hlt]; rfl
      have HST := hid hst
      have HL := hid (lastK_succ l k hlt)
      have hprev : 0 < k → w.cell? ⟨b, off + (k - 1), none⟩ = some (.int .i64 (lastK l k)) := fun h0 => by
        have := h.int_at (k := k - 1) (by omega)
        rw [this]; simp [lastK, show ¬ k = 0 by omega, show k - 1 < l.length by omega]
      have hk0 : k = 0 → lastK l k = -1 := fun e => by simp [lastK, e]
      clear hst
      generalize l[k] = x at *
      generalize lastK l k = y at *
      clear hi0
      by_cases hx0 : x < 0
      · go_wp2_with fail
        go_ret
        exact ⟨ret_bool (by unfold setB; rw [HA.out, HST.out]; have := HLO.out; have : ¬ y < x := (by omega); simp [this]), rfl⟩
      by_cases hxn : n ≤ x
      · go_wp2_with fail
        go_ret
        exact ⟨ret_bool (by unfold setB; rw [HA.out, HST.out]; have : ¬ x < n := (by omega); simp [this]), rfl⟩
      by_cases hz : 0 < k
      · have hz' : (0 : Int) < k := by omega
        have hcp := hprev hz
        obtain ⟨j, rfl⟩ : ∃ j, k = j + 1 := ⟨k - 1, by omega⟩
        simp only [Nat.add_sub_cancel] at hcp
        clear hprev hk0
        by_cases hle : x ≤ y
        · go_wp2_with fail
          go_ret
          exact ⟨ret_bool (by unfold setB; rw [HA.out, HST.out]; have : ¬ y < x := (by omega); simp [this]), rfl⟩
        · go_wp2_with fail
          go_roundw
          case rel => exact ⟨j + 1 + 1, by omega, by go_num, by first | trivial | rfl, by rw [HA.out, HST.out, HL.out]; simp; omega, by rw [HL.out]; omega⟩
          case measure => simp [intOf]; omega
      · have hk9 : k = 0 := by omega
        have hy := hk0 hk9
        subst hk9
        clear hprev hk0
        simp only [Nat.add_zero] at hc0
        go_wp2_with fail
        go_roundw
        case rel => exact ⟨1, by omega, by go_num, by first | trivial | rfl, by rw [HA.out, HST.out, HL.out]; simp; omega, by rw [HL.out]; omega⟩
        case measure => simp [intOf]; omega
    · obtain rfl : k = l.length := by omega
      go_wp2_with fail
      go_ret
      exact ⟨ret_bool (by unfold setB; rw [HA.out]; simp [asc]), rfl⟩

set_option maxRecDepth 100000 in
set_option maxHeartbeats 1000000 in
theorem ixi_any (gf : Nat) (lb : Array Value) (eg : ∀ args w, (callFunc gf args).run Tryz.prog w = .ok (.enter gf args) w) (A : Option Addr) (c : Nat) (l : List Int) (f : Int → Bool) (w : World) (hl : l.length ≤ maxLen) (h : SlR w w.heap.size A l)
    (hp : ∀ (x : Int) (W : World), x ∈ l → Below w.heap.size w W → Calls Tryz.prog gf (#[.int .i64 x] ++ lb) W fun e w' => e = .returned (.bool (f x)) ∧ Below w.heap.size w w') :
    Calls Tryz.prog 90 #[.slice A l.length c, .func (.func gf) #[] lb] w fun e w' => ∃ r : Int, e = .returned (.int .i64 r) ∧ (0 ≤ r ↔ l.any f = true) ∧ Below w.heap.size w w' := by
  unfold maxLen at hl
  have HP := hid hp
  clear hp
  go_enter Tryz.func90, Tryz.ntmps90
  go_wp2_with fail
  go_loopw [8] (fun i wr => ∃ k : Nat, k ≤ l.length ∧ i = .int .i64 k ∧ Below w.heap.size w wr ∧ (l.take k).any f = false) (fun i _ => l.length - (intOf i).toNat)
  case atStart => exact ⟨0, by omega, rfl, Below.refl _ _, by simp⟩
  case round =>
    obtain ⟨k, hk, rfl, hB, ht⟩ := hrel
    have HB := hid hB
    have HT := hid ht
    by_cases hlt : k < l.length
    · have hlt' : (k : Int) < l.length := by omega
      obtain ⟨b, off, rfl, hb, g0, _⟩ := h.int hlt
      replace g0 := (bcell hB b _ hb).trans g0
      have hz : b < wr.heap.size := by have := hB.size; omega
      have HC := hid (HP.out l[k] wr (List.getElem_mem hlt) hB)
      have hyes := hid (fun (hq : f l[k] = true) => show l.any f = true from List.any_eq_true.2 ⟨l[k], List.getElem_mem hlt, hq⟩)
      have hno := hid (fun (hq : f l[k] = false) => show (l.take (k + 1)).any f = false from by rw [List.take_add_one, List.getElem?_eq_getElem hlt, List.any_append, ht]; simp [hq])
      clear hB ht
      generalize l[k] = x at *
      cases hq : f x with
      | true =>
        have HQ := hid hq
        rw [hq] at HC
        clear hq
        as_aux_lemma =>
          go_wp2_with fail
          refine HC.out.mono ?_
          rintro e w9 ⟨rfl, hB9⟩
          have HB9 := hid hB9
          clear hB9
          go_wp2_with fail
          go_ret
          exact ⟨k, rfl, ⟨fun _ => hyes.out HQ.out, fun _ => by omega⟩, HB9.out⟩
      | false =>
        have HQ := hid hq
        rw [hq] at HC
        clear hq
        as_aux_lemma =>
          go_wp2_with fail
          refine HC.out.mono ?_
          rintro e w9 ⟨rfl, hB9⟩
          have HB9 := hid hB9
          clear hB9
          go_wp2_with fail
          go_roundw
          case rel => exact ⟨k + 1, by omega, by go_num, HB9.out, hno.out HQ.out⟩
          case measure => simp [intOf]; omega
    · obtain rfl : k = l.length := by omega
      have hall := hid (show l.any f = false by rw [← ht, List.take_length])
      clear hB ht
      go_wp2_with fail
      go_ret
      exact ⟨-1, rfl, by rw [hall.out]; simp, HB.out⟩
set_option maxRecDepth 100000 in
theorem cti_any (gf : Nat) (lb : Array Value) (eg : ∀ args w, (callFunc gf args).run Tryz.prog w = .ok (.enter gf args) w) (A : Option Addr) (c : Nat) (l : List Int) (f : Int → Bool) (w : World) (hl : l.length ≤ maxLen) (h : SlR w w.heap.size A l)
    (hp : ∀ (x : Int) (W : World), x ∈ l → Below w.heap.size w W → Calls Tryz.prog gf (#[.int .i64 x] ++ lb) W fun e w' => e = .returned (.bool (f x)) ∧ Below w.heap.size w w') :
    Calls Tryz.prog 60 #[.slice A l.length c, .func (.func gf) #[] lb] w fun e w' => e = .returned (.bool (l.any f)) ∧ Below w.heap.size w w' := by
  have HI := hid (ixi_any gf lb eg A c l f w hl h hp)
  clear hp h
  unfold maxLen at hl
  go_enter Tryz.func60, Tryz.ntmps60
  go_wp2_with fail
  refine HI.out.mono ?_
  rintro e w2 ⟨r, rfl, hr, hB⟩
  have HR := hid hr
  have HB := hid hB
  clear hr hB
  go_wp2_with fail
  go_ret
  refine ⟨ret_bool ?_, HB.out⟩
  have := HR.out
  cases hx : l.any f with
  | true => rw [hx] at this; simpa using this
  | false => rw [hx] at this; simp at this ⊢; omega
set_option maxRecDepth 100000 in
set_option maxHeartbeats 1000000 in
theorem ixt_any (gf : Nat) (lb : Array Value) (eg : ∀ args w, (callFunc gf args).run Tryz.prog w = .ok (.enter gf args) w) (A : Option Addr) (c : Nat) (l : List Tr) (f : Tr → Bool) (w : World) (hl : l.length ≤ maxLen) (h : SlR w w.heap.size A l)
    (hp : ∀ (x : Tr) (W : World) (A1 A2 : Option Addr) (c1 c2 : Nat), x ∈ l → Below w.heap.size w W → SlR W W.heap.size A1 x.1 → SlR W W.heap.size A2 x.2 → x.1.length ≤ maxLen → x.2.length ≤ maxLen → Calls Tryz.prog gf (#[.agg #[.slice A1 x.1.length c1, .slice A2 x.2.length c2]] ++ lb) W fun e w' => e = .returned (.bool (f x)) ∧ Below w.heap.size w w') :
    Calls Tryz.prog 81 #[.slice A l.length c, .func (.func gf) #[] lb] w fun e w' => ∃ r : Int, e = .returned (.int .i64 r) ∧ (0 ≤ r ↔ l.any f = true) ∧ Below w.heap.size w w' := by
  unfold maxLen at hl
  have HP := hid hp
  clear hp
  go_enter Tryz.func81, Tryz.ntmps81
  go_wp2_with fail
  go_loopw [8] (fun i wr => ∃ k : Nat, k ≤ l.length ∧ i = .int .i64 k ∧ Below w.heap.size w wr ∧ (l.take k).any f = false) (fun i _ => l.length - (intOf i).toNat)
  case atStart => exact ⟨0, by omega, rfl, Below.refl _ _, by simp⟩
  case round =>
    obtain ⟨k, hk, rfl, hB, ht⟩ := hrel
    have HB := hid hB
    have HT := hid ht
    by_cases hlt : k < l.length
    · have hlt' : (k : Int) < l.length := by omega
      obtain ⟨b, off, A1, c1, A2, c2, rfl, hb, g0, g1, hs1, hs2, hl1, hl2⟩ := h.tr hlt
      replace g0 := (bcell hB b _ hb).trans g0
      replace g1 := (bcell hB b _ hb).trans g1
      have hz : b < wr.heap.size := by have := hB.size; omega
      have HC := hid (HP.out l[k] wr A1 A2 c1 c2 (List.getElem_mem hlt) hB ((hs1.below hB).more hB.size) ((hs2.below hB).more hB.size) hl1 hl2)
      have hyes := hid (fun (hq : f l[k] = true) => show l.any f = true from List.any_eq_true.2 ⟨l[k], List.getElem_mem hlt, hq⟩)
      have hno := hid (fun (hq : f l[k] = false) => show (l.take (k + 1)).any f = false from by rw [List.take_add_one, List.getElem?_eq_getElem hlt, List.any_append, ht]; simp [hq])
      clear hB ht hs1 hs2 hl1 hl2
      generalize l[k] = x at *
      obtain ⟨x1, x2⟩ := x
      simp only at g0 g1 HC
      cases hq : f (x1, x2) with
      | true =>
        have HQ := hid hq
        rw [hq] at HC
        clear hq
        as_aux_lemma =>
          go_wp2_with fail
          refine HC.out.mono ?_
          rintro e w9 ⟨rfl, hB9⟩
          have HB9 := hid hB9
          clear hB9
          go_wp2_with fail
          go_ret
          exact ⟨k, rfl, ⟨fun _ => hyes.out HQ.out, fun _ => by omega⟩, HB9.out⟩
      | false =>
        have HQ := hid hq
        rw [hq] at HC
        clear hq
        as_aux_lemma =>
          go_wp2_with fail
          refine HC.out.mono ?_
          rintro e w9 ⟨rfl, hB9⟩
          have HB9 := hid hB9
          clear hB9
          go_wp2_with fail
          go_roundw
          case rel => exact ⟨k + 1, by omega, by go_num, HB9.out, hno.out HQ.out⟩
          case measure => simp [intOf]; omega
    · obtain rfl : k = l.length := by omega
      have hall := hid (show l.any f = false by rw [← ht, List.take_length])
      clear hB ht
      go_wp2_with fail
      go_ret
      exact ⟨-1, rfl, by rw [hall.out]; simp, HB.out⟩
set_option maxRecDepth 100000 in
theorem ctt_any (gf : Nat) (lb : Array Value) (eg : ∀ args w, (callFunc gf args).run Tryz.prog w = .ok (.enter gf args) w) (A : Option Addr) (c : Nat) (l : List Tr) (f : Tr → Bool) (w : World) (hl : l.length ≤ maxLen) (h : SlR w w.heap.size A l)
    (hp : ∀ (x : Tr) (W : World) (A1 A2 : Option Addr) (c1 c2 : Nat), x ∈ l → Below w.heap.size w W → SlR W W.heap.size A1 x.1 → SlR W W.heap.size A2 x.2 → x.1.length ≤ maxLen → x.2.length ≤ maxLen → Calls Tryz.prog gf (#[.agg #[.slice A1 x.1.length c1, .slice A2 x.2.length c2]] ++ lb) W fun e w' => e = .returned (.bool (f x)) ∧ Below w.heap.size w w') :
    Calls Tryz.prog 46 #[.slice A l.length c, .func (.func gf) #[] lb] w fun e w' => e = .returned (.bool (l.any f)) ∧ Below w.heap.size w w' := by
  have HI := hid (ixt_any gf lb eg A c l f w hl h hp)
  clear hp h
  unfold maxLen at hl
  go_enter Tryz.func46, Tryz.ntmps46
  go_wp2_with fail
  refine HI.out.mono ?_
  rintro e w2 ⟨r, rfl, hr, hB⟩
  have HR := hid hr
  have HB := hid hB
  clear hr hB
  go_wp2_with fail
  go_ret
  refine ⟨ret_bool ?_, HB.out⟩
  have := HR.out
  cases hx : l.any f with
  | true => rw [hx] at this; simpa using this
  | false => rw [hx] at this; simp at this ⊢; omega
end Go.Proofs.YteljfpcmpdpehaaGreatDoor
namespace Go.Proofs.YteljfpcmpdpehaaGreatDoor
open Go.RowKit Go.IntWalk Go.Shelf

def badT (n : Int) (t : Tr) : Bool := !setB n t.1 || !setB n t.2
theorem netOK_eq (n : Int) (T : List Tr) : netOK (n, T) = (decide (0 ≤ n) && decide (n ≤ 64) && decide (T.length ≤ 5000) && !T.any (badT n)) := by
  unfold netOK
  congr 1
  rw [List.not_any_eq_all_not]
  congr 1
  funext t
  simp [badT]
set_option maxRecDepth 100000 in
set_option maxHeartbeats 1000000 in
theorem badT_any (n : Int) (gn : Nat) (A : Option Addr) (c m : Nat) (x : Tr) (A1 A2 : Option Addr) (c1 c2 : Nat) (w : World) (xn : Blk w gn 24 #[.int .i64 n, .slice A m c]) (h1 : SlR w w.heap.size A1 x.1) (h2 : SlR w w.heap.size A2 x.2) (l1 : x.1.length ≤ maxLen) (l2 : x.2.length ≤ maxLen) :
    Calls Tryz.prog 47 #[.agg #[.slice A1 x.1.length c1, .slice A2 x.2.length c2], .pointer (some ⟨gn, 0, none⟩)] w fun e w' => e = .returned (.bool (badT n x)) ∧ Below w.heap.size w w' := by
  have hB1 := hid (show Below w.heap.size w (w.alloc (Obj.cells #[.slice A1 x.1.length c1, .slice A2 x.2.length c2] 47)) by (repeat (first | exact Below.refl _ _ | assumption | refine below_drewN ?_ _ | refine Below.drew ?_ | refine Below.alloc ?_ (by (try simp); (try omega)) _ | refine Below.setCell ?_ (by (try simp); (try omega)) _)))
  have X1 := hid (Blk.new w 47 #[.slice A1 x.1.length c1, .slice A2 x.2.length c2])
  have HC1 := hid (isSet_any n A1 c1 x.1 _ l1 ((h1.below hB1.out).more hB1.out.size))
  have HC2 := hid (isSet_any n A2 c2 x.2 _ l2 ((h2.below hB1.out).more hB1.out.size))
  have y1 := (xn.below hB1.out xn.lt).cell 0; have z1 := xn.lt
  simp at y1
  have hbf := hid (show badT n x = (!setB n x.1 || !setB n x.2) from rfl)
  clear xn h1 h2
  obtain ⟨x1, x2⟩ := x
  simp only at *
  unfold maxLen at l1 l2
  go_enter Tryz.func47, Tryz.ntmps47
  go_upto_region 1 with fail
  generalize hw1 : w.alloc (Obj.cells #[.slice A1 x1.length c1, .slice A2 x2.length c2] 47) = w1 at *
  have hz9 : gn < w1.heap.size := by have := hB1.out.size; omega
  have hz8 : w.heap.size < w1.heap.size := by rw [← hw1]; simp
  clear hw1
  have y2 := X1.out.cell 0
  have y3 := X1.out.cell 1
  simp at y2 y3
  cases hq : setB n x1 with
  | false =>
    rw [hq] at HC1
    have HQ := hid hq
    clear hq
    go_wp2_with fail
    refine HC1.out.mono ?_
    rintro e w2 ⟨rfl, rfl⟩
    go_wp2_with fail
    go_ret
    exact ⟨ret_bool (by rw [hbf.out, HQ.out]; simp), hB1.out⟩
  | true =>
    rw [hq] at HC1
    have HQ := hid hq
    clear hq
    go_wp2_with fail
    refine HC1.out.mono ?_
    rintro e w2 ⟨rfl, rfl⟩
    go_wp2_with fail
    refine HC2.out.mono ?_
    rintro e w2 ⟨rfl, rfl⟩
    go_wp2_with fail
    go_ret
    exact ⟨ret_bool (by rw [hbf.out, HQ.out]; simp), hB1.out⟩
set_option maxRecDepth 100000 in
set_option maxHeartbeats 1000000 in
theorem right_any (n : Int) (A : Option Addr) (c : Nat) (T : List Tr) (w : World) (hl : T.length ≤ maxLen) (h : SlR w w.heap.size A T) :
    Calls Tryz.prog 8 #[.agg #[.int .i64 n, .slice A T.length c]] w fun e w' => e = .returned (.bool (netOK (n, T))) ∧ Below w.heap.size w w' := by
  have hB1 := hid (show Below w.heap.size w (w.alloc (Obj.cells #[.int .i64 n, .slice A T.length c] 24)) by (repeat (first | exact Below.refl _ _ | assumption | refine below_drewN ?_ _ | refine Below.drew ?_ | refine Below.alloc ?_ (by (try simp); (try omega)) _ | refine Below.setCell ?_ (by (try simp); (try omega)) _)))
  have X1 := hid (Blk.new w 24 #[.int .i64 n, .slice A T.length c])
  have HC := hid (ctt_any 47 #[.pointer (some ⟨w.heap.size, 0, none⟩)] (enters_of Tryz.func47 (by kernel_rfl) rfl) A c T (badT n) _ hl ((h.below hB1.out).more hB1.out.size) (fun x W A1 A2 c1 c2 _ hW s1 s2 l1 l2 =>
    (badT_any n _ A c T.length x A1 A2 c1 c2 W (X1.out.below hW X1.out.lt) s1 s2 l1 l2).mono (fun e w' ⟨he, hb⟩ => ⟨he, hW.trans (hb.mono hW.size)⟩)))
  have HN := hid (netOK_eq n T)
  clear h
  unfold maxLen at hl
  go_enter Tryz.func8, Tryz.ntmps8
  go_upto_region 1 with fail
  generalize hw1 : w.alloc (Obj.cells #[.int .i64 n, .slice A T.length c] 24) = w1 at *
  have hz8 : w.heap.size < w1.heap.size := by rw [← hw1]; simp
  clear hw1
  have y2 := X1.out.cell 0
  have y3 := X1.out.cell 1
  simp at y2 y3
  by_cases h0 : n < 0
  · go_wp2_with fail
    go_ret
    exact ⟨ret_bool (by rw [HN.out]; have : ¬ 0 ≤ n := (by omega); simp [this]), hB1.out⟩
  by_cases h64 : 64 < n
  · go_wp2_with fail
    go_ret
    exact ⟨ret_bool (by rw [HN.out]; have : ¬ n ≤ 64 := (by omega); simp [this]), hB1.out⟩
  by_cases h5 : 5000 < T.length
  · go_wp2_with fail
    go_ret
    exact ⟨ret_bool (by rw [HN.out]; have : ¬ T.length ≤ 5000 := (by omega); simp [this]), hB1.out⟩
  · go_wp2_with fail
    refine HC.out.mono ?_
    rintro e w2 ⟨rfl, hB2⟩
    have HB := hid (hB1.out.trans (hB2.mono hB1.out.size))
    clear hB2 HC
    go_wp2_with fail
    go_ret
    exact ⟨ret_bool (by rw [HN.out]; simp [show 0 ≤ n by omega, show n ≤ 64 by omega, show T.length ≤ 5000 by omega]), HB.out⟩

def badM (k : Int) : Bool := decide (k < 0) || decide (1099511627776 < k)
theorem markOK_eq (n : Net) (m : List Int) : markOK n m = (decide ((m.length : Int) = n.1) && !m.any badM) := by
  unfold markOK
  congr 1
  rw [List.not_any_eq_all_not]
  congr 1
  funext t
  rw [Bool.eq_iff_iff]
  simp [badM]
set_option maxRecDepth 100000 in
theorem badM_any (k : Int) (w : World) : Calls Tryz.prog 61 #[.int .i64 k] w fun e w' => e = .returned (.bool (badM k)) ∧ w = w' := by
  by_cases h0 : k < 0
  · go_enter Tryz.func61, Tryz.ntmps61
    go_wp2_with fail
    go_ret
    exact ⟨ret_bool (by simp [badM, h0]), rfl⟩
  · go_enter Tryz.func61, Tryz.ntmps61
    go_wp2_with fail
    go_ret
    exact ⟨ret_bool (by simp [badM]; omega), rfl⟩
set_option maxRecDepth 100000 in
set_option maxHeartbeats 1000000 in
theorem mark_any (n : Int) (A : Option Addr) (c : Nat) (T : List Tr) (B : Option Addr) (d : Nat) (m : List Int) (w : World) (hm : m.length ≤ maxLen) (h : SlR w w.heap.size B m) :
    Calls Tryz.prog 19 #[.agg #[.int .i64 n, .slice A T.length c], .slice B m.length d] w fun e w' => e = .returned (.bool (markOK (n, T) m)) ∧ Below w.heap.size w w' := by
  have hB1 := hid (show Below w.heap.size w (w.alloc (Obj.cells #[.int .i64 n, .slice A T.length c] 24)) by (repeat (first | exact Below.refl _ _ | assumption | refine below_drewN ?_ _ | refine Below.drew ?_ | refine Below.alloc ?_ (by (try simp); (try omega)) _ | refine Below.setCell ?_ (by (try simp); (try omega)) _)))
  have X1 := hid (Blk.new w 24 #[.int .i64 n, .slice A T.length c])
  have HC := hid (cti_any 61 #[] (enters_of Tryz.func61 (by kernel_rfl) rfl) B d m badM _ hm ((h.below hB1.out).more hB1.out.size) (fun x W _ hW =>
    (badM_any x W).mono (fun e w' ⟨he, hb⟩ => ⟨he, hb ▸ hW⟩)))
  have HN := hid (markOK_eq (n, T) m)
  clear h
  unfold maxLen at hm
  go_enter Tryz.func19, Tryz.ntmps19
  go_upto_region 1 with fail
  generalize hw1 : w.alloc (Obj.cells #[.int .i64 n, .slice A T.length c] 24) = w1 at *
  have hz8 : w.heap.size < w1.heap.size := by rw [← hw1]; simp
  clear hw1
  have y2 := X1.out.cell 0
  simp at y2
  by_cases h0 : (m.length : Int) = n
  · have HQ := hid h0
    go_wp2_with fail
    refine HC.out.mono ?_
    rintro e w2 ⟨rfl, hB2⟩
    have HB := hid (hB1.out.trans (hB2.mono hB1.out.size))
    clear hB2 HC
    go_wp2_with fail
    go_ret
    exact ⟨ret_bool (by rw [HN.out]; simp [HQ.out]), HB.out⟩
  · have HQ := hid h0
    go_wp2_with fail
    go_ret
    exact ⟨ret_bool (by rw [HN.out]; simp [HQ.out]), hB1.out⟩
end Go.Proofs.YteljfpcmpdpehaaGreatDoor
namespace Go.Proofs.YteljfpcmpdpehaaGreatDoor
open Go.RowKit Go.IntWalk Go.Shelf

theorem slr_none {w : World} {B : Nat} {l : List Int} (h : SlR w B none l) : l = [] := by
  cases l with
  | nil => rfl
  | cons x l => obtain ⟨b, off, hA, _⟩ := h.int (k := 0) (by simp); cases hA
set_option maxRecDepth 100000 in
set_option maxHeartbeats 1000000 in
theorem sclone_own (A : Option Addr) (c : Nat) (l : List Int) (w : World) (hl : l.length ≤ 65536) (hs : SlR w w.heap.size A l) :
    Calls Tryz.prog 74 #[.slice A l.length c] w fun e w' => ∃ v, e = .returned v ∧ OwnI w' w.heap.size v l ∧ Below w.heap.size w w' := by
  have hn1 := fun W => Lib.run_eql_slice_nil (P := Tryz.prog) W 25 3 A l.length c 0 0 Tryz.underlying25
  cases A with
  | none =>
    have hl0 := slr_none hs
    subst hl0
    simp only [Option.isNone_none, List.length_nil] at hn1
    go_enter Tryz.func74, Tryz.ntmps74
    go_wp2
    go_ret
    exact ⟨_, rfl, OwnI.nil _ _, Below.refl _ _⟩
  | some ad =>
    simp only [Option.isNone_some] at hn1
    have hints := hid hs.ints
    have hcell : Hid (∀ (j : Nat) (u : Value), (l.map (Value.int .i64))[j]? = some u → w.cell? (ad.add j) = some u) := by
      intro j u hu
      have hpos : 0 < l.length := by
        cases l with
        | nil => simp at hu
        | cons x l => simp
      obtain ⟨b, off, hA, _, hc⟩ := hs.int_cells hpos
      injection hA with hA
      rw [hA]; exact hc j u hu
    have hbl : Hid (∀ (j : Nat) (u : Value), (l.map (Value.int .i64))[j]? = some u → (w.alloc (Obj.cells #[] 3)).cell? (ad.add j) = some u) := fun j u hu => by
      have := hcell.out j u hu
      rw [← this]
      exact World.cell?_alloc_lt w _ _ (by have := cell_lt this; exact this.1)
    have hown : Hid (OwnI (w.alloc (Obj.cells #[] 3)) w.heap.size (.slice (some ⟨w.heap.size, 0, none⟩) 0 0) []) := OwnI.fresh (l := []) (Blk.new w _ _) (Nat.le_refl _) (by simp)
    go_enter Tryz.func74, Tryz.ntmps74
    go_wp2_with (at_builtin; refine wp_appI _ rfl (.tmp 5) (.tmp 6) rfl w.heap.size (.slice (some ⟨w.heap.size, 0, none⟩) 0 0) [] rfl hown.out ad c l rfl hbl.out (by simp; omega) (by simp) ?_; intro v1 w1 ho1 hg1 hat1)
    clear hn1
    go_wp2
    go_ret
    refine ⟨_, rfl, by simpa using ho1, ?_⟩
    refine ((Below.refl _ w).alloc (Nat.le_refl _) _).grown hg1 (by simp) ?_
    intro k hk
    have hk' : some w.heap.size = some k := hk
    injection hk' with e
    omega

/-! ### A set as a word -/
theorem pow_u64 {k : Nat} (h : k < 64) : IntKind.u64.wrap (2 ^ k) = ((2 ^ k : Nat) : Int) := by
  have h1 : 2 ^ k < 2 ^ 64 := Nat.pow_lt_pow_right (by omega) h
  have h2 : (2 : Int) ^ k = ((2 ^ k : Nat) : Int) := by simp
  rw [IntKind.wrap_u64, h2]
  generalize 2 ^ k = b at *
  omega
theorem or_u64 {a k : Nat} (ha : a < 2 ^ 64) (h : k < 64) : bits .or .u64 (a : Int) (IntKind.u64.wrap (2 ^ k)) = ((a ||| 2 ^ k : Nat) : Int) := by
  have h1 : 2 ^ k < 2 ^ 64 := Nat.pow_lt_pow_right (by omega) h
  rw [pow_u64 h]
  exact bits_or_u64_nat a (2 ^ k) (by simpa using ha) (by simpa using h1)
theorem wordN_take (l : List Int) (k : Nat) (hk : k < l.length) : wordN (l.take (k + 1)) = wordN (l.take k) ||| 2 ^ l[k].toNat := by
  unfold wordN
  rw [List.take_add_one, List.getElem?_eq_getElem hk, List.foldl_append]
  rfl
set_option maxRecDepth 100000 in
set_option maxHeartbeats 1000000 in
theorem word_any (A : Option Addr) (c : Nat) (l : List Int) (w : World) (hl : l.length ≤ maxLen) (h : SlR w w.heap.size A l) (hb : ∀ x ∈ l, 0 ≤ x ∧ x < 64) :
    Calls Tryz.prog 56 #[.slice A l.length c] w fun e w' => e = .returned (.int .u64 (wordN l : Nat)) ∧ w = w' := by
  unfold maxLen at hl
  have HT := hid (wordN_take l)
  have HW := hid (fun k => word_lt (s := l.take k) (k := 64) (fun p hp => hb p (List.mem_of_mem_take hp)))
  go_enter Tryz.func56, Tryz.ntmps56
  go_wp2_with fail
  go_loopw [3, 8] (fun a i wr => ∃ k : Nat, k ≤ l.length ∧ i = .int .i64 k ∧ w = wr ∧ a = .int .u64 (wordN (l.take k) : Nat)) (fun _ i _ => l.length - (intOf i).toNat)
  case atStart => exact ⟨0, by omega, rfl, rfl, rfl⟩
  case round =>
    obtain ⟨k, hk, rfl, rfl, rfl⟩ := hrel
    by_cases hlt : k < l.length
    · have hlt' : (k : Int) < l.length := by omega
      obtain ⟨b, off, rfl, hz, hc0, hi0⟩ := h.int hlt
      have hx := hb _ (List.getElem_mem hlt)
      have hw2 := HW.out k
      have ht := hid (HT.out k hlt)
      clear hi0
      generalize l[k] = x at *
      obtain ⟨q, rfl⟩ : ∃ q : Nat, x = q := ⟨x.toNat, by omega⟩
      have hor := or_u64 hw2 (show q < 64 by omega)
      have hq0 : (0 : Int) ≤ q := by omega
      have hq1 : (q : Int) ≤ 64 := by omega
      generalize wordN (l.take k) = a at *
      go_wp2_with fail
      go_roundw
      case rel => exact ⟨k + 1, by omega, by go_num, by first | trivial | rfl, by rw [ht.out, Int.toNat_natCast, ← hor]⟩
      case measure => simp [intOf]; omega
    · obtain rfl : k = l.length := by omega
      rw [List.take_length]
      go_wp2_with fail
      go_ret
      exact ⟨rfl, rfl⟩

/-! ### Enabled -/
/-- Is the t-th transition enabled? -/
def lowF (m : List Int) (p : Int) : Bool := decide (m.getD p.toNat 0 < 1)
def enN (T : List Tr) (m : List Int) (t : Int) : Bool := decide (0 ≤ t) && decide (t < T.length) && !(T.getD t.toNat ([], [])).1.any (lowF m)
set_option maxRecDepth 100000 in
theorem low_any (B : Option Addr) (d : Nat) (m : List Int) (gm : Nat) (x : Int) (w : World) (hm : m.length ≤ maxLen) (h : SlR w w.heap.size B m) (hx : 0 ≤ x ∧ x < m.length) (xm : Blk w gm 25 #[.slice B m.length d]) :
    Calls Tryz.prog 75 #[.int .i64 x, .pointer (some ⟨gm, 0, none⟩)] w fun e w' => e = .returned (.bool (lowF m x)) ∧ Below w.heap.size w w' := by
  unfold maxLen at hm
  obtain ⟨q, rfl⟩ : ∃ q : Nat, x = q := ⟨x.toNat, by omega⟩
  have hq : q < m.length := by omega
  have hq' : (q : Int) < m.length := by omega
  obtain ⟨b, off, rfl, hb, h1, _⟩ := h.int hq
  have y1 := xm.cell 0; have z1 := xm.lt
  simp at y1
  have hbf := hid (show lowF m q = decide (m[q] < 1) by simp [lowF, hq])
  clear h xm hx
  generalize m[q] = u at *
  go_enter Tryz.func75, Tryz.ntmps75
  go_wp2_with fail
  go_ret
  exact ⟨ret_bool hbf.out.symm, Below.refl _ _⟩
set_option maxRecDepth 100000 in
set_option maxHeartbeats 2000000 in
theorem enabled_any (n : Int) (A : Option Addr) (c : Nat) (T : List Tr) (B : Option Addr) (d : Nat) (m : List Int) (t : Int) (w : World) (hl : T.length ≤ maxLen) (h : SlR w w.heap.size A T) (hm : m.length ≤ maxLen) (hM : SlR w w.heap.size B m)
    (hn : n = m.length) (hok : netOK (n, T) = true) :
    Calls Tryz.prog 32 #[.agg #[.int .i64 n, .slice A T.length c], .slice B m.length d, .int .i64 t] w fun e w' => e = .returned (.bool (enN T m t)) ∧ Below w.heap.size w w' := by
  replace hn := hid hn
  obtain ⟨w1, hw1⟩ : ∃ w1, w1 = (w.alloc (Obj.cells #[.int .i64 n, .slice A T.length c] 24)) := ⟨_, rfl⟩
  obtain ⟨w2, hw2⟩ : ∃ w2, w2 = (w1.alloc (Obj.cells #[.slice B m.length d] 25)) := ⟨_, rfl⟩
  have s1 : w1.heap.size = w.heap.size + 1 := by rw [hw1]; simp
  have s2 : w2.heap.size = w.heap.size + 1 + 1 := by rw [hw2]; simp [s1]
  have B2 : Below w.heap.size w w2 := by rw [hw2, hw1]; (repeat (first | exact Below.refl _ _ | assumption | refine below_drewN ?_ _ | refine Below.drew ?_ | refine Below.alloc ?_ (by (try simp); (try omega)) _ | refine Below.setCell ?_ (by (try simp); (try omega)) _))
  have x1 : Blk w2 w.heap.size 24 #[.int .i64 n, .slice A T.length c] := by rw [hw2, hw1]; exact ((Blk.new w _ _).alloc _)
  have x2 : Blk w2 (w.heap.size + 1) 25 #[.slice B m.length d] := by rw [hw2]; exact (Blk.new_at (by rw [s1]))
  have y1 := x1.cell 1; have z1 := x1.lt; have z2 := x2.lt
  simp at y1
  have X2 := hid x2
  have HB2 := hid B2
  clear x1 x2
  by_cases h0 : t < 0
  · have hr := hid (show enN T m t = false by have : ¬ 0 ≤ t := by omega
                                              simp [enN, this])
    unfold maxLen at hl hm
    go_enter Tryz.func32, Tryz.ntmps32
    go_upto_region 1 with fail
    rw [← hw1, ← hw2]
    clear hw1 hw2 B2
    go_wp2_with fail
    go_ret
    exact ⟨ret_bool hr.out.symm, HB2.out⟩
  by_cases hT : (T.length : Int) ≤ t
  · have hr := hid (show enN T m t = false by have : ¬ t < T.length := by omega
                                              simp [enN, this])
    unfold maxLen at hl hm
    go_enter Tryz.func32, Tryz.ntmps32
    go_upto_region 1 with fail
    rw [← hw1, ← hw2]
    clear hw1 hw2 B2
    go_wp2_with fail
    go_ret
    exact ⟨ret_bool hr.out.symm, HB2.out⟩
  obtain ⟨q, rfl⟩ : ∃ q : Nat, t = q := ⟨t.toNat, by omega⟩
  have hq : q < T.length := by omega
  have hq' : (q : Int) < T.length := by omega
  have hset : setB n T[q].1 = true := by
    simp only [netOK, Bool.and_eq_true, List.all_eq_true] at hok
    exact (hok.2 _ (List.getElem_mem hq)).1
  obtain ⟨b, off, A1, c1, A2, c2, rfl, hb, g0, g1, hs1, hs2, hl1, hl2⟩ := h.tr hq
  have g0' := (bcell B2 b _ hb).trans g0
  have hz : b < w2.heap.size := by omega
  have HC := hid (cti_any 75 #[.pointer (some ⟨w.heap.size + 1, 0, none⟩)] (enters_of Tryz.func75 (by kernel_rfl) rfl) A1 c1 T[q].1 (lowF m) w2 hl1 ((hs1.below B2).more B2.size) (fun x W hx hW => by
    have hW0 := B2.trans (hW.mono B2.size)
    refine (low_any B d m _ x W hm ((hM.below hW0).more hW0.size) ?_ (X2.out.below hW X2.out.lt)).mono (fun e w' ⟨he, hb⟩ => ⟨he, hW.trans (hb.mono hW.size)⟩)
    have := setB_mem hset x hx
    rw [hn.out] at this
    exact this))
  have hr := hid (show enN T m q = !T[q].1.any (lowF m) by simp [enN, hq])
  clear h hs1 hs2 g1 hset hok
  generalize T[q].1 = I at *
  unfold maxLen at hl hm hl1
  go_enter Tryz.func32, Tryz.ntmps32
  go_upto_region 1 with fail
  rw [← hw1, ← hw2]
  clear hw1 hw2 B2 g0
  go_wp2_with fail
  refine HC.out.mono ?_
  rintro e w3 ⟨rfl, hB3⟩
  have HB := hid (HB2.out.trans (hB3.mono HB2.out.size))
  clear hB3 HC
  go_wp2_with fail
  go_ret
  exact ⟨ret_bool hr.out.symm, HB.out⟩
end Go.Proofs.YteljfpcmpdpehaaGreatDoor
namespace Go.Proofs.YteljfpcmpdpehaaGreatDoor
open Go.RowKit Go.IntWalk Go.Shelf

theorem asc_len {n : Int} : ∀ {l : List Int} {last : Int}, asc n last l = true → last < n → last + l.length < n
  | [], last, _, h => by simpa using h
  | x :: r, last, h, h' => by
    simp only [asc, Bool.and_eq_true, decide_eq_true_eq] at h
    have := asc_len h.2 h.1.2
    simp only [List.length_cons]
    omega
theorem setB_len {n : Int} {s : List Int} (h : setB n s = true) (hn : 0 ≤ n) : (s.length : Int) ≤ n := by
  have := asc_len h (by omega)
  omega
def addN (d : Int) (m s : List Int) : List Int := s.foldl (fun m p => m.set p.toNat (m.getD p.toNat 0 + d)) m
theorem addN_len (d : Int) : ∀ (s m : List Int), (addN d m s).length = m.length
  | [], m => rfl
  | p :: s, m => by
    have := addN_len d s (m.set p.toNat (m.getD p.toNat 0 + d))
    rw [List.length_set] at this
    exact this
theorem addN_take (d : Int) (m s : List Int) (k : Nat) (hk : k < s.length) : addN d m (s.take (k + 1)) = (addN d m (s.take k)).set s[k].toNat ((addN d m (s.take k)).getD s[k].toNat 0 + d) := by
  unfold addN
  rw [List.take_add_one, List.getElem?_eq_getElem hk, List.foldl_append]
  rfl
theorem addN_in {d a b : Int} (hd : -1 ≤ d ∧ d ≤ 1) : ∀ (s m : List Int), a ≤ 0 → 0 ≤ b → (∀ x ∈ m, a ≤ x ∧ x ≤ b) → ∀ x ∈ addN d m s, a - s.length ≤ x ∧ x ≤ b + s.length
  | [], m, _, _, h, x, hx => by have := h x hx; simp; omega
  | p :: s, m, ha, hb, h, x, hx => by
    have h2 : ∀ y ∈ m.set p.toNat (m.getD p.toNat 0 + d), a - 1 ≤ y ∧ y ≤ b + 1 := fun y hy => by
      rcases List.mem_or_eq_of_mem_set hy with hy | rfl
      · have := h y hy; omega
      · by_cases hp : p.toNat < m.length
        · have := h _ (List.getElem_mem hp)
          rw [List.getD_eq_getElem?_getD, List.getElem?_eq_getElem hp]
          simp only [Option.getD_some]
          omega
        · rw [List.getD_eq_getElem?_getD, List.getElem?_eq_none (by omega)]
          simp only [Option.getD_none]
          omega
    have := addN_in hd s _ (a := a - 1) (b := b + 1) (by omega) (by omega) h2 x hx
    simp only [List.length_cons]
    omega
/-- What Fire returns. -/
def fireN (n : Int) (T : List Tr) (m : List Int) (t : Int) : List Int × Int :=
  if t < 0 ∨ (T.length : Int) ≤ t then ([], 4)
  else if enN T m t = false then ([], 7)
  else if markOK (n, T) (addN 1 (addN (-1) m (T.getD t.toNat ([], [])).1) (T.getD t.toNat ([], [])).2) = true then (addN 1 (addN (-1) m (T.getD t.toNat ([], [])).1) (T.getD t.toNat ([], [])).2, 0)
  else ([], 6)
def RetFire (w : World) (r : List Int × Int) (e : Ending) (w' : World) : Prop := ∃ A c, e = .returned (.tuple #[.slice A r.1.length c, .int .i64 r.2]) ∧ SlR w' w'.heap.size A r.1 ∧ Below w.heap.size w w'
set_option maxRecDepth 100000 in
set_option maxHeartbeats 4000000 in
theorem fire_any (n : Int) (A : Option Addr) (c : Nat) (T : List Tr) (B : Option Addr) (d : Nat) (m : List Int) (t : Int) (w : World) (hl : T.length ≤ maxLen) (h : SlR w w.heap.size A T) (hM : SlR w w.heap.size B m)
    (hok : netOK (n, T) = true) (hmk : markOK (n, T) m = true) :
    Calls Tryz.prog 26 #[.agg #[.int .i64 n, .slice A T.length c], .slice B m.length d, .int .i64 t] w (RetFire w (fireN n T m t)) := by
  obtain ⟨w1, hw1⟩ : ∃ w1, w1 = (w.alloc (Obj.cells #[.int .i64 n, .slice A T.length c] 24)) := ⟨_, rfl⟩
  have s1 : w1.heap.size = w.heap.size + 1 := by rw [hw1]; simp
  have B1 : Below w.heap.size w w1 := by rw [hw1]; (repeat (first | exact Below.refl _ _ | assumption | refine below_drewN ?_ _ | refine Below.drew ?_ | refine Below.alloc ?_ (by (try simp); (try omega)) _ | refine Below.setCell ?_ (by (try simp); (try omega)) _))
  have x1 : Blk w1 w.heap.size 24 #[.int .i64 n, .slice A T.length c] := by rw [hw1]; exact Blk.new w _ _
  have y1 := x1.cell 1; have y0 := x1.cell 0; have z1 := x1.lt
  simp at y1 y0
  have HB1 := hid B1
  by_cases ht : t < 0 ∨ (T.length : Int) ≤ t
  · have hr := hid (show fireN n T m t = ([], 4) by unfold fireN; rw [if_pos ht])
    unfold maxLen at hl
    go_enter Tryz.func26, Tryz.ntmps26
    go_upto_region 1 with fail
    rw [← hw1]
    clear hw1 B1 x1
    by_cases h0 : t < 0
    · go_wp2_with fail
      go_ret2
      exact ⟨none, 0, by rw [hr.out]; rfl, by rw [hr.out]; exact SlR.nil, HB1.out⟩
    · have hT : (T.length : Int) ≤ t := by omega
      go_wp2_with fail
      go_ret2
      exact ⟨none, 0, by rw [hr.out]; rfl, by rw [hr.out]; exact SlR.nil, HB1.out⟩
  have hn : n = m.length := by
    simp only [markOK, Bool.and_eq_true, decide_eq_true_eq] at hmk
    exact hmk.1.symm
  have hn64 : 0 ≤ n ∧ n ≤ 64 := by
    simp only [netOK, Bool.and_eq_true, decide_eq_true_eq] at hok
    exact ⟨hok.1.1.1, hok.1.1.2⟩
  have hmr : ∀ x ∈ m, 0 ≤ x ∧ x ≤ 1099511627776 := fun x hx => by
    simp only [markOK, Bool.and_eq_true, List.all_eq_true, decide_eq_true_eq] at hmk
    exact hmk.2 x hx
  obtain ⟨q, rfl⟩ : ∃ q : Nat, t = q := ⟨t.toNat, by omega⟩
  have hq : q < T.length := by omega
  have hq' : (q : Int) < T.length := by omega
  have hset : setB n T[q].1 = true ∧ setB n T[q].2 = true := by
    simp only [netOK, Bool.and_eq_true, List.all_eq_true] at hok
    exact hok.2 _ (List.getElem_mem hq)
  have hmlen : m.length ≤ 64 := by omega
  have HE := hid (enabled_any n A c T B d m q w1 hl ((h.below B1).more B1.size) (by unfold maxLen; omega) ((hM.below B1).more B1.size) hn hok)
  have HCl := hid (fun W (hW : Below w.heap.size w W) => sclone_own B d m W (by omega) ((hM.below hW).more hW.size))
  obtain ⟨b, off, A1, c1, A2, c2, rfl, hb, g0, g1, hs1, hs2, hl1, hl2⟩ := h.tr hq
  have hf := hid (show enN T m q = true → fireN n T m q = if markOK (n, T) (addN 1 (addN (-1) m T[q].1) T[q].2) = true then (addN 1 (addN (-1) m T[q].1) T[q].2, 0) else ([], 6) from fun he => by
    unfold fireN
    rw [if_neg ht, he]
    simp [hq])
  have hf0 := hid (show enN T m q = false → fireN n T m q = ([], 7) from fun he => by
    unfold fireN
    rw [if_neg ht, he]
    simp)
  have HMk := hid (fun (out : List Int) => mark_any n (some ⟨b, off, none⟩) c T)
  have hI := hid (fun x (hx : x ∈ T[q].1) => setB_mem hset.1 x hx)
  have hO := hid (fun x (hx : x ∈ T[q].2) => setB_mem hset.2 x hx)
  have hIl := setB_len hset.1 hn64.1
  have hOl := setB_len hset.2 hn64.1
  have HMr := hid hmr
  clear h hM hok hmk hmr hset
  generalize T[q].1 = I at *
  generalize T[q].2 = O at *
  unfold maxLen at hl hl1 hl2
  have HN := hid hn
  clear ht hn
  go_enter Tryz.func26, Tryz.ntmps26
  go_upto_region 1 with fail
  rw [← hw1]
  clear hw1
  have X1 := hid x1
  clear x1
  cases he : enN T m q with
  | false =>
    rw [he] at HE
    have hr := hid (hf0.out he)
    clear he hf hf0
    go_wp2_with fail
    refine HE.out.mono ?_
    rintro e w2 ⟨rfl, hB2⟩
    have HB := hid (B1.trans (hB2.mono B1.size))
    clear hB2 HE
    go_wp2_with fail
    go_ret2
    exact ⟨none, 0, by rw [hr.out]; rfl, by rw [hr.out]; exact SlR.nil, HB.out⟩
  | true =>
    rw [he] at HE
    have hr := hid (hf.out he)
    clear he hf hf0
    go_upto_region 5 with (go_at_call 32; refine HE.out.mono ?_; rintro e w2 ⟨rfl, hB2⟩)
    have HB2 := hid (B1.trans (hB2.mono B1.size))
    have y0' := (bcell hB2 w.heap.size 0 z1).trans y0
    have y1' := (bcell hB2 w.heap.size 1 z1).trans y1
    have hgz := HB2.out.size
    have hcl := hid (HCl.out w2 HB2.out)
    have z2 : w.heap.size < w2.heap.size := by have := hB2.size; omega
    clear hB2 HE HCl y0 y1
    go_upto_region 6 with (go_at_call 74; refine hcl.out.mono ?_; rintro e w3 ⟨v, rfl, ho3, hB3⟩; obtain ⟨A3, c3, rfl, hA3⟩ := ho3.form)
    have HB3 := hid (HB2.out.trans (hB3.mono HB2.out.size))
    have HW3 := hid hB3
    have y0 := (bcell hB3 w.heap.size 0 z2).trans y0'
    have y1 := (bcell hB3 w.heap.size 1 z2).trans y1'
    have z3 : w.heap.size < w3.heap.size := by have := hB3.size; omega
    have g0' := (bcell HB3.out b _ hb).trans g0
    have hzb : b < w3.heap.size := by have := HB3.out.size; omega
    have HO3 := hid ho3
    have HY := hid (And.intro y0' y1')
    clear hB3 ho3 y0' y1' hcl
    have hIm := hid (fun k => addN_in (d := -1) (a := 0) (b := 1099511627776) (by omega) (I.take k) m (by omega) (by omega) (fun x hx => HMr.out x hx))
    go_upto_region 7 with fail
    go_loopw [38] (fun i wr => ∃ k : Nat, k ≤ I.length ∧ i = .int .i64 k ∧ Below w2.heap.size w2 wr ∧ w3.heap.size ≤ wr.heap.size ∧ OwnI wr w2.heap.size (.slice A3 m.length c3) (addN (-1) m (I.take k))) (fun i _ => I.length - (intOf i).toNat)
    case atStart => exact ⟨0, by omega, rfl, HW3.out, Nat.le_refl _, HO3.out⟩
    case round =>
      obtain ⟨k, hk, rfl, hBr, hsr, hor⟩ := hrel
      have HBr := hid hBr
      have HOr := hid hor
      clear hor
      by_cases hlt : k < I.length
      · have hlt' : (k : Int) < I.length := by omega
        obtain ⟨b1, off1, rfl, hb1, hc1, hi1⟩ := hs1.int hlt
        have hx := hI.out _ (List.getElem_mem hlt)
        have hst := hid (addN_take (-1) m I k hlt)
        have hin := hIm.out k
        replace hc1 := (bcell (HB2.out.trans (HBr.out.mono HB2.out.size)) b1 _ hb1).trans hc1
        have hzr : b1 < wr.heap.size := by omega
        have hkl : (I.take k).length ≤ 64 := by rw [List.length_take]; omega
        have hml := hid (addN_len (-1) (I.take k) m)
        clear hBr hi1
        generalize I[k] = x at *
        obtain ⟨p, rfl⟩ : ∃ p : Nat, x = p := ⟨x.toNat, by omega⟩
        rw [HN.out] at hx
        have hp : p < m.length := by omega
        have hp' : (p : Int) < m.length := by omega
        have hpl : p < (addN (-1) m (I.take k)).length := by rw [hml.out]; exact hp
        obtain ⟨A9, c9, hv9, hA9⟩ := HOr.out.form
        obtain ⟨g, rfl, hgb, hgl, hcell, hfr⟩ := hA9 (by intro e; rw [e] at hpl; simp at hpl)
        injection hv9 with hv9 hv9l hv9c
        subst hv9 hv9c
        have q0 := hcell p hpl
        have q1 := hfr p
        have hu := hin _ (List.getElem_mem hpl)
        have hu2 : -64 ≤ (addN (-1) m (I.take k))[p] ∧ (addN (-1) m (I.take k))[p] ≤ 1099511627840 := by omega
        have hset := hid (HOr.out.set_ hpl ((addN (-1) m (I.take k))[p] - 1))
        have hnx := hid (show addN (-1) m (I.take (k + 1)) = (addN (-1) m (I.take k)).set p ((addN (-1) m (I.take k))[p] - 1) by
          rw [hst.out, Int.toNat_natCast, List.getD_eq_getElem?_getD, List.getElem?_eq_getElem hpl]; rfl)
        have hB9 := hid (HBr.out.setCell (p := ⟨g, p, none⟩) hgb (.int .i64 ((addN (-1) m (I.take k))[p] - 1)))
        clear hfr hcell hin hu hst hA9
        rw [← hnx.out] at hset
        clear hnx
        generalize (addN (-1) m (I.take k))[p] = u at *
        go_wp2_with fail
        go_roundw
        case rel => exact ⟨k + 1, by omega, by go_num, hB9.out, by simpa using hsr, hset.out⟩
        case measure => simp [intOf]; omega
      · obtain rfl : k = I.length := by omega
        rw [List.take_length] at HOr
        have hIm9 := hid (show ∀ x ∈ addN (-1) m I, -64 ≤ x ∧ x ≤ 1099511627840 from fun x hx => by
          have h1 := hIm.out I.length
          rw [List.take_length] at h1
          have := h1 x hx
          omega)
        have hml := hid (addN_len (-1) I m)
        generalize addN (-1) m I = m1 at *
        clear hs1 hI HO3 hIm
        have g1' := (bcell (HB2.out.trans (hBr.mono HB2.out.size)) b _ hb).trans g1
        replace y1 := (bcell hBr w.heap.size 1 z2).trans HY.out.2
        have hzr : b < wr.heap.size := by omega
        have hzn : w.heap.size < wr.heap.size := by omega
        have hOm := hid (fun k => addN_in (d := 1) (a := -64) (b := 1099511627840) (by omega) (O.take k) m1 (by omega) (by omega) (fun x hx => hIm9.out x hx))
        clear g0' y0 hBr
        go_upto_region 12 with fail
        go_loopw [56] (fun i wq => ∃ k : Nat, k ≤ O.length ∧ i = .int .i64 k ∧ Below w2.heap.size w2 wq ∧ w3.heap.size ≤ wq.heap.size ∧ OwnI wq w2.heap.size (.slice A3 m.length c3) (addN 1 m1 (O.take k))) (fun i _ => O.length - (intOf i).toNat)
        case atStart => exact ⟨0, by omega, rfl, HBr.out, hsr, HOr.out⟩
        case round =>
          clear HBr HOr hsr hzr hzn
          obtain ⟨k, hk, rfl, hBr, hsr, hor⟩ := hrel
          have HBr := hid hBr
          have HOr := hid hor
          clear hor
          by_cases hlt : k < O.length
          · have hlt' : (k : Int) < O.length := by omega
            obtain ⟨b1, off1, rfl, hb1, hc1, hi1⟩ := hs2.int hlt
            have hx := hO.out _ (List.getElem_mem hlt)
            have hst := hid (addN_take 1 m1 O k hlt)
            have hin := hOm.out k
            replace hc1 := (bcell (HB2.out.trans (HBr.out.mono HB2.out.size)) b1 _ hb1).trans hc1
            have hzr : b1 < wr.heap.size := by omega
            have hkl : (O.take k).length ≤ 64 := by rw [List.length_take]; omega
            have hml2 := hid (addN_len 1 (O.take k) m1)
            clear hBr hi1
            generalize O[k] = x at *
            obtain ⟨p, rfl⟩ : ∃ p : Nat, x = p := ⟨x.toNat, by omega⟩
            rw [HN.out] at hx
            have hp : p < m.length := by omega
            have hp' : (p : Int) < m.length := by omega
            have hpl : p < (addN 1 m1 (O.take k)).length := by rw [hml2.out, hml.out]; exact hp
            obtain ⟨A9, c9, hv9, hA9⟩ := HOr.out.form
            obtain ⟨g, rfl, hgb, hgl, hcell, hfr⟩ := hA9 (by intro e; rw [e] at hpl; simp at hpl)
            injection hv9 with hv9 hv9l hv9c
            subst hv9 hv9c
            have q0 := hcell p hpl
            have q1 := hfr p
            have hu := hin _ (List.getElem_mem hpl)
            have hu2 : -128 ≤ (addN 1 m1 (O.take k))[p] ∧ (addN 1 m1 (O.take k))[p] ≤ 1099511627904 := by omega
            have hset := hid (HOr.out.set_ hpl ((addN 1 m1 (O.take k))[p] + 1))
            have hnx := hid (show addN 1 m1 (O.take (k + 1)) = (addN 1 m1 (O.take k)).set p ((addN 1 m1 (O.take k))[p] + 1) by
              rw [hst.out, Int.toNat_natCast, List.getD_eq_getElem?_getD, List.getElem?_eq_getElem hpl]; rfl)
            have hB9 := hid (HBr.out.setCell (p := ⟨g, p, none⟩) hgb (.int .i64 ((addN 1 m1 (O.take k))[p] + 1)))
            clear hfr hcell hin hu hst hA9
            rw [← hnx.out] at hset
            clear hnx
            generalize (addN 1 m1 (O.take k))[p] = u at *
            go_wp2_with fail
            go_roundw
            case rel => exact ⟨k + 1, by omega, by go_num, hB9.out, by simpa using hsr, hset.out⟩
            case measure => simp [intOf]; omega
          · obtain rfl : k = O.length := by omega
            rw [List.take_length] at HOr
            have hout := hid (show ∀ x ∈ addN 1 m1 O, I64 x from fun x hx => by
              have h1 := hOm.out O.length
              rw [List.take_length] at h1
              have := h1 x hx
              unfold I64
              omega)
            have hml2 := hid ((addN_len 1 O m1).trans hml.out)
            generalize addN 1 m1 O = out at *
            clear hs2 hO hOm hIm9
            replace y0 := (bcell hBr w.heap.size 0 z2).trans HY.out.1
            replace y1 := (bcell hBr w.heap.size 1 z2).trans HY.out.2
            have hzn : w.heap.size < wr.heap.size := by omega
            obtain ⟨A9, c9, hv9, _, _, hsl⟩ := HOr.out.slr hout.out
            injection hv9 with hv9 hv9l hv9c
            subst hv9 hv9c
            have HMM := hid (HMk.out [] A3 c3 out wr (by rw [hml2.out]; unfold maxLen; omega) hsl)
            have HS := hid hsl
            have HBf := hid (HB2.out.trans (hBr.mono HB2.out.size))
            clear hsl hBr HMk
            cases hmo : markOK (n, T) out with
            | true =>
              rw [hmo, if_pos rfl] at hr
              rw [hmo] at HMM
              clear hmo
              go_wp2_with (go_at_call 19; refine HMM.out.mono ?_; rintro e w9 ⟨rfl, hB9⟩)
              have HB9 := hid hB9
              clear hB9
              go_wp2_with fail
              go_ret2
              exact ⟨A3, c3, by rw [hr.out]; rfl, by rw [hr.out]; exact (HS.out.below HB9.out).more HB9.out.size, HBf.out.trans (HB9.out.mono HBf.out.size)⟩
            | false =>
              rw [hmo, if_neg (by simp)] at hr
              rw [hmo] at HMM
              clear hmo
              go_wp2_with (go_at_call 19; refine HMM.out.mono ?_; rintro e w9 ⟨rfl, hB9⟩)
              have HB9 := hid hB9
              clear hB9
              go_wp2_with fail
              go_ret2
              exact ⟨none, 0, by rw [hr.out]; rfl, by rw [hr.out]; exact SlR.nil, HBf.out.trans (HB9.out.mono HBf.out.size)⟩
end Go.Proofs.YteljfpcmpdpehaaGreatDoor
namespace Go.Proofs.YteljfpcmpdpehaaGreatDoor
open Go.RowKit Go.IntWalk Go.Shelf

/-- A word: an unsigned number of 64 bits. -/
instance : Rep Nat := ⟨1, fun _ _ cs n => cs = [.int .u64 (n : Nat)] ∧ n < 2 ^ 64, fun _ _ h => h⟩
theorem SlR.ed {w : World} {B : Nat} {A : Option Addr} {l : List Ed} (h : SlR w B A l) {k : Nat} (hk : k < l.length) : ∃ b off, A = some ⟨b, off, none⟩ ∧ b < B ∧
    w.cell? ⟨b, off + k * 2, none⟩ = some (.int .u64 (l[k].1 : Nat)) ∧ w.cell? ⟨b, off + k * 2 + 1, none⟩ = some (.int .u64 (l[k].2 : Nat)) := by
  obtain ⟨b, off, es, hA, hb, hs, hc, e1, e2, rfl, _, _, ⟨rfl, _⟩, rfl, _⟩ := h k _ (List.getElem?_eq_getElem hk)
  have h4 : Rep.size Ed = 2 := rfl
  rw [h4] at hc
  exact ⟨b, off, hA, hb, by simpa using hc 0 _ rfl, by simpa using hc 1 _ rfl⟩
def edRK : RK Ed where
  e := 65
  t := 60
  size := 2
  bytes := 16
  z := .agg #[.int .u64 0, .int .u64 0]
  cs x := [.int .u64 (x.1 : Nat), .int .u64 (x.2 : Nat)]
  ok x := x.1 < 2 ^ 64 ∧ x.2 < 2 ^ 64
  und := Tryz.underlying60
  info := by kernel_rfl
  zcs := rfl
  pos := by omega
  small := by omega
  len _ := rfl
  one x v hv := by simp at hv; rcases hv with rfl | rfl <;> rfl
  rsz := rfl
  rep w B x h := ⟨[.int .u64 (x.1 : Nat)], [.int .u64 (x.2 : Nat)], rfl, rfl, rfl, ⟨rfl, h.1⟩, rfl, h.2⟩
  inv w B c x h := by obtain ⟨c1, c2, rfl, _, _, ⟨rfl, i0⟩, rfl, i1⟩ := h; exact ⟨rfl, i0, i1⟩
set_option maxRecDepth 100000 in
set_option maxHeartbeats 1000000 in
theorem ixe_any (gf : Nat) (lb : Array Value) (eg : ∀ args w, (callFunc gf args).run Tryz.prog w = .ok (.enter gf args) w) (A : Option Addr) (c : Nat) (l : List Ed) (f : Ed → Bool) (w : World) (hl : l.length ≤ maxLen) (h : SlR w w.heap.size A l)
    (hp : ∀ (x : Ed) (W : World), x ∈ l → Below w.heap.size w W → Calls Tryz.prog gf (#[.agg #[.int .u64 (x.1 : Nat), .int .u64 (x.2 : Nat)]] ++ lb) W fun e w' => e = .returned (.bool (f x)) ∧ Below w.heap.size w w') :
    Calls Tryz.prog 105 #[.slice A l.length c, .func (.func gf) #[] lb] w fun e w' => ∃ r : Int, e = .returned (.int .i64 r) ∧ (0 ≤ r ↔ l.any f = true) ∧ Below w.heap.size w w' := by
  unfold maxLen at hl
  have HP := hid hp
  clear hp
  go_enter Tryz.func105, Tryz.ntmps105
  go_wp2_with fail
  go_loopw [8] (fun i wr => ∃ k : Nat, k ≤ l.length ∧ i = .int .i64 k ∧ Below w.heap.size w wr ∧ (l.take k).any f = false) (fun i _ => l.length - (intOf i).toNat)
  case atStart => exact ⟨0, by omega, rfl, Below.refl _ _, by simp⟩
  case round =>
    obtain ⟨k, hk, rfl, hB, ht⟩ := hrel
    have HB := hid hB
    have HT := hid ht
    by_cases hlt : k < l.length
    · have hlt' : (k : Int) < l.length := by omega
      obtain ⟨b, off, rfl, hb, g0, g1⟩ := h.ed hlt
      replace g0 := (bcell hB b _ hb).trans g0
      replace g1 := (bcell hB b _ hb).trans g1
      have hz : b < wr.heap.size := by have := hB.size; omega
      have HC := hid (HP.out l[k] wr (List.getElem_mem hlt) hB)
      have hyes := hid (fun (hq : f l[k] = true) => show l.any f = true from List.any_eq_true.2 ⟨l[k], List.getElem_mem hlt, hq⟩)
      have hno := hid (fun (hq : f l[k] = false) => show (l.take (k + 1)).any f = false from by rw [List.take_add_one, List.getElem?_eq_getElem hlt, List.any_append, ht]; simp [hq])
      clear hB ht
      generalize l[k] = x at *
      obtain ⟨x1, x2⟩ := x
      simp only at g0 g1 HC
      cases hq : f (x1, x2) with
      | true =>
        have HQ := hid hq
        rw [hq] at HC
        clear hq
        as_aux_lemma =>
          go_wp2_with fail
          refine HC.out.mono ?_
          rintro e w9 ⟨rfl, hB9⟩
          have HB9 := hid hB9
          clear hB9
          go_wp2_with fail
          go_ret
          exact ⟨k, rfl, ⟨fun _ => hyes.out HQ.out, fun _ => by omega⟩, HB9.out⟩
      | false =>
        have HQ := hid hq
        rw [hq] at HC
        clear hq
        as_aux_lemma =>
          go_wp2_with fail
          refine HC.out.mono ?_
          rintro e w9 ⟨rfl, hB9⟩
          have HB9 := hid hB9
          clear hB9
          go_wp2_with fail
          go_roundw
          case rel => exact ⟨k + 1, by omega, by go_num, HB9.out, hno.out HQ.out⟩
          case measure => simp [intOf]; omega
    · obtain rfl : k = l.length := by omega
      have hall := hid (show l.any f = false by rw [← ht, List.take_length])
      clear hB ht
      go_wp2_with fail
      go_ret
      exact ⟨-1, rfl, by rw [hall.out]; simp, HB.out⟩
set_option maxRecDepth 100000 in
theorem cte_any (gf : Nat) (lb : Array Value) (eg : ∀ args w, (callFunc gf args).run Tryz.prog w = .ok (.enter gf args) w) (A : Option Addr) (c : Nat) (l : List Ed) (f : Ed → Bool) (w : World) (hl : l.length ≤ maxLen) (h : SlR w w.heap.size A l)
    (hp : ∀ (x : Ed) (W : World), x ∈ l → Below w.heap.size w W → Calls Tryz.prog gf (#[.agg #[.int .u64 (x.1 : Nat), .int .u64 (x.2 : Nat)]] ++ lb) W fun e w' => e = .returned (.bool (f x)) ∧ Below w.heap.size w w') :
    Calls Tryz.prog 87 #[.slice A l.length c, .func (.func gf) #[] lb] w fun e w' => e = .returned (.bool (l.any f)) ∧ Below w.heap.size w w' := by
  have HI := hid (ixe_any gf lb eg A c l f w hl h hp)
  clear hp h
  unfold maxLen at hl
  go_enter Tryz.func87, Tryz.ntmps87
  go_wp2_with fail
  refine HI.out.mono ?_
  rintro e w2 ⟨r, rfl, hr, hB⟩
  have HR := hid hr
  have HB := hid hB
  clear hr hB
  go_wp2_with fail
  go_ret
  refine ⟨ret_bool ?_, HB.out⟩
  have := HR.out
  cases hx : l.any f with
  | true => rw [hx] at this; simpa using this
  | false => rw [hx] at this; simp at this ⊢; omega

theorem nat_u64 {a : Nat} : (decide ((a : Int) = 0)) = decide (a = 0) := decide_eq_decide.2 (by omega)
set_option maxRecDepth 100000 in
set_option maxHeartbeats 1000000 in
theorem hit_any (gw v : Nat) (x : Ed) (w : World) (hx : x.1 < 2 ^ 64 ∧ x.2 < 2 ^ 64) (hv : v < 2 ^ 64) (xw : Blk w gw 62 #[.int .u64 (v : Nat)]) :
    Calls Tryz.prog 88 #[.agg #[.int .u64 (x.1 : Nat), .int .u64 (x.2 : Nat)], .pointer (some ⟨gw, 0, none⟩)] w fun e w' => e = .returned (.bool (hit v x)) ∧ Below w.heap.size w w' := by
  obtain ⟨a, b⟩ := x
  simp only at *
  have hB1 := hid (show Below w.heap.size w (w.alloc (Obj.cells #[.int .u64 (a : Nat), .int .u64 (b : Nat)] 65)) by (repeat (first | exact Below.refl _ _ | assumption | refine below_drewN ?_ _ | refine Below.drew ?_ | refine Below.alloc ?_ (by (try simp); (try omega)) _ | refine Below.setCell ?_ (by (try simp); (try omega)) _)))
  have X1 := hid (Blk.new w 65 #[.int .u64 (a : Nat), .int .u64 (b : Nat)])
  have y1 := (xw.below hB1.out xw.lt).cell 0; have z1 := xw.lt
  simp at y1
  have b1 := bits_and_u64_nat a v (by simpa using hx.1) (by simpa using hv)
  have b2 := bits_and_u64_nat b v (by simpa using hx.2) (by simpa using hv)
  have hbf := hid (show hit v (a, b) = (decide (a &&& v ≠ 0) && decide (b &&& v = 0)) from rfl)
  clear xw
  go_enter Tryz.func88, Tryz.ntmps88
  go_upto_region 1 with fail
  generalize hw1 : w.alloc (Obj.cells #[.int .u64 (a : Nat), .int .u64 (b : Nat)] 65) = w1 at *
  have hz9 : gw < w1.heap.size := by have := hB1.out.size; omega
  have hz8 : w.heap.size < w1.heap.size := by rw [← hw1]; simp
  clear hw1
  have y2 := X1.out.cell 0
  have y3 := X1.out.cell 1
  simp at y2 y3
  by_cases h1 : a &&& v = 0
  · have h1i : (((a &&& v : Nat) : Int) = 0) := by omega
    go_wp2_with fail
    go_ret
    exact ⟨ret_bool (by rw [hbf.out]; simp [h1]), hB1.out⟩
  · have h1i : ¬ (((a &&& v : Nat) : Int) = 0) := by omega
    go_wp2_with fail
    go_ret
    exact ⟨ret_bool (by
      rw [hbf.out, Bool.eq_iff_iff]
      simp [h1]), hB1.out⟩
set_option maxRecDepth 100000 in
set_option maxHeartbeats 1000000 in
theorem closed_any (A : Option Addr) (c : Nat) (l : List Ed) (v : Nat) (w : World) (hl : l.length ≤ maxLen) (h : SlR w w.heap.size A l) (hv : v < 2 ^ 64) (he : ∀ x ∈ l, x.1 < 2 ^ 64 ∧ x.2 < 2 ^ 64) :
    Calls Tryz.prog 54 #[.slice A l.length c, .int .u64 (v : Nat)] w fun e w' => e = .returned (.bool (closedN l v)) ∧ Below w.heap.size w w' := by
  have hB1 := hid (show Below w.heap.size w (w.alloc (Obj.cells #[.int .u64 (v : Nat)] 62)) by (repeat (first | exact Below.refl _ _ | assumption | refine below_drewN ?_ _ | refine Below.drew ?_ | refine Below.alloc ?_ (by (try simp); (try omega)) _ | refine Below.setCell ?_ (by (try simp); (try omega)) _)))
  have X1 := hid (Blk.new w 62 #[.int .u64 (v : Nat)])
  have HC := hid (cte_any 88 #[.pointer (some ⟨w.heap.size, 0, none⟩)] (enters_of Tryz.func88 (by kernel_rfl) rfl) A c l (hit v) _ hl ((h.below hB1.out).more hB1.out.size) (fun x W hx hW =>
    (hit_any _ v x W (he x hx) hv (X1.out.below hW X1.out.lt)).mono (fun e w' ⟨he, hb⟩ => ⟨he, hW.trans (hb.mono hW.size)⟩)))
  have HN := hid (show closedN l v = (decide (v ≠ 0) && !l.any (hit v)) from rfl)
  clear h he
  unfold maxLen at hl
  go_enter Tryz.func54, Tryz.ntmps54
  go_upto_region 1 with fail
  generalize hw1 : w.alloc (Obj.cells #[.int .u64 (v : Nat)] 62) = w1 at *
  have hz8 : w.heap.size < w1.heap.size := by rw [← hw1]; simp
  clear hw1
  have y2 := X1.out.cell 0
  simp at y2
  by_cases h1 : v = 0
  · subst h1
    go_wp2_with fail
    go_ret
    exact ⟨ret_bool (by rw [HN.out]; simp), hB1.out⟩
  · have h1i : ¬ ((v : Int) = 0) := by omega
    go_wp2_with (go_at_call 87; refine HC.out.mono ?_; rintro e w2 ⟨rfl, hB2⟩)
    have HB := hid (hB1.out.trans (hB2.mono hB1.out.size))
    clear hB2 HC
    go_wp2_with fail
    go_ret
    exact ⟨ret_bool (by rw [HN.out]; simp [h1]), HB.out⟩
end Go.Proofs.YteljfpcmpdpehaaGreatDoor
