
/- Petri, plain: the law of unions. -/
import Derived.Test.YtbbogflibekgfaaDoorPetV
set_option linter.unusedSimpArgs false
set_option linter.unusedVariables false
namespace Go.Proofs.YtbbogflibekgfaaDoor
open Go.RowKit Go.IntWalk

/-! ### The bits of a number -/
theorem bitI_mod (a : Int) (i : Nat) (hi : i < 64) : bitI a i = (a % 18446744073709551616).toNat.testBit i := by
  unfold bitI
  rw [Nat.testBit_eq_decide_div_mod_eq]
  refine decide_eq_decide.2 ?_
  have h64 : (18446744073709551616 : Int) = 2 ^ i * (2 * 2 ^ (63 - i)) := by
    rw [show (2 : Int) * 2 ^ (63 - i) = 2 ^ (63 - i + 1) by rw [Int.pow_succ, Int.mul_comm], ← Int.pow_add, show i + (63 - i + 1) = 64 by omega]
    rfl
  have hp : (0 : Int) < 2 ^ i := Int.pow_pos (by omega)
  have e1 : a / 2 ^ i % 2 = (a % 18446744073709551616) / 2 ^ i % 2 := by
    have hd : a = (a % 18446744073709551616) + 2 ^ i * (2 * 2 ^ (63 - i) * (a / 18446744073709551616)) := by
      rw [← Int.mul_assoc, ← h64]
      omega
    have : a / 2 ^ i = (a % 18446744073709551616) / 2 ^ i + 2 * 2 ^ (63 - i) * (a / 18446744073709551616) := by
      have h2 := Int.add_mul_ediv_left (a % 18446744073709551616) (2 * 2 ^ (63 - i) * (a / 18446744073709551616)) (Int.ne_of_gt hp)
      rw [← hd] at h2
      exact h2
    rw [this, Int.mul_assoc, Int.add_mul_emod_self_left]
  rw [e1]
  obtain ⟨r, hr⟩ : ∃ r : Nat, a % 18446744073709551616 = r := ⟨(a % 18446744073709551616).toNat, by omega⟩
  rw [hr, Int.toNat_natCast]
  have e2 : ((r : Int) / 2 ^ i % 2) = ((r / 2 ^ i % 2 : Nat) : Int) := by simp
  rw [e2]
  omega
theorem bitI_or (a b : Int) (i : Nat) (hi : i < 64) : bitI (bits .or .i64 a b) i = (bitI a i || bitI b i) := by
  rw [bitI_mod _ i hi, bitI_mod a i hi, bitI_mod b i hi]
  have h : bits .or .i64 a b % 18446744073709551616 = (((BitVec.ofInt 64 a ||| BitVec.ofInt 64 b).toNat : Nat) : Int) := by
    show IntKind.i64.wrap ((BitVec.ofInt 64 a ||| BitVec.ofInt 64 b).toNat : Int) % 18446744073709551616 = _
    have := (BitVec.ofInt 64 a ||| BitVec.ofInt 64 b).isLt
    rw [IntKind.wrap_i64]
    omega
  rw [h, Int.toNat_natCast, BitVec.toNat_or, Nat.testBit_or, BitVec.toNat_ofInt, BitVec.toNat_ofInt]
  rfl
theorem pick_bit (b : Int) (N i : Nat) : (wordN (pickN b N)).testBit i = (decide (i < N) && bitI b i) := by
  rw [word_bit (fun p hp => (pickN_mem.1 hp).1)]
  rw [Bool.eq_iff_iff]
  simp only [decide_eq_true_eq, Bool.and_eq_true, pickN_mem, Int.toNat_natCast]
  constructor
  · rintro ⟨_, h1, h2⟩; exact ⟨by omega, h2⟩
  · rintro ⟨h1, h2⟩; exact ⟨by omega, by omega, h2⟩
/-! ### Lists and words -/
theorem sub_lt {x w k : Nat} (h : sub x w) (hw : w < 2 ^ k) : x < 2 ^ k := by
  refine Nat.lt_pow_two_of_testBit _ fun i hi => ?_
  cases hx : x.testBit i with
  | false => rfl
  | true =>
    have := h i hx
    rw [Nat.testBit_lt_two_pow (Nat.lt_of_lt_of_le hw (Nat.pow_le_pow_right (by omega) hi))] at this
    cases this
theorem list_set {v N : Nat} (h : v < 2 ^ N) : setB N (listN v) = true := setB_of (list_pw v) (fun x hx => by
  have h1 := list_mem.1 hx
  refine ⟨h1.1, ?_⟩
  rcases Nat.lt_or_ge x.toNat N with h2 | h2
  · omega
  · have := h1.2.2
    rw [Nat.testBit_lt_two_pow (Nat.lt_of_lt_of_le h (Nat.pow_le_pow_right (by omega) h2))] at this
    cases this)
theorem within_sub {x y : Nat} (h : sub x y) : withinN (listN x) (listN y) = true := within_mem.2 fun p hp => by
  have := list_mem.1 hp
  exact list_mem.2 ⟨this.1, this.2.1, h _ this.2.2⟩
theorem sub_or {x y z : Nat} (h : sub x z) (k : sub y z) : sub (x ||| y) z := fun i hi => by
  rw [Nat.testBit_or, Bool.or_eq_true] at hi
  exact hi.elim (h i) (k i)
theorem or_sub {x y : Nat} : sub x (x ||| y) := fun i hi => by rw [Nat.testBit_or, hi]; rfl
theorem closed_or {l : List Ed} {x y : Nat} (hx : x = 0 ∨ closedN l x = true) (hy : y = 0 ∨ closedN l y = true) (h0 : x ||| y ≠ 0) : closedN l (x ||| y) = true := by
  refine closed_of h0 fun e he => ?_
  unfold hit
  by_cases h2 : e.2 &&& (x ||| y) = 0
  · have key : ∀ z, (z = 0 ∨ closedN l z = true) → sub z (x ||| y) → e.1 &&& z = 0 := fun z hz hs => by
      rcases hz with rfl | hz
      · simp
      · have := (closed_parts hz).2 e he
        have h3 : e.2 &&& z = 0 := and_zero.2 fun i ⟨a, b⟩ => and_zero.1 h2 i ⟨a, hs i b⟩
        simpa [hit, h3] using this
    have k1 := key x hx or_sub
    have k2 := key y hy (by rw [Nat.or_comm]; exact or_sub)
    have : e.1 &&& (x ||| y) = 0 := by
      refine and_zero.2 fun i ⟨a, b⟩ => ?_
      rw [Nat.testBit_or, Bool.or_eq_true] at b
      rcases b with b | b
      · exact and_zero.1 k1 i ⟨a, b⟩
      · exact and_zero.1 k2 i ⟨a, b⟩
    simp [this]
  · simp [h2]
theorem LargeR.into {l : List Ed} {w w' r s : Nat} (h : LargeR l w r) (h' : LargeR l w' s) (hs : Go.Proofs.YtbbogflibekgfaaDoor.sub w w') : Go.Proofs.YtbbogflibekgfaaDoor.sub r s := by
  rcases h.cl with rfl | hc
  · intro i hi; rw [Nat.zero_testBit] at hi; cases hi
  · exact h'.max r hc (sub_trans h.sub hs)
/-! ### The law -/
def bothN (a b : List Int) (k : Nat) : List Int := ((List.range k).filter (fun i => meetsN [((i : Nat) : Int)] a || meetsN [((i : Nat) : Int)] b)).map (fun (i : Nat) => (i : Int))
theorem bothN_succ (a b : List Int) (k : Nat) : bothN a b (k + 1) = if (meetsN [(k : Int)] a || meetsN [(k : Int)] b) = true then bothN a b k ++ [(k : Int)] else bothN a b k := by
  unfold bothN
  rw [List.range_succ, List.filter_append, List.map_append]
  split
  · rename_i h; simp [h]
  · rename_i h; simp [h]
theorem bothN_len (a b : List Int) (k : Nat) : (bothN a b k).length ≤ k := by
  unfold bothN
  rw [List.length_map]
  exact Nat.le_trans (List.length_filter_le _ _) (by simp)
theorem meets_one {x : Int} {l : List Int} : meetsN [x] l = true ↔ x ∈ l := by simp [meetsN]
theorem bothN_mem {a b : List Int} {k : Nat} {x : Int} : x ∈ bothN a b k ↔ 0 ≤ x ∧ x < k ∧ (x ∈ a ∨ x ∈ b) := by
  unfold bothN
  rw [List.mem_map]
  constructor
  · rintro ⟨i, hi, rfl⟩
    rw [List.mem_filter, List.mem_range, Bool.or_eq_true, meets_one, meets_one] at hi
    exact ⟨by omega, by omega, hi.2⟩
  · rintro ⟨h0, h1, h2⟩
    have e : ((x.toNat : Nat) : Int) = x := by omega
    refine ⟨x.toNat, List.mem_filter.2 ⟨List.mem_range.2 (by omega), ?_⟩, e⟩
    rw [e, Bool.or_eq_true, meets_one, meets_one]
    exact h2
theorem bothN_pw (a b : List Int) (k : Nat) : (bothN a b k).Pairwise (· < ·) := by
  unfold bothN
  exact List.Pairwise.map (R := (· < ·)) _ (fun a b h => by omega) (List.Pairwise.filter _ List.pairwise_lt_range)
structure UniR (N : Nat) (T : List Tr) (trap : Bool) (one : Int) (ra rb ru : List Int) : Prop where
  w1 : withinN ra (pickN one N) = true
  w2 : withinN ra ru = true
  w3 : withinN rb ru = true
  w4 : ∀ r, LargeL N T trap ra r → r = ra
  w5 : bothN ra rb N ≠ [] → isN N T trap (bothN ra rb N) = true
  w6 : withinN (bothN ra rb N) ru = true
theorem isN_nil (n : Int) (T : List Tr) (trap : Bool) : isN n T trap [] = false := by
  unfold isN closedN
  simp [wordN]
theorem unions_plain {N : Nat} {T : List Tr} {trap : Bool} {one two : Int} {ra rb ru : List Int} (hN : N ≤ 64) (hok : netOK ((N : Int), T) = true) (ha : LargeL N T trap (pickN one N) ra) (hb : LargeL N T trap (pickN two N) rb)
    (hu : LargeL N T trap (pickN (bits .or .i64 one two) N) ru) : UniR N T trap one ra rb ru := by
  unfold LargeL at ha hb hu
  rw [if_pos (pickN_set _ _)] at ha hb hu
  obtain ⟨v1, h1, rfl⟩ := ha
  obtain ⟨v2, h2, rfl⟩ := hb
  obtain ⟨v3, h3, rfl⟩ := hu
  have pl : ∀ b, wordN (pickN b N) < 2 ^ N := fun b => word_lt (fun p hp => by have := pickN_mem.1 hp; omega)
  have l1 : v1 < 2 ^ N := sub_lt h1.sub (pl one)
  have l2 : v2 < 2 ^ N := sub_lt h2.sub (pl two)
  have hN64 : 2 ^ N ≤ 2 ^ 64 := Nat.pow_le_pow_right (by omega) hN
  have s13 : sub v1 v3 := h1.into h3 fun i hi => by
    rw [pick_bit] at hi ⊢
    rw [Bool.and_eq_true, decide_eq_true_eq] at hi
    rw [bitI_or _ _ i (by omega), hi.2]
    simp [hi.1]
  have s23 : sub v2 v3 := h2.into h3 fun i hi => by
    rw [pick_bit] at hi ⊢
    rw [Bool.and_eq_true, decide_eq_true_eq] at hi
    rw [bitI_or _ _ i (by omega), hi.2]
    simp [hi.1]
  have eb : bothN (listN v1) (listN v2) N = listN (v1 ||| v2) := by
    refine asc_ext (bothN_pw _ _ _) (list_pw _) fun x => ?_
    rw [bothN_mem, list_mem, list_mem, list_mem, Nat.testBit_or, Bool.or_eq_true]
    constructor
    · rintro ⟨a, b, c | c⟩
      · exact ⟨a, by omega, .inl c.2.2⟩
      · exact ⟨a, by omega, .inr c.2.2⟩
    · rintro ⟨a, b, c⟩
      have hlt : x.toNat < N := by
        rcases Nat.lt_or_ge x.toNat N with h | h
        · exact h
        · have hp : 2 ^ N ≤ 2 ^ x.toNat := Nat.pow_le_pow_right (by omega) h
          rw [Nat.testBit_lt_two_pow (Nat.lt_of_lt_of_le l1 hp), Nat.testBit_lt_two_pow (Nat.lt_of_lt_of_le l2 hp)] at c
          simp at c
      exact ⟨a, by omega, c.elim (fun h => .inl ⟨a, b, h⟩) (fun h => .inr ⟨a, b, h⟩)⟩
  have l12 : v1 ||| v2 < 2 ^ N := Nat.or_lt_two_pow l1 l2
  refine ⟨?_, within_sub s13, within_sub s23, ?_, ?_, ?_⟩
  · refine within_mem.2 fun x hx => ?_
    have := list_mem.1 hx
    have h4 := h1.sub _ this.2.2
    rw [pick_bit, Bool.and_eq_true, decide_eq_true_eq] at h4
    exact pickN_mem.2 ⟨this.1, by omega, h4.2⟩
  · intro r hr
    unfold LargeL at hr
    rw [if_pos (list_set l1)] at hr
    obtain ⟨v, hv, rfl⟩ := hr
    rw [word_list (by omega)] at hv
    rw [hv.uniq (LargeR.end_ h1.cl)]
  · intro hne
    rw [eb] at hne ⊢
    unfold isN
    rw [list_set l12, word_list (by omega), Bool.true_and]
    refine closed_or h1.cl h2.cl fun h0 => hne ?_
    rw [h0, list_zero]
  · rw [eb]
    exact within_sub (sub_or s13 s23)
end Go.Proofs.YtbbogflibekgfaaDoor
