
/- Petri, plain: bits.OnesCount64 counts the places of each word of at most 14. -/
import Derived.Test.YtbbogflibekgfaaDoorPetSp
set_option linter.unusedSimpArgs false
set_option linter.unusedVariables false
namespace Go.Proofs.YtbbogflibekgfaaDoor
/-- How many of the 14 lowest bits are set. -/
def cnt14 (x : Nat) : Nat := x % 2 + x / 2 % 2 + x / 4 % 2 + x / 8 % 2 + x / 16 % 2 + x / 32 % 2 + x / 64 % 2 + x / 128 % 2 + x / 256 % 2 + x / 512 % 2 + x / 1024 % 2 + x / 2048 % 2 + x / 4096 % 2 + x / 8192 % 2
def popT (x : Nat) : Bool :=
  let a := pop1 x; let b := pop2 a; let c := pop3 b; let d := pop4 c; let e := pop5 d; let f := pop6 e
  Nat.ble (a ||| b ||| c ||| d ||| e ||| f ||| ((b >>> 4) + b)) 4611686018427387904 && Nat.beq (f &&& 127) (cnt14 x)
def allBelow (f : Nat → Bool) : Nat → Bool
  | 0 => true
  | n + 1 => f n && allBelow f n
theorem allBelow_at {f : Nat → Bool} : ∀ {n : Nat}, allBelow f n = true → ∀ i, i < n → f i = true
  | n + 1, h, i, hi => by
    simp only [allBelow, Bool.and_eq_true] at h
    by_cases e : i = n
    · rw [e]; exact h.1
    · exact allBelow_at h.2 i (by omega)
/-- Above a number: in pieces, so that no recursion is deep. -/
def allIn (f : Nat → Bool) (a : Nat) (n : Nat) : Bool := allBelow (fun i => f (a + i)) n
set_option maxRecDepth 100000 in
theorem pop_tab : allBelow (fun j => allIn popT (j * 128) 128) 128 = true := by decide +kernel
theorem pop_at (x : Nat) (hx : x < 16384) : popT x = true := by
  have h1 := allBelow_at pop_tab (x / 128) (by omega)
  have h2 := allBelow_at (show allBelow (fun i => popT (x / 128 * 128 + i)) 128 = true from h1) (x % 128) (by omega)
  rw [show x / 128 * 128 + x % 128 = x by omega] at h2
  exact h2
theorem bit_if (x k : Nat) : (if decide (x / 2 ^ k % 2 = 1) = true then 1 else 0) = x / 2 ^ k % 2 := by
  have : x / 2 ^ k % 2 < 2 := Nat.mod_lt _ (by omega)
  by_cases h : x / 2 ^ k % 2 = 1
  · simp [h]
  · simp [h]; omega
theorem cnt_list (x : Nat) (hx : x < 16384) : (listN x).length = cnt14 x := by
  unfold listN
  rw [List.length_map, show List.range 64 = List.range 14 ++ List.range' 14 50 by decide, List.filter_append, List.length_append]
  have h0 : (List.range' 14 50).filter (fun i => x.testBit i) = [] := by
    refine List.filter_eq_nil_iff.2 fun i hi => ?_
    rw [List.mem_range'_1] at hi
    rw [Nat.testBit_lt_two_pow (Nat.lt_of_lt_of_le hx (show 2 ^ 14 ≤ 2 ^ i from Nat.pow_le_pow_right (by omega) hi.1))]
    simp
  rw [h0, ← List.countP_eq_length_filter, show List.range 14 = [0, 1, 2, 3, 4, 5, 6, 7, 8, 9, 10, 11, 12, 13] by decide]
  simp only [List.countP_cons, List.countP_nil, Nat.testBit_eq_decide_div_mod_eq, bit_if, List.length_nil]
  unfold cnt14
  simp only [Nat.reducePow, Nat.div_one]
  omega
/-- What the walk of OnesCount64 wants of a word. -/
structure PopR (x : Nat) : Prop where
  a : pop1 x ≤ 4611686018427387904
  b : pop2 (pop1 x) ≤ 4611686018427387904
  s : (pop2 (pop1 x) >>> 4) + pop2 (pop1 x) ≤ 4611686018427387904
  c : pop3 (pop2 (pop1 x)) ≤ 4611686018427387904
  d : pop4 (pop3 (pop2 (pop1 x))) ≤ 4611686018427387904
  e : pop5 (pop4 (pop3 (pop2 (pop1 x)))) ≤ 4611686018427387904
  f : pop6 (pop5 (pop4 (pop3 (pop2 (pop1 x))))) ≤ 4611686018427387904
  n : popN x = (listN x).length
theorem popR (x : Nat) (hx : x < 16384) : PopR x := by
  have h := pop_at x hx
  unfold popT at h
  simp only [Bool.and_eq_true, Nat.ble_eq, Nat.beq_eq] at h
  obtain ⟨h1, h2⟩ := h
  have l6 : pop1 x ||| pop2 (pop1 x) ||| pop3 (pop2 (pop1 x)) ||| pop4 (pop3 (pop2 (pop1 x))) ||| pop5 (pop4 (pop3 (pop2 (pop1 x)))) ||| pop6 (pop5 (pop4 (pop3 (pop2 (pop1 x))))) ≤ pop1 x ||| pop2 (pop1 x) ||| pop3 (pop2 (pop1 x)) ||| pop4 (pop3 (pop2 (pop1 x))) ||| pop5 (pop4 (pop3 (pop2 (pop1 x)))) ||| pop6 (pop5 (pop4 (pop3 (pop2 (pop1 x))))) ||| ((pop2 (pop1 x) >>> 4) + pop2 (pop1 x)) := Nat.left_le_or
  have m6 : ((pop2 (pop1 x) >>> 4) + pop2 (pop1 x)) ≤ pop1 x ||| pop2 (pop1 x) ||| pop3 (pop2 (pop1 x)) ||| pop4 (pop3 (pop2 (pop1 x))) ||| pop5 (pop4 (pop3 (pop2 (pop1 x)))) ||| pop6 (pop5 (pop4 (pop3 (pop2 (pop1 x))))) ||| ((pop2 (pop1 x) >>> 4) + pop2 (pop1 x)) := Nat.right_le_or
  have l5 : pop1 x ||| pop2 (pop1 x) ||| pop3 (pop2 (pop1 x)) ||| pop4 (pop3 (pop2 (pop1 x))) ||| pop5 (pop4 (pop3 (pop2 (pop1 x)))) ≤ pop1 x ||| pop2 (pop1 x) ||| pop3 (pop2 (pop1 x)) ||| pop4 (pop3 (pop2 (pop1 x))) ||| pop5 (pop4 (pop3 (pop2 (pop1 x)))) ||| pop6 (pop5 (pop4 (pop3 (pop2 (pop1 x))))) := Nat.left_le_or
  have m5 : pop6 (pop5 (pop4 (pop3 (pop2 (pop1 x))))) ≤ pop1 x ||| pop2 (pop1 x) ||| pop3 (pop2 (pop1 x)) ||| pop4 (pop3 (pop2 (pop1 x))) ||| pop5 (pop4 (pop3 (pop2 (pop1 x)))) ||| pop6 (pop5 (pop4 (pop3 (pop2 (pop1 x))))) := Nat.right_le_or
  have l4 : pop1 x ||| pop2 (pop1 x) ||| pop3 (pop2 (pop1 x)) ||| pop4 (pop3 (pop2 (pop1 x))) ≤ pop1 x ||| pop2 (pop1 x) ||| pop3 (pop2 (pop1 x)) ||| pop4 (pop3 (pop2 (pop1 x))) ||| pop5 (pop4 (pop3 (pop2 (pop1 x)))) := Nat.left_le_or
  have m4 : pop5 (pop4 (pop3 (pop2 (pop1 x)))) ≤ pop1 x ||| pop2 (pop1 x) ||| pop3 (pop2 (pop1 x)) ||| pop4 (pop3 (pop2 (pop1 x))) ||| pop5 (pop4 (pop3 (pop2 (pop1 x)))) := Nat.right_le_or
  have l3 : pop1 x ||| pop2 (pop1 x) ||| pop3 (pop2 (pop1 x)) ≤ pop1 x ||| pop2 (pop1 x) ||| pop3 (pop2 (pop1 x)) ||| pop4 (pop3 (pop2 (pop1 x))) := Nat.left_le_or
  have m3 : pop4 (pop3 (pop2 (pop1 x))) ≤ pop1 x ||| pop2 (pop1 x) ||| pop3 (pop2 (pop1 x)) ||| pop4 (pop3 (pop2 (pop1 x))) := Nat.right_le_or
  have l2 : pop1 x ||| pop2 (pop1 x) ≤ pop1 x ||| pop2 (pop1 x) ||| pop3 (pop2 (pop1 x)) := Nat.left_le_or
  have m2 : pop3 (pop2 (pop1 x)) ≤ pop1 x ||| pop2 (pop1 x) ||| pop3 (pop2 (pop1 x)) := Nat.right_le_or
  have l1 : pop1 x ≤ pop1 x ||| pop2 (pop1 x) := Nat.left_le_or
  have m1 : pop2 (pop1 x) ≤ pop1 x ||| pop2 (pop1 x) := Nat.right_le_or
  exact ⟨by omega, by omega, by omega, by omega, by omega, by omega, by omega, by rw [cnt_list x hx]; exact h2⟩
end Go.Proofs.YtbbogflibekgfaaDoor
