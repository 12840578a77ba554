
/- Petri: Siphons: all words, sorted. -/
import Derived.Test.YteljfpcmpdpehaaGreatDoorPhA
import Derived.Shelf.SlSortCmp.Insertion
import Derived.Shelf.SlSortCmp.Whole1
import Derived.Ground.SlsfProg
import Derived.Test.YteljfpcmpdpehaaGreatDoorPhC
import Derived.Shelf.SlSortCmp.NoneTotal
set_option linter.unusedSimpArgs false
set_option linter.unusedVariables false
namespace Go.Proofs.YteljfpcmpdpehaaGreatDoor
open Go.RowKit Go.IntWalk Go.Sort

def cmpI (x y : Int) : Int := if x < y then -1 else if y < x then 1 else 0
/-- Two lists, element by element; the shorter one first. -/
def cmpL : List Int → List Int → Int
  | [], [] => 0
  | [], _ :: _ => -1
  | _ :: _, [] => 1
  | x :: a, y :: b => if x < y then -1 else if y < x then 1 else cmpL a b
theorem cmpL_self : ∀ a, cmpL a a = 0
  | [] => rfl
  | x :: a => by simp [cmpL, cmpL_self a]
theorem cmpL_zero : ∀ {a b}, cmpL a b = 0 → a = b
  | [], [], _ => rfl
  | [], _ :: _, h => by simp [cmpL] at h
  | _ :: _, [], h => by simp [cmpL] at h
  | x :: a, y :: b, h => by
    unfold cmpL at h
    split at h
    · omega
    · split at h
      · omega
      · rw [cmpL_zero h, show x = y by omega]
theorem cmpL_neg : ∀ a b, cmpL b a = - cmpL a b
  | [], [] => rfl
  | [], _ :: _ => rfl
  | _ :: _, [] => rfl
  | x :: a, y :: b => by
    simp only [cmpL]
    by_cases h1 : x < y
    · have h2 : ¬ y < x := by omega
      simp [h1, h2]
    · by_cases h2 : y < x
      · simp [h1, h2]
      · simp [h1, h2, cmpL_neg a b]
theorem cmpL_trans : ∀ {a b c}, cmpL a b < 0 → cmpL b c < 0 → cmpL a c < 0
  | [], b, [], h, k => by
    cases b with
    | nil => simp [cmpL] at h
    | cons _ _ => simp [cmpL] at k
  | [], _, _ :: _, _, _ => by simp [cmpL]
  | _ :: _, [], _, h, _ => by simp [cmpL] at h
  | _ :: _, _ :: _, [], _, k => by simp [cmpL] at k
  | x :: a, y :: b, z :: c, h, k => by
    simp only [cmpL] at *
    by_cases h1 : x < y
    · by_cases k1 : y < z
      · simp [show x < z by omega]
      · rw [if_neg k1] at k
        by_cases k2 : z < y
        · simp [k2] at k
        · simp [show x < z by omega]
    · rw [if_neg h1] at h
      by_cases h2 : y < x
      · simp [h2] at h
      · rw [if_neg h2] at h
        by_cases k1 : y < z
        · simp [show x < z by omega]
        · rw [if_neg k1] at k
          by_cases k2 : z < y
          · simp [k2] at k
          · rw [if_neg k2] at k
            rw [if_neg (by omega), if_neg (by omega)]
            exact cmpL_trans h k
theorem cmpL_ge {a b c : List Int} (h : 0 ≤ cmpL a b) (k : 0 ≤ cmpL b c) : 0 ≤ cmpL a c := by
  rcases Int.lt_or_eq_of_le h with h1 | h1
  · rcases Int.lt_or_eq_of_le k with k1 | k1
    · have e1 := cmpL_neg a b
      have e2 := cmpL_neg b c
      have e3 := cmpL_neg a c
      have := cmpL_trans (a := c) (b := b) (c := a) (by omega) (by omega)
      omega
    · rw [cmpL_zero k1.symm] at h; exact h
  · rw [cmpL_zero h1.symm]; exact k
/-- A word's key: how many places, then which. -/
def keyN (v : Nat) : List Int := ((listN v).length : Int) :: listN v
theorem keyN_inj {a b : Nat} (ha : a < 2 ^ 64) (hb : b < 2 ^ 64) (h : keyN a = keyN b) : a = b := by
  have : listN a = listN b := (List.cons.inj h).2
  rw [← word_list ha, ← word_list hb, this]
def cmpK (a b : Nat) : Int := cmpL (keyN a) (keyN b)
theorem cmpK_or (a b : Nat) : cmpK a b = if cmpI (listN a).length (listN b).length = 0 then cmpL (listN a) (listN b) else cmpI (listN a).length (listN b).length := by
  unfold cmpK keyN cmpI
  simp only [cmpL]
  by_cases h1 : ((listN a).length : Int) < (listN b).length
  · simp [h1]
  · by_cases h2 : ((listN b).length : Int) < (listN a).length
    · simp [h1, h2]
    · simp [h1, h2]
/-- The words of at most 14 places. -/
abbrev Wd := {v : Nat // v < 16384}
instance : Inhabited Wd := ⟨⟨0, by decide⟩⟩
def cfW (x y : Wd) : Int := cmpK x.1 y.1
theorem ltW (x y : Wd) : ltOf cfW x y = decide (cmpK x.1 y.1 < 0) := rfl
theorem swoW : SWO (ltOf cfW) where
  irrefl x := by rw [ltW]; simp [cmpK, cmpL_self]
  trans x y z h1 h2 := by
    rw [ltW] at *
    simp only [decide_eq_true_eq] at *
    exact cmpL_trans h1 h2
  ntrans x y z h1 h2 := by
    rw [ltW] at *
    simp only [decide_eq_false_iff_not, Int.not_lt] at *
    exact cmpL_ge h1 h2
/-- How many bits of a word of 14 places are set, as bits.OnesCount64 counts. -/
def pop1 (x : Nat) : Nat := ((x >>> 1) &&& 6148914691236517205) + (x &&& 6148914691236517205)
def pop2 (x : Nat) : Nat := ((x >>> 2) &&& 3689348814741910323) + (x &&& 3689348814741910323)
def pop3 (x : Nat) : Nat := ((x >>> 4) + x) &&& 1085102592571150095
def pop4 (x : Nat) : Nat := x + (x >>> 8)
def pop5 (x : Nat) : Nat := x + (x >>> 16)
def pop6 (x : Nat) : Nat := x + (x >>> 32)
def popN (x : Nat) : Nat := pop6 (pop5 (pop4 (pop3 (pop2 (pop1 x))))) &&& 127
def popOK (x : Nat) : Bool :=
  let a := pop1 x; let b := pop2 a; let c := pop3 b; let d := pop4 c; let e := pop5 d; let f := pop6 e
  decide (a < 18446744073709551616) && decide (b < 18446744073709551616) && decide ((b >>> 4) + b < 18446744073709551616) && decide (c < 18446744073709551616) && decide (d < 18446744073709551616) && decide (e < 18446744073709551616) && decide (f < 9223372036854775808) && decide (f &&& 127 = (listN x).length)

/-! ### The minimal siphons -/
def minS (l : List Ed) (found : List Nat) (w : Nat) : List Nat := if found.any (fun f => decide (clr f w = 0)) || !closedN l w then found else found ++ [w]
def minF (l : List Ed) (ws : List Nat) : List Nat := ws.foldl (minS l) []
theorem minF_succ (l : List Ed) (ws : List Nat) (k : Nat) (hk : k < ws.length) : minF l (ws.take (k + 1)) = minS l (minF l (ws.take k)) ws[k] := by
  unfold minF
  rw [List.take_add_one, List.getElem?_eq_getElem hk, List.foldl_append]
  rfl
/-- All words of n places but none, in order. -/
structure WordsR (n : Nat) (ws : List Nat) : Prop where
  perm : ws.Perm (List.range' 1 (2 ^ n - 1))
  sorted : ws.Pairwise (fun a b => 0 ≤ cmpK b a)
theorem cmpK_anti {a b : Nat} (ha : a < 2 ^ 64) (hb : b < 2 ^ 64) (h : 0 ≤ cmpK b a) (k : 0 ≤ cmpK a b) : a = b := by
  have e := cmpL_neg (keyN a) (keyN b)
  unfold cmpK at h k
  exact keyN_inj ha hb (cmpL_zero (by omega))
theorem WordsR.uniq {n : Nat} (hn : n ≤ 14) {a b : List Nat} (h : WordsR n a) (k : WordsR n b) : a = b := by
  have hp := h.perm.trans k.perm.symm
  have hlt : ∀ x ∈ a, x < 2 ^ 64 := fun x hx => by
    have := h.perm.mem_iff.1 hx
    rw [List.mem_range'_1] at this
    have : 2 ^ n ≤ 2 ^ 14 := Nat.pow_le_pow_right (by omega) hn
    omega
  exact List.Perm.eq_of_pairwise (fun x y hx hy h1 h2 => cmpK_anti (hlt x hx) (hlt y (hp.mem_iff.2 hy)) h1 h2) h.sorted k.sorted hp
end Go.Proofs.YteljfpcmpdpehaaGreatDoor
namespace Go.Proofs.YteljfpcmpdpehaaGreatDoor
/-- How many of the 14 lowest bits are set. -/
def cnt14 (x : Nat) : Nat := x % 2 + x / 2 % 2 + x / 4 % 2 + x / 8 % 2 + x / 16 % 2 + x / 32 % 2 + x / 64 % 2 + x / 128 % 2 + x / 256 % 2 + x / 512 % 2 + x / 1024 % 2 + x / 2048 % 2 + x / 4096 % 2 + x / 8192 % 2
def popT (x : Nat) : Bool :=
  let a := pop1 x; let b := pop2 a; let c := pop3 b; let d := pop4 c; let e := pop5 d; let f := pop6 e
  Nat.ble (a ||| b ||| c ||| d ||| e ||| f ||| ((b >>> 4) + b)) 4611686018427387904 && Nat.beq (f &&& 127) (cnt14 x)
def allBelow (f : Nat → Bool) : Nat → Bool
  | 0 => true
  | n + 1 => f n && allBelow f n
theorem allBelow_at {f : Nat → Bool} : ∀ {n : Nat}, allBelow f n = true → ∀ i, i < n → f i = true
  | n + 1, h, i, hi => by
    simp only [allBelow, Bool.and_eq_true] at h
    by_cases e : i = n
    · rw [e]; exact h.1
    · exact allBelow_at h.2 i (by omega)
/-- Above a number: in pieces, so that no recursion is deep. -/
def allIn (f : Nat → Bool) (a : Nat) (n : Nat) : Bool := allBelow (fun i => f (a + i)) n
set_option maxRecDepth 100000 in
theorem pop_tab : allBelow (fun j => allIn popT (j * 128) 128) 128 = true := by decide +kernel
theorem pop_at (x : Nat) (hx : x < 16384) : popT x = true := by
  have h1 := allBelow_at pop_tab (x / 128) (by omega)
  have h2 := allBelow_at (show allBelow (fun i => popT (x / 128 * 128 + i)) 128 = true from h1) (x % 128) (by omega)
  rw [show x / 128 * 128 + x % 128 = x by omega] at h2
  exact h2
theorem bit_if (x k : Nat) : (if decide (x / 2 ^ k % 2 = 1) = true then 1 else 0) = x / 2 ^ k % 2 := by
  have : x / 2 ^ k % 2 < 2 := Nat.mod_lt _ (by omega)
  by_cases h : x / 2 ^ k % 2 = 1
  · simp [h]
  · simp [h]; omega
theorem cnt_list (x : Nat) (hx : x < 16384) : (listN x).length = cnt14 x := by
  unfold listN
  rw [List.length_map, show List.range 64 = List.range 14 ++ List.range' 14 50 by decide, List.filter_append, List.length_append]
  have h0 : (List.range' 14 50).filter (fun i => x.testBit i) = [] := by
    refine List.filter_eq_nil_iff.2 fun i hi => ?_
    rw [List.mem_range'_1] at hi
    rw [Nat.testBit_lt_two_pow (Nat.lt_of_lt_of_le hx (show 2 ^ 14 ≤ 2 ^ i from Nat.pow_le_pow_right (by omega) hi.1))]
    simp
  rw [h0, ← List.countP_eq_length_filter, show List.range 14 = [0, 1, 2, 3, 4, 5, 6, 7, 8, 9, 10, 11, 12, 13] by decide]
  simp only [List.countP_cons, List.countP_nil, Nat.testBit_eq_decide_div_mod_eq, bit_if, List.length_nil]
  unfold cnt14
  simp only [Nat.reducePow, Nat.div_one]
  omega
/-- What the walk of OnesCount64 wants of a word. -/
structure PopR (x : Nat) : Prop where
  a : pop1 x ≤ 4611686018427387904
  b : pop2 (pop1 x) ≤ 4611686018427387904
  s : (pop2 (pop1 x) >>> 4) + pop2 (pop1 x) ≤ 4611686018427387904
  c : pop3 (pop2 (pop1 x)) ≤ 4611686018427387904
  d : pop4 (pop3 (pop2 (pop1 x))) ≤ 4611686018427387904
  e : pop5 (pop4 (pop3 (pop2 (pop1 x)))) ≤ 4611686018427387904
  f : pop6 (pop5 (pop4 (pop3 (pop2 (pop1 x))))) ≤ 4611686018427387904
  n : popN x = (listN x).length
theorem popR (x : Nat) (hx : x < 16384) : PopR x := by
  have h := pop_at x hx
  unfold popT at h
  simp only [Bool.and_eq_true, Nat.ble_eq, Nat.beq_eq] at h
  obtain ⟨h1, h2⟩ := h
  have l6 : pop1 x ||| pop2 (pop1 x) ||| pop3 (pop2 (pop1 x)) ||| pop4 (pop3 (pop2 (pop1 x))) ||| pop5 (pop4 (pop3 (pop2 (pop1 x)))) ||| pop6 (pop5 (pop4 (pop3 (pop2 (pop1 x))))) ≤ pop1 x ||| pop2 (pop1 x) ||| pop3 (pop2 (pop1 x)) ||| pop4 (pop3 (pop2 (pop1 x))) ||| pop5 (pop4 (pop3 (pop2 (pop1 x)))) ||| pop6 (pop5 (pop4 (pop3 (pop2 (pop1 x))))) ||| ((pop2 (pop1 x) >>> 4) + pop2 (pop1 x)) := Nat.left_le_or
  have m6 : ((pop2 (pop1 x) >>> 4) + pop2 (pop1 x)) ≤ pop1 x ||| pop2 (pop1 x) ||| pop3 (pop2 (pop1 x)) ||| pop4 (pop3 (pop2 (pop1 x))) ||| pop5 (pop4 (pop3 (pop2 (pop1 x)))) ||| pop6 (pop5 (pop4 (pop3 (pop2 (pop1 x))))) ||| ((pop2 (pop1 x) >>> 4) + pop2 (pop1 x)) := Nat.right_le_or
  have l5 : pop1 x ||| pop2 (pop1 x) ||| pop3 (pop2 (pop1 x)) ||| pop4 (pop3 (pop2 (pop1 x))) ||| pop5 (pop4 (pop3 (pop2 (pop1 x)))) ≤ pop1 x ||| pop2 (pop1 x) ||| pop3 (pop2 (pop1 x)) ||| pop4 (pop3 (pop2 (pop1 x))) ||| pop5 (pop4 (pop3 (pop2 (pop1 x)))) ||| pop6 (pop5 (pop4 (pop3 (pop2 (pop1 x))))) := Nat.left_le_or
  have m5 : pop6 (pop5 (pop4 (pop3 (pop2 (pop1 x))))) ≤ pop1 x ||| pop2 (pop1 x) ||| pop3 (pop2 (pop1 x)) ||| pop4 (pop3 (pop2 (pop1 x))) ||| pop5 (pop4 (pop3 (pop2 (pop1 x)))) ||| pop6 (pop5 (pop4 (pop3 (pop2 (pop1 x))))) := Nat.right_le_or
  have l4 : pop1 x ||| pop2 (pop1 x) ||| pop3 (pop2 (pop1 x)) ||| pop4 (pop3 (pop2 (pop1 x))) ≤ pop1 x ||| pop2 (pop1 x) ||| pop3 (pop2 (pop1 x)) ||| pop4 (pop3 (pop2 (pop1 x))) ||| pop5 (pop4 (pop3 (pop2 (pop1 x)))) := Nat.left_le_or
  have m4 : pop5 (pop4 (pop3 (pop2 (pop1 x)))) ≤ pop1 x ||| pop2 (pop1 x) ||| pop3 (pop2 (pop1 x)) ||| pop4 (pop3 (pop2 (pop1 x))) ||| pop5 (pop4 (pop3 (pop2 (pop1 x)))) := Nat.right_le_or
  have l3 : pop1 x ||| pop2 (pop1 x) ||| pop3 (pop2 (pop1 x)) ≤ pop1 x ||| pop2 (pop1 x) ||| pop3 (pop2 (pop1 x)) ||| pop4 (pop3 (pop2 (pop1 x))) := Nat.left_le_or
  have m3 : pop4 (pop3 (pop2 (pop1 x))) ≤ pop1 x ||| pop2 (pop1 x) ||| pop3 (pop2 (pop1 x)) ||| pop4 (pop3 (pop2 (pop1 x))) := Nat.right_le_or
  have l2 : pop1 x ||| pop2 (pop1 x) ≤ pop1 x ||| pop2 (pop1 x) ||| pop3 (pop2 (pop1 x)) := Nat.left_le_or
  have m2 : pop3 (pop2 (pop1 x)) ≤ pop1 x ||| pop2 (pop1 x) ||| pop3 (pop2 (pop1 x)) := Nat.right_le_or
  have l1 : pop1 x ≤ pop1 x ||| pop2 (pop1 x) := Nat.left_le_or
  have m1 : pop2 (pop1 x) ≤ pop1 x ||| pop2 (pop1 x) := Nat.right_le_or
  exact ⟨by omega, by omega, by omega, by omega, by omega, by omega, by omega, by rw [cnt_list x hx]; exact h2⟩
end Go.Proofs.YteljfpcmpdpehaaGreatDoor
namespace Go.Proofs.YteljfpcmpdpehaaGreatDoor
open Go.Shelf
def laysSort_ren : Go.Shelf.Ren := ⟨fun | 6 => 62 | 15 => 92 | 14 => 91 | 28 => 114 | 29 => 115 | 20 => 106 | 21 => 107 | 22 => 108 | 23 => 109 | 24 => 110 | 25 => 111 | 26 => 112 | 27 => 113 | 46 => 122 | 47 => 123 | 48 => 124 | 49 => 125 | 50 => 126 | 57 => 139 | n => n, fun | 22 => 70 | 24 => 62 | 25 => 75 | 3 => 3 | 39 => 96 | 0 => 0 | 53 => 121 | 55 => 62 | 4 => 4 | 46 => 115 | 45 => 114 | 50 => 104 | 5 => 5 | 9 => 9 | 66 => 127 | 70 => 131 | 76 => 145 | 77 => 146 | n => n, fun | n => n⟩
theorem laysSort : Go.Proofs.SlLaysF.n6 Tryz.prog laysSort_ren := {
  mixed := by kernel_rfl
  f6 := ⟨Tryz.f62.name, by decide, Tryz.func62.trans (congrArg some (by kernel_rfl))⟩
  f14 := ⟨Tryz.f91.name, by decide, Tryz.func91.trans (congrArg some (by kernel_rfl))⟩
  f15 := Tryz.func92.trans (congrArg some (by kernel_rfl))
  f20 := ⟨Tryz.f106.name, by decide, Tryz.func106.trans (congrArg some (by kernel_rfl))⟩
  f21 := ⟨Tryz.f107.name, by decide, Tryz.func107.trans (congrArg some (by kernel_rfl))⟩
  f22 := ⟨Tryz.f108.name, by decide, Tryz.func108.trans (congrArg some (by kernel_rfl))⟩
  f23 := ⟨Tryz.f109.name, by decide, Tryz.func109.trans (congrArg some (by kernel_rfl))⟩
  f24 := ⟨Tryz.f110.name, by decide, Tryz.func110.trans (congrArg some (by kernel_rfl))⟩
  f25 := ⟨Tryz.f111.name, by decide, Tryz.func111.trans (congrArg some (by kernel_rfl))⟩
  f26 := ⟨Tryz.f112.name, by decide, Tryz.func112.trans (congrArg some (by kernel_rfl))⟩
  f27 := ⟨Tryz.f113.name, by decide, Tryz.func113.trans (congrArg some (by kernel_rfl))⟩
  f28 := Tryz.func114.trans (congrArg some (by kernel_rfl))
  f29 := Tryz.func115.trans (congrArg some (by kernel_rfl))
  f46 := ⟨Tryz.f122.name, by decide, Tryz.func122.trans (congrArg some (by kernel_rfl))⟩
  f47 := Tryz.func123.trans (congrArg some (by kernel_rfl))
  f48 := Tryz.func124.trans (congrArg some (by kernel_rfl))
  f49 := ⟨Tryz.f125.name, by decide, Tryz.func125.trans (congrArg some (by kernel_rfl))⟩
  f50 := ⟨Tryz.f126.name, by decide, Tryz.func126.trans (congrArg some (by kernel_rfl))⟩
  f57 := ⟨Tryz.f139.name, by decide, Tryz.func139.trans (congrArg some (by kernel_rfl))⟩
  t0 := Tryz.underlying0
  a0 := Tryz.isAgg0
  z0 := Tryz.sizeOf0
  v0 := Tryz.zeroValue0
  t3 := Tryz.underlying3
  a3 := Tryz.isAgg3
  z3 := Tryz.sizeOf3
  v3 := Tryz.zeroValue3
  t4 := Tryz.underlying4
  a4 := Tryz.isAgg4
  z4 := Tryz.sizeOf4
  v4 := Tryz.zeroValue4
  t5 := Tryz.underlying5
  a5 := Tryz.isAgg5
  z5 := Tryz.sizeOf5
  v5 := Tryz.zeroValue5
  t9 := Tryz.underlying9
  a9 := Tryz.isAgg9
  z9 := Tryz.sizeOf9
  v9 := Tryz.zeroValue9
  t22 := Tryz.underlying70
  a22 := Tryz.isAgg70
  z22 := Tryz.sizeOf70
  v22 := Tryz.zeroValue70
  a24 := Tryz.isAgg62
  z24 := Tryz.sizeOf62
  t25 := Tryz.underlying75
  a25 := Tryz.isAgg75
  z25 := Tryz.sizeOf75
  v25 := Tryz.zeroValue75
  t39 := Tryz.underlying96
  a39 := Tryz.isAgg96
  z39 := Tryz.sizeOf96
  v39 := Tryz.zeroValue96
  t45 := Tryz.underlying114
  a45 := Tryz.isAgg114
  z45 := Tryz.sizeOf114
  v45 := Tryz.zeroValue114
  t46 := Tryz.underlying115
  a46 := Tryz.isAgg115
  z46 := Tryz.sizeOf115
  v46 := Tryz.zeroValue115
  t50 := Tryz.underlying104
  a50 := Tryz.isAgg104
  z50 := Tryz.sizeOf104
  v50 := Tryz.zeroValue104
  t53 := Tryz.underlying121
  a53 := Tryz.isAgg121
  z53 := Tryz.sizeOf121
  v53 := Tryz.zeroValue121
  t55 := Tryz.underlying62
  a55 := Tryz.isAgg62
  z55 := Tryz.sizeOf62
  v55 := Tryz.zeroValue62
  t66 := Tryz.underlying127
  a66 := Tryz.isAgg127
  z66 := Tryz.sizeOf127
  v66 := Tryz.zeroValue127
  t70 := Tryz.underlying131
  a70 := Tryz.isAgg131
  z70 := Tryz.sizeOf131
  v70 := Tryz.zeroValue131
  t76 := Tryz.underlying145
  a76 := Tryz.isAgg145
  z76 := Tryz.sizeOf145
  v76 := Tryz.zeroValue145
  t77 := Tryz.underlying146
  a77 := Tryz.isAgg146
  z77 := Tryz.sizeOf146
  v77 := Tryz.zeroValue146 }
end Go.Proofs.YteljfpcmpdpehaaGreatDoor
namespace Go.Proofs.YteljfpcmpdpehaaGreatDoor
open Go.RowKit Go.IntWalk Go.Shelf

theorem shrC (x k : Nat) : ((x : Int) / (2 ^ k : Nat)) = ((x >>> k : Nat) : Int) := by
  rw [Nat.shiftRight_eq_div_pow]; simp
theorem andC (x c : Nat) (hx : x < 18446744073709551616) (hc : c < 18446744073709551616) : bits .and .u64 (x : Int) (c : Int) = ((x &&& c : Nat) : Int) := bits_and_u64_nat x c hx hc
theorem wrapC (x : Nat) (hx : x < 18446744073709551616) : IntKind.u64.wrap (x : Int) = x := by rw [IntKind.wrap_u64]; omega
set_option maxRecDepth 100000 in
set_option maxHeartbeats 1000000 in
theorem ones_any (x : Nat) (hx : x < 16384) (w : World) :
    Calls Tryz.prog 66 #[.int .u64 (x : Nat)] w fun e w' => e = .returned (.int .i64 (listN x).length) ∧ w' = w := by
  have hR := popR x hx
  have hn := hid hR.n
  have shr := fun (a k : Nat) (h : a < 18446744073709551616) => show a >>> k < 18446744073709551616 from Nat.lt_of_le_of_lt (by rw [Nat.shiftRight_eq_div_pow]; exact Nat.div_le_self _ _) h
  obtain ⟨ha, hb, hs, hc, hd, he, hf, -⟩ := hR
  have e1 := hid (show IntKind.u64.wrap (bits BinOp.and IntKind.u64 ((x : Int) / 2) 6148914691236517205 + bits BinOp.and IntKind.u64 (x : Int) 6148914691236517205) = ((pop1 x : Nat) : Int) by
    have h1 := shrC x 1
    have h2 := andC (x >>> 1) 6148914691236517205 (shr x 1 (by omega)) (by omega)
    have h3 := andC x 6148914691236517205 (by omega) (by omega)
    rw [← h1] at h2
    refine Eq.trans (congrArg _ (congr (congrArg _ h2) h3)) ?_
    rw [← Int.natCast_add]
    exact wrapC _ (by unfold pop1 at ha; omega))
  have hX : (listN x).length = pop6 (pop5 (pop4 (pop3 (pop2 (pop1 x))))) &&& 127 := hn.out.symm
  clear hn
  generalize (listN x).length = N at *
  have hN := hid hX
  clear hX
  go_enter Tryz.func66, Tryz.ntmps66
  go_upto_region 2 with fail
  rw [e1.out]
  clear e1
  have hz1 : pop1 x < 18446744073709551616 := by omega
  generalize pop1 x = a at *
  have e2 := hid (show IntKind.u64.wrap (bits BinOp.and IntKind.u64 ((a : Int) / 4) 3689348814741910323 + bits BinOp.and IntKind.u64 (a : Int) 3689348814741910323) = ((pop2 a : Nat) : Int) by
    have h1 := shrC a 2
    have h2 := andC (a >>> 2) 3689348814741910323 (shr a 2 (by omega)) (by omega)
    have h3 := andC a 3689348814741910323 (by omega) (by omega)
    rw [← h1] at h2
    refine Eq.trans (congrArg _ (congr (congrArg _ h2) h3)) ?_
    rw [← Int.natCast_add]
    exact wrapC _ (by unfold pop2 at hb; omega))
  go_upto_region 3 with fail
  rw [e2.out]
  clear e2 hx ha
  have hz2 : pop2 a < 18446744073709551616 := by omega
  generalize pop2 a = b at *
  have e3 := hid (show bits BinOp.and IntKind.u64 ((b : Int) / 16 + b) 1085102592571150095 = ((pop3 b : Nat) : Int) by
    have h1 := shrC b 4
    rw [show ((2 ^ 4 : Nat) : Int) = 16 from rfl] at h1
    rw [h1, ← Int.natCast_add]
    exact andC _ 1085102592571150095 (by omega) (by omega))
  go_upto_region 4 with fail
  rw [e3.out]
  clear e3 hb hs
  have hz3 : pop3 b < 18446744073709551616 := by omega
  generalize pop3 b = c at *
  have e4 := hid (show (c : Int) + (c : Int) / 256 = ((pop4 c : Nat) : Int) by
    have h1 := shrC c 8
    rw [show ((2 ^ 8 : Nat) : Int) = 256 from rfl] at h1
    rw [h1, ← Int.natCast_add]
    rfl)
  go_upto_region 5 with fail
  rw [e4.out]
  clear e4 hc
  have hz4 : pop4 c < 18446744073709551616 := by omega
  generalize pop4 c = d at *
  have e5 := hid (show (d : Int) + (d : Int) / 65536 = ((pop5 d : Nat) : Int) by
    have h1 := shrC d 16
    rw [show ((2 ^ 16 : Nat) : Int) = 65536 from rfl] at h1
    rw [h1, ← Int.natCast_add]
    rfl)
  go_upto_region 6 with fail
  rw [e5.out]
  clear e5 hd
  have hz5 : pop5 d < 18446744073709551616 := by omega
  generalize pop5 d = e9 at *
  have e6 := hid (show (e9 : Int) + (e9 : Int) / 4294967296 = ((pop6 e9 : Nat) : Int) by
    have h1 := shrC e9 32
    rw [show ((2 ^ 32 : Nat) : Int) = 4294967296 from rfl] at h1
    rw [h1, ← Int.natCast_add]
    rfl)
  go_upto_region 7 with fail
  rw [e6.out]
  clear e6 he
  generalize pop6 e9 = f at *
  have hf2 : (f : Int) ≤ 4611686018427387904 := by omega
  have hand := i64_and_nat f 127 (by omega) (by omega)
  have hand2 := hid hand
  clear hand
  go_wp2_with fail
  go_ret
  exact ⟨ret_int (by rw [hN.out]; exact hand2.out), rfl⟩
/-! ### Comparisons: what is made is new, and the tape moves forward -/
def Fwd (w w' : World) : Prop := Below w.heap.size w w' ∧ w.drawn ≤ w'.drawn
theorem Fwd.refl (w : World) : Fwd w w := ⟨Below.refl _ _, Nat.le_refl _⟩
theorem Fwd.trans {a b c : World} (h : Fwd a b) (k : Fwd b c) : Fwd a c := ⟨h.1.trans (k.1.mono h.1.size), Nat.le_trans h.2 k.2⟩
theorem Fwd.alloc {a b : World} (h : Fwd a b) (o : Obj) : Fwd a (b.alloc o) := ⟨h.1.alloc h.1.size o, h.2⟩
theorem Fwd.drew {a b : World} (h : Fwd a b) : Fwd a b.drew := ⟨h.1.drew, Nat.le_succ_of_le h.2⟩
open Go.Sort in
theorem Fwd.grow {w w' : World} (h : Fwd w w') : ∃ q os', w' = grow (w.drewN q) os' := by
  obtain ⟨⟨h1, h2, h3, h4, h5⟩, h6⟩ := h
  refine ⟨w'.drawn - w.drawn, w'.heap.extract w.heap.size w'.heap.size, ?_⟩
  obtain ⟨hp, tp, dr, o, out⟩ := w'
  simp only at *
  subst h1 h2 h3
  unfold Go.Sort.grow World.drewN
  congr 1
  · refine Array.ext_getElem? fun k => ?_
    rcases Nat.lt_or_ge k w.heap.size with hk | hk
    · rw [Array.getElem?_append_left hk, h5 k hk]
    · rw [Array.getElem?_append_right hk, Array.getElem?_extract]
      split
      · rw [show w.heap.size + (k - w.heap.size) = k by omega]
      · rename_i hn
        refine Array.getElem?_eq_none ?_
        simp only [Nat.min_self] at hn
        omega
  · show dr = w.drawn + (dr - w.drawn)
    omega
set_option maxRecDepth 100000 in
theorem isNaN_any (x : Int) (w : World) : Calls Tryz.prog 93 #[.int .i64 x] w fun e w' => e = .returned (.bool false) ∧ w' = w := by
  go_enter Tryz.func93, Tryz.ntmps93
  go_wp2_with fail
  go_ret
  exact ⟨rfl, rfl⟩
set_option maxRecDepth 100000 in
theorem compare_any (x y : Int) (w : World) : Calls Tryz.prog 65 #[.int .i64 x, .int .i64 y] w fun e w' => e = .returned (.int .i64 (cmpI x y)) ∧ w' = w := by
  have HN := hid isNaN_any
  go_enter Tryz.func65, Tryz.ntmps65
  go_wp2_with fail
  refine (HN.out _ _).mono ?_
  rintro e w2 ⟨rfl, rfl⟩
  go_wp2_with fail
  refine (HN.out _ _).mono ?_
  rintro e w3 ⟨rfl, rfl⟩
  by_cases h1 : x < y
  · have hc := hid (show cmpI x y = -1 by simp [cmpI, h1])
    as_aux_lemma =>
      go_wp2_with fail
      go_ret
      exact ⟨ret_int hc.out.symm, rfl⟩
  · by_cases h2 : y < x
    · have hc := hid (show cmpI x y = 1 by simp [cmpI, h1, h2])
      as_aux_lemma =>
        go_wp2_with fail
        go_ret
        exact ⟨ret_int hc.out.symm, rfl⟩
    · have hc := hid (show cmpI x y = 0 by simp [cmpI, h1, h2])
      as_aux_lemma =>
        go_wp2_with fail
        go_ret
        exact ⟨ret_int hc.out.symm, rfl⟩
set_option maxRecDepth 100000 in
set_option maxHeartbeats 1000000 in
set_option maxRecDepth 100000 in
/-- cmp.Or of two numbers. -/
theorem or_any (g c : Nat) (x y : Int) (w : World) (hx : Blk w g 3 #[.int .i64 x, .int .i64 y]) :
    Calls Tryz.prog 64 #[.slice (some ⟨g, 0, none⟩) 2 c] w fun e w' => e = .returned (.int .i64 (if x = 0 then y else x)) ∧ w' = w := by
  have y0 := hx.cell 0; have y1 := hx.cell 1; have z1 := hx.lt
  simp at y0 y1
  clear hx
  go_enter Tryz.func64, Tryz.ntmps64
  go_wp2_with fail
  go_loopw [8] (fun i wr => ∃ k : Nat, k ≤ 2 ∧ i = .int .i64 k ∧ wr = w ∧ (1 ≤ k → x = 0) ∧ (2 ≤ k → y = 0)) (fun i _ => 2 - (intOf i).toNat)
  case atStart => exact ⟨0, by omega, rfl, rfl, by omega, by omega⟩
  case round =>
    obtain ⟨k, hk, rfl, rfl, hx, hy⟩ := hrel
    have HX := hid hx
    have HY := hid hy
    clear hx hy
    match k, hk with
    | 0, _ =>
      by_cases hq : x = 0
      · have hQ := hid hq
        subst hq
        go_wp2_with fail
        go_roundw
        case rel => exact ⟨1, by omega, by go_num, by first | trivial | rfl, by simp, by omega⟩
        case measure => simp [intOf]
      · go_wp2_with fail
        go_ret
        exact ⟨ret_int (by first | rfl | simp [hq]), rfl⟩
    | 1, _ =>
      obtain rfl := HX.out (by omega)
      by_cases hq : y = 0
      · subst hq
        go_wp2_with fail
        go_roundw
        case rel => exact ⟨2, by omega, by go_num, by first | trivial | rfl, by simp, by simp⟩
        case measure => simp [intOf]
      · go_wp2_with fail
        go_ret
        exact ⟨ret_int (by first | rfl | simp), rfl⟩
    | 2, _ =>
      obtain rfl := HX.out (by omega)
      obtain rfl := HY.out (by omega)
      go_wp2_with fail
      go_ret
      exact ⟨ret_int (by first | rfl | simp), rfl⟩
/-- What remains to compare from the place k on. -/
theorem cmpL_drop {a b : List Int} {k : Nat} (ha : k < a.length) (hb : k < b.length) : cmpL (a.drop k) (b.drop k) = if cmpI a[k] b[k] = 0 then cmpL (a.drop (k + 1)) (b.drop (k + 1)) else cmpI a[k] b[k] := by
  rw [drop_cons a k ha, drop_cons b k hb]
  unfold cmpI
  simp only [cmpL]
  by_cases h1 : a[k] < b[k]
  · simp [h1]
  · by_cases h2 : b[k] < a[k] <;> simp [h1, h2]
set_option maxRecDepth 100000 in
set_option maxHeartbeats 1000000 in
theorem slcmp_any (A : Option Addr) (c : Nat) (a : List Int) (B : Option Addr) (d : Nat) (b : List Int) (w : World) (ha : a.length ≤ maxLen) (hb : b.length ≤ maxLen) (hA : SlR w w.heap.size A a) (hB : SlR w w.heap.size B b) :
    Calls Tryz.prog 67 #[.slice A a.length c, .slice B b.length d] w fun e w' => e = .returned (.int .i64 (cmpL a b)) ∧ w' = w := by
  unfold maxLen at ha hb
  have HC := hid compare_any
  have HD := hid (fun k => @cmpL_drop a b k)
  have HA := hid hA
  have HB := hid hB
  clear hA hB
  go_enter Tryz.func67, Tryz.ntmps67
  go_wp2_with fail
  go_loopw [11] (fun i wr => ∃ k : Nat, k ≤ a.length ∧ k ≤ b.length ∧ i = .int .i64 k ∧ wr = w ∧ cmpL a b = cmpL (a.drop k) (b.drop k)) (fun i _ => a.length - (intOf i).toNat)
  case atStart => exact ⟨0, by omega, by omega, rfl, rfl, by simp⟩
  case round =>
    obtain ⟨k, hk, hk2, rfl, rfl, he⟩ := hrel
    have HE := hid he
    clear he
    by_cases hlt : k < a.length
    · have hlt' : (k : Int) < a.length := by omega
      obtain ⟨ba, oa, rfl, hba, ca, -⟩ := HA.out.int hlt
      by_cases hlb : k < b.length
      · have hlb' : (k : Int) < b.length := by omega
        obtain ⟨bb, ob, rfl, hbb, cb, -⟩ := HB.out.int hlb
        have hD := hid (HD.out k hlt hlb)
        generalize a[k] = x at *
        generalize b[k] = y at *
        by_cases hq : cmpI x y = 0
        · have hcon := hid (HC.out x y)
          rw [hq] at hcon
          have hD2 := hid (show cmpL (a.drop k) (b.drop k) = cmpL (a.drop (k + 1)) (b.drop (k + 1)) by rw [hD.out, if_pos hq])
          clear hq hD
          go_wp2_with (go_at_call 65; refine (hcon.out _).mono ?_; rintro e w5 ⟨rfl, rfl⟩)
          go_roundw
          case rel => exact ⟨k + 1, by omega, by omega, by go_num, by first | trivial | rfl, by rw [HE.out, hD2.out]⟩
          case measure => simp [intOf]; omega
        · have hcon := hid (HC.out x y)
          have hD2 := hid (show cmpL (a.drop k) (b.drop k) = cmpI x y by rw [hD.out, if_neg hq])
          clear hD
          generalize cmpI x y = r at *
          go_wp2_with (go_at_call 65; refine (hcon.out _).mono ?_; rintro e w5 ⟨rfl, rfl⟩)
          go_ret
          exact ⟨ret_int (by rw [HE.out, hD2.out]), rfl⟩
      · have hlb' : (b.length : Int) ≤ k := by omega
        have hD2 := hid (show cmpL (a.drop k) (b.drop k) = 1 by rw [drop_cons a k hlt, List.drop_of_length_le (l := b) (by omega)]; rfl)
        go_wp2_with fail
        go_ret
        exact ⟨ret_int (by rw [HE.out, hD2.out]), rfl⟩
    · obtain rfl : k = a.length := by omega
      by_cases hlb : a.length < b.length
      · have hlb' : (a.length : Int) < b.length := by omega
        have hD2 := hid (show cmpL (a.drop a.length) (b.drop a.length) = -1 by rw [drop_cons b _ hlb, List.drop_of_length_le (l := a) (Nat.le_refl _)]; rfl)
        go_wp2_with fail
        go_ret
        exact ⟨ret_int (by rw [HE.out, hD2.out]), rfl⟩
      · have hlb' : ¬ (a.length : Int) < b.length := by omega
        have hD2 := hid (show cmpL (a.drop a.length) (b.drop a.length) = 0 by rw [List.drop_of_length_le (l := a) (Nat.le_refl _), List.drop_of_length_le (l := b) (by omega)]; rfl)
        go_wp2_with fail
        go_ret
        exact ⟨ret_int (by rw [HE.out, hD2.out]), rfl⟩/-! ### The closure -/
set_option maxRecDepth 100000 in
set_option maxHeartbeats 2000000 in
theorem sipcmp_any (x y : Wd) (w : World) (hE : PEnv w) :
    Calls Tryz.prog 63 #[.int .u64 (x.1 : Nat), .int .u64 (y.1 : Nat)] w fun e w' => e = .returned (.int .i64 (cfW x y)) ∧ Fwd w w' := by
  obtain ⟨x, hx⟩ := x
  obtain ⟨y, hy⟩ := y
  have HO1 := hid (ones_any x hx)
  have HO2 := hid (ones_any y hy)
  have HC := hid compare_any
  have HL1 := hid (fun W (hE : PEnv W) => list_any x W (by omega) hE)
  have HL2 := hid (fun W (hE : PEnv W) => list_any y W (by omega) hE)
  have hL1 := hid (listN_len x)
  have hL2 := hid (listN_len y)
  have hI1 := hid (listN_i64 x)
  have hI2 := hid (listN_i64 y)
  have hK := hid (cmpK_or x y)
  have hR := hid (show cfW ⟨x, hx⟩ ⟨y, hy⟩ = cmpK x y from rfl)
  rw [hR.out]
  clear hR
  have HE := hid hE
  clear hE
  generalize cmpK x y = R at *
  generalize listN x = lx at *
  generalize listN y = ly at *
  go_enter Tryz.func63, Tryz.ntmps63
  go_wp2_with fail
  refine (HO1.out _).mono ?_
  rintro e w1 ⟨rfl, rfl⟩
  go_wp2_with fail
  refine (HO2.out _).mono ?_
  rintro e w2 ⟨rfl, rfl⟩
  go_wp2_with fail
  refine (HC.out _ _ _).mono ?_
  rintro e w3 ⟨rfl, rfl⟩
  go_wp2_with fail
  refine (HL1.out _ HE.out).mono ?_
  rintro e w4 ⟨A1, c1, rfl, hO1, hB1, hd1⟩
  have F4 := hid (show Fwd w3 w4 from ⟨hB1, hd1⟩)
  have O4 := hid hO1
  clear hO1 hB1 hd1
  go_wp2_with fail
  refine (HL2.out _ (HE.out.below F4.out.1 HE.out.pos)).mono ?_
  rintro e w5 ⟨A2, c2, rfl, hO2, hB2, hd2⟩
  have F5 := hid (show Fwd w4 w5 from ⟨hB2, hd2⟩)
  have O5 := hid (O4.out.below hB2)
  have O6 := hid hO2
  clear hO2 hB2 hd2
  have HS := hid (show Calls Tryz.prog 67 #[.slice A1 lx.length c1, .slice A2 ly.length c2] w5 fun e w' => e = .returned (.int .i64 (cmpL lx ly)) ∧ w' = w5 from by
    obtain ⟨A8, c8, e8, _, _, s1⟩ := O5.out.slr hI1.out
    obtain ⟨A9, c9, e9, _, _, s2⟩ := O6.out.slr hI2.out
    cases e8
    cases e9
    exact slcmp_any _ _ lx _ _ ly w5 (by have := hL1.out; unfold maxLen; omega) (by have := hL2.out; unfold maxLen; omega) s1 s2)
  clear O4 O5 O6 HL1 HL2
  generalize cmpL lx ly = R2 at *
  generalize cmpI lx.length ly.length = R1 at *
  go_wp2_with fail
  refine HS.out.mono ?_
  rintro e w6 ⟨rfl, rfl⟩
  go_wp2_with fail
  refine (or_any _ _ R1 R2 _ (Blk.new _ _ _)).mono ?_
  rw [← hK.out]
  rintro e w7 ⟨rfl, rfl⟩
  go_wp2_with fail
  go_ret
  exact ⟨rfl, (F4.out.trans F5.out).alloc _⟩
end Go.Proofs.YteljfpcmpdpehaaGreatDoor
namespace Go.Proofs.YteljfpcmpdpehaaGreatDoor
open Go.RowKit Go.IntWalk Go.Shelf Go.Sort

def wdRK : RK Nat where
  e := 62
  t := 70
  size := 1
  bytes := 8
  z := .int .u64 0
  cs x := [.int .u64 (x : Nat)]
  ok x := x < 2 ^ 64
  und := Tryz.underlying70
  info := by kernel_rfl
  zcs := rfl
  pos := by omega
  small := by omega
  len _ := rfl
  one x v hv := by simp at hv; rcases hv with rfl; rfl
  rsz := rfl
  rep w B x h := ⟨rfl, h⟩
  inv w B c x h := ⟨h.1, h.2⟩
def encW (x : Wd) : Value := .int .u64 (x.1 : Nat)
theorem wd_list : ∀ (l : List Nat), (∀ x ∈ l, x < 16384) → ∃ d : List Wd, d.map (·.1) = l
  | [], _ => ⟨[], rfl⟩
  | x :: l, h => by
    obtain ⟨d, hd⟩ := wd_list l (fun y hy => h y (List.mem_cons_of_mem _ hy))
    exact ⟨⟨x, h x (List.mem_cons_self ..)⟩ :: d, by rw [List.map_cons, hd]⟩
theorem wd_at (d : Array Wd) (j : Nat) (hj : j < d.size) : (wdRK.all (d.toList.map (·.1)))[j]? = some (encW d[j]!) := by
  have h := wdRK.all_at (d.toList.map (·.1)) j (by simpa using hj) 0 (show 0 < 1 by omega)
  rw [show wdRK.size = 1 from rfl, Nat.mul_one, Nat.add_zero] at h
  rw [h, List.getElem_map]
  have e2 : d[j]! = d.toList[j]'(by simpa using hj) := by rw [getElem!_pos d _ hj]; simp
  rw [e2]
  rfl
theorem wd_holds {w : World} {base g n c : Nat} {d : Array Wd} (h : wdRK.Own w base (.slice (some ⟨g, 0, none⟩) n c) (d.toList.map (·.1))) : Holds encW w g 0 d := by
  intro j hj
  obtain ⟨hg, _, hc, hf⟩ := h.at_ (k := j) (by simpa using hj)
  refine ⟨?_, hf _⟩
  have := hc 0 (show 0 < 1 by omega)
  rw [show wdRK.size = 1 from rfl, Nat.mul_one, Nat.add_zero] at this
  rw [Nat.zero_add, this, List.getElem_map]
  have e2 : d[j]! = d.toList[j]'(by simpa using hj) := by rw [getElem!_pos d _ hj]; simp
  rw [e2]
  rfl
theorem wd_sorted {w : World} {base g n c : Nat} {l : List Nat} (h : wdRK.Own w base (.slice (some ⟨g, 0, none⟩) n c) l) (d' : Array Wd) (hs : d'.size = l.length) (m : Nat) (os : Array Obj) :
    wdRK.Own (sortWorld encW w g 0 m d' os) base (.slice (some ⟨g, 0, none⟩) n c) (d'.toList.map (·.1)) ∧ w.grownBy (sortWorld encW w g 0 m d' os) (some g) := by
  have hh := h.2
  rcases hh with ⟨hv, -⟩ | ⟨g', cap, cur, hv, hg, hb, hc, hm, hsz, ht⟩
  · cases hv
  injection hv with hv1 hv2 hv3
  injection hv1 with hv1
  injection hv1 with hv1
  subst hv1 hv3
  have hb : Blk w g 62 cur := hb
  have hglt := hb.lt
  rw [show wdRK.size = 1 from rfl, Nat.mul_one] at hsz
  have hheap : (sortWorld encW w g 0 m d' os).heap[g]? = some (.cells (putCells encW 0 d' cur) 62 (0, 0)) := by
    have hb' : w.heap[g]? = some (.cells cur 62 (0, 0)) := hb
    unfold sortWorld grow putRow mapBlock Sort.ahead
    simp only
    rw [Array.getElem?_append_left (by simpa using hglt), Array.getElem?_modify, if_pos rfl, hb']
    rfl
  have hel : ∀ j, j < l.length → (putCells encW 0 d' cur)[j]? = (wdRK.all (d'.toList.map (·.1)))[j]? := by
    intro j hj
    have hjd : j < d'.size := by rw [hs]; exact hj
    have hjc : j < cur.size := by rw [hsz]; omega
    unfold putCells
    rw [Array.getElem?_mapIdx, Array.getElem?_eq_getElem hjc, Option.map_some, if_pos ⟨Nat.zero_le _, by omega⟩, Nat.sub_zero]
    exact (wd_at d' j hjd).symm
  refine ⟨⟨wdRK.all_len _, .inr ⟨g, c, putCells encW 0 d' cur, ?_, hg, hheap, ?_, hm, ?_, ?_⟩⟩, ?_⟩
  · rw [List.length_map, Array.length_toList, hs, hv2]
  · rw [List.length_map, Array.length_toList, hs]; exact hc
  · unfold putCells; rw [Array.size_mapIdx, hsz, show wdRK.size = 1 from rfl, Nat.mul_one]
  · refine List.ext_getElem? fun j => ?_
    rw [List.length_map, show d'.toList.length = l.length by rw [Array.length_toList, hs], show wdRK.size = 1 from rfl, Nat.mul_one]
    by_cases hj : j < l.length
    · rw [List.getElem?_take_of_lt hj, ← hel j hj]; simp
    · rw [List.getElem?_eq_none (by rw [List.length_take]; exact Nat.le_trans (Nat.min_le_left _ _) (by omega)), List.getElem?_eq_none (by rw [wdRK.all_len, List.length_map, Array.length_toList, hs]; have : wdRK.size = 1 := rfl; rw [this]; omega)]
  · refine ⟨rfl, rfl, rfl, ?_, fun k hk hne => ?_⟩
    · unfold sortWorld; rw [size_grow, size_putRow]; exact Nat.le_add_right _ _
    · have hkg : ¬ g = k := fun e => hne (by rw [e])
      unfold sortWorld grow putRow mapBlock Sort.ahead
      simp only
      rw [Array.getElem?_append_left (by simpa using hk), Array.getElem?_modify, if_neg hkg]
/-- The table's block is not the row's: behind whatever the sort has done it is there. -/
theorem env_sorted {w : World} {base g n c : Nat} {l : List Nat} (hE : PEnv w) (h : wdRK.Own w base (.slice (some ⟨g, 0, none⟩) n c) l) (hb : 0 < base) (d' : Array Wd) (hs : d'.size = l.length) (m : Nat) (os : Array Obj) : PEnv (sortWorld encW w g 0 m d' os) := by
  have hg := (wd_sorted h d' hs m os).2
  intro j hj
  have hz := hE.pos
  have h0 : (0 : Nat) ≠ g := by
    have := (World.ownsRow.lt h) g rfl
    omega
  rw [World.cell?_of_block (w := w) (a := ⟨0, j, none⟩) (hg.block 0 hz (by simpa using h0))]
  exact hE j hj
set_option maxRecDepth 100000 in
set_option maxHeartbeats 1000000 in
theorem sortw_any (base g c : Nat) (l : List Nat) (w : World) (hE : PEnv w) (hbz : 0 < base) (hl : l.length ≤ 1000000) (hlt : ∀ x ∈ l, x < 16384) (h : wdRK.Own w base (.slice (some ⟨g, 0, none⟩) l.length c) l) :
    Calls Tryz.prog 62 #[.slice (some ⟨g, 0, none⟩) l.length c, .func (.func 63) #[] #[]] w fun e w' => e = .returned (.tuple #[]) ∧
      ∃ l' : List Nat, l'.Perm l ∧ l'.Pairwise (fun a b => 0 ≤ cmpK b a) ∧ wdRK.Own w' base (.slice (some ⟨g, 0, none⟩) l.length c) l' ∧ w.grownBy w' (some g) := by
  have eg : ∀ args w, (callFunc 63 args).run Tryz.prog w = .ok (.enter 63 args) w := enters_of Tryz.func63 (by kernel_rfl) rfl
  obtain ⟨d, rfl⟩ := wd_list l hlt
  have hglt : g < w.heap.size := (World.ownsRow.lt h g rfl).2
  have hho : Holds encW w g 0 d.toArray := wd_holds (d := d.toArray) (by simpa using h)
  rw [List.length_map] at hl h ⊢
  have hcon := Any.slices_SortFunc laysSort encW (fun _ => rfl) cfW swoW 63 #[] g 0 c d.toArray w eg (fun m os dk hdk x y => (sipcmp_any x y _ (env_sorted hE h hbz dk (by simpa using hdk) m os)).mono (fun e w' ⟨he, hf⟩ => ⟨he, hf.grow⟩)) hho hglt (by simp; omega)
  have e0 : d.toArray.size = d.length := by simp
  rw [e0] at hcon
  refine Calls.mono (show Calls Tryz.prog 62 _ _ _ from hcon) ?_
  rintro e w' ⟨rfl, d', m, os, hp, hsd, rfl⟩
  have hsz : d'.size = d.length := by rw [hp.1]; simp
  obtain ⟨h1, h2⟩ := wd_sorted h d' (by simpa using hsz) m os
  refine ⟨rfl, d'.toList.map (·.1), ?_, ?_, h1, h2⟩
  · have := hp.2.2
    rw [Array.extract_eq_self_of_le (by omega), Array.extract_eq_self_of_le (by simp)] at this
    exact List.Perm.map _ (by simpa using this)
  · refine List.pairwise_iff_getElem.2 fun i j hi hj hij => ?_
    rw [List.length_map, Array.length_toList] at hi hj
    have := hsd i j (Nat.zero_le _) hij (by omega)
    rw [ltW, getElem!_pos d' _ hj, getElem!_pos d' _ hi] at this
    simp only [decide_eq_false_iff_not, Int.not_lt] at this
    simpa using this
theorem sortn_any (A : Option Addr) (c : Nat) (w : World) :
    Calls Tryz.prog 62 #[.slice A 0 c, .func (.func 63) #[] #[]] w fun e w' => e = .returned (.tuple #[]) ∧ w' = w :=
  AnyF.slices_SortFunc_none (P := Tryz.prog) (ρ := laysSort_ren) { laysSort with } A c _ w
end Go.Proofs.YteljfpcmpdpehaaGreatDoor
namespace Go.Proofs.YteljfpcmpdpehaaGreatDoor
open Go.RowKit Go.IntWalk Go.Shelf

theorem SlR.wd {w : World} {B : Nat} {A : Option Addr} {l : List Nat} (h : SlR w B A l) {k : Nat} (hk : k < l.length) : ∃ b off, A = some ⟨b, off, none⟩ ∧ b < B ∧ w.cell? ⟨b, off + k, none⟩ = some (.int .u64 (l[k] : Nat)) := by
  obtain ⟨b, off, es, hA, hb, hs, hc, rfl, _⟩ := h k _ (List.getElem?_eq_getElem hk)
  have h4 : Rep.size Nat = 1 := rfl
  rw [h4] at hc
  exact ⟨b, off, hA, hb, by simpa using hc 0 _ rfl⟩
set_option maxRecDepth 100000 in
set_option maxHeartbeats 1000000 in
theorem ixu_any (gf : Nat) (lb : Array Value) (eg : ∀ args w, (callFunc gf args).run Tryz.prog w = .ok (.enter gf args) w) (A : Option Addr) (c : Nat) (l : List Nat) (f : Nat → Bool) (w : World) (hl : l.length ≤ maxLen) (h : SlR w w.heap.size A l)
    (hp : ∀ (x : Nat) (W : World), x ∈ l → Below w.heap.size w W → Calls Tryz.prog gf (#[.int .u64 (x : Nat)] ++ lb) W fun e w' => e = .returned (.bool (f x)) ∧ Below w.heap.size w w') :
    Calls Tryz.prog 94 #[.slice A l.length c, .func (.func gf) #[] lb] w fun e w' => ∃ r : Int, e = .returned (.int .i64 r) ∧ (0 ≤ r ↔ l.any f = true) ∧ Below w.heap.size w w' := by
  unfold maxLen at hl
  have HP := hid hp
  clear hp
  go_enter Tryz.func94, Tryz.ntmps94
  go_wp2_with fail
  go_loopw [8] (fun i wr => ∃ k : Nat, k ≤ l.length ∧ i = .int .i64 k ∧ Below w.heap.size w wr ∧ (l.take k).any f = false) (fun i _ => l.length - (intOf i).toNat)
  case atStart => exact ⟨0, by omega, rfl, Below.refl _ _, by simp⟩
  case round =>
    obtain ⟨k, hk, rfl, hB, ht⟩ := hrel
    have HB := hid hB
    have HT := hid ht
    by_cases hlt : k < l.length
    · have hlt' : (k : Int) < l.length := by omega
      obtain ⟨b, off, rfl, hb, g0⟩ := h.wd hlt
      replace g0 := (bcell hB b _ hb).trans g0
      have hz : b < wr.heap.size := by have := hB.size; omega
      have HC := hid (HP.out l[k] wr (List.getElem_mem hlt) hB)
      have hyes := hid (fun (hq : f l[k] = true) => show l.any f = true from List.any_eq_true.2 ⟨l[k], List.getElem_mem hlt, hq⟩)
      have hno := hid (fun (hq : f l[k] = false) => show (l.take (k + 1)).any f = false from by rw [List.take_add_one, List.getElem?_eq_getElem hlt, List.any_append, ht]; simp [hq])
      clear hB ht
      generalize l[k] = x at *
      cases hq : f x with
      | true =>
        have HQ := hid hq
        rw [hq] at HC
        clear hq
        as_aux_lemma =>
          go_wp2_with fail
          refine HC.out.mono ?_
          rintro e w9 ⟨rfl, hB9⟩
          have HB9 := hid hB9
          clear hB9
          go_wp2_with fail
          go_ret
          exact ⟨k, rfl, ⟨fun _ => hyes.out HQ.out, fun _ => by omega⟩, HB9.out⟩
      | false =>
        have HQ := hid hq
        rw [hq] at HC
        clear hq
        as_aux_lemma =>
          go_wp2_with fail
          refine HC.out.mono ?_
          rintro e w9 ⟨rfl, hB9⟩
          have HB9 := hid hB9
          clear hB9
          go_wp2_with fail
          go_roundw
          case rel => exact ⟨k + 1, by omega, by go_num, HB9.out, hno.out HQ.out⟩
          case measure => simp [intOf]; omega
    · obtain rfl : k = l.length := by omega
      have hall := hid (show l.any f = false by rw [← ht, List.take_length])
      clear hB ht
      go_wp2_with fail
      go_ret
      exact ⟨-1, rfl, by rw [hall.out]; simp, HB.out⟩
set_option maxRecDepth 100000 in
theorem ctu_any (gf : Nat) (lb : Array Value) (eg : ∀ args w, (callFunc gf args).run Tryz.prog w = .ok (.enter gf args) w) (A : Option Addr) (c : Nat) (l : List Nat) (f : Nat → Bool) (w : World) (hl : l.length ≤ maxLen) (h : SlR w w.heap.size A l)
    (hp : ∀ (x : Nat) (W : World), x ∈ l → Below w.heap.size w W → Calls Tryz.prog gf (#[.int .u64 (x : Nat)] ++ lb) W fun e w' => e = .returned (.bool (f x)) ∧ Below w.heap.size w w') :
    Calls Tryz.prog 68 #[.slice A l.length c, .func (.func gf) #[] lb] w fun e w' => e = .returned (.bool (l.any f)) ∧ Below w.heap.size w w' := by
  have HI := hid (ixu_any gf lb eg A c l f w hl h hp)
  clear hp h
  unfold maxLen at hl
  go_enter Tryz.func68, Tryz.ntmps68
  go_wp2_with fail
  refine HI.out.mono ?_
  rintro e w2 ⟨r, rfl, hr, hB⟩
  have HR := hid hr
  have HB := hid hB
  clear hr hB
  go_wp2_with fail
  go_ret
  refine ⟨ret_bool ?_, HB.out⟩
  have := HR.out
  cases hx : l.any f with
  | true => rw [hx] at this; simpa using this
  | false => rw [hx] at this; simp at this ⊢; omega

set_option maxRecDepth 100000 in
set_option maxHeartbeats 1000000 in
theorem insub_any (gw v : Nat) (f : Nat) (w : World) (hf : f < 2 ^ 64) (hv : v < 2 ^ 64) (xw : Blk w gw 62 #[.int .u64 (v : Nat)]) :
    Calls Tryz.prog 69 #[.int .u64 (f : Nat), .pointer (some ⟨gw, 0, none⟩)] w fun e w' => e = .returned (.bool (decide (clr f v = 0))) ∧ Below w.heap.size w w' := by
  have y1 := xw.cell 0; have z1 := xw.lt
  simp at y1
  clear xw
  go_enter Tryz.func69, Tryz.ntmps69
  go_wp2_with fail
  go_ret
  refine ⟨ret_bool ?_, Below.refl _ _⟩
  rw [u64_andNot_nat f v (by simpa using hf) (by simpa using hv), show (f &&& (18446744073709551615 - v)) = clr f v from rfl, Bool.eq_iff_iff]
  simp
end Go.Proofs.YteljfpcmpdpehaaGreatDoor
namespace Go.Proofs.YteljfpcmpdpehaaGreatDoor
open Go.RowKit Go.IntWalk Go.Shelf

/-- All words of n places, sorted in place. -/
theorem sortall_any (N base c : Nat) (A : Option Addr) (l : List Nat) (w : World) (hN : N ≤ 14) (hE : PEnv w) (hbz : 0 < base) (hl : l = List.range' 1 (2 ^ N - 1)) (h : wdRK.Own w base (.slice A l.length c) l) :
    Calls Tryz.prog 62 #[.slice A l.length c, .func (.func 63) #[] #[]] w fun e w' => e = .returned (.tuple #[]) ∧
      ∃ ws : List Nat, WordsR N ws ∧ ws.length = l.length ∧ SlR w' w'.heap.size A ws ∧ Below base w w' := by
  have h14 : 2 ^ N ≤ 2 ^ 14 := Nat.pow_le_pow_right (by omega) hN
  have hlen : l.length = 2 ^ N - 1 := by rw [hl, List.length_range']
  have hlt : ∀ x ∈ l, x < 16384 := fun x hx => by
    rw [hl, List.mem_range'_1] at hx
    omega
  by_cases h0 : 0 < l.length
  · obtain ⟨g, cap, cur, hv, hg, -⟩ := own_cell h h0
    injection hv with hv1 _ hv3
    subst hv1 hv3
    refine (sortw_any base g c l w hE hbz (by omega) hlt h).mono ?_
    rintro e w' ⟨rfl, ws, hp, hs, ho, hgr⟩
    have hpl := hp.length_eq
    refine ⟨rfl, ws, ⟨hl ▸ hp, hs⟩, hpl, ?_, ?_⟩
    · obtain ⟨A9, c9, e9, _, _, hsl⟩ := ho.slr (fun x hx => by have := hlt x (hp.mem_iff.1 hx); show x < 2 ^ 64; omega)
      injection e9 with e9
      rw [e9]
      exact hsl
    · exact ⟨hgr.os, hgr.tape, hgr.output, hgr.size, fun k hk => by
        have hlt9 := World.ownsRow.lt h g rfl
        exact hgr.block k (by omega) (by simp; omega)⟩
  · have e : l = [] := List.eq_nil_of_length_eq_zero (by omega)
    subst e
    refine (sortn_any A c w).mono ?_
    rintro e w' ⟨rfl, rfl⟩
    refine ⟨rfl, [], ⟨?_, List.Pairwise.nil⟩, rfl, SlR.nil, Below.refl _ _⟩
    rw [← hl]
/-- A slice's header. -/
structure Hd where
  A : Option Addr
  n : Nat
  c : Nat
instance : Rep Hd := ⟨1, fun _ _ cs x => cs = [.slice x.A x.n x.c], fun _ _ h => h⟩
def hdRK : RK Hd where
  e := 25
  t := 36
  size := 1
  bytes := 24
  z := .slice none 0 0
  cs x := [.slice x.A x.n x.c]
  ok x := True
  und := Tryz.underlying36
  info := by kernel_rfl
  zcs := rfl
  pos := by omega
  small := by omega
  len _ := rfl
  one x v hv := by simp at hv; rcases hv with rfl; rfl
  rsz := rfl
  rep w B x h := rfl
  inv w B c x h := ⟨h, trivial⟩
/-- The headers are those of rows of the call's own, which hold the lists. -/
def Lies (w : World) (base : Nat) (H : List Hd) (L : List (List Int)) : Prop :=
  H.length = L.length ∧ ∀ k (hk : k < H.length) (hl : k < L.length), H[k].n = L[k].length ∧ OwnI w base (.slice H[k].A L[k].length H[k].c) L[k] ∧ ∀ x ∈ L[k], I64 x
theorem Lies.nil {w : World} {base : Nat} : Lies w base [] [] := ⟨rfl, fun k hk => absurd hk (by simp)⟩
theorem Lies.kept {w w' : World} {base : Nat} {H : List Hd} {L : List (List Int)} (h : Lies w base H L) (hk : KT [3] w w') : Lies w' base H L :=
  ⟨h.1, fun k h1 h2 => ⟨(h.2 k h1 h2).1, own_kt (h.2 k h1 h2).2.1 hk (by simp), (h.2 k h1 h2).2.2⟩⟩
theorem Lies.push {w : World} {base : Nat} {H : List Hd} {L : List (List Int)} (h : Lies w base H L) {A : Option Addr} {l : List Int} {c : Nat} (ho : OwnI w base (.slice A l.length c) l) (hi : ∀ x ∈ l, I64 x) : Lies w base (H ++ [⟨A, l.length, c⟩]) (L ++ [l]) := by
  refine ⟨by rw [List.length_append, List.length_append, h.1]; rfl, fun k h1 h2 => ?_⟩
  by_cases hk : k < H.length
  · have hk2 : k < L.length := by have := h.1; omega
    rw [List.getElem_append_left hk, List.getElem_append_left hk2]
    exact h.2 k hk hk2
  · have e : k = H.length := by rw [List.length_append, List.length_singleton] at h1; omega
    have e2 : k = L.length := by have := h.1; omega
    have g1 : (H ++ [(⟨A, l.length, c⟩ : Hd)])[k] = ⟨A, l.length, c⟩ := by subst e; simp
    have g2 : (L ++ [l])[k] = l := by subst e2; simp
    rw [g1, g2]
    exact ⟨rfl, ho, hi⟩
theorem Lies.slr {w : World} {base B : Nat} {H : List Hd} {L : List (List Int)} (h : Lies w base H L) {A : Option Addr} (hs : SlR w B A H) (hB : B ≤ w.heap.size) : SlR w w.heap.size A L := by
  intro k l hl
  obtain ⟨hk, rfl⟩ := List.getElem?_eq_some_iff.1 hl
  have hk1 : k < H.length := by rw [h.1]; exact hk
  obtain ⟨hn, ho, hi⟩ := h.2 k hk1 hk
  obtain ⟨b, off, es, hA, hb, hsz, hc, hr⟩ := hs k _ (List.getElem?_eq_getElem hk1)
  obtain ⟨A9, c9, e9, g1, g2, g3⟩ := ho.slr hi
  injection e9 with e1 _ e3
  refine ⟨b, off, es, hA, by omega, hsz, hc, A9, c9, ?_, g1, g2, g3⟩
  rw [← e1, ← e3, ← hn]
  exact hr
theorem minF_mem (E : List Ed) (ws : List Nat) (k : Nat) : ∀ x ∈ minF E (ws.take k), x ∈ ws := by
  induction k with
  | zero => intro x hx; simp [minF] at hx
  | succ k ih =>
    intro x hx
    by_cases hk : k < ws.length
    · rw [minF_succ E ws k hk] at hx
      unfold minS at hx
      split at hx
      · exact ih x hx
      · rcases List.mem_append.1 hx with h | h
        · exact ih x h
        · rw [List.mem_singleton] at h; rw [h]; exact List.getElem_mem hk
    · rw [List.take_of_length_le (by omega)] at hx
      rw [List.take_of_length_le (by omega)] at ih
      exact ih x hx
theorem minF_len (E : List Ed) (ws : List Nat) (k : Nat) : (minF E (ws.take k)).length ≤ k := by
  induction k with
  | zero => simp [minF]
  | succ k ih =>
    by_cases hk : k < ws.length
    · rw [minF_succ E ws k hk]
      unfold minS
      split
      · omega
      · rw [List.length_append, List.length_singleton]; omega
    · rw [List.take_of_length_le (by omega)]
      rw [List.take_of_length_le (by omega)] at ih
      omega
set_option maxRecDepth 100000 in
set_option maxHeartbeats 4000000 in
theorem siphons_any (N : Nat) (A : Option Addr) (c : Nat) (T : List Tr) (w : World) (hN : N ≤ 14) (h : SlR w w.heap.size A T) (hok : netOK ((N : Int), T) = true) (hE : PEnv w) :
    Calls Tryz.prog 21 #[.agg #[.int .i64 (N : Nat), .slice A T.length c]] w fun e w' => ∃ (ws : List Nat) (A' : Option Addr) (c' : Nat), WordsR N ws ∧
      e = .returned (.tuple #[.slice A' (minF (edgesN ((N : Int), T) false) ws).length c', .int .i64 0]) ∧ SlR w' w'.heap.size A' ((minF (edgesN ((N : Int), T) false) ws).map listN) ∧ Below w.heap.size w w' := by
  obtain ⟨w1, hw1⟩ : ∃ w1, w1 = (w.alloc (Obj.cells #[.int .i64 (N : Nat), .slice A T.length c] 24)) := ⟨_, rfl⟩
  have B1 : Below w.heap.size w w1 := by rw [hw1]; (repeat (first | exact Below.refl _ _ | assumption | refine below_drewN ?_ _ | refine Below.drew ?_ | refine Below.alloc ?_ (by (try simp); (try omega)) _ | refine Below.setCell ?_ (by (try simp); (try omega)) _))
  have x1 : Blk w1 w.heap.size 24 #[.int .i64 (N : Nat), .slice A T.length c] := by rw [hw1]; exact Blk.new w _ _
  have y0 := x1.cell 0; have y1 := x1.cell 1; have z1 := x1.lt
  simp at y0 y1
  have HB1 := hid B1
  have HE := hid hE
  have HX := hid x1
  have h5000 : T.length ≤ 5000 := by
    simp only [netOK, Bool.and_eq_true, decide_eq_true_eq] at hok
    exact hok.1.2
  have hEd := hid (edges_any (N : Int) A c T false w1 (by unfold maxLen; omega) ((h.below B1).more B1.size) hok)
  have HOK := hid (edges_ok hok false)
  have hle := hid (edgesN_len (N : Int) T false)
  have hNi : ¬ (14 < (N : Int)) := by omega
  clear h hok hE x1 B1
  generalize edgesN ((N : Int), T) false = E at *
  go_enter Tryz.func21, Tryz.ntmps21
  go_upto_region 1 with fail
  rw [← hw1]
  clear hw1
  go_upto_region 3 with fail
  go_upto_region 4 with fail
  refine hEd.out.mono ?_
  rintro e w3 ⟨v3, rfl, ho3, hB3⟩
  obtain ⟨A3, c3, rfl, _, _, hs3⟩ := ho3.slr HOK.out
  have HB3 := hid (HB1.out.trans (hB3.mono HB1.out.size))
  have HS3 := hid hs3
  have X3 := hid (HX.out.below hB3 HX.out.lt)
  clear ho3 hB3 hs3 hEd y0 y1 z1
  have y0 := X3.out.cell 0; have z3 := X3.out.lt
  simp at y0
  obtain ⟨P, hP⟩ : ∃ P : Nat, P = 2 ^ N := ⟨_, rfl⟩
  have hp : IntKind.u64.wrap (2 ^ N) = (P : Int) := by rw [hP]; exact pow_u64 (by omega)
  have hP14 : P ≤ 16384 := by rw [hP]; exact Nat.pow_le_pow_right (n := 2) (by omega) hN
  have hP1 : 1 ≤ P := by rw [hP]; exact Nat.two_pow_pos N
  have HP := hid hP
  have hz3 := hid (show 0 < w3.heap.size by omega)
  clear hP
  go_upto_region 6 with fail
  go_loopw [5, 6] (fun v x wr => ∃ k : Nat, 1 ≤ k ∧ k ≤ P ∧ x = .int .u64 (k : Nat) ∧ wdRK.Own wr w3.heap.size v (List.range' 1 (k - 1)) ∧ Below w3.heap.size w3 wr) (fun _ x _ => P - (intOf x).toNat)
  case atStart => exact ⟨1, by omega, by omega, rfl, RK.Own.nil, Below.refl _ _⟩
  case round =>
    obtain ⟨k, hk1, hk, rfl, ho, hB⟩ := hrel
    have HO := hid ho
    have HB := hid hB
    replace y0 := (bcell hB _ 0 z3).trans y0
    have z3r : w.heap.size < wr.heap.size := by have := hB.size; omega
    clear ho hB
    by_cases hlt : k < P
    · have hlt' : (k : Int) < P := by omega
      have SG := hid (wdRK.blk (l := [k]) (Blk.new wr 62 #[.int .u64 (k : Nat)]) (by intro e he; simp only [List.mem_singleton] at he; subst he; show e < 2 ^ 64; omega))
      have hl9 := hid (show (List.range' 1 (k - 1)).length + ([k] : List Nat).length ≤ 100000000 by rw [List.length_range', List.length_singleton]; omega)
      have hb9 := hid (show w3.heap.size ≤ (wr.alloc (Obj.cells #[.int .u64 (k : Nat)] 62)).heap.size by have h1 := HB.out.size; simp; omega)
      go_upto_region 7 with (at_builtin; refine wdRK.appL _ rfl (.tmp 23) (.tmp 25) rfl rfl (HO.out.alloc _) (ys := [k]) (c := 1) rfl SG.out hl9.out hb9.out ?_; intro A9 c9 w9 ho9 hg9)
      have HO9 := hid (show wdRK.Own w9 w3.heap.size (.slice A9 k c9) (List.range' 1 (k + 1 - 1)) from by
        rw [List.length_range', List.length_singleton, show k - 1 + 1 = k by omega] at ho9
        rw [show k + 1 - 1 = k - 1 + 1 by omega, List.range'_1_concat, show 1 + (k - 1) = k by omega]
        exact ho9)
      have HB9 := hid (show Below w3.heap.size w3 w9 from (HB.out.alloc HB.out.size _).grown hg9 hb9.out (fun g hg => (own_blk HO.out g hg).1))
      clear ho9 hg9
      go_wp2_with fail
      go_roundw
      case rel => exact ⟨k + 1, by omega, by omega, by go_num, HO9.out, HB9.out⟩
      case measure => simp [intOf]; omega
    · obtain rfl : k = P := by omega
      go_upto_region 9 with fail
      clear y0 z3r hp
      obtain ⟨A5, c5, hu5⟩ := HO.out.form
      subst hu5
      have HBr := hid (HB3.out.trans (HB.out.mono HB3.out.size))
      have hsort := hid (sortall_any N w3.heap.size c5 A5 (List.range' 1 (k - 1)) wr hN (HE.out.below HBr.out HE.out.pos) hz3.out (by rw [HP.out]) HO.out)
      have HS3r := hid ((HS3.out.below HB.out).more HB.out.size)
      have hlen := hid (show (List.range' 1 (k - 1)).length = k - 1 by rw [List.length_range'])
      clear HO HP
      generalize List.range' 1 (k - 1) = l0 at *
      go_upto_region 10 with (go_at_call 62; refine hsort.out.mono ?_; rintro e w9 ⟨rfl, ws, hws, hwl, hsl, hB9⟩)
      have HS9 := hid ((HS3.out.below (HB.out.trans hB9)).more (HB.out.trans hB9).size)
      have HBw := hid (HB3.out.trans ((HB.out.trans hB9).mono HB3.out.size))
      rw [← hwl]
      have hwlen : ws.length ≤ 16384 := by have := hlen.out; omega
      have HWS := hid hws
      have hw14 := hid (show ∀ x ∈ ws, x < 16384 from fun x hx => by
        have := hws.perm.mem_iff.1 hx
        rw [List.mem_range'_1] at this
        have : 2 ^ N ≤ 2 ^ 14 := Nat.pow_le_pow_right (by omega) hN
        omega)
      have HE9 := hid (HE.out.below HBw.out HE.out.pos)
      clear hwl hlen hsort HS3r HBr hk1 hB9 hws HS3 HB HB3 X3 z3 hz3 hP14 hP1 hk hlt HX HB1
      go_upto_region 13 with fail
      go_loopw [7, 8, 31] (fun vf vo i wr => ∃ (k : Nat) (H : List Hd), k ≤ ws.length ∧ i = .int .i64 k ∧ wdRK.Own wr w9.heap.size vf (minF E (ws.take k)) ∧ hdRK.Own wr w9.heap.size vo H ∧ Lies wr w9.heap.size H ((minF E (ws.take k)).map listN) ∧ Below w9.heap.size w9 wr) (fun _ _ i _ => ws.length - (intOf i).toNat)
      case atStart => exact ⟨0, [], by omega, rfl, RK.Own.nil, RK.Own.nil, Lies.nil, Below.refl _ _⟩
      case round =>
        obtain ⟨k, H, hk, rfl, hof, hoo, hli, hB⟩ := hrel
        have HF := hid hof
        have HO := hid hoo
        have HLi := hid hli
        have HB := hid hB
        clear hof hoo hli
        by_cases hlt : k < ws.length
        · have hlt' : (k : Int) < ws.length := by omega
          obtain ⟨b, off, rfl, hb, g0⟩ := hsl.wd hlt
          replace g0 := (bcell hB b _ hb).trans g0
          have hz : b < wr.heap.size := by have := hB.size; omega
          have hv14 := hw14.out _ (List.getElem_mem hlt)
          have hst := hid (minF_succ E ws k hlt)
          have hFl := hid (minF_len E ws k)
          have hFw := hid (fun x hx => hw14.out x (minF_mem E ws k x hx))
          obtain ⟨Af, cf, hvf, hfc, hfm, hfs⟩ := HF.out.slr (fun x hx => by have := hFw.out x hx; show x < 2 ^ 64; omega)
          subst hvf
          have HFS := hid hfs
          clear hB hfs hfc hfm
          generalize ws[k] = v at *
          generalize minF E (ws.take k) = F at *
          go_upto_region 15 with fail
          have hms := hid (show minS E F v = if F.any (fun f => decide (clr f v = 0)) || !closedN E v then F else F ++ [v] from rfl)
          have HB5 := hid (show Below w9.heap.size w9 (wr.alloc (Obj.cells #[.int .u64 (v : Nat)] 62)) from HB.out.alloc HB.out.size _)
          have X5 := hid (Blk.new wr 62 #[.int .u64 (v : Nat)])
          have HF5 := hid (HF.out.alloc (Obj.cells #[.int .u64 (v : Nat)] 62))
          have HO5 := hid (HO.out.alloc (Obj.cells #[.int .u64 (v : Nat)] 62))
          have HL5 := hid (HLi.out.kept (w' := wr.alloc (Obj.cells #[.int .u64 (v : Nat)] 62)) (KT.of_below ((Below.refl _ _).alloc (Nat.le_refl _) _)))
          have HFS5 := hid ((HFS.out.alloc (Nat.le_refl _) (Obj.cells #[.int .u64 (v : Nat)] 62)).more (B' := (wr.alloc (Obj.cells #[.int .u64 (v : Nat)] 62)).heap.size) (by simp))
          have hne := hid (show ∀ g, (Value.slice Af F.length cf).ownBlock = some g → g ≠ wr.heap.size from fun g hg => by have := World.ownsRow.lt HF.out g hg; omega)
          clear HB HF HO HLi HFS g0 hz
          generalize wr.heap.size = gX at *
          generalize (wr.alloc (Obj.cells #[.int .u64 (v : Nat)] 62)) = w5 at *
          have hv64 := hid (show v < 2 ^ 64 by omega)
          have HC := hid (ctu_any 69 #[.pointer (some ⟨gX, 0, none⟩)] (enters_of Tryz.func69 (by kernel_rfl) rfl) Af cf F (fun f => decide (clr f v = 0)) w5 (by have := hFl.out; unfold maxLen; omega) HFS5.out (fun x W hx hW =>
            (insub_any gX v x W (by have := hFw.out x hx; omega) hv64.out (X5.out.below hW X5.out.lt)).mono (fun e w' ⟨he, hb⟩ => ⟨he, hW.trans (hb.mono hW.size)⟩)))
          have HCl := hid (fun W (hW : Below w5.heap.size w5 W) => closed_any A3 c3 E v W (by rw [hle.out]; unfold maxLen; omega) ((HS9.out.below (HB5.out.trans (hW.mono HB5.out.size))).more (HB5.out.trans (hW.mono HB5.out.size)).size) hv64.out HOK.out)
          have c5 := X5.out.cell 0; have z5 := X5.out.lt
          simp at c5
          generalize F.any (fun f => decide (clr f v = 0)) = b1 at *
          generalize closedN E v = b2 at *
          cases b1 with
          | true =>
            have hst2 := hid (show minF E (ws.take (k + 1)) = F by rw [hst.out, hms.out]; simp)
            as_aux_lemma =>
              go_upto_region 15 with fail
              go_wp2_with (go_at_call 68; refine HC.out.mono ?_; rintro e w6 ⟨rfl, hB6⟩)
              have HB6 := hid hB6
              clear hB6
              go_roundw
              case rel => exact ⟨k + 1, H, by omega, by go_num, by rw [hst2.out]; exact HF5.out.below HB6.out, HO5.out.below HB6.out, by rw [hst2.out]; exact HL5.out.kept (KT.of_below HB6.out), HB5.out.trans (HB6.out.mono HB5.out.size)⟩
              case measure => simp [intOf]; omega
          | false =>
            cases b2 with
            | false =>
              have hst2 := hid (show minF E (ws.take (k + 1)) = F by rw [hst.out, hms.out]; simp)
              as_aux_lemma =>
                go_wp2_with fail
                refine HC.out.mono ?_
                rintro e w6 ⟨rfl, hB6⟩
                have c6 := (bcell hB6 _ 0 z5).trans c5
                have z6 : gX < w6.heap.size := by have := hB6.size; omega
                have HC7 := hid (HCl.out w6 hB6)
                have HB6 := hid hB6
                clear hB6 HCl
                go_wp2_with (go_at_call 54; refine HC7.out.mono ?_; rintro e w7 ⟨rfl, hB7⟩)
                have HB7 := hid (HB6.out.trans (hB7.mono HB6.out.size))
                clear hB7
                go_roundw
                case rel => exact ⟨k + 1, H, by omega, by go_num, by rw [hst2.out]; exact HF5.out.below HB7.out, HO5.out.below HB7.out, by rw [hst2.out]; exact HL5.out.kept (KT.of_below HB7.out), HB5.out.trans (HB7.out.mono HB5.out.size)⟩
                case measure => simp [intOf]; omega
            | true =>
              have hst2 := hid (show minF E (ws.take (k + 1)) = F ++ [v] by rw [hst.out, hms.out]; simp)
              go_wp2_with fail
              refine HC.out.mono ?_
              rintro e w6 ⟨rfl, hB6⟩
              have c6 := (bcell hB6 _ 0 z5).trans c5
              have z6 : gX < w6.heap.size := by have := hB6.size; omega
              have HC7 := hid (HCl.out w6 hB6)
              have HB6 := hid hB6
              clear hB6 HCl
              go_upto_region 16 with (go_at_call 54; refine HC7.out.mono ?_; rintro e w7 ⟨rfl, hB7⟩)
              have hB57 := HB6.out.trans (hB7.mono HB6.out.size)
              have HB7 := hid (HB5.out.trans (hB57.mono HB5.out.size))
              have X7 := hid (X5.out.below hB57 X5.out.lt)
              have HF7 := hid (HF5.out.below hB57)
              have HO7 := hid (HO5.out.below hB57)
              have HL7 := hid (HL5.out.kept (KT.of_below hB57))
              have HS7 := hid (hB57)
              clear hB57 hB7 HC7 HB6 c6 z6 c5 z5 HC HF5 HO5 HL5 HFS5 X5 HB5
              have HSF := hid (fun (wq : World) (hq : Below w9.heap.size w9 wq ∧ Blk wq gX 62 #[.int .u64 (v : Nat)]) => (hq.2.cell 0).trans (show (#[.int .u64 (v : Nat)] : Array Value)[0]? = some (.int .u64 (v : Nat)) from rfl))
              have BD := hid (show Below w9.heap.size w9 w7.drew from HB7.out.drew)
              have XD := hid (X7.out.drew)
              have HFD := hid (HF7.out.drew)
              have HOD := hid (HO7.out.drew)
              have HLD := hid (HL7.out.kept (KT.of_below ((Below.refl _ _).drew)))
              refine wpIn_wide.1 (wpIn_region_S (n := 0) (fun wq => Below w9.heap.size w9 wq ∧ Blk wq gX 62 #[.int .u64 (v : Nat)]) [] (by kernel_rfl) ⟨BD.out, XD.out⟩ (fun hHeld => ?_))
              clear HB7 X7 HF7 HO7 HL7 HS7
              generalize w7.drew = wd at *
              refine wpAnyS_pure 0 (v := ?_) (fun _ => trivial) (by simp only [List.getElem?_toArray, List.getElem?_cons_succ, List.getElem?_cons_zero]; rfl) (by kernel_rfl) (fun _ _ _ _ _ h => h) ⟨rfl, (by intro c h; cases h), ?_⟩ hHeld ?_
              rotate_left
              focus (intro wS hSw; (try replace hSw := HSF.out wS hSw); (try dsimp only at hSw); go_simp; (try with_reducible rfl))
              (try simp only [Act.put, List.setIfInBounds_toArray, List.set_cons_zero, List.set_cons_succ])
              refine wpAnyS_take 1 (v := ?_) (fun _ => trivial) (by simp only [List.getElem?_toArray, List.getElem?_cons_succ, List.getElem?_cons_zero]; rfl) (by kernel_rfl) (fun _ _ _ _ _ h => h) ⟨rfl, (by intro c h; cases h), ?_⟩ hHeld ?_
              rotate_left
              focus (intro wS hSw; (try replace hSw := HSF.out wS hSw); (try dsimp only at hSw); go_simp; (try with_reducible rfl))
              (try simp only [Act.put, List.setIfInBounds_toArray, List.set_cons_zero, List.set_cons_succ])
              refine wpAnyS_pure 4 (v := ?_) (fun _ => trivial) (by simp only [List.getElem?_toArray, List.getElem?_cons_succ, List.getElem?_cons_zero]; rfl) (by kernel_rfl) (fun _ _ _ _ _ h => h) ⟨rfl, (by intro c h; cases h), ?_⟩ hHeld ?_
              rotate_left
              focus (intro wS hSw; (try replace hSw := HSF.out wS hSw); (try dsimp only at hSw); go_simp; (try with_reducible rfl))
              (try simp only [Act.put, List.setIfInBounds_toArray, List.set_cons_zero, List.set_cons_succ])
              refine wpAnyS_take 5 (v := ?_) (fun _ => trivial) (by simp only [List.getElem?_toArray, List.getElem?_cons_succ, List.getElem?_cons_zero]; rfl) (by kernel_rfl) (fun _ _ _ _ _ h => h) ⟨rfl, (by intro c h; cases h), ?_⟩ hHeld ?_
              rotate_left
              focus (intro wS hSw; (try replace hSw := HSF.out wS hSw); (try dsimp only at hSw); go_simp; (try with_reducible rfl))
              (try simp only [Act.put, List.setIfInBounds_toArray, List.set_cons_zero, List.set_cons_succ])
              refine wpAnyS_ready [2] (by kernel_rfl) (by simp) (AllReadyS.cons (by simp only [List.getElem?_toArray, List.getElem?_cons_succ, List.getElem?_cons_zero]; rfl) rfl (fun K hK => ?_) AllReadyS.nil)
              go_simp
              have BA := hid (BD.out.alloc BD.out.size (Obj.cells #[.int .u64 (v : Nat)] 62))
              have XA := hid (XD.out.alloc (Obj.cells #[.int .u64 (v : Nat)] 62))
              have SA := hid (wdRK.blk (l := [v]) (Blk.new wd 62 #[.int .u64 (v : Nat)]) (by intro e he; simp only [List.mem_singleton] at he; subst he; exact hv64.out))
              have HFA := hid (HFD.out.alloc (Obj.cells #[.int .u64 (v : Nat)] 62))
              have HOA := hid (HOD.out.alloc (Obj.cells #[.int .u64 (v : Nat)] 62))
              have HLA := hid (HLD.out.kept (w' := wd.alloc (Obj.cells #[.int .u64 (v : Nat)] 62)) (KT.of_below ((Below.refl _ _).alloc (Nat.le_refl _) _)))
              refine hK.out _ _ ⟨BA.out, XA.out⟩ ?_
              clear hK K hHeld
              (try simp only [Act.put, List.setIfInBounds_toArray, List.set_cons_zero, List.set_cons_succ])
              clear BD XD HFD HOD HLD
              generalize wd.heap.size = gA at *
              generalize (wd.alloc (Obj.cells #[.int .u64 (v : Nat)] 62)) = wa at *
              refine wpAnyS_ready [3] (by kernel_rfl) (by simp) (AllReadyS.cons (by simp only [List.getElem?_toArray, List.getElem?_cons_succ, List.getElem?_cons_zero]; rfl) rfl (fun K hK => ?_) AllReadyS.nil)
              have hl9 := hid (show F.length + ([v] : List Nat).length ≤ 100000000 by have := hFl.out; rw [List.length_singleton]; omega)
              refine wdRK.appS (fun _ => trivial) (.tmp 44) (.tmp 46) rfl rfl HFA.out (ys := [v]) (c := 1) rfl SA.out hl9.out BA.out.size ?_
              intro Ab cb wb hob hgb
              have BB := hid (show Below w9.heap.size w9 wb from BA.out.grown hgb BA.out.size (fun g hg => (own_blk HFA.out g hg).1))
              have XB := hid (show Blk wb gX 62 #[.int .u64 (v : Nat)] from XA.out.grown hgb (fun e => hne.out _ e.symm rfl))
              have KB := hid (show KT [3, 25] wa wb from KT.of_grown hgb (fun g hg => by obtain ⟨_, cs, hb⟩ := own_blk HFA.out g hg; exact ⟨_, cs, hb, by decide⟩))
              have HFB := hid (show wdRK.Own wb w9.heap.size (.slice Ab (F.length + 1) cb) (F ++ [v]) from hob)
              have HOB := hid (show hdRK.Own wb w9.heap.size u8 H from own_kt HOA.out KB.out (by decide))
              have HLB := hid (HLA.out.kept (fun g t cs ht hb => KB.out g t cs (by simp at ht; simp [ht]) hb))
              refine hK.out _ _ ⟨BB.out, XB.out⟩ ?_
              clear hK K hob hgb HFA HOA HLA KB SA XA BA
              (try simp only [Act.put, List.setIfInBounds_toArray, List.set_cons_zero, List.set_cons_succ])
              have HLs := hid (list_any v wb hv64.out (HE9.out.below BB.out HE9.out.pos))
              have hLl := hid (listN_len v)
              have hLi := hid (listN_i64 v)
              have hmap := hid (show (F ++ [v]).map listN = F.map listN ++ [listN v] by rw [List.map_append]; rfl)
              generalize listN v = lv at *
              refine wpAnyS_ready [6] (by kernel_rfl) (by simp) (AllReadyS.cons (by simp only [List.getElem?_toArray, List.getElem?_cons_succ, List.getElem?_cons_zero]; rfl) rfl (fun K hK => ?_) AllReadyS.nil)
              refine callV (R := fun u w' => ∃ (Al : Option Addr) (cl : Nat), u = .slice Al lv.length cl ∧ OwnI w' wb.heap.size (.slice Al lv.length cl) lv ∧ Below wb.heap.size wb w') (by intro c h; cases h) (by go_simp; try with_reducible rfl) (HLs.out.mono (fun e w' ⟨Al, cl, he, ho, hb, _⟩ => ⟨_, he, Al, cl, rfl, ho, hb⟩)) ?_
              rintro u wc ⟨Al, cl, rfl, hol, hbl⟩
              have BC := hid (show Below w9.heap.size w9 wc from BB.out.trans (hbl.mono BB.out.size))
              have XC := hid (XB.out.below hbl XB.out.lt)
              have HFC := hid (HFB.out.below hbl)
              have HOC := hid (HOB.out.below hbl)
              have HLC := hid (HLB.out.kept (KT.of_below hbl))
              have HNC := hid (show OwnI wc w9.heap.size (.slice Al lv.length cl) lv from own_base hol BB.out.size)
              refine hK.out _ _ ⟨BC.out, XC.out⟩ ?_
              clear hK K hol hbl BB XB HFB HOB HLB HLs
              (try simp only [Act.put, List.setIfInBounds_toArray, List.set_cons_zero, List.set_cons_succ])
              refine wpAnyS_ready [7] (by kernel_rfl) (by simp) (AllReadyS.cons (by simp only [List.getElem?_toArray, List.getElem?_cons_succ, List.getElem?_cons_zero]; rfl) rfl (fun K hK => ?_) AllReadyS.nil)
              go_simp
              have BE := hid (BC.out.alloc BC.out.size (Obj.cells #[.slice Al lv.length cl] 25))
              have XE := hid (XC.out.alloc (Obj.cells #[.slice Al lv.length cl] 25))
              have SE := hid (hdRK.blk (l := [⟨Al, lv.length, cl⟩]) (Blk.new wc 25 #[.slice Al lv.length cl]) (fun _ _ => trivial))
              have hbe := (Below.refl wc.heap.size wc).alloc (Nat.le_refl _) (Obj.cells #[.slice Al lv.length cl] 25)
              have HFE := hid (HFC.out.below hbe)
              have HOE := hid (HOC.out.below hbe)
              have HLE := hid (HLC.out.kept (KT.of_below hbe))
              have HNE := hid (HNC.out.below hbe)
              refine hK.out _ _ ⟨BE.out, XE.out⟩ ?_
              clear hK K hbe
              (try simp only [Act.put, List.setIfInBounds_toArray, List.set_cons_zero, List.set_cons_succ])
              clear BC XC HFC HOC HLC HNC
              generalize wc.heap.size = gE at *
              generalize (wc.alloc (Obj.cells #[.slice Al lv.length cl] 25)) = we at *
              refine wpAnyS_ready [8] (by kernel_rfl) (by simp) (AllReadyS.cons (by simp only [List.getElem?_toArray, List.getElem?_cons_succ, List.getElem?_cons_zero]; rfl) rfl (fun K hK => ?_) AllReadyS.nil)
              have hHl := HLE.out.1
              rw [List.length_map] at hHl
              have hl8 := hid (show H.length + ([⟨Al, lv.length, cl⟩] : List Hd).length ≤ 100000000 by have := hFl.out; rw [List.length_singleton]; omega)
              have hHl2 := hid hHl
              clear hHl
              refine hdRK.appS (fun _ => trivial) (.tmp 48) (.tmp 51) rfl rfl HOE.out (ys := [⟨Al, lv.length, cl⟩]) (c := 1) rfl SE.out hl8.out BE.out.size ?_
              intro Af2 cf2 wf hof hgf
              have BF := hid (show Below w9.heap.size w9 wf from BE.out.grown hgf BE.out.size (fun g hg => (own_blk HOE.out g hg).1))
              have KF := hid (show KT [3, 62] we wf from KT.of_grown hgf (fun g hg => by obtain ⟨_, cs, hb⟩ := own_blk HOE.out g hg; exact ⟨_, cs, hb, by decide⟩))
              have XF := hid (show Blk wf gX 62 #[.int .u64 (v : Nat)] from KF.out _ _ _ (by simp) XE.out)
              have HFF := hid (show wdRK.Own wf w9.heap.size (.slice Ab (F.length + 1) cb) (F ++ [v]) from own_kt HFE.out KF.out (by decide))
              have HOF := hid (show hdRK.Own wf w9.heap.size (.slice Af2 (H.length + 1) cf2) (H ++ [⟨Al, lv.length, cl⟩]) from hof)
              have HLF := hid (show Lies wf w9.heap.size (H ++ [⟨Al, lv.length, cl⟩]) (F.map listN ++ [lv]) from (HLE.out.push HNE.out hLi.out).kept (fun g t cs ht hb => KF.out g t cs (by simp at ht; simp [ht]) hb))
              refine hK.out _ _ ⟨BF.out, XF.out⟩ ?_
              clear hK K hof hgf BE XE SE HFE HOE HLE HNE KF
              (try simp only [Act.put, List.setIfInBounds_toArray, List.set_cons_zero, List.set_cons_succ])
              have hHeld := And.intro BF.out XF.out
              refine wpAnyS_pure 9 (v := ?_) (fun _ => trivial) (by simp only [List.getElem?_toArray, List.getElem?_cons_succ, List.getElem?_cons_zero]; rfl) (by kernel_rfl) (fun _ _ _ _ _ h => h) ⟨rfl, (by intro c h; cases h), ?_⟩ hHeld ?_
              rotate_left
              focus (intro wS hSw; (try replace hSw := HSF.out wS hSw); (try dsimp only at hSw); go_simp; (try with_reducible rfl))
              (try simp only [Act.put, List.setIfInBounds_toArray, List.set_cons_zero, List.set_cons_succ])
              refine wpAnyS_pure 10 (v := ?_) (fun _ => trivial) (by simp only [List.getElem?_toArray, List.getElem?_cons_succ, List.getElem?_cons_zero]; rfl) (by kernel_rfl) (fun _ _ _ _ _ h => h) ⟨rfl, (by intro c h; cases h), ?_⟩ hHeld ?_
              rotate_left
              focus (intro wS hSw; (try replace hSw := HSF.out wS hSw); (try dsimp only at hSw); go_simp; (try with_reducible rfl))
              (try simp only [Act.put, List.setIfInBounds_toArray, List.set_cons_zero, List.set_cons_succ])
              refine wpAnyS_done (by kernel_rfl) ?_
              clear hHeld HSF
              go_wp2_with fail
              go_roundw
              case rel => exact ⟨k + 1, H ++ [⟨Al, lv.length, cl⟩], by omega, by go_num, by rw [hst2.out]; exact HFF.out, HOF.out, by rw [hst2.out, hmap.out]; exact HLF.out, BF.out⟩
              case measure => simp [intOf]; omega
        · obtain rfl : k = ws.length := by omega
          obtain ⟨A8, c8, hv8⟩ := HO.out.form
          subst hv8
          have hHl := hid (show H.length = (minF E ws).length by have := HLi.out.1; rw [List.take_length, List.length_map] at this; exact this)
          have hslH := hid (show SlR wr wr.heap.size A8 H from by
            obtain ⟨A7, c7, e7, _, _, s7⟩ := HO.out.slr (fun _ _ => trivial)
            injection e7 with e7
            rw [e7]
            exact s7)
          clear hB
          go_wp2_with fail
          go_ret2
          exact ⟨ws, A8, c8, HWS.out, by rw [← hHl.out]; rfl, by have := HLi.out.slr hslH.out (Nat.le_refl _); rw [List.take_length] at this; exact this, HBw.out.trans (HB.out.mono HBw.out.size)⟩
end Go.Proofs.YteljfpcmpdpehaaGreatDoor
