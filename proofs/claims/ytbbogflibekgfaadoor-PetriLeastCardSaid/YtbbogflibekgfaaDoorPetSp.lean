
/- Petri, plain: the order of the words (by size, then by their places), and the minimal siphons out of them. -/
import Derived.Test.YtbbogflibekgfaaDoorPetP
import Derived.Shelf.SlSortCmp.Insertion
set_option linter.unusedSimpArgs false
set_option linter.unusedVariables false
namespace Go.Proofs.YtbbogflibekgfaaDoor
open Go.RowKit Go.IntWalk Go.Sort

def cmpI (x y : Int) : Int := if x < y then -1 else if y < x then 1 else 0
/-- Two lists, element by element; the shorter one first. -/
def cmpL : List Int → List Int → Int
  | [], [] => 0
  | [], _ :: _ => -1
  | _ :: _, [] => 1
  | x :: a, y :: b => if x < y then -1 else if y < x then 1 else cmpL a b
theorem cmpL_self : ∀ a, cmpL a a = 0
  | [] => rfl
  | x :: a => by simp [cmpL, cmpL_self a]
theorem cmpL_zero : ∀ {a b}, cmpL a b = 0 → a = b
  | [], [], _ => rfl
  | [], _ :: _, h => by simp [cmpL] at h
  | _ :: _, [], h => by simp [cmpL] at h
  | x :: a, y :: b, h => by
    unfold cmpL at h
    split at h
    · omega
    · split at h
      · omega
      · rw [cmpL_zero h, show x = y by omega]
theorem cmpL_neg : ∀ a b, cmpL b a = - cmpL a b
  | [], [] => rfl
  | [], _ :: _ => rfl
  | _ :: _, [] => rfl
  | x :: a, y :: b => by
    simp only [cmpL]
    by_cases h1 : x < y
    · have h2 : ¬ y < x := by omega
      simp [h1, h2]
    · by_cases h2 : y < x
      · simp [h1, h2]
      · simp [h1, h2, cmpL_neg a b]
theorem cmpL_trans : ∀ {a b c}, cmpL a b < 0 → cmpL b c < 0 → cmpL a c < 0
  | [], b, [], h, k => by
    cases b with
    | nil => simp [cmpL] at h
    | cons _ _ => simp [cmpL] at k
  | [], _, _ :: _, _, _ => by simp [cmpL]
  | _ :: _, [], _, h, _ => by simp [cmpL] at h
  | _ :: _, _ :: _, [], _, k => by simp [cmpL] at k
  | x :: a, y :: b, z :: c, h, k => by
    simp only [cmpL] at *
    by_cases h1 : x < y
    · by_cases k1 : y < z
      · simp [show x < z by omega]
      · rw [if_neg k1] at k
        by_cases k2 : z < y
        · simp [k2] at k
        · simp [show x < z by omega]
    · rw [if_neg h1] at h
      by_cases h2 : y < x
      · simp [h2] at h
      · rw [if_neg h2] at h
        by_cases k1 : y < z
        · simp [show x < z by omega]
        · rw [if_neg k1] at k
          by_cases k2 : z < y
          · simp [k2] at k
          · rw [if_neg k2] at k
            rw [if_neg (by omega), if_neg (by omega)]
            exact cmpL_trans h k
theorem cmpL_ge {a b c : List Int} (h : 0 ≤ cmpL a b) (k : 0 ≤ cmpL b c) : 0 ≤ cmpL a c := by
  rcases Int.lt_or_eq_of_le h with h1 | h1
  · rcases Int.lt_or_eq_of_le k with k1 | k1
    · have e1 := cmpL_neg a b
      have e2 := cmpL_neg b c
      have e3 := cmpL_neg a c
      have := cmpL_trans (a := c) (b := b) (c := a) (by omega) (by omega)
      omega
    · rw [cmpL_zero k1.symm] at h; exact h
  · rw [cmpL_zero h1.symm]; exact k
/-- A word's key: how many places, then which. -/
def keyN (v : Nat) : List Int := ((listN v).length : Int) :: listN v
theorem keyN_inj {a b : Nat} (ha : a < 2 ^ 64) (hb : b < 2 ^ 64) (h : keyN a = keyN b) : a = b := by
  have : listN a = listN b := (List.cons.inj h).2
  rw [← word_list ha, ← word_list hb, this]
def cmpK (a b : Nat) : Int := cmpL (keyN a) (keyN b)
theorem cmpK_or (a b : Nat) : cmpK a b = if cmpI (listN a).length (listN b).length = 0 then cmpL (listN a) (listN b) else cmpI (listN a).length (listN b).length := by
  unfold cmpK keyN cmpI
  simp only [cmpL]
  by_cases h1 : ((listN a).length : Int) < (listN b).length
  · simp [h1]
  · by_cases h2 : ((listN b).length : Int) < (listN a).length
    · simp [h1, h2]
    · simp [h1, h2]
/-- The words of at most 14 places. -/
abbrev Wd := {v : Nat // v < 16384}
instance : Inhabited Wd := ⟨⟨0, by decide⟩⟩
def cfW (x y : Wd) : Int := cmpK x.1 y.1
theorem ltW (x y : Wd) : ltOf cfW x y = decide (cmpK x.1 y.1 < 0) := rfl
theorem swoW : SWO (ltOf cfW) where
  irrefl x := by rw [ltW]; simp [cmpK, cmpL_self]
  trans x y z h1 h2 := by
    rw [ltW] at *
    simp only [decide_eq_true_eq] at *
    exact cmpL_trans h1 h2
  ntrans x y z h1 h2 := by
    rw [ltW] at *
    simp only [decide_eq_false_iff_not, Int.not_lt] at *
    exact cmpL_ge h1 h2
/-- How many bits of a word of 14 places are set, as bits.OnesCount64 counts. -/
def pop1 (x : Nat) : Nat := ((x >>> 1) &&& 6148914691236517205) + (x &&& 6148914691236517205)
def pop2 (x : Nat) : Nat := ((x >>> 2) &&& 3689348814741910323) + (x &&& 3689348814741910323)
def pop3 (x : Nat) : Nat := ((x >>> 4) + x) &&& 1085102592571150095
def pop4 (x : Nat) : Nat := x + (x >>> 8)
def pop5 (x : Nat) : Nat := x + (x >>> 16)
def pop6 (x : Nat) : Nat := x + (x >>> 32)
def popN (x : Nat) : Nat := pop6 (pop5 (pop4 (pop3 (pop2 (pop1 x))))) &&& 127
def popOK (x : Nat) : Bool :=
  let a := pop1 x; let b := pop2 a; let c := pop3 b; let d := pop4 c; let e := pop5 d; let f := pop6 e
  decide (a < 18446744073709551616) && decide (b < 18446744073709551616) && decide ((b >>> 4) + b < 18446744073709551616) && decide (c < 18446744073709551616) && decide (d < 18446744073709551616) && decide (e < 18446744073709551616) && decide (f < 9223372036854775808) && decide (f &&& 127 = (listN x).length)

/-! ### The minimal siphons -/
def minS (l : List Ed) (found : List Nat) (w : Nat) : List Nat := if found.any (fun f => decide (clr f w = 0)) || !closedN l w then found else found ++ [w]
def minF (l : List Ed) (ws : List Nat) : List Nat := ws.foldl (minS l) []
theorem minF_succ (l : List Ed) (ws : List Nat) (k : Nat) (hk : k < ws.length) : minF l (ws.take (k + 1)) = minS l (minF l (ws.take k)) ws[k] := by
  unfold minF
  rw [List.take_add_one, List.getElem?_eq_getElem hk, List.foldl_append]
  rfl
/-- All words of n places but none, in order. -/
structure WordsR (n : Nat) (ws : List Nat) : Prop where
  perm : ws.Perm (List.range' 1 (2 ^ n - 1))
  sorted : ws.Pairwise (fun a b => 0 ≤ cmpK b a)
theorem cmpK_anti {a b : Nat} (ha : a < 2 ^ 64) (hb : b < 2 ^ 64) (h : 0 ≤ cmpK b a) (k : 0 ≤ cmpK a b) : a = b := by
  have e := cmpL_neg (keyN a) (keyN b)
  unfold cmpK at h k
  exact keyN_inj ha hb (cmpL_zero (by omega))
theorem WordsR.uniq {n : Nat} (hn : n ≤ 14) {a b : List Nat} (h : WordsR n a) (k : WordsR n b) : a = b := by
  have hp := h.perm.trans k.perm.symm
  have hlt : ∀ x ∈ a, x < 2 ^ 64 := fun x hx => by
    have := h.perm.mem_iff.1 hx
    rw [List.mem_range'_1] at this
    have : 2 ^ n ≤ 2 ^ 14 := Nat.pow_le_pow_right (by omega) hn
    omega
  exact List.Perm.eq_of_pairwise (fun x y hx hy h1 h2 => cmpK_anti (hlt x hx) (hlt y (hp.mem_iff.2 hy)) h1 h2) h.sorted k.sorted hp
end Go.Proofs.YtbbogflibekgfaaDoor
