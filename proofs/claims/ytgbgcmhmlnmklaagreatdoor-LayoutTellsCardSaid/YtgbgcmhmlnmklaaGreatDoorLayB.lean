
/- Layouts: right, the number of shelves, and the number of layouts. -/
import Derived.Test.YtgbgcmhmlnmklaaGreatDoorLayA
set_option linter.unusedSimpArgs false
set_option linter.unusedVariables false
namespace Go.Proofs.YtgbgcmhmlnmklaaGreatDoor
open Go.RowKit Go.IntWalk

theorem count_take_succ (l : List Bool) (k : Nat) (h : k < l.length) : (l.take (k+1)).count true = (l.take k).count true + if l[k] then 1 else 0 := by
  rw [List.take_succ_eq_append_getElem h, List.count_append]
  cases l[k] <;> simp

set_option maxRecDepth 100000 in
set_option maxHeartbeats 400000 in
theorem shelves_any (A : Option Addr) (c : Nat) (l : List Bool) (t : Int) (w : World) (hl : l.length ≤ maxLen) (hs : SlR w w.heap.size A l) :
    Calls Tryz.prog 15 #[.agg #[.slice A l.length c, .int .i64 t]] w fun e w' => e = .returned (.int .i64 (l.count true)) ∧ Below w.heap.size w w' := by
  unfold maxLen at hl
  go_enter Tryz.func15, Tryz.ntmps15
  go_wp2
  go_loop [3, 9] (fun n i => ∃ k : Nat, k ≤ l.length ∧ i = .int .i64 k ∧ n = .int .i64 ((l.take k).count true)) (fun _ i => l.length - (intOf i).toNat)
  case atStart => exact ⟨0, Nat.zero_le _, rfl, rfl⟩
  case round =>
    obtain ⟨k, hk, rfl, rfl⟩ := hrel
    have hcount : (l.take k).count true ≤ (l.take k).length := List.count_le_length
    have hlen : (l.take k).length ≤ k := List.length_take_le _ _
    by_cases hlt : k < l.length
    · obtain ⟨b, off, rfl, hb, h1⟩ := hs.bool hlt
      have h2 := hid (count_take_succ l k hlt)
      go_wp2
      · go_round
        case rel => exact ⟨k+1, by omega, by go_num, by rw [h2.out]; simp [*]⟩
        case measure => simp [intOf]; omega
      · go_round
        case rel => exact ⟨k+1, by omega, by go_num, by rw [h2.out]; simp [*]⟩
        case measure => simp [intOf]; omega
    · go_wp2
      go_ret
      have : k = l.length := by omega
      subst this
      exact ⟨by simp, (Below.refl _ _).alloc (Nat.le_refl _) _⟩

def rightL (l : List Bool) (t : Int) : Bool := decide (1 ≤ l.length ∧ l.length ≤ 24 ∧ 0 ≤ t ∧ t < l.length) && l.getD t.toNat false
theorem rightL_iff (l : List Bool) (t : Int) : rightL l t = true ↔ 1 ≤ l.length ∧ l.length ≤ 24 ∧ 0 ≤ t ∧ t < l.length ∧ l.getD t.toNat false = true := by
  simp [rightL, and_assoc]

set_option maxRecDepth 100000 in
set_option maxHeartbeats 400000 in
theorem right_any (A : Option Addr) (c : Nat) (l : List Bool) (t : Int) (w : World) (hl : l.length ≤ maxLen) (hs : SlR w w.heap.size A l) :
    Calls Tryz.prog 12 #[.agg #[.slice A l.length c, .int .i64 t]] w fun e w' => e = .returned (.bool (rightL l t)) ∧ Below w.heap.size w w' := by
  unfold maxLen at hl
  by_cases h1 : 1 ≤ l.length
  · by_cases h2 : l.length ≤ 24
    · by_cases h3 : 0 ≤ t
      · obtain ⟨m, rfl⟩ := Int.eq_ofNat_of_zero_le h3
        by_cases h4 : (m : Int) < l.length
        · have h5 : m < l.length := by omega
          obtain ⟨b, off, rfl, hb, hc⟩ := hs.bool h5
          have hr := hid (show rightL l m = l[m] by simp [rightL, h1, h2, h5])
          go_enter Tryz.func12, Tryz.ntmps12
          go_wp2
          all_goals
            go_ret
            exact ⟨ret_bool hr.out.symm, (Below.refl _ _).alloc (Nat.le_refl _) _⟩
        · have hr := hid (show rightL l m = false by simp [rightL]; omega)
          go_enter Tryz.func12, Tryz.ntmps12
          go_wp2
          go_ret
          exact ⟨ret_bool hr.out.symm, (Below.refl _ _).alloc (Nat.le_refl _) _⟩
      · have hr := hid (show rightL l t = false by simp [rightL, h3])
        go_enter Tryz.func12, Tryz.ntmps12
        go_wp2
        go_ret
        exact ⟨ret_bool hr.out.symm, (Below.refl _ _).alloc (Nat.le_refl _) _⟩
    · have hr := hid (show rightL l t = false by simp [rightL, h2])
      go_enter Tryz.func12, Tryz.ntmps12
      go_wp2
      go_ret
      exact ⟨ret_bool hr.out.symm, (Below.refl _ _).alloc (Nat.le_refl _) _⟩
  · have hr := hid (show rightL l t = false by simp [rightL, h1])
    go_enter Tryz.func12, Tryz.ntmps12
    go_wp2
    go_ret
    exact ⟨ret_bool hr.out.symm, (Below.refl _ _).alloc (Nat.le_refl _) _⟩

def countL (n k : Int) : Int := if 1 ≤ n ∧ n ≤ 24 ∧ 1 ≤ k ∧ k ≤ n then n * binom (n.toNat - 1) (k.toNat - 1) else 0
set_option maxRecDepth 100000 in
set_option maxHeartbeats 400000 in
theorem count_any (n k : Int) (w : World) :
    Calls Tryz.prog 10 #[.int .i64 n, .int .i64 k] w fun e w' => e = .returned (.int .i64 (countL n k)) ∧ Below w.heap.size w w' := by
  by_cases h : 1 ≤ n ∧ n ≤ 24 ∧ 1 ≤ k ∧ k ≤ n
  · have hr := hid (show countL n k = n * binom (n.toNat - 1) (k.toNat - 1) by simp [countL, h])
    obtain ⟨h1, h2, h3, h4⟩ := h
    go_enter Tryz.func10, Tryz.ntmps10
    go_wp2_with fail
    refine (choose_any _).mono ?_
    rintro e w1 ⟨rfl, hT, hB, hz⟩
    have hc := hT.cell (n.toNat - 1) (k.toNat - 1) (by omega) (by omega)
    have hbb := binom_le (n.toNat - 1) (k.toNat - 1) (by omega)
    have hm : n * (binom (n.toNat - 1) (k.toNat - 1) : Int) ≤ 24 * 16777216 := Int.mul_le_mul (by omega) (by omega) (by omega) (by omega)
    have hm0 : 0 ≤ n * (binom (n.toNat - 1) (k.toNat - 1) : Int) := Int.mul_nonneg (by omega) (by omega)
    go_wp2
    go_ret
    exact ⟨ret_int hr.out.symm, hB⟩
  · have hr := hid (show countL n k = 0 by rw [countL, if_neg h])
    go_enter Tryz.func10, Tryz.ntmps10
    by_cases h1 : n < 1
    · go_wp2
      go_ret
      exact ⟨ret_int hr.out.symm, Below.refl _ _⟩
    by_cases h2 : 24 < n
    · go_wp2
      go_ret
      exact ⟨ret_int hr.out.symm, Below.refl _ _⟩
    by_cases h3 : k < 1
    · go_wp2
      go_ret
      exact ⟨ret_int hr.out.symm, Below.refl _ _⟩
    have h4 : n < k := by omega
    go_wp2
    go_ret
    exact ⟨ret_int hr.out.symm, Below.refl _ _⟩

end Go.Proofs.YtgbgcmhmlnmklaaGreatDoor
