
/- Layouts: Do says no (the program's and the reference's). -/
import Derived.Test.YtgbgcmhmlnmklaaGreatDoorLayP
import Derived.Test.YtgbgcmhmlnmklaaGreatDoorLayB
import Derived.Test.YtgbgcmhmlnmklaaGreatDoorRegS
import Derived.Test.YtgbgcmhmlnmklaaGreatDoorLayD
import Derived.Test.YtgbgcmhmlnmklaaGreatDoorLayE
import Derived.Test.YtgbgcmhmlnmklaaGreatDoorFloH
import Derived.Test.YtgbgcmhmlnmklaaGreatDoorRowG
set_option linter.unusedSimpArgs false
set_option linter.unusedVariables false
namespace Go.Proofs.YtgbgcmhmlnmklaaGreatDoor
theorem binom_zero (n : Nat) : binom n 0 = 1 := by cases n <;> rfl
theorem binom_succ (n k : Nat) : binom (n + 1) (k + 1) = binom n k + binom n (k + 1) := rfl
theorem binom_absorb : ∀ n k : Nat, (k + 1) * binom (n + 1) (k + 1) = (n + 1) * binom n k
  | 0, 0 => rfl
  | 0, k + 1 => by simp [binom]
  | n + 1, 0 => by
    have h := binom_absorb n 0
    rw [binom_succ, binom_zero]
    rw [binom_zero] at h
    omega
  | n + 1, j + 1 => by
    have h1 := binom_absorb n j
    have h2 := binom_absorb n (j + 1)
    rw [binom_succ (n + 1) (j + 1), Nat.mul_add, h2]
    have h3 : binom (n + 1) (j + 1) = binom n j + binom n (j + 1) := rfl
    calc (j + 1 + 1) * binom (n + 1) (j + 1) + (n + 1) * binom n (j + 1)
        = binom (n + 1) (j + 1) + ((j + 1) * binom (n + 1) (j + 1)) + (n + 1) * binom n (j + 1) := by rw [Nat.succ_mul (j + 1)]; omega
      _ = binom (n + 1) (j + 1) + (n + 1) * binom n j + (n + 1) * binom n (j + 1) := by rw [h1]
      _ = binom (n + 1) (j + 1) + (n + 1) * (binom n j + binom n (j + 1)) := by rw [Nat.mul_add]; omega
      _ = binom (n + 1) (j + 1) + (n + 1) * binom (n + 1) (j + 1) := by rw [h3]
      _ = (n + 1 + 1) * binom (n + 1) (j + 1) := by rw [Nat.succ_mul (n + 1)]; omega
/-- One step of the product formula. -/
theorem binom_step {n k : Nat} (hk : k ≤ n) : binom n (k + 1) * (k + 1) = binom n k * (n - k) := by
  have h := binom_absorb n k
  rw [binom_succ, Nat.mul_add] at h
  have e : (n - k) + (k + 1) = n + 1 := by omega
  have h2 : (n + 1) * binom n k = (n - k) * binom n k + (k + 1) * binom n k := by rw [← Nat.add_mul, e]
  rw [Nat.mul_comm (binom n (k + 1)), Nat.mul_comm (binom n k)]
  omega
theorem binom_div {n k : Nat} (hk : k ≤ n) : binom n k * (n - k) / (k + 1) = binom n (k + 1) := by
  rw [← binom_step hk]
  exact Nat.mul_div_cancel _ (by omega)
/-- What Choose returns: 0 outside. -/
def chooseI (n k : Int) : Int := if k < 0 ∨ n < k then 0 else (binom n.toNat k.toNat : Int)
end Go.Proofs.YtgbgcmhmlnmklaaGreatDoor
namespace Go.Proofs.YtgbgcmhmlnmklaaGreatDoor
open Go.RowKit Go.IntWalk
theorem chooseI_nat {n k : Nat} (h : k ≤ n) : chooseI n k = (binom n k : Int) := by
  unfold chooseI
  rw [if_neg (by omega)]
  simp
set_option maxRecDepth 100000 in
set_option maxHeartbeats 1000000 in
theorem choose_r (n : Nat) (hn : n ≤ 24) (k : Int) (w : World) :
    Calls Tryz.prog 30 #[.int .i64 n, .int .i64 k] w fun e w' => e = .returned (.int .i64 (chooseI n k)) ∧ w = w' := by
  by_cases h0 : k < 0
  · have hr := hid (show chooseI n k = 0 by unfold chooseI; rw [if_pos (.inl h0)])
    go_enter Tryz.func30, Tryz.ntmps30
    go_wp2_with fail
    go_ret
    exact ⟨ret_int hr.out.symm, rfl⟩
  by_cases h1 : (n : Int) < k
  · have hr := hid (show chooseI n k = 0 by unfold chooseI; rw [if_pos (.inr h1)])
    go_enter Tryz.func30, Tryz.ntmps30
    go_wp2_with fail
    go_ret
    exact ⟨ret_int hr.out.symm, rfl⟩
  obtain ⟨m, rfl⟩ : ∃ m : Nat, k = m := ⟨k.toNat, by omega⟩
  have hm : m ≤ n := by omega
  have hr := hid (chooseI_nat hm)
  clear h0
  go_enter Tryz.func30, Tryz.ntmps30
  go_wp2_with fail
  go_loopw [5, 6] (fun c i wr => ∃ j : Nat, j ≤ m ∧ i = .int .i64 (j : Nat) ∧ c = .int .i64 (binom n j : Nat) ∧ w = wr) (fun _ i _ => m - (intOf i).toNat)
  case atStart => exact ⟨0, by omega, rfl, by rw [binom_zero]; rfl, rfl⟩
  case round =>
    obtain ⟨j, hj, rfl, rfl, rfl⟩ := hrel
    by_cases hlt : j < m
    · have hlt' : (j : Int) < m := by omega
      have hd := hid (binom_div (n := n) (k := j) (by omega))
      have hb := binom_le n j hn
      have hk1 : wrap64 ((j : Int) + 1) = ((j + 1 : Nat) : Int) := by rw [wrap64_in _ (by omega)]; simp
      have hmul : binom n j * (n - j) ≤ 16777216 * 24 := Nat.mul_le_mul hb (by omega)
      have hq : wrap64 ((wrap64 ((binom n j : Int) * ((n : Int) - j))).tdiv ((j : Int) + 1)) = ((binom n (j + 1) : Nat) : Int) := by
        have e1 : ((n : Int) - j) = ((n - j : Nat) : Int) := by omega
        have i1 : wrap64 ((binom n j : Int) * ((n : Int) - j)) = ((binom n j * (n - j) : Nat) : Int) := by
          rw [e1, ← Int.natCast_mul]
          exact wrap64_in _ (by omega)
        rw [i1, show ((j : Int) + 1) = ((j + 1 : Nat) : Int) by simp, Int.tdiv_eq_ediv_of_nonneg (Int.natCast_nonneg _), ← Int.natCast_ediv, hd.out]
        exact wrap64_in _ (by have := binom_le n (j + 1) hn; omega)
      clear hb hmul
      go_wp2_with fail
      go_roundw
      case rel => exact ⟨j + 1, by omega, by first | exact congrArg (Value.int .i64) hk1 | (simp [hk1]; done), by first | exact congrArg (Value.int .i64) hq | rfl, by first | trivial | rfl⟩
      case measure => simp [intOf]; omega
    · obtain rfl : j = m := by omega
      go_wp2_with fail
      go_ret
      exact ⟨ret_int hr.out.symm, rfl⟩
set_option maxRecDepth 100000 in
set_option maxHeartbeats 1000000 in
theorem count_r (n k : Int) (w : World) : Calls Tryz.prog 11 #[.int .i64 n, .int .i64 k] w fun e w' => e = .returned (.int .i64 (countL n k)) ∧ w = w' := by
  by_cases h : 1 ≤ n ∧ n ≤ 24 ∧ 1 ≤ k ∧ k ≤ n
  · obtain ⟨a, rfl⟩ : ∃ a : Nat, n = (a + 1 : Nat) := ⟨n.toNat - 1, by omega⟩
    obtain ⟨b, rfl⟩ : ∃ b : Nat, k = (b + 1 : Nat) := ⟨k.toNat - 1, by omega⟩
    obtain ⟨h1, h2, h3, h4⟩ := h
    have hr := hid (show countL ((a + 1 : Nat) : Int) ((b + 1 : Nat) : Int) = (((a + 1) * binom a b : Nat) : Int) by
      unfold countL; rw [if_pos (by omega)]; simp)
    have hc := hid (choose_r a (by omega) (b : Int) w)
    rw [chooseI_nat (by omega)] at hc
    have hb := binom_le a b (by omega)
    have hm : (a + 1) * binom a b ≤ 24 * 16777216 := Nat.mul_le_mul (by omega) hb
    have e3 : wrap64 (((a + 1 : Nat) : Int) * (binom a b : Int)) = (((a + 1) * binom a b : Nat) : Int) := by rw [← Int.natCast_mul]; exact wrap64_in _ (by omega)
    have e3' : wrap64 (((a : Int) + 1) * (binom a b : Int)) = (((a + 1) * binom a b : Nat) : Int) := by rw [show ((a : Int) + 1) = ((a + 1 : Nat) : Int) by simp, e3]
    have i1 : ¬ ((a : Int) + 1) < 1 := by omega
    have i2 : ¬ (24 : Int) < (a : Int) + 1 := by omega
    have i3 : ¬ ((b : Int) + 1) < 1 := by omega
    have i4 : ¬ ((a : Int) + 1) < (b : Int) + 1 := by omega
    clear hb hm
    go_enter Tryz.func11, Tryz.ntmps11
    go_wp2_with (go_at_call 30; refine hc.out.mono ?_; rintro e w1 ⟨rfl, rfl⟩)
    go_ret
    exact ⟨ret_int (by rw [hr.out]; first | exact e3' | exact e3 | rfl), rfl⟩
  · have hr := hid (show countL n k = 0 by unfold countL; rw [if_neg h])
    by_cases h1 : n < 1
    · clear h
      go_enter Tryz.func11, Tryz.ntmps11
      go_wp2_with fail
      go_ret
      exact ⟨ret_int hr.out.symm, rfl⟩
    by_cases h2 : 24 < n
    · clear h
      go_enter Tryz.func11, Tryz.ntmps11
      go_wp2_with fail
      go_ret
      exact ⟨ret_int hr.out.symm, rfl⟩
    by_cases h3 : k < 1
    · clear h
      go_enter Tryz.func11, Tryz.ntmps11
      go_wp2_with fail
      go_ret
      exact ⟨ret_int hr.out.symm, rfl⟩
    have h4 : n < k := by omega
    clear h
    go_enter Tryz.func11, Tryz.ntmps11
    go_wp2_with fail
    go_ret
    exact ⟨ret_int hr.out.symm, rfl⟩
set_option maxRecDepth 100000 in
set_option maxHeartbeats 1000000 in
theorem right_r (A : Option Addr) (c : Nat) (l : List Bool) (t : Int) (w : World) (hl : l.length ≤ maxLen) (hs : SlR w w.heap.size A l) :
    Calls Tryz.prog 13 #[.agg #[.slice A l.length c, .int .i64 t]] w fun e w' => e = .returned (.bool (rightL l t)) ∧ Below w.heap.size w w' := by
  unfold maxLen at hl
  have HB := hid (show Below w.heap.size w (w.alloc (Obj.cells #[.slice A l.length c, .int .i64 t] 27)) by (repeat (first | exact Below.refl _ _ | assumption | refine below_drewN ?_ _ | refine Below.drew ?_ | refine Below.alloc ?_ (by (try simp); (try omega)) _ | refine Below.setCell ?_ (by (try simp); (try omega)) _)))
  by_cases h : 1 ≤ l.length ∧ l.length ≤ 24 ∧ 0 ≤ t ∧ t < l.length
  · obtain ⟨h1, h2, h3, h4⟩ := h
    obtain ⟨k, rfl⟩ : ∃ k : Nat, t = k := ⟨t.toNat, by omega⟩
    have hk : k < l.length := by omega
    obtain ⟨b, off, rfl, hb, hc⟩ := hs.bool hk
    have hr := hid (show rightL l (k : Int) = l[k] by
      unfold rightL; rw [decide_eq_true (by omega)]; simp [List.getD, List.getElem?_eq_getElem hk])
    have i1 : ¬ (l.length : Int) < 1 := by omega
    have i2 : ¬ (24 : Int) < l.length := by omega
    have i3 : ¬ (l.length : Int) ≤ k := by omega
    have i4 : l ≠ [] := by rintro rfl; simp at hk
    generalize l[k] = x at *
    clear hs
    go_enter Tryz.func13, Tryz.ntmps13
    go_wp2_with fail
    go_ret
    exact ⟨ret_bool hr.out.symm, HB.out⟩
  · have hr := hid (show rightL l t = false by unfold rightL; rw [decide_eq_false (by omega)]; rfl)
    clear hs
    by_cases h1 : (l.length : Int) < 1
    · have i4 : l = [] := List.eq_nil_of_length_eq_zero (by omega)
      subst i4
      clear h
      go_enter Tryz.func13, Tryz.ntmps13
      go_wp2_with fail
      go_ret
      exact ⟨ret_bool hr.out.symm, HB.out⟩
    have i4 : l ≠ [] := by rintro rfl; simp at h1
    by_cases h2 : (24 : Int) < l.length
    · clear h
      go_enter Tryz.func13, Tryz.ntmps13
      go_wp2_with fail
      go_ret
      exact ⟨ret_bool hr.out.symm, HB.out⟩
    by_cases h3 : t < 0
    · clear h
      go_enter Tryz.func13, Tryz.ntmps13
      go_wp2_with fail
      go_ret
      exact ⟨ret_bool hr.out.symm, HB.out⟩
    have h4 : (l.length : Int) ≤ t := by omega
    clear h
    go_enter Tryz.func13, Tryz.ntmps13
    go_wp2_with fail
    go_ret
    exact ⟨ret_bool hr.out.symm, HB.out⟩
set_option maxRecDepth 100000 in
set_option maxHeartbeats 1000000 in
theorem shelves_r (A : Option Addr) (c : Nat) (l : List Bool) (t : Int) (w : World) (hl : l.length ≤ maxLen) (hs : SlR w w.heap.size A l) :
    Calls Tryz.prog 16 #[.agg #[.slice A l.length c, .int .i64 t]] w fun e w' => e = .returned (.int .i64 (l.count true)) ∧ Below w.heap.size w w' := by
  unfold maxLen at hl
  have HS := hid hs
  have HB := hid (show Below w.heap.size w (w.alloc (Obj.cells #[.slice A l.length c, .int .i64 t] 27)) by (repeat (first | exact Below.refl _ _ | assumption | refine below_drewN ?_ _ | refine Below.drew ?_ | refine Below.alloc ?_ (by (try simp); (try omega)) _ | refine Below.setCell ?_ (by (try simp); (try omega)) _)))
  have X := Blk.new w 27 #[.slice A l.length c, .int .i64 t]
  clear hs
  go_enter Tryz.func16, Tryz.ntmps16
  go_upto_region 1 with fail
  generalize (w.alloc (Obj.cells #[.slice A l.length c, .int .i64 t] 27)) = w1 at *
  obtain ⟨q, hq⟩ : ∃ q, q = w.heap.size := ⟨_, rfl⟩
  rw [← hq] at X ⊢
  have x0 := X.cell 0
  simp at x0
  have HQ := hid hq
  clear X hq
  go_wp2_with fail
  go_loopw [3, 4] (fun n i wr => ∃ k : Nat, k ≤ l.length ∧ i = .int .i64 (k : Nat) ∧ n = .int .i64 ((l.take k).count true : Nat) ∧ wr = w1) (fun _ i _ => l.length - (intOf i).toNat)
  case atStart => exact ⟨0, Nat.zero_le _, rfl, rfl, rfl⟩
  case round =>
    obtain ⟨k, hk, rfl, rfl, rfl⟩ := hrel
    have hcount : (l.take k).count true ≤ (l.take k).length := List.count_le_length
    have hlen : (l.take k).length ≤ k := List.length_take_le _ _
    by_cases hlt : k < l.length
    · obtain ⟨b, off, rfl, hb, h1⟩ := HS.out.bool hlt
      replace h1 := (bcell HB.out b _ hb).trans h1
      have h2 := hid (count_take_succ l k hlt)
      have hlt' : (k : Int) < l.length := by omega
      have hk1 : wrap64 ((k : Int) + 1) = ((k + 1 : Nat) : Int) := by rw [wrap64_in _ (by omega)]; simp
      have hc1 : wrap64 (((l.take k).count true : Int) + 1) = ((((l.take k).count true) + 1 : Nat) : Int) := by rw [wrap64_in _ (by omega)]; simp
      generalize hx : l[k] = x at *
      generalize (l.take k).count true = m at *
      clear hcount hlen hb hx
      cases x with
      | true =>
        go_wp2_with fail
        go_roundw
        case rel => exact ⟨k + 1, by omega, by first | exact congrArg (Value.int .i64) hk1 | (simp [hk1]; done), by rw [h2.out]; first | exact congrArg (Value.int .i64) hc1 | simp, by first | trivial | rfl⟩
        case measure => simp [intOf]; omega
      | false =>
        go_wp2_with fail
        go_roundw
        case rel => exact ⟨k + 1, by omega, by first | exact congrArg (Value.int .i64) hk1 | (simp [hk1]; done), by rw [h2.out]; simp, by first | trivial | rfl⟩
        case measure => simp [intOf]; omega
    · have : k = l.length := by omega
      subst this
      have e := hid (show (l.take l.length).count true = l.count true by rw [List.take_length])
      clear hcount hlen
      go_wp2_with fail
      go_ret
      exact ⟨ret_int (by rw [e.out]), HB.out⟩
end Go.Proofs.YtgbgcmhmlnmklaaGreatDoor
namespace Go.Proofs.YtgbgcmhmlnmklaaGreatDoor
open Go.RowKit Go.IntWalk
theorem choose_i (n k : Int) (h0 : 0 ≤ n) (h1 : n ≤ 24) (w : World) :
    Calls Tryz.prog 30 #[.int .i64 n, .int .i64 k] w fun e w' => e = .returned (.int .i64 (chooseI n k)) ∧ Below w.heap.size w w' := by
  obtain ⟨m, rfl⟩ : ∃ m : Nat, n = m := ⟨n.toNat, by omega⟩
  exact (choose_r m (by omega) k w).mono fun e w' ⟨a, b⟩ => ⟨a, by subst b; exact Below.refl _ _⟩
theorem chooseI_le (n k : Int) (h1 : n ≤ 24) : 0 ≤ chooseI n k ∧ chooseI n k ≤ 16777216 := by
  unfold chooseI
  split
  · omega
  · have := binom_le n.toNat k.toNat (by omega)
    omega
/-- How many cells from a on, below j, are another's. -/
def othersN (t a j : Nat) : Nat := if a ≤ t ∧ t < j then j - a - 1 else j - a
theorem othersN_succ {t a j : Nat} (h : a ≤ j) : othersN t a (j + 1) = othersN t a j + if j = t then 0 else 1 := by
  unfold othersN
  by_cases e : j = t
  · subst e
    rw [if_pos rfl, if_pos ⟨h, by omega⟩, if_neg (by omega)]; omega
  · rw [if_neg e]; split <;> split <;> omega
theorem othersN_end {l : List Bool} {t i : Nat} (ht : t < l.length) (hi : i < l.length) : othersN t (i + 1) l.length = (restL l t (i + 1)).length := by
  rw [restL_len l t (i + 1) ht (by omega)]
  unfold othersN
  split <;> split <;> omega
theorem chooseI_need (m c : Nat) : chooseI (m : Int) ((c : Int) - 1) = ((if 0 < c then binom m (c - 1) else 0 : Nat) : Int) := by
  by_cases h : 0 < c
  · rw [if_pos h, show ((c : Int) - 1) = ((c - 1 : Nat) : Int) by omega]
    by_cases hm : c - 1 ≤ m
    · exact chooseI_nat hm
    · rw [binom_big m (c - 1) (by omega)]
      unfold chooseI
      rw [if_pos (.inr (by omega))]; rfl
  · rw [if_neg h]
    unfold chooseI
    rw [if_pos (.inl (by omega))]; rfl
theorem rankN_le {l : List Bool} {t : Nat} (h : RightN l t) : rankN l t ≤ 25 * 16777216 := by
  obtain ⟨c1, c2, c3, c4⟩ := h.count
  obtain ⟨h1, h2, ht, -⟩ := h
  have a := rankO_lt (restL l t 0)
  have b := binom_le (restL l t 0).length ((restL l t 0).count true) (by omega)
  have c := binom_le (l.length - 1) (l.count true - 1) (by omega)
  have d : t * binom (l.length - 1) (l.count true - 1) ≤ 24 * 16777216 := Nat.mul_le_mul (by omega) c
  unfold rankN
  omega
set_option maxRecDepth 100000 in
set_option maxHeartbeats 4000000 in
theorem rank_r (A : Option Addr) (c : Nat) (l : List Bool) (t : Nat) (w : World) (hs : SlR w w.heap.size A l) (hr : RightN l t) :
    Calls Tryz.prog 20 #[.agg #[.slice A l.length c, .int .i64 t]] w fun e w' => e = .returned (.int .i64 (rankN l t)) ∧ Below w.heap.size w w' := by
  have HRL := hid (rankN_le hr)
  obtain ⟨c1, c2, c3, c4⟩ := hr.count
  obtain ⟨h1, h2, ht, hb⟩ := hr
  have HT := hid ht
  have C3 := hid c3
  have C4 := hid c4
  have HS := hid hs
  have HR0 := hid (show t * binom (l.length - 1) (l.count true - 1) + rankO (restL l t 0) = rankN l t from rfl)
  have HCV := hid (show chooseI ((l.length : Int) - 1) ((l.count true : Int) - 1) = (binom (l.length - 1) (l.count true - 1) : Int) by
    rw [show ((l.length : Int) - 1) = ((l.length - 1 : Nat) : Int) by omega, show ((l.count true : Int) - 1) = ((l.count true - 1 : Nat) : Int) by omega]
    exact chooseI_nat (by omega))
  have HBB := hid (binom_le (l.length - 1) (l.count true - 1) (by omega))
  have HB := hid (show Below w.heap.size w (w.alloc (Obj.cells #[.slice A l.length c, .int .i64 (t : Int)] 27)) by (repeat (first | exact Below.refl _ _ | assumption | refine below_drewN ?_ _ | refine Below.drew ?_ | refine Below.alloc ?_ (by (try simp); (try omega)) _ | refine Below.setCell ?_ (by (try simp); (try omega)) _)))
  have X := hid (Blk.new w 27 #[.slice A l.length c, .int .i64 (t : Int)])
  clear hs hb c3 c4
  have ht2 : (t : Int) < l.length := by omega
  have ht3 : (t : Int) ≤ 24 := by omega
  clear ht
  go_enter Tryz.func20, Tryz.ntmps20
  go_upto_region 1 with fail
  generalize (w.alloc (Obj.cells #[.slice A l.length c, .int .i64 (t : Int)] 27)) = w1 at *
  obtain ⟨q, hq⟩ : ∃ q, q = w.heap.size := ⟨_, rfl⟩
  rw [← hq] at X ⊢
  have HQ := hid hq
  clear hq
  have HX := hid (fun (W : World) (hW : Below w1.heap.size w1 W) => show W.cell? ⟨q, 0, none⟩ = some (.slice A l.length c) ∧ W.cell? ⟨q, 1, none⟩ = some (.int .i64 (t : Int)) from ⟨(X.out.below hW X.out.lt).cell 0, (X.out.below hW X.out.lt).cell 1⟩)
  have SHV := hid (shelves_r A c l (t : Int) w1 (by unfold maxLen; omega) ((HS.out.below HB.out).more HB.out.size))
  obtain ⟨x0, x1⟩ := HX.out w1 (Below.refl _ _)
  clear X
  have i1 : (1 : Int) ≤ l.length := by omega
  have i2 : (l.length : Int) ≤ 24 := by omega
  have i3 : (1 : Int) ≤ l.count true := by omega
  have i4 : (l.count true : Int) ≤ 24 := by omega
  go_wp2_with fail
  refine SHV.out.mono ?_
  rintro e w2 ⟨rfl, hB⟩
  have B2 := hid hB
  clear hB SHV x0 x1
  have e2 : IntKind.i64.wrap ((l.length : Int) - 1) = (l.length : Int) - 1 := IntWalk.i64_in _ (by omega)
  go_upto_region 3 with fail
  have BD := hid (B2.out.drew)
  have HSF := hid (fun (wq : World) (hq : Below w1.heap.size w1 wq) => HX.out wq hq)
  refine wpIn_wide.1 (wpIn_region_S (n := 0) (fun wq => Below w1.heap.size w1 wq) [] (by kernel_rfl) BD.out (fun hHeld => ?_))
  generalize w2.drew = wd at *
  refine wpAnyS_pure 0 (v := ?_) (fun _ => trivial) (by simp only [List.getElem?_toArray, List.getElem?_cons_succ, List.getElem?_cons_zero]; rfl) (by kernel_rfl) (fun _ _ _ _ _ h => h) ⟨rfl, (by intro c h; cases h), ?_⟩ hHeld ?_
  rotate_left
  focus (intro wS hSw; (try replace hSw := HSF.out wS hSw); (try dsimp only at hSw); go_simp; (try with_reducible rfl))
  (try simp only [Act.put, List.setIfInBounds_toArray, List.set_cons_zero, List.set_cons_succ])
  refine wpAnyS_take 1 (v := ?_) (fun _ => trivial) (by simp only [List.getElem?_toArray, List.getElem?_cons_succ, List.getElem?_cons_zero]; rfl) (by kernel_rfl) (fun _ _ _ _ _ h => h) ⟨rfl, (by intro c h; cases h), ?_⟩ hHeld ?_
  rotate_left
  focus (intro wS hSw; (try replace hSw := HSF.out wS hSw); (try dsimp only at hSw); go_simp; (try with_reducible rfl))
  (try simp only [Act.put, List.setIfInBounds_toArray, List.set_cons_zero, List.set_cons_succ])
  refine wpAnyS_pure 2 (v := ?_) (fun _ => trivial) (by simp only [List.getElem?_toArray, List.getElem?_cons_succ, List.getElem?_cons_zero]; rfl) (by kernel_rfl) (fun _ _ _ _ _ h => h) ⟨rfl, (by intro c h; cases h), ?_⟩ hHeld ?_
  rotate_left
  focus (intro wS hSw; (try replace hSw := HSF.out wS hSw); (try dsimp only at hSw); go_simp; (try with_reducible rfl))
  (try simp only [Act.put, List.setIfInBounds_toArray, List.set_cons_zero, List.set_cons_succ])
  refine wpAnyS_pure 3 (v := ?_) (fun _ => trivial) (by simp only [List.getElem?_toArray, List.getElem?_cons_succ, List.getElem?_cons_zero]; rfl) (by kernel_rfl) (fun _ _ _ _ _ h => h) ⟨rfl, (by intro c h; cases h), ?_⟩ hHeld ?_
  rotate_left
  focus (intro wS hSw; (try replace hSw := HSF.out wS hSw); (try dsimp only at hSw); go_simp; (try with_reducible rfl))
  (try simp only [Act.put, List.setIfInBounds_toArray, List.set_cons_zero, List.set_cons_succ])
  refine wpAnyS_pure 4 (v := ?_) (fun _ => trivial) (by simp only [List.getElem?_toArray, List.getElem?_cons_succ, List.getElem?_cons_zero]; rfl) (by kernel_rfl) (fun _ _ _ _ _ h => h) ⟨rfl, (by intro c h; cases h), ?_⟩ hHeld ?_
  rotate_left
  focus (intro wS hSw; (try replace hSw := HSF.out wS hSw); (try dsimp only at hSw); go_simp; (try with_reducible rfl))
  (try simp only [Act.put, List.setIfInBounds_toArray, List.set_cons_zero, List.set_cons_succ])
  refine wpAnyS_ready [5] (by kernel_rfl) (by simp) (AllReadyS.cons (by simp only [List.getElem?_toArray, List.getElem?_cons_succ, List.getElem?_cons_zero]; rfl) rfl (fun K hK => ?_) AllReadyS.nil)
  refine callS (by intro c h; cases h) (by go_simp; try with_reducible rfl) (choose_i ((l.length : Int) - 1) ((l.count true : Int) - 1) (by omega) (by omega) wd) ?_
  intro w3 hBq
  have B3 := hid (BD.out.trans (hBq.mono BD.out.size))
  refine hK.out _ _ B3.out ?_
  (try simp only [Act.put, List.setIfInBounds_toArray, List.set_cons_zero, List.set_cons_succ])
  clear hK K hBq hHeld BD B2 e2
  have hHeld := B3.out
  rw [HCV.out]
  have hbb := HBB.out
  obtain ⟨bv, hbv⟩ : ∃ bv, bv = binom (l.length - 1) (l.count true - 1) := ⟨_, rfl⟩
  rw [← hbv] at hbb HR0 ⊢
  clear hbv HCV HBB
  have hm : t * bv ≤ 24 * 16777216 := Nat.mul_le_mul (by omega) hbb
  have e1 : IntKind.i64.wrap ((t : Int) * (bv : Int)) = ((t * bv : Nat) : Int) := by rw [← Int.natCast_mul]; exact IntWalk.i64_in _ (by omega)
  refine wpAnyS_pure 6 (v := ?_) (fun _ => trivial) (by simp only [List.getElem?_toArray, List.getElem?_cons_succ, List.getElem?_cons_zero]; rfl) (by kernel_rfl) (fun _ _ _ _ _ h => h) ⟨rfl, (by intro c h; cases h), ?_⟩ hHeld ?_
  rotate_left
  focus (intro wS hSw; (try replace hSw := HSF.out wS hSw); (try dsimp only at hSw); go_simp; (try with_reducible rfl))
  (try simp only [Act.put, List.setIfInBounds_toArray, List.set_cons_zero, List.set_cons_succ])
  refine wpAnyS_pure 7 (v := ?_) (fun _ => trivial) (by simp only [List.getElem?_toArray, List.getElem?_cons_succ, List.getElem?_cons_zero]; rfl) (by kernel_rfl) (fun _ _ _ _ _ h => h) ⟨rfl, (by intro c h; cases h), ?_⟩ hHeld ?_
  rotate_left
  focus (intro wS hSw; (try replace hSw := HSF.out wS hSw); (try dsimp only at hSw); go_simp; (try with_reducible rfl))
  (try simp only [Act.put, List.setIfInBounds_toArray, List.set_cons_zero, List.set_cons_succ])
  refine wpAnyS_done (by kernel_rfl) ?_
  clear hHeld HSF e1
  go_wp2_with fail
  go_loopw [4, 5, 6] (fun nd rk iv wr => ∃ i r : Nat, i ≤ l.length ∧ iv = .int .i64 (i : Nat) ∧ rk = .int .i64 (r : Nat) ∧ nd = .int .i64 ((restL l t i).count true : Nat) ∧ Hid (r + rankO (restL l t i) = rankN l t) ∧ Below w1.heap.size w1 wr) (fun _ _ iv _ => l.length - (intOf iv).toNat)
  case atStart => exact ⟨0, t * bv, by omega, rfl, by simp, by rw [C4.out]; congr 1; omega, HR0.out, B3.out⟩
  case round =>
    clear B3 HR0 hm hbb i1 i3 i4
    obtain ⟨i, r, hi, rfl, rfl, rfl, hr, hB⟩ := hrel
    have BB := hid hB
    clear hB
    have hrb : r ≤ 25 * 16777216 := by have := hr.out; have := HRL.out; omega
    obtain ⟨x0, x1⟩ := HX.out wr BB.out
    have hlen := restL_len l t i HT.out hi
    have hle : (restL l t i).length ≤ l.length := by rw [hlen]; split <;> omega
    have hcl : (restL l t i).count true ≤ (restL l t i).length := List.count_le_length
    have hcl24 : ((restL l t i).count true : Int) ≤ 24 := by omega
    clear hlen hle hcl
    by_cases hlt : i < l.length
    · have hlt' : (i : Int) < l.length := by omega
      have hk1 : wrap64 ((i : Int) + 1) = ((i + 1 : Nat) : Int) := by rw [wrap64_in _ (by omega)]; simp
      obtain ⟨b, off, rfl, hbB, hcell⟩ := HS.out.bool hlt
      replace hcell := (bcell (HB.out.trans (BB.out.mono HB.out.size)) b _ hbB).trans hcell
      have hbz := hid hbB
      clear hbB
      by_cases hit : i = t
      · have e1 : ((i : Int) == (t : Int)) = true := by simp [hit]
        have hh := hid (show restL l t i = restL l t (i + 1) by rw [hit]; exact restL_at l t HT.out)
        clear hit
        go_wp2_with fail
        go_roundw
        case rel => exact ⟨i + 1, r, by omega, by first | exact congrArg (Value.int .i64) hk1 | (simp [hk1]; done), rfl, by rw [hh.out], by rw [← hh.out]; exact hr, BB.out⟩
        case measure => simp [intOf, hk1]; omega
      · have e1 : ((i : Int) == (t : Int)) = false := by simp; omega
        have hst := hid (restL_step l t i hlt hit)
        have HOE := hid (othersN_end (l := l) (t := t) (i := i) HT.out hlt)
        have HO0 := hid (show othersN t (i + 1) (i + 1) = 0 by unfold othersN; split <;> omega)
        have HR := hid hr.out
        clear hit hr
        have hl24 : (l.length : Int) ≤ 24 := i2
        go_upto_region 10 with fail
        generalize wr = wy at *
        go_loopw [7, 8] (fun ov kv wq => ∃ j : Nat, i + 1 ≤ j ∧ j ≤ l.length ∧ kv = .int .i64 (j : Nat) ∧ ov = .int .i64 (othersN t (i + 1) j : Nat) ∧ wq = wy) (fun _ kv _ => l.length - (intOf kv).toNat)
        case atStart => exact ⟨i + 1, by omega, by omega, by first | exact congrArg (Value.int .i64) hk1 | (simp [hk1]; done), by rw [HO0.out]; rfl, rfl⟩
        case round =>
          obtain ⟨j, hj1, hj2, rfl, rfl, rfl⟩ := hrel
          have hj3 : wrap64 ((j : Int) + 1) = ((j + 1 : Nat) : Int) := by rw [wrap64_in _ (by omega)]; simp
          have hob : othersN t (i + 1) j ≤ 24 := by unfold othersN; split <;> omega
          by_cases hjl : j < l.length
          · have hjl' : (j : Int) < l.length := by omega
            have hos := hid (othersN_succ (t := t) (a := i + 1) (j := j) hj1)
            have ho1 : wrap64 ((othersN t (i + 1) j : Int) + 1) = ((othersN t (i + 1) j + 1 : Nat) : Int) := by rw [wrap64_in _ (by omega)]; simp
            by_cases hjt : j = t
            · have e5 : ((j : Int) != (t : Int)) = false := by simp [hjt]
              have e6 : ((j : Int) == (t : Int)) = true := by simp [hjt]
              have hos2 := hid (show othersN t (i + 1) (j + 1) = othersN t (i + 1) j by rw [hos.out, if_pos hjt]; rfl)
              clear hjt ho1 hob
              generalize othersN t (i + 1) j = ov at *
              go_wp2_with fail
              go_roundw
              case rel => exact ⟨j + 1, by omega, by omega, by first | exact congrArg (Value.int .i64) hj3 | (simp [hj3]; done), by rw [hos2.out], by first | trivial | rfl⟩
              case measure => simp [intOf, hj3]; omega
            · have e5 : ((j : Int) != (t : Int)) = true := by simp; omega
              have e6 : ((j : Int) == (t : Int)) = false := by simp; omega
              have hos2 := hid (show othersN t (i + 1) (j + 1) = othersN t (i + 1) j + 1 by rw [hos.out, if_neg hjt])
              clear hjt hob
              generalize othersN t (i + 1) j = ov at *
              go_wp2_with fail
              go_roundw
              case rel => exact ⟨j + 1, by omega, by omega, by first | exact congrArg (Value.int .i64) hj3 | (simp [hj3]; done), by rw [hos2.out]; first | exact congrArg (Value.int .i64) ho1 | (simp [ho1]; done), by first | trivial | rfl⟩
              case measure => simp [intOf, hj3]; omega
          · obtain rfl : j = l.length := by omega
            have hjl' : ¬ (l.length : Int) < l.length := by omega
            rw [HOE.out] at hob ⊢
            have hml := hid hob
            clear hjl
            generalize hlb : l[i] = lb at *
            clear hlb
            cases lb with
            | true =>
              have f2 := hid (show (restL l t i).count true = (restL l t (i + 1)).count true + 1 by rw [hst.out]; simp)
              have f3 := hid (show r + rankO (restL l t (i + 1)) = rankN l t by have := HR.out; rw [hst.out] at this; exact this)
              rw [f2.out] at hcl24 ⊢
              clear hob
              generalize hcn : (restL l t (i + 1)).count true = cn at *
              have HCN := hid hcn
              clear hcn
              generalize (restL l t (i + 1)).length = ml at *
              have hc1 : wrap64 (((cn + 1 : Nat) : Int) - 1) = (cn : Int) := by rw [wrap64_in _ (by omega)]; simp
              have hc2 : wrap64 ((cn : Int) + 1 - 1) = (cn : Int) := by rw [wrap64_in _ (by omega)]; simp
              go_wp2_with fail
              go_roundw
              case rel => exact ⟨i + 1, r, by omega, by first | exact congrArg (Value.int .i64) hk1 | (simp [hk1]; done), rfl, by rw [HCN.out] <;> first | exact congrArg (Value.int .i64) hc1 | exact congrArg (Value.int .i64) hc2 | simp, f3.out, BB.out⟩
              case measure => simp [intOf, hk1]; omega
            | false =>
              have f2 := hid (show (restL l t i).count true = (restL l t (i + 1)).count true by rw [hst.out]; simp)
              have f3 := hid (show r + (if 0 < (restL l t (i + 1)).count true then binom (restL l t (i + 1)).length ((restL l t (i + 1)).count true - 1) else 0) + rankO (restL l t (i + 1)) = rankN l t by
                have := HR.out; rw [hst.out] at this; simp only [rankO] at this; omega)
              rw [f2.out] at hcl24 ⊢
              clear hob
              have CC := hid (choose_i ((restL l t (i + 1)).length : Int) (((restL l t (i + 1)).count true : Int) - 1) (by omega) (by have := hml.out; omega) wr)
              rw [chooseI_need] at CC
              have f4 := f3
              generalize hcv : (if 0 < (restL l t (i + 1)).count true then binom (restL l t (i + 1)).length ((restL l t (i + 1)).count true - 1) else 0) = cv at CC f4
              have f5 := hid (show (r + cv) + rankO (restL l t (i + 1)) = rankN l t from f4.out)
              have hrc := hid (show r + cv ≤ 25 * 16777216 by have := f4.out; have := HRL.out; omega)
              clear hcv f3 f4
              generalize hcn : (restL l t (i + 1)).count true = cn at *
              have HCN := hid hcn
              clear hcn
              generalize (restL l t (i + 1)).length = ml at *
              have hc2 : wrap64 ((cn : Int) - 1) = (cn : Int) - 1 := wrap64_in _ (by omega)
              have hra : wrap64 ((r : Int) + (cv : Int)) = ((r + cv : Nat) : Int) := by rw [wrap64_in _ (by have := hrc.out; omega)]; simp
              go_wp2_with fail
              refine CC.out.mono ?_
              rintro e w5 ⟨rfl, hB⟩
              have B5 := hid (BB.out.trans (hB.mono BB.out.size))
              clear hB CC
              go_wp2_with fail
              go_roundw
              case rel => exact ⟨i + 1, r + cv, by omega, by first | exact congrArg (Value.int .i64) hk1 | (simp [hk1]; done), by first | exact congrArg (Value.int .i64) hra | (simp [hra]; done), by rw [HCN.out], f5.out, B5.out⟩
              case measure => simp [intOf, hk1]; omega
    · obtain rfl : i = l.length := by omega
      have hfin := hid (show r = rankN l t by have := hr.out; rw [restL_end l t HT.out] at this; simpa [rankO] using this)
      go_wp2_with fail
      go_ret
      exact ⟨ret_int (by rw [hfin.out]), HB.out.trans (BB.out.mono HB.out.size)⟩
end Go.Proofs.YtgbgcmhmlnmklaaGreatDoor
namespace Go.Proofs.YtgbgcmhmlnmklaaGreatDoor
open Go.RowKit Go.IntWalk
theorem choose_s (n k : Int) (h0 : 0 ≤ n) (h1 : n ≤ 24) (w : World) :
    Calls Tryz.prog 30 #[.int .i64 n, .int .i64 k] w fun e w' => e = .returned (.int .i64 (chooseI n k)) ∧ w = w' := by
  obtain ⟨m, rfl⟩ : ∃ m : Nat, n = m := ⟨n.toNat, by omega⟩
  exact choose_r m (by omega) k w
set_option maxRecDepth 100000 in
set_option maxHeartbeats 1000000 in
theorem unrank_no_r (n k r : Int) (w : World) (h : r < 0 ∨ countL n k ≤ r) :
    Calls Tryz.prog 6 #[.int .i64 n, .int .i64 k, .int .i64 r] w fun e w' => e = .returned (.tuple #[.agg #[.slice none 0 0, .int .i64 0], .bool false]) ∧ Below w.heap.size w w' := by
  have hz := zeroLayout
  by_cases h0 : r < 0
  · go_enter Tryz.func6, Tryz.ntmps6
    go_wp2
    exact bodyPost_ret (v := .tuple #[.agg #[.slice none 0 0, .int .i64 0], .bool false]) (by simp [results, Tryz.results6, go_sem]) rfl ⟨rfl, (Below.refl _ _).alloc (Nat.le_refl _) _⟩
  · have h1 : countL n k ≤ r := by omega
    go_enter Tryz.func6, Tryz.ntmps6
    go_wp2_with fail
    refine (count_r _ _ _).mono ?_
    rintro e w1 ⟨rfl, rfl⟩
    go_wp2
    exact bodyPost_ret (v := .tuple #[.agg #[.slice none 0 0, .int .i64 0], .bool false]) (by simp [results, Tryz.results6, go_sem]) rfl ⟨rfl, (Below.refl _ _).alloc (Nat.le_refl _) _⟩
/-- The world while the reference makes a layout. -/
def UV (w wr : World) (gR gL gF n : Nat) (t : Int) (l : List Bool) : Prop :=
  Below w.heap.size w wr ∧ Blk wr gL 27 #[.slice (some ⟨gF, 0, none⟩) n n, .int .i64 t] ∧ Blk wr gF 4 (l.map Value.bool).toArray ∧
    Blk wr gR 27 #[.slice none 0 0, .int .i64 0] ∧ w.heap.size ≤ gF ∧ gF ≠ gL ∧ gF ≠ gR ∧ w.heap.size ≤ gR
theorem UV.mk1 {w w2 : World} {gR n : Nat} {t : Int} (hb : Below w.heap.size w w2) (bR : Blk w2 gR 27 #[.slice none 0 0, .int .i64 0]) (hR : w.heap.size ≤ gR) :
    UV w ((w2.alloc (.cells #[.slice (some ⟨w2.heap.size + 1, 0, none⟩) n n, .int .i64 t] 27)).alloc (.cells (madeCells #[.bool false] n) 4)).drew gR w2.heap.size (w2.heap.size + 1) n t (List.replicate n false) := by
  have h1 := bR.lt
  have h2 := hb.size
  refine ⟨((hb.alloc h2 _).alloc (by simp; omega) _).drew, ((Blk.new w2 _ _).alloc _).drew, ?_, ((bR.alloc _).alloc _).drew, ?_, ?_, ?_, hR⟩
  · rw [madeBools]; exact (Blk.new_at (by simp)).drew
  all_goals omega
theorem UV.mk2 {w w2 : World} {gR n : Nat} {t : Int} (hb : Below w.heap.size w w2) (bR : Blk w2 gR 27 #[.slice none 0 0, .int .i64 0]) (hR : w.heap.size ≤ gR) :
    UV w ((w2.alloc (.cells (madeCells #[.bool false] n) 4)).alloc (.cells #[.slice (some ⟨w2.heap.size, 0, none⟩) n n, .int .i64 t] 27)).drew gR (w2.heap.size + 1) w2.heap.size n t (List.replicate n false) := by
  have h1 := bR.lt
  have h2 := hb.size
  refine ⟨((hb.alloc h2 _).alloc (by simp; omega) _).drew, (Blk.new_at (by simp)).drew, ?_, ((bR.alloc _).alloc _).drew, ?_, ?_, ?_, hR⟩
  · rw [madeBools]; exact ((Blk.new w2 _ _).alloc _).drew
  all_goals omega
/-- One cell of the row is written. -/
theorem UV.set {w wr : World} {gR gL gF n : Nat} {t : Int} {l l' : List Bool} (h : UV w wr gR gL gF n t l) (i : Nat) (hl : l' = l.set i true) : UV w (wr.setCell ⟨gF, i, none⟩ (.bool true)) gR gL gF n t l' := by
  obtain ⟨h1, h3, h4, h5, h6, h7, h9, h10⟩ := h
  refine ⟨h1.setCell h6 _, h3.far (Ne.symm h7) _, ?_, h5.far (Ne.symm h9) _, h6, h7, h9, h10⟩
  have e : (l'.map Value.bool).toArray = (l.map Value.bool).toArray.setIfInBounds i (.bool true) := by
    rw [hl, List.map_set, List.setIfInBounds_toArray]
  rw [e]
  exact h4.set_ i _
set_option maxRecDepth 100000 in
set_option maxHeartbeats 4000000 in
theorem unrank_yes_r (n k r : Nat) (w : World) (hn : 1 ≤ n) (hn' : n ≤ 24) (hk : 1 ≤ k) (hk' : k ≤ n) (hr : r < n * binom (n-1) (k-1)) :
    Calls Tryz.prog 6 #[.int .i64 n, .int .i64 k, .int .i64 r] w fun e w' => LayRes w n k r e w' := by
  have hz := zeroLayout
  have hcnt : countL n k = (n * binom (n-1) (k-1) : Nat) := by simp only [countL]; rw [if_pos (by omega)]; simp
  have h1 : ¬ (countL n k ≤ (r:Int)) := by rw [hcnt]; omega
  have hcm : binom (n-1) (k-1) ≤ 16777216 := binom_le _ _ (by omega)
  have hrr : r < 24 * 16777216 := by have := Nat.mul_le_mul hn' hcm; omega
  have hpos : 0 < binom (n-1) (k-1) := binom_pos _ _ (by omega)
  have HCV := hid (show chooseI ((n : Int) - 1) ((k : Int) - 1) = (binom (n - 1) (k - 1) : Int) by
    rw [show ((n : Int) - 1) = ((n - 1 : Nat) : Int) by omega, show ((k : Int) - 1) = ((k - 1 : Nat) : Int) by omega]
    exact chooseI_nat (by omega))
  have CH := hid (fun W => choose_s ((n : Int) - 1) ((k : Int) - 1) (by omega) (by omega) W)
  rw [HCV.out] at CH
  clear hcnt
  obtain ⟨i0, hi, hz0, hz1, hz2⟩ := info_parts infoBool
  have i1 : (1:Int) ≤ n := by omega
  have i2 : (n : Int) ≤ 25 := by omega
  have i3 : (1:Int) ≤ k := by omega
  have i4 : (k : Int) ≤ 25 := by omega
  go_enter Tryz.func6, Tryz.ntmps6
  go_wp2_with fail
  refine (count_r _ _ _).mono ?_
  rintro e w1 ⟨rfl, rfl⟩
  go_wp2_with fail
  refine (CH.out _).mono ?_
  rintro e w2 ⟨rfl, rfl⟩
  have bR : Blk (w.alloc (Obj.cells #[.slice none 0 0, .int .i64 0] 27)) w.heap.size 27 #[.slice none 0 0, .int .i64 0] := Blk.new w _ _
  have hb2 : Below w.heap.size w (w.alloc (Obj.cells #[.slice none 0 0, .int .i64 0] 27)) := by (repeat (first | exact Below.refl _ _ | assumption | refine below_drewN ?_ _ | refine Below.drew ?_ | refine Below.alloc ?_ (by (try simp); (try omega)) _ | refine Below.setCell ?_ (by (try simp); (try omega)) _))
  generalize (w.alloc (Obj.cells #[.slice none 0 0, .int .i64 0] 27)) = w2 at *
  have hmk := fun W => run_make_rowN (P := Tryz.prog) 25 4 i0 _ Tryz.underlying25 hi hz0 .i64 .i64 n n (Nat.le_refl _) (by rw [hz2]; omega) (by omega) W
  obtain ⟨q, hq⟩ : ∃ q, q = r / binom (n-1) (k-1) := ⟨_, rfl⟩
  obtain ⟨m, hm⟩ : ∃ m, m = r % binom (n-1) (k-1) := ⟨_, rfl⟩
  have hqr : q ≤ r := by rw [hq]; exact Nat.div_le_self _ _
  have e4 : wrap64 ((r:Int) / (binom (n-1) (k-1) : Nat)) = (q : Int) := by
    rw [← Int.natCast_ediv, ← hq]
    exact wrap64_in _ (by omega)
  have e5 : (r:Int) % (binom (n-1) (k-1) : Nat) = (m : Int) := by rw [hm]; exact (Int.natCast_emod _ _).symm
  have Hq := hid hq
  have Hm := hid hm
  clear hq hm
  go_upto_region 4 with fail
  go_cut [9] (fun s9 wx => ∃ gL gF : Nat, s9 = .pointer (some ⟨gL, 0, none⟩) ∧ UV w wx w.heap.size gL gF n q (List.replicate n false))
  case first =>
    go_region
    all_goals
      clear e4 hmk hz
      go_step
      go_step
      go_meet
      first | exact ⟨_, _, rfl, UV.mk1 hb2 bR (Nat.le_refl _)⟩ | exact ⟨_, _, rfl, UV.mk2 hb2 bR (Nat.le_refl _)⟩
  case rest =>
    clear hmk e4 CH
    obtain ⟨gL, gF, rfl, hu⟩ := hcut
    obtain ⟨hu1, hu3, hu4, hu5, hu6, hu7, hu9, hu10⟩ := id hu
    go_wp2_with fail
    have E5 := hid e5
    clear hu1 hu3 hu4 hu5 hu6 hu7 hu9 hu10 e5 bR hb2 HCV
    obtain ⟨hR, hL1, hL2, hL3, hL4⟩ := unrankN_facts hn hn' hk hk' hr
    obtain ⟨L, hL⟩ : ∃ L, L = unrankN n k r := ⟨_, rfl⟩
    have HL := hid hL
    rw [← Hq.out] at hR hL3 hL4
    rw [← hL] at hL1 hL2 hL4 hR
    obtain ⟨hq1, hq2, hq3, hq3'⟩ := hR
    clear hL3
    have hmr : m < binom (n-1) (k-1) := by rw [Hm.out]; exact Nat.mod_lt _ hpos
    have hrk : rankO (restL L q 0) = m := by rw [hL4, ← Hm.out, rank_unrank _ _ _ hmr]
    have hln : (restL L q 0).length = n - 1 := by rw [hL4, unrankO_length]
    have hct : (restL L q 0).count true = k - 1 := by rw [hL4, ← Hm.out, unrankO_count _ _ _ hmr]
    have R0 : Hid (m = rankO (restL L q 0)) := hrk.symm
    have R1 := hid hln
    have R2 := hid hct
    have HLn : Hid (L.length = n) := hL1
    have HLq : Hid (L[q] = true) := hq3'
    have hu' : UV w wc w.heap.size gL gF n q (fillL L 0) := by simpa [fillL, hL1] using hu
    have hqn : q < n := by omega
    have hmb : m ≤ 16777216 := by omega
    clear hrk hln hct hL1 hL2 hL4 hL hq3' hu hqr hcm hrr hpos hq1 hq2 hmr h1
    go_loopw [10, 11, 12, 13] (fun a b c d wr => ∃ i rr : Nat, i ≤ n ∧ d = .int .i64 i ∧ a = .int .i64 rr ∧ b = .int .i64 ((restL L q i).count true : Nat) ∧ c = .int .i64 ((restL L q i).length : Nat) ∧
        rr ≤ 16777216 ∧ Hid (rr = rankO (restL L q i)) ∧ UV w wr w.heap.size gL gF n q (fillL L i))
      (fun _ _ _ d _ => n - (intOf d).toNat)
    case atStart => exact ⟨0, m, by omega, rfl, by rw [E5.out], by rw [R2.out]; congr 1; omega, by rw [R1.out]; congr 1; omega, hmb, R0, hu'⟩
    case round =>
      clear hu' R0 R1 R2 E5
      obtain ⟨i, rr, hi, rfl, rfl, rfl, rfl, hrb, hrr, hu⟩ := hrel
      obtain ⟨hu1, hu3, hu4, hu5, hu6, hu7, hu9, hu10⟩ := id hu
      have cL0 := hu3.cell 0
      have cL1 := hu3.cell 1
      simp only [List.getElem?_toArray, List.getElem?_cons_zero, List.getElem?_cons_succ] at cL0 cL1
      have fF := hu4.frozen
      by_cases hlt : i < n
      · have hLn24 : L.length ≤ 24 := by rw [HLn.out]; exact hn'
        have hiL : i < L.length := by rw [HLn.out]; exact hlt
        have hfl := fillL_len L i (by omega)
        obtain ⟨vF, cF⟩ : ∃ vF, wr.cell? ⟨gF, i, none⟩ = some vF := ⟨.bool ((fillL L i)[i]'(by omega)), by rw [hu4.cell]; simp⟩
        by_cases hit : i = q
        · have hset := fillL_set L i hiL
          have hLi : L[i] = true := by have := HLq.out; subst hit; exact this
          have hrs : Hid (restL L q i = restL L q (i+1)) := by rw [hit]; exact restL_at L q hq3
          have e1 : ((i:Int) == (q:Int)) = true := by simp [hit]
          rw [hLi] at hset
          have huS := hu.set i hset.symm
          clear hit hset hLi hfl hu1 hu3 hu4 hu5 hu6 hu7 hu9 hu10 hu
          go_wp2
          go_roundw
          case rel =>
            have hh := hrs.out
            rw [hh] at hrr ⊢
            exact ⟨i+1, rr, by omega, by go_num, rfl, rfl, rfl, hrb, hrr, huS⟩
          case measure => simp [intOf]; omega
        · have e1 : ((i:Int) == (q:Int)) = false := by simp; omega
          have hst := restL_step L q i hiL hit
          have hle := restL_len L q (i+1) hq3 (by omega)
          have hle2 : (restL L q (i+1)).length ≤ 24 := by rw [hle]; split <;> omega
          have hcl : (restL L q (i+1)).count true ≤ (restL L q (i+1)).length := List.count_le_length
          have hrl := rankO_lt (restL L q (i+1))
          have f1 : (restL L q i).length = (restL L q (i+1)).length + 1 := by rw [hst]; simp
          clear hle
          cases hb : L[i] with
          | true =>
            have hset := fillL_set L i hiL
            rw [hb] at hset hst
            have huS := hu.set i hset.symm
            have f2 : (restL L q i).count true = (restL L q (i+1)).count true + 1 := by rw [hst]; simp
            have f3 : Hid (rr = rankO (restL L q (i+1))) := by have := hrr.out; rw [hst] at this; exact this
            have CC := hid (choose_s ((restL L q (i + 1)).length : Int) ((((restL L q (i + 1)).count true + 1 : Nat) : Int) - 1) (by omega) (by omega) wr)
            rw [chooseI_need, if_pos (by omega), Nat.add_sub_cancel] at CC
            have hrr2 : rr < binom (restL L q (i+1)).length ((restL L q (i+1)).count true) := by
              have := hrr.out; rw [hst] at this; rw [this]; exact hrl
            rw [f1, f2]
            have hbb := binom_le (restL L q (i+1)).length ((restL L q (i+1)).count true) hle2
            clear hit hset hu1 hu3 hu4 hu5 hu6 hu7 hu9 hu10 hfl hu f1 f2 hst hrl hrr
            generalize hcn : (restL L q (i + 1)).count true = cn at *
            have HCN := hid hcn
            clear hcn
            generalize hml : (restL L q (i + 1)).length = ml at *
            have HML := hid hml
            clear hml
            generalize binom ml cn = bv at *
            have e3 : (rr : Int) < (bv : Nat) := by omega
            have hc1 : wrap64 ((cn : Int) + 1 - 1) = (cn : Int) := by rw [wrap64_in _ (by omega)]; simp
            have hc2 : wrap64 ((ml : Int) + 1 - 1) = (ml : Int) := by rw [wrap64_in _ (by omega)]; simp
            rw [show (((cn + 1 : Nat) : Int) - 1) = (cn : Int) by omega] at CC
            go_wp2_with fail
            refine CC.out.mono ?_
            rintro e w5 ⟨rfl, rfl⟩
            clear CC
            go_wp2
            go_roundw
            case rel => exact ⟨i+1, rr, by omega, by go_num, rfl, by rw [HCN.out] <;> first | rfl | exact congrArg (Value.int .i64) hc1, by rw [HML.out] <;> first | rfl | exact congrArg (Value.int .i64) hc2, hrb, f3, huS⟩
            case measure => simp [intOf]; omega
          | false =>
            have hfl2 := fillL_false L i hiL hb
            rw [hb] at hst
            have huS : Hid (UV w wr w.heap.size gL gF n q (fillL L (i+1))) := by rw [hfl2]; exact hu
            have f2 : (restL L q i).count true = (restL L q (i+1)).count true := by rw [hst]; simp
            have f3 := hid (show rr = (if 0 < (restL L q (i + 1)).count true then binom (restL L q (i + 1)).length ((restL L q (i + 1)).count true - 1) else 0) + rankO (restL L q (i + 1)) by
              have := hrr.out; rw [hst] at this; simp only [rankO] at this; omega)
            have CC := hid (choose_s ((restL L q (i + 1)).length : Int) (((restL L q (i + 1)).count true : Int) - 1) (by omega) (by omega) wr)
            rw [chooseI_need] at CC
            generalize hcv : (if 0 < (restL L q (i + 1)).count true then binom (restL L q (i + 1)).length ((restL L q (i + 1)).count true - 1) else 0) = cv at CC f3
            have f4 := hid (show rr - cv = rankO (restL L q (i + 1)) by have := f3.out; omega)
            have f5 : cv ≤ rr := by have := f3.out; omega
            rw [f1, f2]
            clear hcv f3 hit hu1 hu3 hu4 hu5 hu6 hu7 hu9 hu10 hfl hu f1 f2 hst hrl hfl2 hrr
            generalize hcn : (restL L q (i + 1)).count true = cn at *
            have HCN := hid hcn
            clear hcn
            generalize hml : (restL L q (i + 1)).length = ml at *
            have HML := hid hml
            clear hml
            have e3 : ¬ (rr : Int) < (cv : Nat) := by omega
            have hc1 : wrap64 ((cn : Int) - 1) = (cn : Int) - 1 := wrap64_in _ (by omega)
            have hc2 : wrap64 ((ml : Int) + 1 - 1) = (ml : Int) := by rw [wrap64_in _ (by omega)]; simp
            have hc3 : wrap64 ((rr : Int) - (cv : Int)) = ((rr - cv : Nat) : Int) := by rw [wrap64_in _ (by omega)]; omega
            go_wp2_with fail
            refine CC.out.mono ?_
            rintro e w5 ⟨rfl, rfl⟩
            clear CC
            go_wp2
            go_roundw
            case rel => exact ⟨i+1, rr - cv, by omega, by go_num, by rw [Int.natCast_sub f5], by rw [HCN.out], by rw [HML.out] <;> first | rfl | exact congrArg (Value.int .i64) hc2, by omega, f4, huS.out⟩
            case measure => simp [intOf]; omega
      · have hin : Hid (i = n) := by unfold Hid; omega
        have r0 := hu5.cell 0
        have r1 := hu5.cell 1
        have fr := hu5.frozen
        simp only [List.getElem?_toArray, List.getElem?_cons_zero, List.getElem?_cons_succ] at r0 r1
        have lR := hu5.lt
        clear hu1 hu3 hu4 hu5 hu6 hu7 hu9 hu10
        go_wp2
        refine bodyPost_ret (v := .tuple #[.agg #[.slice (some ⟨gF, 0, none⟩) n n, .int .i64 q], .bool true]) (by simp [results, Tryz.results6, go_sem, r0, r1, fr, lR]) rfl ?_
        obtain ⟨hu1, hu3, hu4, hu5, hu6, hu7, hu9, hu10⟩ := hu
        have hq := Hq.out
        have hfe : fillL L i = unrankN n k r := by
          have h1 := hin.out
          have h2 := HLn.out
          rw [h1, ← HL.out]; simp [fillL, ← h2]
        refine ⟨gF, by rw [hq], ?_, ?_⟩
        · rw [← hfe]
          exact Blk.bools (((hu4.far hu9 _).far hu9 _)) (by simp [World.setCell]; exact hu4.lt)
        · exact (hu1.setCell (Nat.le_refl _) _).setCell (Nat.le_refl _) _
end Go.Proofs.YtgbgcmhmlnmklaaGreatDoor
namespace Go.Proofs.YtgbgcmhmlnmklaaGreatDoor
open Go.RowKit Go.IntWalk

abbrev Sh := Int × Int
theorem SlR.sh {w : World} {B : Nat} {A : Option Addr} {l : List Sh} (h : SlR w B A l) {k : Nat} (hk : k < l.length) : ∃ b off, A = some ⟨b, off, none⟩ ∧ b < B ∧
    w.cell? ⟨b, off + k * 2, none⟩ = some (.int .i64 l[k].1) ∧ w.cell? ⟨b, off + k * 2 + 1, none⟩ = some (.int .i64 l[k].2) ∧ I64 l[k].1 ∧ I64 l[k].2 := by
  obtain ⟨b, off, es, hA, hb, hs, hc, e1, e2, rfl, _, _, ⟨rfl, i1⟩, rfl, i2⟩ := h k _ (List.getElem?_eq_getElem hk)
  have h4 : Rep.size Sh = 2 := rfl
  rw [h4] at hc
  exact ⟨b, off, hA, hb, by simpa using hc 0 _ rfl, by simpa using hc 1 _ rfl, i1, i2⟩
def shRK : RK Sh where
  e := 29
  t := 44
  size := 2
  bytes := 16
  z := .agg #[.int .i64 0, .int .i64 0]
  cs x := [.int .i64 x.1, .int .i64 x.2]
  ok x := I64 x.1 ∧ I64 x.2
  und := Tryz.underlying44
  info := by kernel_rfl
  zcs := rfl
  pos := by omega
  small := by omega
  len _ := rfl
  one x v hv := by simp at hv; rcases hv with rfl | rfl <;> rfl
  rsz := rfl
  rep w B x h := ⟨[.int .i64 x.1], [.int .i64 x.2], rfl, rfl, rfl, ⟨rfl, h.1⟩, rfl, h.2⟩
  inv w B c x h := by obtain ⟨c1, c2, rfl, _, _, ⟨rfl, i0⟩, rfl, i1⟩ := h; exact ⟨rfl, i0, i1⟩
def hasN (l : List Sh) (x : Sh) : Bool := l.any (fun y => decide (y = x))
theorem hasN_iff {l : List Sh} {x : Sh} : hasN l x = true ↔ x ∈ l := by simp [hasN]
set_option maxRecDepth 100000 in
set_option maxHeartbeats 1000000 in
theorem isCell_any (c : Int) (w : World) : Calls Tryz.prog 63 #[.int .i64 c] w fun e w' => e = .returned (.bool (decide (0 ≤ c ∧ c < 4096))) ∧ w' = w := by
  by_cases h0 : c < 0
  · go_enter Tryz.func63, Tryz.ntmps63
    go_wp2_with fail
    go_ret
    exact ⟨ret_bool (by first | (simp; done) | (simp; omega)), rfl⟩
  · by_cases h1 : c < 4096
    · go_enter Tryz.func63, Tryz.ntmps63
      go_wp2_with fail
      go_ret
      exact ⟨ret_bool (by first | (simp; done) | (simp; omega)), rfl⟩
    · go_enter Tryz.func63, Tryz.ntmps63
      go_wp2_with fail
      go_ret
      exact ⟨ret_bool (by first | (simp; done) | (simp; omega)), rfl⟩
/-- Does a way lead from a to b? -/
def getsN (W H D : Int) (kind out : List Int) (a b : Int) (k : Nat) : Bool := (List.range k).any (fun d => decide (nextL W H D kind out a ((d : Nat) : Int) = some b))
set_option maxRecDepth 100000 in
set_option maxHeartbeats 2000000 in
theorem gets_any (W H D : Int) (Ak Ao : Option Addr) (ck co : Nat) (kind out : List Int) (a b : Int) (w : World) (h : RF W H D kind out) (hk : SlR w w.heap.size Ak kind) (ho : SlR w w.heap.size Ao out) :
    Calls Tryz.prog 69 #[.agg #[.int .i64 W, .int .i64 H, .int .i64 D, .slice Ak kind.length ck, .slice Ao out.length co], .int .i64 a, .int .i64 b] w fun e w' => e = .returned (.bool (getsN W H D kind out a b 6)) ∧ Below w.heap.size w w' := by
  obtain ⟨w1, hw1⟩ : ∃ w1, w1 = (w.alloc (Obj.cells #[Value.int .i64 W, Value.int .i64 H, Value.int .i64 D, Value.slice Ak kind.length ck, Value.slice Ao out.length co] 24)) := ⟨_, rfl⟩
  have B1 := hid (show Below w.heap.size w w1 by rw [hw1]; (repeat (first | exact Below.refl _ _ | assumption | refine below_drewN ?_ _ | refine Below.drew ?_ | refine Below.alloc ?_ (by (try simp); (try omega)) _ | refine Below.setCell ?_ (by (try simp); (try omega)) _)))
  have X1 := hid (show Blk w1 w.heap.size 24 #[Value.int .i64 W, Value.int .i64 H, Value.int .i64 D, Value.slice Ak kind.length ck, Value.slice Ao out.length co] by rw [hw1]; exact Blk.new w _ _)
  have HN := hid (fun (d : Nat) (W' : World) (hW : Below w1.heap.size w1 W') => rfnext_any W H D Ak Ao ck co kind out a (d : Int) W' h ((hk.below (B1.out.trans (hW.mono B1.out.size))).more (B1.out.trans (hW.mono B1.out.size)).size) ((ho.below (B1.out.trans (hW.mono B1.out.size))).more (B1.out.trans (hW.mono B1.out.size)).size))
  clear h hk ho
  go_enter Tryz.func69, Tryz.ntmps69
  go_upto_region 2 with fail
  rw [← hw1]
  clear hw1
  go_loopw [7] (fun i wr => ∃ k : Nat, k ≤ 6 ∧ i = .int .i64 k ∧ getsN W H D kind out a b k = false ∧ Below w1.heap.size w1 wr) (fun i _ => 6 - (intOf i).toNat)
  case atStart => exact ⟨0, by omega, rfl, by simp [getsN], Below.refl _ _⟩
  case round =>
    obtain ⟨k, hk, rfl, hno, hB⟩ := hrel
    have HNO := hid hno
    have HB := hid hB
    have HXr := hid (X1.out.below hB X1.out.lt)
    have HF := hid (HN.out k wr hB)
    clear hno hB
    obtain ⟨k0, k1, k2, k3, k4⟩ := blk5 HXr.out
    have xz := HXr.out.lt
    by_cases hlt : k < 6
    · have hlt' : (k : Int) < 6 := by omega
      have hst := hid (show getsN W H D kind out a b (k + 1) = decide (nextL W H D kind out a (k : Int) = some b) by
        unfold getsN at HNO ⊢
        rw [List.range_succ, List.any_append, HNO.out]
        simp)
      have hyes := hid (fun (e : nextL W H D kind out a (k : Int) = some b) => show getsN W H D kind out a b 6 = true from List.any_eq_true.2 ⟨k, List.mem_range.2 hlt, decide_eq_true e⟩)
      generalize nextL W H D kind out a (k : Int) = r at *
      go_wp2_with fail
      refine HF.out.mono ?_
      rintro e w2 ⟨rfl, hB2⟩
      have HB2 := hid (HB.out.trans (hB2.mono HB.out.size))
      clear hB2 HF
      cases r with
      | none =>
        unfold nextV
        go_wp2_with fail
        go_roundw
        case rel => exact ⟨k + 1, by omega, by go_num, by rw [hst.out]; simp, HB2.out⟩
        case measure => simp [intOf]; omega
      | some y =>
        unfold nextV
        by_cases hy : y = b
        · subst hy
          go_wp2_with fail
          go_ret
          exact ⟨ret_bool (hyes.out (by first | rfl | trivial)).symm, B1.out.trans (HB2.out.mono B1.out.size)⟩
        · have hyb : (y == b) = false := by simp [hy]
          go_wp2_with fail
          go_roundw
          case rel => exact ⟨k + 1, by omega, by go_num, by rw [hst.out]; simp [hy], HB2.out⟩
          case measure => simp [intOf]; omega
    · obtain rfl : k = 6 := by omega
      go_wp2_with fail
      go_ret
      exact ⟨ret_bool HNO.out.symm, B1.out.trans (HB.out.mono B1.out.size)⟩
end Go.Proofs.YtgbgcmhmlnmklaaGreatDoor
namespace Go.Proofs.YtgbgcmhmlnmklaaGreatDoor
open Go.RowKit Go.IntWalk
theorem neq_sh (x y a b : Int) (w : World) : (binOp .neq 29 (.agg #[.int .i64 x, .int .i64 y]) (.agg #[.int .i64 a, .int .i64 b])).run Tryz.prog w = .ok (.bool (!(decide (x = a) && decide (y = b)))) w := by
  have u3 := Tryz.underlying3
  have a3 := Tryz.isAgg3
  have z3 := Tryz.sizeOf3
  have hS : Tryz.prog.underlying 29 = some (.struct (Tryz.prog.fieldsOf 29)) := by kernel_rfl
  have hp : Tryz.prog.stoodInHeld 29 = false := by kernel_rfl
  rw [run_neq_struct, show (10000 : Nat) = 9999 + 1 from rfl, run_equalIn_agg w 9999 29 _ _ hS hp]
  simp only [Program.fieldsOf, Tryz.underlying29]
  by_cases h1 : x = a
  · by_cases h2 : y = b
    · go_simp
    · go_simp
  · go_simp
set_option maxRecDepth 100000 in
set_option maxHeartbeats 2000000 in
theorem sameshifts_any (A1 A2 : Option Addr) (c1 c2 : Nat) (l1 l2 : List Sh) (w : World) (hl1 : l1.length ≤ maxLen) (hl2 : l2.length ≤ maxLen) (hs1 : SlR w w.heap.size A1 l1) (hs2 : SlR w w.heap.size A2 l2) :
    Calls Tryz.prog 24 #[.slice A1 l1.length c1, .slice A2 l2.length c2] w fun e w' => e = .returned (.bool (decide (l1 = l2))) ∧ Below w.heap.size w w' := by
  unfold maxLen at hl1 hl2
  by_cases hn : l1.length = l2.length
  · have Hn := hid hn
    have H1 := hid hs1
    have H2 := hid hs2
    have e2 : ((l1.length : Int) != (l2.length : Int)) = false := by simp [hn]
    clear hs1 hs2
    go_enter Tryz.func24, Tryz.ntmps24
    clear hn
    go_wp2_with fail
    have R0 : Hid (decide (l1 = l2) = decide (l1.drop 0 = l2.drop 0)) := by simp [Hid]
    go_loopw [5] (fun i wr => ∃ k : Nat, k ≤ l1.length ∧ i = .int .i64 k ∧ Hid (decide (l1 = l2) = decide (l1.drop k = l2.drop k)) ∧ Below w.heap.size w wr) (fun i _ => l1.length - (intOf i).toNat)
    case atStart => exact ⟨0, Nat.zero_le _, rfl, R0, Below.refl _ _⟩
    case round =>
      clear R0
      obtain ⟨k, hk, rfl, hr, hB⟩ := hrel
      have HB := hid hB
      clear hB
      by_cases hlt : k < l1.length
      · have hlt2 : k < l2.length := by have := Hn.out; omega
        obtain ⟨b1, o1, rfl, hb1, g1, g2, -, -⟩ := H1.out.sh hlt
        obtain ⟨b2, o2, rfl, hb2, g3, g4, -, -⟩ := H2.out.sh hlt2
        replace g1 := (bcell HB.out _ _ hb1).trans g1
        replace g2 := (bcell HB.out _ _ hb1).trans g2
        replace g3 := (bcell HB.out _ _ hb2).trans g3
        replace g4 := (bcell HB.out _ _ hb2).trans g4
        have z1 : b1 < wr.heap.size := by have := HB.out.size; omega
        have z2 : b2 < wr.heap.size := by have := HB.out.size; omega
        have d1 := (List.drop_eq_getElem_cons hlt)
        have d2 := (List.drop_eq_getElem_cons hlt2)
        have i1 : (k:Int) < l1.length := by omega
        have i2 : (k:Int) < l2.length := by omega
        have hr2 := hid (show decide (l1 = l2) = _ from hr.out.trans (by rw [d1, d2]))
        clear d1 d2 hr
        generalize l1[k] = x at *
        generalize l2[k] = y at *
        obtain ⟨x1, x2⟩ := x
        obtain ⟨y1, y2⟩ := y
        simp only at g1 g2 g3 g4
        have HSF := hid (fun (wq : World) (hq : Below wr.heap.size wr wq) => And.intro ((bcell hq _ _ z1).trans g1) (And.intro ((bcell hq _ _ z1).trans g2) (And.intro ((bcell hq _ _ z2).trans g3) ((bcell hq _ _ z2).trans g4))))
        have BD := hid ((Below.refl wr.heap.size wr).drew)
        go_upto_region 6 with fail
        refine wpIn_wide.1 (wpIn_region_S (n := 0) (fun wq => Below wr.heap.size wr wq) [] (by kernel_rfl) BD.out (fun hHeld => ?_))
        generalize wr.drew = wd at *
        by_cases e1 : x1 = y1
        · subst e1
          by_cases e3 : x2 = y2
          · subst e3
            refine wpAnyG_pure 0 (v := ?_) (fun _ => trivial) (by simp only [List.getElem?_toArray, List.getElem?_cons_succ, List.getElem?_cons_zero]; rfl) (by kernel_rfl) (fun _ _ _ _ _ h => h) ⟨(by rfl), (by intro c h; cases h), ?_⟩ hHeld ?_
            rotate_left
            focus (intro wS hSw; (try replace hSw := HSF.out wS hSw); (try dsimp only at hSw); go_simp; (try with_reducible rfl))
            (try simp only [Act.put, List.setIfInBounds_toArray, List.set_cons_zero, List.set_cons_succ])
            refine wpAnyG_pure 1 (v := ?_) (fun _ => trivial) (by simp only [List.getElem?_toArray, List.getElem?_cons_succ, List.getElem?_cons_zero]; rfl) (by kernel_rfl) (fun _ _ _ _ _ h => h) ⟨(by rfl), (by intro c h; cases h), ?_⟩ hHeld ?_
            rotate_left
            focus (intro wS hSw; (try replace hSw := HSF.out wS hSw); (try dsimp only at hSw); go_simp; (try with_reducible rfl))
            (try simp only [Act.put, List.setIfInBounds_toArray, List.set_cons_zero, List.set_cons_succ])
            refine wpAnyG_pure 2 (v := ?_) (fun _ => trivial) (by simp only [List.getElem?_toArray, List.getElem?_cons_succ, List.getElem?_cons_zero]; rfl) (by kernel_rfl) (fun _ _ _ _ _ h => h) ⟨(by rfl), (by intro c h; cases h), ?_⟩ hHeld ?_
            rotate_left
            focus (intro wS hSw; (try replace hSw := HSF.out wS hSw); (try dsimp only at hSw); go_simp; (try with_reducible rfl))
            (try simp only [Act.put, List.setIfInBounds_toArray, List.set_cons_zero, List.set_cons_succ])
            refine wpAnyG_take 3 (v := ?_) (fun _ => trivial) (by simp only [List.getElem?_toArray, List.getElem?_cons_succ, List.getElem?_cons_zero]; rfl) (by kernel_rfl) (fun _ _ _ _ _ h => h) ⟨(by rfl), (by intro c h; cases h), ?_⟩ hHeld ?_
            rotate_left
            focus (intro wS hSw; (try replace hSw := HSF.out wS hSw); (try dsimp only at hSw); go_simp; (try with_reducible rfl))
            (try simp only [Act.put, List.setIfInBounds_toArray, List.set_cons_zero, List.set_cons_succ])
            refine wpAnyG_pure 4 (v := ?_) (fun _ => trivial) (by simp only [List.getElem?_toArray, List.getElem?_cons_succ, List.getElem?_cons_zero]; rfl) (by kernel_rfl) (fun _ _ _ _ _ h => h) ⟨(by rfl), (by intro c h; cases h), ?_⟩ hHeld ?_
            rotate_left
            focus (intro wS hSw; (try replace hSw := HSF.out wS hSw); (try dsimp only at hSw); go_simp; (try with_reducible rfl))
            (try simp only [Act.put, List.setIfInBounds_toArray, List.set_cons_zero, List.set_cons_succ])
            refine wpAnyG_pure 5 (v := ?_) (fun _ => trivial) (by simp only [List.getElem?_toArray, List.getElem?_cons_succ, List.getElem?_cons_zero]; rfl) (by kernel_rfl) (fun _ _ _ _ _ h => h) ⟨(by rfl), (by intro c h; cases h), ?_⟩ hHeld ?_
            rotate_left
            focus (intro wS hSw; (try replace hSw := HSF.out wS hSw); (try dsimp only at hSw); go_simp; (try with_reducible rfl))
            (try simp only [Act.put, List.setIfInBounds_toArray, List.set_cons_zero, List.set_cons_succ])
            refine wpAnyG_pure 6 (v := ?_) (fun _ => trivial) (by simp only [List.getElem?_toArray, List.getElem?_cons_succ, List.getElem?_cons_zero]; rfl) (by kernel_rfl) (fun _ _ _ _ _ h => h) ⟨(by rfl), (by intro c h; cases h), ?_⟩ hHeld ?_
            rotate_left
            focus (intro wS hSw; (try replace hSw := HSF.out wS hSw); (try dsimp only at hSw); go_simp; (try with_reducible rfl))
            (try simp only [Act.put, List.setIfInBounds_toArray, List.set_cons_zero, List.set_cons_succ])
            refine wpAnyG_take 7 (v := ?_) (fun _ => trivial) (by simp only [List.getElem?_toArray, List.getElem?_cons_succ, List.getElem?_cons_zero]; rfl) (by kernel_rfl) (fun _ _ _ _ _ h => h) ⟨(by rfl), (by intro c h; cases h), ?_⟩ hHeld ?_
            rotate_left
            focus (intro wS hSw; (try replace hSw := HSF.out wS hSw); (try dsimp only at hSw); go_simp; (try with_reducible rfl))
            (try simp only [Act.put, List.setIfInBounds_toArray, List.set_cons_zero, List.set_cons_succ])
            refine wpAnyG_pure 8 (v := ?_) (fun _ => trivial) (by simp only [List.getElem?_toArray, List.getElem?_cons_succ, List.getElem?_cons_zero]; rfl) (by kernel_rfl) (fun _ _ _ _ _ h => h) ⟨(by rfl), (by intro c h; cases h), ?_⟩ hHeld ?_
            rotate_left
            focus (intro wS hSw; (try replace hSw := HSF.out wS hSw); (try dsimp only at hSw); go_simp; (try with_reducible rfl))
            (try simp only [Act.put, List.setIfInBounds_toArray, List.set_cons_zero, List.set_cons_succ])
            refine wpAnyS_done (by kernel_rfl) ?_
            clear hHeld HSF
            go_wp2_with fail
            go_roundw
            case rel => exact ⟨k + 1, by omega, by go_num, by rw [hr2.out]; simp [Hid], HB.out.trans (BD.out.mono HB.out.size)⟩
            case measure => simp [intOf]; omega
          · have hno := hid (show decide (l1 = l2) = false by rw [hr2.out]; simp [e3])
            clear hr2
            refine wpAnyG_pure 0 (v := ?_) (fun _ => trivial) (by simp only [List.getElem?_toArray, List.getElem?_cons_succ, List.getElem?_cons_zero]; rfl) (by kernel_rfl) (fun _ _ _ _ _ h => h) ⟨(by rfl), (by intro c h; cases h), ?_⟩ hHeld ?_
            rotate_left
            focus (intro wS hSw; (try replace hSw := HSF.out wS hSw); (try dsimp only at hSw); go_simp; (try with_reducible rfl))
            (try simp only [Act.put, List.setIfInBounds_toArray, List.set_cons_zero, List.set_cons_succ])
            refine wpAnyG_pure 1 (v := ?_) (fun _ => trivial) (by simp only [List.getElem?_toArray, List.getElem?_cons_succ, List.getElem?_cons_zero]; rfl) (by kernel_rfl) (fun _ _ _ _ _ h => h) ⟨(by rfl), (by intro c h; cases h), ?_⟩ hHeld ?_
            rotate_left
            focus (intro wS hSw; (try replace hSw := HSF.out wS hSw); (try dsimp only at hSw); go_simp; (try with_reducible rfl))
            (try simp only [Act.put, List.setIfInBounds_toArray, List.set_cons_zero, List.set_cons_succ])
            refine wpAnyG_pure 2 (v := ?_) (fun _ => trivial) (by simp only [List.getElem?_toArray, List.getElem?_cons_succ, List.getElem?_cons_zero]; rfl) (by kernel_rfl) (fun _ _ _ _ _ h => h) ⟨(by rfl), (by intro c h; cases h), ?_⟩ hHeld ?_
            rotate_left
            focus (intro wS hSw; (try replace hSw := HSF.out wS hSw); (try dsimp only at hSw); go_simp; (try with_reducible rfl))
            (try simp only [Act.put, List.setIfInBounds_toArray, List.set_cons_zero, List.set_cons_succ])
            refine wpAnyG_take 3 (v := ?_) (fun _ => trivial) (by simp only [List.getElem?_toArray, List.getElem?_cons_succ, List.getElem?_cons_zero]; rfl) (by kernel_rfl) (fun _ _ _ _ _ h => h) ⟨(by rfl), (by intro c h; cases h), ?_⟩ hHeld ?_
            rotate_left
            focus (intro wS hSw; (try replace hSw := HSF.out wS hSw); (try dsimp only at hSw); go_simp; (try with_reducible rfl))
            (try simp only [Act.put, List.setIfInBounds_toArray, List.set_cons_zero, List.set_cons_succ])
            refine wpAnyG_pure 4 (v := ?_) (fun _ => trivial) (by simp only [List.getElem?_toArray, List.getElem?_cons_succ, List.getElem?_cons_zero]; rfl) (by kernel_rfl) (fun _ _ _ _ _ h => h) ⟨(by rfl), (by intro c h; cases h), ?_⟩ hHeld ?_
            rotate_left
            focus (intro wS hSw; (try replace hSw := HSF.out wS hSw); (try dsimp only at hSw); go_simp; (try with_reducible rfl))
            (try simp only [Act.put, List.setIfInBounds_toArray, List.set_cons_zero, List.set_cons_succ])
            refine wpAnyG_pure 5 (v := ?_) (fun _ => trivial) (by simp only [List.getElem?_toArray, List.getElem?_cons_succ, List.getElem?_cons_zero]; rfl) (by kernel_rfl) (fun _ _ _ _ _ h => h) ⟨(by rfl), (by intro c h; cases h), ?_⟩ hHeld ?_
            rotate_left
            focus (intro wS hSw; (try replace hSw := HSF.out wS hSw); (try dsimp only at hSw); go_simp; (try with_reducible rfl))
            (try simp only [Act.put, List.setIfInBounds_toArray, List.set_cons_zero, List.set_cons_succ])
            refine wpAnyG_pure 6 (v := ?_) (fun _ => trivial) (by simp only [List.getElem?_toArray, List.getElem?_cons_succ, List.getElem?_cons_zero]; rfl) (by kernel_rfl) (fun _ _ _ _ _ h => h) ⟨(by rfl), (by intro c h; cases h), ?_⟩ hHeld ?_
            rotate_left
            focus (intro wS hSw; (try replace hSw := HSF.out wS hSw); (try dsimp only at hSw); go_simp; (try with_reducible rfl))
            (try simp only [Act.put, List.setIfInBounds_toArray, List.set_cons_zero, List.set_cons_succ])
            refine wpAnyG_take 7 (v := ?_) (fun _ => trivial) (by simp only [List.getElem?_toArray, List.getElem?_cons_succ, List.getElem?_cons_zero]; rfl) (by kernel_rfl) (fun _ _ _ _ _ h => h) ⟨(by rfl), (by intro c h; cases h), ?_⟩ hHeld ?_
            rotate_left
            focus (intro wS hSw; (try replace hSw := HSF.out wS hSw); (try dsimp only at hSw); go_simp; (try with_reducible rfl))
            (try simp only [Act.put, List.setIfInBounds_toArray, List.set_cons_zero, List.set_cons_succ])
            refine wpAnyG_pure 8 (v := ?_) (fun _ => trivial) (by simp only [List.getElem?_toArray, List.getElem?_cons_succ, List.getElem?_cons_zero]; rfl) (by kernel_rfl) (fun _ _ _ _ _ h => h) ⟨(by rfl), (by intro c h; cases h), ?_⟩ hHeld ?_
            rotate_left
            focus (intro wS hSw; (try replace hSw := HSF.out wS hSw); (try dsimp only at hSw); go_simp; (try with_reducible rfl))
            (try simp only [Act.put, List.setIfInBounds_toArray, List.set_cons_zero, List.set_cons_succ])
            refine wpAnyS_done (by kernel_rfl) ?_
            clear hHeld HSF
            go_wp2_with fail
            go_ret
            exact ⟨ret_bool (by rw [hno.out]), HB.out.trans (BD.out.mono HB.out.size)⟩
        · have hno := hid (show decide (l1 = l2) = false by rw [hr2.out]; simp [e1])
          clear hr2
          refine wpAnyG_pure 0 (v := ?_) (fun _ => trivial) (by simp only [List.getElem?_toArray, List.getElem?_cons_succ, List.getElem?_cons_zero]; rfl) (by kernel_rfl) (fun _ _ _ _ _ h => h) ⟨(by rfl), (by intro c h; cases h), ?_⟩ hHeld ?_
          rotate_left
          focus (intro wS hSw; (try replace hSw := HSF.out wS hSw); (try dsimp only at hSw); go_simp; (try with_reducible rfl))
          (try simp only [Act.put, List.setIfInBounds_toArray, List.set_cons_zero, List.set_cons_succ])
          refine wpAnyG_pure 1 (v := ?_) (fun _ => trivial) (by simp only [List.getElem?_toArray, List.getElem?_cons_succ, List.getElem?_cons_zero]; rfl) (by kernel_rfl) (fun _ _ _ _ _ h => h) ⟨(by rfl), (by intro c h; cases h), ?_⟩ hHeld ?_
          rotate_left
          focus (intro wS hSw; (try replace hSw := HSF.out wS hSw); (try dsimp only at hSw); go_simp; (try with_reducible rfl))
          (try simp only [Act.put, List.setIfInBounds_toArray, List.set_cons_zero, List.set_cons_succ])
          refine wpAnyG_pure 2 (v := ?_) (fun _ => trivial) (by simp only [List.getElem?_toArray, List.getElem?_cons_succ, List.getElem?_cons_zero]; rfl) (by kernel_rfl) (fun _ _ _ _ _ h => h) ⟨(by rfl), (by intro c h; cases h), ?_⟩ hHeld ?_
          rotate_left
          focus (intro wS hSw; (try replace hSw := HSF.out wS hSw); (try dsimp only at hSw); go_simp; (try with_reducible rfl))
          (try simp only [Act.put, List.setIfInBounds_toArray, List.set_cons_zero, List.set_cons_succ])
          refine wpAnyG_take 3 (v := ?_) (fun _ => trivial) (by simp only [List.getElem?_toArray, List.getElem?_cons_succ, List.getElem?_cons_zero]; rfl) (by kernel_rfl) (fun _ _ _ _ _ h => h) ⟨(by rfl), (by intro c h; cases h), ?_⟩ hHeld ?_
          rotate_left
          focus (intro wS hSw; (try replace hSw := HSF.out wS hSw); (try dsimp only at hSw); go_simp; (try with_reducible rfl))
          (try simp only [Act.put, List.setIfInBounds_toArray, List.set_cons_zero, List.set_cons_succ])
          refine wpAnyG_pure 4 (v := ?_) (fun _ => trivial) (by simp only [List.getElem?_toArray, List.getElem?_cons_succ, List.getElem?_cons_zero]; rfl) (by kernel_rfl) (fun _ _ _ _ _ h => h) ⟨(by rfl), (by intro c h; cases h), ?_⟩ hHeld ?_
          rotate_left
          focus (intro wS hSw; (try replace hSw := HSF.out wS hSw); (try dsimp only at hSw); go_simp; (try with_reducible rfl))
          (try simp only [Act.put, List.setIfInBounds_toArray, List.set_cons_zero, List.set_cons_succ])
          refine wpAnyG_pure 5 (v := ?_) (fun _ => trivial) (by simp only [List.getElem?_toArray, List.getElem?_cons_succ, List.getElem?_cons_zero]; rfl) (by kernel_rfl) (fun _ _ _ _ _ h => h) ⟨(by rfl), (by intro c h; cases h), ?_⟩ hHeld ?_
          rotate_left
          focus (intro wS hSw; (try replace hSw := HSF.out wS hSw); (try dsimp only at hSw); go_simp; (try with_reducible rfl))
          (try simp only [Act.put, List.setIfInBounds_toArray, List.set_cons_zero, List.set_cons_succ])
          refine wpAnyG_pure 6 (v := ?_) (fun _ => trivial) (by simp only [List.getElem?_toArray, List.getElem?_cons_succ, List.getElem?_cons_zero]; rfl) (by kernel_rfl) (fun _ _ _ _ _ h => h) ⟨(by rfl), (by intro c h; cases h), ?_⟩ hHeld ?_
          rotate_left
          focus (intro wS hSw; (try replace hSw := HSF.out wS hSw); (try dsimp only at hSw); go_simp; (try with_reducible rfl))
          (try simp only [Act.put, List.setIfInBounds_toArray, List.set_cons_zero, List.set_cons_succ])
          refine wpAnyG_take 7 (v := ?_) (fun _ => trivial) (by simp only [List.getElem?_toArray, List.getElem?_cons_succ, List.getElem?_cons_zero]; rfl) (by kernel_rfl) (fun _ _ _ _ _ h => h) ⟨(by rfl), (by intro c h; cases h), ?_⟩ hHeld ?_
          rotate_left
          focus (intro wS hSw; (try replace hSw := HSF.out wS hSw); (try dsimp only at hSw); go_simp; (try with_reducible rfl))
          (try simp only [Act.put, List.setIfInBounds_toArray, List.set_cons_zero, List.set_cons_succ])
          refine wpAnyG_pure 8 (v := ?_) (fun _ => trivial) (by simp only [List.getElem?_toArray, List.getElem?_cons_succ, List.getElem?_cons_zero]; rfl) (by kernel_rfl) (fun _ _ _ _ _ h => h) ⟨(by rfl), (by intro c h; cases h), ?_⟩ hHeld ?_
          rotate_left
          focus (intro wS hSw; (try replace hSw := HSF.out wS hSw); (try dsimp only at hSw); go_simp; (try with_reducible rfl))
          (try simp only [Act.put, List.setIfInBounds_toArray, List.set_cons_zero, List.set_cons_succ])
          refine wpAnyS_done (by kernel_rfl) ?_
          clear hHeld HSF
          go_wp2_with fail
          go_ret
          exact ⟨ret_bool (by rw [hno.out]), HB.out.trans (BD.out.mono HB.out.size)⟩
      · obtain rfl : k = l1.length := by omega
        have hall := hid (show decide (l1 = l2) = true by rw [hr.out]; simp [Hn.out])
        go_wp2_with fail
        go_ret
        exact ⟨ret_bool (by rw [hall.out]), HB.out⟩
  · have e2 : ((l1.length : Int) != (l2.length : Int)) = true := by simp; omega
    have hne := hid (show decide (l1 = l2) = false by simp; intro e; exact hn (by rw [e]))
    clear hs1 hs2
    go_enter Tryz.func24, Tryz.ntmps24
    go_wp2_with fail
    go_ret
    exact ⟨ret_bool (by rw [hne.out]), Below.refl _ _⟩
end Go.Proofs.YtgbgcmhmlnmklaaGreatDoor
namespace Go.Proofs.YtgbgcmhmlnmklaaGreatDoor
open Go.RowKit Go.IntWalk
/-- What Do says where a place is no place. -/
def noDo (e : Int) : Ending := .returned (.tuple #[.agg #[.slice none 0 0, .int .i64 0], .int .i64 e])
set_option maxRecDepth 100000 in
theorem do_range (A : Option Addr) (c : Nat) (l : List Bool) (t a b : Int) (w : World) (h : a < 0 ∨ (l.length : Int) ≤ a ∨ b < 0 ∨ (l.length : Int) ≤ b) :
    Calls Tryz.prog 17 #[.agg #[.slice A l.length c, .int .i64 t], .agg #[.int .i64 a, .int .i64 b]] w fun e w' => e = noDo 3 ∧ Below w.heap.size w w' := by
  have hz := zeroLayout
  by_cases h1 : a < 0
  · go_enter Tryz.func17, Tryz.ntmps17
    go_wp2
    exact bodyPost_ret (v := .tuple #[.agg #[.slice none 0 0, .int .i64 0], .int .i64 3]) (by simp [results, Tryz.results17, go_sem]) rfl ⟨rfl, by (repeat (first | exact Below.refl _ _ | assumption | refine below_drewN ?_ _ | refine Below.drew ?_ | refine Below.alloc ?_ (by (try simp); (try omega)) _ | refine Below.setCell ?_ (by (try simp); (try omega)) _))⟩
  · by_cases h2 : (l.length : Int) ≤ a
    · go_enter Tryz.func17, Tryz.ntmps17
      go_wp2
      exact bodyPost_ret (v := .tuple #[.agg #[.slice none 0 0, .int .i64 0], .int .i64 3]) (by simp [results, Tryz.results17, go_sem]) rfl ⟨rfl, by (repeat (first | exact Below.refl _ _ | assumption | refine below_drewN ?_ _ | refine Below.drew ?_ | refine Below.alloc ?_ (by (try simp); (try omega)) _ | refine Below.setCell ?_ (by (try simp); (try omega)) _))⟩
    · by_cases h3 : b < 0
      · go_enter Tryz.func17, Tryz.ntmps17
        go_wp2
        exact bodyPost_ret (v := .tuple #[.agg #[.slice none 0 0, .int .i64 0], .int .i64 3]) (by simp [results, Tryz.results17, go_sem]) rfl ⟨rfl, by (repeat (first | exact Below.refl _ _ | assumption | refine below_drewN ?_ _ | refine Below.drew ?_ | refine Below.alloc ?_ (by (try simp); (try omega)) _ | refine Below.setCell ?_ (by (try simp); (try omega)) _))⟩
      · have h4 : (l.length : Int) ≤ b := by omega
        clear h
        go_enter Tryz.func17, Tryz.ntmps17
        go_wp2
        exact bodyPost_ret (v := .tuple #[.agg #[.slice none 0 0, .int .i64 0], .int .i64 3]) (by simp [results, Tryz.results17, go_sem]) rfl ⟨rfl, by (repeat (first | exact Below.refl _ _ | assumption | refine below_drewN ?_ _ | refine Below.drew ?_ | refine Below.alloc ?_ (by (try simp); (try omega)) _ | refine Below.setCell ?_ (by (try simp); (try omega)) _))⟩
set_option maxRecDepth 100000 in
theorem do_range_r (A : Option Addr) (c : Nat) (l : List Bool) (t a b : Int) (w : World) (h : a < 0 ∨ (l.length : Int) ≤ a ∨ b < 0 ∨ (l.length : Int) ≤ b) :
    Calls Tryz.prog 18 #[.agg #[.slice A l.length c, .int .i64 t], .agg #[.int .i64 a, .int .i64 b]] w fun e w' => e = noDo 3 ∧ Below w.heap.size w w' := by
  have hz := zeroLayout
  by_cases h1 : a < 0
  · go_enter Tryz.func18, Tryz.ntmps18
    go_wp2
    exact bodyPost_ret (v := .tuple #[.agg #[.slice none 0 0, .int .i64 0], .int .i64 3]) (by simp [results, Tryz.results18, go_sem]) rfl ⟨rfl, by (repeat (first | exact Below.refl _ _ | assumption | refine below_drewN ?_ _ | refine Below.drew ?_ | refine Below.alloc ?_ (by (try simp); (try omega)) _ | refine Below.setCell ?_ (by (try simp); (try omega)) _))⟩
  · by_cases h2 : (l.length : Int) ≤ a
    · go_enter Tryz.func18, Tryz.ntmps18
      go_wp2
      exact bodyPost_ret (v := .tuple #[.agg #[.slice none 0 0, .int .i64 0], .int .i64 3]) (by simp [results, Tryz.results18, go_sem]) rfl ⟨rfl, by (repeat (first | exact Below.refl _ _ | assumption | refine below_drewN ?_ _ | refine Below.drew ?_ | refine Below.alloc ?_ (by (try simp); (try omega)) _ | refine Below.setCell ?_ (by (try simp); (try omega)) _))⟩
    · by_cases h3 : b < 0
      · go_enter Tryz.func18, Tryz.ntmps18
        go_wp2
        exact bodyPost_ret (v := .tuple #[.agg #[.slice none 0 0, .int .i64 0], .int .i64 3]) (by simp [results, Tryz.results18, go_sem]) rfl ⟨rfl, by (repeat (first | exact Below.refl _ _ | assumption | refine below_drewN ?_ _ | refine Below.drew ?_ | refine Below.alloc ?_ (by (try simp); (try omega)) _ | refine Below.setCell ?_ (by (try simp); (try omega)) _))⟩
      · have h4 : (l.length : Int) ≤ b := by omega
        clear h
        go_enter Tryz.func18, Tryz.ntmps18
        go_wp2
        exact bodyPost_ret (v := .tuple #[.agg #[.slice none 0 0, .int .i64 0], .int .i64 3]) (by simp [results, Tryz.results18, go_sem]) rfl ⟨rfl, by (repeat (first | exact Below.refl _ _ | assumption | refine below_drewN ?_ _ | refine Below.drew ?_ | refine Below.alloc ?_ (by (try simp); (try omega)) _ | refine Below.setCell ?_ (by (try simp); (try omega)) _))⟩
set_option maxRecDepth 100000 in
theorem do_place (A : Option Addr) (c : Nat) (l : List Bool) (t : Int) (a b : Nat) (w : World) (hs : SlR w w.heap.size A l) (ha : a < l.length) (hb : b < l.length) (h : l[a] = false ∨ l[b] = true) :
    Calls Tryz.prog 17 #[.agg #[.slice A l.length c, .int .i64 t], .agg #[.int .i64 (a : Nat), .int .i64 (b : Nat)]] w fun e w' => e = noDo 13 ∧ Below w.heap.size w w' := by
  have hz := zeroLayout
  obtain ⟨bl, ol, rfl, hbl, hca⟩ := hs.bool ha
  have hcb := hs.bool_at hb
  have hai : (a : Int) < l.length := by omega
  have hbi : (b : Int) < l.length := by omega
  have hbl1 : bl < w.heap.size + 1 := by omega
  have hbl2 : bl < w.heap.size + 1 + 1 := by omega
  clear hs
  by_cases hla : l[a] = true
  · have hlb : l[b] = true := by rcases h with h | h <;> simp_all
    clear h
    rw [hla] at hca
    rw [hlb] at hcb
    go_enter Tryz.func17, Tryz.ntmps17
    go_wp2
    exact bodyPost_ret (v := .tuple #[.agg #[.slice none 0 0, .int .i64 0], .int .i64 13]) (by simp [results, Tryz.results17, go_sem]) rfl ⟨rfl, by (repeat (first | exact Below.refl _ _ | assumption | refine below_drewN ?_ _ | refine Below.drew ?_ | refine Below.alloc ?_ (by (try simp); (try omega)) _ | refine Below.setCell ?_ (by (try simp); (try omega)) _))⟩
  · have hlf : l[a] = false := by simpa using hla
    clear h hla hcb
    rw [hlf] at hca
    go_enter Tryz.func17, Tryz.ntmps17
    go_wp2
    exact bodyPost_ret (v := .tuple #[.agg #[.slice none 0 0, .int .i64 0], .int .i64 13]) (by simp [results, Tryz.results17, go_sem]) rfl ⟨rfl, by (repeat (first | exact Below.refl _ _ | assumption | refine below_drewN ?_ _ | refine Below.drew ?_ | refine Below.alloc ?_ (by (try simp); (try omega)) _ | refine Below.setCell ?_ (by (try simp); (try omega)) _))⟩
set_option maxRecDepth 100000 in
theorem do_place_r (A : Option Addr) (c : Nat) (l : List Bool) (t : Int) (a b : Nat) (w : World) (hs : SlR w w.heap.size A l) (ha : a < l.length) (hb : b < l.length) (h : l[a] = false ∨ l[b] = true) :
    Calls Tryz.prog 18 #[.agg #[.slice A l.length c, .int .i64 t], .agg #[.int .i64 (a : Nat), .int .i64 (b : Nat)]] w fun e w' => e = noDo 13 ∧ Below w.heap.size w w' := by
  have hz := zeroLayout
  obtain ⟨bl, ol, rfl, hbl, hca⟩ := hs.bool ha
  have hcb := hs.bool_at hb
  have hai : (a : Int) < l.length := by omega
  have hbi : (b : Int) < l.length := by omega
  have hbl1 : bl < w.heap.size + 1 := by omega
  have hbl2 : bl < w.heap.size + 1 + 1 := by omega
  clear hs
  by_cases hla : l[a] = true
  · have hlb : l[b] = true := by rcases h with h | h <;> simp_all
    clear h
    rw [hla] at hca
    rw [hlb] at hcb
    go_enter Tryz.func18, Tryz.ntmps18
    go_wp2
    exact bodyPost_ret (v := .tuple #[.agg #[.slice none 0 0, .int .i64 0], .int .i64 13]) (by simp [results, Tryz.results18, go_sem]) rfl ⟨rfl, by (repeat (first | exact Below.refl _ _ | assumption | refine below_drewN ?_ _ | refine Below.drew ?_ | refine Below.alloc ?_ (by (try simp); (try omega)) _ | refine Below.setCell ?_ (by (try simp); (try omega)) _))⟩
  · have hlf : l[a] = false := by simpa using hla
    clear h hla hcb
    rw [hlf] at hca
    go_enter Tryz.func18, Tryz.ntmps18
    go_wp2
    exact bodyPost_ret (v := .tuple #[.agg #[.slice none 0 0, .int .i64 0], .int .i64 13]) (by simp [results, Tryz.results18, go_sem]) rfl ⟨rfl, by (repeat (first | exact Below.refl _ _ | assumption | refine below_drewN ?_ _ | refine Below.drew ?_ | refine Below.alloc ?_ (by (try simp); (try omega)) _ | refine Below.setCell ?_ (by (try simp); (try omega)) _))⟩
end Go.Proofs.YtgbgcmhmlnmklaaGreatDoor
