
/- Layouts: the rank, for right layouts. -/
import Derived.Test.YtgbgcmhmlnmklaaGreatDoorLayB
set_option linter.unusedSimpArgs false
set_option linter.unusedVariables false
namespace Go.Proofs.YtgbgcmhmlnmklaaGreatDoor
open Go.RowKit Go.IntWalk

set_option maxRecDepth 100000 in
set_option maxHeartbeats 1000000 in
theorem rank_any (A : Option Addr) (c : Nat) (l : List Bool) (t : Nat) (w : World) (hs : SlR w w.heap.size A l) (hr : RightN l t) :
    Calls Tryz.prog 19 #[.agg #[.slice A l.length c, .int .i64 t]] w fun e w' => e = .returned (.int .i64 (rankN l t)) ∧ Below w.heap.size w w' := by
  obtain ⟨c1, c2, c3, c4⟩ := hr.count
  obtain ⟨h1, h2, ht, hb⟩ := hr
  have Hb := hid hb
  have C3 := hid c3
  have C4 := hid c4
  clear hb c3 c4
  go_enter Tryz.func19, Tryz.ntmps19
  go_wp2_with fail
  have hB0 : Below w.heap.size w (w.alloc (Obj.cells #[Value.slice A l.length c, Value.int IntKind.i64 t] 27)) := (Below.refl _ _).alloc (Nat.le_refl _) _
  refine (choose_any _).mono ?_
  rintro e w1 ⟨rfl, hT, hB1, hz1⟩
  have hc0 : w1.cell? ⟨w.heap.size, 0, none⟩ = some (.slice A l.length c) := (bcell hB1 _ 0 (by simp)).trans (by simp [go_sem])
  have hc1 : w1.cell? ⟨w.heap.size, 1, none⟩ = some (.int .i64 t) := (bcell hB1 _ 1 (by simp)).trans (by simp [go_sem])
  rw [show (w.alloc (Obj.cells #[Value.slice A l.length c, Value.int IntKind.i64 t] 27)).heap.size = w.heap.size + 1 by simp] at hT hB1 hz1
  have hb1 := hB0.trans (hB1.mono (by simp))
  have hs1 := hs.below hb1
  have hz2 : w.heap.size < w1.heap.size := by omega
  clear hB1 hB0
  go_wp2_with fail
  have hx := fun x : Ext (GB w1) => GB.cell x
  have cs := hid fun x : Ext (GB w1) => GB.call (x := x) (shelves_any A c l t x.w (by unfold maxLen; omega) ((hs1.below (x.h.out.mono (by omega))).more (by have := GB.size x; omega)))
  refine wp_region_ext (GB w1) (by kernel_rfl) (by kernel_rfl) (GB.refl _) ?_
  repeat (go_big_quiet_step (exact cs.out _))
  refine wpQuiet_nil ?_
  intro w2 hG2
  have hc0 := (bcell hG2 w.heap.size 0 (by omega)).trans hc0
  have hc1 := (bcell hG2 w.heap.size 1 (by omega)).trans hc1
  replace hT := hT.below hG2 hz1
  have hb2 := hb1.trans (hG2.out.mono (by omega))
  have hs2 := hs.below hb2
  have hz3 := Nat.lt_of_lt_of_le hz1 hG2.out.size
  clear hx cs hG2 hs1 hb1 hz1 hz2
  have t1 := hT.cell (l.length - 1) (l.count true - 1) (by omega) (by omega)
  have hbb := binom_le (l.length - 1) (l.count true - 1) (by omega)
  have hm : (t:Int) * (binom (l.length - 1) (l.count true - 1) : Int) ≤ 24 * 16777216 := Int.mul_le_mul (by omega) (by omega) (by omega) (by omega)
  have hm0 : 0 ≤ (t:Int) * (binom (l.length - 1) (l.count true - 1) : Int) := Int.mul_nonneg (by omega) (by omega)
  have e1 : IntKind.i64.wrap ((t:Int) * (binom (l.length - 1) (l.count true - 1) : Int)) = (t:Int) * (binom (l.length - 1) (l.count true - 1) : Int) := IntWalk.i64_in _ (by omega)
  have i1 : (1:Int) ≤ l.length := by omega
  have i2 : (l.length : Int) ≤ 25 := by omega
  have i3 : (1:Int) ≤ l.count true := by omega
  have i4 : (l.count true : Int) ≤ 25 := by omega
  have e2 : IntKind.i64.wrap ((l.length:Int) - 1) = l.length - 1 := IntWalk.i64_in _ (by omega)
  have e3 : IntKind.i64.wrap ((l.count true:Int) - 1) = l.count true - 1 := IntWalk.i64_in _ (by omega)
  go_wp2_with fail
  go_quiet (fail)
  clear e1 e2 e3 t1
  go_wp2_with fail
  have R0 : Hid (t * binom (l.length - 1) (l.count true - 1) + rankO (restL l t 0) = rankN l t) := rfl
  go_loop [6, 7, 8, 36] (fun a b c d => ∃ i r : Nat, i ≤ l.length ∧ d = .int .i64 i ∧ a = .int .i64 r ∧ b = .int .i64 ((restL l t i).length : Nat) ∧ c = .int .i64 ((restL l t i).count true : Nat) ∧ Hid (r + rankO (restL l t i) = rankN l t))
    (fun _ _ _ d => l.length - (intOf d).toNat)
  case atStart => exact ⟨0, t * binom (l.length - 1) (l.count true - 1), by omega, rfl, by go_num, by rw [C3.out]; congr 1; omega, by rw [C4.out]; congr 1; omega, R0⟩
  case round =>
    clear R0 hbb hm hm0 i1 i2 i3 i4
    obtain ⟨i, r, hi, rfl, rfl, rfl, rfl, hr⟩ := hrel
    have hlen := restL_len l t i ht hi
    have hle : (restL l t i).length ≤ l.length := by rw [hlen]; split <;> omega
    have hcl : (restL l t i).count true ≤ (restL l t i).length := List.count_le_length
    by_cases hlt : i < l.length
    · obtain ⟨b, off, rfl, hbB, hcell⟩ := hs2.bool hlt
      have Hl := hid hlen
      clear hlen
      by_cases hit : i = t
      · have e1 : ((i:Int) == (t:Int)) = true := by simp [hit]
        have hh : Hid (restL l t i = restL l t (i+1)) := by rw [hit]; exact restL_at l t ht
        clear hit
        go_wp2
        go_round
        case rel =>
          have hh := hh.out
          rw [hh] at hr ⊢
          exact ⟨i+1, r, by omega, by go_num, rfl, rfl, rfl, hr⟩
        case measure => simp [intOf]; omega
      · have e1 : ((i:Int) == (t:Int)) = false := by simp; omega
        have hst := restL_step l t i hlt hit
        have Hst := hid hst
        cases hb : l[i] with
        | true =>
          rw [hb] at hcell hst
          have f1 : (restL l t i).length = (restL l t (i+1)).length + 1 := by rw [hst]; simp
          have f2 : (restL l t i).count true = (restL l t (i+1)).count true + 1 := by rw [hst]; simp
          have f3 : Hid (r + rankO (restL l t (i+1)) = rankN l t) := by have := hr.out; rw [hst] at this; exact this
          have F1 := hid f1
          have F2 := hid f2
          have g1 : (1:Int) ≤ (restL l t i).length := by omega
          have g2 : (1:Int) ≤ (restL l t i).count true := by omega
          clear hst f1 f2
          go_wp2
          go_round
          case rel => exact ⟨i+1, r, by omega, by go_num, rfl, by rw [F1.out]; congr 1; omega, by rw [F2.out]; congr 1; omega, f3⟩
          case measure => simp [intOf]; omega
        | false =>
          rw [hb] at hcell hst
          have f1 : (restL l t i).length = (restL l t (i+1)).length + 1 := by rw [hst]; simp
          have f2 : (restL l t i).count true = (restL l t (i+1)).count true := by rw [hst]; simp
          have F1 := hid f1
          have F2 := hid f2
          have g1 : (1:Int) ≤ (restL l t i).length := by omega
          by_cases hn : 0 < (restL l t (i+1)).count true
          · have f3 : Hid (r + binom ((restL l t i).length - 1) ((restL l t i).count true - 1) + rankO (restL l t (i+1)) = rankN l t) := by
              have := hr.out; rw [hst] at this; rw [f1, f2, Nat.add_sub_cancel]; simp only [rankO, if_pos hn] at this; unfold Hid; omega
            have g2 : (1:Int) ≤ (restL l t i).count true := by omega
            have g3 : true ∈ restL l t i := List.count_pos_iff.1 (by omega)
            have hcl2 := hT.cell ((restL l t i).length - 1) ((restL l t i).count true - 1) (by omega) (by omega)
            have hrr : rankN l t ≤ 24 * 16777216 := by
              have h5 := rankN_lt (l := l) (t := t) ⟨h1, h2, ht, Hb.out⟩
              have h6 := binom_le (l.length - 1) (l.count true - 1) (by omega)
              have h7 := Nat.mul_le_mul h2 h6
              omega
            have hr2 : r + binom ((restL l t i).length - 1) ((restL l t i).count true - 1) ≤ 24 * 16777216 := by have := f3.out; omega
            clear hst f1 f2 hrr
            go_wp2
            go_round
            case rel => exact ⟨i+1, _, by omega, by go_num, by go_num, by rw [F1.out]; congr 1; omega, by rw [F2.out], f3⟩
            case measure => simp [intOf]; omega
          · have f3 : Hid (r + rankO (restL l t (i+1)) = rankN l t) := by
              have := hr.out; rw [hst] at this; simp only [rankO, if_neg hn] at this; unfold Hid; omega
            have g2 : ¬ true ∈ restL l t i := fun h => by have := List.count_pos_iff.2 h; omega
            clear hst f1 f2
            go_wp2
            go_round
            case rel => exact ⟨i+1, _, by omega, by go_num, rfl, by rw [F1.out]; congr 1; omega, by rw [F2.out], f3⟩
            case measure => simp [intOf]; omega
    · have hend : Hid (r = rankN l t) := by
        have e : i = l.length := by omega
        have := hr.out; rw [e, restL_end l t ht] at this; exact this
      clear hlen
      go_wp2
      go_ret
      exact ⟨ret_int (by rw [hend.out]), below_drewN hb2 nq⟩
end Go.Proofs.YtgbgcmhmlnmklaaGreatDoor
