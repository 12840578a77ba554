
/- Stock: Right. -/
import Derived.Test.YtfpehakllnkaeaaGreatDoorStkF
set_option linter.unusedSimpArgs false
set_option linter.unusedVariables false
namespace Go.Proofs.YtfpehakllnkaeaaGreatDoor
open Go.RowKit Go.IntWalk

theorem all_drop {α : Type} {p : α → Bool} {l : List α} {k : Nat} (h : k < l.length) : (l.drop k).all p = (p l[k] && (l.drop (k + 1)).all p) := by rw [List.drop_eq_getElem_cons h]; rfl
theorem cnt_of_box {n : Int} {bs : List Bx} (h : bs.all (boxF n) = true) : CntOK bs := fun b hb => by
  have := List.all_eq_true.1 h b hb
  simp only [boxF, btw, Bool.and_eq_true, decide_eq_true_eq] at this
  omega
set_option maxRecDepth 100000 in
set_option maxHeartbeats 4000000 in
theorem sright_any (A B C : Option Addr) (c d e0 : Nat) (ks : List Kd) (lots : List Lt) (bs : List Bx) (w : World) (hk : ks.length ≤ 1000000) (hl : lots.length ≤ maxLen) (hb : bs.length ≤ maxLen) (h1 : SlR w w.heap.size A ks) (h2 : SlR w w.heap.size B lots) (h3 : SlR w w.heap.size C bs) :
    Calls Tryz.prog 9 #[.slice A ks.length c, .slice B lots.length d, .slice C bs.length e0] w fun e w' => e = .returned (.bool (rightS ks lots bs)) ∧ Below w.heap.size w w' := by
  unfold maxLen at hl hb
  have HR := hid (show rightS ks lots bs = (decide (lots.length ≤ 2000) && decide (bs.length ≤ 3000) && kindsF ks && lots.all (lotF ks.length) && bs.all (boxF lots.length) && decide (unitsL bs ≤ 20000)) from rfl)
  have HK := hid (rightKinds_any A c ks w hk h1)
  have HBT := hid between_any
  clear h1
  by_cases hl2 : lots.length ≤ 2000
  case neg =>
    have hf := hid (show rightS ks lots bs = false by rw [HR.out]; simp [hl2])
    have hl3 : (2000 : Int) < lots.length := by omega
    clear hl2
    as_aux_lemma =>
      go_enter Tryz.func9, Tryz.ntmps9
      go_wp2_with fail
      go_ret
      exact ⟨ret_bool hf.out.symm, Below.refl _ _⟩
  by_cases hb2 : bs.length ≤ 3000
  case neg =>
    have hf := hid (show rightS ks lots bs = false by rw [HR.out]; simp [hb2])
    have hl3 : (3000 : Int) < bs.length := by omega
    clear hb2
    as_aux_lemma =>
      go_enter Tryz.func9, Tryz.ntmps9
      go_wp2_with fail
      go_ret
      exact ⟨ret_bool hf.out.symm, Below.refl _ _⟩
  have HL2 := hid hl2; have HB2 := hid hb2
  have hlI : (lots.length : Int) ≤ 2000 := by omega
  have hbI : (bs.length : Int) ≤ 3000 := by omega
  clear hl2 hb2
  go_enter Tryz.func9, Tryz.ntmps9
  go_wp2_with fail
  refine HK.out.mono ?_
  rintro e w2 ⟨rfl, hB2⟩
  have B2 := hid hB2
  clear hB2 HK
  cases hkf : kindsF ks with
  | false =>
    have hf := hid (show rightS ks lots bs = false by rw [HR.out, hkf]; simp)
    as_aux_lemma =>
      go_wp2_with fail
      go_ret
      exact ⟨ret_bool hf.out.symm, B2.out⟩
  | true =>
    rw [hkf] at HR
    have HKF := hid hkf
    clear hkf
    go_wp2_with fail
    go_loopw [26] (fun i wr => ∃ k : Nat, k ≤ lots.length ∧ i = .int .i64 k ∧ lots.all (lotF ks.length) = (lots.drop k).all (lotF ks.length) ∧ Below w.heap.size w wr) (fun i _ => lots.length - (intOf i).toNat)
    case atStart => exact ⟨0, by omega, rfl, by simp, B2.out⟩
    case round =>
      obtain ⟨k, hk9, rfl, hA, hB⟩ := hrel
      have HB := hid hB; have HA := hid hA
      by_cases hlt : k < lots.length
      case pos =>
        have hltI : (k : Int) < lots.length := by omega
        have HST := hid (all_drop (p := lotF ks.length) hlt)
        obtain ⟨b, off, rfl, hbz, c0, c1, c2, -, -⟩ := h2.lt hlt
        replace c0 := (bcell hB b _ hbz).trans c0
        replace c1 := (bcell hB b _ hbz).trans c1
        replace c2 := (bcell hB b _ hbz).trans c2
        have hz : b < wr.heap.size := by have := hB.size; omega
        have hwz := hB.size
        clear hA hB
        generalize lots[k] = x at *
        obtain ⟨lk, le, lf⟩ := x
        simp only at c0 c1 c2
        have hlf := hid (show lotF ks.length (lk, le, lf) = (btw lk 0 (ks.length - 1) && btw le 0 20000) from rfl)
        have hw1 : IntKind.i64.wrap ((ks.length : Int) - 1) = ks.length - 1 := IntWalk.i64_in _ (by omega)
        have B3 := hid (HB.out.alloc hwz (Obj.cells #[.int .i64 lk, .int .i64 le, .bool lf] 40))
        have X3 := hid (Blk.new wr 40 #[.int .i64 lk, .int .i64 le, .bool lf])
        go_wp2_with fail
        refine (HBT.out _ _ _ _).mono ?_
        rintro e w4 ⟨rfl, hB4⟩
        have X4 := hid (X3.out.below hB4 X3.out.lt)
        have B4 := hid (B3.out.trans (hB4.mono B3.out.size))
        clear hB4 X3 B3 c0 c1 c2
        cases q1 : btw lk 0 (ks.length - 1) with
        | false =>
          have hf := hid (show rightS ks lots bs = false by rw [HR.out, HA.out, HST.out, hlf.out, q1]; simp)
          as_aux_lemma =>
            go_wp2_with fail
            go_ret
            exact ⟨ret_bool hf.out.symm, B4.out⟩
        | true =>
          have x1 := X4.out.cell 1; have xz := X4.out.lt
          simp at x1
          go_wp2_with fail
          refine (HBT.out _ _ _ _).mono ?_
          rintro e w5 ⟨rfl, hB5⟩
          have B5 := hid (B4.out.trans (hB5.mono B4.out.size))
          clear hB5 X4 B4 x1 xz
          cases q2 : btw le 0 20000 with
          | false =>
            have hf := hid (show rightS ks lots bs = false by rw [HR.out, HA.out, HST.out, hlf.out, q1, q2]; simp)
            as_aux_lemma =>
              go_wp2_with fail
              go_ret
              exact ⟨ret_bool hf.out.symm, B5.out⟩
          | true =>
            have hf := hid (show lots.all (lotF ks.length) = (lots.drop (k + 1)).all (lotF ks.length) by rw [HA.out, HST.out, hlf.out, q1, q2]; rfl)
            as_aux_lemma =>
              go_wp2_with fail
              go_roundw
              case rel => exact ⟨k + 1, by omega, by go_num, hf.out, B5.out⟩
              case measure => simp [intOf]; omega
      obtain rfl : k = lots.length := by omega
      have HAll := hid (show lots.all (lotF ks.length) = true by rw [hA, List.drop_length]; rfl)
      rw [HAll.out] at HR
      clear hA HA hB hlt hk9
      go_wp2_with fail
      go_loopw [46] (fun i wr => ∃ k : Nat, k ≤ bs.length ∧ i = .int .i64 k ∧ bs.all (boxF lots.length) = (bs.drop k).all (boxF lots.length) ∧ Below w.heap.size w wr) (fun i _ => bs.length - (intOf i).toNat)
      case atStart => exact ⟨0, by omega, rfl, by simp, HB.out⟩
      case round =>
        clear HB
        obtain ⟨k, hk9, rfl, hA, hB⟩ := hrel
        have HB := hid hB; have HA := hid hA
        by_cases hlt : k < bs.length
        case pos =>
          have hltI : (k : Int) < bs.length := by omega
          have HST := hid (all_drop (p := boxF lots.length) hlt)
          obtain ⟨b, off, rfl, hbz, c0, c1, c2, -⟩ := h3.i3 hlt
          replace c0 := (bcell hB b _ hbz).trans c0
          replace c1 := (bcell hB b _ hbz).trans c1
          replace c2 := (bcell hB b _ hbz).trans c2
          have hz : b < wr.heap.size := by have := hB.size; omega
          have hwz := hB.size
          clear hA hB
          generalize bs[k] = x at *
          obtain ⟨x0, x1, x2⟩ := x
          simp only at c0 c1 c2
          have B3 := hid (HB.out.alloc hwz (Obj.cells #[.int .i64 x0, .int .i64 x1, .int .i64 x2] 45))
          have HC := hid (rightBox_any (x0, x1, x2) lots.length (by omega) (wr.alloc (Obj.cells #[.int .i64 x0, .int .i64 x1, .int .i64 x2] 45)))
          go_wp2_with fail
          refine HC.out.mono ?_
          rintro e w5 ⟨rfl, hB5⟩
          have B5 := hid (B3.out.trans (hB5.mono B3.out.size))
          clear hB5 B3 HC c0 c1 c2
          cases q : boxF lots.length (x0, x1, x2) with
          | false =>
            have hf := hid (show rightS ks lots bs = false by rw [HR.out, HA.out, HST.out, q]; simp)
            as_aux_lemma =>
              go_wp2_with fail
              go_ret
              exact ⟨ret_bool hf.out.symm, B5.out⟩
          | true =>
            have hf := hid (show bs.all (boxF lots.length) = (bs.drop (k + 1)).all (boxF lots.length) by rw [HA.out, HST.out, q]; rfl)
            as_aux_lemma =>
              go_wp2_with fail
              go_roundw
              case rel => exact ⟨k + 1, by omega, by go_num, hf.out, B5.out⟩
              case measure => simp [intOf]; omega
        obtain rfl : k = bs.length := by omega
        have HAll := hid (show bs.all (boxF lots.length) = true by rw [hA, List.drop_length]; rfl)
        rw [HAll.out] at HR
        have HU := hid (units_any C e0 bs wr (by omega) ((h3.below hB).more hB.size) (cnt_of_box HAll.out))
        clear hA HA hB hlt hk9
        go_wp2_with fail
        refine HU.out.mono ?_
        rintro e w6 ⟨rfl, hB6⟩
        have B6 := hid (HB.out.trans (hB6.mono HB.out.size))
        clear hB6 HU HB
        have hf := hid (show rightS ks lots bs = decide (unitsL bs ≤ 20000) by rw [HR.out]; simp [HL2.out, HB2.out])
        by_cases hu : unitsL bs ≤ 20000
        · as_aux_lemma =>
            go_wp2_with fail
            go_ret
            refine ⟨ret_bool ?_, B6.out⟩
            rw [hf.out]
            try simp [hu]
        · as_aux_lemma =>
            go_wp2_with fail
            go_ret
            refine ⟨ret_bool ?_, B6.out⟩
            rw [hf.out]
            try simp [hu]
end Go.Proofs.YtfpehakllnkaeaaGreatDoor
