
/- Stock: Supply, Weight, a right want. -/
import Derived.Test.YtfpehakllnkaeaaGreatDoorStkD
set_option linter.unusedSimpArgs false
set_option linter.unusedVariables false
namespace Go.Proofs.YtfpehakllnkaeaaGreatDoor
open Go.RowKit Go.IntWalk

set_option maxRecDepth 100000 in
set_option maxHeartbeats 2000000 in
theorem supply_any (A B : Option Addr) (c d : Nat) (lots : List Lt) (bs : List Bx) (x : Wt) (w : World) (hl : lots.length ≤ maxLen) (hb : bs.length ≤ 100000) (h : SlR w w.heap.size A lots) (h2 : SlR w w.heap.size B bs) (hc : CntOK bs) (hlt : ∀ b ∈ bs, b.1 < lots.length) :
    Calls Tryz.prog 18 #[.slice A lots.length c, .slice B bs.length d, .agg #[.int .i64 x.1, .int .i64 x.2.1, .int .i64 x.2.2]] w fun e w' => e = .returned (.int .i64 (supplyL lots bs x)) ∧ Below w.heap.size w w' := by
  obtain ⟨wk, wc, wu⟩ := x
  simp only at *
  have B1 := hid (show Below w.heap.size w (w.alloc (Obj.cells #[.int .i64 wk, .int .i64 wc, .int .i64 wu] 42)) by (repeat (first | exact Below.refl _ _ | assumption | refine below_drewN ?_ _ | refine Below.drew ?_ | refine Below.alloc ?_ (by (try simp); (try omega)) _ | refine Below.setCell ?_ (by (try simp); (try omega)) _)))
  have Y1 := hid (Blk.new w 42 #[.int .i64 wk, .int .i64 wc, .int .i64 wu])
  have H := hid h; have HL := hid hl; have HLT := hid hlt
  clear h hl hlt
  go_enter Tryz.func18, Tryz.ntmps18
  go_wp2_with fail
  go_loopw [7, 12] (fun sv i wr => ∃ k : Nat, k ≤ bs.length ∧ i = .int .i64 k ∧ sv = .int .i64 (supplyL lots (bs.take k) (wk, wc, wu)) ∧ Below w.heap.size w wr ∧ Blk wr w.heap.size 42 #[.int .i64 wk, .int .i64 wc, .int .i64 wu]) (fun _ i _ => bs.length - (intOf i).toNat)
  case atStart => exact ⟨0, by omega, rfl, rfl, B1.out, Y1.out⟩
  case round =>
    obtain ⟨k, hk, rfl, rfl, hB, hY⟩ := hrel
    have HB := hid hB
    have HY := hid hY
    have hbd := hc.supply lots (wk, wc, wu) k
    by_cases hlt : k < bs.length
    · have hlt' : (k : Int) < bs.length := by omega
      have hcb := hc _ (List.getElem_mem hlt)
      have hll := HLT.out _ (List.getElem_mem hlt)
      obtain ⟨b, off, rfl, hbz, c0, c1, c2, -⟩ := h2.i3 hlt
      replace c0 := (bcell hB b _ hbz).trans c0
      replace c1 := (bcell hB b _ hbz).trans c1
      replace c2 := (bcell hB b _ hbz).trans c2
      have hz : b < wr.heap.size := by have := hB.size; omega
      have HT := hid (supplyL_take (lots := lots) (w := (wk, wc, wu)) hlt)
      have hsz := hB.size
      clear hB hY
      generalize bs[k] = x at *
      obtain ⟨x0, x1, x2⟩ := x
      simp only at *
      generalize supplyL lots (bs.take k) (wk, wc, wu) = s at *
      have hwr : IntKind.i64.wrap (s + x1) = s + x1 := IntWalk.i64_in _ (by omega)
      have B2 := hid (show Below w.heap.size w (wr.alloc (Obj.cells #[.int .i64 x0, .int .i64 x1, .int .i64 x2] 45)) from HB.out.alloc hsz _)
      have X2 := hid (Blk.new wr 45 #[.int .i64 x0, .int .i64 x1, .int .i64 x2])
      have Y2 := hid (HY.out.alloc (Obj.cells #[.int .i64 x0, .int .i64 x1, .int .i64 x2] 45))
      have HC := hid (fits_any A c lots (x0, x1, x2) (wk, wc, wu) _ HL.out ((H.out.below B2.out).more B2.out.size) hll)
      have y0 := HY.out.cell 0; have y1 := HY.out.cell 1; have y2 := HY.out.cell 2; have yz := HY.out.lt
      simp at y0 y1 y2
      clear HY
      go_wp2_with fail
      refine HC.out.mono ?_
      rintro e w5 ⟨rfl, hB5⟩
      have X5 := X2.out.below hB5 X2.out.lt
      have Y5 := hid (Y2.out.below hB5 Y2.out.lt)
      have B5 := hid (B2.out.trans (hB5.mono B2.out.size))
      have z1 := X5.cell 1; have zz := X5.lt
      simp at z1
      clear hB5 X5 X2 Y2 B2 HC y0 y1 y2 yz c0 c1 c2
      cases hq : hasF lots (wk, wc, wu) (x0, x1, x2) with
      | false =>
        rw [hq] at HT
        as_aux_lemma =>
          go_wp2_with fail
          go_roundw
          case rel => exact ⟨k + 1, by omega, by go_num, by rw [HT.out]; simp, B5.out, Y5.out⟩
          case measure => simp [intOf]; omega
      | true =>
        rw [hq] at HT
        as_aux_lemma =>
          go_wp2_with fail
          go_roundw
          case rel => exact ⟨k + 1, by omega, by go_num, by rw [HT.out]; simp, B5.out, Y5.out⟩
          case measure => simp [intOf]; omega
    · obtain rfl : k = bs.length := by omega
      rw [List.take_length]
      clear hB hY
      go_wp2_with fail
      go_ret
      exact ⟨rfl, HB.out⟩
set_option maxRecDepth 100000 in
set_option maxHeartbeats 2000000 in
theorem weight_any (A B : Option Addr) (c d : Nat) (ks : List Kd) (lots : List Lt) (b : Bx) (w : World) (hk : ks.length ≤ maxLen) (hl : lots.length ≤ maxLen) (h : SlR w w.heap.size A ks) (h2 : SlR w w.heap.size B lots) (hb : boxF lots.length b = true) (hL : lots.all (lotF ks.length) = true) (hK : ks.all kindF = true) :
    Calls Tryz.prog 16 #[.slice A ks.length c, .slice B lots.length d, .agg #[.int .i64 b.1, .int .i64 b.2.1, .int .i64 b.2.2]] w fun e w' => e = .returned (.int .i64 (weightF ks lots b)) ∧ Below w.heap.size w w' := by
  unfold maxLen at hk hl
  simp only [boxF, btw, Bool.and_eq_true, decide_eq_true_eq] at hb
  have HW := hid (show weightF ks lots b = if b.1 < 0 then b.2.2 else b.2.2 + b.2.1 * (ks.getD (lotAt lots b).1.toNat (ByteArray.empty, 0)).2 from rfl)
  have HL := hid (@lot_cells w w.heap.size B lots h2 b)
  have hlt : 0 ≤ b.1 → 0 ≤ (lotAt lots b).1 ∧ (lotAt lots b).1 < ks.length := fun h0 => by
    have hk : b.1.toNat < lots.length := by omega
    have e : lotAt lots b = lots[b.1.toNat] := by simp [lotAt, hk]
    rw [e]
    have := List.all_eq_true.1 hL _ (List.getElem_mem hk)
    simp only [lotF, btw, Bool.and_eq_true, decide_eq_true_eq] at this
    omega
  generalize lotAt lots b = lt at *
  obtain ⟨lot, cnt, tare⟩ := b
  obtain ⟨lk, le, lf⟩ := lt
  simp only at *
  have B1 := hid (show Below w.heap.size w (w.alloc (Obj.cells #[.int .i64 lot, .int .i64 cnt, .int .i64 tare] 45)) by (repeat (first | exact Below.refl _ _ | assumption | refine below_drewN ?_ _ | refine Below.drew ?_ | refine Below.alloc ?_ (by (try simp); (try omega)) _ | refine Below.setCell ?_ (by (try simp); (try omega)) _)))
  by_cases h0 : 0 ≤ lot
  · obtain ⟨k, rfl⟩ := Int.eq_ofNat_of_zero_le h0
    obtain ⟨l1, l2⟩ := hlt h0
    obtain ⟨j, rfl⟩ := Int.eq_ofNat_of_zero_le l1
    have hkl : k < lots.length := by omega
    have hjk : j < ks.length := by omega
    obtain ⟨bl, off, rfl, hbl, c0, c1, c2, -, -⟩ := HL.out h0 (by omega)
    obtain ⟨bk, ofk, rfl, hbk, k0, k1, -, -⟩ := h.kd hjk
    simp only [Int.toNat_natCast] at c0 c1 c2
    have hkf := List.all_eq_true.1 hK _ (List.getElem_mem hjk)
    simp only [kindF, btw, Bool.and_eq_true, decide_eq_true_eq] at hkf
    have hg : (ks.getD j (ByteArray.empty, 0)).2 = ks[j].2 := by simp [hjk]
    have HW2 := hid (show weightF ks lots ((k : Int), cnt, tare) = tare + cnt * ks[j].2 by rw [HW.out]; simp only [Int.toNat_natCast]; rw [hg, if_neg (by omega)])
    clear HW HL hg hlt
    generalize ks[j].2 = wt at *
    generalize ks[j].1 = nm at *
    have hm : 0 ≤ cnt * wt ∧ cnt * wt ≤ 20000 * 10000 := ⟨Int.mul_nonneg (by omega) (by omega), Int.mul_le_mul (by omega) (by omega) (by omega) (by omega)⟩
    have hw1 : IntKind.i64.wrap (cnt * wt) = cnt * wt := IntWalk.i64_in _ (by omega)
    have hw2 : IntKind.i64.wrap (tare + cnt * wt) = tare + cnt * wt := IntWalk.i64_in _ (by omega)
    have hkI : ¬ (k : Int) < 0 := by omega
    have hklI : (k : Int) < lots.length := by omega
    have hjkI : (j : Int) < ks.length := by omega
    have hS := hid (fun (wq : World) (hb : Below w.heap.size w wq) => And.intro ((bcell hb bl _ hbl).trans c0) ((bcell hb bk _ hbk).trans k1))
    have Bd := hid (B1.out.drew)
    clear c0 c1 c2 k0 k1 h h2
    go_enter Tryz.func16, Tryz.ntmps16
    go_upto_region 3 with fail
    have X1 := hid (Blk.new w 45 #[.int .i64 (k : Int), .int .i64 cnt, .int .i64 tare])
    generalize w.alloc (Obj.cells #[.int .i64 (k : Int), .int .i64 cnt, .int .i64 tare] 45) = w1 at *
    have x0 := X1.out.cell 0; have x1 := X1.out.cell 1; have x2 := X1.out.cell 2
    simp at x0 x1 x2
    obtain ⟨c0, k1⟩ := hS.out _ B1.out
    refine wpIn_wide.1 (wpIn_region_S (n := 0) (fun wq => wq.cell? ⟨w.heap.size, 0, none⟩ = some (.int .i64 (k : Int)) ∧ wq.cell? ⟨w.heap.size, 1, none⟩ = some (.int .i64 cnt) ∧ wq.cell? ⟨w.heap.size, 2, none⟩ = some (.int .i64 tare) ∧ wq.cell? ⟨bl, off + k * 3, none⟩ = some (.int .i64 (j : Int)) ∧ wq.cell? ⟨bk, ofk + j * 2 + 1, none⟩ = some (.int .i64 wt)) [] (by kernel_rfl) ⟨x0, x1, x2, c0, k1⟩ (fun hHeld => ?_))
    refine wpAnyS_pure 0 (v := ?_) (fun _ => trivial) (by simp only [List.getElem?_toArray, List.getElem?_cons_succ, List.getElem?_cons_zero]; rfl) (by kernel_rfl) (fun _ _ _ _ _ h => h) ⟨rfl, (by intro c h; cases h), ?_⟩ hHeld ?_
    rotate_left
    focus (intro wS hSw; (try replace hSw := HSF.out wS hSw); (try dsimp only at hSw); go_simp; (try with_reducible rfl))
    (try simp only [Act.put, List.setIfInBounds_toArray, List.set_cons_zero, List.set_cons_succ])
    refine wpAnyS_take 1 (v := ?_) (fun _ => trivial) (by simp only [List.getElem?_toArray, List.getElem?_cons_succ, List.getElem?_cons_zero]; rfl) (by kernel_rfl) (fun _ _ _ _ _ h => h) ⟨rfl, (by intro c h; cases h), ?_⟩ hHeld ?_
    rotate_left
    focus (intro wS hSw; (try replace hSw := HSF.out wS hSw); (try dsimp only at hSw); go_simp; (try with_reducible rfl))
    (try simp only [Act.put, List.setIfInBounds_toArray, List.set_cons_zero, List.set_cons_succ])
    refine wpAnyS_pure 2 (v := ?_) (fun _ => trivial) (by simp only [List.getElem?_toArray, List.getElem?_cons_succ, List.getElem?_cons_zero]; rfl) (by kernel_rfl) (fun _ _ _ _ _ h => h) ⟨rfl, (by intro c h; cases h), ?_⟩ hHeld ?_
    rotate_left
    focus (intro wS hSw; (try replace hSw := HSF.out wS hSw); (try dsimp only at hSw); go_simp; (try with_reducible rfl))
    (try simp only [Act.put, List.setIfInBounds_toArray, List.set_cons_zero, List.set_cons_succ])
    refine wpAnyS_take 3 (v := ?_) (fun _ => trivial) (by simp only [List.getElem?_toArray, List.getElem?_cons_succ, List.getElem?_cons_zero]; rfl) (by kernel_rfl) (fun _ _ _ _ _ h => h) ⟨rfl, (by intro c h; cases h), ?_⟩ hHeld ?_
    rotate_left
    focus (intro wS hSw; (try replace hSw := HSF.out wS hSw); (try dsimp only at hSw); go_simp; (try with_reducible rfl))
    (try simp only [Act.put, List.setIfInBounds_toArray, List.set_cons_zero, List.set_cons_succ])
    refine wpAnyS_pure 4 (v := ?_) (fun _ => trivial) (by simp only [List.getElem?_toArray, List.getElem?_cons_succ, List.getElem?_cons_zero]; rfl) (by kernel_rfl) (fun _ _ _ _ _ h => h) ⟨rfl, (by intro c h; cases h), ?_⟩ hHeld ?_
    rotate_left
    focus (intro wS hSw; (try replace hSw := HSF.out wS hSw); (try dsimp only at hSw); go_simp; (try with_reducible rfl))
    (try simp only [Act.put, List.setIfInBounds_toArray, List.set_cons_zero, List.set_cons_succ])
    refine wpAnyS_pure 5 (v := ?_) (fun _ => trivial) (by simp only [List.getElem?_toArray, List.getElem?_cons_succ, List.getElem?_cons_zero]; rfl) (by kernel_rfl) (fun _ _ _ _ _ h => h) ⟨rfl, (by intro c h; cases h), ?_⟩ hHeld ?_
    rotate_left
    focus (intro wS hSw; (try replace hSw := HSF.out wS hSw); (try dsimp only at hSw); go_simp; (try with_reducible rfl))
    (try simp only [Act.put, List.setIfInBounds_toArray, List.set_cons_zero, List.set_cons_succ])
    refine wpAnyS_pure 6 (v := ?_) (fun _ => trivial) (by simp only [List.getElem?_toArray, List.getElem?_cons_succ, List.getElem?_cons_zero]; rfl) (by kernel_rfl) (fun _ _ _ _ _ h => h) ⟨rfl, (by intro c h; cases h), ?_⟩ hHeld ?_
    rotate_left
    focus (intro wS hSw; (try replace hSw := HSF.out wS hSw); (try dsimp only at hSw); go_simp; (try with_reducible rfl))
    (try simp only [Act.put, List.setIfInBounds_toArray, List.set_cons_zero, List.set_cons_succ])
    refine wpAnyS_take 7 (v := ?_) (fun _ => trivial) (by simp only [List.getElem?_toArray, List.getElem?_cons_succ, List.getElem?_cons_zero]; rfl) (by kernel_rfl) (fun _ _ _ _ _ h => h) ⟨rfl, (by intro c h; cases h), ?_⟩ hHeld ?_
    rotate_left
    focus (intro wS hSw; (try replace hSw := HSF.out wS hSw); (try dsimp only at hSw); go_simp; (try with_reducible rfl))
    (try simp only [Act.put, List.setIfInBounds_toArray, List.set_cons_zero, List.set_cons_succ])
    refine wpAnyS_pure 8 (v := ?_) (fun _ => trivial) (by simp only [List.getElem?_toArray, List.getElem?_cons_succ, List.getElem?_cons_zero]; rfl) (by kernel_rfl) (fun _ _ _ _ _ h => h) ⟨rfl, (by intro c h; cases h), ?_⟩ hHeld ?_
    rotate_left
    focus (intro wS hSw; (try replace hSw := HSF.out wS hSw); (try dsimp only at hSw); go_simp; (try with_reducible rfl))
    (try simp only [Act.put, List.setIfInBounds_toArray, List.set_cons_zero, List.set_cons_succ])
    refine wpAnyS_pure 9 (v := ?_) (fun _ => trivial) (by simp only [List.getElem?_toArray, List.getElem?_cons_succ, List.getElem?_cons_zero]; rfl) (by kernel_rfl) (fun _ _ _ _ _ h => h) ⟨rfl, (by intro c h; cases h), ?_⟩ hHeld ?_
    rotate_left
    focus (intro wS hSw; (try replace hSw := HSF.out wS hSw); (try dsimp only at hSw); go_simp; (try with_reducible rfl))
    (try simp only [Act.put, List.setIfInBounds_toArray, List.set_cons_zero, List.set_cons_succ])
    refine wpAnyS_take 10 (v := ?_) (fun _ => trivial) (by simp only [List.getElem?_toArray, List.getElem?_cons_succ, List.getElem?_cons_zero]; rfl) (by kernel_rfl) (fun _ _ _ _ _ h => h) ⟨rfl, (by intro c h; cases h), ?_⟩ hHeld ?_
    rotate_left
    focus (intro wS hSw; (try replace hSw := HSF.out wS hSw); (try dsimp only at hSw); go_simp; (try with_reducible rfl))
    (try simp only [Act.put, List.setIfInBounds_toArray, List.set_cons_zero, List.set_cons_succ])
    refine wpAnyS_pure 11 (v := ?_) (fun _ => trivial) (by simp only [List.getElem?_toArray, List.getElem?_cons_succ, List.getElem?_cons_zero]; rfl) (by kernel_rfl) (fun _ _ _ _ _ h => h) ⟨rfl, (by intro c h; cases h), ?_⟩ hHeld ?_
    rotate_left
    focus (intro wS hSw; (try replace hSw := HSF.out wS hSw); (try dsimp only at hSw); go_simp; (try with_reducible rfl))
    (try simp only [Act.put, List.setIfInBounds_toArray, List.set_cons_zero, List.set_cons_succ])
    refine wpAnyS_pure 12 (v := ?_) (fun _ => trivial) (by simp only [List.getElem?_toArray, List.getElem?_cons_succ, List.getElem?_cons_zero]; rfl) (by kernel_rfl) (fun _ _ _ _ _ h => h) ⟨rfl, (by intro c h; cases h), ?_⟩ hHeld ?_
    rotate_left
    focus (intro wS hSw; (try replace hSw := HSF.out wS hSw); (try dsimp only at hSw); go_simp; (try with_reducible rfl))
    (try simp only [Act.put, List.setIfInBounds_toArray, List.set_cons_zero, List.set_cons_succ])
    refine wpAnyS_take 13 (v := ?_) (fun _ => trivial) (by simp only [List.getElem?_toArray, List.getElem?_cons_succ, List.getElem?_cons_zero]; rfl) (by kernel_rfl) (fun _ _ _ _ _ h => h) ⟨rfl, (by intro c h; cases h), ?_⟩ hHeld ?_
    rotate_left
    focus (intro wS hSw; (try replace hSw := HSF.out wS hSw); (try dsimp only at hSw); go_simp; (try with_reducible rfl))
    (try simp only [Act.put, List.setIfInBounds_toArray, List.set_cons_zero, List.set_cons_succ])
    refine wpAnyS_pure 14 (v := ?_) (fun _ => trivial) (by simp only [List.getElem?_toArray, List.getElem?_cons_succ, List.getElem?_cons_zero]; rfl) (by kernel_rfl) (fun _ _ _ _ _ h => h) ⟨rfl, (by intro c h; cases h), ?_⟩ hHeld ?_
    rotate_left
    focus (intro wS hSw; (try replace hSw := HSF.out wS hSw); (try dsimp only at hSw); go_simp; (try with_reducible rfl))
    (try simp only [Act.put, List.setIfInBounds_toArray, List.set_cons_zero, List.set_cons_succ])
    refine wpAnyS_pure 15 (v := ?_) (fun _ => trivial) (by simp only [List.getElem?_toArray, List.getElem?_cons_succ, List.getElem?_cons_zero]; rfl) (by kernel_rfl) (fun _ _ _ _ _ h => h) ⟨rfl, (by intro c h; cases h), ?_⟩ hHeld ?_
    rotate_left
    focus (intro wS hSw; (try replace hSw := HSF.out wS hSw); (try dsimp only at hSw); go_simp; (try with_reducible rfl))
    (try simp only [Act.put, List.setIfInBounds_toArray, List.set_cons_zero, List.set_cons_succ])
    refine wpAnyS_pure 16 (v := ?_) (fun _ => trivial) (by simp only [List.getElem?_toArray, List.getElem?_cons_succ, List.getElem?_cons_zero]; rfl) (by kernel_rfl) (fun _ _ _ _ _ h => h) ⟨rfl, (by intro c h; cases h), ?_⟩ hHeld ?_
    rotate_left
    focus (intro wS hSw; (try replace hSw := HSF.out wS hSw); (try dsimp only at hSw); go_simp; (try with_reducible rfl))
    (try simp only [Act.put, List.setIfInBounds_toArray, List.set_cons_zero, List.set_cons_succ])
    refine wpAnyS_done (by kernel_rfl) ?_
    go_wp2_with fail
    go_ret
    exact ⟨ret_int HW2.out.symm, Bd.out⟩
  · have HW2 := hid (show weightF ks lots (lot, cnt, tare) = tare by rw [HW.out, if_pos (by omega)])
    have h0' : lot < 0 := by omega
    clear HW HL hlt h h2 hb
    go_enter Tryz.func16, Tryz.ntmps16
    go_wp2_with fail
    go_ret
    exact ⟨ret_int HW2.out.symm, B1.out⟩
set_option maxRecDepth 100000 in
set_option maxHeartbeats 2000000 in
theorem rightWant_any (x : Wt) (w : World) :
    Calls Tryz.prog 59 #[.agg #[.int .i64 x.1, .int .i64 x.2.1, .int .i64 x.2.2]] w fun e w' => e = .returned (.bool (wantF x)) ∧ Below w.heap.size w w' := by
  obtain ⟨wk, wc, wu⟩ := x
  have HF := hid (show wantF (wk, wc, wu) = (decide (0 ≤ wk) && btw wc 1 20000 && btw wu 0 20000) from rfl)
  have B1 := hid (show Below w.heap.size w (w.alloc (Obj.cells #[.int .i64 wk, .int .i64 wc, .int .i64 wu] 42)) by (repeat (first | exact Below.refl _ _ | assumption | refine below_drewN ?_ _ | refine Below.drew ?_ | refine Below.alloc ?_ (by (try simp); (try omega)) _ | refine Below.setCell ?_ (by (try simp); (try omega)) _)))
  have X1 := hid (Blk.new w 42 #[.int .i64 wk, .int .i64 wc, .int .i64 wu])
  have HBT := hid between_any
  by_cases h1 : 0 ≤ wk
  · go_enter Tryz.func59, Tryz.ntmps59
    go_wp2_with fail
    refine (HBT.out _ _ _ _).mono ?_
    rintro e w3 ⟨rfl, hB3⟩
    have X3 := hid (X1.out.below hB3 X1.out.lt)
    have B3 := hid (B1.out.trans (hB3.mono B1.out.size))
    clear hB3 X1 B1
    cases h2 : btw wc 1 20000 with
    | false =>
      rw [h2] at HF
      as_aux_lemma =>
        go_wp2_with fail
        go_ret
        exact ⟨ret_bool (by rw [HF.out]; simp), B3.out⟩
    | true =>
      rw [h2] at HF
      have x2 := X3.out.cell 2; have xz := X3.out.lt
      simp at x2
      go_wp2_with fail
      refine (HBT.out _ _ _ _).mono ?_
      rintro e w4 ⟨rfl, hB4⟩
      have B4 := hid (B3.out.trans (hB4.mono B3.out.size))
      clear hB4 X3 B3 x2 xz
      generalize btw wu 0 20000 = bb at *
      as_aux_lemma =>
        go_wp2_with fail
        go_ret
        exact ⟨ret_bool (by rw [HF.out]; simp [h1]), B4.out⟩
  · have hf := hid (show wantF (wk, wc, wu) = false by rw [HF.out]; simp [h1])
    have h1' : wk < 0 := by omega
    go_enter Tryz.func59, Tryz.ntmps59
    go_wp2_with fail
    go_ret
    exact ⟨ret_bool hf.out.symm, B1.out⟩
set_option maxRecDepth 100000 in
set_option maxHeartbeats 2000000 in
theorem refWant_any (x : Wt) (w : World) :
    Calls Tryz.prog 60 #[.agg #[.int .i64 x.1, .int .i64 x.2.1, .int .i64 x.2.2]] w fun e w' => e = .returned (.bool (wantF x)) ∧ Below w.heap.size w w' := by
  obtain ⟨wk, wc, wu⟩ := x
  have HF := hid (show wantF (wk, wc, wu) = (decide (0 ≤ wk) && (decide (1 ≤ wc) && decide (wc ≤ 20000)) && (decide (0 ≤ wu) && decide (wu ≤ 20000))) from rfl)
  have B1 := hid (show Below w.heap.size w (w.alloc (Obj.cells #[.int .i64 wk, .int .i64 wc, .int .i64 wu] 42)) by (repeat (first | exact Below.refl _ _ | assumption | refine below_drewN ?_ _ | refine Below.drew ?_ | refine Below.alloc ?_ (by (try simp); (try omega)) _ | refine Below.setCell ?_ (by (try simp); (try omega)) _)))
  by_cases h1 : 0 ≤ wk
  · by_cases h2 : 1 ≤ wc
    · by_cases h3 : wc ≤ 20000
      · by_cases h4 : 0 ≤ wu
        · by_cases h5 : wu ≤ 20000
          · have hf := hid (show wantF (wk, wc, wu) = true by rw [HF.out]; simp [h1, h2, h3, h4, h5])
            as_aux_lemma =>
              go_enter Tryz.func60, Tryz.ntmps60
              go_wp2_with fail
              go_ret
              exact ⟨ret_bool hf.out.symm, B1.out⟩
          · have hf := hid (show wantF (wk, wc, wu) = false by rw [HF.out]; simp [h5])
            have h5' : 20000 < wu := by omega
            as_aux_lemma =>
              go_enter Tryz.func60, Tryz.ntmps60
              go_wp2_with fail
              go_ret
              exact ⟨ret_bool hf.out.symm, B1.out⟩
        · have hf := hid (show wantF (wk, wc, wu) = false by rw [HF.out]; simp [h4])
          have h5' : wu < 0 := by omega
          as_aux_lemma =>
            go_enter Tryz.func60, Tryz.ntmps60
            go_wp2_with fail
            go_ret
            exact ⟨ret_bool hf.out.symm, B1.out⟩
      · have hf := hid (show wantF (wk, wc, wu) = false by rw [HF.out]; simp [h3])
        have h5' : 20000 < wc := by omega
        as_aux_lemma =>
          go_enter Tryz.func60, Tryz.ntmps60
          go_wp2_with fail
          go_ret
          exact ⟨ret_bool hf.out.symm, B1.out⟩
    · have hf := hid (show wantF (wk, wc, wu) = false by rw [HF.out]; simp [h2])
      have h5' : wc < 1 := by omega
      as_aux_lemma =>
        go_enter Tryz.func60, Tryz.ntmps60
        go_wp2_with fail
        go_ret
        exact ⟨ret_bool hf.out.symm, B1.out⟩
  · have hf := hid (show wantF (wk, wc, wu) = false by rw [HF.out]; simp [h1])
    have h5' : wk < 0 := by omega
    as_aux_lemma =>
      go_enter Tryz.func60, Tryz.ntmps60
      go_wp2_with fail
      go_ret
      exact ⟨ret_bool hf.out.symm, B1.out⟩
end Go.Proofs.YtfpehakllnkaeaaGreatDoor
