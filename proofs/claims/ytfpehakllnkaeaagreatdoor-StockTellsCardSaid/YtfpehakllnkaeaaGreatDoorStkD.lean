
/- Stock: Has, Weight, Units, Supply, the two readings of a right want. -/
import Derived.Test.YtfpehakllnkaeaaGreatDoorStkC
set_option linter.unusedSimpArgs false
set_option linter.unusedVariables false
namespace Go.Proofs.YtfpehakllnkaeaaGreatDoor
open Go.RowKit Go.IntWalk

set_option maxRecDepth 100000 in
set_option maxHeartbeats 2000000 in
theorem has_any (A : Option Addr) (c : Nat) (lots : List Lt) (b : Bx) (x : Wt) (w : World) (hl : lots.length ≤ maxLen) (h : SlR w w.heap.size A lots) :
    Calls Tryz.prog 52 #[.slice A lots.length c, .agg #[.int .i64 b.1, .int .i64 b.2.1, .int .i64 b.2.2], .agg #[.int .i64 x.1, .int .i64 x.2.1, .int .i64 x.2.2]] w fun e w' => e = .returned (.bool (hasF lots x b)) ∧ Below w.heap.size w w' := by
  unfold maxLen at hl
  have HL := hid (@lot_cells w w.heap.size A lots h b)
  have HF := hid (show hasF lots x b = (decide (0 ≤ b.1) && decide (b.1 < lots.length) && fitF (lotAt lots b) x) from rfl)
  generalize lotAt lots b = lt at *
  obtain ⟨lot, cnt, tare⟩ := b
  obtain ⟨wk, wc, wu⟩ := x
  obtain ⟨lk, le, lf⟩ := lt
  simp only at *
  have B1 := hid (show Below w.heap.size w ((w.alloc (Obj.cells #[.int .i64 lot, .int .i64 cnt, .int .i64 tare] 45)).alloc (Obj.cells #[.int .i64 wk, .int .i64 wc, .int .i64 wu] 42)) by (repeat (first | exact Below.refl _ _ | assumption | refine below_drewN ?_ _ | refine Below.drew ?_ | refine Below.alloc ?_ (by (try simp); (try omega)) _ | refine Below.setCell ?_ (by (try simp); (try omega)) _)))
  by_cases h0 : 0 ≤ lot
  · by_cases h1 : lot < lots.length
    · obtain ⟨k, rfl⟩ := Int.eq_ofNat_of_zero_le h0
      have hk : k < lots.length := by omega
      obtain ⟨bl, off, rfl, hbl, c0, c1, c2, -, -⟩ := HL.out h0 h1
      simp only [Int.toNat_natCast] at c0 c1 c2
      have hf := hid (show hasF lots (wk, wc, wu) ((k : Int), cnt, tare) = fitF (lk, le, lf) (wk, wc, wu) by rw [HF.out]; simp [hk])
      have HC := hid (rfits_any (lk, le, lf) (wk, wc, wu))
      have hS := hid (fun (wq : World) (hb : Below w.heap.size w wq) => And.intro ((bcell hb bl _ hbl).trans c0) (And.intro ((bcell hb bl _ hbl).trans c1) ((bcell hb bl _ hbl).trans c2)))
      have Bd := hid (B1.out.drew)
      clear HL HF c0 c1 c2 h
      go_enter Tryz.func52, Tryz.ntmps52
      go_upto_region 3 with fail
      have X1 := hid (show Blk ((w.alloc (Obj.cells #[.int .i64 (k : Int), .int .i64 cnt, .int .i64 tare] 45)).alloc (Obj.cells #[.int .i64 wk, .int .i64 wc, .int .i64 wu] 42)) w.heap.size 45 #[.int .i64 (k : Int), .int .i64 cnt, .int .i64 tare] from (Blk.new w _ _).alloc _)
      have Y1 := hid (show Blk ((w.alloc (Obj.cells #[.int .i64 (k : Int), .int .i64 cnt, .int .i64 tare] 45)).alloc (Obj.cells #[.int .i64 wk, .int .i64 wc, .int .i64 wu] 42)) (w.heap.size + 1) 42 #[.int .i64 wk, .int .i64 wc, .int .i64 wu] from Blk.new_at (by simp))
      generalize (w.alloc (Obj.cells #[.int .i64 (k : Int), .int .i64 cnt, .int .i64 tare] 45)).alloc (Obj.cells #[.int .i64 wk, .int .i64 wc, .int .i64 wu] 42) = w1 at *
      have x0 := X1.out.cell 0
      have y0 := Y1.out.cell 0; have y1 := Y1.out.cell 1; have y2 := Y1.out.cell 2
      simp at x0 y0 y1 y2
      obtain ⟨c0, c1, c2⟩ := hS.out _ B1.out
      refine wpIn_wide.1 (wpIn_region_S (n := 0) (fun wq => wq.cell? ⟨w.heap.size, 0, none⟩ = some (.int .i64 (k : Int)) ∧ wq.cell? ⟨w.heap.size + 1, 0, none⟩ = some (.int .i64 wk) ∧ wq.cell? ⟨w.heap.size + 1, 1, none⟩ = some (.int .i64 wc) ∧ wq.cell? ⟨w.heap.size + 1, 2, none⟩ = some (.int .i64 wu) ∧ wq.cell? ⟨bl, off + k * 3, none⟩ = some (.int .i64 lk) ∧ wq.cell? ⟨bl, off + k * 3 + 1, none⟩ = some (.int .i64 le) ∧ wq.cell? ⟨bl, off + k * 3 + 2, none⟩ = some (.bool lf)) [6] (by kernel_rfl) ⟨x0, y0, y1, y2, c0, c1, c2⟩ (fun hHeld => ?_))
      refine wpAnyS_pure 0 (v := ?_) (fun _ => trivial) (by simp only [List.getElem?_toArray, List.getElem?_cons_succ, List.getElem?_cons_zero]; rfl) (by kernel_rfl) (fun _ _ _ _ _ h => h) ⟨rfl, (by intro c h; cases h), ?_⟩ hHeld ?_
      rotate_left
      focus (intro wS hSw; (try replace hSw := HSF.out wS hSw); (try dsimp only at hSw); go_simp; (try with_reducible rfl))
      (try simp only [Act.put, List.setIfInBounds_toArray, List.set_cons_zero, List.set_cons_succ])
      refine wpAnyS_pure 1 (v := ?_) (fun _ => trivial) (by simp only [List.getElem?_toArray, List.getElem?_cons_succ, List.getElem?_cons_zero]; rfl) (by kernel_rfl) (fun _ _ _ _ _ h => h) ⟨rfl, (by intro c h; cases h), ?_⟩ hHeld ?_
      rotate_left
      focus (intro wS hSw; (try replace hSw := HSF.out wS hSw); (try dsimp only at hSw); go_simp; (try with_reducible rfl))
      (try simp only [Act.put, List.setIfInBounds_toArray, List.set_cons_zero, List.set_cons_succ])
      refine wpAnyS_take 2 (v := ?_) (fun _ => trivial) (by simp only [List.getElem?_toArray, List.getElem?_cons_succ, List.getElem?_cons_zero]; rfl) (by kernel_rfl) (fun _ _ _ _ _ h => h) ⟨rfl, (by intro c h; cases h), ?_⟩ hHeld ?_
      rotate_left
      focus (intro wS hSw; (try replace hSw := HSF.out wS hSw); (try dsimp only at hSw); go_simp; (try with_reducible rfl))
      (try simp only [Act.put, List.setIfInBounds_toArray, List.set_cons_zero, List.set_cons_succ])
      refine wpAnyS_pure 3 (v := ?_) (fun _ => trivial) (by simp only [List.getElem?_toArray, List.getElem?_cons_succ, List.getElem?_cons_zero]; rfl) (by kernel_rfl) (fun _ _ _ _ _ h => h) ⟨rfl, (by intro c h; cases h), ?_⟩ hHeld ?_
      rotate_left
      focus (intro wS hSw; (try replace hSw := HSF.out wS hSw); (try dsimp only at hSw); go_simp; (try with_reducible rfl))
      (try simp only [Act.put, List.setIfInBounds_toArray, List.set_cons_zero, List.set_cons_succ])
      refine wpAnyS_take 4 (v := ?_) (fun _ => trivial) (by simp only [List.getElem?_toArray, List.getElem?_cons_succ, List.getElem?_cons_zero]; rfl) (by kernel_rfl) (fun _ _ _ _ _ h => h) ⟨rfl, (by intro c h; cases h), ?_⟩ hHeld ?_
      rotate_left
      focus (intro wS hSw; (try replace hSw := HSF.out wS hSw); (try dsimp only at hSw); go_simp; (try with_reducible rfl))
      (try simp only [Act.put, List.setIfInBounds_toArray, List.set_cons_zero, List.set_cons_succ])
      refine wpAnyS_take 5 (v := ?_) (fun _ => trivial) (by simp only [List.getElem?_toArray, List.getElem?_cons_succ, List.getElem?_cons_zero]; rfl) (by kernel_rfl) (fun _ _ _ _ _ h => h) ⟨rfl, (by intro c h; cases h), ?_⟩ hHeld ?_
      rotate_left
      focus (intro wS hSw; (try replace hSw := HSF.out wS hSw); (try dsimp only at hSw); go_simp; (try with_reducible rfl))
      (try simp only [Act.put, List.setIfInBounds_toArray, List.set_cons_zero, List.set_cons_succ])
      refine wpAnyS_ready [6] (by kernel_rfl) (by simp) (AllReadyS.consL (by simp only [List.getElem?_toArray, List.getElem?_cons_succ, List.getElem?_cons_zero]; rfl) rfl (by kernel_rfl) (fun K hK => ?_) AllReadyS.nil)
      refine callS (by intro c h; cases h) (by go_simp; try with_reducible rfl) (HC.out _) ?_
      intro w5 hB5
      have B5 := hid (Bd.out.trans (hB5.mono Bd.out.size))
      refine hK.out _ _ ?_
      (try simp only [Act.put, List.setIfInBounds_toArray, List.set_cons_zero, List.set_cons_succ])
      clear hK K hHeld
      refine wpAnyS_pureL 7 (v := ?_) (fun _ => trivial) (by simp only [List.getElem?_toArray, List.getElem?_cons_succ, List.getElem?_cons_zero]; rfl) (by kernel_rfl) (by kernel_rfl) (fun _ _ _ _ _ h => h) ⟨rfl, (by intro c h; cases h), ?_⟩ ?_
      rotate_left
      focus (intro wS hSw; (try replace hSw := HSF.out wS hSw); (try dsimp only at hSw); go_simp; (try with_reducible rfl))
      (try simp only [Act.put, List.setIfInBounds_toArray, List.set_cons_zero, List.set_cons_succ])
      refine wpAnyS_done (by kernel_rfl) ?_
      go_wp2_with fail
      go_ret
      exact ⟨ret_bool (by rw [hf.out]), B5.out⟩
    · have hf := hid (show hasF lots (wk, wc, wu) (lot, cnt, tare) = false by rw [HF.out]; simp [h1])
      have h1' : (lots.length : Int) ≤ lot := by omega
      clear HL HF h
      go_enter Tryz.func52, Tryz.ntmps52
      go_wp2_with fail
      go_ret
      exact ⟨ret_bool hf.out.symm, B1.out⟩
  · have hf := hid (show hasF lots (wk, wc, wu) (lot, cnt, tare) = false by rw [HF.out]; simp [h0])
    have h0' : lot < 0 := by omega
    clear HL HF h
    go_enter Tryz.func52, Tryz.ntmps52
    go_wp2_with fail
    go_ret
    exact ⟨ret_bool hf.out.symm, B1.out⟩
/-- Boxes with few units each: their sums stay small. -/
def CntOK (bs : List Bx) : Prop := ∀ b ∈ bs, 0 ≤ b.2.1 ∧ b.2.1 ≤ 20000
theorem CntOK.units {bs : List Bx} (h : CntOK bs) (k : Nat) : 0 ≤ unitsL (bs.take k) ∧ unitsL (bs.take k) ≤ 20000 * k := by
  induction k with
  | zero => simp [unitsL, sumI]
  | succ k ih =>
    by_cases hk : k < bs.length
    · rw [unitsL_take hk]
      have := h _ (List.getElem_mem hk)
      omega
    · rw [List.take_of_length_le (by omega)] at ih ⊢
      omega
theorem CntOK.supply {bs : List Bx} (h : CntOK bs) (lots : List Lt) (x : Wt) (k : Nat) : 0 ≤ supplyL lots (bs.take k) x ∧ supplyL lots (bs.take k) x ≤ 20000 * k := by
  induction k with
  | zero => simp [supplyL, sumI]
  | succ k ih =>
    by_cases hk : k < bs.length
    · rw [supplyL_take hk]
      have := h _ (List.getElem_mem hk)
      split <;> omega
    · rw [List.take_of_length_le (by omega)] at ih ⊢
      omega
set_option maxRecDepth 100000 in
set_option maxHeartbeats 2000000 in
theorem units_any (A : Option Addr) (c : Nat) (bs : List Bx) (w : World) (hl : bs.length ≤ 100000) (h : SlR w w.heap.size A bs) (hc : CntOK bs) :
    Calls Tryz.prog 33 #[.slice A bs.length c] w fun e w' => e = .returned (.int .i64 (unitsL bs)) ∧ Below w.heap.size w w' := by
  go_enter Tryz.func33, Tryz.ntmps33
  go_wp2_with fail
  go_loopw [3, 8] (fun sv i wr => ∃ k : Nat, k ≤ bs.length ∧ i = .int .i64 k ∧ sv = .int .i64 (unitsL (bs.take k)) ∧ Below w.heap.size w wr) (fun _ i _ => bs.length - (intOf i).toNat)
  case atStart => exact ⟨0, by omega, rfl, rfl, Below.refl _ _⟩
  case round =>
    obtain ⟨k, hk, rfl, rfl, hB⟩ := hrel
    have HB := hid hB
    have hbd := hc.units k
    by_cases hlt : k < bs.length
    · have hlt' : (k : Int) < bs.length := by omega
      have hcb := hc _ (List.getElem_mem hlt)
      obtain ⟨b, off, rfl, hb, c0, c1, c2, -⟩ := h.i3 hlt
      replace c0 := (bcell hB b _ hb).trans c0
      replace c1 := (bcell hB b _ hb).trans c1
      replace c2 := (bcell hB b _ hb).trans c2
      have hz : b < wr.heap.size := by have := hB.size; omega
      have HT := hid (unitsL_take hlt)
      have hsz := hB.size
      clear hB
      generalize bs[k] = x at *
      obtain ⟨x0, x1, x2⟩ := x
      simp only at *
      generalize unitsL (bs.take k) = s at *
      have hwr : IntKind.i64.wrap (s + x1) = s + x1 := IntWalk.i64_in _ (by omega)
      have B1 := hid (show Below w.heap.size w (wr.alloc (Obj.cells #[.int .i64 x0, .int .i64 x1, .int .i64 x2] 45)) from HB.out.alloc hsz _)
      as_aux_lemma =>
        go_wp2_with fail
        go_roundw
        case rel => exact ⟨k + 1, by omega, by go_num, by rw [HT.out], B1.out⟩
        case measure => simp [intOf]; omega
    · obtain rfl : k = bs.length := by omega
      rw [List.take_length]
      clear hB
      go_wp2_with fail
      go_ret
      exact ⟨rfl, HB.out⟩
end Go.Proofs.YtfpehakllnkaeaaGreatDoor
