
/- Stock: fits, Has, Weight, Units, Supply. -/
import Derived.Test.YtfpehakllnkaeaaGreatDoorStkB
import Derived.Test.YtfpehakllnkaeaaGreatDoorOwnG
import Derived.Test.YtfpehakllnkaeaaGreatDoorRegS
set_option linter.unusedSimpArgs false
set_option linter.unusedVariables false
namespace Go.Proofs.YtfpehakllnkaeaaGreatDoor
open Go.RowKit Go.IntWalk

/-- A lot's cells, at the place that a box names. -/
theorem lot_cells {w : World} {B : Nat} {A : Option Addr} {lots : List Lt} (h : SlR w B A lots) {b : Bx} (h0 : 0 ≤ b.1) (h1 : b.1 < lots.length) : ∃ bl off, A = some ⟨bl, off, none⟩ ∧ bl < B ∧ w.cell? ⟨bl, off + b.1.toNat * 3, none⟩ = some (.int .i64 (lotAt lots b).1) ∧ w.cell? ⟨bl, off + b.1.toNat * 3 + 1, none⟩ = some (.int .i64 (lotAt lots b).2.1) ∧ w.cell? ⟨bl, off + b.1.toNat * 3 + 2, none⟩ = some (.bool (lotAt lots b).2.2) ∧ I64 (lotAt lots b).1 ∧ I64 (lotAt lots b).2.1 := by
  have hk : b.1.toNat < lots.length := by omega
  have e : lotAt lots b = lots[b.1.toNat] := by simp [lotAt, hk]
  rw [e]
  exact h.lt hk
set_option maxRecDepth 100000 in
set_option maxHeartbeats 2000000 in
theorem fits_any (A : Option Addr) (c : Nat) (lots : List Lt) (b : Bx) (x : Wt) (w : World) (hl : lots.length ≤ maxLen) (h : SlR w w.heap.size A lots) (hb : b.1 < lots.length) :
    Calls Tryz.prog 51 #[.slice A lots.length c, .agg #[.int .i64 b.1, .int .i64 b.2.1, .int .i64 b.2.2], .agg #[.int .i64 x.1, .int .i64 x.2.1, .int .i64 x.2.2]] w fun e w' => e = .returned (.bool (hasF lots x b)) ∧ Below w.heap.size w w' := by
  unfold maxLen at hl
  have HL := hid (@lot_cells w w.heap.size A lots h b)
  have HF := hid (show hasF lots x b = (decide (0 ≤ b.1) && decide (b.1 < lots.length) && fitF (lotAt lots b) x) from rfl)
  generalize lotAt lots b = lt at *
  obtain ⟨lot, cnt, tare⟩ := b
  obtain ⟨wk, wc, wu⟩ := x
  obtain ⟨lk, le, lf⟩ := lt
  simp only at *
  have B1 := hid (show Below w.heap.size w ((w.alloc (Obj.cells #[.int .i64 lot, .int .i64 cnt, .int .i64 tare] 45)).alloc (Obj.cells #[.int .i64 wk, .int .i64 wc, .int .i64 wu] 42)) by (repeat (first | exact Below.refl _ _ | assumption | refine below_drewN ?_ _ | refine Below.drew ?_ | refine Below.alloc ?_ (by (try simp); (try omega)) _ | refine Below.setCell ?_ (by (try simp); (try omega)) _)))
  by_cases h0 : 0 ≤ lot
  · obtain ⟨k, rfl⟩ := Int.eq_ofNat_of_zero_le h0
    have hk : k < lots.length := by omega
    obtain ⟨bl, off, rfl, hbl, c0, c1, c2, -, -⟩ := HL.out h0 hb
    simp only [Int.toNat_natCast] at c0 c1 c2
    have hf := hid (show hasF lots (wk, wc, wu) ((k : Int), cnt, tare) = fitF (lk, le, lf) (wk, wc, wu) by rw [HF.out]; simp [hk])
    have HC := hid (sfits_any (lk, le, lf) (wk, wc, wu))
    have hS := hid (fun (wq : World) (hb : Below w.heap.size w wq) => And.intro ((bcell hb bl _ hbl).trans c0) (And.intro ((bcell hb bl _ hbl).trans c1) ((bcell hb bl _ hbl).trans c2)))
    have Bd := hid (B1.out.drew)
    clear HL HF c0 c1 c2 h
    go_enter Tryz.func51, Tryz.ntmps51
    go_upto_region 1 with fail
    have X1 := hid (show Blk ((w.alloc (Obj.cells #[.int .i64 (k : Int), .int .i64 cnt, .int .i64 tare] 45)).alloc (Obj.cells #[.int .i64 wk, .int .i64 wc, .int .i64 wu] 42)) w.heap.size 45 #[.int .i64 (k : Int), .int .i64 cnt, .int .i64 tare] from (Blk.new w _ _).alloc _)
    have Y1 := hid (show Blk ((w.alloc (Obj.cells #[.int .i64 (k : Int), .int .i64 cnt, .int .i64 tare] 45)).alloc (Obj.cells #[.int .i64 wk, .int .i64 wc, .int .i64 wu] 42)) (w.heap.size + 1) 42 #[.int .i64 wk, .int .i64 wc, .int .i64 wu] from Blk.new_at (by simp))
    generalize (w.alloc (Obj.cells #[.int .i64 (k : Int), .int .i64 cnt, .int .i64 tare] 45)).alloc (Obj.cells #[.int .i64 wk, .int .i64 wc, .int .i64 wu] 42) = w1 at *
    have x0 := X1.out.cell 0
    have y0 := Y1.out.cell 0; have y1 := Y1.out.cell 1; have y2 := Y1.out.cell 2
    simp at x0 y0 y1 y2
    obtain ⟨c0, c1, c2⟩ := hS.out _ B1.out
    refine wpIn_wide.1 (wpIn_region_S (n := 0) (fun wq => wq.cell? ⟨w.heap.size, 0, none⟩ = some (.int .i64 (k : Int)) ∧ wq.cell? ⟨w.heap.size + 1, 0, none⟩ = some (.int .i64 wk) ∧ wq.cell? ⟨w.heap.size + 1, 1, none⟩ = some (.int .i64 wc) ∧ wq.cell? ⟨w.heap.size + 1, 2, none⟩ = some (.int .i64 wu) ∧ wq.cell? ⟨bl, off + k * 3, none⟩ = some (.int .i64 lk) ∧ wq.cell? ⟨bl, off + k * 3 + 1, none⟩ = some (.int .i64 le) ∧ wq.cell? ⟨bl, off + k * 3 + 2, none⟩ = some (.bool lf)) [10] (by kernel_rfl) ⟨x0, y0, y1, y2, c0, c1, c2⟩ (fun hHeld => ?_))
    refine wpAnyG_pure 0 (v := ?_) (fun _ => trivial) (by simp only [List.getElem?_toArray, List.getElem?_cons_succ, List.getElem?_cons_zero]; rfl) (by kernel_rfl) (fun _ _ _ _ _ h => h) ⟨(by rfl), (by intro c h; cases h), ?_⟩ hHeld ?_
    rotate_left
    focus (intro wS hSw; (try replace hSw := HSF.out wS hSw); (try dsimp only at hSw); go_simp; (try with_reducible rfl))
    (try simp only [Act.put, List.setIfInBounds_toArray, List.set_cons_zero, List.set_cons_succ])
    refine wpAnyG_take 1 (v := ?_) (fun _ => trivial) (by simp only [List.getElem?_toArray, List.getElem?_cons_succ, List.getElem?_cons_zero]; rfl) (by kernel_rfl) (fun _ _ _ _ _ h => h) ⟨(by rfl), (by intro c h; cases h), ?_⟩ hHeld ?_
    rotate_left
    focus (intro wS hSw; (try replace hSw := HSF.out wS hSw); (try dsimp only at hSw); go_simp; (try with_reducible rfl))
    (try simp only [Act.put, List.setIfInBounds_toArray, List.set_cons_zero, List.set_cons_succ])
    refine wpAnyG_pure 2 (v := ?_) (fun _ => trivial) (by simp only [List.getElem?_toArray, List.getElem?_cons_succ, List.getElem?_cons_zero]; rfl) (by kernel_rfl) (fun _ _ _ _ _ h => h) ⟨(by rfl), (by intro c h; cases h), ?_⟩ hHeld ?_
    rotate_left
    focus (intro wS hSw; (try replace hSw := HSF.out wS hSw); (try dsimp only at hSw); go_simp; (try with_reducible rfl))
    (try simp only [Act.put, List.setIfInBounds_toArray, List.set_cons_zero, List.set_cons_succ])
    refine wpAnyG_pure 3 (v := ?_) (fun _ => trivial) (by simp only [List.getElem?_toArray, List.getElem?_cons_succ, List.getElem?_cons_zero]; rfl) (by kernel_rfl) (fun _ _ _ _ _ h => h) ⟨(by rfl), (by intro c h; cases h), ?_⟩ hHeld ?_
    rotate_left
    focus (intro wS hSw; (try replace hSw := HSF.out wS hSw); (try dsimp only at hSw); go_simp; (try with_reducible rfl))
    (try simp only [Act.put, List.setIfInBounds_toArray, List.set_cons_zero, List.set_cons_succ])
    refine wpAnyG_pure 4 (v := ?_) (fun _ => trivial) (by simp only [List.getElem?_toArray, List.getElem?_cons_succ, List.getElem?_cons_zero]; rfl) (by kernel_rfl) (fun _ _ _ _ _ h => h) ⟨(by rfl), (by intro c h; cases h), ?_⟩ hHeld ?_
    rotate_left
    focus (intro wS hSw; (try replace hSw := HSF.out wS hSw); (try dsimp only at hSw); go_simp; (try with_reducible rfl))
    (try simp only [Act.put, List.setIfInBounds_toArray, List.set_cons_zero, List.set_cons_succ])
    refine wpAnyG_pure 5 (v := ?_) (fun _ => trivial) (by simp only [List.getElem?_toArray, List.getElem?_cons_succ, List.getElem?_cons_zero]; rfl) (by kernel_rfl) (fun _ _ _ _ _ h => h) ⟨(by rfl), (by intro c h; cases h), ?_⟩ hHeld ?_
    rotate_left
    focus (intro wS hSw; (try replace hSw := HSF.out wS hSw); (try dsimp only at hSw); go_simp; (try with_reducible rfl))
    (try simp only [Act.put, List.setIfInBounds_toArray, List.set_cons_zero, List.set_cons_succ])
    refine wpAnyG_take 6 (v := ?_) (fun _ => trivial) (by simp only [List.getElem?_toArray, List.getElem?_cons_succ, List.getElem?_cons_zero]; rfl) (by kernel_rfl) (fun _ _ _ _ _ h => h) ⟨(by rfl), (by intro c h; cases h), ?_⟩ hHeld ?_
    rotate_left
    focus (intro wS hSw; (try replace hSw := HSF.out wS hSw); (try dsimp only at hSw); go_simp; (try with_reducible rfl))
    (try simp only [Act.put, List.setIfInBounds_toArray, List.set_cons_zero, List.set_cons_succ])
    refine wpAnyG_pure 7 (v := ?_) (fun _ => trivial) (by simp only [List.getElem?_toArray, List.getElem?_cons_succ, List.getElem?_cons_zero]; rfl) (by kernel_rfl) (fun _ _ _ _ _ h => h) ⟨(by rfl), (by intro c h; cases h), ?_⟩ hHeld ?_
    rotate_left
    focus (intro wS hSw; (try replace hSw := HSF.out wS hSw); (try dsimp only at hSw); go_simp; (try with_reducible rfl))
    (try simp only [Act.put, List.setIfInBounds_toArray, List.set_cons_zero, List.set_cons_succ])
    refine wpAnyG_take 8 (v := ?_) (fun _ => trivial) (by simp only [List.getElem?_toArray, List.getElem?_cons_succ, List.getElem?_cons_zero]; rfl) (by kernel_rfl) (fun _ _ _ _ _ h => h) ⟨(by rfl), (by intro c h; cases h), ?_⟩ hHeld ?_
    rotate_left
    focus (intro wS hSw; (try replace hSw := HSF.out wS hSw); (try dsimp only at hSw); go_simp; (try with_reducible rfl))
    (try simp only [Act.put, List.setIfInBounds_toArray, List.set_cons_zero, List.set_cons_succ])
    refine wpAnyG_take 9 (v := ?_) (fun _ => trivial) (by simp only [List.getElem?_toArray, List.getElem?_cons_succ, List.getElem?_cons_zero]; rfl) (by kernel_rfl) (fun _ _ _ _ _ h => h) ⟨(by rfl), (by intro c h; cases h), ?_⟩ hHeld ?_
    rotate_left
    focus (intro wS hSw; (try replace hSw := HSF.out wS hSw); (try dsimp only at hSw); go_simp; (try with_reducible rfl))
    (try simp only [Act.put, List.setIfInBounds_toArray, List.set_cons_zero, List.set_cons_succ])
    refine wpAnyS_ready [10] (by kernel_rfl) (by simp) (AllReadyS.consLG (by simp only [List.getElem?_toArray, List.getElem?_cons_succ, List.getElem?_cons_zero]; rfl) (by rfl) (by kernel_rfl) (fun K hK => ?_) AllReadyS.nil)
    refine callS (by intro c h; cases h) (by go_simp; try with_reducible rfl) (HC.out _) ?_
    intro w5 hB5
    have B5 := hid (Bd.out.trans (hB5.mono Bd.out.size))
    refine hK.out _ _ ?_
    (try simp only [Act.put, List.setIfInBounds_toArray, List.set_cons_zero, List.set_cons_succ])
    clear hK K hHeld
    refine wpAnyG_pureL 11 (v := ?_) (fun _ => trivial) (by simp only [List.getElem?_toArray, List.getElem?_cons_succ, List.getElem?_cons_zero]; rfl) (by kernel_rfl) (by kernel_rfl) (fun _ _ _ _ _ h => h) ⟨(by rfl), (by intro c h; cases h), ?_⟩ ?_
    rotate_left
    focus (intro wS hSw; (try replace hSw := HSF.out wS hSw); (try dsimp only at hSw); go_simp; (try with_reducible rfl))
    (try simp only [Act.put, List.setIfInBounds_toArray, List.set_cons_zero, List.set_cons_succ])
    refine wpAnyG_pureL 12 (v := ?_) (fun _ => trivial) (by simp only [List.getElem?_toArray, List.getElem?_cons_succ, List.getElem?_cons_zero]; rfl) (by kernel_rfl) (by kernel_rfl) (fun _ _ _ _ _ h => h) ⟨(by rfl), (by intro c h; cases h), ?_⟩ ?_
    rotate_left
    focus (intro wS hSw; (try replace hSw := HSF.out wS hSw); (try dsimp only at hSw); go_simp; (try with_reducible rfl))
    (try simp only [Act.put, List.setIfInBounds_toArray, List.set_cons_zero, List.set_cons_succ])
    refine wpAnyS_done (by kernel_rfl) ?_
    go_wp2_with fail
    go_ret
    exact ⟨ret_bool (by rw [hf.out]), B5.out⟩
  · have hf := hid (show hasF lots (wk, wc, wu) (lot, cnt, tare) = false by rw [HF.out]; simp [h0])
    have h0' : lot < 0 := by omega
    clear HL HF h
    go_enter Tryz.func51, Tryz.ntmps51
    have Bd := hid (B1.out.drew)
    go_upto_region 1 with fail
    refine wpIn_wide.1 (wpIn_region_S (n := 0) (fun wq => wq.cell? ⟨w.heap.size, 0, none⟩ = some (.int .i64 lot)) [] (by kernel_rfl) (by simp) (fun hHeld => ?_))
    refine wpAnyG_pure 0 (v := ?_) (fun _ => trivial) (by simp only [List.getElem?_toArray, List.getElem?_cons_succ, List.getElem?_cons_zero]; rfl) (by kernel_rfl) (fun _ _ _ _ _ h => h) ⟨(by rfl), (by intro c h; cases h), ?_⟩ hHeld ?_
    rotate_left
    focus (intro wS hSw; (try replace hSw := HSF.out wS hSw); (try dsimp only at hSw); go_simp; (try with_reducible rfl))
    (try simp only [Act.put, List.setIfInBounds_toArray, List.set_cons_zero, List.set_cons_succ])
    refine wpAnyG_take 1 (v := ?_) (fun _ => trivial) (by simp only [List.getElem?_toArray, List.getElem?_cons_succ, List.getElem?_cons_zero]; rfl) (by kernel_rfl) (fun _ _ _ _ _ h => h) ⟨(by rfl), (by intro c h; cases h), ?_⟩ hHeld ?_
    rotate_left
    focus (intro wS hSw; (try replace hSw := HSF.out wS hSw); (try dsimp only at hSw); go_simp; (try with_reducible rfl))
    (try simp only [Act.put, List.setIfInBounds_toArray, List.set_cons_zero, List.set_cons_succ])
    refine wpAnyG_pure 2 (v := ?_) (fun _ => trivial) (by simp only [List.getElem?_toArray, List.getElem?_cons_succ, List.getElem?_cons_zero]; rfl) (by kernel_rfl) (fun _ _ _ _ _ h => h) ⟨(by rfl), (by intro c h; cases h), ?_⟩ hHeld ?_
    rotate_left
    focus (intro wS hSw; (try replace hSw := HSF.out wS hSw); (try dsimp only at hSw); go_simp; (try with_reducible rfl))
    (try simp only [Act.put, List.setIfInBounds_toArray, List.set_cons_zero, List.set_cons_succ])
    refine wpAnyG_pure 3 (v := ?_) (fun _ => trivial) (by simp only [List.getElem?_toArray, List.getElem?_cons_succ, List.getElem?_cons_zero]; rfl) (by kernel_rfl) (fun _ _ _ _ _ h => h) ⟨(by rfl), (by intro c h; cases h), ?_⟩ hHeld ?_
    rotate_left
    focus (intro wS hSw; (try replace hSw := HSF.out wS hSw); (try dsimp only at hSw); go_simp; (try with_reducible rfl))
    (try simp only [Act.put, List.setIfInBounds_toArray, List.set_cons_zero, List.set_cons_succ])
    refine wpAnyG_skip 4 (fun _ => trivial) (by simp only [List.getElem?_toArray, List.getElem?_cons_succ, List.getElem?_cons_zero]; rfl) (by kernel_rfl) (fun _ _ _ _ _ h => h) (by rfl) hHeld ?_
    (try simp only [Act.put, List.setIfInBounds_toArray, List.set_cons_zero, List.set_cons_succ])
    refine wpAnyG_skip 5 (fun _ => trivial) (by simp only [List.getElem?_toArray, List.getElem?_cons_succ, List.getElem?_cons_zero]; rfl) (by kernel_rfl) (fun _ _ _ _ _ h => h) (by rfl) hHeld ?_
    (try simp only [Act.put, List.setIfInBounds_toArray, List.set_cons_zero, List.set_cons_succ])
    refine wpAnyG_skip 6 (fun _ => trivial) (by simp only [List.getElem?_toArray, List.getElem?_cons_succ, List.getElem?_cons_zero]; rfl) (by kernel_rfl) (fun _ _ _ _ _ h => h) (by rfl) hHeld ?_
    (try simp only [Act.put, List.setIfInBounds_toArray, List.set_cons_zero, List.set_cons_succ])
    refine wpAnyG_skip 7 (fun _ => trivial) (by simp only [List.getElem?_toArray, List.getElem?_cons_succ, List.getElem?_cons_zero]; rfl) (by kernel_rfl) (fun _ _ _ _ _ h => h) (by rfl) hHeld ?_
    (try simp only [Act.put, List.setIfInBounds_toArray, List.set_cons_zero, List.set_cons_succ])
    refine wpAnyG_skip 8 (fun _ => trivial) (by simp only [List.getElem?_toArray, List.getElem?_cons_succ, List.getElem?_cons_zero]; rfl) (by kernel_rfl) (fun _ _ _ _ _ h => h) (by rfl) hHeld ?_
    (try simp only [Act.put, List.setIfInBounds_toArray, List.set_cons_zero, List.set_cons_succ])
    refine wpAnyG_skip 9 (fun _ => trivial) (by simp only [List.getElem?_toArray, List.getElem?_cons_succ, List.getElem?_cons_zero]; rfl) (by kernel_rfl) (fun _ _ _ _ _ h => h) (by rfl) hHeld ?_
    (try simp only [Act.put, List.setIfInBounds_toArray, List.set_cons_zero, List.set_cons_succ])
    refine wpAnyG_skip 10 (fun _ => trivial) (by simp only [List.getElem?_toArray, List.getElem?_cons_succ, List.getElem?_cons_zero]; rfl) (by kernel_rfl) (fun _ _ _ _ _ h => h) (by rfl) hHeld ?_
    (try simp only [Act.put, List.setIfInBounds_toArray, List.set_cons_zero, List.set_cons_succ])
    refine wpAnyG_pure 11 (v := ?_) (fun _ => trivial) (by simp only [List.getElem?_toArray, List.getElem?_cons_succ, List.getElem?_cons_zero]; rfl) (by kernel_rfl) (fun _ _ _ _ _ h => h) ⟨(by rfl), (by intro c h; cases h), ?_⟩ hHeld ?_
    rotate_left
    focus (intro wS hSw; (try replace hSw := HSF.out wS hSw); (try dsimp only at hSw); go_simp; (try with_reducible rfl))
    (try simp only [Act.put, List.setIfInBounds_toArray, List.set_cons_zero, List.set_cons_succ])
    refine wpAnyG_pure 12 (v := ?_) (fun _ => trivial) (by simp only [List.getElem?_toArray, List.getElem?_cons_succ, List.getElem?_cons_zero]; rfl) (by kernel_rfl) (fun _ _ _ _ _ h => h) ⟨(by rfl), (by intro c h; cases h), ?_⟩ hHeld ?_
    rotate_left
    focus (intro wS hSw; (try replace hSw := HSF.out wS hSw); (try dsimp only at hSw); go_simp; (try with_reducible rfl))
    (try simp only [Act.put, List.setIfInBounds_toArray, List.set_cons_zero, List.set_cons_succ])
    refine wpAnyS_done (by kernel_rfl) ?_
    go_wp2_with fail
    go_ret
    exact ⟨ret_bool hf.out.symm, Bd.out⟩
end Go.Proofs.YtfpehakllnkaeaaGreatDoor
