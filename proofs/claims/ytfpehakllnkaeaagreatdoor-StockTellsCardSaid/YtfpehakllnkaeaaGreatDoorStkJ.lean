
/- Stock: Order. -/
import Derived.Test.YtfpehakllnkaeaaGreatDoorStkI
set_option linter.unusedSimpArgs false
set_option linter.unusedVariables false
namespace Go.Proofs.YtfpehakllnkaeaaGreatDoor
open Go.RowKit Go.IntWalk

theorem callOrd (args : Array Value) (w : World) : (callFunc 54 args).run Tryz.prog w = .ok (.enter 54 args) w := by kernel_rfl
set_option maxRecDepth 100000 in
set_option maxHeartbeats 2000000 in
theorem ordcmp_any (pL pB : Nat) (A B : Option Addr) (c d : Nat) (lots : List Lt) (bs : List Bx) (i j : Nat) (w : World) (hL : w.cell? ⟨pL, 0, none⟩ = some (.slice A lots.length c)) (hB : w.cell? ⟨pB, 0, none⟩ = some (.slice B bs.length d)) (h1 : SlR w w.heap.size A lots) (h2 : SlR w w.heap.size B bs)
    (hi : i < bs.length) (hj : j < bs.length) (li : 0 ≤ bs[i].1 ∧ bs[i].1 < lots.length) (lj : 0 ≤ bs[j].1 ∧ bs[j].1 < lots.length) (hbl : bs.length ≤ 100000) (hll : lots.length ≤ maxLen) :
    Calls Tryz.prog 54 #[.int .i64 i, .int .i64 j, .pointer (some ⟨pL, 0, none⟩), .pointer (some ⟨pB, 0, none⟩)] w fun e w' => e = .returned (.int .i64 (cmpI (expAt lots bs i) (expAt lots bs j))) ∧ Below w.heap.size w w' := by
  unfold maxLen at hll
  have HLi := lot_cells h1 li.1 li.2
  have HLj := lot_cells h1 lj.1 lj.2
  have ei : expAt lots bs i = (lotAt lots bs[i]).2.1 := by simp [expAt, hi]
  have ej : expAt lots bs j = (lotAt lots bs[j]).2.1 := by simp [expAt, hj]
  rw [ei, ej]
  obtain ⟨bb, ob, rfl, hbb, b0, -, -, -⟩ := h2.i3 hi
  obtain ⟨bb2, ob2, hB2, -, q0, -, -, -⟩ := h2.i3 hj
  injection hB2 with hB2
  injection hB2 with e1 e2 _
  subst e1 e2
  obtain ⟨bl, ol, rfl, hbl2, -, k1, -, -, -⟩ := HLi
  obtain ⟨bl2, ol2, hA2, -, -, m1, -, -, -⟩ := HLj
  injection hA2 with hA2
  injection hA2 with e1 e2 _
  subst e1 e2
  generalize lotAt lots bs[i] = x at *
  generalize lotAt lots bs[j] = y at *
  obtain ⟨ni, hni⟩ : ∃ n : Nat, bs[i].1 = n := ⟨bs[i].1.toNat, by omega⟩
  obtain ⟨nj, hnj⟩ : ∃ n : Nat, bs[j].1 = n := ⟨bs[j].1.toNat, by omega⟩
  rw [hni] at b0 k1 li
  rw [hnj] at q0 m1 lj
  rw [Int.toNat_natCast] at k1 m1
  have hiI : (i : Int) < bs.length := by omega
  have hjI : (j : Int) < bs.length := by omega
  have hniI := li.2
  have hnjI := lj.2
  obtain ⟨x0, xe, x2⟩ := x
  obtain ⟨y0, ye, y2⟩ := y
  simp only at k1 m1 ⊢
  have HC := hid (compare_any xe ye)
  have bd := hid (show Below w.heap.size w w.drew by (repeat (first | exact Below.refl _ _ | assumption | refine below_drewN ?_ _ | refine Below.drew ?_ | refine Below.alloc ?_ (by (try simp); (try omega)) _ | refine Below.setCell ?_ (by (try simp); (try omega)) _)))
  clear hni hnj ei ej li lj h1 h2
  go_enter Tryz.func54, Tryz.ntmps54
  go_upto_region 1 with fail
  refine wpIn_wide.1 (wpIn_region_S (n := 0) (fun wq => wq.cell? ⟨pL, 0, none⟩ = some (.slice (some ⟨bl, ol, none⟩) lots.length c) ∧ wq.cell? ⟨pB, 0, none⟩ = some (.slice (some ⟨bb, ob, none⟩) bs.length d) ∧ wq.cell? ⟨bb, ob + i * 3, none⟩ = some (.int .i64 (ni : Int)) ∧ wq.cell? ⟨bb, ob + j * 3, none⟩ = some (.int .i64 (nj : Int)) ∧ wq.cell? ⟨bl, ol + ni * 3 + 1, none⟩ = some (.int .i64 xe) ∧ wq.cell? ⟨bl, ol + nj * 3 + 1, none⟩ = some (.int .i64 ye)) [18] (by kernel_rfl) ⟨hL, hB, b0, q0, k1, m1⟩ (fun hHeld => ?_))
  refine wpAnyS_take 0 (v := ?_) (fun _ => trivial) (by simp only [List.getElem?_toArray, List.getElem?_cons_succ, List.getElem?_cons_zero]; rfl) (by kernel_rfl) (fun _ _ _ _ _ h => h) ⟨rfl, (by intro c h; cases h), ?_⟩ hHeld ?_
  rotate_left
  focus (intro wS hSw; (try replace hSw := HSF.out wS hSw); (try dsimp only at hSw); go_simp; (try with_reducible rfl))
  (try simp only [Act.put, List.setIfInBounds_toArray, List.set_cons_zero, List.set_cons_succ])
  refine wpAnyS_take 1 (v := ?_) (fun _ => trivial) (by simp only [List.getElem?_toArray, List.getElem?_cons_succ, List.getElem?_cons_zero]; rfl) (by kernel_rfl) (fun _ _ _ _ _ h => h) ⟨rfl, (by intro c h; cases h), ?_⟩ hHeld ?_
  rotate_left
  focus (intro wS hSw; (try replace hSw := HSF.out wS hSw); (try dsimp only at hSw); go_simp; (try with_reducible rfl))
  (try simp only [Act.put, List.setIfInBounds_toArray, List.set_cons_zero, List.set_cons_succ])
  refine wpAnyS_pure 2 (v := ?_) (fun _ => trivial) (by simp only [List.getElem?_toArray, List.getElem?_cons_succ, List.getElem?_cons_zero]; rfl) (by kernel_rfl) (fun _ _ _ _ _ h => h) ⟨rfl, (by intro c h; cases h), ?_⟩ hHeld ?_
  rotate_left
  focus (intro wS hSw; (try replace hSw := HSF.out wS hSw); (try dsimp only at hSw); go_simp; (try with_reducible rfl))
  (try simp only [Act.put, List.setIfInBounds_toArray, List.set_cons_zero, List.set_cons_succ])
  refine wpAnyS_pure 3 (v := ?_) (fun _ => trivial) (by simp only [List.getElem?_toArray, List.getElem?_cons_succ, List.getElem?_cons_zero]; rfl) (by kernel_rfl) (fun _ _ _ _ _ h => h) ⟨rfl, (by intro c h; cases h), ?_⟩ hHeld ?_
  rotate_left
  focus (intro wS hSw; (try replace hSw := HSF.out wS hSw); (try dsimp only at hSw); go_simp; (try with_reducible rfl))
  (try simp only [Act.put, List.setIfInBounds_toArray, List.set_cons_zero, List.set_cons_succ])
  refine wpAnyS_pure 4 (v := ?_) (fun _ => trivial) (by simp only [List.getElem?_toArray, List.getElem?_cons_succ, List.getElem?_cons_zero]; rfl) (by kernel_rfl) (fun _ _ _ _ _ h => h) ⟨rfl, (by intro c h; cases h), ?_⟩ hHeld ?_
  rotate_left
  focus (intro wS hSw; (try replace hSw := HSF.out wS hSw); (try dsimp only at hSw); go_simp; (try with_reducible rfl))
  (try simp only [Act.put, List.setIfInBounds_toArray, List.set_cons_zero, List.set_cons_succ])
  refine wpAnyS_take 5 (v := ?_) (fun _ => trivial) (by simp only [List.getElem?_toArray, List.getElem?_cons_succ, List.getElem?_cons_zero]; rfl) (by kernel_rfl) (fun _ _ _ _ _ h => h) ⟨rfl, (by intro c h; cases h), ?_⟩ hHeld ?_
  rotate_left
  focus (intro wS hSw; (try replace hSw := HSF.out wS hSw); (try dsimp only at hSw); go_simp; (try with_reducible rfl))
  (try simp only [Act.put, List.setIfInBounds_toArray, List.set_cons_zero, List.set_cons_succ])
  refine wpAnyS_pure 6 (v := ?_) (fun _ => trivial) (by simp only [List.getElem?_toArray, List.getElem?_cons_succ, List.getElem?_cons_zero]; rfl) (by kernel_rfl) (fun _ _ _ _ _ h => h) ⟨rfl, (by intro c h; cases h), ?_⟩ hHeld ?_
  rotate_left
  focus (intro wS hSw; (try replace hSw := HSF.out wS hSw); (try dsimp only at hSw); go_simp; (try with_reducible rfl))
  (try simp only [Act.put, List.setIfInBounds_toArray, List.set_cons_zero, List.set_cons_succ])
  refine wpAnyS_pure 7 (v := ?_) (fun _ => trivial) (by simp only [List.getElem?_toArray, List.getElem?_cons_succ, List.getElem?_cons_zero]; rfl) (by kernel_rfl) (fun _ _ _ _ _ h => h) ⟨rfl, (by intro c h; cases h), ?_⟩ hHeld ?_
  rotate_left
  focus (intro wS hSw; (try replace hSw := HSF.out wS hSw); (try dsimp only at hSw); go_simp; (try with_reducible rfl))
  (try simp only [Act.put, List.setIfInBounds_toArray, List.set_cons_zero, List.set_cons_succ])
  refine wpAnyS_take 8 (v := ?_) (fun _ => trivial) (by simp only [List.getElem?_toArray, List.getElem?_cons_succ, List.getElem?_cons_zero]; rfl) (by kernel_rfl) (fun _ _ _ _ _ h => h) ⟨rfl, (by intro c h; cases h), ?_⟩ hHeld ?_
  rotate_left
  focus (intro wS hSw; (try replace hSw := HSF.out wS hSw); (try dsimp only at hSw); go_simp; (try with_reducible rfl))
  (try simp only [Act.put, List.setIfInBounds_toArray, List.set_cons_zero, List.set_cons_succ])
  refine wpAnyS_take 9 (v := ?_) (fun _ => trivial) (by simp only [List.getElem?_toArray, List.getElem?_cons_succ, List.getElem?_cons_zero]; rfl) (by kernel_rfl) (fun _ _ _ _ _ h => h) ⟨rfl, (by intro c h; cases h), ?_⟩ hHeld ?_
  rotate_left
  focus (intro wS hSw; (try replace hSw := HSF.out wS hSw); (try dsimp only at hSw); go_simp; (try with_reducible rfl))
  (try simp only [Act.put, List.setIfInBounds_toArray, List.set_cons_zero, List.set_cons_succ])
  refine wpAnyS_take 10 (v := ?_) (fun _ => trivial) (by simp only [List.getElem?_toArray, List.getElem?_cons_succ, List.getElem?_cons_zero]; rfl) (by kernel_rfl) (fun _ _ _ _ _ h => h) ⟨rfl, (by intro c h; cases h), ?_⟩ hHeld ?_
  rotate_left
  focus (intro wS hSw; (try replace hSw := HSF.out wS hSw); (try dsimp only at hSw); go_simp; (try with_reducible rfl))
  (try simp only [Act.put, List.setIfInBounds_toArray, List.set_cons_zero, List.set_cons_succ])
  refine wpAnyS_pure 11 (v := ?_) (fun _ => trivial) (by simp only [List.getElem?_toArray, List.getElem?_cons_succ, List.getElem?_cons_zero]; rfl) (by kernel_rfl) (fun _ _ _ _ _ h => h) ⟨rfl, (by intro c h; cases h), ?_⟩ hHeld ?_
  rotate_left
  focus (intro wS hSw; (try replace hSw := HSF.out wS hSw); (try dsimp only at hSw); go_simp; (try with_reducible rfl))
  (try simp only [Act.put, List.setIfInBounds_toArray, List.set_cons_zero, List.set_cons_succ])
  refine wpAnyS_pure 12 (v := ?_) (fun _ => trivial) (by simp only [List.getElem?_toArray, List.getElem?_cons_succ, List.getElem?_cons_zero]; rfl) (by kernel_rfl) (fun _ _ _ _ _ h => h) ⟨rfl, (by intro c h; cases h), ?_⟩ hHeld ?_
  rotate_left
  focus (intro wS hSw; (try replace hSw := HSF.out wS hSw); (try dsimp only at hSw); go_simp; (try with_reducible rfl))
  (try simp only [Act.put, List.setIfInBounds_toArray, List.set_cons_zero, List.set_cons_succ])
  refine wpAnyS_pure 13 (v := ?_) (fun _ => trivial) (by simp only [List.getElem?_toArray, List.getElem?_cons_succ, List.getElem?_cons_zero]; rfl) (by kernel_rfl) (fun _ _ _ _ _ h => h) ⟨rfl, (by intro c h; cases h), ?_⟩ hHeld ?_
  rotate_left
  focus (intro wS hSw; (try replace hSw := HSF.out wS hSw); (try dsimp only at hSw); go_simp; (try with_reducible rfl))
  (try simp only [Act.put, List.setIfInBounds_toArray, List.set_cons_zero, List.set_cons_succ])
  refine wpAnyS_take 14 (v := ?_) (fun _ => trivial) (by simp only [List.getElem?_toArray, List.getElem?_cons_succ, List.getElem?_cons_zero]; rfl) (by kernel_rfl) (fun _ _ _ _ _ h => h) ⟨rfl, (by intro c h; cases h), ?_⟩ hHeld ?_
  rotate_left
  focus (intro wS hSw; (try replace hSw := HSF.out wS hSw); (try dsimp only at hSw); go_simp; (try with_reducible rfl))
  (try simp only [Act.put, List.setIfInBounds_toArray, List.set_cons_zero, List.set_cons_succ])
  refine wpAnyS_pure 15 (v := ?_) (fun _ => trivial) (by simp only [List.getElem?_toArray, List.getElem?_cons_succ, List.getElem?_cons_zero]; rfl) (by kernel_rfl) (fun _ _ _ _ _ h => h) ⟨rfl, (by intro c h; cases h), ?_⟩ hHeld ?_
  rotate_left
  focus (intro wS hSw; (try replace hSw := HSF.out wS hSw); (try dsimp only at hSw); go_simp; (try with_reducible rfl))
  (try simp only [Act.put, List.setIfInBounds_toArray, List.set_cons_zero, List.set_cons_succ])
  refine wpAnyS_pure 16 (v := ?_) (fun _ => trivial) (by simp only [List.getElem?_toArray, List.getElem?_cons_succ, List.getElem?_cons_zero]; rfl) (by kernel_rfl) (fun _ _ _ _ _ h => h) ⟨rfl, (by intro c h; cases h), ?_⟩ hHeld ?_
  rotate_left
  focus (intro wS hSw; (try replace hSw := HSF.out wS hSw); (try dsimp only at hSw); go_simp; (try with_reducible rfl))
  (try simp only [Act.put, List.setIfInBounds_toArray, List.set_cons_zero, List.set_cons_succ])
  refine wpAnyS_take 17 (v := ?_) (fun _ => trivial) (by simp only [List.getElem?_toArray, List.getElem?_cons_succ, List.getElem?_cons_zero]; rfl) (by kernel_rfl) (fun _ _ _ _ _ h => h) ⟨rfl, (by intro c h; cases h), ?_⟩ hHeld ?_
  rotate_left
  focus (intro wS hSw; (try replace hSw := HSF.out wS hSw); (try dsimp only at hSw); go_simp; (try with_reducible rfl))
  (try simp only [Act.put, List.setIfInBounds_toArray, List.set_cons_zero, List.set_cons_succ])
  refine wpAnyS_ready [18] (by kernel_rfl) (by simp) (AllReadyS.consL (by simp only [List.getElem?_toArray, List.getElem?_cons_succ, List.getElem?_cons_zero]; rfl) rfl (by kernel_rfl) (fun K hK => ?_) AllReadyS.nil)
  refine callS (by intro c h; cases h) (by go_simp; try with_reducible rfl) (HC.out _) ?_
  intro w5 hB5
  have B5 := hid (bd.out.trans (hB5.mono bd.out.size))
  refine hK.out _ _ ?_
  (try simp only [Act.put, List.setIfInBounds_toArray, List.set_cons_zero, List.set_cons_succ])
  clear hK K hHeld
  refine wpAnyS_pureL 19 (v := ?_) (fun _ => trivial) (by simp only [List.getElem?_toArray, List.getElem?_cons_succ, List.getElem?_cons_zero]; rfl) (by kernel_rfl) (by kernel_rfl) (fun _ _ _ _ _ h => h) ⟨rfl, (by intro c h; cases h), ?_⟩ ?_
  rotate_left
  focus (intro wS hSw; (try replace hSw := HSF.out wS hSw); (try dsimp only at hSw); go_simp; (try with_reducible rfl))
  (try simp only [Act.put, List.setIfInBounds_toArray, List.set_cons_zero, List.set_cons_succ])
  refine wpAnyS_done (by kernel_rfl) ?_
  go_wp2_with fail
  go_ret
  exact ⟨rfl, B5.out⟩
set_option maxRecDepth 100000 in
set_option maxHeartbeats 4000000 in
theorem order_any (A B : Option Addr) (c d : Nat) (lots : List Lt) (bs : List Bx) (x : Wt) (w : World) (hl : lots.length ≤ maxLen) (hb : bs.length ≤ 20) (h1 : SlR w w.heap.size A lots) (h2 : SlR w w.heap.size B bs) (hlt : ∀ b ∈ bs, b.1 < lots.length) :
    Calls Tryz.prog 20 #[.slice A lots.length c, .slice B bs.length d, .agg #[.int .i64 x.1, .int .i64 x.2.1, .int .i64 x.2.2]] w fun e w' => ∃ v, e = .returned v ∧ OwnI w' w.heap.size v (toI (orderL lots bs x)) ∧ Below w.heap.size w w' := by
  obtain ⟨wk, wc, wu⟩ := x
  simp only
  obtain ⟨w1, hw1⟩ : ∃ w1, w1 = ((w.alloc (Obj.cells #[.slice A lots.length c] 23)).alloc (Obj.cells #[.slice B bs.length d] 24)).alloc (Obj.cells #[.int .i64 wk, .int .i64 wc, .int .i64 wu] 42) := ⟨_, rfl⟩
  have B1 := hid (show Below w.heap.size w w1 by rw [hw1]; (repeat (first | exact Below.refl _ _ | assumption | refine below_drewN ?_ _ | refine Below.drew ?_ | refine Below.alloc ?_ (by (try simp); (try omega)) _ | refine Below.setCell ?_ (by (try simp); (try omega)) _)))
  have L1 := hid (show Blk w1 w.heap.size 23 #[.slice A lots.length c] by rw [hw1]; exact ((Blk.new w _ _).alloc _).alloc _)
  have X1 := hid (show Blk w1 (w.heap.size + 1) 24 #[.slice B bs.length d] by rw [hw1]; exact (Blk.new_at (by simp)).alloc _)
  have Y1 := hid (show Blk w1 (w.heap.size + 1 + 1) 42 #[.int .i64 wk, .int .i64 wc, .int .i64 wu] by rw [hw1]; exact Blk.new_at (by simp))
  have H1 := hid h1; have HL := hid hl; have HLT := hid hlt; have H2 := hid h2
  subst hw1
  clear h1 hl hlt h2
  go_enter Tryz.func20, Tryz.ntmps20
  have x0 := X1.out.cell 0; have xz := X1.out.lt
  simp at x0
  go_wp2_with fail
  generalize ((w.alloc (Obj.cells #[.slice A lots.length c] 23)).alloc (Obj.cells #[.slice B bs.length d] 24)).alloc (Obj.cells #[.int .i64 wk, .int .i64 wc, .int .i64 wu] 42) = w1 at *
  go_loopw [7, 12] (fun ov iv wr => ∃ (k : Nat) (v : Value), k ≤ bs.length ∧ iv = .int .i64 k ∧ v = ov ∧ OwnI wr w1.heap.size v (toI (candL lots bs (wk, wc, wu) k)) ∧ Below w1.heap.size w1 wr) (fun _ iv _ => bs.length - (intOf iv).toNat)
  case atStart => exact ⟨0, .slice none 0 0, by omega, rfl, rfl, ⟨rfl, .inl ⟨rfl, rfl⟩⟩, Below.refl _ _⟩
  case round =>
    obtain ⟨k, v, hk, rfl, rfl, hO, hB⟩ := hrel
    have HO := hid hO; have HB := hid hB
    have LB := hid (L1.out.below hB L1.out.lt)
    have XB := hid (X1.out.below hB X1.out.lt)
    have YB := hid (Y1.out.below hB Y1.out.lt)
    have BW := hid (B1.out.trans (hB.mono B1.out.size))
    clear hO hB x0 xz
    by_cases hlt : k < bs.length
    case neg =>
      obtain rfl : k = bs.length := by omega
      have hcl : (candL lots bs (wk, wc, wu) bs.length).length ≤ 20 := by
        have h5 := orderL_len lots bs (wk, wc, wu)
        unfold orderL at h5
        rw [isort_len] at h5
        omega
      have HS := hid (sortStable_any 54 #[.pointer (some ⟨w.heap.size, 0, none⟩), .pointer (some ⟨w.heap.size + 1, 0, none⟩)] callOrd (expAt lots bs) w1.heap.size v (candL lots bs (wk, wc, wu) bs.length) wr hcl HO.out (fun W x y hg hx hy => by
        have hin : ∀ z, z ∈ candL lots bs (wk, wc, wu) bs.length → ∃ h : z < bs.length, 0 ≤ bs[z].1 ∧ bs[z].1 < lots.length := fun z hz => by
          simp only [candL, List.mem_filter, List.mem_range, Bool.and_eq_true, hasF, decide_eq_true_eq] at hz
          obtain ⟨hz1, _, ⟨hz2, _⟩, _⟩ := hz
          refine ⟨hz1, ?_, HLT.out _ (List.getElem_mem hz1)⟩
          simpa [hz1] using hz2
        obtain ⟨hx1, hx2⟩ := hin x hx
        obtain ⟨hy1, hy2⟩ := hin y hy
        have BX := BW.out.grown hg BW.out.size (fun q e => Nat.le_trans B1.out.size (own_blk HO.out q e).1)
        have LX := LB.out.grown hg (own_blk_ne HO.out LB.out (by decide)).symm
        have XX := XB.out.grown hg (own_blk_ne HO.out XB.out (by decide)).symm
        exact ordcmp_any w.heap.size (w.heap.size + 1) A B c d lots bs x y W (by simpa using LX.cell 0) (by simpa using XX.cell 0) ((H1.out.below BX).more BX.size) ((H2.out.below BX).more BX.size) hx1 hy1 hx2 hy2 (by omega) HL.out))
      obtain ⟨Av, cv, rfl⟩ := own_form HO.out
      clear hlt hcl
      go_wp2_with fail
      refine HS.out.mono ?_
      rintro e w5 ⟨rfl, h5, h6⟩
      have O5 := hid h5
      have B5 := hid (BW.out.grown h6 BW.out.size (fun q e => Nat.le_trans B1.out.size (own_blk HO.out q e).1))
      clear h5 h6 HS
      go_wp2_with fail
      go_ret
      exact ⟨_, rfl, own_base O5.out B1.out.size, B5.out⟩
    have hltI : (k : Int) < bs.length := by omega
    have HCS := hid (candL_succ lots bs (wk, wc, wu) k)
    have hge : bs.getD k (0, 0, 0) = bs[k] := by simp [hlt]
    have hca : cntAt bs k = bs[k].2.1 := by simp [cntAt, hlt]
    rw [hge, hca] at HCS
    have hll := hid (HLT.out _ (List.getElem_mem hlt))
    obtain ⟨b, off, rfl, hbz, c0, c1, c2, -⟩ := H2.out.i3 hlt
    replace c0 := (bcell BW.out b _ hbz).trans c0
    replace c1 := (bcell BW.out b _ hbz).trans c1
    replace c2 := (bcell BW.out b _ hbz).trans c2
    have hz : b < wr.heap.size := by have := BW.out.size; omega
    clear hge hca
    generalize bs[k] = xb at *
    obtain ⟨x0, x1, x2⟩ := xb
    simp only at c0 c1 c2
    have B2 := hid (BW.out.alloc BW.out.size (Obj.cells #[.int .i64 x0, .int .i64 x1, .int .i64 x2] 45))
    have X2 := hid (Blk.new wr 45 #[.int .i64 x0, .int .i64 x1, .int .i64 x2])
    have BB2 := hid (HB.out.alloc HB.out.size (Obj.cells #[.int .i64 x0, .int .i64 x1, .int .i64 x2] 45))
    have O2 := hid (HO.out.alloc (Obj.cells #[.int .i64 x0, .int .i64 x1, .int .i64 x2] 45))
    have l0 := LB.out.cell 0; have lz := LB.out.lt
    have y0 := YB.out.cell 0; have y1 := YB.out.cell 1; have y2 := YB.out.cell 2; have yz := YB.out.lt
    simp at l0 y0 y1 y2
    by_cases hx1 : 0 < x1
    case neg =>
      have hcs := hid (show candL lots bs (wk, wc, wu) (k + 1) = candL lots bs (wk, wc, wu) k by rw [HCS.out]; simp [hx1])
      clear l0 lz y0 y1 y2 yz
      as_aux_lemma =>
        go_wp2_with fail
        go_roundw
        case rel => exact ⟨k + 1, v, by omega, by go_num, rfl, by rw [hcs.out]; exact O2.out, BB2.out⟩
        case measure => simp [intOf]; omega
    have HC := hid (fits_any A c lots (x0, x1, x2) (wk, wc, wu) _ HL.out ((H1.out.below B2.out).more B2.out.size) hll.out)
    go_wp2_with fail
    refine HC.out.mono ?_
    rintro e w5 ⟨rfl, hB5⟩
    have O5 := hid (O2.out.below hB5)
    have BB5 := hid (BB2.out.trans (hB5.mono BB2.out.size))
    clear hB5 HC l0 lz y0 y1 y2 yz c0 c1 c2 X2 B2 O2 BB2
    cases hq : hasF lots (wk, wc, wu) (x0, x1, x2) with
    | false =>
      have hcs := hid (show candL lots bs (wk, wc, wu) (k + 1) = candL lots bs (wk, wc, wu) k by rw [HCS.out, hq]; simp)
      as_aux_lemma =>
        go_wp2_with fail
        go_roundw
        case rel => exact ⟨k + 1, v, by omega, by go_num, rfl, by rw [hcs.out]; exact O5.out, BB5.out⟩
        case measure => simp [intOf]; omega
    | true =>
      have hcs := hid (show toI (candL lots bs (wk, wc, wu) (k + 1)) = toI (candL lots bs (wk, wc, wu) k) ++ [(k : Int)] by rw [HCS.out, hq]; simp [hx1, toI])
      have hcell := hid (show ∀ (j : Nat) (u : Value), ([(k : Int)].map (Value.int .i64))[j]? = some u → (w5.alloc (Obj.cells #[.int .i64 (k : Int)] 3)).cell? ((⟨w5.heap.size, 0, none⟩ : Addr).add j) = some u from cell_one_new w5 _ _)
      have O6 := hid (O5.out.alloc (Obj.cells #[.int .i64 (k : Int)] 3))
      have BB6 := hid (BB5.out.alloc BB5.out.size (Obj.cells #[.int .i64 (k : Int)] 3))
      have hlw := hid (show (toI (candL lots bs (wk, wc, wu) k)).length + [(k : Int)].length ≤ 17592186044416 by
        have : (candL lots bs (wk, wc, wu) k).length ≤ k := by
          have := List.length_filter_le (fun i => decide (0 < cntAt bs i) && hasF lots (wk, wc, wu) (bs.getD i (0, 0, 0))) (List.range k)
          simpa [candL] using this
        rw [toI_len]; simp; omega)
      have hbase := hid BB6.out.size
      have hsep := hid (fun q (e : v.ownBlock = some q) => (own_blk HO.out q e).1)
      as_aux_lemma =>
        go_wp2_with (at_builtin; refine wp_appI _ rfl (.tmp 26) (.tmp 28) rfl w1.heap.size v _ rfl O6.out ⟨w5.heap.size, 0, none⟩ 1 [(k : Int)] rfl hcell.out hlw.out hbase.out ?_; intro v7 w7 ho7 hg7 _; have O7 := hid ho7; have BB7 := hid (BB6.out.grown hg7 BB6.out.size hsep.out); clear ho7 hg7)
        go_roundw
        case rel => exact ⟨k + 1, v7, by omega, by go_num, rfl, by rw [hcs.out]; exact O7.out, BB7.out⟩
        case measure => simp [intOf]; omega
end Go.Proofs.YtfpehakllnkaeaaGreatDoor
