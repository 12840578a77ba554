
/- Petri: Invariant. -/
import Derived.Test.YtbbogflibekgfaaDoorPetYp
import Derived.Test.YtbbogflibekgfaaDoorRegS
import Derived.Laws.EntriesVeiled
set_option linter.unusedSimpArgs false
set_option linter.unusedVariables false
namespace Go.Proofs.YtbbogflibekgfaaDoor
open Go.RowKit Go.IntWalk Go.Shelf

set_option maxRecDepth 100000 in
set_option maxHeartbeats 2000000 in
theorem unbal_any (t : Tr) (A1 A2 : Option Addr) (c1 c2 : Nat) (B : Option Addr) (d gw gs : Nat) (ws : List Int) (w : World) (h1 : SlR w w.heap.size A1 t.1) (h2 : SlR w w.heap.size A2 t.2) (hW : SlR w w.heap.size B ws) (hl1 : t.1.length ≤ 64) (hl2 : t.2.length ≤ 64) (hlw : ws.length ≤ 64)
    (xw : Blk w gw 25 #[.slice B ws.length d]) (xs : Blk w gs 67 #[.func (.func 41) #[] #[.pointer (some ⟨gw, 0, none⟩)]]) (hs1 : ∀ x ∈ t.1, 0 ≤ x ∧ x < ws.length) (hs2 : ∀ x ∈ t.2, 0 ≤ x ∧ x < ws.length) (hw : ∀ x ∈ ws, -100000 ≤ x ∧ x ≤ 100000) :
    Calls Tryd.prog 43 #[.agg #[.slice A1 t.1.length c1, .slice A2 t.2.length c2], .pointer (some ⟨gs, 0, none⟩)] w fun e w' => e = .returned (.bool (unbal ws t)) ∧ Below w.heap.size w w' := by
  obtain ⟨I, O⟩ := t
  simp only at *
  obtain ⟨w1, hw1⟩ : ∃ w1, w1 = (w.alloc (Obj.cells #[.slice A1 I.length c1, .slice A2 O.length c2] 29)) := ⟨_, rfl⟩
  have B1 := hid (show Below w.heap.size w w1 by rw [hw1]; (repeat (first | exact Below.refl _ _ | assumption | refine below_drewN ?_ _ | refine Below.drew ?_ | refine Below.alloc ?_ (by (try simp); (try omega)) _ | refine Below.setCell ?_ (by (try simp); (try omega)) _)))
  have X1 := hid (show Blk w1 w.heap.size 29 #[.slice A1 I.length c1, .slice A2 O.length c2] by rw [hw1]; exact Blk.new w _ _)
  have XS := hid (xs.below B1.out xs.lt)
  have HC1 := hid (fun (W : World) (hq : Below w1.heap.size w1 W) => show Calls Tryd.prog 41 #[.slice A1 I.length c1, .pointer (some ⟨gw, 0, none⟩)] W fun e w' => e = .returned (.int .i64 (sumN ws I)) ∧ Below W.heap.size W w' from
    (sum_any A1 c1 I B d gw ws W ((h1.below (B1.out.trans (hq.mono B1.out.size))).more (B1.out.trans (hq.mono B1.out.size)).size) ((hW.below (B1.out.trans (hq.mono B1.out.size))).more (B1.out.trans (hq.mono B1.out.size)).size) hl1 hlw (xw.below (B1.out.trans (hq.mono B1.out.size)) xw.lt) hs1 hw).mono (fun e w' ⟨he, hb⟩ => ⟨he, hb ▸ Below.refl _ _⟩))
  have HC2 := hid (fun (W : World) (hq : Below w1.heap.size w1 W) => show Calls Tryd.prog 41 #[.slice A2 O.length c2, .pointer (some ⟨gw, 0, none⟩)] W fun e w' => e = .returned (.int .i64 (sumN ws O)) ∧ Below W.heap.size W w' from
    (sum_any A2 c2 O B d gw ws W ((h2.below (B1.out.trans (hq.mono B1.out.size))).more (B1.out.trans (hq.mono B1.out.size)).size) ((hW.below (B1.out.trans (hq.mono B1.out.size))).more (B1.out.trans (hq.mono B1.out.size)).size) hl2 hlw (xw.below (B1.out.trans (hq.mono B1.out.size)) xw.lt) hs2 hw).mono (fun e w' ⟨he, hb⟩ => ⟨he, hb ▸ Below.refl _ _⟩))
  have hu := hid (show unbal ws (I, O) = decide (sumN ws I ≠ sumN ws O) from rfl)
  clear h1 h2 hW xw xs hs1 hs2 hw
  generalize sumN ws I = a at *
  generalize sumN ws O = b at *
  go_enter Tryd.func43, Tryd.ntmps43
  go_upto_region 1 with fail
  rw [← hw1]
  clear hw1
  have x0 := X1.out.cell 0; have x1 := X1.out.cell 1; have xz := X1.out.lt; have s0 := XS.out.cell 0; have sz := XS.out.lt
  simp at x0 x1 s0
  have HSF := hid (fun (wq : World) (hq : Below w1.heap.size w1 wq) => And.intro ((bcell hq _ _ xz).trans x0) (And.intro ((bcell hq _ _ xz).trans x1) ((bcell hq _ _ sz).trans s0)))
  have BD := hid ((Below.refl w1.heap.size w1).drew)
  refine wpIn_wide.1 (wpIn_region_S (n := 0) (fun wq => Below w1.heap.size w1 wq) [] (by kernel_rfl) BD.out (fun hHeld => ?_))
  generalize w1.drew = wd at *
  refine wpAnyG_take 0 (v := ?_) (fun _ => trivial) (by simp only [List.getElem?_toArray, List.getElem?_cons_succ, List.getElem?_cons_zero]; rfl) (by kernel_rfl) (fun _ _ _ _ _ h => h) ⟨(by rfl), (by intro c h; cases h), ?_⟩ hHeld ?_
  rotate_left
  focus (intro wS hSw; (try replace hSw := HSF.out wS hSw); (try dsimp only at hSw); go_simp; (try with_reducible rfl))
  (try simp only [Act.put, List.setIfInBounds_toArray, List.set_cons_zero, List.set_cons_succ])
  refine wpAnyG_pure 1 (v := ?_) (fun _ => trivial) (by simp only [List.getElem?_toArray, List.getElem?_cons_succ, List.getElem?_cons_zero]; rfl) (by kernel_rfl) (fun _ _ _ _ _ h => h) ⟨(by rfl), (by intro c h; cases h), ?_⟩ hHeld ?_
  rotate_left
  focus (intro wS hSw; (try replace hSw := HSF.out wS hSw); (try dsimp only at hSw); go_simp; (try with_reducible rfl))
  (try simp only [Act.put, List.setIfInBounds_toArray, List.set_cons_zero, List.set_cons_succ])
  refine wpAnyG_take 2 (v := ?_) (fun _ => trivial) (by simp only [List.getElem?_toArray, List.getElem?_cons_succ, List.getElem?_cons_zero]; rfl) (by kernel_rfl) (fun _ _ _ _ _ h => h) ⟨(by rfl), (by intro c h; cases h), ?_⟩ hHeld ?_
  rotate_left
  focus (intro wS hSw; (try replace hSw := HSF.out wS hSw); (try dsimp only at hSw); go_simp; (try with_reducible rfl))
  (try simp only [Act.put, List.setIfInBounds_toArray, List.set_cons_zero, List.set_cons_succ])
  refine wpAnyG_take 4 (v := ?_) (fun _ => trivial) (by simp only [List.getElem?_toArray, List.getElem?_cons_succ, List.getElem?_cons_zero]; rfl) (by kernel_rfl) (fun _ _ _ _ _ h => h) ⟨(by rfl), (by intro c h; cases h), ?_⟩ hHeld ?_
  rotate_left
  focus (intro wS hSw; (try replace hSw := HSF.out wS hSw); (try dsimp only at hSw); go_simp; (try with_reducible rfl))
  (try simp only [Act.put, List.setIfInBounds_toArray, List.set_cons_zero, List.set_cons_succ])
  refine wpAnyG_pure 5 (v := ?_) (fun _ => trivial) (by simp only [List.getElem?_toArray, List.getElem?_cons_succ, List.getElem?_cons_zero]; rfl) (by kernel_rfl) (fun _ _ _ _ _ h => h) ⟨(by rfl), (by intro c h; cases h), ?_⟩ hHeld ?_
  rotate_left
  focus (intro wS hSw; (try replace hSw := HSF.out wS hSw); (try dsimp only at hSw); go_simp; (try with_reducible rfl))
  (try simp only [Act.put, List.setIfInBounds_toArray, List.set_cons_zero, List.set_cons_succ])
  refine wpAnyG_take 6 (v := ?_) (fun _ => trivial) (by simp only [List.getElem?_toArray, List.getElem?_cons_succ, List.getElem?_cons_zero]; rfl) (by kernel_rfl) (fun _ _ _ _ _ h => h) ⟨(by rfl), (by intro c h; cases h), ?_⟩ hHeld ?_
  rotate_left
  focus (intro wS hSw; (try replace hSw := HSF.out wS hSw); (try dsimp only at hSw); go_simp; (try with_reducible rfl))
  (try simp only [Act.put, List.setIfInBounds_toArray, List.set_cons_zero, List.set_cons_succ])
  refine wpAnyS_ready [3] (by kernel_rfl) (by simp) (AllReadyS.consG (by simp only [List.getElem?_toArray, List.getElem?_cons_succ, List.getElem?_cons_zero]; rfl) (by rfl) (fun K hK => ?_) AllReadyS.nil)
  refine callS (by intro c h; cases h) (by go_simp; try with_reducible rfl) (HC1.out _ BD.out) ?_
  intro w3 hBq
  have B3 := hid (BD.out.trans (hBq.mono BD.out.size))
  refine hK.out _ _ B3.out ?_
  (try simp only [Act.put, List.setIfInBounds_toArray, List.set_cons_zero, List.set_cons_succ])
  clear hK K hBq
  clear hHeld
  have hHeld := B3.out
  refine wpAnyS_ready [7] (by kernel_rfl) (by simp) (AllReadyS.consG (by simp only [List.getElem?_toArray, List.getElem?_cons_succ, List.getElem?_cons_zero]; rfl) (by rfl) (fun K hK => ?_) AllReadyS.nil)
  refine callS (by intro c h; cases h) (by go_simp; try with_reducible rfl) (HC2.out _ B3.out) ?_
  intro w7 hBq
  have B7 := hid (B3.out.trans (hBq.mono B3.out.size))
  refine hK.out _ _ B7.out ?_
  (try simp only [Act.put, List.setIfInBounds_toArray, List.set_cons_zero, List.set_cons_succ])
  clear hK K hBq
  clear hHeld
  have hHeld := B7.out
  by_cases hab : a = b
  · have hab2 := hid (show unbal ws (I, O) = false by rw [hu.out]; simp [hab])
    subst hab
    refine wpAnyG_pure 8 (v := ?_) (fun _ => trivial) (by simp only [List.getElem?_toArray, List.getElem?_cons_succ, List.getElem?_cons_zero]; rfl) (by kernel_rfl) (fun _ _ _ _ _ h => h) ⟨(by rfl), (by intro c h; cases h), ?_⟩ hHeld ?_
    rotate_left
    focus (intro wS hSw; (try replace hSw := HSF.out wS hSw); (try dsimp only at hSw); go_simp; (try with_reducible rfl))
    (try simp only [Act.put, List.setIfInBounds_toArray, List.set_cons_zero, List.set_cons_succ])
    refine wpAnyG_pure 9 (v := ?_) (fun _ => trivial) (by simp only [List.getElem?_toArray, List.getElem?_cons_succ, List.getElem?_cons_zero]; rfl) (by kernel_rfl) (fun _ _ _ _ _ h => h) ⟨(by rfl), (by intro c h; cases h), ?_⟩ hHeld ?_
    rotate_left
    focus (intro wS hSw; (try replace hSw := HSF.out wS hSw); (try dsimp only at hSw); go_simp; (try with_reducible rfl))
    (try simp only [Act.put, List.setIfInBounds_toArray, List.set_cons_zero, List.set_cons_succ])
    refine wpAnyS_done (by kernel_rfl) ?_
    clear hHeld HSF
    have BW := hid (B1.out.trans (B7.out.mono B1.out.size))
    go_wp2_with fail
    go_ret
    exact ⟨ret_bool (by first | exact hab2.out.symm | (rw [hab2.out]; simp)), BW.out⟩
  · have hab2 := hid (show unbal ws (I, O) = true by rw [hu.out]; simp [hab])
    have hbe : (a != b) = true := by simp [hab]
    refine wpAnyG_pure 8 (v := ?_) (fun _ => trivial) (by simp only [List.getElem?_toArray, List.getElem?_cons_succ, List.getElem?_cons_zero]; rfl) (by kernel_rfl) (fun _ _ _ _ _ h => h) ⟨(by rfl), (by intro c h; cases h), ?_⟩ hHeld ?_
    rotate_left
    focus (intro wS hSw; (try replace hSw := HSF.out wS hSw); (try dsimp only at hSw); go_simp; (try with_reducible rfl))
    (try simp only [Act.put, List.setIfInBounds_toArray, List.set_cons_zero, List.set_cons_succ])
    refine wpAnyG_pure 9 (v := ?_) (fun _ => trivial) (by simp only [List.getElem?_toArray, List.getElem?_cons_succ, List.getElem?_cons_zero]; rfl) (by kernel_rfl) (fun _ _ _ _ _ h => h) ⟨(by rfl), (by intro c h; cases h), ?_⟩ hHeld ?_
    rotate_left
    focus (intro wS hSw; (try replace hSw := HSF.out wS hSw); (try dsimp only at hSw); go_simp; (try with_reducible rfl))
    (try simp only [Act.put, List.setIfInBounds_toArray, List.set_cons_zero, List.set_cons_succ])
    refine wpAnyS_done (by kernel_rfl) ?_
    clear hHeld HSF
    have BW := hid (B1.out.trans (B7.out.mono B1.out.size))
    go_wp2_with fail
    go_ret
    exact ⟨ret_bool (by first | exact hab2.out.symm | (rw [hab2.out]; simp [hab])), BW.out⟩
set_option maxRecDepth 100000 in
set_option maxHeartbeats 2000000 in
theorem inv_any (N : Nat) (A : Option Addr) (c : Nat) (T : List Tr) (B : Option Addr) (d : Nat) (ws : List Int) (w : World) (hl : T.length ≤ maxLen) (h : SlR w w.heap.size A T) (hW : SlR w w.heap.size B ws) (hok : netOK ((N : Int), T) = true) (hwt : wtOK (N : Int) ws = true) :
    Calls Tryd.prog 21 #[.agg #[.int .i64 (N : Nat), .slice A T.length c], .slice B ws.length d] w fun e w' => e = .returned (.bool (invN T ws)) ∧ Below w.heap.size w w' := by
  obtain ⟨hwl, hwr⟩ := wt_parts hwt
  have hN64 : N ≤ 64 := by
    simp only [netOK, Bool.and_eq_true, decide_eq_true_eq] at hok
    omega
  obtain ⟨w3, hw3⟩ : ∃ w3, w3 = ((w.alloc (Obj.cells #[.int .i64 (N : Nat), .slice A T.length c] 24)).alloc (Obj.cells #[.slice B ws.length d] 25)).alloc (Obj.cells #[.func (.func 41) #[] #[.pointer (some ⟨w.heap.size + 1, 0, none⟩)]] 67) := ⟨_, rfl⟩
  have B3 := hid (show Below w.heap.size w w3 by rw [hw3]; (repeat (first | exact Below.refl _ _ | assumption | refine below_drewN ?_ _ | refine Below.drew ?_ | refine Below.alloc ?_ (by (try simp); (try omega)) _ | refine Below.setCell ?_ (by (try simp); (try omega)) _)))
  have X1 := hid (show Blk w3 w.heap.size 24 #[.int .i64 (N : Nat), .slice A T.length c] by rw [hw3]; exact ((Blk.new w _ _).alloc _).alloc _)
  have X2 := hid (show Blk w3 (w.heap.size + 1) 25 #[.slice B ws.length d] by rw [hw3]; exact (Blk.new_at (by simp)).alloc _)
  have X3 := hid (show Blk w3 (w.heap.size + 1 + 1) 67 #[.func (.func 41) #[] #[.pointer (some ⟨w.heap.size + 1, 0, none⟩)]] by rw [hw3]; exact Blk.new_at (by simp))
  have HC := hid (ctt_any 43 #[.pointer (some ⟨w.heap.size + 1 + 1, 0, none⟩)] (enters_of Tryd.func43 (by kernel_rfl) rfl) A c T (unbal ws) w3 hl ((h.below B3.out).more B3.out.size) (fun x W A1 A2 c1 c2 hx hq s1 s2 l1 l2 => by
    obtain ⟨t1, t2⟩ := net_sets hok hx
    have b1 := setB_len t1 (by omega)
    have b2 := setB_len t2 (by omega)
    exact (unbal_any x A1 A2 c1 c2 B d (w.heap.size + 1) (w.heap.size + 1 + 1) ws W s1 s2 ((hW.below (B3.out.trans (hq.mono B3.out.size))).more (B3.out.trans (hq.mono B3.out.size)).size) (by omega) (by omega) (by omega) (X2.out.below hq X2.out.lt) (X3.out.below hq X3.out.lt)
      (fun y hy => by have := setB_mem t1 y hy; omega) (fun y hy => by have := setB_mem t2 y hy; omega) hwr).mono (fun e w' ⟨he, hb⟩ => ⟨he, hq.trans (hb.mono hq.size)⟩)))
  have hi := hid (show invN T ws = !T.any (unbal ws) from rfl)
  clear h hW hok hwt hwl hwr
  unfold maxLen at hl
  generalize T.any (unbal ws) = r at *
  go_enter Tryd.func21, Tryd.ntmps21
  go_upto_region 2 with fail
  rw [← hw3]
  clear hw3
  have x1 := X1.out.cell 1; have xz := X1.out.lt
  simp at x1
  go_wp2_with fail
  refine HC.out.mono ?_
  rintro e w4 ⟨rfl, hB⟩
  have BW := hid (B3.out.trans (hB.mono B3.out.size))
  clear hB
  go_wp2_with fail
  go_ret
  exact ⟨ret_bool (by rw [hi.out]), BW.out⟩
end Go.Proofs.YtbbogflibekgfaaDoor
