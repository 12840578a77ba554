
/- Lease: New. -/
import Derived.Test.YtappgjdnfllblaaDoorLzA
set_option linter.unusedSimpArgs false
set_option linter.unusedVariables false
namespace Go.Proofs.YtappgjdnfllblaaDoor
open Go.RowKit Go.IntWalk Go.Maps Go.WideMaps
section
variable {w : World} {base b : Nat} {v : Value} {mh mg : Nat} {d : LDk}
set_option maxRecDepth 100000 in
set_option maxHeartbeats 1000000 in
theorem hear_ask (h : Ld w base b v mh mg d) (ok : d.Ok) (z u n : Int) (hz : I64 z) (he : lAs d z true = 0) : Calls Tryd.prog 17 #[.pointer (some ⟨b, 0, none⟩), .agg #[.int .i64 0, .int .i64 z, .int .i64 u, .int .i64 n]] w fun e w' => e = .returned (.int .i64 0) ∧ Ld w' base b v mh mg (d.setH z ((d.hs z).1, (d.hs z).2.1, true)) ∧ w.grownBy w' (some mh) := by
  have HA := hid (fun W (hW : Below w.heap.size w W) => as_any (h.below hW) ok (z := z) true)
  rw [he] at HA
  have hp := hid (lAs_yes he)
  have hl := hid ok.len
  clear ok he
  go_enter Tryd.func17, Tryd.ntmps17
  go_upto_region 3 with fail
  have NZ := hid (Blk.new w 26 #[.int .i64 0, .int .i64 z, .int .i64 u, .int .i64 n])
  have B1 := hid (show Below w.heap.size w (w.alloc (Obj.cells #[.int .i64 0, .int .i64 z, .int .i64 u, .int .i64 n] 26)) by (repeat (first | exact Below.refl _ _ | assumption | refine below_drewN ?_ _ | refine Below.drew ?_ | refine Below.alloc ?_ (by (try simp); (try omega)) _ | refine Below.setCell ?_ (by (try simp); (try omega)) _)))
  generalize (w.alloc (Obj.cells #[.int .i64 0, .int .i64 z, .int .i64 u, .int .i64 n] 26)) = w1 at *
  obtain ⟨gn, hgn'⟩ : ∃ gn, gn = w.heap.size := ⟨_, rfl⟩
  rw [← hgn'] at NZ
  rw [← hgn']
  clear hgn'
  have x0 := NZ.out.cell 0; have x1 := NZ.out.cell 1
  simp at x0 x1
  go_upto_region 4 with (go_at_call 65; refine (HA.out _ B1.out).mono ?_; rintro e wa ⟨rfl, hBa⟩)
  have Ba := hid (B1.out.trans (hBa.mono B1.out.size))
  have Na := hid (NZ.out.below hBa NZ.out.lt)
  have LT := hid (And.intro h.k.lt (And.intro h.h.lt (And.intro h.g.lt (fun k (hk : v.ownBlock = some k) => (h.r.lt k hk).2))))
  have HD := hid (h.below Ba.out)
  clear hBa B1 NZ HA x0 x1 h
  go_upto_region 6 with fail
  have HSF := hid (fun (wq : World) (hq : Below wa.heap.size wa wq) => And.intro (HD.out.below hq).at_.2.2 (And.intro ((HD.out.below hq).look hz) ((Na.out.below hq Na.out.lt).cell 1)))
  have BD := hid ((Below.refl wa.heap.size wa).drew)
  refine wpIn_wide.1 (wpIn_region_S (n := 0) (fun wq => Below wa.heap.size wa wq) [] (by kernel_rfl) BD.out (fun hHeld => ?_))
  generalize wa.drew = wd at *
  refine wpAnyS_pure 0 (v := ?_) (fun _ => trivial) (by simp only [List.getElem?_toArray, List.getElem?_cons_succ, List.getElem?_cons_zero]; rfl) (by kernel_rfl) (fun _ _ _ _ _ h => h) ⟨rfl, (by intro c h; cases h), ?_⟩ hHeld ?_
  rotate_left
  focus (intro wS hSw; (try replace hSw := HSF.out wS hSw); (try dsimp only at hSw); go_simp; (try with_reducible rfl))
  (try simp only [Act.put, List.setIfInBounds_toArray, List.set_cons_zero, List.set_cons_succ])
  refine wpAnyS_take 1 (v := ?_) (fun _ => trivial) (by simp only [List.getElem?_toArray, List.getElem?_cons_succ, List.getElem?_cons_zero]; rfl) (by kernel_rfl) (fun _ _ _ _ _ h => h) ⟨rfl, (by intro c h; cases h), ?_⟩ hHeld ?_
  rotate_left
  focus (intro wS hSw; (try replace hSw := HSF.out wS hSw); (try dsimp only at hSw); go_simp; (try with_reducible rfl))
  (try simp only [Act.put, List.setIfInBounds_toArray, List.set_cons_zero, List.set_cons_succ])
  refine wpAnyS_pure 2 (v := ?_) (fun _ => trivial) (by simp only [List.getElem?_toArray, List.getElem?_cons_succ, List.getElem?_cons_zero]; rfl) (by kernel_rfl) (fun _ _ _ _ _ h => h) ⟨rfl, (by intro c h; cases h), ?_⟩ hHeld ?_
  rotate_left
  focus (intro wS hSw; (try replace hSw := HSF.out wS hSw); (try dsimp only at hSw); go_simp; (try with_reducible rfl))
  (try simp only [Act.put, List.setIfInBounds_toArray, List.set_cons_zero, List.set_cons_succ])
  refine wpAnyS_take 3 (v := ?_) (fun _ => trivial) (by simp only [List.getElem?_toArray, List.getElem?_cons_succ, List.getElem?_cons_zero]; rfl) (by kernel_rfl) (fun _ _ _ _ _ h => h) ⟨rfl, (by intro c h; cases h), ?_⟩ hHeld ?_
  rotate_left
  focus (intro wS hSw; (try replace hSw := HSF.out wS hSw); (try dsimp only at hSw); go_simp; (try with_reducible rfl))
  (try simp only [Act.put, List.setIfInBounds_toArray, List.set_cons_zero, List.set_cons_succ])
  refine wpAnyS_pure 4 (v := ?_) (fun _ => trivial) (by simp only [List.getElem?_toArray, List.getElem?_cons_succ, List.getElem?_cons_zero]; rfl) (by kernel_rfl) (fun _ _ _ _ _ h => h) ⟨rfl, (by intro c h; cases h), ?_⟩ hHeld ?_
  rotate_left
  focus (intro wS hSw; (try replace hSw := HSF.out wS hSw); (try dsimp only at hSw); go_simp; (try with_reducible rfl))
  (try simp only [Act.put, List.setIfInBounds_toArray, List.set_cons_zero, List.set_cons_succ])
  refine wpAnyS_take 5 (v := ?_) (fun _ => trivial) (by simp only [List.getElem?_toArray, List.getElem?_cons_succ, List.getElem?_cons_zero]; rfl) (by kernel_rfl) (fun _ _ _ _ _ h => h) ⟨rfl, (by intro c h; cases h), ?_⟩ hHeld ?_
  rotate_left
  focus (intro wS hSw; (try replace hSw := HSF.out wS hSw); (try dsimp only at hSw); go_simp; (try with_reducible rfl))
  (try simp only [Act.put, List.setIfInBounds_toArray, List.set_cons_zero, List.set_cons_succ])
  refine wpAnyS_take 6 (v := ?_) (fun _ => trivial) (by simp only [List.getElem?_toArray, List.getElem?_cons_succ, List.getElem?_cons_zero]; rfl) (by kernel_rfl) (fun _ _ _ _ _ h => h) ⟨rfl, (by intro c h; cases h), ?_⟩ hHeld ?_
  rotate_left
  focus (intro wS hSw; (try replace hSw := HSF.out wS hSw); (try dsimp only at hSw); go_simp; (try with_reducible rfl))
  (try simp only [Act.put, List.setIfInBounds_toArray, List.set_cons_zero, List.set_cons_succ])
  refine wpAnyS_pure 7 (v := ?_) (fun _ => trivial) (by simp only [List.getElem?_toArray, List.getElem?_cons_succ, List.getElem?_cons_zero]; rfl) (by kernel_rfl) (fun _ _ _ _ _ h => h) ⟨rfl, (by intro c h; cases h), ?_⟩ hHeld ?_
  rotate_left
  focus (intro wS hSw; (try replace hSw := HSF.out wS hSw); (try dsimp only at hSw); go_simp; (try with_reducible rfl))
  (try simp only [Act.put, List.setIfInBounds_toArray, List.set_cons_zero, List.set_cons_succ])
  refine wpAnyS_take 8 (v := ?_) (fun _ => trivial) (by simp only [List.getElem?_toArray, List.getElem?_cons_succ, List.getElem?_cons_zero]; rfl) (by kernel_rfl) (fun _ _ _ _ _ h => h) ⟨rfl, (by intro c h; cases h), ?_⟩ hHeld ?_
  rotate_left
  focus (intro wS hSw; (try replace hSw := HSF.out wS hSw); (try dsimp only at hSw); go_simp; (try with_reducible rfl))
  (try simp only [Act.put, List.setIfInBounds_toArray, List.set_cons_zero, List.set_cons_succ])
  refine wpAnyS_pure 9 (v := ?_) (fun _ => trivial) (by simp only [List.getElem?_toArray, List.getElem?_cons_succ, List.getElem?_cons_zero]; rfl) (by kernel_rfl) (fun _ _ _ _ _ h => h) ⟨rfl, (by intro c h; cases h), ?_⟩ hHeld ?_
  rotate_left
  focus (intro wS hSw; (try replace hSw := HSF.out wS hSw); (try dsimp only at hSw); go_simp; (try with_reducible rfl))
  (try simp only [Act.put, List.setIfInBounds_toArray, List.set_cons_zero, List.set_cons_succ])
  refine wpAnyS_take 10 (v := ?_) (fun _ => trivial) (by simp only [List.getElem?_toArray, List.getElem?_cons_succ, List.getElem?_cons_zero]; rfl) (by kernel_rfl) (fun _ _ _ _ _ h => h) ⟨rfl, (by intro c h; cases h), ?_⟩ hHeld ?_
  rotate_left
  focus (intro wS hSw; (try replace hSw := HSF.out wS hSw); (try dsimp only at hSw); go_simp; (try with_reducible rfl))
  (try simp only [Act.put, List.setIfInBounds_toArray, List.set_cons_zero, List.set_cons_succ])
  refine wpAnyS_pure 11 (v := ?_) (fun _ => trivial) (by simp only [List.getElem?_toArray, List.getElem?_cons_succ, List.getElem?_cons_zero]; rfl) (by kernel_rfl) (fun _ _ _ _ _ h => h) ⟨rfl, (by intro c h; cases h), ?_⟩ hHeld ?_
  rotate_left
  focus (intro wS hSw; (try replace hSw := HSF.out wS hSw); (try dsimp only at hSw); go_simp; (try with_reducible rfl))
  (try simp only [Act.put, List.setIfInBounds_toArray, List.set_cons_zero, List.set_cons_succ])
  refine wpAnyS_take 12 (v := ?_) (fun _ => trivial) (by simp only [List.getElem?_toArray, List.getElem?_cons_succ, List.getElem?_cons_zero]; rfl) (by kernel_rfl) (fun _ _ _ _ _ h => h) ⟨rfl, (by intro c h; cases h), ?_⟩ hHeld ?_
  rotate_left
  focus (intro wS hSw; (try replace hSw := HSF.out wS hSw); (try dsimp only at hSw); go_simp; (try with_reducible rfl))
  (try simp only [Act.put, List.setIfInBounds_toArray, List.set_cons_zero, List.set_cons_succ])
  refine wpAnyS_take 13 (v := ?_) (fun _ => trivial) (by simp only [List.getElem?_toArray, List.getElem?_cons_succ, List.getElem?_cons_zero]; rfl) (by kernel_rfl) (fun _ _ _ _ _ h => h) ⟨rfl, (by intro c h; cases h), ?_⟩ hHeld ?_
  rotate_left
  focus (intro wS hSw; (try replace hSw := HSF.out wS hSw); (try dsimp only at hSw); go_simp; (try with_reducible rfl))
  (try simp only [Act.put, List.setIfInBounds_toArray, List.set_cons_zero, List.set_cons_succ])
  refine wpAnyS_ready [14, 15] (by kernel_rfl) (by simp) (AllReadyS.cons (by simp only [List.getElem?_toArray, List.getElem?_cons_succ, List.getElem?_cons_zero]; rfl) rfl (fun K hK => ?_) (AllReadyS.cons (by simp only [List.getElem?_toArray, List.getElem?_cons_succ, List.getElem?_cons_zero]; rfl) rfl (fun K hK => ?_) AllReadyS.nil))
  · --14
    go_simp
    have BE := hid (BD.out.alloc BD.out.size (Obj.cells #[.int .i64 0, .int .i64 0, .bool false] 85))
    have XE := hid (Blk.new wd 85 #[.int .i64 0, .int .i64 0, .bool false])
    refine hK.out _ _ BE.out ?_
    clear hK K
    (try simp only [Act.put, List.setIfInBounds_toArray, List.set_cons_zero, List.set_cons_succ])
    clear hHeld
    have hHeld := BE.out
    have hge := hid BD.out.size
    generalize wd.heap.size = gE at *
    generalize (wd.alloc (Obj.cells #[.int .i64 0, .int .i64 0, .bool false] 85)) = wE at *
    refine wpAnyS_ready [15] (by kernel_rfl) (by simp) (AllReadyS.cons (by simp only [List.getElem?_toArray, List.getElem?_cons_succ, List.getElem?_cons_zero]; rfl) rfl (fun K hK => ?_) AllReadyS.nil)
    go_simp
    have BG := hid (BE.out.alloc BE.out.size (Obj.cells #[.int .i64 0, .int .i64 0, .int .i64 0, .int .i64 0] 87))
    have XG := hid (Blk.new wE 87 #[.int .i64 0, .int .i64 0, .int .i64 0, .int .i64 0])
    have XE2 := hid (XE.out.below ((Below.refl wE.heap.size wE).alloc (Nat.le_refl _) (Obj.cells #[.int .i64 0, .int .i64 0, .int .i64 0, .int .i64 0] 87)) XE.out.lt)
    have hne := hid (Nat.ne_of_lt XE.out.lt)
    refine hK.out _ _ BG.out ?_
    clear hK K
    (try simp only [Act.put, List.setIfInBounds_toArray, List.set_cons_zero, List.set_cons_succ])
    clear hHeld XE
    have hHeld := BG.out
    have hgg := hid BE.out.size
    generalize wE.heap.size = gG at *
    generalize (wE.alloc (Obj.cells #[.int .i64 0, .int .i64 0, .int .i64 0, .int .i64 0] 87)) = wG at *
    have c0 := XE2.out.cell 0; have c1 := XE2.out.cell 1; have c2 := XE2.out.cell 2; have fE := XE2.out.frozen
    simp at c0 c1 c2
    refine wpAnyS_ready [16] (by kernel_rfl) (by simp) (AllReadyS.cons (by simp only [List.getElem?_toArray, List.getElem?_cons_succ, List.getElem?_cons_zero]; rfl) rfl (fun K hK => ?_) AllReadyS.nil)
    go_simp
    have BH := hid (((BG.out.setCell (p := ⟨gE, 0, none⟩) hge.out (.int .i64 (d.hs z).1)).setCell (p := ⟨gE, 1, none⟩) hge.out (.int .i64 (d.hs z).2.1)).setCell (p := ⟨gE, 2, none⟩) hge.out (.bool (d.hs z).2.2))
    have XH := hid (((XE2.out.set_ 0 (.int .i64 (d.hs z).1)).set_ 1 (.int .i64 (d.hs z).2.1)).set_ 2 (.bool (d.hs z).2.2))
    have XG2 := hid (((XG.out.far (p := ⟨gE, 0, none⟩) (by simpa using hne.out.symm) (.int .i64 (d.hs z).1)).far (p := ⟨gE, 1, none⟩) (by simpa using hne.out.symm) (.int .i64 (d.hs z).2.1)).far (p := ⟨gE, 2, none⟩) (by simpa using hne.out.symm) (.bool (d.hs z).2.2))
    simp at XH
    refine hK.out _ _ BH.out ?_
    clear hK K
    (try simp only [Act.put, List.setIfInBounds_toArray, List.set_cons_zero, List.set_cons_succ])
    clear hHeld XE2 XG c0 c1 c2 fE
    have hHeld := BH.out
    generalize (((wG.setCell ⟨gE, 0, none⟩ (.int .i64 (d.hs z).1)).setCell ⟨gE, 1, none⟩ (.int .i64 (d.hs z).2.1)).setCell ⟨gE, 2, none⟩ (.bool (d.hs z).2.2)) = wH at *
    have c0 := XG2.out.cell 0; have c1 := XG2.out.cell 1; have c2 := XG2.out.cell 2; have c3 := XG2.out.cell 3; have fE := XG2.out.frozen
    simp at c0 c1 c2 c3
    refine wpAnyS_ready [17] (by kernel_rfl) (by simp) (AllReadyS.cons (by simp only [List.getElem?_toArray, List.getElem?_cons_succ, List.getElem?_cons_zero]; rfl) rfl (fun K hK => ?_) AllReadyS.nil)
    go_simp
    have BJ := hid ((((BH.out.setCell (p := ⟨gG, 0, none⟩) hgg.out (.int .i64 (d.gs z).1)).setCell (p := ⟨gG, 1, none⟩) hgg.out (.int .i64 (d.gs z).2.1)).setCell (p := ⟨gG, 2, none⟩) hgg.out (.int .i64 (d.gs z).2.2.1)).setCell (p := ⟨gG, 3, none⟩) hgg.out (.int .i64 (d.gs z).2.2.2))
    have XJ := hid ((((XG2.out.set_ 0 (.int .i64 (d.gs z).1)).set_ 1 (.int .i64 (d.gs z).2.1)).set_ 2 (.int .i64 (d.gs z).2.2.1)).set_ 3 (.int .i64 (d.gs z).2.2.2))
    have XK := hid ((((XH.out.far (p := ⟨gG, 0, none⟩) hne.out (.int .i64 (d.gs z).1)).far (p := ⟨gG, 1, none⟩) hne.out (.int .i64 (d.gs z).2.1)).far (p := ⟨gG, 2, none⟩) hne.out (.int .i64 (d.gs z).2.2.1)).far (p := ⟨gG, 3, none⟩) hne.out (.int .i64 (d.gs z).2.2.2))
    simp at XJ
    refine hK.out _ _ BJ.out ?_
    clear hK K
    (try simp only [Act.put, List.setIfInBounds_toArray, List.set_cons_zero, List.set_cons_succ])
    clear hHeld XG2 XH c0 c1 c2 c3 fE
    generalize ((((wH.setCell ⟨gG, 0, none⟩ (.int .i64 (d.gs z).1)).setCell ⟨gG, 1, none⟩ (.int .i64 (d.gs z).2.1)).setCell ⟨gG, 2, none⟩ (.int .i64 (d.gs z).2.2.1)).setCell ⟨gG, 3, none⟩ (.int .i64 (d.gs z).2.2.2)) = wJ at *
    refine wpAnyS_done (by kernel_rfl) ?_
    have NJ := hid (Na.out.below BJ.out Na.out.lt)
    have HJ := hid (HD.out.below BJ.out)
    have BW := hid (Ba.out.trans (BJ.out.mono Ba.out.size))
    have hgnE := hid (show gn < gE from Nat.lt_of_lt_of_le Na.out.lt hge.out)
    have hEw := hid (show w.heap.size ≤ gE from Nat.le_trans Ba.out.size hge.out)
    clear HSF BJ BH BG BE BD XJ hgg hge hne Na HD Ba
    have x0 := NJ.out.cell 0; have x1 := NJ.out.cell 1
    have c0 := XK.out.cell 0; have c1 := XK.out.cell 1; have c2 := XK.out.cell 2; have fE := XK.out.frozen
    simp at x0 x1 c0 c1 c2
    go_upto_region 9 with fail
    have hq := hEw.out
    have hq2 := hgnE.out
    obtain ⟨l1, l2, l3, l4⟩ := LT.out
    have GK := hid (gr_set wJ gE 2 (.bool true))
    have HK2 := hid (HJ.out.kept GK.out (by omega) (by omega) (by omega) (fun k hk => by have := l4 k hk; omega))
    have XK2 := hid (XK.out.set_ 2 (.bool true))
    have NK := hid (NJ.out.far (p := ⟨gE, 2, none⟩) (Nat.ne_of_lt hq2) (.bool true))
    have GW := hid (gr_far (gr_below BW.out (some mh)) GK.out hq)
    simp at XK2
    clear x0 x1 c0 c1 c2 fE HJ XK NJ BW GK
    generalize wJ.setCell ⟨gE, 2, none⟩ (.bool true) = wK at *
    have HSF := hid (fun (wq : World) (hq : Below wK.heap.size wK wq) => And.intro (HK2.out.below hq).at_.2.2.1 (And.intro ((NK.out.below hq NK.out.lt).cell 1) (And.intro ((XK2.out.below hq XK2.out.lt).cell 0) (And.intro ((XK2.out.below hq XK2.out.lt).cell 1) ((XK2.out.below hq XK2.out.lt).cell 2)))))
    have BD := hid ((Below.refl wK.heap.size wK).drew)
    refine wpIn_wide.1 (wpIn_region_S (n := 0) (fun wq => Below wK.heap.size wK wq) [7] (by kernel_rfl) BD.out (fun hHeld => ?_))
    generalize wK.drew = wL at *
    refine wpAnyS_pure 0 (v := ?_) (fun _ => trivial) (by simp only [List.getElem?_toArray, List.getElem?_cons_succ, List.getElem?_cons_zero]; rfl) (by kernel_rfl) (fun _ _ _ _ _ h => h) ⟨rfl, (by intro c h; cases h), ?_⟩ hHeld ?_
    rotate_left
    focus (intro wS hSw; (try replace hSw := HSF.out wS hSw); (try dsimp only at hSw); go_simp; (try with_reducible rfl))
    (try simp only [Act.put, List.setIfInBounds_toArray, List.set_cons_zero, List.set_cons_succ])
    refine wpAnyS_take 1 (v := ?_) (fun _ => trivial) (by simp only [List.getElem?_toArray, List.getElem?_cons_succ, List.getElem?_cons_zero]; rfl) (by kernel_rfl) (fun _ _ _ _ _ h => h) ⟨rfl, (by intro c h; cases h), ?_⟩ hHeld ?_
    rotate_left
    focus (intro wS hSw; (try replace hSw := HSF.out wS hSw); (try dsimp only at hSw); go_simp; (try with_reducible rfl))
    (try simp only [Act.put, List.setIfInBounds_toArray, List.set_cons_zero, List.set_cons_succ])
    refine wpAnyS_pure 2 (v := ?_) (fun _ => trivial) (by simp only [List.getElem?_toArray, List.getElem?_cons_succ, List.getElem?_cons_zero]; rfl) (by kernel_rfl) (fun _ _ _ _ _ h => h) ⟨rfl, (by intro c h; cases h), ?_⟩ hHeld ?_
    rotate_left
    focus (intro wS hSw; (try replace hSw := HSF.out wS hSw); (try dsimp only at hSw); go_simp; (try with_reducible rfl))
    (try simp only [Act.put, List.setIfInBounds_toArray, List.set_cons_zero, List.set_cons_succ])
    refine wpAnyS_take 3 (v := ?_) (fun _ => trivial) (by simp only [List.getElem?_toArray, List.getElem?_cons_succ, List.getElem?_cons_zero]; rfl) (by kernel_rfl) (fun _ _ _ _ _ h => h) ⟨rfl, (by intro c h; cases h), ?_⟩ hHeld ?_
    rotate_left
    focus (intro wS hSw; (try replace hSw := HSF.out wS hSw); (try dsimp only at hSw); go_simp; (try with_reducible rfl))
    (try simp only [Act.put, List.setIfInBounds_toArray, List.set_cons_zero, List.set_cons_succ])
    refine wpAnyS_pure 4 (v := ?_) (fun _ => trivial) (by simp only [List.getElem?_toArray, List.getElem?_cons_succ, List.getElem?_cons_zero]; rfl) (by kernel_rfl) (fun _ _ _ _ _ h => h) ⟨rfl, (by intro c h; cases h), ?_⟩ hHeld ?_
    rotate_left
    focus (intro wS hSw; (try replace hSw := HSF.out wS hSw); (try dsimp only at hSw); go_simp; (try with_reducible rfl))
    (try simp only [Act.put, List.setIfInBounds_toArray, List.set_cons_zero, List.set_cons_succ])
    refine wpAnyS_take 5 (v := ?_) (fun _ => trivial) (by simp only [List.getElem?_toArray, List.getElem?_cons_succ, List.getElem?_cons_zero]; rfl) (by kernel_rfl) (fun _ _ _ _ _ h => h) ⟨rfl, (by intro c h; cases h), ?_⟩ hHeld ?_
    rotate_left
    focus (intro wS hSw; (try replace hSw := HSF.out wS hSw); (try dsimp only at hSw); go_simp; (try with_reducible rfl))
    (try simp only [Act.put, List.setIfInBounds_toArray, List.set_cons_zero, List.set_cons_succ])
    refine wpAnyS_take 6 (v := ?_) (fun _ => trivial) (by simp only [List.getElem?_toArray, List.getElem?_cons_succ, List.getElem?_cons_zero]; rfl) (by kernel_rfl) (fun _ _ _ _ _ h => h) ⟨rfl, (by intro c h; cases h), ?_⟩ hHeld ?_
    rotate_left
    focus (intro wS hSw; (try replace hSw := HSF.out wS hSw); (try dsimp only at hSw); go_simp; (try with_reducible rfl))
    (try simp only [Act.put, List.setIfInBounds_toArray, List.set_cons_zero, List.set_cons_succ])
    obtain ⟨w2, r1, r2, r3⟩ := (HK2.out.below BD.out).putH hz hp.out hl.out ((d.hs z).1, (d.hs z).2.1, true)
    have R2 := hid r2
    have G2 := hid (gr_tr (gr_tr GW.out (gr_below BD.out (some mh))) r3)
    clear r2 r3
    refine wpAnyS_ready [7] (by kernel_rfl) (by simp) (AllReadyS.consL (by simp only [List.getElem?_toArray, List.getElem?_cons_succ, List.getElem?_cons_zero]; rfl) rfl (by kernel_rfl) (fun K hK => ?_) AllReadyS.nil)
    go_simp
    refine hK.out _ _ ?_
    (try simp only [Act.put, List.setIfInBounds_toArray, List.set_cons_zero, List.set_cons_succ])
    refine wpAnyS_done (by kernel_rfl) ?_
    clear hK HSF hHeld r1 BD
    go_wp2_with fail
    go_ret
    exact ⟨rfl, R2.out, G2.out⟩
  · --15
    go_simp
    have BE := hid (BD.out.alloc BD.out.size (Obj.cells #[.int .i64 0, .int .i64 0, .int .i64 0, .int .i64 0] 87))
    have XG0 := hid (Blk.new wd 87 #[.int .i64 0, .int .i64 0, .int .i64 0, .int .i64 0])
    refine hK.out _ _ BE.out ?_
    clear hK K
    (try simp only [Act.put, List.setIfInBounds_toArray, List.set_cons_zero, List.set_cons_succ])
    clear hHeld
    have hHeld := BE.out
    have hgg := hid BD.out.size
    generalize wd.heap.size = gG at *
    generalize (wd.alloc (Obj.cells #[.int .i64 0, .int .i64 0, .int .i64 0, .int .i64 0] 87)) = wE at *
    refine wpAnyS_ready [14] (by kernel_rfl) (by simp) (AllReadyS.cons (by simp only [List.getElem?_toArray, List.getElem?_cons_succ, List.getElem?_cons_zero]; rfl) rfl (fun K hK => ?_) AllReadyS.nil)
    go_simp
    have BG := hid (BE.out.alloc BE.out.size (Obj.cells #[.int .i64 0, .int .i64 0, .bool false] 85))
    have XE2 := hid (Blk.new wE 85 #[.int .i64 0, .int .i64 0, .bool false])
    have XG := hid (XG0.out.below ((Below.refl wE.heap.size wE).alloc (Nat.le_refl _) (Obj.cells #[.int .i64 0, .int .i64 0, .bool false] 85)) XG0.out.lt)
    have hne := hid (Nat.ne_of_lt XG0.out.lt).symm
    refine hK.out _ _ BG.out ?_
    clear hK K
    (try simp only [Act.put, List.setIfInBounds_toArray, List.set_cons_zero, List.set_cons_succ])
    clear hHeld XG0
    have hHeld := BG.out
    have hge := hid BE.out.size
    generalize wE.heap.size = gE at *
    generalize (wE.alloc (Obj.cells #[.int .i64 0, .int .i64 0, .bool false] 85)) = wG at *
    have c0 := XE2.out.cell 0; have c1 := XE2.out.cell 1; have c2 := XE2.out.cell 2; have fE := XE2.out.frozen
    simp at c0 c1 c2
    refine wpAnyS_ready [16] (by kernel_rfl) (by simp) (AllReadyS.cons (by simp only [List.getElem?_toArray, List.getElem?_cons_succ, List.getElem?_cons_zero]; rfl) rfl (fun K hK => ?_) AllReadyS.nil)
    go_simp
    have BH := hid (((BG.out.setCell (p := ⟨gE, 0, none⟩) hge.out (.int .i64 (d.hs z).1)).setCell (p := ⟨gE, 1, none⟩) hge.out (.int .i64 (d.hs z).2.1)).setCell (p := ⟨gE, 2, none⟩) hge.out (.bool (d.hs z).2.2))
    have XH := hid (((XE2.out.set_ 0 (.int .i64 (d.hs z).1)).set_ 1 (.int .i64 (d.hs z).2.1)).set_ 2 (.bool (d.hs z).2.2))
    have XG2 := hid (((XG.out.far (p := ⟨gE, 0, none⟩) (by simpa using hne.out.symm) (.int .i64 (d.hs z).1)).far (p := ⟨gE, 1, none⟩) (by simpa using hne.out.symm) (.int .i64 (d.hs z).2.1)).far (p := ⟨gE, 2, none⟩) (by simpa using hne.out.symm) (.bool (d.hs z).2.2))
    simp at XH
    refine hK.out _ _ BH.out ?_
    clear hK K
    (try simp only [Act.put, List.setIfInBounds_toArray, List.set_cons_zero, List.set_cons_succ])
    clear hHeld XE2 XG c0 c1 c2 fE
    have hHeld := BH.out
    generalize (((wG.setCell ⟨gE, 0, none⟩ (.int .i64 (d.hs z).1)).setCell ⟨gE, 1, none⟩ (.int .i64 (d.hs z).2.1)).setCell ⟨gE, 2, none⟩ (.bool (d.hs z).2.2)) = wH at *
    have c0 := XG2.out.cell 0; have c1 := XG2.out.cell 1; have c2 := XG2.out.cell 2; have c3 := XG2.out.cell 3; have fE := XG2.out.frozen
    simp at c0 c1 c2 c3
    refine wpAnyS_ready [17] (by kernel_rfl) (by simp) (AllReadyS.cons (by simp only [List.getElem?_toArray, List.getElem?_cons_succ, List.getElem?_cons_zero]; rfl) rfl (fun K hK => ?_) AllReadyS.nil)
    go_simp
    have BJ := hid ((((BH.out.setCell (p := ⟨gG, 0, none⟩) hgg.out (.int .i64 (d.gs z).1)).setCell (p := ⟨gG, 1, none⟩) hgg.out (.int .i64 (d.gs z).2.1)).setCell (p := ⟨gG, 2, none⟩) hgg.out (.int .i64 (d.gs z).2.2.1)).setCell (p := ⟨gG, 3, none⟩) hgg.out (.int .i64 (d.gs z).2.2.2))
    have XJ := hid ((((XG2.out.set_ 0 (.int .i64 (d.gs z).1)).set_ 1 (.int .i64 (d.gs z).2.1)).set_ 2 (.int .i64 (d.gs z).2.2.1)).set_ 3 (.int .i64 (d.gs z).2.2.2))
    have XK := hid ((((XH.out.far (p := ⟨gG, 0, none⟩) hne.out (.int .i64 (d.gs z).1)).far (p := ⟨gG, 1, none⟩) hne.out (.int .i64 (d.gs z).2.1)).far (p := ⟨gG, 2, none⟩) hne.out (.int .i64 (d.gs z).2.2.1)).far (p := ⟨gG, 3, none⟩) hne.out (.int .i64 (d.gs z).2.2.2))
    simp at XJ
    refine hK.out _ _ BJ.out ?_
    clear hK K
    (try simp only [Act.put, List.setIfInBounds_toArray, List.set_cons_zero, List.set_cons_succ])
    clear hHeld XG2 XH c0 c1 c2 c3 fE
    generalize ((((wH.setCell ⟨gG, 0, none⟩ (.int .i64 (d.gs z).1)).setCell ⟨gG, 1, none⟩ (.int .i64 (d.gs z).2.1)).setCell ⟨gG, 2, none⟩ (.int .i64 (d.gs z).2.2.1)).setCell ⟨gG, 3, none⟩ (.int .i64 (d.gs z).2.2.2)) = wJ at *
    refine wpAnyS_done (by kernel_rfl) ?_
    have NJ := hid (Na.out.below BJ.out Na.out.lt)
    have HJ := hid (HD.out.below BJ.out)
    have BW := hid (Ba.out.trans (BJ.out.mono Ba.out.size))
    have hgnE := hid (show gn < gE from Nat.lt_of_lt_of_le Na.out.lt hge.out)
    have hEw := hid (show w.heap.size ≤ gE from Nat.le_trans Ba.out.size hge.out)
    clear HSF BJ BH BG BE BD XJ hgg hge hne Na HD Ba
    have x0 := NJ.out.cell 0; have x1 := NJ.out.cell 1
    have c0 := XK.out.cell 0; have c1 := XK.out.cell 1; have c2 := XK.out.cell 2; have fE := XK.out.frozen
    simp at x0 x1 c0 c1 c2
    go_upto_region 9 with fail
    have hq := hEw.out
    have hq2 := hgnE.out
    obtain ⟨l1, l2, l3, l4⟩ := LT.out
    have GK := hid (gr_set wJ gE 2 (.bool true))
    have HK2 := hid (HJ.out.kept GK.out (by omega) (by omega) (by omega) (fun k hk => by have := l4 k hk; omega))
    have XK2 := hid (XK.out.set_ 2 (.bool true))
    have NK := hid (NJ.out.far (p := ⟨gE, 2, none⟩) (Nat.ne_of_lt hq2) (.bool true))
    have GW := hid (gr_far (gr_below BW.out (some mh)) GK.out hq)
    simp at XK2
    clear x0 x1 c0 c1 c2 fE HJ XK NJ BW GK
    generalize wJ.setCell ⟨gE, 2, none⟩ (.bool true) = wK at *
    have HSF := hid (fun (wq : World) (hq : Below wK.heap.size wK wq) => And.intro (HK2.out.below hq).at_.2.2.1 (And.intro ((NK.out.below hq NK.out.lt).cell 1) (And.intro ((XK2.out.below hq XK2.out.lt).cell 0) (And.intro ((XK2.out.below hq XK2.out.lt).cell 1) ((XK2.out.below hq XK2.out.lt).cell 2)))))
    have BD := hid ((Below.refl wK.heap.size wK).drew)
    refine wpIn_wide.1 (wpIn_region_S (n := 0) (fun wq => Below wK.heap.size wK wq) [7] (by kernel_rfl) BD.out (fun hHeld => ?_))
    generalize wK.drew = wL at *
    refine wpAnyS_pure 0 (v := ?_) (fun _ => trivial) (by simp only [List.getElem?_toArray, List.getElem?_cons_succ, List.getElem?_cons_zero]; rfl) (by kernel_rfl) (fun _ _ _ _ _ h => h) ⟨rfl, (by intro c h; cases h), ?_⟩ hHeld ?_
    rotate_left
    focus (intro wS hSw; (try replace hSw := HSF.out wS hSw); (try dsimp only at hSw); go_simp; (try with_reducible rfl))
    (try simp only [Act.put, List.setIfInBounds_toArray, List.set_cons_zero, List.set_cons_succ])
    refine wpAnyS_take 1 (v := ?_) (fun _ => trivial) (by simp only [List.getElem?_toArray, List.getElem?_cons_succ, List.getElem?_cons_zero]; rfl) (by kernel_rfl) (fun _ _ _ _ _ h => h) ⟨rfl, (by intro c h; cases h), ?_⟩ hHeld ?_
    rotate_left
    focus (intro wS hSw; (try replace hSw := HSF.out wS hSw); (try dsimp only at hSw); go_simp; (try with_reducible rfl))
    (try simp only [Act.put, List.setIfInBounds_toArray, List.set_cons_zero, List.set_cons_succ])
    refine wpAnyS_pure 2 (v := ?_) (fun _ => trivial) (by simp only [List.getElem?_toArray, List.getElem?_cons_succ, List.getElem?_cons_zero]; rfl) (by kernel_rfl) (fun _ _ _ _ _ h => h) ⟨rfl, (by intro c h; cases h), ?_⟩ hHeld ?_
    rotate_left
    focus (intro wS hSw; (try replace hSw := HSF.out wS hSw); (try dsimp only at hSw); go_simp; (try with_reducible rfl))
    (try simp only [Act.put, List.setIfInBounds_toArray, List.set_cons_zero, List.set_cons_succ])
    refine wpAnyS_take 3 (v := ?_) (fun _ => trivial) (by simp only [List.getElem?_toArray, List.getElem?_cons_succ, List.getElem?_cons_zero]; rfl) (by kernel_rfl) (fun _ _ _ _ _ h => h) ⟨rfl, (by intro c h; cases h), ?_⟩ hHeld ?_
    rotate_left
    focus (intro wS hSw; (try replace hSw := HSF.out wS hSw); (try dsimp only at hSw); go_simp; (try with_reducible rfl))
    (try simp only [Act.put, List.setIfInBounds_toArray, List.set_cons_zero, List.set_cons_succ])
    refine wpAnyS_pure 4 (v := ?_) (fun _ => trivial) (by simp only [List.getElem?_toArray, List.getElem?_cons_succ, List.getElem?_cons_zero]; rfl) (by kernel_rfl) (fun _ _ _ _ _ h => h) ⟨rfl, (by intro c h; cases h), ?_⟩ hHeld ?_
    rotate_left
    focus (intro wS hSw; (try replace hSw := HSF.out wS hSw); (try dsimp only at hSw); go_simp; (try with_reducible rfl))
    (try simp only [Act.put, List.setIfInBounds_toArray, List.set_cons_zero, List.set_cons_succ])
    refine wpAnyS_take 5 (v := ?_) (fun _ => trivial) (by simp only [List.getElem?_toArray, List.getElem?_cons_succ, List.getElem?_cons_zero]; rfl) (by kernel_rfl) (fun _ _ _ _ _ h => h) ⟨rfl, (by intro c h; cases h), ?_⟩ hHeld ?_
    rotate_left
    focus (intro wS hSw; (try replace hSw := HSF.out wS hSw); (try dsimp only at hSw); go_simp; (try with_reducible rfl))
    (try simp only [Act.put, List.setIfInBounds_toArray, List.set_cons_zero, List.set_cons_succ])
    refine wpAnyS_take 6 (v := ?_) (fun _ => trivial) (by simp only [List.getElem?_toArray, List.getElem?_cons_succ, List.getElem?_cons_zero]; rfl) (by kernel_rfl) (fun _ _ _ _ _ h => h) ⟨rfl, (by intro c h; cases h), ?_⟩ hHeld ?_
    rotate_left
    focus (intro wS hSw; (try replace hSw := HSF.out wS hSw); (try dsimp only at hSw); go_simp; (try with_reducible rfl))
    (try simp only [Act.put, List.setIfInBounds_toArray, List.set_cons_zero, List.set_cons_succ])
    obtain ⟨w2, r1, r2, r3⟩ := (HK2.out.below BD.out).putH hz hp.out hl.out ((d.hs z).1, (d.hs z).2.1, true)
    have R2 := hid r2
    have G2 := hid (gr_tr (gr_tr GW.out (gr_below BD.out (some mh))) r3)
    clear r2 r3
    refine wpAnyS_ready [7] (by kernel_rfl) (by simp) (AllReadyS.consL (by simp only [List.getElem?_toArray, List.getElem?_cons_succ, List.getElem?_cons_zero]; rfl) rfl (by kernel_rfl) (fun K hK => ?_) AllReadyS.nil)
    go_simp
    refine hK.out _ _ ?_
    (try simp only [Act.put, List.setIfInBounds_toArray, List.set_cons_zero, List.set_cons_succ])
    refine wpAnyS_done (by kernel_rfl) ?_
    clear hK HSF hHeld r1 BD
    go_wp2_with fail
    go_ret
    exact ⟨rfl, R2.out, G2.out⟩
end
end Go.Proofs.YtappgjdnfllblaaDoor
namespace Go.Proofs.YtappgjdnfllblaaDoor
open Go.RowKit Go.IntWalk Go.Maps Go.WideMaps
section
variable {w : World} {base b : Nat} {v : Value} {mh mg : Nat} {d : LDk}
set_option maxRecDepth 100000 in
set_option maxHeartbeats 1000000 in
theorem hear_back (h : Ld w base b v mh mg d) (ok : d.Ok) (z u n : Int) (hz : I64 z) (he : lAs d z true = 0) (hs : n = (d.hs z).2.1) : Calls Tryd.prog 17 #[.pointer (some ⟨b, 0, none⟩), .agg #[.int .i64 2, .int .i64 z, .int .i64 u, .int .i64 n]] w fun e w' => e = .returned (.int .i64 0) ∧ Ld w' base b v mh mg (d.setH z (0, (d.hs z).2.1, (d.hs z).2.2)) ∧ w.grownBy w' (some mh) := by
  have HA := hid (fun W (hW : Below w.heap.size w W) => as_any (h.below hW) ok (z := z) true)
  rw [he] at HA
  have hp := hid (lAs_yes he)
  have hl := hid ok.len
  subst hs
  clear ok he
  go_enter Tryd.func17, Tryd.ntmps17
  go_upto_region 3 with fail
  have NZ := hid (Blk.new w 26 #[.int .i64 2, .int .i64 z, .int .i64 u, .int .i64 (d.hs z).2.1])
  have B1 := hid (show Below w.heap.size w (w.alloc (Obj.cells #[.int .i64 2, .int .i64 z, .int .i64 u, .int .i64 (d.hs z).2.1] 26)) by (repeat (first | exact Below.refl _ _ | assumption | refine below_drewN ?_ _ | refine Below.drew ?_ | refine Below.alloc ?_ (by (try simp); (try omega)) _ | refine Below.setCell ?_ (by (try simp); (try omega)) _)))
  generalize (w.alloc (Obj.cells #[.int .i64 2, .int .i64 z, .int .i64 u, .int .i64 (d.hs z).2.1] 26)) = w1 at *
  obtain ⟨gn, hgn'⟩ : ∃ gn, gn = w.heap.size := ⟨_, rfl⟩
  rw [← hgn'] at NZ
  rw [← hgn']
  clear hgn'
  have x0 := NZ.out.cell 0; have x1 := NZ.out.cell 1
  simp at x0 x1
  go_upto_region 4 with (go_at_call 65; refine (HA.out _ B1.out).mono ?_; rintro e wa ⟨rfl, hBa⟩)
  have Ba := hid (B1.out.trans (hBa.mono B1.out.size))
  have Na := hid (NZ.out.below hBa NZ.out.lt)
  have LT := hid (And.intro h.k.lt (And.intro h.h.lt (And.intro h.g.lt (fun k (hk : v.ownBlock = some k) => (h.r.lt k hk).2))))
  have HD := hid (h.below Ba.out)
  clear hBa B1 NZ HA x0 x1 h
  go_upto_region 6 with fail
  have HSF := hid (fun (wq : World) (hq : Below wa.heap.size wa wq) => And.intro (HD.out.below hq).at_.2.2 (And.intro ((HD.out.below hq).look hz) ((Na.out.below hq Na.out.lt).cell 1)))
  have BD := hid ((Below.refl wa.heap.size wa).drew)
  refine wpIn_wide.1 (wpIn_region_S (n := 0) (fun wq => Below wa.heap.size wa wq) [] (by kernel_rfl) BD.out (fun hHeld => ?_))
  generalize wa.drew = wd at *
  refine wpAnyS_pure 0 (v := ?_) (fun _ => trivial) (by simp only [List.getElem?_toArray, List.getElem?_cons_succ, List.getElem?_cons_zero]; rfl) (by kernel_rfl) (fun _ _ _ _ _ h => h) ⟨rfl, (by intro c h; cases h), ?_⟩ hHeld ?_
  rotate_left
  focus (intro wS hSw; (try replace hSw := HSF.out wS hSw); (try dsimp only at hSw); go_simp; (try with_reducible rfl))
  (try simp only [Act.put, List.setIfInBounds_toArray, List.set_cons_zero, List.set_cons_succ])
  refine wpAnyS_take 1 (v := ?_) (fun _ => trivial) (by simp only [List.getElem?_toArray, List.getElem?_cons_succ, List.getElem?_cons_zero]; rfl) (by kernel_rfl) (fun _ _ _ _ _ h => h) ⟨rfl, (by intro c h; cases h), ?_⟩ hHeld ?_
  rotate_left
  focus (intro wS hSw; (try replace hSw := HSF.out wS hSw); (try dsimp only at hSw); go_simp; (try with_reducible rfl))
  (try simp only [Act.put, List.setIfInBounds_toArray, List.set_cons_zero, List.set_cons_succ])
  refine wpAnyS_pure 2 (v := ?_) (fun _ => trivial) (by simp only [List.getElem?_toArray, List.getElem?_cons_succ, List.getElem?_cons_zero]; rfl) (by kernel_rfl) (fun _ _ _ _ _ h => h) ⟨rfl, (by intro c h; cases h), ?_⟩ hHeld ?_
  rotate_left
  focus (intro wS hSw; (try replace hSw := HSF.out wS hSw); (try dsimp only at hSw); go_simp; (try with_reducible rfl))
  (try simp only [Act.put, List.setIfInBounds_toArray, List.set_cons_zero, List.set_cons_succ])
  refine wpAnyS_take 3 (v := ?_) (fun _ => trivial) (by simp only [List.getElem?_toArray, List.getElem?_cons_succ, List.getElem?_cons_zero]; rfl) (by kernel_rfl) (fun _ _ _ _ _ h => h) ⟨rfl, (by intro c h; cases h), ?_⟩ hHeld ?_
  rotate_left
  focus (intro wS hSw; (try replace hSw := HSF.out wS hSw); (try dsimp only at hSw); go_simp; (try with_reducible rfl))
  (try simp only [Act.put, List.setIfInBounds_toArray, List.set_cons_zero, List.set_cons_succ])
  refine wpAnyS_pure 4 (v := ?_) (fun _ => trivial) (by simp only [List.getElem?_toArray, List.getElem?_cons_succ, List.getElem?_cons_zero]; rfl) (by kernel_rfl) (fun _ _ _ _ _ h => h) ⟨rfl, (by intro c h; cases h), ?_⟩ hHeld ?_
  rotate_left
  focus (intro wS hSw; (try replace hSw := HSF.out wS hSw); (try dsimp only at hSw); go_simp; (try with_reducible rfl))
  (try simp only [Act.put, List.setIfInBounds_toArray, List.set_cons_zero, List.set_cons_succ])
  refine wpAnyS_take 5 (v := ?_) (fun _ => trivial) (by simp only [List.getElem?_toArray, List.getElem?_cons_succ, List.getElem?_cons_zero]; rfl) (by kernel_rfl) (fun _ _ _ _ _ h => h) ⟨rfl, (by intro c h; cases h), ?_⟩ hHeld ?_
  rotate_left
  focus (intro wS hSw; (try replace hSw := HSF.out wS hSw); (try dsimp only at hSw); go_simp; (try with_reducible rfl))
  (try simp only [Act.put, List.setIfInBounds_toArray, List.set_cons_zero, List.set_cons_succ])
  refine wpAnyS_take 6 (v := ?_) (fun _ => trivial) (by simp only [List.getElem?_toArray, List.getElem?_cons_succ, List.getElem?_cons_zero]; rfl) (by kernel_rfl) (fun _ _ _ _ _ h => h) ⟨rfl, (by intro c h; cases h), ?_⟩ hHeld ?_
  rotate_left
  focus (intro wS hSw; (try replace hSw := HSF.out wS hSw); (try dsimp only at hSw); go_simp; (try with_reducible rfl))
  (try simp only [Act.put, List.setIfInBounds_toArray, List.set_cons_zero, List.set_cons_succ])
  refine wpAnyS_pure 7 (v := ?_) (fun _ => trivial) (by simp only [List.getElem?_toArray, List.getElem?_cons_succ, List.getElem?_cons_zero]; rfl) (by kernel_rfl) (fun _ _ _ _ _ h => h) ⟨rfl, (by intro c h; cases h), ?_⟩ hHeld ?_
  rotate_left
  focus (intro wS hSw; (try replace hSw := HSF.out wS hSw); (try dsimp only at hSw); go_simp; (try with_reducible rfl))
  (try simp only [Act.put, List.setIfInBounds_toArray, List.set_cons_zero, List.set_cons_succ])
  refine wpAnyS_take 8 (v := ?_) (fun _ => trivial) (by simp only [List.getElem?_toArray, List.getElem?_cons_succ, List.getElem?_cons_zero]; rfl) (by kernel_rfl) (fun _ _ _ _ _ h => h) ⟨rfl, (by intro c h; cases h), ?_⟩ hHeld ?_
  rotate_left
  focus (intro wS hSw; (try replace hSw := HSF.out wS hSw); (try dsimp only at hSw); go_simp; (try with_reducible rfl))
  (try simp only [Act.put, List.setIfInBounds_toArray, List.set_cons_zero, List.set_cons_succ])
  refine wpAnyS_pure 9 (v := ?_) (fun _ => trivial) (by simp only [List.getElem?_toArray, List.getElem?_cons_succ, List.getElem?_cons_zero]; rfl) (by kernel_rfl) (fun _ _ _ _ _ h => h) ⟨rfl, (by intro c h; cases h), ?_⟩ hHeld ?_
  rotate_left
  focus (intro wS hSw; (try replace hSw := HSF.out wS hSw); (try dsimp only at hSw); go_simp; (try with_reducible rfl))
  (try simp only [Act.put, List.setIfInBounds_toArray, List.set_cons_zero, List.set_cons_succ])
  refine wpAnyS_take 10 (v := ?_) (fun _ => trivial) (by simp only [List.getElem?_toArray, List.getElem?_cons_succ, List.getElem?_cons_zero]; rfl) (by kernel_rfl) (fun _ _ _ _ _ h => h) ⟨rfl, (by intro c h; cases h), ?_⟩ hHeld ?_
  rotate_left
  focus (intro wS hSw; (try replace hSw := HSF.out wS hSw); (try dsimp only at hSw); go_simp; (try with_reducible rfl))
  (try simp only [Act.put, List.setIfInBounds_toArray, List.set_cons_zero, List.set_cons_succ])
  refine wpAnyS_pure 11 (v := ?_) (fun _ => trivial) (by simp only [List.getElem?_toArray, List.getElem?_cons_succ, List.getElem?_cons_zero]; rfl) (by kernel_rfl) (fun _ _ _ _ _ h => h) ⟨rfl, (by intro c h; cases h), ?_⟩ hHeld ?_
  rotate_left
  focus (intro wS hSw; (try replace hSw := HSF.out wS hSw); (try dsimp only at hSw); go_simp; (try with_reducible rfl))
  (try simp only [Act.put, List.setIfInBounds_toArray, List.set_cons_zero, List.set_cons_succ])
  refine wpAnyS_take 12 (v := ?_) (fun _ => trivial) (by simp only [List.getElem?_toArray, List.getElem?_cons_succ, List.getElem?_cons_zero]; rfl) (by kernel_rfl) (fun _ _ _ _ _ h => h) ⟨rfl, (by intro c h; cases h), ?_⟩ hHeld ?_
  rotate_left
  focus (intro wS hSw; (try replace hSw := HSF.out wS hSw); (try dsimp only at hSw); go_simp; (try with_reducible rfl))
  (try simp only [Act.put, List.setIfInBounds_toArray, List.set_cons_zero, List.set_cons_succ])
  refine wpAnyS_take 13 (v := ?_) (fun _ => trivial) (by simp only [List.getElem?_toArray, List.getElem?_cons_succ, List.getElem?_cons_zero]; rfl) (by kernel_rfl) (fun _ _ _ _ _ h => h) ⟨rfl, (by intro c h; cases h), ?_⟩ hHeld ?_
  rotate_left
  focus (intro wS hSw; (try replace hSw := HSF.out wS hSw); (try dsimp only at hSw); go_simp; (try with_reducible rfl))
  (try simp only [Act.put, List.setIfInBounds_toArray, List.set_cons_zero, List.set_cons_succ])
  refine wpAnyS_ready [14, 15] (by kernel_rfl) (by simp) (AllReadyS.cons (by simp only [List.getElem?_toArray, List.getElem?_cons_succ, List.getElem?_cons_zero]; rfl) rfl (fun K hK => ?_) (AllReadyS.cons (by simp only [List.getElem?_toArray, List.getElem?_cons_succ, List.getElem?_cons_zero]; rfl) rfl (fun K hK => ?_) AllReadyS.nil))
  · --14
    go_simp
    have BE := hid (BD.out.alloc BD.out.size (Obj.cells #[.int .i64 0, .int .i64 0, .bool false] 85))
    have XE := hid (Blk.new wd 85 #[.int .i64 0, .int .i64 0, .bool false])
    refine hK.out _ _ BE.out ?_
    clear hK K
    (try simp only [Act.put, List.setIfInBounds_toArray, List.set_cons_zero, List.set_cons_succ])
    clear hHeld
    have hHeld := BE.out
    have hge := hid BD.out.size
    generalize wd.heap.size = gE at *
    generalize (wd.alloc (Obj.cells #[.int .i64 0, .int .i64 0, .bool false] 85)) = wE at *
    refine wpAnyS_ready [15] (by kernel_rfl) (by simp) (AllReadyS.cons (by simp only [List.getElem?_toArray, List.getElem?_cons_succ, List.getElem?_cons_zero]; rfl) rfl (fun K hK => ?_) AllReadyS.nil)
    go_simp
    have BG := hid (BE.out.alloc BE.out.size (Obj.cells #[.int .i64 0, .int .i64 0, .int .i64 0, .int .i64 0] 87))
    have XG := hid (Blk.new wE 87 #[.int .i64 0, .int .i64 0, .int .i64 0, .int .i64 0])
    have XE2 := hid (XE.out.below ((Below.refl wE.heap.size wE).alloc (Nat.le_refl _) (Obj.cells #[.int .i64 0, .int .i64 0, .int .i64 0, .int .i64 0] 87)) XE.out.lt)
    have hne := hid (Nat.ne_of_lt XE.out.lt)
    refine hK.out _ _ BG.out ?_
    clear hK K
    (try simp only [Act.put, List.setIfInBounds_toArray, List.set_cons_zero, List.set_cons_succ])
    clear hHeld XE
    have hHeld := BG.out
    have hgg := hid BE.out.size
    generalize wE.heap.size = gG at *
    generalize (wE.alloc (Obj.cells #[.int .i64 0, .int .i64 0, .int .i64 0, .int .i64 0] 87)) = wG at *
    have c0 := XE2.out.cell 0; have c1 := XE2.out.cell 1; have c2 := XE2.out.cell 2; have fE := XE2.out.frozen
    simp at c0 c1 c2
    refine wpAnyS_ready [16] (by kernel_rfl) (by simp) (AllReadyS.cons (by simp only [List.getElem?_toArray, List.getElem?_cons_succ, List.getElem?_cons_zero]; rfl) rfl (fun K hK => ?_) AllReadyS.nil)
    go_simp
    have BH := hid (((BG.out.setCell (p := ⟨gE, 0, none⟩) hge.out (.int .i64 (d.hs z).1)).setCell (p := ⟨gE, 1, none⟩) hge.out (.int .i64 (d.hs z).2.1)).setCell (p := ⟨gE, 2, none⟩) hge.out (.bool (d.hs z).2.2))
    have XH := hid (((XE2.out.set_ 0 (.int .i64 (d.hs z).1)).set_ 1 (.int .i64 (d.hs z).2.1)).set_ 2 (.bool (d.hs z).2.2))
    have XG2 := hid (((XG.out.far (p := ⟨gE, 0, none⟩) (by simpa using hne.out.symm) (.int .i64 (d.hs z).1)).far (p := ⟨gE, 1, none⟩) (by simpa using hne.out.symm) (.int .i64 (d.hs z).2.1)).far (p := ⟨gE, 2, none⟩) (by simpa using hne.out.symm) (.bool (d.hs z).2.2))
    simp at XH
    refine hK.out _ _ BH.out ?_
    clear hK K
    (try simp only [Act.put, List.setIfInBounds_toArray, List.set_cons_zero, List.set_cons_succ])
    clear hHeld XE2 XG c0 c1 c2 fE
    have hHeld := BH.out
    generalize (((wG.setCell ⟨gE, 0, none⟩ (.int .i64 (d.hs z).1)).setCell ⟨gE, 1, none⟩ (.int .i64 (d.hs z).2.1)).setCell ⟨gE, 2, none⟩ (.bool (d.hs z).2.2)) = wH at *
    have c0 := XG2.out.cell 0; have c1 := XG2.out.cell 1; have c2 := XG2.out.cell 2; have c3 := XG2.out.cell 3; have fE := XG2.out.frozen
    simp at c0 c1 c2 c3
    refine wpAnyS_ready [17] (by kernel_rfl) (by simp) (AllReadyS.cons (by simp only [List.getElem?_toArray, List.getElem?_cons_succ, List.getElem?_cons_zero]; rfl) rfl (fun K hK => ?_) AllReadyS.nil)
    go_simp
    have BJ := hid ((((BH.out.setCell (p := ⟨gG, 0, none⟩) hgg.out (.int .i64 (d.gs z).1)).setCell (p := ⟨gG, 1, none⟩) hgg.out (.int .i64 (d.gs z).2.1)).setCell (p := ⟨gG, 2, none⟩) hgg.out (.int .i64 (d.gs z).2.2.1)).setCell (p := ⟨gG, 3, none⟩) hgg.out (.int .i64 (d.gs z).2.2.2))
    have XJ := hid ((((XG2.out.set_ 0 (.int .i64 (d.gs z).1)).set_ 1 (.int .i64 (d.gs z).2.1)).set_ 2 (.int .i64 (d.gs z).2.2.1)).set_ 3 (.int .i64 (d.gs z).2.2.2))
    have XK := hid ((((XH.out.far (p := ⟨gG, 0, none⟩) hne.out (.int .i64 (d.gs z).1)).far (p := ⟨gG, 1, none⟩) hne.out (.int .i64 (d.gs z).2.1)).far (p := ⟨gG, 2, none⟩) hne.out (.int .i64 (d.gs z).2.2.1)).far (p := ⟨gG, 3, none⟩) hne.out (.int .i64 (d.gs z).2.2.2))
    simp at XJ
    refine hK.out _ _ BJ.out ?_
    clear hK K
    (try simp only [Act.put, List.setIfInBounds_toArray, List.set_cons_zero, List.set_cons_succ])
    clear hHeld XG2 XH c0 c1 c2 c3 fE
    generalize ((((wH.setCell ⟨gG, 0, none⟩ (.int .i64 (d.gs z).1)).setCell ⟨gG, 1, none⟩ (.int .i64 (d.gs z).2.1)).setCell ⟨gG, 2, none⟩ (.int .i64 (d.gs z).2.2.1)).setCell ⟨gG, 3, none⟩ (.int .i64 (d.gs z).2.2.2)) = wJ at *
    refine wpAnyS_done (by kernel_rfl) ?_
    have NJ := hid (Na.out.below BJ.out Na.out.lt)
    have HJ := hid (HD.out.below BJ.out)
    have BW := hid (Ba.out.trans (BJ.out.mono Ba.out.size))
    have hgnE := hid (show gn < gE from Nat.lt_of_lt_of_le Na.out.lt hge.out)
    have hEw := hid (show w.heap.size ≤ gE from Nat.le_trans Ba.out.size hge.out)
    clear HSF BJ BH BG BE BD XJ hgg hge hne Na HD Ba
    have x0 := NJ.out.cell 0; have x1 := NJ.out.cell 1; have x3 := NJ.out.cell 3
    have c0 := XK.out.cell 0; have c1 := XK.out.cell 1; have c2 := XK.out.cell 2; have fE := XK.out.frozen
    simp at x0 x1 x3 c0 c1 c2
    go_upto_region 12 with fail
    have hq := hEw.out
    have hq2 := hgnE.out
    obtain ⟨l1, l2, l3, l4⟩ := LT.out
    have GK := hid (gr_set wJ gE 0 (.int .i64 0))
    have HK2 := hid (HJ.out.kept GK.out (by omega) (by omega) (by omega) (fun k hk => by have := l4 k hk; omega))
    have XK2 := hid (XK.out.set_ 0 (.int .i64 0))
    have NK := hid (NJ.out.far (p := ⟨gE, 0, none⟩) (Nat.ne_of_lt hq2) (.int .i64 0))
    have GW := hid (gr_far (gr_below BW.out (some mh)) GK.out hq)
    simp at XK2
    clear x0 x1 x3 c0 c1 c2 fE HJ XK NJ BW GK
    generalize wJ.setCell ⟨gE, 0, none⟩ (.int .i64 0) = wK at *
    have HSF := hid (fun (wq : World) (hq : Below wK.heap.size wK wq) => And.intro (HK2.out.below hq).at_.2.2.1 (And.intro ((NK.out.below hq NK.out.lt).cell 1) (And.intro ((XK2.out.below hq XK2.out.lt).cell 0) (And.intro ((XK2.out.below hq XK2.out.lt).cell 1) ((XK2.out.below hq XK2.out.lt).cell 2)))))
    have BD := hid ((Below.refl wK.heap.size wK).drew)
    refine wpIn_wide.1 (wpIn_region_S (n := 0) (fun wq => Below wK.heap.size wK wq) [7] (by kernel_rfl) BD.out (fun hHeld => ?_))
    generalize wK.drew = wL at *
    refine wpAnyS_pure 0 (v := ?_) (fun _ => trivial) (by simp only [List.getElem?_toArray, List.getElem?_cons_succ, List.getElem?_cons_zero]; rfl) (by kernel_rfl) (fun _ _ _ _ _ h => h) ⟨rfl, (by intro c h; cases h), ?_⟩ hHeld ?_
    rotate_left
    focus (intro wS hSw; (try replace hSw := HSF.out wS hSw); (try dsimp only at hSw); go_simp; (try with_reducible rfl))
    (try simp only [Act.put, List.setIfInBounds_toArray, List.set_cons_zero, List.set_cons_succ])
    refine wpAnyS_take 1 (v := ?_) (fun _ => trivial) (by simp only [List.getElem?_toArray, List.getElem?_cons_succ, List.getElem?_cons_zero]; rfl) (by kernel_rfl) (fun _ _ _ _ _ h => h) ⟨rfl, (by intro c h; cases h), ?_⟩ hHeld ?_
    rotate_left
    focus (intro wS hSw; (try replace hSw := HSF.out wS hSw); (try dsimp only at hSw); go_simp; (try with_reducible rfl))
    (try simp only [Act.put, List.setIfInBounds_toArray, List.set_cons_zero, List.set_cons_succ])
    refine wpAnyS_pure 2 (v := ?_) (fun _ => trivial) (by simp only [List.getElem?_toArray, List.getElem?_cons_succ, List.getElem?_cons_zero]; rfl) (by kernel_rfl) (fun _ _ _ _ _ h => h) ⟨rfl, (by intro c h; cases h), ?_⟩ hHeld ?_
    rotate_left
    focus (intro wS hSw; (try replace hSw := HSF.out wS hSw); (try dsimp only at hSw); go_simp; (try with_reducible rfl))
    (try simp only [Act.put, List.setIfInBounds_toArray, List.set_cons_zero, List.set_cons_succ])
    refine wpAnyS_take 3 (v := ?_) (fun _ => trivial) (by simp only [List.getElem?_toArray, List.getElem?_cons_succ, List.getElem?_cons_zero]; rfl) (by kernel_rfl) (fun _ _ _ _ _ h => h) ⟨rfl, (by intro c h; cases h), ?_⟩ hHeld ?_
    rotate_left
    focus (intro wS hSw; (try replace hSw := HSF.out wS hSw); (try dsimp only at hSw); go_simp; (try with_reducible rfl))
    (try simp only [Act.put, List.setIfInBounds_toArray, List.set_cons_zero, List.set_cons_succ])
    refine wpAnyS_pure 4 (v := ?_) (fun _ => trivial) (by simp only [List.getElem?_toArray, List.getElem?_cons_succ, List.getElem?_cons_zero]; rfl) (by kernel_rfl) (fun _ _ _ _ _ h => h) ⟨rfl, (by intro c h; cases h), ?_⟩ hHeld ?_
    rotate_left
    focus (intro wS hSw; (try replace hSw := HSF.out wS hSw); (try dsimp only at hSw); go_simp; (try with_reducible rfl))
    (try simp only [Act.put, List.setIfInBounds_toArray, List.set_cons_zero, List.set_cons_succ])
    refine wpAnyS_take 5 (v := ?_) (fun _ => trivial) (by simp only [List.getElem?_toArray, List.getElem?_cons_succ, List.getElem?_cons_zero]; rfl) (by kernel_rfl) (fun _ _ _ _ _ h => h) ⟨rfl, (by intro c h; cases h), ?_⟩ hHeld ?_
    rotate_left
    focus (intro wS hSw; (try replace hSw := HSF.out wS hSw); (try dsimp only at hSw); go_simp; (try with_reducible rfl))
    (try simp only [Act.put, List.setIfInBounds_toArray, List.set_cons_zero, List.set_cons_succ])
    refine wpAnyS_take 6 (v := ?_) (fun _ => trivial) (by simp only [List.getElem?_toArray, List.getElem?_cons_succ, List.getElem?_cons_zero]; rfl) (by kernel_rfl) (fun _ _ _ _ _ h => h) ⟨rfl, (by intro c h; cases h), ?_⟩ hHeld ?_
    rotate_left
    focus (intro wS hSw; (try replace hSw := HSF.out wS hSw); (try dsimp only at hSw); go_simp; (try with_reducible rfl))
    (try simp only [Act.put, List.setIfInBounds_toArray, List.set_cons_zero, List.set_cons_succ])
    obtain ⟨w2, r1, r2, r3⟩ := (HK2.out.below BD.out).putH hz hp.out hl.out (0, (d.hs z).2.1, (d.hs z).2.2)
    have R2 := hid r2
    have G2 := hid (gr_tr (gr_tr GW.out (gr_below BD.out (some mh))) r3)
    clear r2 r3
    refine wpAnyS_ready [7] (by kernel_rfl) (by simp) (AllReadyS.consL (by simp only [List.getElem?_toArray, List.getElem?_cons_succ, List.getElem?_cons_zero]; rfl) rfl (by kernel_rfl) (fun K hK => ?_) AllReadyS.nil)
    go_simp
    refine hK.out _ _ ?_
    (try simp only [Act.put, List.setIfInBounds_toArray, List.set_cons_zero, List.set_cons_succ])
    refine wpAnyS_done (by kernel_rfl) ?_
    clear hK HSF hHeld r1 BD
    go_wp2_with fail
    go_ret
    exact ⟨rfl, R2.out, G2.out⟩
  · --15
    go_simp
    have BE := hid (BD.out.alloc BD.out.size (Obj.cells #[.int .i64 0, .int .i64 0, .int .i64 0, .int .i64 0] 87))
    have XG0 := hid (Blk.new wd 87 #[.int .i64 0, .int .i64 0, .int .i64 0, .int .i64 0])
    refine hK.out _ _ BE.out ?_
    clear hK K
    (try simp only [Act.put, List.setIfInBounds_toArray, List.set_cons_zero, List.set_cons_succ])
    clear hHeld
    have hHeld := BE.out
    have hgg := hid BD.out.size
    generalize wd.heap.size = gG at *
    generalize (wd.alloc (Obj.cells #[.int .i64 0, .int .i64 0, .int .i64 0, .int .i64 0] 87)) = wE at *
    refine wpAnyS_ready [14] (by kernel_rfl) (by simp) (AllReadyS.cons (by simp only [List.getElem?_toArray, List.getElem?_cons_succ, List.getElem?_cons_zero]; rfl) rfl (fun K hK => ?_) AllReadyS.nil)
    go_simp
    have BG := hid (BE.out.alloc BE.out.size (Obj.cells #[.int .i64 0, .int .i64 0, .bool false] 85))
    have XE2 := hid (Blk.new wE 85 #[.int .i64 0, .int .i64 0, .bool false])
    have XG := hid (XG0.out.below ((Below.refl wE.heap.size wE).alloc (Nat.le_refl _) (Obj.cells #[.int .i64 0, .int .i64 0, .bool false] 85)) XG0.out.lt)
    have hne := hid (Nat.ne_of_lt XG0.out.lt).symm
    refine hK.out _ _ BG.out ?_
    clear hK K
    (try simp only [Act.put, List.setIfInBounds_toArray, List.set_cons_zero, List.set_cons_succ])
    clear hHeld XG0
    have hHeld := BG.out
    have hge := hid BE.out.size
    generalize wE.heap.size = gE at *
    generalize (wE.alloc (Obj.cells #[.int .i64 0, .int .i64 0, .bool false] 85)) = wG at *
    have c0 := XE2.out.cell 0; have c1 := XE2.out.cell 1; have c2 := XE2.out.cell 2; have fE := XE2.out.frozen
    simp at c0 c1 c2
    refine wpAnyS_ready [16] (by kernel_rfl) (by simp) (AllReadyS.cons (by simp only [List.getElem?_toArray, List.getElem?_cons_succ, List.getElem?_cons_zero]; rfl) rfl (fun K hK => ?_) AllReadyS.nil)
    go_simp
    have BH := hid (((BG.out.setCell (p := ⟨gE, 0, none⟩) hge.out (.int .i64 (d.hs z).1)).setCell (p := ⟨gE, 1, none⟩) hge.out (.int .i64 (d.hs z).2.1)).setCell (p := ⟨gE, 2, none⟩) hge.out (.bool (d.hs z).2.2))
    have XH := hid (((XE2.out.set_ 0 (.int .i64 (d.hs z).1)).set_ 1 (.int .i64 (d.hs z).2.1)).set_ 2 (.bool (d.hs z).2.2))
    have XG2 := hid (((XG.out.far (p := ⟨gE, 0, none⟩) (by simpa using hne.out.symm) (.int .i64 (d.hs z).1)).far (p := ⟨gE, 1, none⟩) (by simpa using hne.out.symm) (.int .i64 (d.hs z).2.1)).far (p := ⟨gE, 2, none⟩) (by simpa using hne.out.symm) (.bool (d.hs z).2.2))
    simp at XH
    refine hK.out _ _ BH.out ?_
    clear hK K
    (try simp only [Act.put, List.setIfInBounds_toArray, List.set_cons_zero, List.set_cons_succ])
    clear hHeld XE2 XG c0 c1 c2 fE
    have hHeld := BH.out
    generalize (((wG.setCell ⟨gE, 0, none⟩ (.int .i64 (d.hs z).1)).setCell ⟨gE, 1, none⟩ (.int .i64 (d.hs z).2.1)).setCell ⟨gE, 2, none⟩ (.bool (d.hs z).2.2)) = wH at *
    have c0 := XG2.out.cell 0; have c1 := XG2.out.cell 1; have c2 := XG2.out.cell 2; have c3 := XG2.out.cell 3; have fE := XG2.out.frozen
    simp at c0 c1 c2 c3
    refine wpAnyS_ready [17] (by kernel_rfl) (by simp) (AllReadyS.cons (by simp only [List.getElem?_toArray, List.getElem?_cons_succ, List.getElem?_cons_zero]; rfl) rfl (fun K hK => ?_) AllReadyS.nil)
    go_simp
    have BJ := hid ((((BH.out.setCell (p := ⟨gG, 0, none⟩) hgg.out (.int .i64 (d.gs z).1)).setCell (p := ⟨gG, 1, none⟩) hgg.out (.int .i64 (d.gs z).2.1)).setCell (p := ⟨gG, 2, none⟩) hgg.out (.int .i64 (d.gs z).2.2.1)).setCell (p := ⟨gG, 3, none⟩) hgg.out (.int .i64 (d.gs z).2.2.2))
    have XJ := hid ((((XG2.out.set_ 0 (.int .i64 (d.gs z).1)).set_ 1 (.int .i64 (d.gs z).2.1)).set_ 2 (.int .i64 (d.gs z).2.2.1)).set_ 3 (.int .i64 (d.gs z).2.2.2))
    have XK := hid ((((XH.out.far (p := ⟨gG, 0, none⟩) hne.out (.int .i64 (d.gs z).1)).far (p := ⟨gG, 1, none⟩) hne.out (.int .i64 (d.gs z).2.1)).far (p := ⟨gG, 2, none⟩) hne.out (.int .i64 (d.gs z).2.2.1)).far (p := ⟨gG, 3, none⟩) hne.out (.int .i64 (d.gs z).2.2.2))
    simp at XJ
    refine hK.out _ _ BJ.out ?_
    clear hK K
    (try simp only [Act.put, List.setIfInBounds_toArray, List.set_cons_zero, List.set_cons_succ])
    clear hHeld XG2 XH c0 c1 c2 c3 fE
    generalize ((((wH.setCell ⟨gG, 0, none⟩ (.int .i64 (d.gs z).1)).setCell ⟨gG, 1, none⟩ (.int .i64 (d.gs z).2.1)).setCell ⟨gG, 2, none⟩ (.int .i64 (d.gs z).2.2.1)).setCell ⟨gG, 3, none⟩ (.int .i64 (d.gs z).2.2.2)) = wJ at *
    refine wpAnyS_done (by kernel_rfl) ?_
    have NJ := hid (Na.out.below BJ.out Na.out.lt)
    have HJ := hid (HD.out.below BJ.out)
    have BW := hid (Ba.out.trans (BJ.out.mono Ba.out.size))
    have hgnE := hid (show gn < gE from Nat.lt_of_lt_of_le Na.out.lt hge.out)
    have hEw := hid (show w.heap.size ≤ gE from Nat.le_trans Ba.out.size hge.out)
    clear HSF BJ BH BG BE BD XJ hgg hge hne Na HD Ba
    have x0 := NJ.out.cell 0; have x1 := NJ.out.cell 1; have x3 := NJ.out.cell 3
    have c0 := XK.out.cell 0; have c1 := XK.out.cell 1; have c2 := XK.out.cell 2; have fE := XK.out.frozen
    simp at x0 x1 x3 c0 c1 c2
    go_upto_region 12 with fail
    have hq := hEw.out
    have hq2 := hgnE.out
    obtain ⟨l1, l2, l3, l4⟩ := LT.out
    have GK := hid (gr_set wJ gE 0 (.int .i64 0))
    have HK2 := hid (HJ.out.kept GK.out (by omega) (by omega) (by omega) (fun k hk => by have := l4 k hk; omega))
    have XK2 := hid (XK.out.set_ 0 (.int .i64 0))
    have NK := hid (NJ.out.far (p := ⟨gE, 0, none⟩) (Nat.ne_of_lt hq2) (.int .i64 0))
    have GW := hid (gr_far (gr_below BW.out (some mh)) GK.out hq)
    simp at XK2
    clear x0 x1 x3 c0 c1 c2 fE HJ XK NJ BW GK
    generalize wJ.setCell ⟨gE, 0, none⟩ (.int .i64 0) = wK at *
    have HSF := hid (fun (wq : World) (hq : Below wK.heap.size wK wq) => And.intro (HK2.out.below hq).at_.2.2.1 (And.intro ((NK.out.below hq NK.out.lt).cell 1) (And.intro ((XK2.out.below hq XK2.out.lt).cell 0) (And.intro ((XK2.out.below hq XK2.out.lt).cell 1) ((XK2.out.below hq XK2.out.lt).cell 2)))))
    have BD := hid ((Below.refl wK.heap.size wK).drew)
    refine wpIn_wide.1 (wpIn_region_S (n := 0) (fun wq => Below wK.heap.size wK wq) [7] (by kernel_rfl) BD.out (fun hHeld => ?_))
    generalize wK.drew = wL at *
    refine wpAnyS_pure 0 (v := ?_) (fun _ => trivial) (by simp only [List.getElem?_toArray, List.getElem?_cons_succ, List.getElem?_cons_zero]; rfl) (by kernel_rfl) (fun _ _ _ _ _ h => h) ⟨rfl, (by intro c h; cases h), ?_⟩ hHeld ?_
    rotate_left
    focus (intro wS hSw; (try replace hSw := HSF.out wS hSw); (try dsimp only at hSw); go_simp; (try with_reducible rfl))
    (try simp only [Act.put, List.setIfInBounds_toArray, List.set_cons_zero, List.set_cons_succ])
    refine wpAnyS_take 1 (v := ?_) (fun _ => trivial) (by simp only [List.getElem?_toArray, List.getElem?_cons_succ, List.getElem?_cons_zero]; rfl) (by kernel_rfl) (fun _ _ _ _ _ h => h) ⟨rfl, (by intro c h; cases h), ?_⟩ hHeld ?_
    rotate_left
    focus (intro wS hSw; (try replace hSw := HSF.out wS hSw); (try dsimp only at hSw); go_simp; (try with_reducible rfl))
    (try simp only [Act.put, List.setIfInBounds_toArray, List.set_cons_zero, List.set_cons_succ])
    refine wpAnyS_pure 2 (v := ?_) (fun _ => trivial) (by simp only [List.getElem?_toArray, List.getElem?_cons_succ, List.getElem?_cons_zero]; rfl) (by kernel_rfl) (fun _ _ _ _ _ h => h) ⟨rfl, (by intro c h; cases h), ?_⟩ hHeld ?_
    rotate_left
    focus (intro wS hSw; (try replace hSw := HSF.out wS hSw); (try dsimp only at hSw); go_simp; (try with_reducible rfl))
    (try simp only [Act.put, List.setIfInBounds_toArray, List.set_cons_zero, List.set_cons_succ])
    refine wpAnyS_take 3 (v := ?_) (fun _ => trivial) (by simp only [List.getElem?_toArray, List.getElem?_cons_succ, List.getElem?_cons_zero]; rfl) (by kernel_rfl) (fun _ _ _ _ _ h => h) ⟨rfl, (by intro c h; cases h), ?_⟩ hHeld ?_
    rotate_left
    focus (intro wS hSw; (try replace hSw := HSF.out wS hSw); (try dsimp only at hSw); go_simp; (try with_reducible rfl))
    (try simp only [Act.put, List.setIfInBounds_toArray, List.set_cons_zero, List.set_cons_succ])
    refine wpAnyS_pure 4 (v := ?_) (fun _ => trivial) (by simp only [List.getElem?_toArray, List.getElem?_cons_succ, List.getElem?_cons_zero]; rfl) (by kernel_rfl) (fun _ _ _ _ _ h => h) ⟨rfl, (by intro c h; cases h), ?_⟩ hHeld ?_
    rotate_left
    focus (intro wS hSw; (try replace hSw := HSF.out wS hSw); (try dsimp only at hSw); go_simp; (try with_reducible rfl))
    (try simp only [Act.put, List.setIfInBounds_toArray, List.set_cons_zero, List.set_cons_succ])
    refine wpAnyS_take 5 (v := ?_) (fun _ => trivial) (by simp only [List.getElem?_toArray, List.getElem?_cons_succ, List.getElem?_cons_zero]; rfl) (by kernel_rfl) (fun _ _ _ _ _ h => h) ⟨rfl, (by intro c h; cases h), ?_⟩ hHeld ?_
    rotate_left
    focus (intro wS hSw; (try replace hSw := HSF.out wS hSw); (try dsimp only at hSw); go_simp; (try with_reducible rfl))
    (try simp only [Act.put, List.setIfInBounds_toArray, List.set_cons_zero, List.set_cons_succ])
    refine wpAnyS_take 6 (v := ?_) (fun _ => trivial) (by simp only [List.getElem?_toArray, List.getElem?_cons_succ, List.getElem?_cons_zero]; rfl) (by kernel_rfl) (fun _ _ _ _ _ h => h) ⟨rfl, (by intro c h; cases h), ?_⟩ hHeld ?_
    rotate_left
    focus (intro wS hSw; (try replace hSw := HSF.out wS hSw); (try dsimp only at hSw); go_simp; (try with_reducible rfl))
    (try simp only [Act.put, List.setIfInBounds_toArray, List.set_cons_zero, List.set_cons_succ])
    obtain ⟨w2, r1, r2, r3⟩ := (HK2.out.below BD.out).putH hz hp.out hl.out (0, (d.hs z).2.1, (d.hs z).2.2)
    have R2 := hid r2
    have G2 := hid (gr_tr (gr_tr GW.out (gr_below BD.out (some mh))) r3)
    clear r2 r3
    refine wpAnyS_ready [7] (by kernel_rfl) (by simp) (AllReadyS.consL (by simp only [List.getElem?_toArray, List.getElem?_cons_succ, List.getElem?_cons_zero]; rfl) rfl (by kernel_rfl) (fun K hK => ?_) AllReadyS.nil)
    go_simp
    refine hK.out _ _ ?_
    (try simp only [Act.put, List.setIfInBounds_toArray, List.set_cons_zero, List.set_cons_succ])
    refine wpAnyS_done (by kernel_rfl) ?_
    clear hK HSF hHeld r1 BD
    go_wp2_with fail
    go_ret
    exact ⟨rfl, R2.out, G2.out⟩
set_option maxRecDepth 100000 in
set_option maxHeartbeats 1000000 in
theorem hear_back0 (h : Ld w base b v mh mg d) (ok : d.Ok) (z u n : Int) (hz : I64 z) (he : lAs d z true = 0) (hs : n ≠ (d.hs z).2.1) : Calls Tryd.prog 17 #[.pointer (some ⟨b, 0, none⟩), .agg #[.int .i64 2, .int .i64 z, .int .i64 u, .int .i64 n]] w fun e w' => e = .returned (.int .i64 0) ∧ Below w.heap.size w w' := by
  have HA := hid (fun W (hW : Below w.heap.size w W) => as_any (h.below hW) ok (z := z) true)
  rw [he] at HA
  have hp := hid (lAs_yes he)
  have hl := hid ok.len
  clear ok he
  go_enter Tryd.func17, Tryd.ntmps17
  go_upto_region 3 with fail
  have NZ := hid (Blk.new w 26 #[.int .i64 2, .int .i64 z, .int .i64 u, .int .i64 n])
  have B1 := hid (show Below w.heap.size w (w.alloc (Obj.cells #[.int .i64 2, .int .i64 z, .int .i64 u, .int .i64 n] 26)) by (repeat (first | exact Below.refl _ _ | assumption | refine below_drewN ?_ _ | refine Below.drew ?_ | refine Below.alloc ?_ (by (try simp); (try omega)) _ | refine Below.setCell ?_ (by (try simp); (try omega)) _)))
  generalize (w.alloc (Obj.cells #[.int .i64 2, .int .i64 z, .int .i64 u, .int .i64 n] 26)) = w1 at *
  obtain ⟨gn, hgn'⟩ : ∃ gn, gn = w.heap.size := ⟨_, rfl⟩
  rw [← hgn'] at NZ
  rw [← hgn']
  clear hgn'
  have x0 := NZ.out.cell 0; have x1 := NZ.out.cell 1
  simp at x0 x1
  go_upto_region 4 with (go_at_call 65; refine (HA.out _ B1.out).mono ?_; rintro e wa ⟨rfl, hBa⟩)
  have Ba := hid (B1.out.trans (hBa.mono B1.out.size))
  have Na := hid (NZ.out.below hBa NZ.out.lt)
  have LT := hid (And.intro h.k.lt (And.intro h.h.lt (And.intro h.g.lt (fun k (hk : v.ownBlock = some k) => (h.r.lt k hk).2))))
  have HD := hid (h.below Ba.out)
  clear hBa B1 NZ HA x0 x1 h
  go_upto_region 6 with fail
  have HSF := hid (fun (wq : World) (hq : Below wa.heap.size wa wq) => And.intro (HD.out.below hq).at_.2.2 (And.intro ((HD.out.below hq).look hz) ((Na.out.below hq Na.out.lt).cell 1)))
  have BD := hid ((Below.refl wa.heap.size wa).drew)
  refine wpIn_wide.1 (wpIn_region_S (n := 0) (fun wq => Below wa.heap.size wa wq) [] (by kernel_rfl) BD.out (fun hHeld => ?_))
  generalize wa.drew = wd at *
  refine wpAnyS_pure 0 (v := ?_) (fun _ => trivial) (by simp only [List.getElem?_toArray, List.getElem?_cons_succ, List.getElem?_cons_zero]; rfl) (by kernel_rfl) (fun _ _ _ _ _ h => h) ⟨rfl, (by intro c h; cases h), ?_⟩ hHeld ?_
  rotate_left
  focus (intro wS hSw; (try replace hSw := HSF.out wS hSw); (try dsimp only at hSw); go_simp; (try with_reducible rfl))
  (try simp only [Act.put, List.setIfInBounds_toArray, List.set_cons_zero, List.set_cons_succ])
  refine wpAnyS_take 1 (v := ?_) (fun _ => trivial) (by simp only [List.getElem?_toArray, List.getElem?_cons_succ, List.getElem?_cons_zero]; rfl) (by kernel_rfl) (fun _ _ _ _ _ h => h) ⟨rfl, (by intro c h; cases h), ?_⟩ hHeld ?_
  rotate_left
  focus (intro wS hSw; (try replace hSw := HSF.out wS hSw); (try dsimp only at hSw); go_simp; (try with_reducible rfl))
  (try simp only [Act.put, List.setIfInBounds_toArray, List.set_cons_zero, List.set_cons_succ])
  refine wpAnyS_pure 2 (v := ?_) (fun _ => trivial) (by simp only [List.getElem?_toArray, List.getElem?_cons_succ, List.getElem?_cons_zero]; rfl) (by kernel_rfl) (fun _ _ _ _ _ h => h) ⟨rfl, (by intro c h; cases h), ?_⟩ hHeld ?_
  rotate_left
  focus (intro wS hSw; (try replace hSw := HSF.out wS hSw); (try dsimp only at hSw); go_simp; (try with_reducible rfl))
  (try simp only [Act.put, List.setIfInBounds_toArray, List.set_cons_zero, List.set_cons_succ])
  refine wpAnyS_take 3 (v := ?_) (fun _ => trivial) (by simp only [List.getElem?_toArray, List.getElem?_cons_succ, List.getElem?_cons_zero]; rfl) (by kernel_rfl) (fun _ _ _ _ _ h => h) ⟨rfl, (by intro c h; cases h), ?_⟩ hHeld ?_
  rotate_left
  focus (intro wS hSw; (try replace hSw := HSF.out wS hSw); (try dsimp only at hSw); go_simp; (try with_reducible rfl))
  (try simp only [Act.put, List.setIfInBounds_toArray, List.set_cons_zero, List.set_cons_succ])
  refine wpAnyS_pure 4 (v := ?_) (fun _ => trivial) (by simp only [List.getElem?_toArray, List.getElem?_cons_succ, List.getElem?_cons_zero]; rfl) (by kernel_rfl) (fun _ _ _ _ _ h => h) ⟨rfl, (by intro c h; cases h), ?_⟩ hHeld ?_
  rotate_left
  focus (intro wS hSw; (try replace hSw := HSF.out wS hSw); (try dsimp only at hSw); go_simp; (try with_reducible rfl))
  (try simp only [Act.put, List.setIfInBounds_toArray, List.set_cons_zero, List.set_cons_succ])
  refine wpAnyS_take 5 (v := ?_) (fun _ => trivial) (by simp only [List.getElem?_toArray, List.getElem?_cons_succ, List.getElem?_cons_zero]; rfl) (by kernel_rfl) (fun _ _ _ _ _ h => h) ⟨rfl, (by intro c h; cases h), ?_⟩ hHeld ?_
  rotate_left
  focus (intro wS hSw; (try replace hSw := HSF.out wS hSw); (try dsimp only at hSw); go_simp; (try with_reducible rfl))
  (try simp only [Act.put, List.setIfInBounds_toArray, List.set_cons_zero, List.set_cons_succ])
  refine wpAnyS_take 6 (v := ?_) (fun _ => trivial) (by simp only [List.getElem?_toArray, List.getElem?_cons_succ, List.getElem?_cons_zero]; rfl) (by kernel_rfl) (fun _ _ _ _ _ h => h) ⟨rfl, (by intro c h; cases h), ?_⟩ hHeld ?_
  rotate_left
  focus (intro wS hSw; (try replace hSw := HSF.out wS hSw); (try dsimp only at hSw); go_simp; (try with_reducible rfl))
  (try simp only [Act.put, List.setIfInBounds_toArray, List.set_cons_zero, List.set_cons_succ])
  refine wpAnyS_pure 7 (v := ?_) (fun _ => trivial) (by simp only [List.getElem?_toArray, List.getElem?_cons_succ, List.getElem?_cons_zero]; rfl) (by kernel_rfl) (fun _ _ _ _ _ h => h) ⟨rfl, (by intro c h; cases h), ?_⟩ hHeld ?_
  rotate_left
  focus (intro wS hSw; (try replace hSw := HSF.out wS hSw); (try dsimp only at hSw); go_simp; (try with_reducible rfl))
  (try simp only [Act.put, List.setIfInBounds_toArray, List.set_cons_zero, List.set_cons_succ])
  refine wpAnyS_take 8 (v := ?_) (fun _ => trivial) (by simp only [List.getElem?_toArray, List.getElem?_cons_succ, List.getElem?_cons_zero]; rfl) (by kernel_rfl) (fun _ _ _ _ _ h => h) ⟨rfl, (by intro c h; cases h), ?_⟩ hHeld ?_
  rotate_left
  focus (intro wS hSw; (try replace hSw := HSF.out wS hSw); (try dsimp only at hSw); go_simp; (try with_reducible rfl))
  (try simp only [Act.put, List.setIfInBounds_toArray, List.set_cons_zero, List.set_cons_succ])
  refine wpAnyS_pure 9 (v := ?_) (fun _ => trivial) (by simp only [List.getElem?_toArray, List.getElem?_cons_succ, List.getElem?_cons_zero]; rfl) (by kernel_rfl) (fun _ _ _ _ _ h => h) ⟨rfl, (by intro c h; cases h), ?_⟩ hHeld ?_
  rotate_left
  focus (intro wS hSw; (try replace hSw := HSF.out wS hSw); (try dsimp only at hSw); go_simp; (try with_reducible rfl))
  (try simp only [Act.put, List.setIfInBounds_toArray, List.set_cons_zero, List.set_cons_succ])
  refine wpAnyS_take 10 (v := ?_) (fun _ => trivial) (by simp only [List.getElem?_toArray, List.getElem?_cons_succ, List.getElem?_cons_zero]; rfl) (by kernel_rfl) (fun _ _ _ _ _ h => h) ⟨rfl, (by intro c h; cases h), ?_⟩ hHeld ?_
  rotate_left
  focus (intro wS hSw; (try replace hSw := HSF.out wS hSw); (try dsimp only at hSw); go_simp; (try with_reducible rfl))
  (try simp only [Act.put, List.setIfInBounds_toArray, List.set_cons_zero, List.set_cons_succ])
  refine wpAnyS_pure 11 (v := ?_) (fun _ => trivial) (by simp only [List.getElem?_toArray, List.getElem?_cons_succ, List.getElem?_cons_zero]; rfl) (by kernel_rfl) (fun _ _ _ _ _ h => h) ⟨rfl, (by intro c h; cases h), ?_⟩ hHeld ?_
  rotate_left
  focus (intro wS hSw; (try replace hSw := HSF.out wS hSw); (try dsimp only at hSw); go_simp; (try with_reducible rfl))
  (try simp only [Act.put, List.setIfInBounds_toArray, List.set_cons_zero, List.set_cons_succ])
  refine wpAnyS_take 12 (v := ?_) (fun _ => trivial) (by simp only [List.getElem?_toArray, List.getElem?_cons_succ, List.getElem?_cons_zero]; rfl) (by kernel_rfl) (fun _ _ _ _ _ h => h) ⟨rfl, (by intro c h; cases h), ?_⟩ hHeld ?_
  rotate_left
  focus (intro wS hSw; (try replace hSw := HSF.out wS hSw); (try dsimp only at hSw); go_simp; (try with_reducible rfl))
  (try simp only [Act.put, List.setIfInBounds_toArray, List.set_cons_zero, List.set_cons_succ])
  refine wpAnyS_take 13 (v := ?_) (fun _ => trivial) (by simp only [List.getElem?_toArray, List.getElem?_cons_succ, List.getElem?_cons_zero]; rfl) (by kernel_rfl) (fun _ _ _ _ _ h => h) ⟨rfl, (by intro c h; cases h), ?_⟩ hHeld ?_
  rotate_left
  focus (intro wS hSw; (try replace hSw := HSF.out wS hSw); (try dsimp only at hSw); go_simp; (try with_reducible rfl))
  (try simp only [Act.put, List.setIfInBounds_toArray, List.set_cons_zero, List.set_cons_succ])
  refine wpAnyS_ready [14, 15] (by kernel_rfl) (by simp) (AllReadyS.cons (by simp only [List.getElem?_toArray, List.getElem?_cons_succ, List.getElem?_cons_zero]; rfl) rfl (fun K hK => ?_) (AllReadyS.cons (by simp only [List.getElem?_toArray, List.getElem?_cons_succ, List.getElem?_cons_zero]; rfl) rfl (fun K hK => ?_) AllReadyS.nil))
  · --14
    go_simp
    have BE := hid (BD.out.alloc BD.out.size (Obj.cells #[.int .i64 0, .int .i64 0, .bool false] 85))
    have XE := hid (Blk.new wd 85 #[.int .i64 0, .int .i64 0, .bool false])
    refine hK.out _ _ BE.out ?_
    clear hK K
    (try simp only [Act.put, List.setIfInBounds_toArray, List.set_cons_zero, List.set_cons_succ])
    clear hHeld
    have hHeld := BE.out
    have hge := hid BD.out.size
    generalize wd.heap.size = gE at *
    generalize (wd.alloc (Obj.cells #[.int .i64 0, .int .i64 0, .bool false] 85)) = wE at *
    refine wpAnyS_ready [15] (by kernel_rfl) (by simp) (AllReadyS.cons (by simp only [List.getElem?_toArray, List.getElem?_cons_succ, List.getElem?_cons_zero]; rfl) rfl (fun K hK => ?_) AllReadyS.nil)
    go_simp
    have BG := hid (BE.out.alloc BE.out.size (Obj.cells #[.int .i64 0, .int .i64 0, .int .i64 0, .int .i64 0] 87))
    have XG := hid (Blk.new wE 87 #[.int .i64 0, .int .i64 0, .int .i64 0, .int .i64 0])
    have XE2 := hid (XE.out.below ((Below.refl wE.heap.size wE).alloc (Nat.le_refl _) (Obj.cells #[.int .i64 0, .int .i64 0, .int .i64 0, .int .i64 0] 87)) XE.out.lt)
    have hne := hid (Nat.ne_of_lt XE.out.lt)
    refine hK.out _ _ BG.out ?_
    clear hK K
    (try simp only [Act.put, List.setIfInBounds_toArray, List.set_cons_zero, List.set_cons_succ])
    clear hHeld XE
    have hHeld := BG.out
    have hgg := hid BE.out.size
    generalize wE.heap.size = gG at *
    generalize (wE.alloc (Obj.cells #[.int .i64 0, .int .i64 0, .int .i64 0, .int .i64 0] 87)) = wG at *
    have c0 := XE2.out.cell 0; have c1 := XE2.out.cell 1; have c2 := XE2.out.cell 2; have fE := XE2.out.frozen
    simp at c0 c1 c2
    refine wpAnyS_ready [16] (by kernel_rfl) (by simp) (AllReadyS.cons (by simp only [List.getElem?_toArray, List.getElem?_cons_succ, List.getElem?_cons_zero]; rfl) rfl (fun K hK => ?_) AllReadyS.nil)
    go_simp
    have BH := hid (((BG.out.setCell (p := ⟨gE, 0, none⟩) hge.out (.int .i64 (d.hs z).1)).setCell (p := ⟨gE, 1, none⟩) hge.out (.int .i64 (d.hs z).2.1)).setCell (p := ⟨gE, 2, none⟩) hge.out (.bool (d.hs z).2.2))
    have XH := hid (((XE2.out.set_ 0 (.int .i64 (d.hs z).1)).set_ 1 (.int .i64 (d.hs z).2.1)).set_ 2 (.bool (d.hs z).2.2))
    have XG2 := hid (((XG.out.far (p := ⟨gE, 0, none⟩) (by simpa using hne.out.symm) (.int .i64 (d.hs z).1)).far (p := ⟨gE, 1, none⟩) (by simpa using hne.out.symm) (.int .i64 (d.hs z).2.1)).far (p := ⟨gE, 2, none⟩) (by simpa using hne.out.symm) (.bool (d.hs z).2.2))
    simp at XH
    refine hK.out _ _ BH.out ?_
    clear hK K
    (try simp only [Act.put, List.setIfInBounds_toArray, List.set_cons_zero, List.set_cons_succ])
    clear hHeld XE2 XG c0 c1 c2 fE
    have hHeld := BH.out
    generalize (((wG.setCell ⟨gE, 0, none⟩ (.int .i64 (d.hs z).1)).setCell ⟨gE, 1, none⟩ (.int .i64 (d.hs z).2.1)).setCell ⟨gE, 2, none⟩ (.bool (d.hs z).2.2)) = wH at *
    have c0 := XG2.out.cell 0; have c1 := XG2.out.cell 1; have c2 := XG2.out.cell 2; have c3 := XG2.out.cell 3; have fE := XG2.out.frozen
    simp at c0 c1 c2 c3
    refine wpAnyS_ready [17] (by kernel_rfl) (by simp) (AllReadyS.cons (by simp only [List.getElem?_toArray, List.getElem?_cons_succ, List.getElem?_cons_zero]; rfl) rfl (fun K hK => ?_) AllReadyS.nil)
    go_simp
    have BJ := hid ((((BH.out.setCell (p := ⟨gG, 0, none⟩) hgg.out (.int .i64 (d.gs z).1)).setCell (p := ⟨gG, 1, none⟩) hgg.out (.int .i64 (d.gs z).2.1)).setCell (p := ⟨gG, 2, none⟩) hgg.out (.int .i64 (d.gs z).2.2.1)).setCell (p := ⟨gG, 3, none⟩) hgg.out (.int .i64 (d.gs z).2.2.2))
    have XJ := hid ((((XG2.out.set_ 0 (.int .i64 (d.gs z).1)).set_ 1 (.int .i64 (d.gs z).2.1)).set_ 2 (.int .i64 (d.gs z).2.2.1)).set_ 3 (.int .i64 (d.gs z).2.2.2))
    have XK := hid ((((XH.out.far (p := ⟨gG, 0, none⟩) hne.out (.int .i64 (d.gs z).1)).far (p := ⟨gG, 1, none⟩) hne.out (.int .i64 (d.gs z).2.1)).far (p := ⟨gG, 2, none⟩) hne.out (.int .i64 (d.gs z).2.2.1)).far (p := ⟨gG, 3, none⟩) hne.out (.int .i64 (d.gs z).2.2.2))
    simp at XJ
    refine hK.out _ _ BJ.out ?_
    clear hK K
    (try simp only [Act.put, List.setIfInBounds_toArray, List.set_cons_zero, List.set_cons_succ])
    clear hHeld XG2 XH c0 c1 c2 c3 fE
    generalize ((((wH.setCell ⟨gG, 0, none⟩ (.int .i64 (d.gs z).1)).setCell ⟨gG, 1, none⟩ (.int .i64 (d.gs z).2.1)).setCell ⟨gG, 2, none⟩ (.int .i64 (d.gs z).2.2.1)).setCell ⟨gG, 3, none⟩ (.int .i64 (d.gs z).2.2.2)) = wJ at *
    refine wpAnyS_done (by kernel_rfl) ?_
    have NJ := hid (Na.out.below BJ.out Na.out.lt)
    have HJ := hid (HD.out.below BJ.out)
    have BW := hid (Ba.out.trans (BJ.out.mono Ba.out.size))
    have hgnE := hid (show gn < gE from Nat.lt_of_lt_of_le Na.out.lt hge.out)
    have hEw := hid (show w.heap.size ≤ gE from Nat.le_trans Ba.out.size hge.out)
    clear HSF BJ BH BG BE BD XJ hgg hge hne Na HD Ba
    have x0 := NJ.out.cell 0; have x1 := NJ.out.cell 1; have x3 := NJ.out.cell 3
    have c0 := XK.out.cell 0; have c1 := XK.out.cell 1; have c2 := XK.out.cell 2; have fE := XK.out.frozen
    simp at x0 x1 x3 c0 c1 c2
    go_wp2_with fail
    go_ret
    exact ⟨rfl, BW.out⟩
  · --15
    go_simp
    have BE := hid (BD.out.alloc BD.out.size (Obj.cells #[.int .i64 0, .int .i64 0, .int .i64 0, .int .i64 0] 87))
    have XG0 := hid (Blk.new wd 87 #[.int .i64 0, .int .i64 0, .int .i64 0, .int .i64 0])
    refine hK.out _ _ BE.out ?_
    clear hK K
    (try simp only [Act.put, List.setIfInBounds_toArray, List.set_cons_zero, List.set_cons_succ])
    clear hHeld
    have hHeld := BE.out
    have hgg := hid BD.out.size
    generalize wd.heap.size = gG at *
    generalize (wd.alloc (Obj.cells #[.int .i64 0, .int .i64 0, .int .i64 0, .int .i64 0] 87)) = wE at *
    refine wpAnyS_ready [14] (by kernel_rfl) (by simp) (AllReadyS.cons (by simp only [List.getElem?_toArray, List.getElem?_cons_succ, List.getElem?_cons_zero]; rfl) rfl (fun K hK => ?_) AllReadyS.nil)
    go_simp
    have BG := hid (BE.out.alloc BE.out.size (Obj.cells #[.int .i64 0, .int .i64 0, .bool false] 85))
    have XE2 := hid (Blk.new wE 85 #[.int .i64 0, .int .i64 0, .bool false])
    have XG := hid (XG0.out.below ((Below.refl wE.heap.size wE).alloc (Nat.le_refl _) (Obj.cells #[.int .i64 0, .int .i64 0, .bool false] 85)) XG0.out.lt)
    have hne := hid (Nat.ne_of_lt XG0.out.lt).symm
    refine hK.out _ _ BG.out ?_
    clear hK K
    (try simp only [Act.put, List.setIfInBounds_toArray, List.set_cons_zero, List.set_cons_succ])
    clear hHeld XG0
    have hHeld := BG.out
    have hge := hid BE.out.size
    generalize wE.heap.size = gE at *
    generalize (wE.alloc (Obj.cells #[.int .i64 0, .int .i64 0, .bool false] 85)) = wG at *
    have c0 := XE2.out.cell 0; have c1 := XE2.out.cell 1; have c2 := XE2.out.cell 2; have fE := XE2.out.frozen
    simp at c0 c1 c2
    refine wpAnyS_ready [16] (by kernel_rfl) (by simp) (AllReadyS.cons (by simp only [List.getElem?_toArray, List.getElem?_cons_succ, List.getElem?_cons_zero]; rfl) rfl (fun K hK => ?_) AllReadyS.nil)
    go_simp
    have BH := hid (((BG.out.setCell (p := ⟨gE, 0, none⟩) hge.out (.int .i64 (d.hs z).1)).setCell (p := ⟨gE, 1, none⟩) hge.out (.int .i64 (d.hs z).2.1)).setCell (p := ⟨gE, 2, none⟩) hge.out (.bool (d.hs z).2.2))
    have XH := hid (((XE2.out.set_ 0 (.int .i64 (d.hs z).1)).set_ 1 (.int .i64 (d.hs z).2.1)).set_ 2 (.bool (d.hs z).2.2))
    have XG2 := hid (((XG.out.far (p := ⟨gE, 0, none⟩) (by simpa using hne.out.symm) (.int .i64 (d.hs z).1)).far (p := ⟨gE, 1, none⟩) (by simpa using hne.out.symm) (.int .i64 (d.hs z).2.1)).far (p := ⟨gE, 2, none⟩) (by simpa using hne.out.symm) (.bool (d.hs z).2.2))
    simp at XH
    refine hK.out _ _ BH.out ?_
    clear hK K
    (try simp only [Act.put, List.setIfInBounds_toArray, List.set_cons_zero, List.set_cons_succ])
    clear hHeld XE2 XG c0 c1 c2 fE
    have hHeld := BH.out
    generalize (((wG.setCell ⟨gE, 0, none⟩ (.int .i64 (d.hs z).1)).setCell ⟨gE, 1, none⟩ (.int .i64 (d.hs z).2.1)).setCell ⟨gE, 2, none⟩ (.bool (d.hs z).2.2)) = wH at *
    have c0 := XG2.out.cell 0; have c1 := XG2.out.cell 1; have c2 := XG2.out.cell 2; have c3 := XG2.out.cell 3; have fE := XG2.out.frozen
    simp at c0 c1 c2 c3
    refine wpAnyS_ready [17] (by kernel_rfl) (by simp) (AllReadyS.cons (by simp only [List.getElem?_toArray, List.getElem?_cons_succ, List.getElem?_cons_zero]; rfl) rfl (fun K hK => ?_) AllReadyS.nil)
    go_simp
    have BJ := hid ((((BH.out.setCell (p := ⟨gG, 0, none⟩) hgg.out (.int .i64 (d.gs z).1)).setCell (p := ⟨gG, 1, none⟩) hgg.out (.int .i64 (d.gs z).2.1)).setCell (p := ⟨gG, 2, none⟩) hgg.out (.int .i64 (d.gs z).2.2.1)).setCell (p := ⟨gG, 3, none⟩) hgg.out (.int .i64 (d.gs z).2.2.2))
    have XJ := hid ((((XG2.out.set_ 0 (.int .i64 (d.gs z).1)).set_ 1 (.int .i64 (d.gs z).2.1)).set_ 2 (.int .i64 (d.gs z).2.2.1)).set_ 3 (.int .i64 (d.gs z).2.2.2))
    have XK := hid ((((XH.out.far (p := ⟨gG, 0, none⟩) hne.out (.int .i64 (d.gs z).1)).far (p := ⟨gG, 1, none⟩) hne.out (.int .i64 (d.gs z).2.1)).far (p := ⟨gG, 2, none⟩) hne.out (.int .i64 (d.gs z).2.2.1)).far (p := ⟨gG, 3, none⟩) hne.out (.int .i64 (d.gs z).2.2.2))
    simp at XJ
    refine hK.out _ _ BJ.out ?_
    clear hK K
    (try simp only [Act.put, List.setIfInBounds_toArray, List.set_cons_zero, List.set_cons_succ])
    clear hHeld XG2 XH c0 c1 c2 c3 fE
    generalize ((((wH.setCell ⟨gG, 0, none⟩ (.int .i64 (d.gs z).1)).setCell ⟨gG, 1, none⟩ (.int .i64 (d.gs z).2.1)).setCell ⟨gG, 2, none⟩ (.int .i64 (d.gs z).2.2.1)).setCell ⟨gG, 3, none⟩ (.int .i64 (d.gs z).2.2.2)) = wJ at *
    refine wpAnyS_done (by kernel_rfl) ?_
    have NJ := hid (Na.out.below BJ.out Na.out.lt)
    have HJ := hid (HD.out.below BJ.out)
    have BW := hid (Ba.out.trans (BJ.out.mono Ba.out.size))
    have hgnE := hid (show gn < gE from Nat.lt_of_lt_of_le Na.out.lt hge.out)
    have hEw := hid (show w.heap.size ≤ gE from Nat.le_trans Ba.out.size hge.out)
    clear HSF BJ BH BG BE BD XJ hgg hge hne Na HD Ba
    have x0 := NJ.out.cell 0; have x1 := NJ.out.cell 1; have x3 := NJ.out.cell 3
    have c0 := XK.out.cell 0; have c1 := XK.out.cell 1; have c2 := XK.out.cell 2; have fE := XK.out.frozen
    simp at x0 x1 x3 c0 c1 c2
    go_wp2_with fail
    go_ret
    exact ⟨rfl, BW.out⟩
end
end Go.Proofs.YtappgjdnfllblaaDoor
namespace Go.Proofs.YtappgjdnfllblaaDoor
open Go.RowKit Go.IntWalk Go.Maps Go.WideMaps
section
variable {w : World} {base b : Nat} {v : Value} {mh mg : Nat} {d : LDk}
set_option maxRecDepth 100000 in
set_option maxHeartbeats 1000000 in
theorem hear_give0 (h : Ld w base b v mh mg d) (ok : d.Ok) (z u n : Int) (hz : I64 z) (he : lAs d z false = 0) (hs : n ≤ (d.gs z).2.2.1) : Calls Tryd.prog 17 #[.pointer (some ⟨b, 0, none⟩), .agg #[.int .i64 1, .int .i64 z, .int .i64 u, .int .i64 n]] w fun e w' => e = .returned (.int .i64 0) ∧ Below w.heap.size w w' := by
  have HA := hid (fun W (hW : Below w.heap.size w W) => as_any (h.below hW) ok (z := z) false)
  rw [he] at HA
  have hp := hid (lAs_no he)
  have hl := hid ok.len
  clear ok he
  go_enter Tryd.func17, Tryd.ntmps17
  go_upto_region 3 with fail
  have NZ := hid (Blk.new w 26 #[.int .i64 1, .int .i64 z, .int .i64 u, .int .i64 n])
  have B1 := hid (show Below w.heap.size w (w.alloc (Obj.cells #[.int .i64 1, .int .i64 z, .int .i64 u, .int .i64 n] 26)) by (repeat (first | exact Below.refl _ _ | assumption | refine below_drewN ?_ _ | refine Below.drew ?_ | refine Below.alloc ?_ (by (try simp); (try omega)) _ | refine Below.setCell ?_ (by (try simp); (try omega)) _)))
  generalize (w.alloc (Obj.cells #[.int .i64 1, .int .i64 z, .int .i64 u, .int .i64 n] 26)) = w1 at *
  obtain ⟨gn, hgn'⟩ : ∃ gn, gn = w.heap.size := ⟨_, rfl⟩
  rw [← hgn'] at NZ
  rw [← hgn']
  clear hgn'
  have x0 := NZ.out.cell 0; have x1 := NZ.out.cell 1
  simp at x0 x1
  go_upto_region 4 with (go_at_call 65; refine (HA.out _ B1.out).mono ?_; rintro e wa ⟨rfl, hBa⟩)
  have Ba := hid (B1.out.trans (hBa.mono B1.out.size))
  have Na := hid (NZ.out.below hBa NZ.out.lt)
  have LT := hid (And.intro h.k.lt (And.intro h.h.lt (And.intro h.g.lt (fun k (hk : v.ownBlock = some k) => (h.r.lt k hk).2))))
  have HD := hid (h.below Ba.out)
  clear hBa B1 NZ HA x0 x1 h
  go_upto_region 6 with fail
  have HSF := hid (fun (wq : World) (hq : Below wa.heap.size wa wq) => And.intro (HD.out.below hq).at_.2.2 (And.intro ((HD.out.below hq).look hz) ((Na.out.below hq Na.out.lt).cell 1)))
  have BD := hid ((Below.refl wa.heap.size wa).drew)
  refine wpIn_wide.1 (wpIn_region_S (n := 0) (fun wq => Below wa.heap.size wa wq) [] (by kernel_rfl) BD.out (fun hHeld => ?_))
  generalize wa.drew = wd at *
  refine wpAnyS_pure 0 (v := ?_) (fun _ => trivial) (by simp only [List.getElem?_toArray, List.getElem?_cons_succ, List.getElem?_cons_zero]; rfl) (by kernel_rfl) (fun _ _ _ _ _ h => h) ⟨rfl, (by intro c h; cases h), ?_⟩ hHeld ?_
  rotate_left
  focus (intro wS hSw; (try replace hSw := HSF.out wS hSw); (try dsimp only at hSw); go_simp; (try with_reducible rfl))
  (try simp only [Act.put, List.setIfInBounds_toArray, List.set_cons_zero, List.set_cons_succ])
  refine wpAnyS_take 1 (v := ?_) (fun _ => trivial) (by simp only [List.getElem?_toArray, List.getElem?_cons_succ, List.getElem?_cons_zero]; rfl) (by kernel_rfl) (fun _ _ _ _ _ h => h) ⟨rfl, (by intro c h; cases h), ?_⟩ hHeld ?_
  rotate_left
  focus (intro wS hSw; (try replace hSw := HSF.out wS hSw); (try dsimp only at hSw); go_simp; (try with_reducible rfl))
  (try simp only [Act.put, List.setIfInBounds_toArray, List.set_cons_zero, List.set_cons_succ])
  refine wpAnyS_pure 2 (v := ?_) (fun _ => trivial) (by simp only [List.getElem?_toArray, List.getElem?_cons_succ, List.getElem?_cons_zero]; rfl) (by kernel_rfl) (fun _ _ _ _ _ h => h) ⟨rfl, (by intro c h; cases h), ?_⟩ hHeld ?_
  rotate_left
  focus (intro wS hSw; (try replace hSw := HSF.out wS hSw); (try dsimp only at hSw); go_simp; (try with_reducible rfl))
  (try simp only [Act.put, List.setIfInBounds_toArray, List.set_cons_zero, List.set_cons_succ])
  refine wpAnyS_take 3 (v := ?_) (fun _ => trivial) (by simp only [List.getElem?_toArray, List.getElem?_cons_succ, List.getElem?_cons_zero]; rfl) (by kernel_rfl) (fun _ _ _ _ _ h => h) ⟨rfl, (by intro c h; cases h), ?_⟩ hHeld ?_
  rotate_left
  focus (intro wS hSw; (try replace hSw := HSF.out wS hSw); (try dsimp only at hSw); go_simp; (try with_reducible rfl))
  (try simp only [Act.put, List.setIfInBounds_toArray, List.set_cons_zero, List.set_cons_succ])
  refine wpAnyS_pure 4 (v := ?_) (fun _ => trivial) (by simp only [List.getElem?_toArray, List.getElem?_cons_succ, List.getElem?_cons_zero]; rfl) (by kernel_rfl) (fun _ _ _ _ _ h => h) ⟨rfl, (by intro c h; cases h), ?_⟩ hHeld ?_
  rotate_left
  focus (intro wS hSw; (try replace hSw := HSF.out wS hSw); (try dsimp only at hSw); go_simp; (try with_reducible rfl))
  (try simp only [Act.put, List.setIfInBounds_toArray, List.set_cons_zero, List.set_cons_succ])
  refine wpAnyS_take 5 (v := ?_) (fun _ => trivial) (by simp only [List.getElem?_toArray, List.getElem?_cons_succ, List.getElem?_cons_zero]; rfl) (by kernel_rfl) (fun _ _ _ _ _ h => h) ⟨rfl, (by intro c h; cases h), ?_⟩ hHeld ?_
  rotate_left
  focus (intro wS hSw; (try replace hSw := HSF.out wS hSw); (try dsimp only at hSw); go_simp; (try with_reducible rfl))
  (try simp only [Act.put, List.setIfInBounds_toArray, List.set_cons_zero, List.set_cons_succ])
  refine wpAnyS_take 6 (v := ?_) (fun _ => trivial) (by simp only [List.getElem?_toArray, List.getElem?_cons_succ, List.getElem?_cons_zero]; rfl) (by kernel_rfl) (fun _ _ _ _ _ h => h) ⟨rfl, (by intro c h; cases h), ?_⟩ hHeld ?_
  rotate_left
  focus (intro wS hSw; (try replace hSw := HSF.out wS hSw); (try dsimp only at hSw); go_simp; (try with_reducible rfl))
  (try simp only [Act.put, List.setIfInBounds_toArray, List.set_cons_zero, List.set_cons_succ])
  refine wpAnyS_pure 7 (v := ?_) (fun _ => trivial) (by simp only [List.getElem?_toArray, List.getElem?_cons_succ, List.getElem?_cons_zero]; rfl) (by kernel_rfl) (fun _ _ _ _ _ h => h) ⟨rfl, (by intro c h; cases h), ?_⟩ hHeld ?_
  rotate_left
  focus (intro wS hSw; (try replace hSw := HSF.out wS hSw); (try dsimp only at hSw); go_simp; (try with_reducible rfl))
  (try simp only [Act.put, List.setIfInBounds_toArray, List.set_cons_zero, List.set_cons_succ])
  refine wpAnyS_take 8 (v := ?_) (fun _ => trivial) (by simp only [List.getElem?_toArray, List.getElem?_cons_succ, List.getElem?_cons_zero]; rfl) (by kernel_rfl) (fun _ _ _ _ _ h => h) ⟨rfl, (by intro c h; cases h), ?_⟩ hHeld ?_
  rotate_left
  focus (intro wS hSw; (try replace hSw := HSF.out wS hSw); (try dsimp only at hSw); go_simp; (try with_reducible rfl))
  (try simp only [Act.put, List.setIfInBounds_toArray, List.set_cons_zero, List.set_cons_succ])
  refine wpAnyS_pure 9 (v := ?_) (fun _ => trivial) (by simp only [List.getElem?_toArray, List.getElem?_cons_succ, List.getElem?_cons_zero]; rfl) (by kernel_rfl) (fun _ _ _ _ _ h => h) ⟨rfl, (by intro c h; cases h), ?_⟩ hHeld ?_
  rotate_left
  focus (intro wS hSw; (try replace hSw := HSF.out wS hSw); (try dsimp only at hSw); go_simp; (try with_reducible rfl))
  (try simp only [Act.put, List.setIfInBounds_toArray, List.set_cons_zero, List.set_cons_succ])
  refine wpAnyS_take 10 (v := ?_) (fun _ => trivial) (by simp only [List.getElem?_toArray, List.getElem?_cons_succ, List.getElem?_cons_zero]; rfl) (by kernel_rfl) (fun _ _ _ _ _ h => h) ⟨rfl, (by intro c h; cases h), ?_⟩ hHeld ?_
  rotate_left
  focus (intro wS hSw; (try replace hSw := HSF.out wS hSw); (try dsimp only at hSw); go_simp; (try with_reducible rfl))
  (try simp only [Act.put, List.setIfInBounds_toArray, List.set_cons_zero, List.set_cons_succ])
  refine wpAnyS_pure 11 (v := ?_) (fun _ => trivial) (by simp only [List.getElem?_toArray, List.getElem?_cons_succ, List.getElem?_cons_zero]; rfl) (by kernel_rfl) (fun _ _ _ _ _ h => h) ⟨rfl, (by intro c h; cases h), ?_⟩ hHeld ?_
  rotate_left
  focus (intro wS hSw; (try replace hSw := HSF.out wS hSw); (try dsimp only at hSw); go_simp; (try with_reducible rfl))
  (try simp only [Act.put, List.setIfInBounds_toArray, List.set_cons_zero, List.set_cons_succ])
  refine wpAnyS_take 12 (v := ?_) (fun _ => trivial) (by simp only [List.getElem?_toArray, List.getElem?_cons_succ, List.getElem?_cons_zero]; rfl) (by kernel_rfl) (fun _ _ _ _ _ h => h) ⟨rfl, (by intro c h; cases h), ?_⟩ hHeld ?_
  rotate_left
  focus (intro wS hSw; (try replace hSw := HSF.out wS hSw); (try dsimp only at hSw); go_simp; (try with_reducible rfl))
  (try simp only [Act.put, List.setIfInBounds_toArray, List.set_cons_zero, List.set_cons_succ])
  refine wpAnyS_take 13 (v := ?_) (fun _ => trivial) (by simp only [List.getElem?_toArray, List.getElem?_cons_succ, List.getElem?_cons_zero]; rfl) (by kernel_rfl) (fun _ _ _ _ _ h => h) ⟨rfl, (by intro c h; cases h), ?_⟩ hHeld ?_
  rotate_left
  focus (intro wS hSw; (try replace hSw := HSF.out wS hSw); (try dsimp only at hSw); go_simp; (try with_reducible rfl))
  (try simp only [Act.put, List.setIfInBounds_toArray, List.set_cons_zero, List.set_cons_succ])
  refine wpAnyS_ready [14, 15] (by kernel_rfl) (by simp) (AllReadyS.cons (by simp only [List.getElem?_toArray, List.getElem?_cons_succ, List.getElem?_cons_zero]; rfl) rfl (fun K hK => ?_) (AllReadyS.cons (by simp only [List.getElem?_toArray, List.getElem?_cons_succ, List.getElem?_cons_zero]; rfl) rfl (fun K hK => ?_) AllReadyS.nil))
  · --14
    go_simp
    have BE := hid (BD.out.alloc BD.out.size (Obj.cells #[.int .i64 0, .int .i64 0, .bool false] 85))
    have XE := hid (Blk.new wd 85 #[.int .i64 0, .int .i64 0, .bool false])
    refine hK.out _ _ BE.out ?_
    clear hK K
    (try simp only [Act.put, List.setIfInBounds_toArray, List.set_cons_zero, List.set_cons_succ])
    clear hHeld
    have hHeld := BE.out
    have hge := hid BD.out.size
    generalize wd.heap.size = gE at *
    generalize (wd.alloc (Obj.cells #[.int .i64 0, .int .i64 0, .bool false] 85)) = wE at *
    refine wpAnyS_ready [15] (by kernel_rfl) (by simp) (AllReadyS.cons (by simp only [List.getElem?_toArray, List.getElem?_cons_succ, List.getElem?_cons_zero]; rfl) rfl (fun K hK => ?_) AllReadyS.nil)
    go_simp
    have BG := hid (BE.out.alloc BE.out.size (Obj.cells #[.int .i64 0, .int .i64 0, .int .i64 0, .int .i64 0] 87))
    have XG := hid (Blk.new wE 87 #[.int .i64 0, .int .i64 0, .int .i64 0, .int .i64 0])
    have XE2 := hid (XE.out.below ((Below.refl wE.heap.size wE).alloc (Nat.le_refl _) (Obj.cells #[.int .i64 0, .int .i64 0, .int .i64 0, .int .i64 0] 87)) XE.out.lt)
    have hne := hid (Nat.ne_of_lt XE.out.lt)
    refine hK.out _ _ BG.out ?_
    clear hK K
    (try simp only [Act.put, List.setIfInBounds_toArray, List.set_cons_zero, List.set_cons_succ])
    clear hHeld XE
    have hHeld := BG.out
    have hgg := hid BE.out.size
    generalize wE.heap.size = gG at *
    generalize (wE.alloc (Obj.cells #[.int .i64 0, .int .i64 0, .int .i64 0, .int .i64 0] 87)) = wG at *
    have c0 := XE2.out.cell 0; have c1 := XE2.out.cell 1; have c2 := XE2.out.cell 2; have fE := XE2.out.frozen
    simp at c0 c1 c2
    refine wpAnyS_ready [16] (by kernel_rfl) (by simp) (AllReadyS.cons (by simp only [List.getElem?_toArray, List.getElem?_cons_succ, List.getElem?_cons_zero]; rfl) rfl (fun K hK => ?_) AllReadyS.nil)
    go_simp
    have BH := hid (((BG.out.setCell (p := ⟨gE, 0, none⟩) hge.out (.int .i64 (d.hs z).1)).setCell (p := ⟨gE, 1, none⟩) hge.out (.int .i64 (d.hs z).2.1)).setCell (p := ⟨gE, 2, none⟩) hge.out (.bool (d.hs z).2.2))
    have XH := hid (((XE2.out.set_ 0 (.int .i64 (d.hs z).1)).set_ 1 (.int .i64 (d.hs z).2.1)).set_ 2 (.bool (d.hs z).2.2))
    have XG2 := hid (((XG.out.far (p := ⟨gE, 0, none⟩) (by simpa using hne.out.symm) (.int .i64 (d.hs z).1)).far (p := ⟨gE, 1, none⟩) (by simpa using hne.out.symm) (.int .i64 (d.hs z).2.1)).far (p := ⟨gE, 2, none⟩) (by simpa using hne.out.symm) (.bool (d.hs z).2.2))
    simp at XH
    refine hK.out _ _ BH.out ?_
    clear hK K
    (try simp only [Act.put, List.setIfInBounds_toArray, List.set_cons_zero, List.set_cons_succ])
    clear hHeld XE2 XG c0 c1 c2 fE
    have hHeld := BH.out
    generalize (((wG.setCell ⟨gE, 0, none⟩ (.int .i64 (d.hs z).1)).setCell ⟨gE, 1, none⟩ (.int .i64 (d.hs z).2.1)).setCell ⟨gE, 2, none⟩ (.bool (d.hs z).2.2)) = wH at *
    have c0 := XG2.out.cell 0; have c1 := XG2.out.cell 1; have c2 := XG2.out.cell 2; have c3 := XG2.out.cell 3; have fE := XG2.out.frozen
    simp at c0 c1 c2 c3
    refine wpAnyS_ready [17] (by kernel_rfl) (by simp) (AllReadyS.cons (by simp only [List.getElem?_toArray, List.getElem?_cons_succ, List.getElem?_cons_zero]; rfl) rfl (fun K hK => ?_) AllReadyS.nil)
    go_simp
    have BJ := hid ((((BH.out.setCell (p := ⟨gG, 0, none⟩) hgg.out (.int .i64 (d.gs z).1)).setCell (p := ⟨gG, 1, none⟩) hgg.out (.int .i64 (d.gs z).2.1)).setCell (p := ⟨gG, 2, none⟩) hgg.out (.int .i64 (d.gs z).2.2.1)).setCell (p := ⟨gG, 3, none⟩) hgg.out (.int .i64 (d.gs z).2.2.2))
    have XJ := hid ((((XG2.out.set_ 0 (.int .i64 (d.gs z).1)).set_ 1 (.int .i64 (d.gs z).2.1)).set_ 2 (.int .i64 (d.gs z).2.2.1)).set_ 3 (.int .i64 (d.gs z).2.2.2))
    have XK := hid ((((XH.out.far (p := ⟨gG, 0, none⟩) hne.out (.int .i64 (d.gs z).1)).far (p := ⟨gG, 1, none⟩) hne.out (.int .i64 (d.gs z).2.1)).far (p := ⟨gG, 2, none⟩) hne.out (.int .i64 (d.gs z).2.2.1)).far (p := ⟨gG, 3, none⟩) hne.out (.int .i64 (d.gs z).2.2.2))
    simp at XJ
    refine hK.out _ _ BJ.out ?_
    clear hK K
    (try simp only [Act.put, List.setIfInBounds_toArray, List.set_cons_zero, List.set_cons_succ])
    clear hHeld XG2 XH c0 c1 c2 c3 fE
    generalize ((((wH.setCell ⟨gG, 0, none⟩ (.int .i64 (d.gs z).1)).setCell ⟨gG, 1, none⟩ (.int .i64 (d.gs z).2.1)).setCell ⟨gG, 2, none⟩ (.int .i64 (d.gs z).2.2.1)).setCell ⟨gG, 3, none⟩ (.int .i64 (d.gs z).2.2.2)) = wJ at *
    refine wpAnyS_done (by kernel_rfl) ?_
    have NJ := hid (Na.out.below BJ.out Na.out.lt)
    have HJ := hid (HD.out.below BJ.out)
    have BW := hid (Ba.out.trans (BJ.out.mono Ba.out.size))
    have hgnE := hid (show gn < gE from Nat.lt_of_lt_of_le Na.out.lt hge.out)
    have hEw := hid (show w.heap.size ≤ gE from Nat.le_trans Ba.out.size hge.out)
    clear HSF BJ BH BG BE BD hgg hge hne Na HD Ba
    have x0 := NJ.out.cell 0; have x1 := NJ.out.cell 1; have x3 := NJ.out.cell 3
    have c0 := XK.out.cell 0; have c1 := XK.out.cell 1; have c2 := XK.out.cell 2; have fE := XK.out.frozen
    have e2 := XJ.out.cell 2
    simp at x0 x1 x3 c0 c1 c2 e2
    go_wp2_with fail
    go_ret
    exact ⟨rfl, BW.out⟩
  · --15
    go_simp
    have BE := hid (BD.out.alloc BD.out.size (Obj.cells #[.int .i64 0, .int .i64 0, .int .i64 0, .int .i64 0] 87))
    have XG0 := hid (Blk.new wd 87 #[.int .i64 0, .int .i64 0, .int .i64 0, .int .i64 0])
    refine hK.out _ _ BE.out ?_
    clear hK K
    (try simp only [Act.put, List.setIfInBounds_toArray, List.set_cons_zero, List.set_cons_succ])
    clear hHeld
    have hHeld := BE.out
    have hgg := hid BD.out.size
    generalize wd.heap.size = gG at *
    generalize (wd.alloc (Obj.cells #[.int .i64 0, .int .i64 0, .int .i64 0, .int .i64 0] 87)) = wE at *
    refine wpAnyS_ready [14] (by kernel_rfl) (by simp) (AllReadyS.cons (by simp only [List.getElem?_toArray, List.getElem?_cons_succ, List.getElem?_cons_zero]; rfl) rfl (fun K hK => ?_) AllReadyS.nil)
    go_simp
    have BG := hid (BE.out.alloc BE.out.size (Obj.cells #[.int .i64 0, .int .i64 0, .bool false] 85))
    have XE2 := hid (Blk.new wE 85 #[.int .i64 0, .int .i64 0, .bool false])
    have XG := hid (XG0.out.below ((Below.refl wE.heap.size wE).alloc (Nat.le_refl _) (Obj.cells #[.int .i64 0, .int .i64 0, .bool false] 85)) XG0.out.lt)
    have hne := hid (Nat.ne_of_lt XG0.out.lt).symm
    refine hK.out _ _ BG.out ?_
    clear hK K
    (try simp only [Act.put, List.setIfInBounds_toArray, List.set_cons_zero, List.set_cons_succ])
    clear hHeld XG0
    have hHeld := BG.out
    have hge := hid BE.out.size
    generalize wE.heap.size = gE at *
    generalize (wE.alloc (Obj.cells #[.int .i64 0, .int .i64 0, .bool false] 85)) = wG at *
    have c0 := XE2.out.cell 0; have c1 := XE2.out.cell 1; have c2 := XE2.out.cell 2; have fE := XE2.out.frozen
    simp at c0 c1 c2
    refine wpAnyS_ready [16] (by kernel_rfl) (by simp) (AllReadyS.cons (by simp only [List.getElem?_toArray, List.getElem?_cons_succ, List.getElem?_cons_zero]; rfl) rfl (fun K hK => ?_) AllReadyS.nil)
    go_simp
    have BH := hid (((BG.out.setCell (p := ⟨gE, 0, none⟩) hge.out (.int .i64 (d.hs z).1)).setCell (p := ⟨gE, 1, none⟩) hge.out (.int .i64 (d.hs z).2.1)).setCell (p := ⟨gE, 2, none⟩) hge.out (.bool (d.hs z).2.2))
    have XH := hid (((XE2.out.set_ 0 (.int .i64 (d.hs z).1)).set_ 1 (.int .i64 (d.hs z).2.1)).set_ 2 (.bool (d.hs z).2.2))
    have XG2 := hid (((XG.out.far (p := ⟨gE, 0, none⟩) (by simpa using hne.out.symm) (.int .i64 (d.hs z).1)).far (p := ⟨gE, 1, none⟩) (by simpa using hne.out.symm) (.int .i64 (d.hs z).2.1)).far (p := ⟨gE, 2, none⟩) (by simpa using hne.out.symm) (.bool (d.hs z).2.2))
    simp at XH
    refine hK.out _ _ BH.out ?_
    clear hK K
    (try simp only [Act.put, List.setIfInBounds_toArray, List.set_cons_zero, List.set_cons_succ])
    clear hHeld XE2 XG c0 c1 c2 fE
    have hHeld := BH.out
    generalize (((wG.setCell ⟨gE, 0, none⟩ (.int .i64 (d.hs z).1)).setCell ⟨gE, 1, none⟩ (.int .i64 (d.hs z).2.1)).setCell ⟨gE, 2, none⟩ (.bool (d.hs z).2.2)) = wH at *
    have c0 := XG2.out.cell 0; have c1 := XG2.out.cell 1; have c2 := XG2.out.cell 2; have c3 := XG2.out.cell 3; have fE := XG2.out.frozen
    simp at c0 c1 c2 c3
    refine wpAnyS_ready [17] (by kernel_rfl) (by simp) (AllReadyS.cons (by simp only [List.getElem?_toArray, List.getElem?_cons_succ, List.getElem?_cons_zero]; rfl) rfl (fun K hK => ?_) AllReadyS.nil)
    go_simp
    have BJ := hid ((((BH.out.setCell (p := ⟨gG, 0, none⟩) hgg.out (.int .i64 (d.gs z).1)).setCell (p := ⟨gG, 1, none⟩) hgg.out (.int .i64 (d.gs z).2.1)).setCell (p := ⟨gG, 2, none⟩) hgg.out (.int .i64 (d.gs z).2.2.1)).setCell (p := ⟨gG, 3, none⟩) hgg.out (.int .i64 (d.gs z).2.2.2))
    have XJ := hid ((((XG2.out.set_ 0 (.int .i64 (d.gs z).1)).set_ 1 (.int .i64 (d.gs z).2.1)).set_ 2 (.int .i64 (d.gs z).2.2.1)).set_ 3 (.int .i64 (d.gs z).2.2.2))
    have XK := hid ((((XH.out.far (p := ⟨gG, 0, none⟩) hne.out (.int .i64 (d.gs z).1)).far (p := ⟨gG, 1, none⟩) hne.out (.int .i64 (d.gs z).2.1)).far (p := ⟨gG, 2, none⟩) hne.out (.int .i64 (d.gs z).2.2.1)).far (p := ⟨gG, 3, none⟩) hne.out (.int .i64 (d.gs z).2.2.2))
    simp at XJ
    refine hK.out _ _ BJ.out ?_
    clear hK K
    (try simp only [Act.put, List.setIfInBounds_toArray, List.set_cons_zero, List.set_cons_succ])
    clear hHeld XG2 XH c0 c1 c2 c3 fE
    generalize ((((wH.setCell ⟨gG, 0, none⟩ (.int .i64 (d.gs z).1)).setCell ⟨gG, 1, none⟩ (.int .i64 (d.gs z).2.1)).setCell ⟨gG, 2, none⟩ (.int .i64 (d.gs z).2.2.1)).setCell ⟨gG, 3, none⟩ (.int .i64 (d.gs z).2.2.2)) = wJ at *
    refine wpAnyS_done (by kernel_rfl) ?_
    have NJ := hid (Na.out.below BJ.out Na.out.lt)
    have HJ := hid (HD.out.below BJ.out)
    have BW := hid (Ba.out.trans (BJ.out.mono Ba.out.size))
    have hgnE := hid (show gn < gE from Nat.lt_of_lt_of_le Na.out.lt hge.out)
    have hEw := hid (show w.heap.size ≤ gE from Nat.le_trans Ba.out.size hge.out)
    clear HSF BJ BH BG BE BD hgg hge hne Na HD Ba
    have x0 := NJ.out.cell 0; have x1 := NJ.out.cell 1; have x3 := NJ.out.cell 3
    have c0 := XK.out.cell 0; have c1 := XK.out.cell 1; have c2 := XK.out.cell 2; have fE := XK.out.frozen
    have e2 := XJ.out.cell 2
    simp at x0 x1 x3 c0 c1 c2 e2
    go_wp2_with fail
    go_ret
    exact ⟨rfl, BW.out⟩
end
end Go.Proofs.YtappgjdnfllblaaDoor
namespace Go.Proofs.YtappgjdnfllblaaDoor
open Go.RowKit Go.IntWalk Go.Maps Go.WideMaps
section
variable {w : World} {base b : Nat} {v : Value} {mh mg : Nat} {d : LDk}
set_option maxRecDepth 100000 in
set_option maxHeartbeats 1000000 in
theorem hear_give (h : Ld w base b v mh mg d) (ok : d.Ok) (z u n : Int) (hz : I64 z) (he : lAs d z false = 0) (hs : (d.gs z).2.2.1 < n) : Calls Tryd.prog 17 #[.pointer (some ⟨b, 0, none⟩), .agg #[.int .i64 1, .int .i64 z, .int .i64 u, .int .i64 n]] w fun e w' => e = .returned (.int .i64 0) ∧ Ld w' base b v mh mg (d.setG z (hearG (d.gs z) (1, u, n))) ∧ w.grownBy w' (some mg) := by
  have HA := hid (fun W (hW : Below w.heap.size w W) => as_any (h.below hW) ok (z := z) false)
  rw [he] at HA
  have hp := hid (lAs_no he)
  have hl := hid ok.len
  have HG := hid (show hearG (d.gs z) (1, u, n) = (max (d.gs z).1 u, max (d.gs z).2.1 n, (d.gs z).2.2.1, (d.gs z).2.2.2) by unfold hearG; rw [if_pos hs])
  generalize hearG (d.gs z) (1, u, n) = gx at *
  obtain ⟨M0, hM0⟩ : ∃ M0, M0 = (if (d.gs z).1 < u then u else (d.gs z).1) := ⟨_, rfl⟩
  obtain ⟨M1, hM1⟩ : ∃ M1, M1 = (if (d.gs z).2.1 < n then n else (d.gs z).2.1) := ⟨_, rfl⟩
  have HM0 := hid hM0
  have HM1 := hid hM1
  have HGX := hid (show gx = (M0, M1, (d.gs z).2.2.1, (d.gs z).2.2.2) by
    rw [HG.out, hM0, hM1]
    refine Prod.ext ?_ (Prod.ext ?_ rfl)
    · simp only; split <;> omega
    · simp only; split <;> omega)
  clear ok he HG hM0 hM1
  go_enter Tryd.func17, Tryd.ntmps17
  go_upto_region 3 with fail
  have NZ := hid (Blk.new w 26 #[.int .i64 1, .int .i64 z, .int .i64 u, .int .i64 n])
  have B1 := hid (show Below w.heap.size w (w.alloc (Obj.cells #[.int .i64 1, .int .i64 z, .int .i64 u, .int .i64 n] 26)) by (repeat (first | exact Below.refl _ _ | assumption | refine below_drewN ?_ _ | refine Below.drew ?_ | refine Below.alloc ?_ (by (try simp); (try omega)) _ | refine Below.setCell ?_ (by (try simp); (try omega)) _)))
  generalize (w.alloc (Obj.cells #[.int .i64 1, .int .i64 z, .int .i64 u, .int .i64 n] 26)) = w1 at *
  obtain ⟨gn, hgn'⟩ : ∃ gn, gn = w.heap.size := ⟨_, rfl⟩
  rw [← hgn'] at NZ
  rw [← hgn']
  clear hgn'
  have x0 := NZ.out.cell 0; have x1 := NZ.out.cell 1
  simp at x0 x1
  go_upto_region 4 with (go_at_call 65; refine (HA.out _ B1.out).mono ?_; rintro e wa ⟨rfl, hBa⟩)
  have Ba := hid (B1.out.trans (hBa.mono B1.out.size))
  have Na := hid (NZ.out.below hBa NZ.out.lt)
  have LT := hid (And.intro h.k.lt (And.intro h.h.lt (And.intro h.g.lt (fun k (hk : v.ownBlock = some k) => (h.r.lt k hk).2))))
  have HD := hid (h.below Ba.out)
  clear hBa B1 NZ HA x0 x1 h
  go_upto_region 6 with fail
  have HSF := hid (fun (wq : World) (hq : Below wa.heap.size wa wq) => And.intro (HD.out.below hq).at_.2.2 (And.intro ((HD.out.below hq).look hz) ((Na.out.below hq Na.out.lt).cell 1)))
  have BD := hid ((Below.refl wa.heap.size wa).drew)
  refine wpIn_wide.1 (wpIn_region_S (n := 0) (fun wq => Below wa.heap.size wa wq) [] (by kernel_rfl) BD.out (fun hHeld => ?_))
  generalize wa.drew = wd at *
  refine wpAnyS_pure 0 (v := ?_) (fun _ => trivial) (by simp only [List.getElem?_toArray, List.getElem?_cons_succ, List.getElem?_cons_zero]; rfl) (by kernel_rfl) (fun _ _ _ _ _ h => h) ⟨rfl, (by intro c h; cases h), ?_⟩ hHeld ?_
  rotate_left
  focus (intro wS hSw; (try replace hSw := HSF.out wS hSw); (try dsimp only at hSw); go_simp; (try with_reducible rfl))
  (try simp only [Act.put, List.setIfInBounds_toArray, List.set_cons_zero, List.set_cons_succ])
  refine wpAnyS_take 1 (v := ?_) (fun _ => trivial) (by simp only [List.getElem?_toArray, List.getElem?_cons_succ, List.getElem?_cons_zero]; rfl) (by kernel_rfl) (fun _ _ _ _ _ h => h) ⟨rfl, (by intro c h; cases h), ?_⟩ hHeld ?_
  rotate_left
  focus (intro wS hSw; (try replace hSw := HSF.out wS hSw); (try dsimp only at hSw); go_simp; (try with_reducible rfl))
  (try simp only [Act.put, List.setIfInBounds_toArray, List.set_cons_zero, List.set_cons_succ])
  refine wpAnyS_pure 2 (v := ?_) (fun _ => trivial) (by simp only [List.getElem?_toArray, List.getElem?_cons_succ, List.getElem?_cons_zero]; rfl) (by kernel_rfl) (fun _ _ _ _ _ h => h) ⟨rfl, (by intro c h; cases h), ?_⟩ hHeld ?_
  rotate_left
  focus (intro wS hSw; (try replace hSw := HSF.out wS hSw); (try dsimp only at hSw); go_simp; (try with_reducible rfl))
  (try simp only [Act.put, List.setIfInBounds_toArray, List.set_cons_zero, List.set_cons_succ])
  refine wpAnyS_take 3 (v := ?_) (fun _ => trivial) (by simp only [List.getElem?_toArray, List.getElem?_cons_succ, List.getElem?_cons_zero]; rfl) (by kernel_rfl) (fun _ _ _ _ _ h => h) ⟨rfl, (by intro c h; cases h), ?_⟩ hHeld ?_
  rotate_left
  focus (intro wS hSw; (try replace hSw := HSF.out wS hSw); (try dsimp only at hSw); go_simp; (try with_reducible rfl))
  (try simp only [Act.put, List.setIfInBounds_toArray, List.set_cons_zero, List.set_cons_succ])
  refine wpAnyS_pure 4 (v := ?_) (fun _ => trivial) (by simp only [List.getElem?_toArray, List.getElem?_cons_succ, List.getElem?_cons_zero]; rfl) (by kernel_rfl) (fun _ _ _ _ _ h => h) ⟨rfl, (by intro c h; cases h), ?_⟩ hHeld ?_
  rotate_left
  focus (intro wS hSw; (try replace hSw := HSF.out wS hSw); (try dsimp only at hSw); go_simp; (try with_reducible rfl))
  (try simp only [Act.put, List.setIfInBounds_toArray, List.set_cons_zero, List.set_cons_succ])
  refine wpAnyS_take 5 (v := ?_) (fun _ => trivial) (by simp only [List.getElem?_toArray, List.getElem?_cons_succ, List.getElem?_cons_zero]; rfl) (by kernel_rfl) (fun _ _ _ _ _ h => h) ⟨rfl, (by intro c h; cases h), ?_⟩ hHeld ?_
  rotate_left
  focus (intro wS hSw; (try replace hSw := HSF.out wS hSw); (try dsimp only at hSw); go_simp; (try with_reducible rfl))
  (try simp only [Act.put, List.setIfInBounds_toArray, List.set_cons_zero, List.set_cons_succ])
  refine wpAnyS_take 6 (v := ?_) (fun _ => trivial) (by simp only [List.getElem?_toArray, List.getElem?_cons_succ, List.getElem?_cons_zero]; rfl) (by kernel_rfl) (fun _ _ _ _ _ h => h) ⟨rfl, (by intro c h; cases h), ?_⟩ hHeld ?_
  rotate_left
  focus (intro wS hSw; (try replace hSw := HSF.out wS hSw); (try dsimp only at hSw); go_simp; (try with_reducible rfl))
  (try simp only [Act.put, List.setIfInBounds_toArray, List.set_cons_zero, List.set_cons_succ])
  refine wpAnyS_pure 7 (v := ?_) (fun _ => trivial) (by simp only [List.getElem?_toArray, List.getElem?_cons_succ, List.getElem?_cons_zero]; rfl) (by kernel_rfl) (fun _ _ _ _ _ h => h) ⟨rfl, (by intro c h; cases h), ?_⟩ hHeld ?_
  rotate_left
  focus (intro wS hSw; (try replace hSw := HSF.out wS hSw); (try dsimp only at hSw); go_simp; (try with_reducible rfl))
  (try simp only [Act.put, List.setIfInBounds_toArray, List.set_cons_zero, List.set_cons_succ])
  refine wpAnyS_take 8 (v := ?_) (fun _ => trivial) (by simp only [List.getElem?_toArray, List.getElem?_cons_succ, List.getElem?_cons_zero]; rfl) (by kernel_rfl) (fun _ _ _ _ _ h => h) ⟨rfl, (by intro c h; cases h), ?_⟩ hHeld ?_
  rotate_left
  focus (intro wS hSw; (try replace hSw := HSF.out wS hSw); (try dsimp only at hSw); go_simp; (try with_reducible rfl))
  (try simp only [Act.put, List.setIfInBounds_toArray, List.set_cons_zero, List.set_cons_succ])
  refine wpAnyS_pure 9 (v := ?_) (fun _ => trivial) (by simp only [List.getElem?_toArray, List.getElem?_cons_succ, List.getElem?_cons_zero]; rfl) (by kernel_rfl) (fun _ _ _ _ _ h => h) ⟨rfl, (by intro c h; cases h), ?_⟩ hHeld ?_
  rotate_left
  focus (intro wS hSw; (try replace hSw := HSF.out wS hSw); (try dsimp only at hSw); go_simp; (try with_reducible rfl))
  (try simp only [Act.put, List.setIfInBounds_toArray, List.set_cons_zero, List.set_cons_succ])
  refine wpAnyS_take 10 (v := ?_) (fun _ => trivial) (by simp only [List.getElem?_toArray, List.getElem?_cons_succ, List.getElem?_cons_zero]; rfl) (by kernel_rfl) (fun _ _ _ _ _ h => h) ⟨rfl, (by intro c h; cases h), ?_⟩ hHeld ?_
  rotate_left
  focus (intro wS hSw; (try replace hSw := HSF.out wS hSw); (try dsimp only at hSw); go_simp; (try with_reducible rfl))
  (try simp only [Act.put, List.setIfInBounds_toArray, List.set_cons_zero, List.set_cons_succ])
  refine wpAnyS_pure 11 (v := ?_) (fun _ => trivial) (by simp only [List.getElem?_toArray, List.getElem?_cons_succ, List.getElem?_cons_zero]; rfl) (by kernel_rfl) (fun _ _ _ _ _ h => h) ⟨rfl, (by intro c h; cases h), ?_⟩ hHeld ?_
  rotate_left
  focus (intro wS hSw; (try replace hSw := HSF.out wS hSw); (try dsimp only at hSw); go_simp; (try with_reducible rfl))
  (try simp only [Act.put, List.setIfInBounds_toArray, List.set_cons_zero, List.set_cons_succ])
  refine wpAnyS_take 12 (v := ?_) (fun _ => trivial) (by simp only [List.getElem?_toArray, List.getElem?_cons_succ, List.getElem?_cons_zero]; rfl) (by kernel_rfl) (fun _ _ _ _ _ h => h) ⟨rfl, (by intro c h; cases h), ?_⟩ hHeld ?_
  rotate_left
  focus (intro wS hSw; (try replace hSw := HSF.out wS hSw); (try dsimp only at hSw); go_simp; (try with_reducible rfl))
  (try simp only [Act.put, List.setIfInBounds_toArray, List.set_cons_zero, List.set_cons_succ])
  refine wpAnyS_take 13 (v := ?_) (fun _ => trivial) (by simp only [List.getElem?_toArray, List.getElem?_cons_succ, List.getElem?_cons_zero]; rfl) (by kernel_rfl) (fun _ _ _ _ _ h => h) ⟨rfl, (by intro c h; cases h), ?_⟩ hHeld ?_
  rotate_left
  focus (intro wS hSw; (try replace hSw := HSF.out wS hSw); (try dsimp only at hSw); go_simp; (try with_reducible rfl))
  (try simp only [Act.put, List.setIfInBounds_toArray, List.set_cons_zero, List.set_cons_succ])
  refine wpAnyS_ready [14, 15] (by kernel_rfl) (by simp) (AllReadyS.cons (by simp only [List.getElem?_toArray, List.getElem?_cons_succ, List.getElem?_cons_zero]; rfl) rfl (fun K hK => ?_) (AllReadyS.cons (by simp only [List.getElem?_toArray, List.getElem?_cons_succ, List.getElem?_cons_zero]; rfl) rfl (fun K hK => ?_) AllReadyS.nil))
  · --14
    go_simp
    have BE := hid (BD.out.alloc BD.out.size (Obj.cells #[.int .i64 0, .int .i64 0, .bool false] 85))
    have XE := hid (Blk.new wd 85 #[.int .i64 0, .int .i64 0, .bool false])
    refine hK.out _ _ BE.out ?_
    clear hK K
    (try simp only [Act.put, List.setIfInBounds_toArray, List.set_cons_zero, List.set_cons_succ])
    clear hHeld
    have hHeld := BE.out
    have hge := hid BD.out.size
    generalize wd.heap.size = gE at *
    generalize (wd.alloc (Obj.cells #[.int .i64 0, .int .i64 0, .bool false] 85)) = wE at *
    refine wpAnyS_ready [15] (by kernel_rfl) (by simp) (AllReadyS.cons (by simp only [List.getElem?_toArray, List.getElem?_cons_succ, List.getElem?_cons_zero]; rfl) rfl (fun K hK => ?_) AllReadyS.nil)
    go_simp
    have BG := hid (BE.out.alloc BE.out.size (Obj.cells #[.int .i64 0, .int .i64 0, .int .i64 0, .int .i64 0] 87))
    have XG := hid (Blk.new wE 87 #[.int .i64 0, .int .i64 0, .int .i64 0, .int .i64 0])
    have XE2 := hid (XE.out.below ((Below.refl wE.heap.size wE).alloc (Nat.le_refl _) (Obj.cells #[.int .i64 0, .int .i64 0, .int .i64 0, .int .i64 0] 87)) XE.out.lt)
    have hne := hid (Nat.ne_of_lt XE.out.lt)
    refine hK.out _ _ BG.out ?_
    clear hK K
    (try simp only [Act.put, List.setIfInBounds_toArray, List.set_cons_zero, List.set_cons_succ])
    clear hHeld XE
    have hHeld := BG.out
    have hgg := hid BE.out.size
    generalize wE.heap.size = gG at *
    generalize (wE.alloc (Obj.cells #[.int .i64 0, .int .i64 0, .int .i64 0, .int .i64 0] 87)) = wG at *
    have c0 := XE2.out.cell 0; have c1 := XE2.out.cell 1; have c2 := XE2.out.cell 2; have fE := XE2.out.frozen
    simp at c0 c1 c2
    refine wpAnyS_ready [16] (by kernel_rfl) (by simp) (AllReadyS.cons (by simp only [List.getElem?_toArray, List.getElem?_cons_succ, List.getElem?_cons_zero]; rfl) rfl (fun K hK => ?_) AllReadyS.nil)
    go_simp
    have BH := hid (((BG.out.setCell (p := ⟨gE, 0, none⟩) hge.out (.int .i64 (d.hs z).1)).setCell (p := ⟨gE, 1, none⟩) hge.out (.int .i64 (d.hs z).2.1)).setCell (p := ⟨gE, 2, none⟩) hge.out (.bool (d.hs z).2.2))
    have XH := hid (((XE2.out.set_ 0 (.int .i64 (d.hs z).1)).set_ 1 (.int .i64 (d.hs z).2.1)).set_ 2 (.bool (d.hs z).2.2))
    have XG2 := hid (((XG.out.far (p := ⟨gE, 0, none⟩) (by simpa using hne.out.symm) (.int .i64 (d.hs z).1)).far (p := ⟨gE, 1, none⟩) (by simpa using hne.out.symm) (.int .i64 (d.hs z).2.1)).far (p := ⟨gE, 2, none⟩) (by simpa using hne.out.symm) (.bool (d.hs z).2.2))
    simp at XH
    refine hK.out _ _ BH.out ?_
    clear hK K
    (try simp only [Act.put, List.setIfInBounds_toArray, List.set_cons_zero, List.set_cons_succ])
    clear hHeld XE2 XG c0 c1 c2 fE
    have hHeld := BH.out
    generalize (((wG.setCell ⟨gE, 0, none⟩ (.int .i64 (d.hs z).1)).setCell ⟨gE, 1, none⟩ (.int .i64 (d.hs z).2.1)).setCell ⟨gE, 2, none⟩ (.bool (d.hs z).2.2)) = wH at *
    have c0 := XG2.out.cell 0; have c1 := XG2.out.cell 1; have c2 := XG2.out.cell 2; have c3 := XG2.out.cell 3; have fE := XG2.out.frozen
    simp at c0 c1 c2 c3
    refine wpAnyS_ready [17] (by kernel_rfl) (by simp) (AllReadyS.cons (by simp only [List.getElem?_toArray, List.getElem?_cons_succ, List.getElem?_cons_zero]; rfl) rfl (fun K hK => ?_) AllReadyS.nil)
    go_simp
    have BJ := hid ((((BH.out.setCell (p := ⟨gG, 0, none⟩) hgg.out (.int .i64 (d.gs z).1)).setCell (p := ⟨gG, 1, none⟩) hgg.out (.int .i64 (d.gs z).2.1)).setCell (p := ⟨gG, 2, none⟩) hgg.out (.int .i64 (d.gs z).2.2.1)).setCell (p := ⟨gG, 3, none⟩) hgg.out (.int .i64 (d.gs z).2.2.2))
    have XJ := hid ((((XG2.out.set_ 0 (.int .i64 (d.gs z).1)).set_ 1 (.int .i64 (d.gs z).2.1)).set_ 2 (.int .i64 (d.gs z).2.2.1)).set_ 3 (.int .i64 (d.gs z).2.2.2))
    have XK := hid ((((XH.out.far (p := ⟨gG, 0, none⟩) hne.out (.int .i64 (d.gs z).1)).far (p := ⟨gG, 1, none⟩) hne.out (.int .i64 (d.gs z).2.1)).far (p := ⟨gG, 2, none⟩) hne.out (.int .i64 (d.gs z).2.2.1)).far (p := ⟨gG, 3, none⟩) hne.out (.int .i64 (d.gs z).2.2.2))
    simp at XJ
    refine hK.out _ _ BJ.out ?_
    clear hK K
    (try simp only [Act.put, List.setIfInBounds_toArray, List.set_cons_zero, List.set_cons_succ])
    clear hHeld XG2 XH c0 c1 c2 c3 fE
    generalize ((((wH.setCell ⟨gG, 0, none⟩ (.int .i64 (d.gs z).1)).setCell ⟨gG, 1, none⟩ (.int .i64 (d.gs z).2.1)).setCell ⟨gG, 2, none⟩ (.int .i64 (d.gs z).2.2.1)).setCell ⟨gG, 3, none⟩ (.int .i64 (d.gs z).2.2.2)) = wJ at *
    refine wpAnyS_done (by kernel_rfl) ?_
    have NJ := hid (Na.out.below BJ.out Na.out.lt)
    have HJ := hid (HD.out.below BJ.out)
    have BW := hid (Ba.out.trans (BJ.out.mono Ba.out.size))
    have hgnE := hid (show gn < gE from Nat.lt_of_lt_of_le Na.out.lt hge.out)
    have hEw := hid (show w.heap.size ≤ gE from Nat.le_trans Ba.out.size hge.out)
    have hGw := hid (show w.heap.size ≤ gG from Nat.le_trans Ba.out.size hgg.out)
    have hgnG := hid (show gn < gG from Nat.lt_of_lt_of_le Na.out.lt hgg.out)
    clear HSF BJ BH BG BE BD XK hgg hge hne Na HD Ba
    have x0 := NJ.out.cell 0; have x1 := NJ.out.cell 1; have x2 := NJ.out.cell 2; have x3 := NJ.out.cell 3
    have e0 := XJ.out.cell 0; have e1 := XJ.out.cell 1; have e2 := XJ.out.cell 2; have e3 := XJ.out.cell 3; have fE := XJ.out.frozen
    simp at x0 x1 x2 x3 e0 e1 e2 e3
    go_upto_region 14 with fail
    have HSF := hid (fun (wq : World) (hq : Below wJ.heap.size wJ wq) => And.intro ((NJ.out.below hq NJ.out.lt).cell 2) (And.intro ((NJ.out.below hq NJ.out.lt).cell 3) (And.intro ((XJ.out.below hq XJ.out.lt).cell 0) ((XJ.out.below hq XJ.out.lt).cell 1))))
    have BD := hid ((Below.refl wJ.heap.size wJ).drew)
    refine wpIn_wide.1 (wpIn_region_S (n := 0) (fun wq => Below wJ.heap.size wJ wq) [11, 13] (by kernel_rfl) BD.out (fun hHeld => ?_))
    have XD := hid XJ.out.drew
    have ND := hid NJ.out.drew
    have HD := hid (HJ.out.below BD.out)
    have BWD := hid (BW.out.trans (BD.out.mono BW.out.size))
    have hgnGn := hid (Nat.ne_of_lt hgnG.out)
    clear x0 x1 x2 x3 e0 e1 e2 e3 fE XJ NJ HJ BW
    generalize wJ.drew = wL at *
    have fL := XD.out.frozen
    have c0 := XD.out.cell 0; have c1 := XD.out.cell 1; have n3 := ND.out.cell 3
    simp at c0 c1 n3
    refine wpAnyS_pure 0 (v := ?_) (fun _ => trivial) (by simp only [List.getElem?_toArray, List.getElem?_cons_succ, List.getElem?_cons_zero]; rfl) (by kernel_rfl) (fun _ _ _ _ _ h => h) ⟨rfl, (by intro c h; cases h), ?_⟩ hHeld ?_
    rotate_left
    focus (intro wS hSw; (try replace hSw := HSF.out wS hSw); (try dsimp only at hSw); go_simp; (try with_reducible rfl))
    (try simp only [Act.put, List.setIfInBounds_toArray, List.set_cons_zero, List.set_cons_succ])
    refine wpAnyS_take 1 (v := ?_) (fun _ => trivial) (by simp only [List.getElem?_toArray, List.getElem?_cons_succ, List.getElem?_cons_zero]; rfl) (by kernel_rfl) (fun _ _ _ _ _ h => h) ⟨rfl, (by intro c h; cases h), ?_⟩ hHeld ?_
    rotate_left
    focus (intro wS hSw; (try replace hSw := HSF.out wS hSw); (try dsimp only at hSw); go_simp; (try with_reducible rfl))
    (try simp only [Act.put, List.setIfInBounds_toArray, List.set_cons_zero, List.set_cons_succ])
    refine wpAnyS_pure 2 (v := ?_) (fun _ => trivial) (by simp only [List.getElem?_toArray, List.getElem?_cons_succ, List.getElem?_cons_zero]; rfl) (by kernel_rfl) (fun _ _ _ _ _ h => h) ⟨rfl, (by intro c h; cases h), ?_⟩ hHeld ?_
    rotate_left
    focus (intro wS hSw; (try replace hSw := HSF.out wS hSw); (try dsimp only at hSw); go_simp; (try with_reducible rfl))
    (try simp only [Act.put, List.setIfInBounds_toArray, List.set_cons_zero, List.set_cons_succ])
    refine wpAnyS_take 3 (v := ?_) (fun _ => trivial) (by simp only [List.getElem?_toArray, List.getElem?_cons_succ, List.getElem?_cons_zero]; rfl) (by kernel_rfl) (fun _ _ _ _ _ h => h) ⟨rfl, (by intro c h; cases h), ?_⟩ hHeld ?_
    rotate_left
    focus (intro wS hSw; (try replace hSw := HSF.out wS hSw); (try dsimp only at hSw); go_simp; (try with_reducible rfl))
    (try simp only [Act.put, List.setIfInBounds_toArray, List.set_cons_zero, List.set_cons_succ])
    refine wpAnyS_pure 4 (v := ?_) (fun _ => trivial) (by simp only [List.getElem?_toArray, List.getElem?_cons_succ, List.getElem?_cons_zero]; rfl) (by kernel_rfl) (fun _ _ _ _ _ h => h) ⟨rfl, (by intro c h; cases h), ?_⟩ hHeld ?_
    rotate_left
    focus (intro wS hSw; (try replace hSw := HSF.out wS hSw); (try dsimp only at hSw); go_simp; (try with_reducible rfl))
    (try simp only [Act.put, List.setIfInBounds_toArray, List.set_cons_zero, List.set_cons_succ])
    refine wpAnyS_pure 5 (v := ?_) (fun _ => trivial) (by simp only [List.getElem?_toArray, List.getElem?_cons_succ, List.getElem?_cons_zero]; rfl) (by kernel_rfl) (fun _ _ _ _ _ h => h) ⟨rfl, (by intro c h; cases h), ?_⟩ hHeld ?_
    rotate_left
    focus (intro wS hSw; (try replace hSw := HSF.out wS hSw); (try dsimp only at hSw); go_simp; (try with_reducible rfl))
    (try simp only [Act.put, List.setIfInBounds_toArray, List.set_cons_zero, List.set_cons_succ])
    refine wpAnyS_take 6 (v := ?_) (fun _ => trivial) (by simp only [List.getElem?_toArray, List.getElem?_cons_succ, List.getElem?_cons_zero]; rfl) (by kernel_rfl) (fun _ _ _ _ _ h => h) ⟨rfl, (by intro c h; cases h), ?_⟩ hHeld ?_
    rotate_left
    focus (intro wS hSw; (try replace hSw := HSF.out wS hSw); (try dsimp only at hSw); go_simp; (try with_reducible rfl))
    (try simp only [Act.put, List.setIfInBounds_toArray, List.set_cons_zero, List.set_cons_succ])
    refine wpAnyS_pure 7 (v := ?_) (fun _ => trivial) (by simp only [List.getElem?_toArray, List.getElem?_cons_succ, List.getElem?_cons_zero]; rfl) (by kernel_rfl) (fun _ _ _ _ _ h => h) ⟨rfl, (by intro c h; cases h), ?_⟩ hHeld ?_
    rotate_left
    focus (intro wS hSw; (try replace hSw := HSF.out wS hSw); (try dsimp only at hSw); go_simp; (try with_reducible rfl))
    (try simp only [Act.put, List.setIfInBounds_toArray, List.set_cons_zero, List.set_cons_succ])
    refine wpAnyS_pure 10 (v := ?_) (fun _ => trivial) (by simp only [List.getElem?_toArray, List.getElem?_cons_succ, List.getElem?_cons_zero]; rfl) (by kernel_rfl) (fun _ _ _ _ _ h => h) ⟨rfl, (by intro c h; cases h), ?_⟩ hHeld ?_
    rotate_left
    focus (intro wS hSw; (try replace hSw := HSF.out wS hSw); (try dsimp only at hSw); go_simp; (try with_reducible rfl))
    (try simp only [Act.put, List.setIfInBounds_toArray, List.set_cons_zero, List.set_cons_succ])
    rw [← HM0.out]
    refine wpAnyS_ready [8, 11] (by kernel_rfl) (by simp) (AllReadyS.cons (by simp only [List.getElem?_toArray, List.getElem?_cons_succ, List.getElem?_cons_zero]; rfl) rfl (fun K hK => ?_) (AllReadyS.consL (by simp only [List.getElem?_toArray, List.getElem?_cons_succ, List.getElem?_cons_zero]; rfl) rfl (by kernel_rfl) (fun K hK => ?_) AllReadyS.nil))
    · --8
      go_simp
      refine hK.out _ _ hHeld ?_
      clear hK K
      (try simp only [Act.put, List.setIfInBounds_toArray, List.set_cons_zero, List.set_cons_succ])
      refine wpAnyS_pure 9 (v := ?_) (fun _ => trivial) (by simp only [List.getElem?_toArray, List.getElem?_cons_succ, List.getElem?_cons_zero]; rfl) (by kernel_rfl) (fun _ _ _ _ _ h => h) ⟨rfl, (by intro c h; cases h), ?_⟩ hHeld ?_
      rotate_left
      focus (intro wS hSw; (try replace hSw := HSF.out wS hSw); (try dsimp only at hSw); go_simp; (try with_reducible rfl))
      (try simp only [Act.put, List.setIfInBounds_toArray, List.set_cons_zero, List.set_cons_succ])
      rw [← HM1.out]
      refine wpAnyS_ready [11] (by kernel_rfl) (by simp) (AllReadyS.consL (by simp only [List.getElem?_toArray, List.getElem?_cons_succ, List.getElem?_cons_zero]; rfl) rfl (by kernel_rfl) (fun K hK => ?_) AllReadyS.nil)
      go_simp
      refine hK.out _ _ ?_
      clear hK K
      (try simp only [Act.put, List.setIfInBounds_toArray, List.set_cons_zero, List.set_cons_succ])
      refine wpAnyS_pureL 12 (v := ?_) (fun _ => trivial) (by simp only [List.getElem?_toArray, List.getElem?_cons_succ, List.getElem?_cons_zero]; rfl) (by kernel_rfl) (by kernel_rfl) (fun _ _ _ _ _ h => h) ⟨rfl, (by intro c h; cases h), ?_⟩ ?_
      rotate_left
      focus (intro wS hSw; (try replace hSw := HSF.out wS hSw); (try dsimp only at hSw); go_simp; (try with_reducible rfl))
      (try simp only [Act.put, List.setIfInBounds_toArray, List.set_cons_zero, List.set_cons_succ])
      refine wpAnyS_ready [13] (by kernel_rfl) (by simp) (AllReadyS.consL (by simp only [List.getElem?_toArray, List.getElem?_cons_succ, List.getElem?_cons_zero]; rfl) rfl (by kernel_rfl) (fun K hK => ?_) AllReadyS.nil)
      go_simp
      refine hK.out _ _ ?_
      clear hK K
      (try simp only [Act.put, List.setIfInBounds_toArray, List.set_cons_zero, List.set_cons_succ])
      refine wpAnyS_done (by kernel_rfl) ?_
      clear hHeld HSF BD
      have hq := hGw.out
      have hq2 := hgnG.out
      obtain ⟨l1, l2, l3, l4⟩ := LT.out
      have GK := hid (gr_tr (gr_set wL gG 0 (.int .i64 M0)) (gr_set _ gG 1 (.int .i64 M1)))
      have HK2 := hid (HD.out.kept GK.out (by omega) (by omega) (by omega) (fun k hk => by have := l4 k hk; omega))
      have XK2 := hid ((XD.out.set_ 0 (.int .i64 M0)).set_ 1 (.int .i64 M1))
      have NK := hid ((ND.out.far (p := ⟨gG, 0, none⟩) (Nat.ne_of_lt hq2) (.int .i64 M0)).far (p := ⟨gG, 1, none⟩) (Nat.ne_of_lt hq2) (.int .i64 M1))
      have GW := hid (gr_far (gr_below BWD.out (some mg)) GK.out hq)
      simp at XK2
      clear n3 c0 c1 fL HD XD ND BWD GK
      generalize (wL.setCell ⟨gG, 0, none⟩ (.int .i64 M0)).setCell ⟨gG, 1, none⟩ (.int .i64 M1) = wK at *
      go_upto_region 15 with fail
      have HSF := hid (fun (wq : World) (hq : Below wK.heap.size wK wq) => And.intro (HK2.out.below hq).at_.2.2.2 (And.intro ((NK.out.below hq NK.out.lt).cell 1) (And.intro ((XK2.out.below hq XK2.out.lt).cell 0) (And.intro ((XK2.out.below hq XK2.out.lt).cell 1) (And.intro ((XK2.out.below hq XK2.out.lt).cell 2) ((XK2.out.below hq XK2.out.lt).cell 3))))))
      have BD := hid ((Below.refl wK.heap.size wK).drew)
      refine wpIn_wide.1 (wpIn_region_S (n := 0) (fun wq => Below wK.heap.size wK wq) [7] (by kernel_rfl) BD.out (fun hHeld => ?_))
      generalize wK.drew = wL2 at *
      refine wpAnyS_pure 0 (v := ?_) (fun _ => trivial) (by simp only [List.getElem?_toArray, List.getElem?_cons_succ, List.getElem?_cons_zero]; rfl) (by kernel_rfl) (fun _ _ _ _ _ h => h) ⟨rfl, (by intro c h; cases h), ?_⟩ hHeld ?_
      rotate_left
      focus (intro wS hSw; (try replace hSw := HSF.out wS hSw); (try dsimp only at hSw); go_simp; (try with_reducible rfl))
      (try simp only [Act.put, List.setIfInBounds_toArray, List.set_cons_zero, List.set_cons_succ])
      refine wpAnyS_take 1 (v := ?_) (fun _ => trivial) (by simp only [List.getElem?_toArray, List.getElem?_cons_succ, List.getElem?_cons_zero]; rfl) (by kernel_rfl) (fun _ _ _ _ _ h => h) ⟨rfl, (by intro c h; cases h), ?_⟩ hHeld ?_
      rotate_left
      focus (intro wS hSw; (try replace hSw := HSF.out wS hSw); (try dsimp only at hSw); go_simp; (try with_reducible rfl))
      (try simp only [Act.put, List.setIfInBounds_toArray, List.set_cons_zero, List.set_cons_succ])
      refine wpAnyS_pure 2 (v := ?_) (fun _ => trivial) (by simp only [List.getElem?_toArray, List.getElem?_cons_succ, List.getElem?_cons_zero]; rfl) (by kernel_rfl) (fun _ _ _ _ _ h => h) ⟨rfl, (by intro c h; cases h), ?_⟩ hHeld ?_
      rotate_left
      focus (intro wS hSw; (try replace hSw := HSF.out wS hSw); (try dsimp only at hSw); go_simp; (try with_reducible rfl))
      (try simp only [Act.put, List.setIfInBounds_toArray, List.set_cons_zero, List.set_cons_succ])
      refine wpAnyS_take 3 (v := ?_) (fun _ => trivial) (by simp only [List.getElem?_toArray, List.getElem?_cons_succ, List.getElem?_cons_zero]; rfl) (by kernel_rfl) (fun _ _ _ _ _ h => h) ⟨rfl, (by intro c h; cases h), ?_⟩ hHeld ?_
      rotate_left
      focus (intro wS hSw; (try replace hSw := HSF.out wS hSw); (try dsimp only at hSw); go_simp; (try with_reducible rfl))
      (try simp only [Act.put, List.setIfInBounds_toArray, List.set_cons_zero, List.set_cons_succ])
      refine wpAnyS_pure 4 (v := ?_) (fun _ => trivial) (by simp only [List.getElem?_toArray, List.getElem?_cons_succ, List.getElem?_cons_zero]; rfl) (by kernel_rfl) (fun _ _ _ _ _ h => h) ⟨rfl, (by intro c h; cases h), ?_⟩ hHeld ?_
      rotate_left
      focus (intro wS hSw; (try replace hSw := HSF.out wS hSw); (try dsimp only at hSw); go_simp; (try with_reducible rfl))
      (try simp only [Act.put, List.setIfInBounds_toArray, List.set_cons_zero, List.set_cons_succ])
      refine wpAnyS_take 5 (v := ?_) (fun _ => trivial) (by simp only [List.getElem?_toArray, List.getElem?_cons_succ, List.getElem?_cons_zero]; rfl) (by kernel_rfl) (fun _ _ _ _ _ h => h) ⟨rfl, (by intro c h; cases h), ?_⟩ hHeld ?_
      rotate_left
      focus (intro wS hSw; (try replace hSw := HSF.out wS hSw); (try dsimp only at hSw); go_simp; (try with_reducible rfl))
      (try simp only [Act.put, List.setIfInBounds_toArray, List.set_cons_zero, List.set_cons_succ])
      refine wpAnyS_take 6 (v := ?_) (fun _ => trivial) (by simp only [List.getElem?_toArray, List.getElem?_cons_succ, List.getElem?_cons_zero]; rfl) (by kernel_rfl) (fun _ _ _ _ _ h => h) ⟨rfl, (by intro c h; cases h), ?_⟩ hHeld ?_
      rotate_left
      focus (intro wS hSw; (try replace hSw := HSF.out wS hSw); (try dsimp only at hSw); go_simp; (try with_reducible rfl))
      (try simp only [Act.put, List.setIfInBounds_toArray, List.set_cons_zero, List.set_cons_succ])
      obtain ⟨w2, r1, r2, r3⟩ := (HK2.out.below BD.out).putG hz hp.out hl.out gx
      have R2 := hid r2
      have G2 := hid (gr_tr (gr_tr GW.out (gr_below BD.out (some mg))) r3)
      rw [HGX.out] at r1
      clear r2 r3
      refine wpAnyS_ready [7] (by kernel_rfl) (by simp) (AllReadyS.consL (by simp only [List.getElem?_toArray, List.getElem?_cons_succ, List.getElem?_cons_zero]; rfl) rfl (by kernel_rfl) (fun K hK => ?_) AllReadyS.nil)
      go_simp
      refine hK.out _ _ ?_
      (try simp only [Act.put, List.setIfInBounds_toArray, List.set_cons_zero, List.set_cons_succ])
      refine wpAnyS_done (by kernel_rfl) ?_
      clear hK HSF hHeld r1 BD
      go_wp2_with fail
      go_ret
      exact ⟨rfl, R2.out, G2.out⟩
    · --11
      go_simp
      refine hK.out _ _ ?_
      clear hK K
      (try simp only [Act.put, List.setIfInBounds_toArray, List.set_cons_zero, List.set_cons_succ])
      have n3s := (ND.out.far (p := ⟨gG, 0, none⟩) hgnGn.out (.int .i64 M0)).cell 3
      simp at n3s
      refine wpAnyS_ready [8] (by kernel_rfl) (by simp) (AllReadyS.consL (by simp only [List.getElem?_toArray, List.getElem?_cons_succ, List.getElem?_cons_zero]; rfl) rfl (by kernel_rfl) (fun K hK => ?_) AllReadyS.nil)
      go_simp
      refine hK.out _ _ ?_
      clear hK K n3s
      (try simp only [Act.put, List.setIfInBounds_toArray, List.set_cons_zero, List.set_cons_succ])
      refine wpAnyS_pureL 9 (v := ?_) (fun _ => trivial) (by simp only [List.getElem?_toArray, List.getElem?_cons_succ, List.getElem?_cons_zero]; rfl) (by kernel_rfl) (by kernel_rfl) (fun _ _ _ _ _ h => h) ⟨rfl, (by intro c h; cases h), ?_⟩ ?_
      rotate_left
      focus (intro wS hSw; (try replace hSw := HSF.out wS hSw); (try dsimp only at hSw); go_simp; (try with_reducible rfl))
      (try simp only [Act.put, List.setIfInBounds_toArray, List.set_cons_zero, List.set_cons_succ])
      rw [← HM1.out]
      refine wpAnyS_pureL 12 (v := ?_) (fun _ => trivial) (by simp only [List.getElem?_toArray, List.getElem?_cons_succ, List.getElem?_cons_zero]; rfl) (by kernel_rfl) (by kernel_rfl) (fun _ _ _ _ _ h => h) ⟨rfl, (by intro c h; cases h), ?_⟩ ?_
      rotate_left
      focus (intro wS hSw; (try replace hSw := HSF.out wS hSw); (try dsimp only at hSw); go_simp; (try with_reducible rfl))
      (try simp only [Act.put, List.setIfInBounds_toArray, List.set_cons_zero, List.set_cons_succ])
      refine wpAnyS_ready [13] (by kernel_rfl) (by simp) (AllReadyS.consL (by simp only [List.getElem?_toArray, List.getElem?_cons_succ, List.getElem?_cons_zero]; rfl) rfl (by kernel_rfl) (fun K hK => ?_) AllReadyS.nil)
      go_simp
      refine hK.out _ _ ?_
      clear hK K
      (try simp only [Act.put, List.setIfInBounds_toArray, List.set_cons_zero, List.set_cons_succ])
      refine wpAnyS_done (by kernel_rfl) ?_
      clear hHeld HSF BD
      have hq := hGw.out
      have hq2 := hgnG.out
      obtain ⟨l1, l2, l3, l4⟩ := LT.out
      have GK := hid (gr_tr (gr_set wL gG 0 (.int .i64 M0)) (gr_set _ gG 1 (.int .i64 M1)))
      have HK2 := hid (HD.out.kept GK.out (by omega) (by omega) (by omega) (fun k hk => by have := l4 k hk; omega))
      have XK2 := hid ((XD.out.set_ 0 (.int .i64 M0)).set_ 1 (.int .i64 M1))
      have NK := hid ((ND.out.far (p := ⟨gG, 0, none⟩) (Nat.ne_of_lt hq2) (.int .i64 M0)).far (p := ⟨gG, 1, none⟩) (Nat.ne_of_lt hq2) (.int .i64 M1))
      have GW := hid (gr_far (gr_below BWD.out (some mg)) GK.out hq)
      simp at XK2
      clear n3 c0 c1 fL HD XD ND BWD GK
      generalize (wL.setCell ⟨gG, 0, none⟩ (.int .i64 M0)).setCell ⟨gG, 1, none⟩ (.int .i64 M1) = wK at *
      go_upto_region 15 with fail
      have HSF := hid (fun (wq : World) (hq : Below wK.heap.size wK wq) => And.intro (HK2.out.below hq).at_.2.2.2 (And.intro ((NK.out.below hq NK.out.lt).cell 1) (And.intro ((XK2.out.below hq XK2.out.lt).cell 0) (And.intro ((XK2.out.below hq XK2.out.lt).cell 1) (And.intro ((XK2.out.below hq XK2.out.lt).cell 2) ((XK2.out.below hq XK2.out.lt).cell 3))))))
      have BD := hid ((Below.refl wK.heap.size wK).drew)
      refine wpIn_wide.1 (wpIn_region_S (n := 0) (fun wq => Below wK.heap.size wK wq) [7] (by kernel_rfl) BD.out (fun hHeld => ?_))
      generalize wK.drew = wL2 at *
      refine wpAnyS_pure 0 (v := ?_) (fun _ => trivial) (by simp only [List.getElem?_toArray, List.getElem?_cons_succ, List.getElem?_cons_zero]; rfl) (by kernel_rfl) (fun _ _ _ _ _ h => h) ⟨rfl, (by intro c h; cases h), ?_⟩ hHeld ?_
      rotate_left
      focus (intro wS hSw; (try replace hSw := HSF.out wS hSw); (try dsimp only at hSw); go_simp; (try with_reducible rfl))
      (try simp only [Act.put, List.setIfInBounds_toArray, List.set_cons_zero, List.set_cons_succ])
      refine wpAnyS_take 1 (v := ?_) (fun _ => trivial) (by simp only [List.getElem?_toArray, List.getElem?_cons_succ, List.getElem?_cons_zero]; rfl) (by kernel_rfl) (fun _ _ _ _ _ h => h) ⟨rfl, (by intro c h; cases h), ?_⟩ hHeld ?_
      rotate_left
      focus (intro wS hSw; (try replace hSw := HSF.out wS hSw); (try dsimp only at hSw); go_simp; (try with_reducible rfl))
      (try simp only [Act.put, List.setIfInBounds_toArray, List.set_cons_zero, List.set_cons_succ])
      refine wpAnyS_pure 2 (v := ?_) (fun _ => trivial) (by simp only [List.getElem?_toArray, List.getElem?_cons_succ, List.getElem?_cons_zero]; rfl) (by kernel_rfl) (fun _ _ _ _ _ h => h) ⟨rfl, (by intro c h; cases h), ?_⟩ hHeld ?_
      rotate_left
      focus (intro wS hSw; (try replace hSw := HSF.out wS hSw); (try dsimp only at hSw); go_simp; (try with_reducible rfl))
      (try simp only [Act.put, List.setIfInBounds_toArray, List.set_cons_zero, List.set_cons_succ])
      refine wpAnyS_take 3 (v := ?_) (fun _ => trivial) (by simp only [List.getElem?_toArray, List.getElem?_cons_succ, List.getElem?_cons_zero]; rfl) (by kernel_rfl) (fun _ _ _ _ _ h => h) ⟨rfl, (by intro c h; cases h), ?_⟩ hHeld ?_
      rotate_left
      focus (intro wS hSw; (try replace hSw := HSF.out wS hSw); (try dsimp only at hSw); go_simp; (try with_reducible rfl))
      (try simp only [Act.put, List.setIfInBounds_toArray, List.set_cons_zero, List.set_cons_succ])
      refine wpAnyS_pure 4 (v := ?_) (fun _ => trivial) (by simp only [List.getElem?_toArray, List.getElem?_cons_succ, List.getElem?_cons_zero]; rfl) (by kernel_rfl) (fun _ _ _ _ _ h => h) ⟨rfl, (by intro c h; cases h), ?_⟩ hHeld ?_
      rotate_left
      focus (intro wS hSw; (try replace hSw := HSF.out wS hSw); (try dsimp only at hSw); go_simp; (try with_reducible rfl))
      (try simp only [Act.put, List.setIfInBounds_toArray, List.set_cons_zero, List.set_cons_succ])
      refine wpAnyS_take 5 (v := ?_) (fun _ => trivial) (by simp only [List.getElem?_toArray, List.getElem?_cons_succ, List.getElem?_cons_zero]; rfl) (by kernel_rfl) (fun _ _ _ _ _ h => h) ⟨rfl, (by intro c h; cases h), ?_⟩ hHeld ?_
      rotate_left
      focus (intro wS hSw; (try replace hSw := HSF.out wS hSw); (try dsimp only at hSw); go_simp; (try with_reducible rfl))
      (try simp only [Act.put, List.setIfInBounds_toArray, List.set_cons_zero, List.set_cons_succ])
      refine wpAnyS_take 6 (v := ?_) (fun _ => trivial) (by simp only [List.getElem?_toArray, List.getElem?_cons_succ, List.getElem?_cons_zero]; rfl) (by kernel_rfl) (fun _ _ _ _ _ h => h) ⟨rfl, (by intro c h; cases h), ?_⟩ hHeld ?_
      rotate_left
      focus (intro wS hSw; (try replace hSw := HSF.out wS hSw); (try dsimp only at hSw); go_simp; (try with_reducible rfl))
      (try simp only [Act.put, List.setIfInBounds_toArray, List.set_cons_zero, List.set_cons_succ])
      obtain ⟨w2, r1, r2, r3⟩ := (HK2.out.below BD.out).putG hz hp.out hl.out gx
      have R2 := hid r2
      have G2 := hid (gr_tr (gr_tr GW.out (gr_below BD.out (some mg))) r3)
      rw [HGX.out] at r1
      clear r2 r3
      refine wpAnyS_ready [7] (by kernel_rfl) (by simp) (AllReadyS.consL (by simp only [List.getElem?_toArray, List.getElem?_cons_succ, List.getElem?_cons_zero]; rfl) rfl (by kernel_rfl) (fun K hK => ?_) AllReadyS.nil)
      go_simp
      refine hK.out _ _ ?_
      (try simp only [Act.put, List.setIfInBounds_toArray, List.set_cons_zero, List.set_cons_succ])
      refine wpAnyS_done (by kernel_rfl) ?_
      clear hK HSF hHeld r1 BD
      go_wp2_with fail
      go_ret
      exact ⟨rfl, R2.out, G2.out⟩
  · --15
    go_simp
    have BE := hid (BD.out.alloc BD.out.size (Obj.cells #[.int .i64 0, .int .i64 0, .int .i64 0, .int .i64 0] 87))
    have XG0 := hid (Blk.new wd 87 #[.int .i64 0, .int .i64 0, .int .i64 0, .int .i64 0])
    refine hK.out _ _ BE.out ?_
    clear hK K
    (try simp only [Act.put, List.setIfInBounds_toArray, List.set_cons_zero, List.set_cons_succ])
    clear hHeld
    have hHeld := BE.out
    have hgg := hid BD.out.size
    generalize wd.heap.size = gG at *
    generalize (wd.alloc (Obj.cells #[.int .i64 0, .int .i64 0, .int .i64 0, .int .i64 0] 87)) = wE at *
    refine wpAnyS_ready [14] (by kernel_rfl) (by simp) (AllReadyS.cons (by simp only [List.getElem?_toArray, List.getElem?_cons_succ, List.getElem?_cons_zero]; rfl) rfl (fun K hK => ?_) AllReadyS.nil)
    go_simp
    have BG := hid (BE.out.alloc BE.out.size (Obj.cells #[.int .i64 0, .int .i64 0, .bool false] 85))
    have XE2 := hid (Blk.new wE 85 #[.int .i64 0, .int .i64 0, .bool false])
    have XG := hid (XG0.out.below ((Below.refl wE.heap.size wE).alloc (Nat.le_refl _) (Obj.cells #[.int .i64 0, .int .i64 0, .bool false] 85)) XG0.out.lt)
    have hne := hid (Nat.ne_of_lt XG0.out.lt).symm
    refine hK.out _ _ BG.out ?_
    clear hK K
    (try simp only [Act.put, List.setIfInBounds_toArray, List.set_cons_zero, List.set_cons_succ])
    clear hHeld XG0
    have hHeld := BG.out
    have hge := hid BE.out.size
    generalize wE.heap.size = gE at *
    generalize (wE.alloc (Obj.cells #[.int .i64 0, .int .i64 0, .bool false] 85)) = wG at *
    have c0 := XE2.out.cell 0; have c1 := XE2.out.cell 1; have c2 := XE2.out.cell 2; have fE := XE2.out.frozen
    simp at c0 c1 c2
    refine wpAnyS_ready [16] (by kernel_rfl) (by simp) (AllReadyS.cons (by simp only [List.getElem?_toArray, List.getElem?_cons_succ, List.getElem?_cons_zero]; rfl) rfl (fun K hK => ?_) AllReadyS.nil)
    go_simp
    have BH := hid (((BG.out.setCell (p := ⟨gE, 0, none⟩) hge.out (.int .i64 (d.hs z).1)).setCell (p := ⟨gE, 1, none⟩) hge.out (.int .i64 (d.hs z).2.1)).setCell (p := ⟨gE, 2, none⟩) hge.out (.bool (d.hs z).2.2))
    have XH := hid (((XE2.out.set_ 0 (.int .i64 (d.hs z).1)).set_ 1 (.int .i64 (d.hs z).2.1)).set_ 2 (.bool (d.hs z).2.2))
    have XG2 := hid (((XG.out.far (p := ⟨gE, 0, none⟩) (by simpa using hne.out.symm) (.int .i64 (d.hs z).1)).far (p := ⟨gE, 1, none⟩) (by simpa using hne.out.symm) (.int .i64 (d.hs z).2.1)).far (p := ⟨gE, 2, none⟩) (by simpa using hne.out.symm) (.bool (d.hs z).2.2))
    simp at XH
    refine hK.out _ _ BH.out ?_
    clear hK K
    (try simp only [Act.put, List.setIfInBounds_toArray, List.set_cons_zero, List.set_cons_succ])
    clear hHeld XE2 XG c0 c1 c2 fE
    have hHeld := BH.out
    generalize (((wG.setCell ⟨gE, 0, none⟩ (.int .i64 (d.hs z).1)).setCell ⟨gE, 1, none⟩ (.int .i64 (d.hs z).2.1)).setCell ⟨gE, 2, none⟩ (.bool (d.hs z).2.2)) = wH at *
    have c0 := XG2.out.cell 0; have c1 := XG2.out.cell 1; have c2 := XG2.out.cell 2; have c3 := XG2.out.cell 3; have fE := XG2.out.frozen
    simp at c0 c1 c2 c3
    refine wpAnyS_ready [17] (by kernel_rfl) (by simp) (AllReadyS.cons (by simp only [List.getElem?_toArray, List.getElem?_cons_succ, List.getElem?_cons_zero]; rfl) rfl (fun K hK => ?_) AllReadyS.nil)
    go_simp
    have BJ := hid ((((BH.out.setCell (p := ⟨gG, 0, none⟩) hgg.out (.int .i64 (d.gs z).1)).setCell (p := ⟨gG, 1, none⟩) hgg.out (.int .i64 (d.gs z).2.1)).setCell (p := ⟨gG, 2, none⟩) hgg.out (.int .i64 (d.gs z).2.2.1)).setCell (p := ⟨gG, 3, none⟩) hgg.out (.int .i64 (d.gs z).2.2.2))
    have XJ := hid ((((XG2.out.set_ 0 (.int .i64 (d.gs z).1)).set_ 1 (.int .i64 (d.gs z).2.1)).set_ 2 (.int .i64 (d.gs z).2.2.1)).set_ 3 (.int .i64 (d.gs z).2.2.2))
    have XK := hid ((((XH.out.far (p := ⟨gG, 0, none⟩) hne.out (.int .i64 (d.gs z).1)).far (p := ⟨gG, 1, none⟩) hne.out (.int .i64 (d.gs z).2.1)).far (p := ⟨gG, 2, none⟩) hne.out (.int .i64 (d.gs z).2.2.1)).far (p := ⟨gG, 3, none⟩) hne.out (.int .i64 (d.gs z).2.2.2))
    simp at XJ
    refine hK.out _ _ BJ.out ?_
    clear hK K
    (try simp only [Act.put, List.setIfInBounds_toArray, List.set_cons_zero, List.set_cons_succ])
    clear hHeld XG2 XH c0 c1 c2 c3 fE
    generalize ((((wH.setCell ⟨gG, 0, none⟩ (.int .i64 (d.gs z).1)).setCell ⟨gG, 1, none⟩ (.int .i64 (d.gs z).2.1)).setCell ⟨gG, 2, none⟩ (.int .i64 (d.gs z).2.2.1)).setCell ⟨gG, 3, none⟩ (.int .i64 (d.gs z).2.2.2)) = wJ at *
    refine wpAnyS_done (by kernel_rfl) ?_
    have NJ := hid (Na.out.below BJ.out Na.out.lt)
    have HJ := hid (HD.out.below BJ.out)
    have BW := hid (Ba.out.trans (BJ.out.mono Ba.out.size))
    have hgnE := hid (show gn < gE from Nat.lt_of_lt_of_le Na.out.lt hge.out)
    have hEw := hid (show w.heap.size ≤ gE from Nat.le_trans Ba.out.size hge.out)
    have hGw := hid (show w.heap.size ≤ gG from Nat.le_trans Ba.out.size hgg.out)
    have hgnG := hid (show gn < gG from Nat.lt_of_lt_of_le Na.out.lt hgg.out)
    clear HSF BJ BH BG BE BD XK hgg hge hne Na HD Ba
    have x0 := NJ.out.cell 0; have x1 := NJ.out.cell 1; have x2 := NJ.out.cell 2; have x3 := NJ.out.cell 3
    have e0 := XJ.out.cell 0; have e1 := XJ.out.cell 1; have e2 := XJ.out.cell 2; have e3 := XJ.out.cell 3; have fE := XJ.out.frozen
    simp at x0 x1 x2 x3 e0 e1 e2 e3
    go_upto_region 14 with fail
    have HSF := hid (fun (wq : World) (hq : Below wJ.heap.size wJ wq) => And.intro ((NJ.out.below hq NJ.out.lt).cell 2) (And.intro ((NJ.out.below hq NJ.out.lt).cell 3) (And.intro ((XJ.out.below hq XJ.out.lt).cell 0) ((XJ.out.below hq XJ.out.lt).cell 1))))
    have BD := hid ((Below.refl wJ.heap.size wJ).drew)
    refine wpIn_wide.1 (wpIn_region_S (n := 0) (fun wq => Below wJ.heap.size wJ wq) [11, 13] (by kernel_rfl) BD.out (fun hHeld => ?_))
    have XD := hid XJ.out.drew
    have ND := hid NJ.out.drew
    have HD := hid (HJ.out.below BD.out)
    have BWD := hid (BW.out.trans (BD.out.mono BW.out.size))
    have hgnGn := hid (Nat.ne_of_lt hgnG.out)
    clear x0 x1 x2 x3 e0 e1 e2 e3 fE XJ NJ HJ BW
    generalize wJ.drew = wL at *
    have fL := XD.out.frozen
    have c0 := XD.out.cell 0; have c1 := XD.out.cell 1; have n3 := ND.out.cell 3
    simp at c0 c1 n3
    refine wpAnyS_pure 0 (v := ?_) (fun _ => trivial) (by simp only [List.getElem?_toArray, List.getElem?_cons_succ, List.getElem?_cons_zero]; rfl) (by kernel_rfl) (fun _ _ _ _ _ h => h) ⟨rfl, (by intro c h; cases h), ?_⟩ hHeld ?_
    rotate_left
    focus (intro wS hSw; (try replace hSw := HSF.out wS hSw); (try dsimp only at hSw); go_simp; (try with_reducible rfl))
    (try simp only [Act.put, List.setIfInBounds_toArray, List.set_cons_zero, List.set_cons_succ])
    refine wpAnyS_take 1 (v := ?_) (fun _ => trivial) (by simp only [List.getElem?_toArray, List.getElem?_cons_succ, List.getElem?_cons_zero]; rfl) (by kernel_rfl) (fun _ _ _ _ _ h => h) ⟨rfl, (by intro c h; cases h), ?_⟩ hHeld ?_
    rotate_left
    focus (intro wS hSw; (try replace hSw := HSF.out wS hSw); (try dsimp only at hSw); go_simp; (try with_reducible rfl))
    (try simp only [Act.put, List.setIfInBounds_toArray, List.set_cons_zero, List.set_cons_succ])
    refine wpAnyS_pure 2 (v := ?_) (fun _ => trivial) (by simp only [List.getElem?_toArray, List.getElem?_cons_succ, List.getElem?_cons_zero]; rfl) (by kernel_rfl) (fun _ _ _ _ _ h => h) ⟨rfl, (by intro c h; cases h), ?_⟩ hHeld ?_
    rotate_left
    focus (intro wS hSw; (try replace hSw := HSF.out wS hSw); (try dsimp only at hSw); go_simp; (try with_reducible rfl))
    (try simp only [Act.put, List.setIfInBounds_toArray, List.set_cons_zero, List.set_cons_succ])
    refine wpAnyS_take 3 (v := ?_) (fun _ => trivial) (by simp only [List.getElem?_toArray, List.getElem?_cons_succ, List.getElem?_cons_zero]; rfl) (by kernel_rfl) (fun _ _ _ _ _ h => h) ⟨rfl, (by intro c h; cases h), ?_⟩ hHeld ?_
    rotate_left
    focus (intro wS hSw; (try replace hSw := HSF.out wS hSw); (try dsimp only at hSw); go_simp; (try with_reducible rfl))
    (try simp only [Act.put, List.setIfInBounds_toArray, List.set_cons_zero, List.set_cons_succ])
    refine wpAnyS_pure 4 (v := ?_) (fun _ => trivial) (by simp only [List.getElem?_toArray, List.getElem?_cons_succ, List.getElem?_cons_zero]; rfl) (by kernel_rfl) (fun _ _ _ _ _ h => h) ⟨rfl, (by intro c h; cases h), ?_⟩ hHeld ?_
    rotate_left
    focus (intro wS hSw; (try replace hSw := HSF.out wS hSw); (try dsimp only at hSw); go_simp; (try with_reducible rfl))
    (try simp only [Act.put, List.setIfInBounds_toArray, List.set_cons_zero, List.set_cons_succ])
    refine wpAnyS_pure 5 (v := ?_) (fun _ => trivial) (by simp only [List.getElem?_toArray, List.getElem?_cons_succ, List.getElem?_cons_zero]; rfl) (by kernel_rfl) (fun _ _ _ _ _ h => h) ⟨rfl, (by intro c h; cases h), ?_⟩ hHeld ?_
    rotate_left
    focus (intro wS hSw; (try replace hSw := HSF.out wS hSw); (try dsimp only at hSw); go_simp; (try with_reducible rfl))
    (try simp only [Act.put, List.setIfInBounds_toArray, List.set_cons_zero, List.set_cons_succ])
    refine wpAnyS_take 6 (v := ?_) (fun _ => trivial) (by simp only [List.getElem?_toArray, List.getElem?_cons_succ, List.getElem?_cons_zero]; rfl) (by kernel_rfl) (fun _ _ _ _ _ h => h) ⟨rfl, (by intro c h; cases h), ?_⟩ hHeld ?_
    rotate_left
    focus (intro wS hSw; (try replace hSw := HSF.out wS hSw); (try dsimp only at hSw); go_simp; (try with_reducible rfl))
    (try simp only [Act.put, List.setIfInBounds_toArray, List.set_cons_zero, List.set_cons_succ])
    refine wpAnyS_pure 7 (v := ?_) (fun _ => trivial) (by simp only [List.getElem?_toArray, List.getElem?_cons_succ, List.getElem?_cons_zero]; rfl) (by kernel_rfl) (fun _ _ _ _ _ h => h) ⟨rfl, (by intro c h; cases h), ?_⟩ hHeld ?_
    rotate_left
    focus (intro wS hSw; (try replace hSw := HSF.out wS hSw); (try dsimp only at hSw); go_simp; (try with_reducible rfl))
    (try simp only [Act.put, List.setIfInBounds_toArray, List.set_cons_zero, List.set_cons_succ])
    refine wpAnyS_pure 10 (v := ?_) (fun _ => trivial) (by simp only [List.getElem?_toArray, List.getElem?_cons_succ, List.getElem?_cons_zero]; rfl) (by kernel_rfl) (fun _ _ _ _ _ h => h) ⟨rfl, (by intro c h; cases h), ?_⟩ hHeld ?_
    rotate_left
    focus (intro wS hSw; (try replace hSw := HSF.out wS hSw); (try dsimp only at hSw); go_simp; (try with_reducible rfl))
    (try simp only [Act.put, List.setIfInBounds_toArray, List.set_cons_zero, List.set_cons_succ])
    rw [← HM0.out]
    refine wpAnyS_ready [8, 11] (by kernel_rfl) (by simp) (AllReadyS.cons (by simp only [List.getElem?_toArray, List.getElem?_cons_succ, List.getElem?_cons_zero]; rfl) rfl (fun K hK => ?_) (AllReadyS.consL (by simp only [List.getElem?_toArray, List.getElem?_cons_succ, List.getElem?_cons_zero]; rfl) rfl (by kernel_rfl) (fun K hK => ?_) AllReadyS.nil))
    · --8
      go_simp
      refine hK.out _ _ hHeld ?_
      clear hK K
      (try simp only [Act.put, List.setIfInBounds_toArray, List.set_cons_zero, List.set_cons_succ])
      refine wpAnyS_pure 9 (v := ?_) (fun _ => trivial) (by simp only [List.getElem?_toArray, List.getElem?_cons_succ, List.getElem?_cons_zero]; rfl) (by kernel_rfl) (fun _ _ _ _ _ h => h) ⟨rfl, (by intro c h; cases h), ?_⟩ hHeld ?_
      rotate_left
      focus (intro wS hSw; (try replace hSw := HSF.out wS hSw); (try dsimp only at hSw); go_simp; (try with_reducible rfl))
      (try simp only [Act.put, List.setIfInBounds_toArray, List.set_cons_zero, List.set_cons_succ])
      rw [← HM1.out]
      refine wpAnyS_ready [11] (by kernel_rfl) (by simp) (AllReadyS.consL (by simp only [List.getElem?_toArray, List.getElem?_cons_succ, List.getElem?_cons_zero]; rfl) rfl (by kernel_rfl) (fun K hK => ?_) AllReadyS.nil)
      go_simp
      refine hK.out _ _ ?_
      clear hK K
      (try simp only [Act.put, List.setIfInBounds_toArray, List.set_cons_zero, List.set_cons_succ])
      refine wpAnyS_pureL 12 (v := ?_) (fun _ => trivial) (by simp only [List.getElem?_toArray, List.getElem?_cons_succ, List.getElem?_cons_zero]; rfl) (by kernel_rfl) (by kernel_rfl) (fun _ _ _ _ _ h => h) ⟨rfl, (by intro c h; cases h), ?_⟩ ?_
      rotate_left
      focus (intro wS hSw; (try replace hSw := HSF.out wS hSw); (try dsimp only at hSw); go_simp; (try with_reducible rfl))
      (try simp only [Act.put, List.setIfInBounds_toArray, List.set_cons_zero, List.set_cons_succ])
      refine wpAnyS_ready [13] (by kernel_rfl) (by simp) (AllReadyS.consL (by simp only [List.getElem?_toArray, List.getElem?_cons_succ, List.getElem?_cons_zero]; rfl) rfl (by kernel_rfl) (fun K hK => ?_) AllReadyS.nil)
      go_simp
      refine hK.out _ _ ?_
      clear hK K
      (try simp only [Act.put, List.setIfInBounds_toArray, List.set_cons_zero, List.set_cons_succ])
      refine wpAnyS_done (by kernel_rfl) ?_
      clear hHeld HSF BD
      have hq := hGw.out
      have hq2 := hgnG.out
      obtain ⟨l1, l2, l3, l4⟩ := LT.out
      have GK := hid (gr_tr (gr_set wL gG 0 (.int .i64 M0)) (gr_set _ gG 1 (.int .i64 M1)))
      have HK2 := hid (HD.out.kept GK.out (by omega) (by omega) (by omega) (fun k hk => by have := l4 k hk; omega))
      have XK2 := hid ((XD.out.set_ 0 (.int .i64 M0)).set_ 1 (.int .i64 M1))
      have NK := hid ((ND.out.far (p := ⟨gG, 0, none⟩) (Nat.ne_of_lt hq2) (.int .i64 M0)).far (p := ⟨gG, 1, none⟩) (Nat.ne_of_lt hq2) (.int .i64 M1))
      have GW := hid (gr_far (gr_below BWD.out (some mg)) GK.out hq)
      simp at XK2
      clear n3 c0 c1 fL HD XD ND BWD GK
      generalize (wL.setCell ⟨gG, 0, none⟩ (.int .i64 M0)).setCell ⟨gG, 1, none⟩ (.int .i64 M1) = wK at *
      go_upto_region 15 with fail
      have HSF := hid (fun (wq : World) (hq : Below wK.heap.size wK wq) => And.intro (HK2.out.below hq).at_.2.2.2 (And.intro ((NK.out.below hq NK.out.lt).cell 1) (And.intro ((XK2.out.below hq XK2.out.lt).cell 0) (And.intro ((XK2.out.below hq XK2.out.lt).cell 1) (And.intro ((XK2.out.below hq XK2.out.lt).cell 2) ((XK2.out.below hq XK2.out.lt).cell 3))))))
      have BD := hid ((Below.refl wK.heap.size wK).drew)
      refine wpIn_wide.1 (wpIn_region_S (n := 0) (fun wq => Below wK.heap.size wK wq) [7] (by kernel_rfl) BD.out (fun hHeld => ?_))
      generalize wK.drew = wL2 at *
      refine wpAnyS_pure 0 (v := ?_) (fun _ => trivial) (by simp only [List.getElem?_toArray, List.getElem?_cons_succ, List.getElem?_cons_zero]; rfl) (by kernel_rfl) (fun _ _ _ _ _ h => h) ⟨rfl, (by intro c h; cases h), ?_⟩ hHeld ?_
      rotate_left
      focus (intro wS hSw; (try replace hSw := HSF.out wS hSw); (try dsimp only at hSw); go_simp; (try with_reducible rfl))
      (try simp only [Act.put, List.setIfInBounds_toArray, List.set_cons_zero, List.set_cons_succ])
      refine wpAnyS_take 1 (v := ?_) (fun _ => trivial) (by simp only [List.getElem?_toArray, List.getElem?_cons_succ, List.getElem?_cons_zero]; rfl) (by kernel_rfl) (fun _ _ _ _ _ h => h) ⟨rfl, (by intro c h; cases h), ?_⟩ hHeld ?_
      rotate_left
      focus (intro wS hSw; (try replace hSw := HSF.out wS hSw); (try dsimp only at hSw); go_simp; (try with_reducible rfl))
      (try simp only [Act.put, List.setIfInBounds_toArray, List.set_cons_zero, List.set_cons_succ])
      refine wpAnyS_pure 2 (v := ?_) (fun _ => trivial) (by simp only [List.getElem?_toArray, List.getElem?_cons_succ, List.getElem?_cons_zero]; rfl) (by kernel_rfl) (fun _ _ _ _ _ h => h) ⟨rfl, (by intro c h; cases h), ?_⟩ hHeld ?_
      rotate_left
      focus (intro wS hSw; (try replace hSw := HSF.out wS hSw); (try dsimp only at hSw); go_simp; (try with_reducible rfl))
      (try simp only [Act.put, List.setIfInBounds_toArray, List.set_cons_zero, List.set_cons_succ])
      refine wpAnyS_take 3 (v := ?_) (fun _ => trivial) (by simp only [List.getElem?_toArray, List.getElem?_cons_succ, List.getElem?_cons_zero]; rfl) (by kernel_rfl) (fun _ _ _ _ _ h => h) ⟨rfl, (by intro c h; cases h), ?_⟩ hHeld ?_
      rotate_left
      focus (intro wS hSw; (try replace hSw := HSF.out wS hSw); (try dsimp only at hSw); go_simp; (try with_reducible rfl))
      (try simp only [Act.put, List.setIfInBounds_toArray, List.set_cons_zero, List.set_cons_succ])
      refine wpAnyS_pure 4 (v := ?_) (fun _ => trivial) (by simp only [List.getElem?_toArray, List.getElem?_cons_succ, List.getElem?_cons_zero]; rfl) (by kernel_rfl) (fun _ _ _ _ _ h => h) ⟨rfl, (by intro c h; cases h), ?_⟩ hHeld ?_
      rotate_left
      focus (intro wS hSw; (try replace hSw := HSF.out wS hSw); (try dsimp only at hSw); go_simp; (try with_reducible rfl))
      (try simp only [Act.put, List.setIfInBounds_toArray, List.set_cons_zero, List.set_cons_succ])
      refine wpAnyS_take 5 (v := ?_) (fun _ => trivial) (by simp only [List.getElem?_toArray, List.getElem?_cons_succ, List.getElem?_cons_zero]; rfl) (by kernel_rfl) (fun _ _ _ _ _ h => h) ⟨rfl, (by intro c h; cases h), ?_⟩ hHeld ?_
      rotate_left
      focus (intro wS hSw; (try replace hSw := HSF.out wS hSw); (try dsimp only at hSw); go_simp; (try with_reducible rfl))
      (try simp only [Act.put, List.setIfInBounds_toArray, List.set_cons_zero, List.set_cons_succ])
      refine wpAnyS_take 6 (v := ?_) (fun _ => trivial) (by simp only [List.getElem?_toArray, List.getElem?_cons_succ, List.getElem?_cons_zero]; rfl) (by kernel_rfl) (fun _ _ _ _ _ h => h) ⟨rfl, (by intro c h; cases h), ?_⟩ hHeld ?_
      rotate_left
      focus (intro wS hSw; (try replace hSw := HSF.out wS hSw); (try dsimp only at hSw); go_simp; (try with_reducible rfl))
      (try simp only [Act.put, List.setIfInBounds_toArray, List.set_cons_zero, List.set_cons_succ])
      obtain ⟨w2, r1, r2, r3⟩ := (HK2.out.below BD.out).putG hz hp.out hl.out gx
      have R2 := hid r2
      have G2 := hid (gr_tr (gr_tr GW.out (gr_below BD.out (some mg))) r3)
      rw [HGX.out] at r1
      clear r2 r3
      refine wpAnyS_ready [7] (by kernel_rfl) (by simp) (AllReadyS.consL (by simp only [List.getElem?_toArray, List.getElem?_cons_succ, List.getElem?_cons_zero]; rfl) rfl (by kernel_rfl) (fun K hK => ?_) AllReadyS.nil)
      go_simp
      refine hK.out _ _ ?_
      (try simp only [Act.put, List.setIfInBounds_toArray, List.set_cons_zero, List.set_cons_succ])
      refine wpAnyS_done (by kernel_rfl) ?_
      clear hK HSF hHeld r1 BD
      go_wp2_with fail
      go_ret
      exact ⟨rfl, R2.out, G2.out⟩
    · --11
      go_simp
      refine hK.out _ _ ?_
      clear hK K
      (try simp only [Act.put, List.setIfInBounds_toArray, List.set_cons_zero, List.set_cons_succ])
      have n3s := (ND.out.far (p := ⟨gG, 0, none⟩) hgnGn.out (.int .i64 M0)).cell 3
      simp at n3s
      refine wpAnyS_ready [8] (by kernel_rfl) (by simp) (AllReadyS.consL (by simp only [List.getElem?_toArray, List.getElem?_cons_succ, List.getElem?_cons_zero]; rfl) rfl (by kernel_rfl) (fun K hK => ?_) AllReadyS.nil)
      go_simp
      refine hK.out _ _ ?_
      clear hK K n3s
      (try simp only [Act.put, List.setIfInBounds_toArray, List.set_cons_zero, List.set_cons_succ])
      refine wpAnyS_pureL 9 (v := ?_) (fun _ => trivial) (by simp only [List.getElem?_toArray, List.getElem?_cons_succ, List.getElem?_cons_zero]; rfl) (by kernel_rfl) (by kernel_rfl) (fun _ _ _ _ _ h => h) ⟨rfl, (by intro c h; cases h), ?_⟩ ?_
      rotate_left
      focus (intro wS hSw; (try replace hSw := HSF.out wS hSw); (try dsimp only at hSw); go_simp; (try with_reducible rfl))
      (try simp only [Act.put, List.setIfInBounds_toArray, List.set_cons_zero, List.set_cons_succ])
      rw [← HM1.out]
      refine wpAnyS_pureL 12 (v := ?_) (fun _ => trivial) (by simp only [List.getElem?_toArray, List.getElem?_cons_succ, List.getElem?_cons_zero]; rfl) (by kernel_rfl) (by kernel_rfl) (fun _ _ _ _ _ h => h) ⟨rfl, (by intro c h; cases h), ?_⟩ ?_
      rotate_left
      focus (intro wS hSw; (try replace hSw := HSF.out wS hSw); (try dsimp only at hSw); go_simp; (try with_reducible rfl))
      (try simp only [Act.put, List.setIfInBounds_toArray, List.set_cons_zero, List.set_cons_succ])
      refine wpAnyS_ready [13] (by kernel_rfl) (by simp) (AllReadyS.consL (by simp only [List.getElem?_toArray, List.getElem?_cons_succ, List.getElem?_cons_zero]; rfl) rfl (by kernel_rfl) (fun K hK => ?_) AllReadyS.nil)
      go_simp
      refine hK.out _ _ ?_
      clear hK K
      (try simp only [Act.put, List.setIfInBounds_toArray, List.set_cons_zero, List.set_cons_succ])
      refine wpAnyS_done (by kernel_rfl) ?_
      clear hHeld HSF BD
      have hq := hGw.out
      have hq2 := hgnG.out
      obtain ⟨l1, l2, l3, l4⟩ := LT.out
      have GK := hid (gr_tr (gr_set wL gG 0 (.int .i64 M0)) (gr_set _ gG 1 (.int .i64 M1)))
      have HK2 := hid (HD.out.kept GK.out (by omega) (by omega) (by omega) (fun k hk => by have := l4 k hk; omega))
      have XK2 := hid ((XD.out.set_ 0 (.int .i64 M0)).set_ 1 (.int .i64 M1))
      have NK := hid ((ND.out.far (p := ⟨gG, 0, none⟩) (Nat.ne_of_lt hq2) (.int .i64 M0)).far (p := ⟨gG, 1, none⟩) (Nat.ne_of_lt hq2) (.int .i64 M1))
      have GW := hid (gr_far (gr_below BWD.out (some mg)) GK.out hq)
      simp at XK2
      clear n3 c0 c1 fL HD XD ND BWD GK
      generalize (wL.setCell ⟨gG, 0, none⟩ (.int .i64 M0)).setCell ⟨gG, 1, none⟩ (.int .i64 M1) = wK at *
      go_upto_region 15 with fail
      have HSF := hid (fun (wq : World) (hq : Below wK.heap.size wK wq) => And.intro (HK2.out.below hq).at_.2.2.2 (And.intro ((NK.out.below hq NK.out.lt).cell 1) (And.intro ((XK2.out.below hq XK2.out.lt).cell 0) (And.intro ((XK2.out.below hq XK2.out.lt).cell 1) (And.intro ((XK2.out.below hq XK2.out.lt).cell 2) ((XK2.out.below hq XK2.out.lt).cell 3))))))
      have BD := hid ((Below.refl wK.heap.size wK).drew)
      refine wpIn_wide.1 (wpIn_region_S (n := 0) (fun wq => Below wK.heap.size wK wq) [7] (by kernel_rfl) BD.out (fun hHeld => ?_))
      generalize wK.drew = wL2 at *
      refine wpAnyS_pure 0 (v := ?_) (fun _ => trivial) (by simp only [List.getElem?_toArray, List.getElem?_cons_succ, List.getElem?_cons_zero]; rfl) (by kernel_rfl) (fun _ _ _ _ _ h => h) ⟨rfl, (by intro c h; cases h), ?_⟩ hHeld ?_
      rotate_left
      focus (intro wS hSw; (try replace hSw := HSF.out wS hSw); (try dsimp only at hSw); go_simp; (try with_reducible rfl))
      (try simp only [Act.put, List.setIfInBounds_toArray, List.set_cons_zero, List.set_cons_succ])
      refine wpAnyS_take 1 (v := ?_) (fun _ => trivial) (by simp only [List.getElem?_toArray, List.getElem?_cons_succ, List.getElem?_cons_zero]; rfl) (by kernel_rfl) (fun _ _ _ _ _ h => h) ⟨rfl, (by intro c h; cases h), ?_⟩ hHeld ?_
      rotate_left
      focus (intro wS hSw; (try replace hSw := HSF.out wS hSw); (try dsimp only at hSw); go_simp; (try with_reducible rfl))
      (try simp only [Act.put, List.setIfInBounds_toArray, List.set_cons_zero, List.set_cons_succ])
      refine wpAnyS_pure 2 (v := ?_) (fun _ => trivial) (by simp only [List.getElem?_toArray, List.getElem?_cons_succ, List.getElem?_cons_zero]; rfl) (by kernel_rfl) (fun _ _ _ _ _ h => h) ⟨rfl, (by intro c h; cases h), ?_⟩ hHeld ?_
      rotate_left
      focus (intro wS hSw; (try replace hSw := HSF.out wS hSw); (try dsimp only at hSw); go_simp; (try with_reducible rfl))
      (try simp only [Act.put, List.setIfInBounds_toArray, List.set_cons_zero, List.set_cons_succ])
      refine wpAnyS_take 3 (v := ?_) (fun _ => trivial) (by simp only [List.getElem?_toArray, List.getElem?_cons_succ, List.getElem?_cons_zero]; rfl) (by kernel_rfl) (fun _ _ _ _ _ h => h) ⟨rfl, (by intro c h; cases h), ?_⟩ hHeld ?_
      rotate_left
      focus (intro wS hSw; (try replace hSw := HSF.out wS hSw); (try dsimp only at hSw); go_simp; (try with_reducible rfl))
      (try simp only [Act.put, List.setIfInBounds_toArray, List.set_cons_zero, List.set_cons_succ])
      refine wpAnyS_pure 4 (v := ?_) (fun _ => trivial) (by simp only [List.getElem?_toArray, List.getElem?_cons_succ, List.getElem?_cons_zero]; rfl) (by kernel_rfl) (fun _ _ _ _ _ h => h) ⟨rfl, (by intro c h; cases h), ?_⟩ hHeld ?_
      rotate_left
      focus (intro wS hSw; (try replace hSw := HSF.out wS hSw); (try dsimp only at hSw); go_simp; (try with_reducible rfl))
      (try simp only [Act.put, List.setIfInBounds_toArray, List.set_cons_zero, List.set_cons_succ])
      refine wpAnyS_take 5 (v := ?_) (fun _ => trivial) (by simp only [List.getElem?_toArray, List.getElem?_cons_succ, List.getElem?_cons_zero]; rfl) (by kernel_rfl) (fun _ _ _ _ _ h => h) ⟨rfl, (by intro c h; cases h), ?_⟩ hHeld ?_
      rotate_left
      focus (intro wS hSw; (try replace hSw := HSF.out wS hSw); (try dsimp only at hSw); go_simp; (try with_reducible rfl))
      (try simp only [Act.put, List.setIfInBounds_toArray, List.set_cons_zero, List.set_cons_succ])
      refine wpAnyS_take 6 (v := ?_) (fun _ => trivial) (by simp only [List.getElem?_toArray, List.getElem?_cons_succ, List.getElem?_cons_zero]; rfl) (by kernel_rfl) (fun _ _ _ _ _ h => h) ⟨rfl, (by intro c h; cases h), ?_⟩ hHeld ?_
      rotate_left
      focus (intro wS hSw; (try replace hSw := HSF.out wS hSw); (try dsimp only at hSw); go_simp; (try with_reducible rfl))
      (try simp only [Act.put, List.setIfInBounds_toArray, List.set_cons_zero, List.set_cons_succ])
      obtain ⟨w2, r1, r2, r3⟩ := (HK2.out.below BD.out).putG hz hp.out hl.out gx
      have R2 := hid r2
      have G2 := hid (gr_tr (gr_tr GW.out (gr_below BD.out (some mg))) r3)
      rw [HGX.out] at r1
      clear r2 r3
      refine wpAnyS_ready [7] (by kernel_rfl) (by simp) (AllReadyS.consL (by simp only [List.getElem?_toArray, List.getElem?_cons_succ, List.getElem?_cons_zero]; rfl) rfl (by kernel_rfl) (fun K hK => ?_) AllReadyS.nil)
      go_simp
      refine hK.out _ _ ?_
      (try simp only [Act.put, List.setIfInBounds_toArray, List.set_cons_zero, List.set_cons_succ])
      refine wpAnyS_done (by kernel_rfl) ?_
      clear hK HSF hHeld r1 BD
      go_wp2_with fail
      go_ret
      exact ⟨rfl, R2.out, G2.out⟩
end
end Go.Proofs.YtappgjdnfllblaaDoor
namespace Go.Proofs.YtappgjdnfllblaaDoor
open Go.RowKit Go.IntWalk Go.Maps Go.WideMaps
/-- A new desk. -/
def newD (me : Int) (home : List Int) : LDk := ⟨me, home, fun _ => (0, 0, false), fun _ => (0, 0, 0, 0)⟩
/-- What New makes. -/
def newDk (me : Int) (home : List Int) : Option LDk := if (me = 0 ∨ me = 1) ∧ home.length ≤ 64 ∧ ∀ x ∈ home, x = 0 ∨ x = 1 then some (newD me home) else none
theorem newD_ok {me : Int} {home : List Int} (h1 : me = 0 ∨ me = 1) (h2 : home.length ≤ 64) (h3 : ∀ x ∈ home, x = 0 ∨ x = 1) : (newD me home).Ok :=
  ⟨h1, h3, h2, fun _ _ => rfl, fun _ _ => rfl, fun _ => by simp [HoB, newD], fun _ => by simp [GuB, newD]⟩
def NewL (w : World) (r : Option LDk) (e : Ending) (w' : World) : Prop :=
  match r with
  | some d => ∃ b v mh mg, e = .returned (.pointer (some ⟨b, 0, none⟩)) ∧ Ld w' w.heap.size b v mh mg d ∧ Below w.heap.size w w'
  | none => e = .returned (.pointer none) ∧ Below w.heap.size w w'
/-- A desk whose maps are filled for the zones below k. -/
structure Lp (w : World) (base b : Nat) (v : Value) (mh mg : Nat) (d : LDk) (k : Nat) : Prop where
  bk : Blk w b 83 #[.int .i64 d.me, v, .map (some mh), .map (some mg)]
  r : OwnI w base v d.home
  h : hostK.Own w mh (fun _ => (0, 0, false)) (fun z => decide (z < k) && d.hp z) k
  g : guestK.Own w mg (fun _ => (0, 0, 0, 0)) (fun z => decide (z < k) && d.gp z) k
  ha : base ≤ mh
  ga : base ≤ mg
  ba : base ≤ b
  ne : mh ≠ mg
section
variable {w w' : World} {base b : Nat} {v : Value} {mh mg : Nat} {d : LDk} {k : Nat}
theorem Lp.at_ (h : Lp w base b v mh mg d k) : w.cell? ⟨b, 0, none⟩ = some (.int .i64 d.me) ∧ w.cell? ⟨b, 1, none⟩ = some v ∧ w.cell? ⟨b, 2, none⟩ = some (.map (some mh)) ∧ w.cell? ⟨b, 3, none⟩ = some (.map (some mg)) :=
  ⟨h.bk.cell 0, h.bk.cell 1, h.bk.cell 2, h.bk.cell 3⟩
theorem MK.Own.ext {T : Type} {M : MK T} {w : World} {q : Nat} {f f' : Int → T} {p p' : Int → Bool} {m m' : Nat} (h : M.Own w q f p m) (hf : ∀ z, f z = f' z) (hp : ∀ z, p z = p' z) (hm : m ≤ m') : M.Own w q f' p' m' := by
  obtain ⟨D, n, h1, h2, h3, h4⟩ := h
  exact ⟨D, n, h1, by omega, fun z => by rw [h3 z, hf z], fun z => by rw [h4 z, hp z]⟩
theorem hp_at (hk : k < d.home.length) : d.hp (k : Int) = decide (d.home[k] = d.me) := by
  simp [LDk.hp, List.getD, List.getElem?_eq_getElem hk, hk]
theorem gp_at (hk : k < d.home.length) : d.gp (k : Int) = !decide (d.home[k] = d.me) := by
  simp only [LDk.gp]
  rw [← decide_not]
  congr 1
  simp [List.getD, List.getElem?_eq_getElem hk, hk]
theorem lt_succ_p (p : Int → Bool) (z : Int) (h : p (k : Int) = true) : (if z = (k : Int) then true else (decide (z < (k : Int)) && p z)) = (decide (z < ((k + 1 : Nat) : Int)) && p z) := by
  by_cases e : z = (k : Int)
  · subst e; rw [if_pos rfl, h]; simp; omega
  · rw [if_neg e]
    have : (z < (k : Int)) ↔ (z < ((k + 1 : Nat) : Int)) := by omega
    simp only [this]
theorem lt_same_p (p : Int → Bool) (z : Int) (h : p (k : Int) = false) : (decide (z < (k : Int)) && p z) = (decide (z < ((k + 1 : Nat) : Int)) && p z) := by
  by_cases e : z = (k : Int)
  · subst e; rw [h]; simp
  · have : (z < (k : Int)) ↔ (z < ((k + 1 : Nat) : Int)) := by omega
    simp only [this]
theorem Lp.stepH (h : Lp w base b v mh mg d k) (hk : k < d.home.length) (he : d.home[k] = d.me)
    (r1 : hostK.Own w' mh (fun u => if u = (k : Int) then (0, 0, false) else (0, 0, false)) (fun u => if u = (k : Int) then true else (decide (u < (k : Int)) && d.hp u)) (if (decide ((k : Int) < k) && d.hp k) then k else k + 1)) (r2 : w.grownBy w' (some mh)) : Lp w' base b v mh mg d (k + 1) := by
  have e1 : d.hp (k : Int) = true := by rw [hp_at hk, he]; simp
  have e2 : d.gp (k : Int) = false := by rw [gp_at hk, he]; simp
  refine ⟨h.bk.grown r2 (by simpa using h.h.apart h.bk), h.r.kept r2 ?_, r1.ext (fun z => by split <;> rfl) (fun z => lt_succ_p d.hp z e1) (by simp), (h.g.kept r2 (by simpa using h.ne.symm)).ext (fun _ => rfl) (fun z => lt_same_p d.gp z e2) (by omega), h.ha, h.ga, h.ba, h.ne⟩
  cases hv : v.ownBlock with
  | none => exact Or.inl rfl
  | some g =>
    obtain ⟨-, cs, hb⟩ := own_blk h.r g hv
    exact Or.inr (by simpa using h.h.apart hb)
theorem Lp.stepG (h : Lp w base b v mh mg d k) (hk : k < d.home.length) (he : d.home[k] ≠ d.me)
    (r1 : guestK.Own w' mg (fun u => if u = (k : Int) then (0, 0, 0, 0) else (0, 0, 0, 0)) (fun u => if u = (k : Int) then true else (decide (u < (k : Int)) && d.gp u)) (if (decide ((k : Int) < k) && d.gp k) then k else k + 1)) (r2 : w.grownBy w' (some mg)) : Lp w' base b v mh mg d (k + 1) := by
  have e1 : d.gp (k : Int) = true := by rw [gp_at hk]; simp [he]
  have e2 : d.hp (k : Int) = false := by rw [hp_at hk]; simp [he]
  refine ⟨h.bk.grown r2 (by simpa using h.g.apart h.bk), h.r.kept r2 ?_, (h.h.kept r2 (by simpa using h.ne)).ext (fun _ => rfl) (fun z => lt_same_p d.hp z e2) (by omega), r1.ext (fun z => by split <;> rfl) (fun z => lt_succ_p d.gp z e1) (by simp), h.ha, h.ga, h.ba, h.ne⟩
  cases hv : v.ownBlock with
  | none => exact Or.inl rfl
  | some g =>
    obtain ⟨-, cs, hb⟩ := own_blk h.r g hv
    exact Or.inr (by simpa using h.g.apart hb)
theorem Lp.all (h : Lp w base b v mh mg d d.home.length) (hs : d.hs = fun _ => (0, 0, false)) (gs : d.gs = fun _ => (0, 0, 0, 0)) : Ld w base b v mh mg d := by
  refine ⟨h.bk, h.r, h.h.ext (fun z => by rw [hs]) (fun z => ?_) (Nat.le_refl _), h.g.ext (fun z => by rw [gs]) (fun z => ?_) (Nat.le_refl _), h.ha, h.ga, h.ba, h.ne⟩
  · simp only [LDk.hp]; by_cases e : z < (d.home.length : Int) <;> simp [e]
  · simp only [LDk.gp]; by_cases e : z < (d.home.length : Int) <;> simp [e]
end
set_option maxRecDepth 100000 in
set_option maxHeartbeats 4000000 in
theorem lnew_any (me : Int) (A : Option Addr) (c : Nat) (home : List Int) (w : World) (hi : I64 me) (hc : home.length ≤ c) (hm : c ≤ maxLen) (hs : SlR w w.heap.size A home) :
    Calls Tryd.prog 20 #[.int .i64 me, .slice A home.length c] w (NewL w (newDk me home)) := by
  by_cases h0 : me = 0 ∨ me = 1
  case neg =>
    have hr : newDk me home = none := by unfold newDk; rw [if_neg (fun h => h0 h.1)]
    rw [hr]
    have h1 : (me == 0) = false := by simp; omega
    have h2 : (me == 1) = false := by simp; omega
    have h3 : me ≠ 0 := by omega
    have h4 : me ≠ 1 := by omega
    clear hs hr h0
    go_enter Tryd.func20, Tryd.ntmps20
    go_wp2_with fail
    go_ret
    exact ⟨rfl, Below.refl _ _⟩
  by_cases hl : home.length ≤ 64
  case neg =>
    have hr : newDk me home = none := by unfold newDk; rw [if_neg (fun h => hl h.2.1)]
    rw [hr]
    have hl2 : (64 : Int) < (home.length : Int) := by omega
    clear hs hr
    rcases h0 with rfl | rfl
    all_goals
      go_enter Tryd.func20, Tryd.ntmps20
      go_wp2_with fail
      go_ret
      exact ⟨rfl, Below.refl _ _⟩
  have CL := hid (sclone_own A c home w (by omega) hs)
  have HS := hid hs
  have hl2 : ¬ (64 : Int) < (home.length : Int) := by omega
  obtain ⟨d, hd⟩ : ∃ d : LDk, d = newD me home := ⟨_, rfl⟩
  have HME := hid (show d.me = me by rw [hd]; rfl)
  have HHO := hid (show d.home = home by rw [hd]; rfl)
  have HR := hid (show (∀ x ∈ home, x = 0 ∨ x = 1) → newDk me home = some d by intro h; unfold newDk; rw [if_pos ⟨h0, hl, h⟩, hd])
  have HN := hid (show ∀ (k : Nat) (hk : k < home.length), home[k] ≠ 0 → home[k] ≠ 1 → newDk me home = none by
    intro k hk a b
    unfold newDk
    rw [if_neg]
    rintro ⟨_, _, h⟩
    rcases h _ (List.getElem_mem hk) with e | e
    · exact a e
    · exact b e)
  have HZ := hid (show d.hs = fun _ => (0, 0, false) by rw [hd]; rfl)
  have GZ := hid (show d.gs = fun _ => (0, 0, 0, 0) by rw [hd]; rfl)
  generalize newDk me home = res at *
  clear hs hd
  have hmm := @run_makeMap Tryd.prog
  rcases h0 with rfl | rfl
  case inl =>
    go_enter Tryd.func20, Tryd.ntmps20
    go_upto_region 4 with (go_at_call 61; refine CL.out.mono ?_; rintro e w1 ⟨v, rfl, ho, hB⟩; obtain ⟨A', c', rfl, -⟩ := ho.form)
    have L0 := hid (show Lp (((w1.alloc (Obj.map #[] 0)).alloc (Obj.map #[] 0)).alloc (Obj.cells #[.int .i64 0, .slice A' home.length c', .map (some w1.heap.size), .map (some (w1.heap.size + 1))] 83)) w.heap.size (w1.heap.size + 1 + 1) (.slice A' home.length c') w1.heap.size (w1.heap.size + 1) d 0 by
      have z1 := hB.size
      have b1 : Below w1.heap.size w1 (w1.alloc (Obj.map #[] 0)) := by (repeat (first | exact Below.refl _ _ | assumption | refine below_drewN ?_ _ | refine Below.drew ?_ | refine Below.alloc ?_ (by (try simp); (try omega)) _ | refine Below.setCell ?_ (by (try simp); (try omega)) _))
      have s1 : (w1.alloc (Obj.map #[] 0)).heap.size = w1.heap.size + 1 := by simp
      have b2 : Below (w1.alloc (Obj.map #[] 0)).heap.size (w1.alloc (Obj.map #[] 0)) ((w1.alloc (Obj.map #[] 0)).alloc (Obj.map #[] 0)) := by (repeat (first | exact Below.refl _ _ | assumption | refine below_drewN ?_ _ | refine Below.drew ?_ | refine Below.alloc ?_ (by (try simp); (try omega)) _ | refine Below.setCell ?_ (by (try simp); (try omega)) _))
      have b3 : Below ((w1.alloc (Obj.map #[] 0)).alloc (Obj.map #[] 0)).heap.size ((w1.alloc (Obj.map #[] 0)).alloc (Obj.map #[] 0)) (((w1.alloc (Obj.map #[] 0)).alloc (Obj.map #[] 0)).alloc (Obj.cells #[.int .i64 0, .slice A' home.length c', .map (some w1.heap.size), .map (some (w1.heap.size + 1))] 83)) := by (repeat (first | exact Below.refl _ _ | assumption | refine below_drewN ?_ _ | refine Below.drew ?_ | refine Below.alloc ?_ (by (try simp); (try omega)) _ | refine Below.setCell ?_ (by (try simp); (try omega)) _))
      have m1 := ((MK.Own.made hostK w1).below b2).below b3
      have m2 := (MK.Own.made guestK (w1.alloc (Obj.map #[] 0))).below b3
      rw [s1] at m2
      refine ⟨?_, ?_, m1.ext (fun _ => rfl) (fun z => ?_) (Nat.le_refl _), m2.ext (fun _ => rfl) (fun z => ?_) (Nat.le_refl _), by omega, by omega, by omega, by omega⟩
      · rw [HME.out]
        have := Blk.new ((w1.alloc (Obj.map #[] 0)).alloc (Obj.map #[] 0)) 83 #[.int .i64 0, .slice A' home.length c', .map (some w1.heap.size), .map (some (w1.heap.size + 1))]
        simpa using this
      · rw [HHO.out]; exact ((ho.below b1).below b2).below b3
      · simp only [LDk.hp]; symm; simp; omega
      · simp only [LDk.gp]; symm; simp; omega)
    have B0 := hid (show Below w.heap.size w (((w1.alloc (Obj.map #[] 0)).alloc (Obj.map #[] 0)).alloc (Obj.cells #[.int .i64 0, .slice A' home.length c', .map (some w1.heap.size), .map (some (w1.heap.size + 1))] 83)) from ((hB.alloc hB.size _).alloc (by have := hB.size; simp; omega) _).alloc (by have := hB.size; simp; omega) _)
    clear ho hB CL hmm
    generalize (((w1.alloc (Obj.map #[] 0)).alloc (Obj.map #[] 0)).alloc (Obj.cells #[.int .i64 0, .slice A' home.length c', .map (some w1.heap.size), .map (some (w1.heap.size + 1))] 83)) = w3 at *
    generalize w1.heap.size + 1 + 1 = bb at *
    generalize w1.heap.size + 1 = qg at *
    generalize w1.heap.size = qh at *
    go_wp2_with fail
    go_loopw [28] (fun i wr => ∃ k : Nat, i = .int .i64 k ∧ k ≤ home.length ∧ Lp wr w.heap.size bb (.slice A' home.length c') qh qg d k ∧ Below w.heap.size w wr ∧ ∀ j (hj : j < home.length), j < k → home[j] = 0 ∨ home[j] = 1) (fun i _ => home.length - (intOf i).toNat)
    case atStart => exact ⟨0, rfl, by omega, L0.out, B0.out, by omega⟩
    case round =>
      clear L0 B0
      obtain ⟨k, rfl, hk, hL, hB, hA⟩ := hrel
      have LL := hid hL
      have BB := hid hB
      have AA := hid hA
      clear hL hB hA
      by_cases hkn : k < home.length
      · have hk1 : wrap64 ((k : Int) + 1) = ((k + 1 : Nat) : Int) := by rw [wrap64_in _ (by omega)]; simp
        obtain ⟨b0, off, rfl, hb0, hcell, hI⟩ := HS.out.int hkn
        replace hcell := (bcell BB.out b0 (off + k) hb0).trans hcell
        obtain ⟨d0, d1, d2, d3⟩ := LL.out.at_
        have HKE := hid (show d.home.length = home.length by rw [HHO.out])
        have HGE := hid (show d.home[k]'(by rw [HHO.out]; exact hkn) = home[k] by simp [HHO.out])
        have HKI := hid (show I64 (k : Int) by constructor <;> omega)
        have HNN := hid (HN.out k hkn)
        have HAA := hid (show (home[k] = 0 ∨ home[k] = 1) → ∀ j (hj : j < home.length), j < k + 1 → home[j] = 0 ∨ home[j] = 1 by
          intro h j hj hjk
          by_cases e : j = k
          · subst e; exact h
          · exact AA.out j hj (by omega))
        clear hb0 hI
        by_cases e0 : home[k] = 0
        · have HE := hid e0
          rw [e0] at hcell
          clear e0
          go_wp2_with (go_loud (refine MK.wp_put hostK wr rfl _ _ _ rfl LL.out.h rfl rfl (0, 0, false) rfl HKI.out (by unfold maxLen; omega) ?_; intro w2 r1 r2))
          have R1 := hid r1
          have R2 := hid r2
          clear r1 r2
          go_roundw
          case rel => exact ⟨k + 1, by simp [hk1], hkn, LL.out.stepH (by rw [HKE.out]; exact hkn) (by rw [HGE.out, HE.out, HME.out]; (try decide)) R1.out R2.out, BB.out.grown R2.out BB.out.size (by intro q hq; injection hq with hq; subst hq; first | exact LL.out.ha | exact LL.out.ga), HAA.out (Or.inl HE.out)⟩
          case measure => simp [intOf, hk1]; omega
        by_cases e1 : home[k] = 1
        · have HE := hid e1
          rw [e1] at hcell
          clear e1 e0
          go_wp2_with (go_loud (refine MK.wp_put guestK wr rfl _ _ _ rfl LL.out.g rfl rfl (0, 0, 0, 0) rfl HKI.out (by unfold maxLen; omega) ?_; intro w2 r1 r2))
          have R1 := hid r1
          have R2 := hid r2
          clear r1 r2
          go_roundw
          case rel => exact ⟨k + 1, by simp [hk1], hkn, LL.out.stepG (by rw [HKE.out]; exact hkn) (by rw [HGE.out, HE.out, HME.out]; (try decide)) R1.out R2.out, BB.out.grown R2.out BB.out.size (by intro q hq; injection hq with hq; subst hq; first | exact LL.out.ha | exact LL.out.ga), HAA.out (Or.inr HE.out)⟩
          case measure => simp [intOf, hk1]; omega
        have HRN := hid (HNN.out e0 e1)
        have f0 : (home[k] == 0) = false := by simpa using e0
        have f1 : (home[k] == 1) = false := by simpa using e1
        generalize home[k] = x at *
        clear HNN HAA HGE
        go_wp2_with fail
        go_ret
        rw [HRN.out]
        exact ⟨rfl, BB.out⟩
      · have hkN : k = home.length := by omega
        have HRS := hid (HR.out (by
          intro x hx
          obtain ⟨j, hj, rfl⟩ := List.getElem_of_mem hx
          exact AA.out j hj (by omega)))
        have LF := hid (show Ld wr w.heap.size bb (.slice A' home.length c') qh qg d from Lp.all (by have := LL.out; rw [hkN, ← HHO.out] at this; rw [← HHO.out]; exact this) HZ.out GZ.out)
        subst hkN
        clear HR HN LL AA
        go_wp2_with fail
        go_ret
        rw [HRS.out]
        exact ⟨bb, _, qh, qg, rfl, LF.out, BB.out⟩
  case inr =>
    go_enter Tryd.func20, Tryd.ntmps20
    go_upto_region 4 with (go_at_call 61; refine CL.out.mono ?_; rintro e w1 ⟨v, rfl, ho, hB⟩; obtain ⟨A', c', rfl, -⟩ := ho.form)
    have L0 := hid (show Lp (((w1.alloc (Obj.map #[] 0)).alloc (Obj.map #[] 0)).alloc (Obj.cells #[.int .i64 1, .slice A' home.length c', .map (some w1.heap.size), .map (some (w1.heap.size + 1))] 83)) w.heap.size (w1.heap.size + 1 + 1) (.slice A' home.length c') w1.heap.size (w1.heap.size + 1) d 0 by
      have z1 := hB.size
      have b1 : Below w1.heap.size w1 (w1.alloc (Obj.map #[] 0)) := by (repeat (first | exact Below.refl _ _ | assumption | refine below_drewN ?_ _ | refine Below.drew ?_ | refine Below.alloc ?_ (by (try simp); (try omega)) _ | refine Below.setCell ?_ (by (try simp); (try omega)) _))
      have s1 : (w1.alloc (Obj.map #[] 0)).heap.size = w1.heap.size + 1 := by simp
      have b2 : Below (w1.alloc (Obj.map #[] 0)).heap.size (w1.alloc (Obj.map #[] 0)) ((w1.alloc (Obj.map #[] 0)).alloc (Obj.map #[] 0)) := by (repeat (first | exact Below.refl _ _ | assumption | refine below_drewN ?_ _ | refine Below.drew ?_ | refine Below.alloc ?_ (by (try simp); (try omega)) _ | refine Below.setCell ?_ (by (try simp); (try omega)) _))
      have b3 : Below ((w1.alloc (Obj.map #[] 0)).alloc (Obj.map #[] 0)).heap.size ((w1.alloc (Obj.map #[] 0)).alloc (Obj.map #[] 0)) (((w1.alloc (Obj.map #[] 0)).alloc (Obj.map #[] 0)).alloc (Obj.cells #[.int .i64 1, .slice A' home.length c', .map (some w1.heap.size), .map (some (w1.heap.size + 1))] 83)) := by (repeat (first | exact Below.refl _ _ | assumption | refine below_drewN ?_ _ | refine Below.drew ?_ | refine Below.alloc ?_ (by (try simp); (try omega)) _ | refine Below.setCell ?_ (by (try simp); (try omega)) _))
      have m1 := ((MK.Own.made hostK w1).below b2).below b3
      have m2 := (MK.Own.made guestK (w1.alloc (Obj.map #[] 0))).below b3
      rw [s1] at m2
      refine ⟨?_, ?_, m1.ext (fun _ => rfl) (fun z => ?_) (Nat.le_refl _), m2.ext (fun _ => rfl) (fun z => ?_) (Nat.le_refl _), by omega, by omega, by omega, by omega⟩
      · rw [HME.out]
        have := Blk.new ((w1.alloc (Obj.map #[] 0)).alloc (Obj.map #[] 0)) 83 #[.int .i64 1, .slice A' home.length c', .map (some w1.heap.size), .map (some (w1.heap.size + 1))]
        simpa using this
      · rw [HHO.out]; exact ((ho.below b1).below b2).below b3
      · simp only [LDk.hp]; symm; simp; omega
      · simp only [LDk.gp]; symm; simp; omega)
    have B0 := hid (show Below w.heap.size w (((w1.alloc (Obj.map #[] 0)).alloc (Obj.map #[] 0)).alloc (Obj.cells #[.int .i64 1, .slice A' home.length c', .map (some w1.heap.size), .map (some (w1.heap.size + 1))] 83)) from ((hB.alloc hB.size _).alloc (by have := hB.size; simp; omega) _).alloc (by have := hB.size; simp; omega) _)
    clear ho hB CL hmm
    generalize (((w1.alloc (Obj.map #[] 0)).alloc (Obj.map #[] 0)).alloc (Obj.cells #[.int .i64 1, .slice A' home.length c', .map (some w1.heap.size), .map (some (w1.heap.size + 1))] 83)) = w3 at *
    generalize w1.heap.size + 1 + 1 = bb at *
    generalize w1.heap.size + 1 = qg at *
    generalize w1.heap.size = qh at *
    go_wp2_with fail
    go_loopw [28] (fun i wr => ∃ k : Nat, i = .int .i64 k ∧ k ≤ home.length ∧ Lp wr w.heap.size bb (.slice A' home.length c') qh qg d k ∧ Below w.heap.size w wr ∧ ∀ j (hj : j < home.length), j < k → home[j] = 0 ∨ home[j] = 1) (fun i _ => home.length - (intOf i).toNat)
    case atStart => exact ⟨0, rfl, by omega, L0.out, B0.out, by omega⟩
    case round =>
      clear L0 B0
      obtain ⟨k, rfl, hk, hL, hB, hA⟩ := hrel
      have LL := hid hL
      have BB := hid hB
      have AA := hid hA
      clear hL hB hA
      by_cases hkn : k < home.length
      · have hk1 : wrap64 ((k : Int) + 1) = ((k + 1 : Nat) : Int) := by rw [wrap64_in _ (by omega)]; simp
        obtain ⟨b0, off, rfl, hb0, hcell, hI⟩ := HS.out.int hkn
        replace hcell := (bcell BB.out b0 (off + k) hb0).trans hcell
        obtain ⟨d0, d1, d2, d3⟩ := LL.out.at_
        have HKE := hid (show d.home.length = home.length by rw [HHO.out])
        have HGE := hid (show d.home[k]'(by rw [HHO.out]; exact hkn) = home[k] by simp [HHO.out])
        have HKI := hid (show I64 (k : Int) by constructor <;> omega)
        have HNN := hid (HN.out k hkn)
        have HAA := hid (show (home[k] = 0 ∨ home[k] = 1) → ∀ j (hj : j < home.length), j < k + 1 → home[j] = 0 ∨ home[j] = 1 by
          intro h j hj hjk
          by_cases e : j = k
          · subst e; exact h
          · exact AA.out j hj (by omega))
        clear hb0 hI
        by_cases e0 : home[k] = 0
        · have HE := hid e0
          rw [e0] at hcell
          clear e0
          go_wp2_with (go_loud (refine MK.wp_put guestK wr rfl _ _ _ rfl LL.out.g rfl rfl (0, 0, 0, 0) rfl HKI.out (by unfold maxLen; omega) ?_; intro w2 r1 r2))
          have R1 := hid r1
          have R2 := hid r2
          clear r1 r2
          go_roundw
          case rel => exact ⟨k + 1, by simp [hk1], hkn, LL.out.stepG (by rw [HKE.out]; exact hkn) (by rw [HGE.out, HE.out, HME.out]; (try decide)) R1.out R2.out, BB.out.grown R2.out BB.out.size (by intro q hq; injection hq with hq; subst hq; first | exact LL.out.ha | exact LL.out.ga), HAA.out (Or.inl HE.out)⟩
          case measure => simp [intOf, hk1]; omega
        by_cases e1 : home[k] = 1
        · have HE := hid e1
          rw [e1] at hcell
          clear e1 e0
          go_wp2_with (go_loud (refine MK.wp_put hostK wr rfl _ _ _ rfl LL.out.h rfl rfl (0, 0, false) rfl HKI.out (by unfold maxLen; omega) ?_; intro w2 r1 r2))
          have R1 := hid r1
          have R2 := hid r2
          clear r1 r2
          go_roundw
          case rel => exact ⟨k + 1, by simp [hk1], hkn, LL.out.stepH (by rw [HKE.out]; exact hkn) (by rw [HGE.out, HE.out, HME.out]; (try decide)) R1.out R2.out, BB.out.grown R2.out BB.out.size (by intro q hq; injection hq with hq; subst hq; first | exact LL.out.ha | exact LL.out.ga), HAA.out (Or.inr HE.out)⟩
          case measure => simp [intOf, hk1]; omega
        have HRN := hid (HNN.out e0 e1)
        have f0 : (home[k] == 0) = false := by simpa using e0
        have f1 : (home[k] == 1) = false := by simpa using e1
        generalize home[k] = x at *
        clear HNN HAA HGE
        go_wp2_with fail
        go_ret
        rw [HRN.out]
        exact ⟨rfl, BB.out⟩
      · have hkN : k = home.length := by omega
        have HRS := hid (HR.out (by
          intro x hx
          obtain ⟨j, hj, rfl⟩ := List.getElem_of_mem hx
          exact AA.out j hj (by omega)))
        have LF := hid (show Ld wr w.heap.size bb (.slice A' home.length c') qh qg d from Lp.all (by have := LL.out; rw [hkN, ← HHO.out] at this; rw [← HHO.out]; exact this) HZ.out GZ.out)
        subst hkN
        clear HR HN LL AA
        go_wp2_with fail
        go_ret
        rw [HRS.out]
        exact ⟨bb, _, qh, qg, rfl, LF.out, BB.out⟩
end Go.Proofs.YtappgjdnfllblaaDoor
