
/- Game: GameApart, the walk. -/
import Derived.Test.YtiaplhdgchbkkaaGamAa
import Derived.Test.YtiaplhdgchbkkaaGamN
set_option linter.unusedSimpArgs false
set_option linter.unusedVariables false
namespace Go.Proofs.Ytiaplhdgchbkkaa
open Go.RowKit Go.IntWalk Go.Shelf

set_option maxRecDepth 100000 in
set_option maxHeartbeats 40000000 in
theorem gapart_any (w : World) (Ag Am : Option Addr) (cg cm : Nat) (g : Gm) (hg : GmR w w.heap.size Ag Am g) (Bg Bm : Option Addr) (dg dm : Nat) (h : Gm) (hh : GmR w w.heap.size Bg Bm h) :
    Calls Try.prog 8 #[.agg #[.slice Ag g.1.length cg, .slice Am g.2.length cm], .agg #[.slice Bg h.1.length dg, .slice Bm h.2.length dm]] w fun e w' => e = .returned (.bool true) ∧ Below w.heap.size w w' := by
  obtain ⟨w1, hw1⟩ : ∃ w1, w1 = (w.alloc (Obj.cells #[.slice Ag g.1.length cg, .slice Am g.2.length cm] 25)).alloc (Obj.cells #[.slice Bg h.1.length dg, .slice Bm h.2.length dm] 25) := ⟨_, rfl⟩
  have B1 := hid (show Below w.heap.size w w1 by rw [hw1]; (repeat (first | exact Below.refl _ _ | assumption | refine below_drewN ?_ _ | refine Below.drew ?_ | refine Below.alloc ?_ (by (try simp); (try omega)) _ | refine Below.setCell ?_ (by (try simp); (try omega)) _)))
  have X1 := hid (show Blk w1 w.heap.size 25 #[.slice Ag g.1.length cg, .slice Am g.2.length cm] by rw [hw1]; exact (Blk.new w _ _).alloc _)
  have Y1 := hid (show Blk w1 (w.heap.size + 1) 25 #[.slice Bg h.1.length dg, .slice Bm h.2.length dm] by rw [hw1]; exact Blk.new_at (by simp))
  have HG := hid hg
  have HH := hid hh
  subst hw1
  have HS := hid (small_any ((w.alloc (Obj.cells #[.slice Ag g.1.length cg, .slice Am g.2.length cm] 25)).alloc (Obj.cells #[.slice Bg h.1.length dg, .slice Bm h.2.length dm] 25)))
  clear hg hh
  go_enter Try.func8, Try.ntmps8
  go_wp2_with fail
  refine HS.out.mono ?_
  rintro e w2 ⟨rfl, hB2⟩
  have B2 := hid (B1.out.trans (hB2.mono B1.out.size))
  have X2 := hid (X1.out.below hB2 X1.out.lt)
  have Y2 := hid (Y1.out.below hB2 Y1.out.lt)
  clear hB2 B1 X1 Y1 HS
  have x0 := X2.out.cell 0; have x1 := X2.out.cell 1; have xz := X2.out.lt
  simp at x0 x1
  have HQ := hid (given_any Ag Am cg cm g 60 (by omega) w2 (HG.out.to B2.out))
  go_wp2_with fail
  refine HQ.out.mono ?_
  rintro e w3 ⟨rfl, hB3⟩
  have B3 := hid (B2.out.trans (hB3.mono B2.out.size))
  have X3 := hid (X2.out.below hB3 X2.out.lt)
  have Y3 := hid (Y2.out.below hB3 Y2.out.lt)
  clear hB3 B2 X2 Y2 HQ x0 x1 xz
  cases hgv : fewL g 60 && rightL g with
  | false =>
    as_aux_lemma =>
      go_wp2_with fail
      go_ret
      exact ⟨rfl, B3.out⟩
  | true =>
    rw [Bool.and_eq_true] at hgv
    have hok := hid (ok_of hgv.1 hgv.2 (by omega))
    have hrg := hid hgv.2
    have hg60 : g.1.length ≤ 60 := by
      have := hgv.1
      simp only [fewL, Bool.and_eq_true, decide_eq_true_eq] at this
      omega
    clear hgv
    have y0 := Y3.out.cell 0; have y1 := Y3.out.cell 1; have yz := Y3.out.lt
    simp at y0 y1
    have HQ := hid (given_any Bg Bm dg dm h 60 (by omega) w3 (HH.out.to B3.out))
    go_wp2_with fail
    refine HQ.out.mono ?_
    rintro e w4 ⟨rfl, hB4⟩
    have B4 := hid (B3.out.trans (hB4.mono B3.out.size))
    have X4 := hid (X3.out.below hB4 X3.out.lt)
    have Y4 := hid (Y3.out.below hB4 Y3.out.lt)
    clear hB4 B3 X3 Y3 HQ y0 y1 yz
    cases hhv : fewL h 60 && rightL h with
    | false =>
      as_aux_lemma =>
        go_wp2_with fail
        go_ret
        exact ⟨rfl, B4.out⟩
    | true =>
      rw [Bool.and_eq_true] at hhv
      have hokh := hid (ok_of hhv.1 hhv.2 (by omega))
      have hrh := hid hhv.2
      have hh60 : h.1.length ≤ 60 := by
        have := hhv.1
        simp only [fewL, Bool.and_eq_true, decide_eq_true_eq] at this
        omega
      clear hhv
      have x0 := X4.out.cell 0; have x1 := X4.out.cell 1; have xz := X4.out.lt
      simp at x0 x1
      have HC := hid (cloneN_any Ag Am cg cm g w4 (HG.out.to B4.out) hok.out)
      go_wp2_with fail
      refine HC.out.mono ?_
      rintro e w5 ⟨vG, vM, rfl, hC⟩
      obtain ⟨A5, c5, M5, m5, rfl, rfl⟩ := hC.form
      obtain ⟨vs5, D5, b5⟩ := hC.boxy
      have D5 := hid D5
      have BD5 := hid b5
      clear HC hC b5 x0 x1 xz
      go_upto_region 6 with fail
      generalize w5.alloc (Obj.cells #[.slice A5 g.1.length c5, .slice M5 g.2.length m5] 25) = w6 at *
      generalize w5.heap.size = b7 at *
      have HXY := hid (show ∀ wq, Below w4.heap.size w4 wq → wq.cell? ⟨w.heap.size, 0, none⟩ = some (.slice Ag g.1.length cg) ∧ wq.cell? ⟨w.heap.size, 1, none⟩ = some (.slice Am g.2.length cm) ∧ w.heap.size < wq.heap.size ∧ wq.cell? ⟨w.heap.size + 1, 0, none⟩ = some (.slice Bg h.1.length dg) ∧ wq.cell? ⟨w.heap.size + 1, 1, none⟩ = some (.slice Bm h.2.length dm) ∧ w.heap.size + 1 < wq.heap.size ∧ Below w.heap.size w wq from fun wq hb => by
        have hX := X4.out.below hb X4.out.lt
        have hY := Y4.out.below hb Y4.out.lt
        have e0 := hX.cell 0; have e1 := hX.cell 1; have f0 := hY.cell 0; have f1 := hY.cell 1
        simp at e0 e1 f0 f1
        exact ⟨e0, e1, hX.lt, f0, f1, hY.lt, B4.out.trans (hb.mono B4.out.size)⟩)
      have hw4 := Y4.out.lt
      have hw04 := B4.out.size
      clear X4 Y4
      go_wp2_with fail
      go_loopw [8] (fun iv wr => ∃ (i : Nat) (AG : Option Addr) (nG cG : Nat) (AM : Option Addr) (nM cM : Nat) (vs : List Value), i ≤ h.1.length ∧ iv = .int .i64 i ∧ OGx wr w4.heap.size b7 (bothK g h i) (.slice AG nG cG) (.slice AM nM cM) vs ∧ Below w4.heap.size w4 wr) (fun iv _ => h.1.length - (intOf iv).toNat)
      case atStart => exact ⟨0, _, _, _, _, _, _, _, by omega, rfl, by rw [bothK_zero]; exact D5.out, BD5.out⟩
      case round =>
        obtain ⟨i, AG, nG, cG, AM, nM, cM, vs, hi, rfl, hD, hB⟩ := hrel
        have HD := hid hD
        have HB := hid hB
        obtain ⟨x0, x1, xz, y0, y1, yz, hBw⟩ := HXY.out wr hB
        have HBw := hid hBw
        clear hD hB hBw D5 BD5
        by_cases hlt : i < h.1.length
        case neg =>
          obtain rfl : i = h.1.length := by omega
          rw [bothK_end hokh.out.n] at HD
          clear hi hlt
          have hL1 := hid (show (rankL g).length ≤ 1000 by have := (rankL_rk hok.out).len; have := hok.out.s; omega)
          have hL2 := hid (show (rankL h).length ≤ 1000 by have := (rankL_rk hokh.out).len; have := hokh.out.s; omega)
          have HAG := hid HG.out.acts
          have HAH := hid HH.out.acts
          have hR1 := hid (solve_rows hok.out HAG.out)
          have hR2 := hid (solve_rows hokh.out HAH.out)
          have hwz := HBw.out.size
          have hyz := hid yz
          have hSf := hid (fun (wq : World) (hb : Below wr.heap.size wr wq) => show wq.cell? ⟨w.heap.size, 0, none⟩ = some (.slice Ag g.1.length cg) ∧ wq.cell? ⟨w.heap.size, 1, none⟩ = some (.slice Am g.2.length cm) ∧ wq.cell? ⟨w.heap.size + 1, 0, none⟩ = some (.slice Bg h.1.length dg) ∧ wq.cell? ⟨w.heap.size + 1, 1, none⟩ = some (.slice Bm h.2.length dm) from ⟨(bcell hb _ _ xz).trans x0, (bcell hb _ _ xz).trans x1, (bcell hb _ _ yz).trans y0, (bcell hb _ _ yz).trans y1⟩)
          generalize hwi : wr = wi at *
          clear hwi
          go_upto_region 21 with fail
          go_cut [13] (fun lv wx => ∃ v : Value, v = lv ∧ OwnI wx wi.heap.size v (rankL g ++ rankL h) ∧ Below wi.heap.size wi wx)
          case first =>
            have bd := hid (show Below wi.heap.size wi wi.drew by (repeat (first | exact Below.refl _ _ | assumption | refine below_drewN ?_ _ | refine Below.drew ?_ | refine Below.alloc ?_ (by (try simp); (try omega)) _ | refine Below.setCell ?_ (by (try simp); (try omega)) _)))
            refine wpIn_wide.1 (wpIn_region_S (n := 0) (fun wq => wq.cell? ⟨w.heap.size, 0, none⟩ = some (.slice Ag g.1.length cg) ∧ wq.cell? ⟨w.heap.size, 1, none⟩ = some (.slice Am g.2.length cm) ∧ wq.cell? ⟨w.heap.size + 1, 0, none⟩ = some (.slice Bg h.1.length dg) ∧ wq.cell? ⟨w.heap.size + 1, 1, none⟩ = some (.slice Bm h.2.length dm)) [] (by kernel_rfl) (hSf.out _ bd.out) (fun hHeld => ?_))
            refine wpAnyS_take 1 (v := ?_) (fun _ => trivial) (by simp only [List.getElem?_toArray, List.getElem?_cons_succ, List.getElem?_cons_zero]; rfl) (by kernel_rfl) (fun _ _ _ _ _ h => h) ⟨rfl, (by intro c h; cases h), ?_⟩ hHeld ?_
            rotate_left
            focus (intro wS hSw; (try dsimp only at hSw); go_simp; (try with_reducible rfl))
            (try simp only [Act.put, List.setIfInBounds_toArray, List.set_cons_zero, List.set_cons_succ])
            refine wpAnyS_take 4 (v := ?_) (fun _ => trivial) (by simp only [List.getElem?_toArray, List.getElem?_cons_succ, List.getElem?_cons_zero]; rfl) (by kernel_rfl) (fun _ _ _ _ _ h => h) ⟨rfl, (by intro c h; cases h), ?_⟩ hHeld ?_
            rotate_left
            focus (intro wS hSw; (try dsimp only at hSw); go_simp; (try with_reducible rfl))
            (try simp only [Act.put, List.setIfInBounds_toArray, List.set_cons_zero, List.set_cons_succ])
            refine wpAnyS_ready [0, 2] (by kernel_rfl) (by simp) (AllReadyS.cons (by simp only [List.getElem?_toArray, List.getElem?_cons_succ, List.getElem?_cons_zero]; rfl) rfl (fun K hK => ?_) (AllReadyS.cons (by simp only [List.getElem?_toArray, List.getElem?_cons_succ, List.getElem?_cons_zero]; rfl) rfl (fun K hK => ?_) AllReadyS.nil))
            · go_simp
              have ba := hid (show Below wi.heap.size wi ((wi.alloc (Obj.cells #[] 3)).drew) by (repeat (first | exact Below.refl _ _ | assumption | refine below_drewN ?_ _ | refine Below.drew ?_ | refine Below.alloc ?_ (by (try simp); (try omega)) _ | refine Below.setCell ?_ (by (try simp); (try omega)) _)))
              have EA := hid (show OwnI ((wi.alloc (Obj.cells #[] 3)).drew) wi.heap.size (.slice (some ⟨wi.heap.size, 0, none⟩) 0 0) [] from ⟨rfl, .inr ⟨_, 0, #[], rfl, Nat.le_refl _, (Blk.new wi 3 #[]).drew, Nat.le_refl _, by unfold maxLen; omega, rfl, rfl⟩⟩)
              refine hK.out _ _ (hSf.out _ ba.out) ?_
              clear hK K
              have HRa := hid (ranks_any Ag Am cg cm g _ (HG.out.to (HBw.out.trans (ba.out.mono HBw.out.size))) hok.out)
              refine wpAnyS_ready [2] (by kernel_rfl) (by simp) (AllReadyS.cons (by simp only [List.getElem?_toArray, List.getElem?_cons_succ, List.getElem?_cons_zero]; rfl) rfl (fun K hK => ?_) AllReadyS.nil)
              refine callV (by intro c h; cases h) (by go_simp; try with_reducible rfl) HRa.out ?_
              intro v2 wx hx
              obtain ⟨ho2, hB2⟩ := hx
              have BX := hid (ba.out.trans (hB2.mono ba.out.size))
              have EX := hid (show OwnI wx wi.heap.size (.slice (some ⟨wi.heap.size, 0, none⟩) 0 0) [] from own_kt (ts := [3]) EA.out (KT.of_below hB2) (by decide))
              have RX := hid (show OwnI wx 0 v2 (rankL g) from own_base ho2 (Nat.zero_le _))
              refine hK.out _ _ (hSf.out _ BX.out) ?_
              clear hK K ba EA HRa ho2 hB2 hHeld
              generalize heb : wi.heap.size = eb at EX ⊢
              rw [show OwnI wx eb (.slice (some ⟨eb, 0, none⟩) 0 0) [] = OwnI wx wi.heap.size (.slice (some ⟨eb, 0, none⟩) 0 0) [] by rw [heb]] at EX
              clear heb
              have hbx := BX.out.size
              refine wpAnyS_ready [3] (by kernel_rfl) (by simp) (AllReadyS.cons (by simp only [List.getElem?_toArray, List.getElem?_cons_succ, List.getElem?_cons_zero]; rfl) rfl (fun K hK => ?_) AllReadyS.nil)
              refine appIS (fun _ => trivial) _ (.tmp 113) (.tmp 115) rfl wi.heap.size (.slice (some ⟨eb, 0, none⟩) 0 0) [] rfl EX.out 0 v2 (rankL g) rfl RX.out (by have := hL1.out; simp; omega) hbx ?_
              intro A3 c3 w3x ho3 hg3
              have B3x := hid (BX.out.grown hg3 hbx (fun q e => (own_blk EX.out q e).1))
              have O3 := hid (show OwnI w3x wi.heap.size (.slice A3 (rankL g).length c3) (rankL g) by simpa using ho3)
              rw [List.length_nil, Nat.zero_add]
              refine hK.out _ _ (hSf.out _ B3x.out) ?_
              clear hK K ho3 hg3 EX RX BX hbx
              have HRh := hid (ranks_any Bg Bm dg dm h w3x (HH.out.to (HBw.out.trans (B3x.out.mono HBw.out.size))) hokh.out)
              refine wpAnyS_ready [5] (by kernel_rfl) (by simp) (AllReadyS.cons (by simp only [List.getElem?_toArray, List.getElem?_cons_succ, List.getElem?_cons_zero]; rfl) rfl (fun K hK => ?_) AllReadyS.nil)
              refine callV (by intro c h; cases h) (by go_simp; try with_reducible rfl) HRh.out ?_
              intro v5 w5x hx
              obtain ⟨ho5, hB5⟩ := hx
              have B5 := hid (B3x.out.trans (hB5.mono B3x.out.size))
              have O5 := hid (O3.out.below hB5)
              have R5 := hid ho5
              refine hK.out _ _ (hSf.out _ B5.out) ?_
              clear hK K HRh ho5 hB5 O3 B3x
              refine wpAnyS_ready [6] (by kernel_rfl) (by simp) (AllReadyS.cons (by simp only [List.getElem?_toArray, List.getElem?_cons_succ, List.getElem?_cons_zero]; rfl) rfl (fun K hK => ?_) AllReadyS.nil)
              refine appIS (fun _ => trivial) _ (.tmp 116) (.tmp 118) rfl wi.heap.size (.slice A3 (rankL g).length c3) (rankL g) rfl O5.out _ v5 (rankL h) rfl R5.out (by have := hL1.out; have := hL2.out; omega) B5.out.size ?_
              intro A6 c6 w6x ho6 hg6
              have B6 := hid (B5.out.grown hg6 B5.out.size (fun q e => (own_blk O5.out q e).1))
              have O6 := hid ho6
              refine hK.out _ _ (hSf.out _ B6.out) ?_
              clear hK K ho6 hg6
              have hHeld := hSf.out _ B6.out
              refine wpAnyS_pure 7 (v := ?_) (fun _ => trivial) (by simp only [List.getElem?_toArray, List.getElem?_cons_succ, List.getElem?_cons_zero]; rfl) (by kernel_rfl) (fun _ _ _ _ _ h => h) ⟨rfl, (by intro c h; cases h), ?_⟩ hHeld ?_
              rotate_left
              focus (intro wS hSw; (try dsimp only at hSw); go_simp; (try with_reducible rfl))
              (try simp only [Act.put, List.setIfInBounds_toArray, List.set_cons_zero, List.set_cons_succ])
              refine wpAnyS_done (by kernel_rfl) ?_
              go_wp2_with fail
              go_meet
              exact ⟨_, rfl, O6.out, B6.out⟩
            · have HRa := hid (ranks_any Ag Am cg cm g _ (HG.out.to (HBw.out.trans (bd.out.mono HBw.out.size))) hok.out)
              refine callV (by intro c h; cases h) (by go_simp; try with_reducible rfl) HRa.out ?_
              intro v2 wx hx
              obtain ⟨ho2, hB2⟩ := hx
              have b2 := hid (bd.out.trans (hB2.mono bd.out.size))
              refine hK.out _ _ (hSf.out _ b2.out) ?_
              clear hK K
              refine wpAnyS_ready [0] (by kernel_rfl) (by simp) (AllReadyS.cons (by simp only [List.getElem?_toArray, List.getElem?_cons_succ, List.getElem?_cons_zero]; rfl) rfl (fun K hK => ?_) AllReadyS.nil)
              go_simp
              have ba := hid (show Below wx.heap.size wx (wx.alloc (Obj.cells #[] 3)) by (repeat (first | exact Below.refl _ _ | assumption | refine below_drewN ?_ _ | refine Below.drew ?_ | refine Below.alloc ?_ (by (try simp); (try omega)) _ | refine Below.setCell ?_ (by (try simp); (try omega)) _)))
              have BX := hid (b2.out.trans (ba.out.mono b2.out.size))
              have EX := hid (show OwnI (wx.alloc (Obj.cells #[] 3)) wi.heap.size (.slice (some ⟨wx.heap.size, 0, none⟩) 0 0) [] from ⟨rfl, .inr ⟨_, 0, #[], rfl, b2.out.size, Blk.new wx 3 #[], Nat.le_refl _, by unfold maxLen; omega, rfl, rfl⟩⟩)
              have RX := hid (show OwnI (wx.alloc (Obj.cells #[] 3)) 0 v2 (rankL g) from own_kt (ts := [3]) (own_base ho2 (Nat.zero_le _)) (KT.of_below ba.out) (by decide))
              refine hK.out _ _ (hSf.out _ BX.out) ?_
              clear hK K ba HRa ho2 hB2 hHeld b2
              generalize wx.heap.size = eb at *
              generalize wx.alloc (Obj.cells #[] 3) = wx at *
              have hbx := BX.out.size
              refine wpAnyS_ready [3] (by kernel_rfl) (by simp) (AllReadyS.cons (by simp only [List.getElem?_toArray, List.getElem?_cons_succ, List.getElem?_cons_zero]; rfl) rfl (fun K hK => ?_) AllReadyS.nil)
              refine appIS (fun _ => trivial) _ (.tmp 113) (.tmp 115) rfl wi.heap.size (.slice (some ⟨eb, 0, none⟩) 0 0) [] rfl EX.out 0 v2 (rankL g) rfl RX.out (by have := hL1.out; simp; omega) hbx ?_
              intro A3 c3 w3x ho3 hg3
              have B3x := hid (BX.out.grown hg3 hbx (fun q e => (own_blk EX.out q e).1))
              have O3 := hid (show OwnI w3x wi.heap.size (.slice A3 (rankL g).length c3) (rankL g) by simpa using ho3)
              rw [List.length_nil, Nat.zero_add]
              refine hK.out _ _ (hSf.out _ B3x.out) ?_
              clear hK K ho3 hg3 EX RX BX hbx
              have HRh := hid (ranks_any Bg Bm dg dm h w3x (HH.out.to (HBw.out.trans (B3x.out.mono HBw.out.size))) hokh.out)
              refine wpAnyS_ready [5] (by kernel_rfl) (by simp) (AllReadyS.cons (by simp only [List.getElem?_toArray, List.getElem?_cons_succ, List.getElem?_cons_zero]; rfl) rfl (fun K hK => ?_) AllReadyS.nil)
              refine callV (by intro c h; cases h) (by go_simp; try with_reducible rfl) HRh.out ?_
              intro v5 w5x hx
              obtain ⟨ho5, hB5⟩ := hx
              have B5 := hid (B3x.out.trans (hB5.mono B3x.out.size))
              have O5 := hid (O3.out.below hB5)
              have R5 := hid ho5
              refine hK.out _ _ (hSf.out _ B5.out) ?_
              clear hK K HRh ho5 hB5 O3 B3x
              refine wpAnyS_ready [6] (by kernel_rfl) (by simp) (AllReadyS.cons (by simp only [List.getElem?_toArray, List.getElem?_cons_succ, List.getElem?_cons_zero]; rfl) rfl (fun K hK => ?_) AllReadyS.nil)
              refine appIS (fun _ => trivial) _ (.tmp 116) (.tmp 118) rfl wi.heap.size (.slice A3 (rankL g).length c3) (rankL g) rfl O5.out _ v5 (rankL h) rfl R5.out (by have := hL1.out; have := hL2.out; omega) B5.out.size ?_
              intro A6 c6 w6x ho6 hg6
              have B6 := hid (B5.out.grown hg6 B5.out.size (fun q e => (own_blk O5.out q e).1))
              have O6 := hid ho6
              refine hK.out _ _ (hSf.out _ B6.out) ?_
              clear hK K ho6 hg6
              have hHeld := hSf.out _ B6.out
              refine wpAnyS_pure 7 (v := ?_) (fun _ => trivial) (by simp only [List.getElem?_toArray, List.getElem?_cons_succ, List.getElem?_cons_zero]; rfl) (by kernel_rfl) (fun _ _ _ _ _ h => h) ⟨rfl, (by intro c h; cases h), ?_⟩ hHeld ?_
              rotate_left
              focus (intro wS hSw; (try dsimp only at hSw); go_simp; (try with_reducible rfl))
              (try simp only [Act.put, List.setIfInBounds_toArray, List.set_cons_zero, List.set_cons_succ])
              refine wpAnyS_done (by kernel_rfl) ?_
              go_wp2_with fail
              go_meet
              exact ⟨_, rfl, O6.out, B6.out⟩
          case rest =>
            obtain ⟨v13, rfl, ho13, hB13⟩ := hcut
            have O13 := hid ho13
            have B13 := hid hB13
            have hSg := hid (fun (wq : World) (hb : Below wc.heap.size wc wq) => hSf.out wq (hB13.trans (hb.mono hB13.size)))
            have HBc := hid (HBw.out.trans (hB13.mono HBw.out.size))
            have hL3 := hid (show (solveL g).length ≤ 1000 by have := solve_len g; have := hok.out.s; omega)
            have hL4 := hid (show (solveL h).length ≤ 1000 by have := solve_len h; have := hokh.out.s; omega)
            clear ho13 hB13 x0 x1 y0 y1 xz yz
            generalize hwi2 : wc = w21 at *
            clear hwi2
            have ba := hid (show Below w21.heap.size w21 (w21.alloc (Obj.cells #[] 43)) by (repeat (first | exact Below.refl _ _ | assumption | refine below_drewN ?_ _ | refine Below.drew ?_ | refine Below.alloc ?_ (by (try simp); (try omega)) _ | refine Below.setCell ?_ (by (try simp); (try omega)) _)))
            have EA := hid (show OwnR (w21.alloc (Obj.cells #[] 43)) w21.heap.size (.slice (some ⟨w21.heap.size, 0, none⟩) 0 0) [] from ⟨rfl, .inr ⟨_, 0, #[], rfl, Nat.le_refl _, Blk.new w21 43 #[], Nat.le_refl _, by unfold maxLen; omega, rfl, rfl⟩⟩)
            have HR := hid (solve_any Ag Am cg cm g _ (HG.out.to (HBc.out.trans (ba.out.mono HBc.out.size))) hok.out)
            obtain ⟨x0, x1, y0, y1⟩ := hSg.out _ (Below.refl _ _)
            have xz : w.heap.size < w21.heap.size := by have := hyz.out; have := B13.out.size; omega
            have yz : w.heap.size + 1 < w21.heap.size := by have := hyz.out; have := B13.out.size; omega
            go_wp2_with fail
            refine HR.out.mono ?_
            rintro e w22 ⟨v22, rfl, ho22, hB22⟩
            have B22 := hid (ba.out.trans (hB22.mono ba.out.size))
            have E22 := hid (show OwnR w22 w21.heap.size (.slice (some ⟨w21.heap.size, 0, none⟩) 0 0) [] from EA.out.below hB22)
            have R22 := hid ho22
            clear HR ho22 hB22 EA ba x0 x1 y0 y1 xz yz
            go_upto_region 23 with (at_builtin; refine wp_appRR _ rfl (.tmp 120) (.tmp 122) rfl w21.heap.size (.slice (some ⟨w21.heap.size, 0, none⟩) 0 0) [] (solveL g).length rfl E22.out _ v22 (solveL g) rfl R22.out (by simp) (by have := hL3.out; simp; omega) B22.out.size ?_; intro A14 c14 w23 ho23 hg23; have O23 := hid ho23; have B23 := hid (B22.out.grown hg23 B22.out.size (fun q e => (own_blk E22.out q e).1)); clear ho23 hg23)
            rw [List.nil_append] at O23
            obtain ⟨x0, x1, y0, y1⟩ := hSg.out _ B23.out
            have yz : w.heap.size + 1 < w23.heap.size := by have := hyz.out; have := B13.out.size; have := B23.out.size; omega
            have HR := hid (solve_any Bg Bm dg dm h w23 (HH.out.to (HBc.out.trans (B23.out.mono HBc.out.size))) hokh.out)
            go_wp2_with fail
            refine HR.out.mono ?_
            rintro e w24 ⟨v24, rfl, ho24, hB24⟩
            obtain ⟨A24, c24, rfl, hl24, hs24, -⟩ := solve_form hokh.out ho24 hR2.out
            have B24 := hid (B23.out.trans (hB24.mono B23.out.size))
            have O24 := hid (O23.out.below hB24)
            have R24 := hid ho24
            have hz24 := hid hB24.size
            have hlt23 := hid (show ∀ q, (Value.slice A14 (solveL g).length c14).ownBlock = some q → q < w23.heap.size from fun q e => by obtain ⟨_, cs, hb⟩ := own_blk O23.out q e; exact hb.lt)
            have hne24 := hid (fun q (e : (Value.slice A24 (solveL h).length c24).ownBlock = some q) => show w23.heap.size ≤ q ∧ q < w24.heap.size from by obtain ⟨h1, cs, hb⟩ := own_blk R24.out q e; exact ⟨h1, hb.lt⟩)
            clear HR ho24 hB24 x0 x1 y0 y1 yz hl24 hs24 B22 E22 R22 O23 B23
            go_wp2_with fail
            go_loopw [14, 16] (fun lv kv wq => ∃ (k : Nat) (AV : Option Addr) (cV : Nat), k ≤ (solveL h).length ∧ kv = .int .i64 k ∧ lv = .slice AV ((solveL g).length + k) cV ∧ OwnR wq w21.heap.size (.slice AV ((solveL g).length + k) cV) (solveL g ++ ((solveL h).take k).map (shiftR g.1.length)) ∧ OwnR wq w23.heap.size (.slice A24 (solveL h).length c24) (solveL h) ∧ (∀ q, (Value.slice AV ((solveL g).length + k) cV).ownBlock = some q → q < w23.heap.size ∨ w24.heap.size ≤ q) ∧ Below w21.heap.size w21 wq ∧ w24.heap.size ≤ wq.heap.size) (fun _ kv _ => (solveL h).length - (intOf kv).toNat)
            case atStart => exact ⟨0, A14, c14, by omega, rfl, rfl, by simpa using O24.out, R24.out, fun q e => .inl (hlt23.out q e), B24.out, Nat.le_refl _⟩
            case round =>
              obtain ⟨k, AV, cV, hk, rfl, rfl, hO, hRo, hq, hB, hz⟩ := hrel
              have HO := hid hO; have HRo := hid hRo; have HQ := hid hq; have HBk := hid hB
              clear hO hRo hq hB
              by_cases hkl : k < (solveL h).length
              case neg =>
                obtain rfl : k = (solveL h).length := by omega
                rw [List.take_length] at HO
                have BF := hid (B13.out.trans (HBk.out.mono B13.out.size))
                have BWF := hid (HBw.out.trans (BF.out.mono HBw.out.size))
                obtain ⟨Aa, Ma, ca, ma, za, ra⟩ := (HD.out.below BF.out).og.read
                have HGr := hid (both_right hrg.out hrh.out (by omega))
                have HGk := hid (both_ok hok.out hokh.out (by omega))
                have HRK := hid (both_ranks hok.out hokh.out (by omega))
                have HSO := hid (both_rows hok.out hokh.out (by omega))
                have O13r := hid (O13.out.below HBk.out)
                have hSS := hid (show ∀ x ∈ solveL g ++ (solveL h).map (shiftR g.1.length), RowI x from fun x hx => by
                  rcases List.mem_append.1 hx with hx | hx
                  · exact hR1.out x hx
                  · exact shift_rows (by omega) hokh.out HAH.out x hx)
                have hSl := hid (show (solveL g ++ (solveL h).map (shiftR g.1.length)).length ≤ 2000 by have := hL3.out; have := hL4.out; simp; omega)
                have hRl := hid (show (rankL g ++ rankL h).length ≤ 2000 by have := hL1.out; have := hL2.out; simp; omega)
                have e14 : (solveL g).length + (solveL h).length = (solveL g ++ (solveL h).map (shiftR g.1.length)).length := by simp
                rw [e14] at HO ⊢
                have Z := hid za
                have RA := hid ra
                clear za ra e14 HRo HQ HD O13 B13 HBk hz hk hkl R24 hz24 hlt23 hne24 B24 O24 hSg hSf HBc hR1 hR2 HAG HAH hL1 hL2 hL3 hL4 hyz hwz
                generalize bothG g h = G at *
                generalize solveL g ++ (solveL h).map (shiftR g.1.length) = SS at *
                generalize rankL g ++ rankL h = RR at *
                have z0 := Z.out.cell 0; have z1 := Z.out.cell 1; have zz := Z.out.lt
                simp at z0 z1
                have HQ := hid (right_any Aa Ma ca ma G wr RA.out)
                rw [HGr.out] at HQ
                clear HGr
                go_wp2_with fail
                refine HQ.out.mono ?_
                rintro e w25 ⟨rfl, hB25⟩
                have Z25 := hid (Z.out.below hB25 Z.out.lt)
                have RA25 := hid (RA.out.to hB25)
                have O25 := hid (HO.out.below hB25)
                have V25 := hid (O13r.out.below hB25)
                have W25 := hid (BWF.out.trans (hB25.mono BWF.out.size))
                clear hB25 HQ Z RA HO O13r BWF z0 z1 zz BF
                have z0 := Z25.out.cell 0; have z1 := Z25.out.cell 1; have zz := Z25.out.lt
                simp at z0 z1
                have HQ := hid (ranks_any Aa Ma ca ma G w25 RA25.out HGk.out)
                go_wp2_with fail
                refine HQ.out.mono ?_
                rintro e w26 ⟨v26, rfl, ho26, hB26⟩
                obtain ⟨A26, c26, rfl, hl26, hs26, -, -, hb26⟩ := rank_form HGk.out ho26
                rw [HRK.out] at hb26 hs26 hl26
                obtain ⟨A13, c13, rfl, -, -, hs13⟩ := (V25.out.below hB26).slr (fun x hx => by have := hb26 x hx; exact ⟨by omega, by omega⟩)
                have HQ := hid (ints_any A26 A13 c26 c13 RR RR w26 hl26 hl26 hs26 hs13)
                rw [decide_eq_true rfl] at HQ
                rw [HRK.out]
                have Z26 := hid (Z25.out.below hB26 Z25.out.lt)
                have RA26 := hid (RA25.out.to hB26)
                have O26 := hid (O25.out.below hB26)
                have W26 := hid (W25.out.trans (hB26.mono W25.out.size))
                clear hB26 Z25 RA25 O25 V25 W25 z0 z1 zz hb26 hs26 hl26 hs13 ho26 HRK
                go_wp2_with fail
                refine HQ.out.mono ?_
                rintro e w27 ⟨rfl, hB27⟩
                have Z27 := hid (Z26.out.below hB27 Z26.out.lt)
                have RA27 := hid (RA26.out.to hB27)
                have O27 := hid (O26.out.below hB27)
                have W27 := hid (W26.out.trans (hB27.mono W26.out.size))
                clear hB27 HQ Z26 RA26 O26 W26
                have z0 := Z27.out.cell 0; have z1 := Z27.out.cell 1; have zz := Z27.out.lt
                simp at z0 z1
                have HQ := hid (solve_any Aa Ma ca ma G w27 RA27.out HGk.out)
                go_wp2_with fail
                refine HQ.out.mono ?_
                rintro e w28 ⟨v28, rfl, ho28, hB28⟩
                obtain ⟨A28, c28, rfl, hl28, hs28, -⟩ := solve_form HGk.out ho28 (by rw [HSO.out]; exact hSS.out)
                rw [HSO.out] at hs28 hl28
                obtain ⟨A14', c14', e14, -, -, hs14⟩ := (O27.out.below hB28).slr hSS.out
                injection e14 with e1 e2 e3
                subst e1 e3
                have HQ := hid (samerows_any A28 AV c28 cV SS SS w28 hl28 hl28 hs28 hs14)
                rw [decide_eq_true rfl] at HQ
                rw [HSO.out]
                have W28 := hid (W27.out.trans (hB28.mono W27.out.size))
                clear hB28 Z27 RA27 O27 W27 z0 z1 zz hs28 hl28 hs14 ho28 e2 HSO
                go_wp2_with fail
                refine HQ.out.mono ?_
                rintro e w29 ⟨rfl, hB29⟩
                have W29 := hid (W28.out.trans (hB29.mono W28.out.size))
                clear hB29 HQ W28
                go_wp2_with fail
                go_ret
                exact ⟨rfl, W29.out⟩
              have hkI : (k : Int) < (solveL h).length := by omega
              have hkb : k ≤ 1000 := by have := hL4.out; omega
              have hk1 := hid (show k + 1 ≤ (solveL h).length by omega)
              obtain ⟨A9, c9, e9, -, -, hs9⟩ := HRo.out.slr hR2.out
              injection e9 with e1 e2 e3
              subst e1 e3
              clear e2
              obtain ⟨br, ofr, rfl, hbr, r0, r1, r2, -⟩ := hs9.row hkl
              have hp := solve_pos _ (List.getElem_mem hkl)
              have HRT := hid (rows_take (n := g.1.length) hkl)
              have hlw := hid (show (solveL g ++ ((solveL h).take k).map (shiftR g.1.length)).length = (solveL g).length + k by simp; omega)
              have hl9 := hid (show (solveL g ++ ((solveL h).take k).map (shiftR g.1.length)).length ≤ 1000000 by rw [hlw.out]; have := hL3.out; have := hL4.out; omega)
              generalize (solveL h)[k] = row at *
              obtain ⟨rp, rac, rrk⟩ := row
              simp only at r0 r1 r2 hp
              have hwr : IntKind.i64.wrap (rp + (g.1.length : Int)) = rp + (g.1.length : Int) := IntWalk.i64_in _ (by omega)
              have b29 := hid (show Below wr.heap.size wr ((wr.alloc (Obj.cells #[.int .i64 (rp + (g.1.length : Int)), .int .i64 rac, .int .i64 rrk] 43)).alloc (Obj.cells #[.int .i64 (rp + (g.1.length : Int)), .int .i64 rac, .int .i64 rrk] 43)) by (repeat (first | exact Below.refl _ _ | assumption | refine below_drewN ?_ _ | refine Below.drew ?_ | refine Below.alloc ?_ (by (try simp); (try omega)) _ | refine Below.setCell ?_ (by (try simp); (try omega)) _)))
              have O29 := hid (HO.out.below b29.out)
              have R29 := hid (HRo.out.below b29.out)
              have N29 := hid (show Blk ((wr.alloc (Obj.cells #[.int .i64 (rp + (g.1.length : Int)), .int .i64 rac, .int .i64 rrk] 43)).alloc (Obj.cells #[.int .i64 (rp + (g.1.length : Int)), .int .i64 rac, .int .i64 rrk] 43)) (wr.heap.size + 1) 43 #[.int .i64 (rp + (g.1.length : Int)), .int .i64 rac, .int .i64 rrk] from Blk.new_at (by simp))
              have B29 := hid (HBk.out.trans (b29.out.mono HBk.out.size))
              have hzz := b29.out.size
              clear HO HRo hs9
              go_wp2_with (at_builtin; refine wp_appRowX _ rfl (.tmp 141) (.tmp 143) rfl w21.heap.size (.slice AV ((solveL g).length + k) cV) _ ((solveL g).length + k) hlw.out rfl O29.out (wr.heap.size + 1) 1 (rp + (g.1.length : Int), rac, rrk) rfl N29.out hl9.out B29.out.size ?_; intro A5 c5 w5 ho5 hg5 hat; have HO5 := hid ho5; have B5 := hid (B29.out.grown hg5 B29.out.size (fun q e => (own_blk O29.out q e).1)); have HR5 := hid (R29.out.apart hg5 (fun q e e2 => by have := hne24.out q e; have := HQ.out q e2; omega)); have HQ5 := hid (fun q (e : (Value.slice A5 ((solveL g).length + k + 1) c5).ownBlock = some q) => show q < w23.heap.size ∨ w24.heap.size ≤ q from hat.elim (fun h1 => HQ.out q (h1.symm.trans e)) (fun h1 => by rw [h1] at e; injection e with e; right; omega)); have hz5 := hid (Nat.le_trans (Nat.le_trans hz hzz) hg5.size); clear ho5 hg5 hat)
              go_roundw
              case rel => exact ⟨k + 1, A5, c5, hk1.out, by go_num, rfl, by rw [HRT.out, ← List.append_assoc]; exact HO5.out, HR5.out, HQ5.out, B5.out, hz5.out⟩
              case measure => have := hk1.out; simp [intOf]; omega
        have hi2 : i < h.2.length := by rw [← hokh.out.n]; exact hlt
        have hL0 := HH.out.mvs.list hi2
        have hLm := hid (hokh.out.m _ (List.getElem_mem hi2))
        have hLl := hokh.out.l _ (List.getElem_mem hi2)
        have HBS := hid (bothK_succ (g := g) hlt hi2)
        have HGB := hid (HH.out.goal.bool hlt)
        have HAI := hid HH.out.acts
        generalize h.2[i] = l at *
        obtain ⟨bM, oM, A', c', rfl, hbM, hcM, -, -, hsM⟩ := hL0
        obtain ⟨bG, oG, rfl, hbG, hcG⟩ := HGB.out
        have HSM := hid hsM
        have hll : l.length ≤ 1000 := hLl
        have hltI : (i : Int) < h.1.length := by omega
        have hlt2I : (i : Int) < h.2.length := by omega
        have hwz := HBw.out.size
        have HX := hid (show ∀ wq, Below wr.heap.size wr wq → wq.cell? ⟨w.heap.size + 1, 0, none⟩ = some (.slice (some ⟨bG, oG, none⟩) h.1.length dg) ∧ wq.cell? ⟨w.heap.size + 1, 1, none⟩ = some (.slice (some ⟨bM, oM, none⟩) h.2.length dm) ∧ w.heap.size + 1 < wq.heap.size ∧ wq.cell? ⟨bG, oG + i, none⟩ = some (.bool h.1[i]) ∧ bG < wq.heap.size ∧ wq.cell? ⟨bM, oM + i, none⟩ = some (.slice A' l.length c') ∧ bM < wq.heap.size ∧ Below w.heap.size w wq from fun wq hb => by
          obtain ⟨_, _, _, f0, f1, fz, hb9⟩ := HXY.out wq (HB.out.trans (hb.mono HB.out.size))
          have hz := hb9.size
          exact ⟨f0, f1, fz, (bcell hb9 bG _ hbG).trans hcG, by omega, (bcell hb9 bM _ hbM).trans hcM, by omega, hb9⟩)
        clear hLl hcM hsM hcG x0 x1 xz HGB
        generalize hwi : wr = wi at *
        clear hwi
        go_wp2_with fail
        go_loopw [9, 10] (fun lv kv wq => ∃ (k : Nat) (AL : Option Addr) (cL : Nat) (xs : List (Int × Value)), k ≤ l.length ∧ kv = .int .i64 k ∧ lv = .slice AL k cL ∧ OwnM wq wi.heap.size (.slice AL k cL) xs ∧ MvR wq xs ((l.take k).map (shiftM g.1.length)) ∧ Below wi.heap.size wi wq) (fun _ kv _ => l.length - (intOf kv).toNat)
        case atStart => exact ⟨0, none, 0, [], by omega, rfl, rfl, ⟨rfl, .inl ⟨rfl, rfl⟩⟩, by simpa using MvR.nil _, Below.refl _ _⟩
        case round =>
          obtain ⟨k, AL, cL, xs, hk, rfl, rfl, hM, hR, hB⟩ := hrel
          clear y0 y1 yz
          obtain ⟨y0, y1, yz, eG, zG, eM, zM, hBw⟩ := HX.out wr hB
          have HM := hid hM; have HR := hid hR; have HBi := hid hB; have HBw2 := hid hBw
          have hxk := hid (show xs.length = k by have := hR.len; simp at this; omega)
          clear hM hR hB hBw
          by_cases hkl : k < l.length
          case neg =>
            obtain rfl : k = l.length := by omega
            clear hkl hk
            rw [List.take_length] at HR
            have D9 := hid (HD.out.below HBi.out)
            have B49 := hid (HB.out.trans (HBi.out.mono HB.out.size))
            have z0 := D9.out.blk.cell 0; have z1 := D9.out.blk.cell 1; have zz := D9.out.blk.lt
            simp at z0 z1
            have b1 := hid (show Below wr.heap.size wr ((wr.alloc (Obj.cells #[.bool h.1[i]] 4)).drew) by (repeat (first | exact Below.refl _ _ | assumption | refine below_drewN ?_ _ | refine Below.drew ?_ | refine Below.alloc ?_ (by (try simp); (try omega)) _ | refine Below.setCell ?_ (by (try simp); (try omega)) _)))
            have N1 := hid (show Blk ((wr.alloc (Obj.cells #[.bool h.1[i]] 4)).drew) wr.heap.size 4 #[.bool h.1[i]] from (Blk.new wr _ _).drew)
            have hgl := hid (show (bothK g h i).1.length ≤ 10000000 by simp [bothK]; omega)
            have hSf := hid (fun (wq : World) (hb : Below wr.heap.size wr wq) => show wq.cell? ⟨b7, 0, none⟩ = some (.slice AG nG cG) ∧ wq.cell? ⟨w.heap.size + 1, 0, none⟩ = some (.slice (some ⟨bG, oG, none⟩) h.1.length dg) ∧ wq.cell? ⟨bG, oG + i, none⟩ = some (.bool h.1[i]) from ⟨(bcell hb b7 0 zz).trans z0, (bcell hb _ _ yz).trans y0, (bcell hb _ _ zG).trans eG⟩)
            have bd := hid (show Below wr.heap.size wr wr.drew by (repeat (first | exact Below.refl _ _ | assumption | refine below_drewN ?_ _ | refine Below.drew ?_ | refine Below.alloc ?_ (by (try simp); (try omega)) _ | refine Below.setCell ?_ (by (try simp); (try omega)) _)))
            go_upto_region 19 with fail
            refine wpIn_wide.1 (wpIn_region_S (n := 0) (fun wq => wq.cell? ⟨b7, 0, none⟩ = some (.slice AG nG cG) ∧ wq.cell? ⟨w.heap.size + 1, 0, none⟩ = some (.slice (some ⟨bG, oG, none⟩) h.1.length dg) ∧ wq.cell? ⟨bG, oG + i, none⟩ = some (.bool h.1[i])) [10] (by kernel_rfl) (hSf.out _ bd.out) (fun hHeld => ?_))
            refine wpAnyS_pure 0 (v := ?_) (fun _ => trivial) (by simp only [List.getElem?_toArray, List.getElem?_cons_succ, List.getElem?_cons_zero]; rfl) (by kernel_rfl) (fun _ _ _ _ _ h => h) ⟨rfl, (by intro c h; cases h), ?_⟩ hHeld ?_
            rotate_left
            focus (intro wS hSw; (try dsimp only at hSw); go_simp; (try with_reducible rfl))
            (try simp only [Act.put, List.setIfInBounds_toArray, List.set_cons_zero, List.set_cons_succ])
            refine wpAnyS_take 1 (v := ?_) (fun _ => trivial) (by simp only [List.getElem?_toArray, List.getElem?_cons_succ, List.getElem?_cons_zero]; rfl) (by kernel_rfl) (fun _ _ _ _ _ h => h) ⟨rfl, (by intro c h; cases h), ?_⟩ hHeld ?_
            rotate_left
            focus (intro wS hSw; (try dsimp only at hSw); go_simp; (try with_reducible rfl))
            (try simp only [Act.put, List.setIfInBounds_toArray, List.set_cons_zero, List.set_cons_succ])
            refine wpAnyS_pure 2 (v := ?_) (fun _ => trivial) (by simp only [List.getElem?_toArray, List.getElem?_cons_succ, List.getElem?_cons_zero]; rfl) (by kernel_rfl) (fun _ _ _ _ _ h => h) ⟨rfl, (by intro c h; cases h), ?_⟩ hHeld ?_
            rotate_left
            focus (intro wS hSw; (try dsimp only at hSw); go_simp; (try with_reducible rfl))
            (try simp only [Act.put, List.setIfInBounds_toArray, List.set_cons_zero, List.set_cons_succ])
            refine wpAnyS_take 3 (v := ?_) (fun _ => trivial) (by simp only [List.getElem?_toArray, List.getElem?_cons_succ, List.getElem?_cons_zero]; rfl) (by kernel_rfl) (fun _ _ _ _ _ h => h) ⟨rfl, (by intro c h; cases h), ?_⟩ hHeld ?_
            rotate_left
            focus (intro wS hSw; (try dsimp only at hSw); go_simp; (try with_reducible rfl))
            (try simp only [Act.put, List.setIfInBounds_toArray, List.set_cons_zero, List.set_cons_succ])
            refine wpAnyS_pure 4 (v := ?_) (fun _ => trivial) (by simp only [List.getElem?_toArray, List.getElem?_cons_succ, List.getElem?_cons_zero]; rfl) (by kernel_rfl) (fun _ _ _ _ _ h => h) ⟨rfl, (by intro c h; cases h), ?_⟩ hHeld ?_
            rotate_left
            focus (intro wS hSw; (try dsimp only at hSw); go_simp; (try with_reducible rfl))
            (try simp only [Act.put, List.setIfInBounds_toArray, List.set_cons_zero, List.set_cons_succ])
            refine wpAnyS_pure 5 (v := ?_) (fun _ => trivial) (by simp only [List.getElem?_toArray, List.getElem?_cons_succ, List.getElem?_cons_zero]; rfl) (by kernel_rfl) (fun _ _ _ _ _ h => h) ⟨rfl, (by intro c h; cases h), ?_⟩ hHeld ?_
            rotate_left
            focus (intro wS hSw; (try dsimp only at hSw); go_simp; (try with_reducible rfl))
            (try simp only [Act.put, List.setIfInBounds_toArray, List.set_cons_zero, List.set_cons_succ])
            refine wpAnyS_take 6 (v := ?_) (fun _ => trivial) (by simp only [List.getElem?_toArray, List.getElem?_cons_succ, List.getElem?_cons_zero]; rfl) (by kernel_rfl) (fun _ _ _ _ _ h => h) ⟨rfl, (by intro c h; cases h), ?_⟩ hHeld ?_
            rotate_left
            focus (intro wS hSw; (try dsimp only at hSw); go_simp; (try with_reducible rfl))
            (try simp only [Act.put, List.setIfInBounds_toArray, List.set_cons_zero, List.set_cons_succ])
            refine wpAnyS_ready [7] (by kernel_rfl) (by simp) (AllReadyS.cons (by simp only [List.getElem?_toArray, List.getElem?_cons_succ, List.getElem?_cons_zero]; rfl) rfl (fun K hK => ?_) AllReadyS.nil)
            go_simp
            refine hK.out _ _ (hSf.out _ b1.out) ?_
            clear hK K hHeld z0
            have D8 := hid (D9.out.below b1.out)
            have S8 := hid (hSf.out _ b1.out)
            have B48 := hid (B49.out.trans (b1.out.mono B49.out.size))
            have HM8 := hid (own_kt (ts := [41]) HM.out (KT.of_below b1.out) (by decide))
            have HR8 := hid (HR.out.kt (ts := [3]) (KT.of_below b1.out) (by decide))
            have hbz := hid (show ((wr.alloc (Obj.cells #[.bool h.1[i]] 4)).drew).heap.size = wr.heap.size + 1 by simp)
            have BI8 := hid (HBi.out.trans (b1.out.mono HBi.out.size))
            clear D9 B49 HM HR b1
            generalize (wr.alloc (Obj.cells #[.bool h.1[i]] 4)).drew = w7 at *
            generalize wr.heap.size = nz at *
            refine wpAnyS_ready [8] (by kernel_rfl) (by simp) (AllReadyS.cons (by simp only [List.getElem?_toArray, List.getElem?_cons_succ, List.getElem?_cons_zero]; rfl) rfl (fun K hK => ?_) AllReadyS.nil)
            refine appB1S (fun _ => trivial) _ (.tmp 98) (.tmp 104) rfl w4.heap.size (.slice AG nG cG) (bothK g h i).1 _ rfl rfl D8.out.goal nz 1 h.1[i] rfl N1.out hgl.out B48.out.size ?_
            intro gq cq w8 ho8 hg8
            have hf8 := D8.out.blk.grown hg8 (own_blk_ne D8.out.goal D8.out.blk (by decide)).symm
            have DD := hid (D8.out.push0 hg8 ho8)
            have k8 := hid ((KT.of_grown (ts := [3, 41, 38]) hg8 (fun q e => by obtain ⟨_, cs, hb⟩ := own_blk D8.out.goal q e; exact ⟨_, cs, hb, by decide⟩)).trans (KT.of_set (i := 0) hf8 (by decide) (.slice (some ⟨gq, 0, none⟩) ((bothK g h i).1.length + 1) cq)))
            have B9 := hid ((B48.out.grown hg8 B48.out.size (fun q e => (own_blk D8.out.goal q e).1)).setCell (p := ⟨b7, 0, none⟩) (by exact D8.out.lo) (.slice (some ⟨gq, 0, none⟩) ((bothK g h i).1.length + 1) cq))
            have z0 := hf8.cell 0; have zf := hf8.frozen 0; have zz8 := hf8.lt
            simp at z0
            have hlo := B48.out.size
            have hHeld := And.intro z0 (And.intro ((hg8.cell_far ⟨w.heap.size + 1, 0, none⟩ (by show w.heap.size + 1 < w7.heap.size; omega) (fun e => by have h9 : w4.heap.size ≤ w.heap.size + 1 := (own_blk D8.out.goal _ e.symm).1; omega)).trans S8.out.2.1) ((hg8.cell_far ⟨bG, oG + i, none⟩ (by show bG < w7.heap.size; omega) (fun e => by have h9 : w4.heap.size ≤ bG := (own_blk D8.out.goal _ e.symm).1; omega)).trans S8.out.2.2))
            refine hK.out _ _ hHeld ?_
            clear hK K
            refine wpAnyS_pure 9 (v := ?_) (fun _ => trivial) (by simp only [List.getElem?_toArray, List.getElem?_cons_succ, List.getElem?_cons_zero]; rfl) (by kernel_rfl) (fun _ _ _ _ _ h => h) ⟨rfl, (by intro c h; cases h), ?_⟩ hHeld ?_
            rotate_left
            focus (intro wS hSw; (try dsimp only at hSw); go_simp; (try with_reducible rfl))
            (try simp only [Act.put, List.setIfInBounds_toArray, List.set_cons_zero, List.set_cons_succ])
            refine wpAnyS_ready [10] (by kernel_rfl) (by simp) (AllReadyS.consL (by simp only [List.getElem?_toArray, List.getElem?_cons_succ, List.getElem?_cons_zero]; rfl) rfl (by kernel_rfl) (fun K hK => ?_) AllReadyS.nil)
            go_simp
            refine hK.out _ _ ?_
            clear hK K hHeld
            refine wpAnyS_done (by kernel_rfl) ?_
            have HM9 := hid (own_kt HM8.out k8.out (by decide))
            have HR9 := hid (HR8.out.kt k8.out (by decide))
            clear HM8 HR8 k8 z0 zf zz8 hf8 hg8 ho8 D8 B48 BI8 S8 hSf N1 hlo bd zz z1 eG eM zG zM y0 y1 yz hbz
            generalize w8.setCell ⟨b7, 0, none⟩ (.slice (some ⟨gq, 0, none⟩) ((bothK g h i).1.length + 1) cq) = w9 at *
            have b10 := hid ((Below.refl w9.heap.size w9).alloc (Nat.le_refl _) (Obj.cells #[.slice AL l.length cL] 38))
            have D10 := hid (DD.out.below b10.out)
            have M10 := hid (own_kt (ts := [41]) HM9.out (KT.of_below b10.out) (by decide))
            have R10 := hid (HR9.out.kt (ts := [3]) (KT.of_below b10.out) (by decide))
            have nb10 := hid (Blk.new w9 38 #[.slice AL l.length cL])
            have B10 := hid (B9.out.trans (b10.out.mono B9.out.size))
            have hvn := hid (show vs.length ≤ 1000000 by have h7 := HD.out.nest.len; have h8 := hokh.out.n; have h9 := hok.out.n; simp [bothK] at h7; omega)
            have hlow := hid HD.out.nest.low
            have hbs := HB.out.size
            have z1 := DD.out.blk.cell 1; have zz := DD.out.blk.lt
            simp at z1
            clear DD HM9 HR9 B9 b10
            go_wp2_with (at_builtin; refine wp_appLs _ rfl (.tmp 108) (.tmp 110) rfl w4.heap.size (.slice AM nM cM) vs rfl D10.out.mvs w9.heap.size 1 (.slice AL l.length cL) rfl rfl nb10.out hvn.out B10.out.size ?_; intro vM w5 ho5 hg5; obtain ⟨A5, c5', rfl⟩ := ownL_form ho5 rfl; have EE := hid (D10.out.push1 hg5 ho5 M10.out R10.out hlow.out hbs); have hf5 := D10.out.blk.grown hg5 (own_blk_ne D10.out.mvs D10.out.blk (by decide)).symm; have q1 := hf5.cell 1; have qf := hf5.frozen 1; have qz := hf5.lt; simp at q1; have BE := hid ((B10.out.grown hg5 B10.out.size (fun q e => (own_blk D10.out.mvs q e).1)).setCell (p := ⟨b7, 1, none⟩) (by exact D10.out.lo) (.slice A5 (vs.length + 1) c5')); clear ho5 hg5 hf5)
            go_roundw
            case rel => exact ⟨i + 1, _, _, _, _, _, _, _, by omega, by go_num, by rw [HBS.out]; exact EE.out, BE.out⟩
            case measure => simp [intOf]; omega
          have hkI : (k : Int) < l.length := by omega
          have hmk := HSM.out.mv hkl
          have hmo := hid (hLm.out _ (List.getElem_mem hkl))
          have HTK := hid (moved_take (n := g.1.length) hkl)
          generalize l[k] = mk at *
          obtain ⟨act, tos⟩ := mk
          simp only at hmk
          obtain ⟨b4, off4, A4, c4, rfl, hb4, m0, m1, -, -, hs4, hi4⟩ := hmk
          have htl : 0 < tos.length := List.length_pos_iff.2 hmo.out.2.2.1
          obtain ⟨b5, off5, rfl, hb5, -⟩ := hs4.int htl
          have htn : tos.length ≤ 1000 := hmo.out.1
          have HS4 := hid hs4
          have HI4 := hid hi4
          have n0 := (bcell HBw2.out b4 _ hb4).trans m0
          have n4 : b4 < wr.heap.size := by have := HBw2.out.size; omega
          have b1 := hid ((Below.refl wr.heap.size wr).alloc (Nat.le_refl _) (Obj.cells #[.int .i64 act, .slice none 0 0] 41))
          have HY := hid (show ∀ wq, Below wr.heap.size wr wq → wq.cell? ⟨w.heap.size + 1, 1, none⟩ = some (.slice (some ⟨bM, oM, none⟩) h.2.length dm) ∧ w.heap.size + 1 < wq.heap.size ∧ wq.cell? ⟨bM, oM + i, none⟩ = some (.slice (some ⟨b4, off4, none⟩) l.length c') ∧ bM < wq.heap.size ∧ wq.cell? ⟨b4, off4 + k * 2 + 1, none⟩ = some (.slice (some ⟨b5, off5, none⟩) tos.length c4) ∧ b4 < wq.heap.size ∧ Below w.heap.size w wq from fun wq hb => by
            obtain ⟨_, f1, fz, _, _, fM, fMz, hb9⟩ := HX.out wq (HBi.out.trans (hb.mono HBi.out.size))
            have hz := hb9.size
            exact ⟨f1, fz, fM, fMz, (bcell hb9 b4 _ hb4).trans m1, by omega, hb9⟩)
          have hMT := hid hmo.out.2.2.2
          clear m0 m1 hs4 hi4 hmo eG zG y0
          have hj1 := hid yz
          generalize hwj : wr = wj at *
          clear hwj
          go_wp2_with fail
          go_loopw [12] (fun jv wq => ∃ (j : Nat) (AT : Option Addr) (nT cT : Nat), j ≤ tos.length ∧ jv = .int .i64 j ∧ Blk wq wj.heap.size 41 #[.int .i64 act, .slice AT nT cT] ∧ OwnI wq wj.heap.size (.slice AT nT cT) ((tos.take j).map (fun t => t + (g.1.length : Int))) ∧ Below wj.heap.size wj wq) (fun jv _ => tos.length - (intOf jv).toNat)
          case atStart => exact ⟨0, none, 0, 0, by omega, rfl, Blk.new wj _ _, ⟨rfl, .inl ⟨rfl, rfl⟩⟩, b1.out⟩
          case round =>
            obtain ⟨j, AT, nT, cT, hj, rfl, hT, hO, hB⟩ := hrel
            clear y1 yz eM zM n0 n4
            obtain ⟨y1, yz, eM, zM, n1, n4, hb5w⟩ := HY.out wr hB
            have HT := hid hT; have HO := hid hO; have HBj := hid hB; have HB5 := hid hb5w
            have t0 := hT.cell 0; have t1 := hT.cell 1; have tz := hT.lt
            simp at t0 t1
            clear hT hO hB hb5w
            by_cases hjl : j < tos.length
            case neg =>
              obtain rfl : j = tos.length := by omega
              rw [List.take_length] at HO
              have b18 := hid ((Below.refl wr.heap.size wr).alloc (Nat.le_refl _) (Obj.cells #[.int .i64 act, .slice AT nT cT] 41))
              have bj18 := hid (HBj.out.trans (b18.out.mono HBj.out.size))
              have M18 := hid (own_kt (ts := [41]) HM.out (KT.of_below bj18.out) (by decide))
              have R18 := hid ((HR.out.kt (ts := [3]) (KT.of_below bj18.out) (by decide)).snoc HI4.out (own_base (own_kt (ts := [3]) HO.out (KT.of_below b18.out) (by decide)) (Nat.zero_le _)) (by
                intro t ht
                obtain ⟨y, hy, rfl⟩ := List.mem_map.1 ht
                have := hMT.out y hy
                exact ⟨by omega, by omega⟩))
              have nb18 := hid (Blk.new wr 41 #[.int .i64 act, .slice AT nT cT])
              have hxl := hid (show xs.length ≤ 1000000 by have := hxk.out; omega)
              have hbi := hid (show wi.heap.size ≤ (wr.alloc (Obj.cells #[.int .i64 act, .slice AT nT cT] 41)).heap.size from Nat.le_trans HBi.out.size bj18.out.size)
              have BI18 := hid (HBi.out.trans (bj18.out.mono HBi.out.size))
              as_aux_lemma =>
                go_wp2_with (at_builtin; refine wp_appMs _ rfl (.tmp 93) (.tmp 95) rfl wi.heap.size (.slice AL k cL) xs _ hxk.out rfl M18.out wr.heap.size 1 (act, .slice AT nT cT) rfl rfl nb18.out hxl.out hbi.out ?_; intro A5 c5 w5 ho5 hg5; have HO5 := hid ho5; have k5 := hid (KT.of_grown (ts := [3]) hg5 (fun q e => by obtain ⟨_, cs, hb⟩ := own_blk M18.out q e; exact ⟨_, cs, hb, by decide⟩)); have B5 := hid (BI18.out.grown hg5 hbi.out (fun q e => (own_blk M18.out q e).1)); clear ho5 hg5)
                go_roundw
                case rel => exact ⟨k + 1, _, _, _, by omega, by go_num, rfl, HO5.out, by rw [HTK.out]; exact R18.out.kt k5.out (by decide), B5.out⟩
                case measure => simp [intOf]; omega
            have hjI : (j : Int) < tos.length := by omega
            have htj := hid (HS4.out.int_at hjl)
            have htb := hMT.out _ (List.getElem_mem hjl)
            have HTT := hid (tos_take (n := g.1.length) hjl)
            generalize tos[j] = tv at *
            have hwr : IntKind.i64.wrap (tv + (g.1.length : Int)) = tv + (g.1.length : Int) := IntWalk.i64_in _ (by omega)
            have b17 := hid (show Below wr.heap.size wr ((wr.alloc (Obj.cells #[.int .i64 (tv + (g.1.length : Int))] 3)).drew) by (repeat (first | exact Below.refl _ _ | assumption | refine below_drewN ?_ _ | refine Below.drew ?_ | refine Below.alloc ?_ (by (try simp); (try omega)) _ | refine Below.setCell ?_ (by (try simp); (try omega)) _)))
            have bd := hid (show Below wr.heap.size wr wr.drew by (repeat (first | exact Below.refl _ _ | assumption | refine below_drewN ?_ _ | refine Below.drew ?_ | refine Below.alloc ?_ (by (try simp); (try omega)) _ | refine Below.setCell ?_ (by (try simp); (try omega)) _)))
            have n5 : b5 < wr.heap.size := by have := HB5.out.size; omega
            have e5 := (bcell HB5.out b5 _ hb5).trans htj.out
            have hSf := hid (fun (wq : World) (hb : Below wr.heap.size wr wq) => show wq.cell? ⟨wj.heap.size, 1, none⟩ = some (.slice AT nT cT) ∧ wq.cell? ⟨w.heap.size + 1, 1, none⟩ = some (.slice (some ⟨bM, oM, none⟩) h.2.length dm) ∧ wq.cell? ⟨bM, oM + i, none⟩ = some (.slice (some ⟨b4, off4, none⟩) l.length c') ∧ wq.cell? ⟨b4, off4 + k * 2 + 1, none⟩ = some (.slice (some ⟨b5, off5, none⟩) tos.length c4) ∧ wq.cell? ⟨b5, off5 + j, none⟩ = some (.int .i64 tv) from ⟨(bcell hb _ _ tz).trans t1, (bcell hb _ _ yz).trans y1, (bcell hb _ _ zM).trans eM, (bcell hb _ _ n4).trans n1, (bcell hb _ _ n5).trans e5⟩)
            have O17 := hid (HO.out.below b17.out)
            have T17 := hid (HT.out.below b17.out HT.out.lt)
            have B17 := hid (HBj.out.trans (b17.out.mono HBj.out.size))
            have hc17 := hid (show ((wr.alloc (Obj.cells #[.int .i64 (tv + (g.1.length : Int))] 3)).drew).cell? ⟨wr.heap.size, 0, none⟩ = some (.int .i64 (tv + (g.1.length : Int))) by simp)
            have hl17 := hid (show ((tos.take j).map (fun t => t + (g.1.length : Int))).length = j by simp; omega)
            have hl18 := hid (show ((tos.take j).map (fun t => t + (g.1.length : Int))).length ≤ 10000000 by rw [hl17.out]; omega)
            clear HO HT
            as_aux_lemma =>
              go_upto_region 17 with fail
              refine wpIn_wide.1 (wpIn_region_S (n := 0) (fun wq => wq.cell? ⟨wj.heap.size, 1, none⟩ = some (.slice AT nT cT) ∧ wq.cell? ⟨w.heap.size + 1, 1, none⟩ = some (.slice (some ⟨bM, oM, none⟩) h.2.length dm) ∧ wq.cell? ⟨bM, oM + i, none⟩ = some (.slice (some ⟨b4, off4, none⟩) l.length c') ∧ wq.cell? ⟨b4, off4 + k * 2 + 1, none⟩ = some (.slice (some ⟨b5, off5, none⟩) tos.length c4) ∧ wq.cell? ⟨b5, off5 + j, none⟩ = some (.int .i64 tv)) [19] (by kernel_rfl) (hSf.out _ bd.out) (fun hHeld => ?_))
              refine wpAnyS_pure 0 (v := ?_) (fun _ => trivial) (by simp only [List.getElem?_toArray, List.getElem?_cons_succ, List.getElem?_cons_zero]; rfl) (by kernel_rfl) (fun _ _ _ _ _ h => h) ⟨rfl, (by intro c h; cases h), ?_⟩ hHeld ?_
              rotate_left
              focus (intro wS hSw; (try dsimp only at hSw); go_simp; (try with_reducible rfl))
              (try simp only [Act.put, List.setIfInBounds_toArray, List.set_cons_zero, List.set_cons_succ])
              refine wpAnyS_take 1 (v := ?_) (fun _ => trivial) (by simp only [List.getElem?_toArray, List.getElem?_cons_succ, List.getElem?_cons_zero]; rfl) (by kernel_rfl) (fun _ _ _ _ _ h => h) ⟨rfl, (by intro c h; cases h), ?_⟩ hHeld ?_
              rotate_left
              focus (intro wS hSw; (try dsimp only at hSw); go_simp; (try with_reducible rfl))
              (try simp only [Act.put, List.setIfInBounds_toArray, List.set_cons_zero, List.set_cons_succ])
              refine wpAnyS_pure 2 (v := ?_) (fun _ => trivial) (by simp only [List.getElem?_toArray, List.getElem?_cons_succ, List.getElem?_cons_zero]; rfl) (by kernel_rfl) (fun _ _ _ _ _ h => h) ⟨rfl, (by intro c h; cases h), ?_⟩ hHeld ?_
              rotate_left
              focus (intro wS hSw; (try dsimp only at hSw); go_simp; (try with_reducible rfl))
              (try simp only [Act.put, List.setIfInBounds_toArray, List.set_cons_zero, List.set_cons_succ])
              refine wpAnyS_take 3 (v := ?_) (fun _ => trivial) (by simp only [List.getElem?_toArray, List.getElem?_cons_succ, List.getElem?_cons_zero]; rfl) (by kernel_rfl) (fun _ _ _ _ _ h => h) ⟨rfl, (by intro c h; cases h), ?_⟩ hHeld ?_
              rotate_left
              focus (intro wS hSw; (try dsimp only at hSw); go_simp; (try with_reducible rfl))
              (try simp only [Act.put, List.setIfInBounds_toArray, List.set_cons_zero, List.set_cons_succ])
              refine wpAnyS_pure 4 (v := ?_) (fun _ => trivial) (by simp only [List.getElem?_toArray, List.getElem?_cons_succ, List.getElem?_cons_zero]; rfl) (by kernel_rfl) (fun _ _ _ _ _ h => h) ⟨rfl, (by intro c h; cases h), ?_⟩ hHeld ?_
              rotate_left
              focus (intro wS hSw; (try dsimp only at hSw); go_simp; (try with_reducible rfl))
              (try simp only [Act.put, List.setIfInBounds_toArray, List.set_cons_zero, List.set_cons_succ])
              refine wpAnyS_pure 5 (v := ?_) (fun _ => trivial) (by simp only [List.getElem?_toArray, List.getElem?_cons_succ, List.getElem?_cons_zero]; rfl) (by kernel_rfl) (fun _ _ _ _ _ h => h) ⟨rfl, (by intro c h; cases h), ?_⟩ hHeld ?_
              rotate_left
              focus (intro wS hSw; (try dsimp only at hSw); go_simp; (try with_reducible rfl))
              (try simp only [Act.put, List.setIfInBounds_toArray, List.set_cons_zero, List.set_cons_succ])
              refine wpAnyS_take 6 (v := ?_) (fun _ => trivial) (by simp only [List.getElem?_toArray, List.getElem?_cons_succ, List.getElem?_cons_zero]; rfl) (by kernel_rfl) (fun _ _ _ _ _ h => h) ⟨rfl, (by intro c h; cases h), ?_⟩ hHeld ?_
              rotate_left
              focus (intro wS hSw; (try dsimp only at hSw); go_simp; (try with_reducible rfl))
              (try simp only [Act.put, List.setIfInBounds_toArray, List.set_cons_zero, List.set_cons_succ])
              refine wpAnyS_pure 7 (v := ?_) (fun _ => trivial) (by simp only [List.getElem?_toArray, List.getElem?_cons_succ, List.getElem?_cons_zero]; rfl) (by kernel_rfl) (fun _ _ _ _ _ h => h) ⟨rfl, (by intro c h; cases h), ?_⟩ hHeld ?_
              rotate_left
              focus (intro wS hSw; (try dsimp only at hSw); go_simp; (try with_reducible rfl))
              (try simp only [Act.put, List.setIfInBounds_toArray, List.set_cons_zero, List.set_cons_succ])
              refine wpAnyS_pure 8 (v := ?_) (fun _ => trivial) (by simp only [List.getElem?_toArray, List.getElem?_cons_succ, List.getElem?_cons_zero]; rfl) (by kernel_rfl) (fun _ _ _ _ _ h => h) ⟨rfl, (by intro c h; cases h), ?_⟩ hHeld ?_
              rotate_left
              focus (intro wS hSw; (try dsimp only at hSw); go_simp; (try with_reducible rfl))
              (try simp only [Act.put, List.setIfInBounds_toArray, List.set_cons_zero, List.set_cons_succ])
              refine wpAnyS_pure 9 (v := ?_) (fun _ => trivial) (by simp only [List.getElem?_toArray, List.getElem?_cons_succ, List.getElem?_cons_zero]; rfl) (by kernel_rfl) (fun _ _ _ _ _ h => h) ⟨rfl, (by intro c h; cases h), ?_⟩ hHeld ?_
              rotate_left
              focus (intro wS hSw; (try dsimp only at hSw); go_simp; (try with_reducible rfl))
              (try simp only [Act.put, List.setIfInBounds_toArray, List.set_cons_zero, List.set_cons_succ])
              refine wpAnyS_take 10 (v := ?_) (fun _ => trivial) (by simp only [List.getElem?_toArray, List.getElem?_cons_succ, List.getElem?_cons_zero]; rfl) (by kernel_rfl) (fun _ _ _ _ _ h => h) ⟨rfl, (by intro c h; cases h), ?_⟩ hHeld ?_
              rotate_left
              focus (intro wS hSw; (try dsimp only at hSw); go_simp; (try with_reducible rfl))
              (try simp only [Act.put, List.setIfInBounds_toArray, List.set_cons_zero, List.set_cons_succ])
              refine wpAnyS_pure 11 (v := ?_) (fun _ => trivial) (by simp only [List.getElem?_toArray, List.getElem?_cons_succ, List.getElem?_cons_zero]; rfl) (by kernel_rfl) (fun _ _ _ _ _ h => h) ⟨rfl, (by intro c h; cases h), ?_⟩ hHeld ?_
              rotate_left
              focus (intro wS hSw; (try dsimp only at hSw); go_simp; (try with_reducible rfl))
              (try simp only [Act.put, List.setIfInBounds_toArray, List.set_cons_zero, List.set_cons_succ])
              refine wpAnyS_pure 12 (v := ?_) (fun _ => trivial) (by simp only [List.getElem?_toArray, List.getElem?_cons_succ, List.getElem?_cons_zero]; rfl) (by kernel_rfl) (fun _ _ _ _ _ h => h) ⟨rfl, (by intro c h; cases h), ?_⟩ hHeld ?_
              rotate_left
              focus (intro wS hSw; (try dsimp only at hSw); go_simp; (try with_reducible rfl))
              (try simp only [Act.put, List.setIfInBounds_toArray, List.set_cons_zero, List.set_cons_succ])
              refine wpAnyS_take 13 (v := ?_) (fun _ => trivial) (by simp only [List.getElem?_toArray, List.getElem?_cons_succ, List.getElem?_cons_zero]; rfl) (by kernel_rfl) (fun _ _ _ _ _ h => h) ⟨rfl, (by intro c h; cases h), ?_⟩ hHeld ?_
              rotate_left
              focus (intro wS hSw; (try dsimp only at hSw); go_simp; (try with_reducible rfl))
              (try simp only [Act.put, List.setIfInBounds_toArray, List.set_cons_zero, List.set_cons_succ])
              refine wpAnyS_pure 14 (v := ?_) (fun _ => trivial) (by simp only [List.getElem?_toArray, List.getElem?_cons_succ, List.getElem?_cons_zero]; rfl) (by kernel_rfl) (fun _ _ _ _ _ h => h) ⟨rfl, (by intro c h; cases h), ?_⟩ hHeld ?_
              rotate_left
              focus (intro wS hSw; (try dsimp only at hSw); go_simp; (try with_reducible rfl))
              (try simp only [Act.put, List.setIfInBounds_toArray, List.set_cons_zero, List.set_cons_succ])
              refine wpAnyS_pure 15 (v := ?_) (fun _ => trivial) (by simp only [List.getElem?_toArray, List.getElem?_cons_succ, List.getElem?_cons_zero]; rfl) (by kernel_rfl) (fun _ _ _ _ _ h => h) ⟨rfl, (by intro c h; cases h), ?_⟩ hHeld ?_
              rotate_left
              focus (intro wS hSw; (try dsimp only at hSw); go_simp; (try with_reducible rfl))
              (try simp only [Act.put, List.setIfInBounds_toArray, List.set_cons_zero, List.set_cons_succ])
              refine wpAnyS_ready [16] (by kernel_rfl) (by simp) (AllReadyS.cons (by simp only [List.getElem?_toArray, List.getElem?_cons_succ, List.getElem?_cons_zero]; rfl) rfl (fun K hK => ?_) AllReadyS.nil)
              go_simp
              refine hK.out _ _ (hSf.out _ b17.out) ?_
              clear hK K hHeld
              have S17 := hid (hSf.out _ b17.out)
              have hz17 := hid (show ((wr.alloc (Obj.cells #[.int .i64 (tv + (g.1.length : Int))] 3)).drew).heap.size = wr.heap.size + 1 by simp)
              generalize (wr.alloc (Obj.cells #[.int .i64 (tv + (g.1.length : Int))] 3)).drew = w17 at *
              generalize wr.heap.size = nz at *
              refine wpAnyS_ready [17] (by kernel_rfl) (by simp) (AllReadyS.cons (by simp only [List.getElem?_toArray, List.getElem?_cons_succ, List.getElem?_cons_zero]; rfl) rfl (fun K hK => ?_) AllReadyS.nil)
              refine appI1S (fun _ => trivial) _ (.tmp 75) (.tmp 90) rfl wj.heap.size (.slice AT nT cT) ((tos.take j).map (fun t => t + (g.1.length : Int))) j hl17.out rfl O17.out nz 1 (tv + (g.1.length : Int)) rfl hc17.out hl18.out B17.out.size ?_
              intro gq cq w8 ho8 hg8
              have hf8 := T17.out.grown hg8 (own_blk_ne O17.out T17.out (by decide)).symm
              have k8 := hid (KT.of_set (ts := [3]) (i := 1) hf8 (by decide) (.slice (some ⟨gq, 0, none⟩) (j + 1) cq))
              have HO8 := hid (own_kt ho8 k8.out (by decide))
              have HT8 := hid (show Blk (w8.setCell ⟨wj.heap.size, 1, none⟩ (.slice (some ⟨gq, 0, none⟩) (j + 1) cq)) wj.heap.size 41 #[.int .i64 act, .slice (some ⟨gq, 0, none⟩) (j + 1) cq] by simpa using hf8.set_ 1 (.slice (some ⟨gq, 0, none⟩) (j + 1) cq))
              have B8 := hid ((B17.out.grown hg8 B17.out.size (fun q e => (own_blk O17.out q e).1)).setCell (p := ⟨wj.heap.size, 1, none⟩) (Nat.le_refl _) (.slice (some ⟨gq, 0, none⟩) (j + 1) cq))
              have z1 := hf8.cell 1; have zf := hf8.frozen 1; have zz8 := hf8.lt
              simp at z1
              have hwjz := HB5.out.size
              have hHeld : w8.cell? ⟨wj.heap.size, 1, none⟩ = some (.slice AT nT cT) ∧ w8.cell? ⟨w.heap.size + 1, 1, none⟩ = some (.slice (some ⟨bM, oM, none⟩) h.2.length dm) ∧ w8.cell? ⟨bM, oM + i, none⟩ = some (.slice (some ⟨b4, off4, none⟩) l.length c') ∧ w8.cell? ⟨b4, off4 + k * 2 + 1, none⟩ = some (.slice (some ⟨b5, off5, none⟩) tos.length c4) ∧ w8.cell? ⟨b5, off5 + j, none⟩ = some (.int .i64 tv) := by
                have far : ∀ b o, b < nz → b < wj.heap.size → w8.cell? ⟨b, o, none⟩ = w17.cell? ⟨b, o, none⟩ := fun b o h1 h2 => hg8.cell_far ⟨b, o, none⟩ (by show b < w17.heap.size; have := hz17.out; omega) (fun e => by have h9 : wj.heap.size ≤ b := (own_blk O17.out _ e.symm).1; omega)
                have hjz := HBw2.out.size
                exact ⟨z1, (far _ _ yz hj1.out).trans S17.out.2.1, (far _ _ zM (by omega)).trans S17.out.2.2.1, (far _ _ n4 (by omega)).trans S17.out.2.2.2.1, (far _ _ n5 (by omega)).trans S17.out.2.2.2.2⟩
              refine hK.out _ _ hHeld ?_
              clear hK K
              refine wpAnyS_pure 18 (v := ?_) (fun _ => trivial) (by simp only [List.getElem?_toArray, List.getElem?_cons_succ, List.getElem?_cons_zero]; rfl) (by kernel_rfl) (fun _ _ _ _ _ h => h) ⟨rfl, (by intro c h; cases h), ?_⟩ hHeld ?_
              rotate_left
              focus (intro wS hSw; (try dsimp only at hSw); go_simp; (try with_reducible rfl))
              (try simp only [Act.put, List.setIfInBounds_toArray, List.set_cons_zero, List.set_cons_succ])
              refine wpAnyS_ready [19] (by kernel_rfl) (by simp) (AllReadyS.consL (by simp only [List.getElem?_toArray, List.getElem?_cons_succ, List.getElem?_cons_zero]; rfl) rfl (by kernel_rfl) (fun K hK => ?_) AllReadyS.nil)
              go_simp
              refine hK.out _ _ ?_
              clear hK K hHeld z1 zf zz8 hf8 ho8 hg8
              refine wpAnyS_done (by kernel_rfl) ?_
              go_wp2_with fail
              go_roundw
              case rel => exact ⟨j + 1, _, _, _, by omega, by go_num, HT8.out, by rw [HTT.out]; exact HO8.out, B8.out⟩
              case measure => simp [intOf]; omega
end Go.Proofs.Ytiaplhdgchbkkaa
