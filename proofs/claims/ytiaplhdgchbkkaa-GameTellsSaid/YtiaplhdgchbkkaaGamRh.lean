
/- Game: GameTells, the walk. -/
import Derived.Test.YtiaplhdgchbkkaaGamRb
import Derived.Test.YtiaplhdgchbkkaaGamRg
import Derived.Test.YtiaplhdgchbkkaaRegG
set_option linter.unusedSimpArgs false
set_option linter.unusedVariables false
namespace Go.Proofs.Ytiaplhdgchbkkaa
open Go.RowKit Go.IntWalk Go.Shelf

theorem callE {n : Nat} {P : Program} {o : Oper} {a : Act} {w : World} {K : Act → World → Prop} {Q : Exit → Act → World → Prop} {f : FuncId} {args : Array Value} {R : Value → World → Prop} (hd : ∀ c, o.op ≠ .defer c)
    (hr : (execOp a.eval o).run P w = .ok (.enter f args) w) (hc : Calls P f args w fun e w' => ∃ v, e = .returned v ∧ R v w') (h : ∀ v w', R v w' → K (a.put o.dst v) w') : o.wpIn Fence.wide n P a w K Q := by
  unfold Oper.wpIn
  rw [Oper.semAt_plain _ _ _ hd, hr]
  exact ⟨fun f _ => trivial, fun h => by simp [Fence.wide] at h, callsIn_wide.2 (hc.mono fun e w' he => by obtain ⟨v, rfl, hR⟩ := he; exact h v w' hR)⟩
set_option maxRecDepth 100000 in
set_option maxHeartbeats 40000000 in
theorem gtells_any (w : World) (Ag Am : Option Addr) (cg cm : Nat) (g : Gm) (h : GmR w w.heap.size Ag Am g) (pos : Int) (hpos : I64 pos) (act : Int) (hact : I64 act) :
    Calls Try.prog 3 #[.agg #[.slice Ag g.1.length cg, .slice Am g.2.length cm], .int .i64 pos, .int .i64 act] w fun e w' => e = .returned (.bool true) ∧ Below w.heap.size w w' := by
  have B1 := hid (show Below w.heap.size w (w.alloc (Obj.cells #[.slice Ag g.1.length cg, .slice Am g.2.length cm] 25)) by (repeat (first | exact Below.refl _ _ | assumption | refine below_drewN ?_ _ | refine Below.drew ?_ | refine Below.alloc ?_ (by (try simp); (try omega)) _ | refine Below.setCell ?_ (by (try simp); (try omega)) _)))
  have X1 := hid (Blk.new w 25 #[.slice Ag g.1.length cg, .slice Am g.2.length cm])
  have H := hid h
  have HA := hid h.acts
  have HS := hid (small_any (w.alloc (Obj.cells #[.slice Ag g.1.length cg, .slice Am g.2.length cm] 25)))
  clear h hpos hact
  go_enter Try.func3, Try.ntmps3
  go_wp2_with fail
  refine HS.out.mono ?_
  rintro e w2 ⟨rfl, hB2⟩
  have B2 := hid (B1.out.trans (hB2.mono B1.out.size))
  have X2 := hid (X1.out.below hB2 X1.out.lt)
  have G2 := hid (H.out.to B2.out)
  clear hB2 B1 X1 HS
  have x0 := X2.out.cell 0; have x1 := X2.out.cell 1; have xz := X2.out.lt
  simp at x0 x1
  have HG := hid (few_any Ag Am cg cm g 60 (by omega) w2 G2.out)
  go_wp2_with fail
  refine HG.out.mono ?_
  rintro e w3 ⟨rfl, hB3⟩
  have B3 := hid (B2.out.trans (hB3.mono B2.out.size))
  have X3 := hid (X2.out.below hB3 X2.out.lt)
  clear hB3 B2 X2 HG G2 x0 x1 xz
  have x0 := X3.out.cell 0; have x1 := X3.out.cell 1; have xz := X3.out.lt
  simp at x0 x1
  cases hfw : fewL g 60 with
  | false =>
    as_aux_lemma =>
      go_wp2_with fail
      go_ret
      exact ⟨rfl, B3.out⟩
  | true =>
    have HFW := hid hfw
    clear hfw
    have HR1 := hid (right_any Ag Am cg cm g w3.drew (H.out.to B3.out.drew))
    go_upto_region 4 with fail
    refine wpIn_wide.1 (wpIn_region_S (n := 0) (fun w' => w'.cell? ⟨w.heap.size, 0, none⟩ = some (.slice Ag g.1.length cg) ∧ w'.cell? ⟨w.heap.size, 1, none⟩ = some (.slice Am g.2.length cm)) [3] (by kernel_rfl) ⟨x0, x1⟩ (fun hHeld => ?_))
    refine wpAnyS_take 0 (v := ?_) (fun _ => trivial) (by simp only [List.getElem?_toArray, List.getElem?_cons_succ, List.getElem?_cons_zero]; rfl) (by kernel_rfl) (fun _ _ _ _ _ h => h) ⟨rfl, (by intro c h; cases h), ?_⟩ hHeld ?_
    rotate_left
    focus (intro wS hSw; (try dsimp only at hSw); go_simp; (try with_reducible rfl))
    (try simp only [Act.put, List.setIfInBounds_toArray, List.set_cons_zero, List.set_cons_succ])
    refine wpAnyS_take 2 (v := ?_) (fun _ => trivial) (by simp only [List.getElem?_toArray, List.getElem?_cons_succ, List.getElem?_cons_zero]; rfl) (by kernel_rfl) (fun _ _ _ _ _ h => h) ⟨rfl, (by intro c h; cases h), ?_⟩ hHeld ?_
    rotate_left
    focus (intro wS hSw; (try dsimp only at hSw); go_simp; (try with_reducible rfl))
    (try simp only [Act.put, List.setIfInBounds_toArray, List.set_cons_zero, List.set_cons_succ])
    refine wpAnyS_ready [1] (by kernel_rfl) (by simp) (AllReadyS.cons (by simp only [List.getElem?_toArray, List.getElem?_cons_succ, List.getElem?_cons_zero]; rfl) rfl (fun K hK => ?_) AllReadyS.nil)
    refine callS (by intro c h; cases h) (by go_simp; try with_reducible rfl) HR1.out ?_
    intro w4 hB4
    have X4 := hid (X3.out.below ((Below.refl w3.heap.size w3).drew.trans hB4) X3.out.lt)
    have B4 := hid (B3.out.trans (((Below.refl w3.heap.size w3).drew.trans hB4).mono B3.out.size))
    have z0 := X4.out.cell 0; have z1 := X4.out.cell 1
    simp at z0 z1
    refine hK.out _ _ ⟨z0, z1⟩ ?_
    (try simp only [Act.put, List.setIfInBounds_toArray, List.set_cons_zero, List.set_cons_succ])
    clear hK K hHeld HR1 hB4 x0 x1 xz X3 B3
    have HR1 := hid (rright_any Ag Am cg cm g w4 (H.out.to B4.out))
    refine wpAnyS_ready [3] (by kernel_rfl) (by simp) (AllReadyS.consL (by simp only [List.getElem?_toArray, List.getElem?_cons_succ, List.getElem?_cons_zero]; rfl) rfl (by kernel_rfl) (fun K hK => ?_) AllReadyS.nil)
    refine callS (by intro c h; cases h) (by go_simp; try with_reducible rfl) HR1.out ?_
    intro w5 hB5
    have X5 := hid (X4.out.below hB5 X4.out.lt)
    have B5 := hid (B4.out.trans (hB5.mono B4.out.size))
    refine hK.out _ _ ?_
    (try simp only [Act.put, List.setIfInBounds_toArray, List.set_cons_zero, List.set_cons_succ])
    clear hK K HR1 hB5 z0 z1 X4 B4
    refine wpAnyS_pureL 4 (v := ?_) (fun _ => trivial) (by simp only [List.getElem?_toArray, List.getElem?_cons_succ, List.getElem?_cons_zero]; rfl) (by kernel_rfl) (by kernel_rfl) (fun _ _ _ _ _ h => h) ⟨rfl, (by intro c h; cases h), ?_⟩ ?_
    rotate_left
    focus (intro wS hSw; (try dsimp only at hSw); go_simp; (try with_reducible rfl))
    (try simp only [Act.put, List.setIfInBounds_toArray, List.set_cons_zero, List.set_cons_succ])
    refine wpAnyS_done (by kernel_rfl) ?_
    have x0 := X5.out.cell 0; have x1 := X5.out.cell 1; have xz := X5.out.lt
    simp at x0 x1
    have HR1 := hid (rright_any Ag Am cg cm g w5 (H.out.to B5.out))
    go_wp2_with fail
    refine HR1.out.mono ?_
    rintro e w6 ⟨rfl, hB6⟩
    have X6 := hid (X5.out.below hB6 X5.out.lt)
    have B6 := hid (B5.out.trans (hB6.mono B5.out.size))
    clear HR1 hB6 x0 x1 xz X5 B5
    cases hrt : rightL g with
    | false =>
      as_aux_lemma =>
        go_wp2_with fail
        go_ret
        exact ⟨rfl, B6.out⟩
    | true =>
      have hok := hid (ok_of HFW.out hrt (by omega))
      clear hrt
      have x0 := X6.out.cell 0; have x1 := X6.out.cell 1; have xz := X6.out.lt
      simp at x0 x1
      have HR := hid (rranks_any Ag Am cg cm g w6 (H.out.to B6.out) hok.out)
      go_wp2_with fail
      refine HR.out.mono ?_
      rintro e w7 ⟨v7, rfl, ho7, hB7⟩
      obtain ⟨AR, cR, rfl, hlR, hsR, hrn, hr1, hrb⟩ := rank_form hok.out ho7
      have B7 := hid (B6.out.trans (hB7.mono B6.out.size))
      have X7 := hid (X6.out.below hB7 X6.out.lt)
      have S7 := hid hsR
      have HLR := hid hlR; have HRN := hid hrn
      clear ho7 hB7 hsR hlR hrn hr1 hrb x0 x1 xz HR X6 B6
      have x0 := X7.out.cell 0; have x1 := X7.out.cell 1; have xz := X7.out.lt
      simp at x0 x1
      have HR := hid (answer_any Ag Am AR cg cm cR g (rankL g) pos act w7 (H.out.to B7.out) hok.out HLR.out S7.out)
      go_wp2_with fail
      refine HR.out.mono ?_
      rintro e w8 ⟨rfl, hB8⟩
      have B8 := hid (B7.out.trans (hB8.mono B7.out.size))
      have X8 := hid (X7.out.below hB8 X7.out.lt)
      have S8 := hid ((S7.out.below hB8).more hB8.size)
      clear hB8 x0 x1 xz HR X7 B7 S7
      have x0 := X8.out.cell 0; have x1 := X8.out.cell 1; have xz := X8.out.lt
      simp at x0 x1
      have HR := hid (ranswer_any Ag Am AR cg cm cR g (rankL g) pos act w8 (H.out.to B8.out) hok.out HLR.out S8.out (by have := HRN.out; have := hok.out.n; omega))
      go_wp2_with fail
      refine HR.out.mono ?_
      rintro e w9 ⟨rfl, hB9⟩
      have B9 := hid (B8.out.trans (hB9.mono B8.out.size))
      have X9 := hid (X8.out.below hB9 X8.out.lt)
      have S9 := hid ((S8.out.below hB9).more hB9.size)
      clear hB9 x0 x1 xz HR X8 B8 S8
      have x0 := X9.out.cell 0; have x1 := X9.out.cell 1; have xz := X9.out.lt
      simp at x0 x1
      generalize (answerL g (rankL g) pos act).1 = an at *
      generalize (answerL g (rankL g) pos act).2 = bn at *
      have HR := hid (ranks_any Ag Am cg cm g w9.drew (H.out.to B9.out.drew) hok.out)
      go_upto_region 11 with fail
      refine wpIn_wide.1 (wpIn_region_S (n := 0) (fun w' => w'.cell? ⟨w.heap.size, 0, none⟩ = some (.slice Ag g.1.length cg) ∧ w'.cell? ⟨w.heap.size, 1, none⟩ = some (.slice Am g.2.length cm)) [22] (by kernel_rfl) ⟨x0, x1⟩ (fun hHeld => ?_))
      refine wpAnyG_pure 0 (v := ?_) (fun _ => trivial) (by simp only [List.getElem?_toArray, List.getElem?_cons_succ, List.getElem?_cons_zero]; rfl) (by kernel_rfl) (fun _ _ _ _ _ h => h) ⟨(by rfl), (by intro c h; cases h), ?_⟩ hHeld ?_
      rotate_left
      focus (intro wS hSw; (try dsimp only at hSw); go_simp; (try with_reducible rfl))
      (try simp only [Act.put, List.setIfInBounds_toArray, List.set_cons_zero, List.set_cons_succ])
      refine wpAnyG_pure 1 (v := ?_) (fun _ => trivial) (by simp only [List.getElem?_toArray, List.getElem?_cons_succ, List.getElem?_cons_zero]; rfl) (by kernel_rfl) (fun _ _ _ _ _ h => h) ⟨(by rfl), (by intro c h; cases h), ?_⟩ hHeld ?_
      rotate_left
      focus (intro wS hSw; (try dsimp only at hSw); go_simp; (try with_reducible rfl))
      (try simp only [Act.put, List.setIfInBounds_toArray, List.set_cons_zero, List.set_cons_succ])
      refine wpAnyG_pure 2 (v := ?_) (fun _ => trivial) (by simp only [List.getElem?_toArray, List.getElem?_cons_succ, List.getElem?_cons_zero]; rfl) (by kernel_rfl) (fun _ _ _ _ _ h => h) ⟨(by rfl), (by intro c h; cases h), ?_⟩ hHeld ?_
      rotate_left
      focus (intro wS hSw; (try dsimp only at hSw); go_simp; (try with_reducible rfl))
      (try simp only [Act.put, List.setIfInBounds_toArray, List.set_cons_zero, List.set_cons_succ])
      refine wpAnyG_pure 3 (v := ?_) (fun _ => trivial) (by simp only [List.getElem?_toArray, List.getElem?_cons_succ, List.getElem?_cons_zero]; rfl) (by kernel_rfl) (fun _ _ _ _ _ h => h) ⟨(by rfl), (by intro c h; cases h), ?_⟩ hHeld ?_
      rotate_left
      focus (intro wS hSw; (try dsimp only at hSw); go_simp; (try with_reducible rfl))
      (try simp only [Act.put, List.setIfInBounds_toArray, List.set_cons_zero, List.set_cons_succ])
      refine wpAnyG_pure 4 (v := ?_) (fun _ => trivial) (by simp only [List.getElem?_toArray, List.getElem?_cons_succ, List.getElem?_cons_zero]; rfl) (by kernel_rfl) (fun _ _ _ _ _ h => h) ⟨(by rfl), (by intro c h; cases h), ?_⟩ hHeld ?_
      rotate_left
      focus (intro wS hSw; (try dsimp only at hSw); go_simp; (try with_reducible rfl))
      (try simp only [Act.put, List.setIfInBounds_toArray, List.set_cons_zero, List.set_cons_succ])
      refine wpAnyG_pure 5 (v := ?_) (fun _ => trivial) (by simp only [List.getElem?_toArray, List.getElem?_cons_succ, List.getElem?_cons_zero]; rfl) (by kernel_rfl) (fun _ _ _ _ _ h => h) ⟨(by rfl), (by intro c h; cases h), ?_⟩ hHeld ?_
      rotate_left
      focus (intro wS hSw; (try dsimp only at hSw); go_simp; (try with_reducible rfl))
      (try simp only [Act.put, List.setIfInBounds_toArray, List.set_cons_zero, List.set_cons_succ])
      refine wpAnyG_pure 6 (v := ?_) (fun _ => trivial) (by simp only [List.getElem?_toArray, List.getElem?_cons_succ, List.getElem?_cons_zero]; rfl) (by kernel_rfl) (fun _ _ _ _ _ h => h) ⟨(by rfl), (by intro c h; cases h), ?_⟩ hHeld ?_
      rotate_left
      focus (intro wS hSw; (try dsimp only at hSw); go_simp; (try with_reducible rfl))
      (try simp only [Act.put, List.setIfInBounds_toArray, List.set_cons_zero, List.set_cons_succ])
      refine wpAnyG_pure 7 (v := ?_) (fun _ => trivial) (by simp only [List.getElem?_toArray, List.getElem?_cons_succ, List.getElem?_cons_zero]; rfl) (by kernel_rfl) (fun _ _ _ _ _ h => h) ⟨(by rfl), (by intro c h; cases h), ?_⟩ hHeld ?_
      rotate_left
      focus (intro wS hSw; (try dsimp only at hSw); go_simp; (try with_reducible rfl))
      (try simp only [Act.put, List.setIfInBounds_toArray, List.set_cons_zero, List.set_cons_succ])
      refine wpAnyG_pure 8 (v := ?_) (fun _ => trivial) (by simp only [List.getElem?_toArray, List.getElem?_cons_succ, List.getElem?_cons_zero]; rfl) (by kernel_rfl) (fun _ _ _ _ _ h => h) ⟨(by rfl), (by intro c h; cases h), ?_⟩ hHeld ?_
      rotate_left
      focus (intro wS hSw; (try dsimp only at hSw); go_simp; (try with_reducible rfl))
      (try simp only [Act.put, List.setIfInBounds_toArray, List.set_cons_zero, List.set_cons_succ])
      refine wpAnyG_pure 9 (v := ?_) (fun _ => trivial) (by simp only [List.getElem?_toArray, List.getElem?_cons_succ, List.getElem?_cons_zero]; rfl) (by kernel_rfl) (fun _ _ _ _ _ h => h) ⟨(by rfl), (by intro c h; cases h), ?_⟩ hHeld ?_
      rotate_left
      focus (intro wS hSw; (try dsimp only at hSw); go_simp; (try with_reducible rfl))
      (try simp only [Act.put, List.setIfInBounds_toArray, List.set_cons_zero, List.set_cons_succ])
      refine wpAnyG_pure 10 (v := ?_) (fun _ => trivial) (by simp only [List.getElem?_toArray, List.getElem?_cons_succ, List.getElem?_cons_zero]; rfl) (by kernel_rfl) (fun _ _ _ _ _ h => h) ⟨(by rfl), (by intro c h; cases h), ?_⟩ hHeld ?_
      rotate_left
      focus (intro wS hSw; (try dsimp only at hSw); go_simp; (try with_reducible rfl))
      (try simp only [Act.put, List.setIfInBounds_toArray, List.set_cons_zero, List.set_cons_succ])
      refine wpAnyG_pure 11 (v := ?_) (fun _ => trivial) (by simp only [List.getElem?_toArray, List.getElem?_cons_succ, List.getElem?_cons_zero]; rfl) (by kernel_rfl) (fun _ _ _ _ _ h => h) ⟨(by rfl), (by intro c h; cases h), ?_⟩ hHeld ?_
      rotate_left
      focus (intro wS hSw; (try dsimp only at hSw); go_simp; (try with_reducible rfl))
      (try simp only [Act.put, List.setIfInBounds_toArray, List.set_cons_zero, List.set_cons_succ])
      refine wpAnyG_take 12 (v := ?_) (fun _ => trivial) (by simp only [List.getElem?_toArray, List.getElem?_cons_succ, List.getElem?_cons_zero]; rfl) (by kernel_rfl) (fun _ _ _ _ _ h => h) ⟨(by rfl), (by intro c h; cases h), ?_⟩ hHeld ?_
      rotate_left
      focus (intro wS hSw; (try dsimp only at hSw); go_simp; (try with_reducible rfl))
      (try simp only [Act.put, List.setIfInBounds_toArray, List.set_cons_zero, List.set_cons_succ])
      refine wpAnyG_pure 14 (v := ?_) (fun _ => trivial) (by simp only [List.getElem?_toArray, List.getElem?_cons_succ, List.getElem?_cons_zero]; rfl) (by kernel_rfl) (fun _ _ _ _ _ h => h) ⟨(by rfl), (by intro c h; cases h), ?_⟩ hHeld ?_
      rotate_left
      focus (intro wS hSw; (try dsimp only at hSw); go_simp; (try with_reducible rfl))
      (try simp only [Act.put, List.setIfInBounds_toArray, List.set_cons_zero, List.set_cons_succ])
      refine wpAnyS_ready [13] (by kernel_rfl) (by simp) (AllReadyS.consG (by simp only [List.getElem?_toArray, List.getElem?_cons_succ, List.getElem?_cons_zero]; rfl) (by rfl) (fun K hK => ?_) AllReadyS.nil)
      refine callE (by intro c h; cases h) (by go_simp; try with_reducible rfl) HR.out ?_
      intro v10 w10 hx10
      obtain ⟨ho10, hB10⟩ := hx10
      obtain ⟨A1, c1, rfl, hl1, hs1, _, _, _⟩ := rank_form hok.out ho10
      have b10 : Below w9.heap.size w9 w10 := (Below.refl w9.heap.size w9).drew.trans hB10
      have X10 := hid (X9.out.below b10 X9.out.lt)
      have B10 := hid (B9.out.trans (b10.mono B9.out.size))
      have S10 := hid ((S9.out.below b10).more b10.size)
      have U10 := hid hs1
      have z0 := X10.out.cell 0; have z1 := X10.out.cell 1
      simp at z0 z1
      refine hK.out _ _ ⟨z0, z1⟩ ?_
      (try simp only [Act.put, List.setIfInBounds_toArray, List.set_cons_zero, List.set_cons_succ])
      clear hK K hHeld HR hB10 ho10 hl1 hs1 b10 z0 z1 X9 B9 S9 x0 x1 xz
      have HR := hid (ints_any A1 AR c1 cR (rankL g) (rankL g) w10 HLR.out HLR.out U10.out S10.out)
      rw [decide_eq_true rfl] at HR
      refine wpAnyS_ready [15] (by kernel_rfl) (by simp) (AllReadyS.consG (by simp only [List.getElem?_toArray, List.getElem?_cons_succ, List.getElem?_cons_zero]; rfl) (by rfl) (fun K hK => ?_) AllReadyS.nil)
      refine callS (by intro c h; cases h) (by go_simp; try with_reducible rfl) HR.out ?_
      intro w11 hB11
      have X11 := hid (X10.out.below hB11 X10.out.lt)
      have B11 := hid (B10.out.trans (hB11.mono B10.out.size))
      have z0 := X11.out.cell 0; have z1 := X11.out.cell 1
      simp at z0 z1
      refine hK.out _ _ ⟨z0, z1⟩ ?_
      (try simp only [Act.put, List.setIfInBounds_toArray, List.set_cons_zero, List.set_cons_succ])
      clear hK K HR hB11 X10 B10 S10 U10
      have hHeld := And.intro z0 z1
      refine wpAnyG_pure 16 (v := ?_) (fun _ => trivial) (by simp only [List.getElem?_toArray, List.getElem?_cons_succ, List.getElem?_cons_zero]; rfl) (by kernel_rfl) (fun _ _ _ _ _ h => h) ⟨(by rfl), (by intro c h; cases h), ?_⟩ hHeld ?_
      rotate_left
      focus (intro wS hSw; (try dsimp only at hSw); go_simp; (try with_reducible rfl))
      (try simp only [Act.put, List.setIfInBounds_toArray, List.set_cons_zero, List.set_cons_succ])
      refine wpAnyG_pure 17 (v := ?_) (fun _ => trivial) (by simp only [List.getElem?_toArray, List.getElem?_cons_succ, List.getElem?_cons_zero]; rfl) (by kernel_rfl) (fun _ _ _ _ _ h => h) ⟨(by rfl), (by intro c h; cases h), ?_⟩ hHeld ?_
      rotate_left
      focus (intro wS hSw; (try dsimp only at hSw); go_simp; (try with_reducible rfl))
      (try simp only [Act.put, List.setIfInBounds_toArray, List.set_cons_zero, List.set_cons_succ])
      refine wpAnyG_take 18 (v := ?_) (fun _ => trivial) (by simp only [List.getElem?_toArray, List.getElem?_cons_succ, List.getElem?_cons_zero]; rfl) (by kernel_rfl) (fun _ _ _ _ _ h => h) ⟨(by rfl), (by intro c h; cases h), ?_⟩ hHeld ?_
      rotate_left
      focus (intro wS hSw; (try dsimp only at hSw); go_simp; (try with_reducible rfl))
      (try simp only [Act.put, List.setIfInBounds_toArray, List.set_cons_zero, List.set_cons_succ])
      refine wpAnyG_take 20 (v := ?_) (fun _ => trivial) (by simp only [List.getElem?_toArray, List.getElem?_cons_succ, List.getElem?_cons_zero]; rfl) (by kernel_rfl) (fun _ _ _ _ _ h => h) ⟨(by rfl), (by intro c h; cases h), ?_⟩ hHeld ?_
      rotate_left
      focus (intro wS hSw; (try dsimp only at hSw); go_simp; (try with_reducible rfl))
      (try simp only [Act.put, List.setIfInBounds_toArray, List.set_cons_zero, List.set_cons_succ])
      have HR := hid (solve_any Ag Am cg cm g w11 (H.out.to B11.out) hok.out)
      refine wpAnyS_ready [19] (by kernel_rfl) (by simp) (AllReadyS.consG (by simp only [List.getElem?_toArray, List.getElem?_cons_succ, List.getElem?_cons_zero]; rfl) (by rfl) (fun K hK => ?_) AllReadyS.nil)
      refine callE (by intro c h; cases h) (by go_simp; try with_reducible rfl) HR.out ?_
      intro v12 w12 hx12
      obtain ⟨ho12, hB12⟩ := hx12
      obtain ⟨A3, c3, rfl, hl3, hs3, _⟩ := solve_form hok.out ho12 (solve_rows hok.out HA.out)
      have X12 := hid (X11.out.below hB12 X11.out.lt)
      have B12 := hid (B11.out.trans (hB12.mono B11.out.size))
      have U12 := hid hs3
      have HL3 := hid hl3
      have z0 := X12.out.cell 0; have z1 := X12.out.cell 1
      simp at z0 z1
      refine hK.out _ _ ⟨z0, z1⟩ ?_
      (try simp only [Act.put, List.setIfInBounds_toArray, List.set_cons_zero, List.set_cons_succ])
      clear hK K HR hB12 ho12 hl3 hs3 X11 B11 hHeld
      have HR := hid (rsolve_any Ag Am cg cm g w12 (H.out.to B12.out) hok.out)
      refine wpAnyS_ready [21] (by kernel_rfl) (by simp) (AllReadyS.consG (by simp only [List.getElem?_toArray, List.getElem?_cons_succ, List.getElem?_cons_zero]; rfl) (by rfl) (fun K hK => ?_) AllReadyS.nil)
      refine callE (by intro c h; cases h) (by go_simp; try with_reducible rfl) HR.out ?_
      intro v13 w13 hx13
      obtain ⟨ho13, hB13⟩ := hx13
      obtain ⟨A4, c4, rfl, hl4, hs4, _⟩ := solve_form hok.out ho13 (solve_rows hok.out HA.out)
      have X13 := hid (X12.out.below hB13 X12.out.lt)
      have B13 := hid (B12.out.trans (hB13.mono B12.out.size))
      have U13 := hid ((U12.out.below hB13).more hB13.size)
      have V13 := hid hs4
      have z0 := X13.out.cell 0; have z1 := X13.out.cell 1
      simp at z0 z1
      refine hK.out _ _ ⟨z0, z1⟩ ?_
      (try simp only [Act.put, List.setIfInBounds_toArray, List.set_cons_zero, List.set_cons_succ])
      clear hK K HR hB13 ho13 hl4 hs4 X12 B12 U12
      have HR := hid (samerows_any A3 A4 c3 c4 (solveL g) (solveL g) w13 HL3.out HL3.out U13.out V13.out)
      rw [decide_eq_true rfl] at HR
      refine wpAnyS_ready [22] (by kernel_rfl) (by simp) (AllReadyS.consLG (by simp only [List.getElem?_toArray, List.getElem?_cons_succ, List.getElem?_cons_zero]; rfl) (by rfl) (by kernel_rfl) (fun K hK => ?_) AllReadyS.nil)
      refine callS (by intro c h; cases h) (by go_simp; try with_reducible rfl) HR.out ?_
      intro w14 hB14
      have B14 := hid (B13.out.trans (hB14.mono B13.out.size))
      refine hK.out _ _ ?_
      (try simp only [Act.put, List.setIfInBounds_toArray, List.set_cons_zero, List.set_cons_succ])
      clear hK K HR hB14 z0 z1
      refine wpAnyG_pureL 23 (v := ?_) (fun _ => trivial) (by simp only [List.getElem?_toArray, List.getElem?_cons_succ, List.getElem?_cons_zero]; rfl) (by kernel_rfl) (by kernel_rfl) (fun _ _ _ _ _ h => h) ⟨(by rfl), (by intro c h; cases h), ?_⟩ ?_
      rotate_left
      focus (intro wS hSw; (try dsimp only at hSw); go_simp; (try with_reducible rfl))
      (try simp only [Act.put, List.setIfInBounds_toArray, List.set_cons_zero, List.set_cons_succ])
      refine wpAnyG_pureL 24 (v := ?_) (fun _ => trivial) (by simp only [List.getElem?_toArray, List.getElem?_cons_succ, List.getElem?_cons_zero]; rfl) (by kernel_rfl) (by kernel_rfl) (fun _ _ _ _ _ h => h) ⟨(by rfl), (by intro c h; cases h), ?_⟩ ?_
      rotate_left
      focus (intro wS hSw; (try dsimp only at hSw); go_simp; (try with_reducible rfl))
      (try simp only [Act.put, List.setIfInBounds_toArray, List.set_cons_zero, List.set_cons_succ])
      refine wpAnyS_done (by kernel_rfl) ?_
      go_wp2_with fail
      go_ret
      exact ⟨rfl, B14.out⟩
end Go.Proofs.Ytiaplhdgchbkkaa
