
/- Game: GameAvoids, the walk. -/
import Derived.Test.YtiaplhdgchbkkaaGamV
import Derived.Test.YtiaplhdgchbkkaaReg
set_option linter.unusedSimpArgs false
set_option linter.unusedVariables false
namespace Go.Proofs.Ytiaplhdgchbkkaa
open Go.RowKit Go.IntWalk Go.Shelf

set_option maxRecDepth 100000 in
set_option maxHeartbeats 40000000 in
theorem gavoids_any (w : World) (Ag Am : Option Addr) (cg cm : Nat) (g : Gm) (h : GmR w w.heap.size Ag Am g) (pos : Int) (hpos : I64 pos) (A : Option Addr) (c : Nat) (ch : List Int) (hl : ch.length ≤ maxLen) (hs : SlR w w.heap.size A ch) :
    Calls Try.prog 6 #[.agg #[.slice Ag g.1.length cg, .slice Am g.2.length cm], .int .i64 pos, .slice A ch.length c] w fun e w' => e = .returned (.bool true) ∧ Below w.heap.size w w' := by
  have B1 := hid (show Below w.heap.size w (w.alloc (Obj.cells #[.slice Ag g.1.length cg, .slice Am g.2.length cm] 25)) by (repeat (first | exact Below.refl _ _ | assumption | refine below_drewN ?_ _ | refine Below.drew ?_ | refine Below.alloc ?_ (by (try simp); (try omega)) _ | refine Below.setCell ?_ (by (try simp); (try omega)) _)))
  have X1 := hid (Blk.new w 25 #[.slice Ag g.1.length cg, .slice Am g.2.length cm])
  have H := hid h
  have HCH := hid hs
  have HS := hid (small_any (w.alloc (Obj.cells #[.slice Ag g.1.length cg, .slice Am g.2.length cm] 25)))
  have hcl : ch.length ≤ 9223372036854775807 := by unfold maxLen at hl; omega
  have hpb := hpos.bd
  clear h hs hpos
  go_enter Try.func6, Try.ntmps6
  go_wp2_with fail
  refine HS.out.mono ?_
  rintro e w2 ⟨rfl, hB2⟩
  have B2 := hid (B1.out.trans (hB2.mono B1.out.size))
  have X2 := hid (X1.out.below hB2 X1.out.lt)
  have G2 := hid (H.out.to B2.out)
  clear hB2 B1 X1 HS
  have x0 := X2.out.cell 0; have x1 := X2.out.cell 1; have xz := X2.out.lt
  simp at x0 x1
  have HG := hid (given_any Ag Am cg cm g 60 (by omega) w2 G2.out)
  go_wp2_with fail
  refine HG.out.mono ?_
  rintro e w3 ⟨rfl, hB3⟩
  have B3 := hid (B2.out.trans (hB3.mono B2.out.size))
  have X3 := hid (X2.out.below hB3 X2.out.lt)
  have G3 := hid (H.out.to B3.out)
  clear hB3 B2 X2 HG G2 x0 x1 xz
  have x0 := X3.out.cell 0; have x1 := X3.out.cell 1; have xz := X3.out.lt
  simp at x0 x1
  cases hgv : fewL g 60 && rightL g with
  | false =>
    as_aux_lemma =>
      go_wp2_with fail
      go_ret
      exact ⟨rfl, B3.out⟩
  | true =>
    rw [Bool.and_eq_true] at hgv
    have hok := hid (ok_of hgv.1 hgv.2 (by omega))
    have hg60 : g.1.length ≤ 60 := by
      have := hgv.1
      simp only [fewL, Bool.and_eq_true, decide_eq_true_eq] at this
      omega
    clear hgv
    by_cases h1 : (100 : Int) < ch.length
    · as_aux_lemma =>
        go_wp2_with fail
        go_ret
        exact ⟨rfl, B3.out⟩
    by_cases h2 : pos < 0
    · as_aux_lemma =>
        go_wp2_with fail
        go_ret
        exact ⟨rfl, B3.out⟩
    by_cases h3 : (g.1.length : Int) ≤ pos
    · as_aux_lemma =>
        go_wp2_with fail
        go_ret
        exact ⟨rfl, B3.out⟩
    obtain ⟨p0, rfl⟩ : ∃ n : Nat, pos = n := ⟨pos.toNat, by omega⟩
    have hp0 : p0 < g.1.length := by omega
    have hp0' : (p0 : Int) < g.1.length := by omega
    have HR := hid (ranks_any Ag Am cg cm g w3 G3.out hok.out)
    go_wp2_with fail
    refine HR.out.mono ?_
    rintro e w4 ⟨v4, rfl, ho4, hB4⟩
    obtain ⟨AR, cR, rfl, hlR, hsR, hrn, hr1, hrb⟩ := rank_form hok.out ho4
    have B4 := hid (B3.out.trans (hB4.mono B3.out.size))
    have X4 := hid (X3.out.below hB4 X3.out.lt)
    have S4 := hid hsR
    have HLR := hid hlR; have HRN := hid hrn; have HRB := hid hrb
    have hrk := hid (rankL_rk hok.out)
    have hRl : (rankL g).length = g.1.length := hrn
    clear ho4 hB4 hsR hlR hrn hr1 hrb x0 x1 xz HR X3 B3 G3 h1 h2 h3
    generalize rankL g = R at *
    have hRl' : (R.length : Int) = g.1.length := by omega
    have HRl := hid hRl
    clear hRl
    have x0 := X4.out.cell 0; have x1 := X4.out.cell 1; have xz := X4.out.lt
    simp at x0 x1
    have hchl : ch.length ≤ 100 := by omega
    go_wp2_with fail
    go_loopw [9, 10] (fun pv iv wr => ∃ i p : Nat, i ≤ ch.length ∧ iv = .int .i64 i ∧ pv = .int .i64 p ∧ p < g.1.length ∧ Below w.heap.size w wr ∧ Below w4.heap.size w4 wr ∧ (0 ≤ R.getD p 0 → 0 ≤ R.getD p0 0 ∧ R.getD p0 0 ≤ R.getD p 0 + i)) (fun _ iv _ => ch.length - (intOf iv).toNat)
    case atStart => exact ⟨0, p0, by omega, rfl, rfl, hp0, B4.out, Below.refl _ _, fun h => ⟨h, by omega⟩⟩
    case round =>
      clear x0 x1 xz
      obtain ⟨i, p, hi, rfl, rfl, hp, hB, hB4, hinv⟩ := hrel
      have HBQ := hid (And.intro hB hB4)
      have HINV := hid hinv
      have X5 := hid (X4.out.below hB4 X4.out.lt)
      have x0 := X5.out.cell 0; have x1 := X5.out.cell 1; have xz := X5.out.lt
      simp at x0 x1
      by_cases hlt : i < ch.length
      · have hlt' : (i : Int) < ch.length := by omega
        have hp' : (p : Int) < g.1.length := by omega
        obtain ⟨bG, oG, hAG, hbG, hcG⟩ := H.out.goal.bool hp
        have HCG := hid hcG
        replace hcG := (bcell hB bG _ hbG).trans hcG
        have hzG : bG < wr.heap.size := by have := hB.size; omega
        have hgd := hid (show g.1.getD p false = g.1[p] by simp [List.getD, hp])
        have hRp : p < R.length := by have := HRl.out; omega
        have hRp' : (p : Int) < R.length := by omega
        have hR0 : p0 < R.length := by have := HRl.out; omega
        have hR0' : (p0 : Int) < R.length := by omega
        obtain ⟨bR, oR, hAR, hbR, hcR, _⟩ := S4.out.int hRp
        have hcR0 : w4.cell? ⟨bR, oR + p0, none⟩ = some (.int .i64 R[p0]) := by rw [hAR] at S4; exact S4.out.int_at hR0
        have HCR := hid hcR; have HCR0 := hid hcR0
        replace hcR := (bcell hB4 bR _ hbR).trans hcR
        replace hcR0 := (bcell hB4 bR _ hbR).trans hcR0
        have hzR : bR < wr.heap.size := by have := hB4.size; omega
        have hRd := hid (show R.getD p 0 = R[p] by simp [List.getD, hRp])
        have hRd0 := hid (show R.getD p0 0 = R[p0] by simp [List.getD, hR0])
        have hzero := hid (hrk.out.zero p hp)
        generalize g.1[p] = gi at *
        generalize hrp : R[p] = r at *
        generalize hrp0 : R[p0] = r0 at *
        subst hAR
        subst hAG
        cases gi with
        | true =>
          have hr0 : r = 0 := by rw [← hRd.out]; exact hzero.out.2 hgd.out
          have hend : 0 ≤ r0 ∧ r0 ≤ i := by
            have := hinv (by rw [hRd.out, hr0]; omega)
            rw [hRd.out, hRd0.out, hr0] at this
            omega
          obtain ⟨e1, e2⟩ := hend
          clear hB hB4 hinv hzero hgd hRd hRd0 hrp hrp0
          as_aux_lemma =>
            go_wp2_with fail
            go_ret
            exact ⟨rfl, HBQ.out.1⟩
        | false =>
          have hpm : p < g.2.length := by have := hok.out.n; omega
          have hpm' : (p : Int) < g.2.length := by omega
          have hrne : r ≠ 0 := fun e => by have := hzero.out.1 (by rw [hRd.out, e]); rw [hgd.out] at this; cases this
          have hL := H.out.mvs.list hpm
          have hLm := hid (hok.out.m _ (List.getElem_mem hpm))
          have hLl := hok.out.l _ (List.getElem_mem hpm)
          have hgm := hid (show g.2.getD p [] = g.2[p] by rw [List.getD, List.getElem?_eq_getElem hpm]; rfl)
          generalize g.2[p] = l at *
          obtain ⟨bM, oM, A', c', hAM, hbM, hcM, h5, h6, hsM⟩ := hL
          have HCM := hid hcM
          replace hcM := (bcell hB bM _ hbM).trans hcM
          have hzM : bM < wr.heap.size := by have := hB.size; omega
          have HSM := hid hsM
          subst hAM
          by_cases hl0 : l.length = 0
          · have hrl : r < 0 := by
              rcases (by omega : r < 0 ∨ 1 ≤ r) with hc | hc
              · exact hc
              · obtain ⟨m, hm, _⟩ := hrk.out.up p hp (by rw [hRd.out]; exact hc)
                rw [hgm.out, List.eq_nil_of_length_eq_zero hl0] at hm
                simp at hm
            clear hB hB4 hinv hzero hgd hRd hRd0 hrp hrp0 hsM h5 h6 hLm hLl hgm hcR0
            as_aux_lemma =>
              go_wp2_with fail
              go_ret
              exact ⟨rfl, HBQ.out.1⟩
          have hlp : 0 < l.length := by omega
          obtain ⟨bC, oC, hAC, hbC, hcC, _⟩ := HCH.out.int hlt
          have hci := hid (HCH.out.ints _ (List.getElem_mem hlt))
          replace hcC := (bcell hB bC _ hbC).trans hcC
          have hzC : bC < wr.heap.size := by have := hB.size; omega
          subst hAC
          generalize ch[i] = cx at *
          have hix := idxOf_lt cx l.length hlp
          obtain ⟨k, hk⟩ : ∃ k : Nat, idxOf cx l.length = k := ⟨(idxOf cx l.length).toNat, by omega⟩
          have hkl : k < l.length := by omega
          have hcase : (cx.tmod l.length < 0 ∧ cx.tmod l.length + l.length = k) ∨ (¬ cx.tmod l.length < 0 ∧ cx.tmod l.length = k) := by
            rw [← hk]; unfold idxOf; split <;> omega
          have hwt : IntKind.i64.wrap (cx.tmod l.length) = cx.tmod l.length := IntWalk.i64_in _ (by omega)
          have hll : l.length ≤ 1000 := hLl
          have hlp' : ¬ (l.length : Int) = 0 := by omega
          have hdv : (l.length : Int) ≠ 0 := hlp'
          clear hix hk hlp
          rcases hcase with ⟨ha, hb⟩ | ⟨ha, hb⟩
          all_goals
            have HKB := hid hb
            go_wp2_with fail
            go_quiet (fail)
            go_upto_region 18 with fail
            generalize hw7 : World.drewN wr _ = w7
            have b7 : Below wr.heap.size wr w7.drew := by rw [← hw7]; exact (below_drewN (Below.refl _ _) _).drew
            clear hw7
            have HB7 := hid (And.intro (HBQ.out.1.trans (b7.mono HBQ.out.1.size)) (HBQ.out.2.trans (b7.mono HBQ.out.2.size)))
            have X7 := hid (X5.out.below b7 X5.out.lt)
            have x0 := X7.out.cell 0; have x1 := X7.out.cell 1; have xz := X7.out.lt
            have hcM := (bcell HB7.out.1 bM _ hbM).trans HCM.out
            obtain ⟨b2, o2, A2, c2, hA2, hb2, m0, _⟩ := HSM.out.mv hkl
            replace m0 := (bcell HB7.out.1 b2 _ hb2).trans m0
            subst hA2
            simp only [List.getElem?_toArray, List.getElem?_cons_succ, List.getElem?_cons_zero] at x0 x1
            have hkl' : (k : Int) < l.length := by omega
            obtain ⟨q, hq1, hq2, _, hq3, hq4⟩ := answer_law hok.out hrk.out hp (act := l[k].1) ⟨l[k], by rw [hgm.out]; exact List.getElem_mem hkl, rfl⟩
            have HA := hid (answer_any (some ⟨bG, oG, none⟩) (some ⟨bM, oM, none⟩) (some ⟨bR, oR, none⟩) cg cm cR g R p l[k].1 w7.drew (H.out.to HB7.out.1) hok.out HLR.out ((S4.out.below HB7.out.2).more HB7.out.2.size))
            rw [hq1] at HA
            generalize l[k].1 = act at *
            refine wpIn_wide.1 (wpIn_region_S (n := 0) (fun w' => w'.cell? ⟨w.heap.size, 0, none⟩ = some (.slice (some ⟨bG, oG, none⟩) g.1.length cg) ∧ w'.cell? ⟨w.heap.size, 1, none⟩ = some (.slice (some ⟨bM, oM, none⟩) g.2.length cm) ∧ w'.cell? ⟨bM, oM + p, none⟩ = some (.slice (some ⟨b2, o2, none⟩) l.length c') ∧ w'.cell? ⟨b2, o2 + k * 2, none⟩ = some (.int .i64 act)) [12] (by kernel_rfl) ⟨x0, x1, hcM, m0⟩ (fun hHeld => ?_))
            refine wpAnyS_take 0 (v := ?_) (fun _ => trivial) (by simp only [List.getElem?_toArray, List.getElem?_cons_succ, List.getElem?_cons_zero]; rfl) (by kernel_rfl) (fun _ _ _ _ _ h => h) ⟨rfl, (by intro c h; cases h), ?_⟩ hHeld ?_
            rotate_left
            focus (intro wS hSw; (try dsimp only at hSw); go_simp; (try with_reducible rfl))
            (try simp only [Act.put, List.setIfInBounds_toArray, List.set_cons_zero, List.set_cons_succ])
            refine wpAnyS_pure 1 (v := ?_) (fun _ => trivial) (by simp only [List.getElem?_toArray, List.getElem?_cons_succ, List.getElem?_cons_zero]; rfl) (by kernel_rfl) (fun _ _ _ _ _ h => h) ⟨rfl, (by intro c h; cases h), ?_⟩ hHeld ?_
            rotate_left
            focus (intro wS hSw; (try dsimp only at hSw); go_simp; (try with_reducible rfl))
            (try simp only [Act.put, List.setIfInBounds_toArray, List.set_cons_zero, List.set_cons_succ])
            refine wpAnyS_pure 2 (v := ?_) (fun _ => trivial) (by simp only [List.getElem?_toArray, List.getElem?_cons_succ, List.getElem?_cons_zero]; rfl) (by kernel_rfl) (fun _ _ _ _ _ h => h) ⟨rfl, (by intro c h; cases h), ?_⟩ hHeld ?_
            rotate_left
            focus (intro wS hSw; (try dsimp only at hSw); go_simp; (try with_reducible rfl))
            (try simp only [Act.put, List.setIfInBounds_toArray, List.set_cons_zero, List.set_cons_succ])
            refine wpAnyS_pure 3 (v := ?_) (fun _ => trivial) (by simp only [List.getElem?_toArray, List.getElem?_cons_succ, List.getElem?_cons_zero]; rfl) (by kernel_rfl) (fun _ _ _ _ _ h => h) ⟨rfl, (by intro c h; cases h), ?_⟩ hHeld ?_
            rotate_left
            focus (intro wS hSw; (try dsimp only at hSw); go_simp; (try with_reducible rfl))
            (try simp only [Act.put, List.setIfInBounds_toArray, List.set_cons_zero, List.set_cons_succ])
            refine wpAnyS_take 4 (v := ?_) (fun _ => trivial) (by simp only [List.getElem?_toArray, List.getElem?_cons_succ, List.getElem?_cons_zero]; rfl) (by kernel_rfl) (fun _ _ _ _ _ h => h) ⟨rfl, (by intro c h; cases h), ?_⟩ hHeld ?_
            rotate_left
            focus (intro wS hSw; (try dsimp only at hSw); go_simp; (try with_reducible rfl))
            (try simp only [Act.put, List.setIfInBounds_toArray, List.set_cons_zero, List.set_cons_succ])
            refine wpAnyS_pure 5 (v := ?_) (fun _ => trivial) (by simp only [List.getElem?_toArray, List.getElem?_cons_succ, List.getElem?_cons_zero]; rfl) (by kernel_rfl) (fun _ _ _ _ _ h => h) ⟨rfl, (by intro c h; cases h), ?_⟩ hHeld ?_
            rotate_left
            focus (intro wS hSw; (try dsimp only at hSw); go_simp; (try with_reducible rfl))
            (try simp only [Act.put, List.setIfInBounds_toArray, List.set_cons_zero, List.set_cons_succ])
            refine wpAnyS_pure 6 (v := ?_) (fun _ => trivial) (by simp only [List.getElem?_toArray, List.getElem?_cons_succ, List.getElem?_cons_zero]; rfl) (by kernel_rfl) (fun _ _ _ _ _ h => h) ⟨rfl, (by intro c h; cases h), ?_⟩ hHeld ?_
            rotate_left
            focus (intro wS hSw; (try dsimp only at hSw); go_simp; (try with_reducible rfl))
            (try simp only [Act.put, List.setIfInBounds_toArray, List.set_cons_zero, List.set_cons_succ])
            refine wpAnyS_take 7 (v := ?_) (fun _ => trivial) (by simp only [List.getElem?_toArray, List.getElem?_cons_succ, List.getElem?_cons_zero]; rfl) (by kernel_rfl) (fun _ _ _ _ _ h => h) ⟨rfl, (by intro c h; cases h), ?_⟩ hHeld ?_
            rotate_left
            focus (intro wS hSw; (try dsimp only at hSw); go_simp; (try with_reducible rfl))
            (try simp only [Act.put, List.setIfInBounds_toArray, List.set_cons_zero, List.set_cons_succ])
            refine wpAnyS_pure 8 (v := ?_) (fun _ => trivial) (by simp only [List.getElem?_toArray, List.getElem?_cons_succ, List.getElem?_cons_zero]; rfl) (by kernel_rfl) (fun _ _ _ _ _ h => h) ⟨rfl, (by intro c h; cases h), ?_⟩ hHeld ?_
            rotate_left
            focus (intro wS hSw; (try dsimp only at hSw); go_simp; (try with_reducible rfl))
            (try simp only [Act.put, List.setIfInBounds_toArray, List.set_cons_zero, List.set_cons_succ])
            refine wpAnyS_pure 9 (v := ?_) (fun _ => trivial) (by simp only [List.getElem?_toArray, List.getElem?_cons_succ, List.getElem?_cons_zero]; rfl) (by kernel_rfl) (fun _ _ _ _ _ h => h) ⟨rfl, (by intro c h; cases h), ?_⟩ hHeld ?_
            rotate_left
            focus (intro wS hSw; (try dsimp only at hSw); go_simp; (try with_reducible rfl))
            (try simp only [Act.put, List.setIfInBounds_toArray, List.set_cons_zero, List.set_cons_succ])
            refine wpAnyS_pure 10 (v := ?_) (fun _ => trivial) (by simp only [List.getElem?_toArray, List.getElem?_cons_succ, List.getElem?_cons_zero]; rfl) (by kernel_rfl) (fun _ _ _ _ _ h => h) ⟨rfl, (by intro c h; cases h), ?_⟩ hHeld ?_
            rotate_left
            focus (intro wS hSw; (try dsimp only at hSw); go_simp; (try with_reducible rfl))
            (try simp only [Act.put, List.setIfInBounds_toArray, List.set_cons_zero, List.set_cons_succ])
            refine wpAnyS_take 11 (v := ?_) (fun _ => trivial) (by simp only [List.getElem?_toArray, List.getElem?_cons_succ, List.getElem?_cons_zero]; rfl) (by kernel_rfl) (fun _ _ _ _ _ h => h) ⟨rfl, (by intro c h; cases h), ?_⟩ hHeld ?_
            rotate_left
            focus (intro wS hSw; (try dsimp only at hSw); go_simp; (try with_reducible rfl))
            (try simp only [Act.put, List.setIfInBounds_toArray, List.set_cons_zero, List.set_cons_succ])
            refine wpAnyS_ready [12] (by kernel_rfl) (by simp) (AllReadyS.consL (by simp only [List.getElem?_toArray, List.getElem?_cons_succ, List.getElem?_cons_zero]; rfl) rfl (by kernel_rfl) (fun K hK => ?_) AllReadyS.nil)
            refine callS (by intro c h; cases h) (by go_simp; try with_reducible rfl) HA.out ?_
            intro w8 hB8
            refine hK.out _ _ ?_
            clear hK K hHeld HA m0 hcM x0 x1 xz
            (try simp only [Act.put, List.setIfInBounds_toArray, List.set_cons_zero, List.set_cons_succ])
            refine wpAnyS_pureL 13 (v := ?_) (fun _ => trivial) (by simp only [List.getElem?_toArray, List.getElem?_cons_succ, List.getElem?_cons_zero]; rfl) (by kernel_rfl) (by kernel_rfl) (fun _ _ _ _ _ h => h) ⟨rfl, (by intro c h; cases h), ?_⟩ ?_
            rotate_left
            focus (intro wS hSw; (try dsimp only at hSw); go_simp; (try with_reducible rfl))
            (try simp only [Act.put, List.setIfInBounds_toArray, List.set_cons_zero, List.set_cons_succ])
            refine wpAnyS_pureL 14 (v := ?_) (fun _ => trivial) (by simp only [List.getElem?_toArray, List.getElem?_cons_succ, List.getElem?_cons_zero]; rfl) (by kernel_rfl) (by kernel_rfl) (fun _ _ _ _ _ h => h) ⟨rfl, (by intro c h; cases h), ?_⟩ ?_
            rotate_left
            focus (intro wS hSw; (try dsimp only at hSw); go_simp; (try with_reducible rfl))
            (try simp only [Act.put, List.setIfInBounds_toArray, List.set_cons_zero, List.set_cons_succ])
            refine wpAnyS_pureL 15 (v := ?_) (fun _ => trivial) (by simp only [List.getElem?_toArray, List.getElem?_cons_succ, List.getElem?_cons_zero]; rfl) (by kernel_rfl) (by kernel_rfl) (fun _ _ _ _ _ h => h) ⟨rfl, (by intro c h; cases h), ?_⟩ ?_
            rotate_left
            focus (intro wS hSw; (try dsimp only at hSw); go_simp; (try with_reducible rfl))
            (try simp only [Act.put, List.setIfInBounds_toArray, List.set_cons_zero, List.set_cons_succ])
            refine wpAnyS_pureL 16 (v := ?_) (fun _ => trivial) (by simp only [List.getElem?_toArray, List.getElem?_cons_succ, List.getElem?_cons_zero]; rfl) (by kernel_rfl) (by kernel_rfl) (fun _ _ _ _ _ h => h) ⟨rfl, (by intro c h; cases h), ?_⟩ ?_
            rotate_left
            focus (intro wS hSw; (try dsimp only at hSw); go_simp; (try with_reducible rfl))
            (try simp only [Act.put, List.setIfInBounds_toArray, List.set_cons_zero, List.set_cons_succ])
            refine wpAnyS_pureL 17 (v := ?_) (fun _ => trivial) (by simp only [List.getElem?_toArray, List.getElem?_cons_succ, List.getElem?_cons_zero]; rfl) (by kernel_rfl) (by kernel_rfl) (fun _ _ _ _ _ h => h) ⟨rfl, (by intro c h; cases h), ?_⟩ ?_
            rotate_left
            focus (intro wS hSw; (try dsimp only at hSw); go_simp; (try with_reducible rfl))
            (try simp only [Act.put, List.setIfInBounds_toArray, List.set_cons_zero, List.set_cons_succ])
            refine wpAnyS_done (by kernel_rfl) ?_
            have HB8 := hid (And.intro (HB7.out.1.trans (hB8.mono HB7.out.1.size)) (HB7.out.2.trans (hB8.mono HB7.out.2.size)))
            have X8 := X7.out.below hB8 X7.out.lt
            have x0 := X8.cell 0; have x1 := X8.cell 1; have xz := X8.lt
            simp at x0 x1
            have hcR := (bcell HB8.out.2 bR _ hbR).trans HCR.out
            have hRq : q < R.length := by have := HRl.out; omega
            have hRq' : (q : Int) < R.length := by omega
            have hq2' : (q : Int) < g.1.length := by omega
            have hcQ := (bcell HB8.out.2 bR _ hbR).trans (S4.out.int_at hRq)
            have hzR : bR < w8.heap.size := by have := HB8.out.2.size; omega
            have hRqd : R.getD q 0 = R[q] := by simp [List.getD, hRq]
            have hfin := hid (show 0 ≤ R.getD q 0 → 0 ≤ R.getD p0 0 ∧ R.getD p0 0 ≤ R.getD q 0 + (i + 1 : Nat) from fun h0 => by
              have h1 : 0 ≤ R.getD p 0 := Int.not_lt.1 (fun hx => by have := hq3 hx; omega)
              have h2 := HINV.out h1
              have h3 := hq4 h0
              refine ⟨h2.1, ?_⟩
              have := h2.2
              omega)
            rw [hRqd, hRd.out] at hq3 hq4
            have hrb := hid (HRB.out _ (List.getElem_mem hRq))
            have hrbp := HRB.out _ (List.getElem_mem hRp)
            rw [hrp] at hrbp
            obtain ⟨rq, hrq⟩ : ∃ rq, R[q] = rq := ⟨_, rfl⟩
            rw [hrq] at hcQ hq3 hq4 hrb
            have hws : IntKind.i64.wrap (r - 1) = r - 1 := IntWalk.i64_in _ (by omega)
            clear hB hB4 hinv hzero hgd hRd hRd0 hrp hrp0 hsM h5 h6 hLm hLl hgm hcR0 b7 hB8 X8 X7 HB7 hRqd hq1 hcG hcC hrq
            by_cases hrn : r < 0
            · have d1 : decide (r < 0) = true := by simpa using hrn
              have hqn := hq3 hrn
              have d2 : decide (0 ≤ rq) = false := by simp; omega
              clear hq3 hq4
              as_aux_lemma =>
                go_wp2_with fail
                go_quiet (fail)
                go_wp2_with fail
                go_roundw
                case rel => exact ⟨i + 1, q, by omega, by go_num, rfl, hq2, below_drewN HB8.out.1 _, below_drewN HB8.out.2 _, hfin.out⟩
                case measure => simp [intOf]; omega
            · have d1 : decide (r < 0) = false := by simpa using hrn
              by_cases hqn : 0 ≤ rq
              · have d2 : decide (0 ≤ rq) = true := by simpa using hqn
                have d3 : decide (rq < r - 1) = false := by have := hq4 hqn; simp; omega
                clear hq3 hq4
                as_aux_lemma =>
                  go_wp2_with fail
                  go_quiet (fail)
                  go_wp2_with fail
                  go_roundw
                  case rel => exact ⟨i + 1, q, by omega, by go_num, rfl, hq2, below_drewN HB8.out.1 _, below_drewN HB8.out.2 _, hfin.out⟩
                  case measure => simp [intOf]; omega
              · have d2 : decide (0 ≤ rq) = false := by simpa using hqn
                clear hq3 hq4
                as_aux_lemma =>
                  go_wp2_with fail
                  go_quiet (fail)
                  go_wp2_with fail
                  go_roundw
                  case rel => exact ⟨i + 1, q, by omega, by go_num, rfl, hq2, below_drewN HB8.out.1 _, below_drewN HB8.out.2 _, hfin.out⟩
                  case measure => simp [intOf]; omega
      · obtain rfl : i = ch.length := by omega
        clear hB hB4 hinv
        as_aux_lemma =>
          go_wp2_with fail
          go_ret
          exact ⟨rfl, HBQ.out.1⟩
end Go.Proofs.Ytiaplhdgchbkkaa
