
/- Game: GameMore, the walk. -/
import Derived.Test.YtiaplhdgchbkkaaGamMe
import Derived.Test.YtiaplhdgchbkkaaGamSp
import Derived.Test.YtiaplhdgchbkkaaGamY
import Derived.Test.YtiaplhdgchbkkaaRegG
set_option linter.unusedSimpArgs false
set_option linter.unusedVariables false
namespace Go.Proofs.Ytiaplhdgchbkkaa
open Go.RowKit Go.IntWalk Go.Shelf

set_option maxRecDepth 100000 in
set_option maxHeartbeats 40000000 in
theorem gmore_any (w : World) (Ag Am : Option Addr) (cg cm : Nat) (g : Gm) (h : GmR w w.heap.size Ag Am g) (pos : Int) (hpos : I64 pos) (to_ : Int) (hto : I64 to_) :
    Calls Try.prog 7 #[.agg #[.slice Ag g.1.length cg, .slice Am g.2.length cm], .int .i64 pos, .int .i64 to_] w fun e w' => e = .returned (.bool true) ∧ Below w.heap.size w w' := by
  have B1 := hid (show Below w.heap.size w (w.alloc (Obj.cells #[.slice Ag g.1.length cg, .slice Am g.2.length cm] 25)) by (repeat (first | exact Below.refl _ _ | assumption | refine below_drewN ?_ _ | refine Below.drew ?_ | refine Below.alloc ?_ (by (try simp); (try omega)) _ | refine Below.setCell ?_ (by (try simp); (try omega)) _)))
  have X1 := hid (Blk.new w 25 #[.slice Ag g.1.length cg, .slice Am g.2.length cm])
  have H := hid h
  have HS := hid (small_any (w.alloc (Obj.cells #[.slice Ag g.1.length cg, .slice Am g.2.length cm] 25)))
  have hpb := hpos.bd
  have htb := hto.bd
  have HTO := hid hto
  clear h hpos hto
  go_enter Try.func7, Try.ntmps7
  go_wp2_with fail
  refine HS.out.mono ?_
  rintro e w2 ⟨rfl, hB2⟩
  have B2 := hid (B1.out.trans (hB2.mono B1.out.size))
  have X2 := hid (X1.out.below hB2 X1.out.lt)
  have G2 := hid (H.out.to B2.out)
  clear hB2 B1 X1 HS
  have x0 := X2.out.cell 0; have x1 := X2.out.cell 1; have xz := X2.out.lt
  simp at x0 x1
  have HG := hid (given_any Ag Am cg cm g 60 (by omega) w2 G2.out)
  go_wp2_with fail
  refine HG.out.mono ?_
  rintro e w3 ⟨rfl, hB3⟩
  have B3 := hid (B2.out.trans (hB3.mono B2.out.size))
  have X3 := hid (X2.out.below hB3 X2.out.lt)
  have G3 := hid (H.out.to B3.out)
  clear hB3 B2 X2 HG G2 x0 x1 xz
  have x0 := X3.out.cell 0; have x1 := X3.out.cell 1; have xz := X3.out.lt
  simp at x0 x1
  cases hgv : fewL g 60 && rightL g with
  | false =>
    as_aux_lemma =>
      go_wp2_with fail
      go_ret
      exact ⟨rfl, B3.out⟩
  | true =>
    rw [Bool.and_eq_true] at hgv
    have hok := hid (ok_of hgv.1 hgv.2 (by omega))
    have HF := hid hgv.1
    have hg60 : g.1.length ≤ 60 := by
      have := hgv.1
      simp only [fewL, Bool.and_eq_true, decide_eq_true_eq] at this
      omega
    clear hgv
    by_cases hp : 0 ≤ pos ∧ pos < g.1.length ∧ 0 ≤ to_ ∧ to_ < g.1.length
    case neg =>
      as_aux_lemma =>
        by_cases h1 : pos < 0
        · go_wp2_with fail
          go_ret
          exact ⟨rfl, B3.out⟩
        by_cases h2 : (g.1.length : Int) ≤ pos
        · go_wp2_with fail
          go_ret
          exact ⟨rfl, B3.out⟩
        by_cases h3 : to_ < 0
        · go_wp2_with fail
          go_ret
          exact ⟨rfl, B3.out⟩
        have h4 : (g.1.length : Int) ≤ to_ := by omega
        go_wp2_with fail
        go_ret
        exact ⟨rfl, B3.out⟩
    obtain ⟨hp1, hp2, ht1, ht2⟩ := hp
    obtain ⟨p, rfl⟩ := Int.eq_ofNat_of_zero_le hp1
    obtain ⟨tt, rfl⟩ := Int.eq_ofNat_of_zero_le ht1
    have hpn : p < g.1.length := by omega
    have htn : tt < g.1.length := by omega
    have HR := hid (ranks_any Ag Am cg cm g w3 G3.out hok.out)
    go_wp2_with fail
    refine HR.out.mono ?_
    rintro e w4 ⟨v4, rfl, ho4, hB4⟩
    obtain ⟨AR, cR, rfl, hlR, hsR, -, -, -⟩ := rank_form hok.out ho4
    have B4 := hid (B3.out.trans (hB4.mono B3.out.size))
    have X4 := hid (X3.out.below hB4 X3.out.lt)
    have S4 := hid hsR
    have HLR := hid hlR
    have G4 := hid (H.out.to B4.out)
    clear ho4 hB4 hsR hlR x0 x1 xz HR X3 B3 G3
    have x0 := X4.out.cell 0; have x1 := X4.out.cell 1; have xz := X4.out.lt
    simp at x0 x1
    have HC := hid (clone_any Ag Am cg cm g w4 G4.out hok.out (by omega))
    go_wp2_with fail
    refine HC.out.mono ?_
    rintro e w5 ⟨vG, vM, rfl, hC⟩
    obtain ⟨A5, c5, M5, m5, rfl, rfl⟩ := hC.form
    obtain ⟨q5, vs5, rfl, hq5, D5, b5⟩ := hC.boxx (by omega)
    have hb5 := D5.blk
    obtain ⟨hqz5, hc5, hf5, hD6⟩ := D5.setGoal hpn
    have B6 := hid ((b5.setCell (p := ⟨q5, p, none⟩) (by show w4.heap.size ≤ q5; exact hq5) (.bool true)))
    have D6 := hid hD6
    have z0 := hb5.cell 0; have zz := hb5.lt
    simp at z0
    clear hC D5 b5 hb5 hD6 HC x0 x1 xz G4
    go_upto_region 7 with fail
    have X6 := hid (X4.out.below B6.out X4.out.lt)
    have BB6 := hid (B4.out.trans (B6.out.mono B4.out.size))
    have B46 := hid B6.out
    clear X4 z0 zz hc5 hf5 hqz5 B4 B6
    generalize (w5.alloc (Obj.cells #[.slice (some ⟨q5, 0, none⟩) g.1.length c5, .slice M5 g.2.length m5] 25)).setCell ⟨q5, p, none⟩ (.bool true) = w6 at *
    generalize w5.heap.size = b9 at *
    have x0 := X6.out.cell 0; have x1 := X6.out.cell 1; have xz := X6.out.lt
    simp at x0 x1
    have HC := hid (clone_any Ag Am cg cm g w6 (H.out.to BB6.out) hok.out (by omega))
    go_wp2_with fail
    refine HC.out.mono ?_
    rintro e w7 ⟨vG7, vM7, rfl, hC⟩
    obtain ⟨A7, c7, M7, m7, rfl, rfl⟩ := hC.form
    obtain ⟨q7, vs7, rfl, hq7, D7, b7⟩ := hC.boxx (by omega)
    have D7 := hid D7
    have B67 := hid b7
    clear HC hC b7 x0 x1 xz
    go_upto_region 9 with fail
    have hpm : p < g.2.length := by rw [← hok.out.n]; exact hpn
    obtain ⟨_, _, qm, cm7, -, e2, hqm, hqmz, hqmf, hqmc, xs7, AL, cL, hoL, hrL, hvL⟩ := D7.out.form hpm
    injection e2 with e2 _ e3
    subst e2 e3
    have HqF := hid hqmf
    have HvL := hid hvL
    have HoL := hid hoL
    have HrL := hid hrL
    rw [hvL] at hqmc
    obtain ⟨AL', cL', e4, -, -, hsL⟩ := mv_slr hoL hrL
    rw [hvL] at e4
    injection e4 with e4 _ e5
    subst e4 e5
    have HSL := hid hsL
    have hlm := hid (hok.out.l _ (List.getElem_mem hpm))
    clear hoL hrL hvL hqmf hsL
    generalize w7.alloc (Obj.cells #[.slice (some ⟨q7, 0, none⟩) g.1.length c7, .slice (some ⟨qm, 0, none⟩) g.2.length m7] 25) = w8 at *
    generalize w7.heap.size = b10 at *
    have y1 := D7.out.blk.cell 1; have yz := D7.out.blk.lt
    simp at y1
    go_upto_if 61 with fail
    go_cut [11] (fun lv wx => (∃ a : Int, lv = .int .i64 a ∧ I64 a) ∧ Below w8.heap.size w8 wx)
    case first =>
      by_cases hl0 : 0 < g.2[p].length
      · have hl1 : g.2[p].length ≤ 1000 := hlm.out
        have hl2 : (0 : Int) < g.2[p].length := by omega
        obtain ⟨mb, mo, Ax, cx, rfl, hmb, hmc, _, _, _, _, hmi⟩ := HSL.out.mv (k := g.2[p].length - 1) (by omega)
        have HMI := hid hmi
        clear hmi
        generalize g.2[p][g.2[p].length - 1].1 = la at *
        have hidx : IntKind.i64.wrap ((g.2[p].length : Int) - 1) = ((g.2[p].length - 1 : Nat) : Int) := by rw [IntWalk.i64_in _ (by omega)]; omega
        have hidl : ((g.2[p].length - 1 : Nat) : Int) < g.2[p].length := by omega
        as_aux_lemma =>
          go_upto_region 10 with fail
          refine wpIn_wide.1 (wpIn_region_S (n := 0) (fun wq => wq.cell? ⟨b10, 1, none⟩ = some (.slice (some ⟨qm, 0, none⟩) g.2.length m7) ∧ wq.cell? ⟨qm, p, none⟩ = some (.slice (some ⟨mb, mo, none⟩) g.2[p].length cL) ∧ wq.cell? ⟨mb, mo + (g.2[p].length - 1) * 2, none⟩ = some (.int .i64 la)) [] (by kernel_rfl) ⟨y1, hqmc, hmc⟩ (fun hHeld => ?_))
          refine wpAnyS_pure 0 (v := ?_) (fun _ => trivial) (by simp only [List.getElem?_toArray, List.getElem?_cons_succ, List.getElem?_cons_zero]; rfl) (by kernel_rfl) (fun _ _ _ _ _ h => h) ⟨rfl, (by intro c h; cases h), ?_⟩ hHeld ?_
          rotate_left
          focus (intro wS hSw; (try dsimp only at hSw); go_simp; (try with_reducible rfl))
          (try simp only [Act.put, List.setIfInBounds_toArray, List.set_cons_zero, List.set_cons_succ])
          refine wpAnyS_take 1 (v := ?_) (fun _ => trivial) (by simp only [List.getElem?_toArray, List.getElem?_cons_succ, List.getElem?_cons_zero]; rfl) (by kernel_rfl) (fun _ _ _ _ _ h => h) ⟨rfl, (by intro c h; cases h), ?_⟩ hHeld ?_
          rotate_left
          focus (intro wS hSw; (try dsimp only at hSw); go_simp; (try with_reducible rfl))
          (try simp only [Act.put, List.setIfInBounds_toArray, List.set_cons_zero, List.set_cons_succ])
          refine wpAnyS_pure 2 (v := ?_) (fun _ => trivial) (by simp only [List.getElem?_toArray, List.getElem?_cons_succ, List.getElem?_cons_zero]; rfl) (by kernel_rfl) (fun _ _ _ _ _ h => h) ⟨rfl, (by intro c h; cases h), ?_⟩ hHeld ?_
          rotate_left
          focus (intro wS hSw; (try dsimp only at hSw); go_simp; (try with_reducible rfl))
          (try simp only [Act.put, List.setIfInBounds_toArray, List.set_cons_zero, List.set_cons_succ])
          refine wpAnyS_pure 3 (v := ?_) (fun _ => trivial) (by simp only [List.getElem?_toArray, List.getElem?_cons_succ, List.getElem?_cons_zero]; rfl) (by kernel_rfl) (fun _ _ _ _ _ h => h) ⟨rfl, (by intro c h; cases h), ?_⟩ hHeld ?_
          rotate_left
          focus (intro wS hSw; (try dsimp only at hSw); go_simp; (try with_reducible rfl))
          (try simp only [Act.put, List.setIfInBounds_toArray, List.set_cons_zero, List.set_cons_succ])
          refine wpAnyS_take 4 (v := ?_) (fun _ => trivial) (by simp only [List.getElem?_toArray, List.getElem?_cons_succ, List.getElem?_cons_zero]; rfl) (by kernel_rfl) (fun _ _ _ _ _ h => h) ⟨rfl, (by intro c h; cases h), ?_⟩ hHeld ?_
          rotate_left
          focus (intro wS hSw; (try dsimp only at hSw); go_simp; (try with_reducible rfl))
          (try simp only [Act.put, List.setIfInBounds_toArray, List.set_cons_zero, List.set_cons_succ])
          refine wpAnyS_pure 5 (v := ?_) (fun _ => trivial) (by simp only [List.getElem?_toArray, List.getElem?_cons_succ, List.getElem?_cons_zero]; rfl) (by kernel_rfl) (fun _ _ _ _ _ h => h) ⟨rfl, (by intro c h; cases h), ?_⟩ hHeld ?_
          rotate_left
          focus (intro wS hSw; (try dsimp only at hSw); go_simp; (try with_reducible rfl))
          (try simp only [Act.put, List.setIfInBounds_toArray, List.set_cons_zero, List.set_cons_succ])
          refine wpAnyS_take 6 (v := ?_) (fun _ => trivial) (by simp only [List.getElem?_toArray, List.getElem?_cons_succ, List.getElem?_cons_zero]; rfl) (by kernel_rfl) (fun _ _ _ _ _ h => h) ⟨rfl, (by intro c h; cases h), ?_⟩ hHeld ?_
          rotate_left
          focus (intro wS hSw; (try dsimp only at hSw); go_simp; (try with_reducible rfl))
          (try simp only [Act.put, List.setIfInBounds_toArray, List.set_cons_zero, List.set_cons_succ])
          refine wpAnyS_pure 7 (v := ?_) (fun _ => trivial) (by simp only [List.getElem?_toArray, List.getElem?_cons_succ, List.getElem?_cons_zero]; rfl) (by kernel_rfl) (fun _ _ _ _ _ h => h) ⟨rfl, (by intro c h; cases h), ?_⟩ hHeld ?_
          rotate_left
          focus (intro wS hSw; (try dsimp only at hSw); go_simp; (try with_reducible rfl))
          (try simp only [Act.put, List.setIfInBounds_toArray, List.set_cons_zero, List.set_cons_succ])
          refine wpAnyS_pure 8 (v := ?_) (fun _ => trivial) (by simp only [List.getElem?_toArray, List.getElem?_cons_succ, List.getElem?_cons_zero]; rfl) (by kernel_rfl) (fun _ _ _ _ _ h => h) ⟨rfl, (by intro c h; cases h), ?_⟩ hHeld ?_
          rotate_left
          focus (intro wS hSw; (try dsimp only at hSw); go_simp; (try with_reducible rfl))
          (try simp only [Act.put, List.setIfInBounds_toArray, List.set_cons_zero, List.set_cons_succ])
          refine wpAnyS_take 9 (v := ?_) (fun _ => trivial) (by simp only [List.getElem?_toArray, List.getElem?_cons_succ, List.getElem?_cons_zero]; rfl) (by kernel_rfl) (fun _ _ _ _ _ h => h) ⟨rfl, (by intro c h; cases h), ?_⟩ hHeld ?_
          rotate_left
          focus (intro wS hSw; (try dsimp only at hSw); go_simp; (try with_reducible rfl))
          (try simp only [Act.put, List.setIfInBounds_toArray, List.set_cons_zero, List.set_cons_succ])
          refine wpAnyS_pure 10 (v := ?_) (fun _ => trivial) (by simp only [List.getElem?_toArray, List.getElem?_cons_succ, List.getElem?_cons_zero]; rfl) (by kernel_rfl) (fun _ _ _ _ _ h => h) ⟨rfl, (by intro c h; cases h), ?_⟩ hHeld ?_
          rotate_left
          focus (intro wS hSw; (try dsimp only at hSw); go_simp; (try with_reducible rfl))
          (try simp only [Act.put, List.setIfInBounds_toArray, List.set_cons_zero, List.set_cons_succ])
          refine wpAnyS_pure 11 (v := ?_) (fun _ => trivial) (by simp only [List.getElem?_toArray, List.getElem?_cons_succ, List.getElem?_cons_zero]; rfl) (by kernel_rfl) (fun _ _ _ _ _ h => h) ⟨rfl, (by intro c h; cases h), ?_⟩ hHeld ?_
          rotate_left
          focus (intro wS hSw; (try dsimp only at hSw); go_simp; (try with_reducible rfl))
          (try simp only [Act.put, List.setIfInBounds_toArray, List.set_cons_zero, List.set_cons_succ])
          refine wpAnyS_pure 12 (v := ?_) (fun _ => trivial) (by simp only [List.getElem?_toArray, List.getElem?_cons_succ, List.getElem?_cons_zero]; rfl) (by kernel_rfl) (fun _ _ _ _ _ h => h) ⟨rfl, (by intro c h; cases h), ?_⟩ hHeld ?_
          rotate_left
          focus (intro wS hSw; (try dsimp only at hSw); go_simp; (try with_reducible rfl))
          (try simp only [Act.put, List.setIfInBounds_toArray, List.set_cons_zero, List.set_cons_succ])
          refine wpAnyS_pure 13 (v := ?_) (fun _ => trivial) (by simp only [List.getElem?_toArray, List.getElem?_cons_succ, List.getElem?_cons_zero]; rfl) (by kernel_rfl) (fun _ _ _ _ _ h => h) ⟨rfl, (by intro c h; cases h), ?_⟩ hHeld ?_
          rotate_left
          focus (intro wS hSw; (try dsimp only at hSw); go_simp; (try with_reducible rfl))
          (try simp only [Act.put, List.setIfInBounds_toArray, List.set_cons_zero, List.set_cons_succ])
          refine wpAnyS_take 14 (v := ?_) (fun _ => trivial) (by simp only [List.getElem?_toArray, List.getElem?_cons_succ, List.getElem?_cons_zero]; rfl) (by kernel_rfl) (fun _ _ _ _ _ h => h) ⟨rfl, (by intro c h; cases h), ?_⟩ hHeld ?_
          rotate_left
          focus (intro wS hSw; (try dsimp only at hSw); go_simp; (try with_reducible rfl))
          (try simp only [Act.put, List.setIfInBounds_toArray, List.set_cons_zero, List.set_cons_succ])
          refine wpAnyS_pure 15 (v := ?_) (fun _ => trivial) (by simp only [List.getElem?_toArray, List.getElem?_cons_succ, List.getElem?_cons_zero]; rfl) (by kernel_rfl) (fun _ _ _ _ _ h => h) ⟨rfl, (by intro c h; cases h), ?_⟩ hHeld ?_
          rotate_left
          focus (intro wS hSw; (try dsimp only at hSw); go_simp; (try with_reducible rfl))
          (try simp only [Act.put, List.setIfInBounds_toArray, List.set_cons_zero, List.set_cons_succ])
          refine wpAnyS_done (by kernel_rfl) ?_
          go_wp2_with fail
          go_meet
          exact ⟨⟨la, rfl, HMI.out⟩, by (repeat (first | exact Below.refl _ _ | assumption | refine below_drewN ?_ _ | refine Below.drew ?_ | refine Below.alloc ?_ (by (try simp); (try omega)) _ | refine Below.setCell ?_ (by (try simp); (try omega)) _))⟩
      · have hl2 : (g.2[p].length : Int) = 0 := by omega
        as_aux_lemma =>
          go_wp2_with fail
          go_meet
          exact ⟨⟨0, rfl, by simp [I64]⟩, by (repeat (first | exact Below.refl _ _ | assumption | refine below_drewN ?_ _ | refine Below.drew ?_ | refine Below.alloc ?_ (by (try simp); (try omega)) _ | refine Below.setCell ?_ (by (try simp); (try omega)) _))⟩
    case rest =>
      obtain ⟨⟨la, rfl, hla⟩, hB89⟩ := hcut
      have y1' := (bcell hB89 b10 1 yz).trans y1
      have c1' := (bcell hB89 qm p hqmz).trans hqmc
      have f1' := (bfrozen hB89 qm p hqmz).trans HqF.out
      have D9 := hid (D7.out.below hB89)
      have O9 := hid (own_kt (ts := [41]) HoL.out (KT.of_below hB89) (by decide))
      have R9 := hid (HrL.out.kt (ts := [3]) (KT.of_below hB89) (by decide))
      have B69 := hid (B67.out.trans (hB89.mono B67.out.size))
      have qz' : qm < wc.heap.size := by have := hB89.size; omega
      have yz' : b10 < wc.heap.size := by have := hB89.size; omega
      have hll := hid (few_len HF.out hpm)
      have hqb := hid hqm
      clear hB89 y1 hqmc yz hqmz B67 D7 HoL HrL HSL HqF hlm
      have hla' := hla.bd
      have HLA := hid hla
      clear hla
      go_upto_if 78 with fail
      go_cut [] (fun wx => ∃ g', RG wx b10 g' ∧ GmOK g' ∧ Eased g g' ∧ Below w6.heap.size w6 wx)
      case first =>
        by_cases hl2 : la < 4611686018427387904
        case neg =>
          as_aux_lemma =>
            go_wp2_with fail
            go_meet
            exact ⟨g, D9.out.og.read, hok.out, eased_refl g, B69.out⟩
        have hwr : IntKind.i64.wrap (la + 1) = la + 1 := IntWalk.i64_in _ (by omega)
        have hi1 := hid (show I64 (la + 1) from ⟨by omega, by omega⟩)
        have HS12 := hid (fun (wq : World) (hb : Below wc.heap.size wc wq) => And.intro ((bcell hb b10 1 yz').trans y1') ((bcell hb qm p qz').trans c1'))
        have B13 := hid (show Below wc.heap.size wc (((wc.alloc (Obj.cells #[.int .i64 tt] 3)).alloc (Obj.cells #[.int .i64 (la + 1), .slice (some ⟨wc.heap.size, 0, none⟩) 1 1] 41)).drew) by (repeat (first | exact Below.refl _ _ | assumption | refine below_drewN ?_ _ | refine Below.drew ?_ | refine Below.alloc ?_ (by (try simp); (try omega)) _ | refine Below.setCell ?_ (by (try simp); (try omega)) _)))
        have D13 := hid (D9.out.below B13.out)
        have O13 := hid (own_kt (ts := [41]) O9.out (KT.of_below B13.out) (by decide))
        rw [HvL.out] at O13
        have R13 := hid (R9.out.kt (ts := [3]) (KT.of_below B13.out) (by decide))
        have T13 := hid (show OwnI (((wc.alloc (Obj.cells #[.int .i64 tt] 3)).alloc (Obj.cells #[.int .i64 (la + 1), .slice (some ⟨wc.heap.size, 0, none⟩) 1 1] 41)).drew) 0 (.slice (some ⟨wc.heap.size, 0, none⟩) 1 1) [(tt : Int)] from ⟨rfl, .inr ⟨_, 1, #[.int .i64 tt], rfl, Nat.zero_le _, ((Blk.new wc 3 #[.int .i64 tt]).alloc _).drew, Nat.le_refl _, by unfold maxLen; omega, rfl, rfl⟩⟩)
        have M13 := hid (show Blk (((wc.alloc (Obj.cells #[.int .i64 tt] 3)).alloc (Obj.cells #[.int .i64 (la + 1), .slice (some ⟨wc.heap.size, 0, none⟩) 1 1] 41)).drew) (wc.heap.size + 1) 41 #[.int .i64 (la + 1), .slice (some ⟨wc.heap.size, 0, none⟩) 1 1] from (Blk.new_at (by simp)).drew)
        have hb11 := hid (show Below wc.heap.size wc ((wc.alloc (Obj.cells #[.int .i64 tt] 3)).drew) by (repeat (first | exact Below.refl _ _ | assumption | refine below_drewN ?_ _ | refine Below.drew ?_ | refine Below.alloc ?_ (by (try simp); (try omega)) _ | refine Below.setCell ?_ (by (try simp); (try omega)) _)))
        have hxl := hid (show xs7.length ≤ 1000000 by have := R9.out.len; have := hll.out; omega)
        have B6d := hid (B69.out.trans (B13.out.mono B69.out.size))
        as_aux_lemma =>
          go_upto_region 12 with fail
          refine wpIn_wide.1 (wpIn_region_S (n := 0) (fun wq => wq.cell? ⟨b10, 1, none⟩ = some (.slice (some ⟨qm, 0, none⟩) g.2.length m7) ∧ wq.cell? ⟨qm, p, none⟩ = some (.slice AL g.2[p].length cL)) [16] (by kernel_rfl) ⟨y1', c1'⟩ (fun hHeld => ?_))
          refine wpAnyS_pure 0 (v := ?_) (fun _ => trivial) (by simp only [List.getElem?_toArray, List.getElem?_cons_succ, List.getElem?_cons_zero]; rfl) (by kernel_rfl) (fun _ _ _ _ _ h => h) ⟨rfl, (by intro c h; cases h), ?_⟩ hHeld ?_
          rotate_left
          focus (intro wS hSw; (try dsimp only at hSw); go_simp; (try with_reducible rfl))
          (try simp only [Act.put, List.setIfInBounds_toArray, List.set_cons_zero, List.set_cons_succ])
          refine wpAnyS_take 1 (v := ?_) (fun _ => trivial) (by simp only [List.getElem?_toArray, List.getElem?_cons_succ, List.getElem?_cons_zero]; rfl) (by kernel_rfl) (fun _ _ _ _ _ h => h) ⟨rfl, (by intro c h; cases h), ?_⟩ hHeld ?_
          rotate_left
          focus (intro wS hSw; (try dsimp only at hSw); go_simp; (try with_reducible rfl))
          (try simp only [Act.put, List.setIfInBounds_toArray, List.set_cons_zero, List.set_cons_succ])
          refine wpAnyS_pure 2 (v := ?_) (fun _ => trivial) (by simp only [List.getElem?_toArray, List.getElem?_cons_succ, List.getElem?_cons_zero]; rfl) (by kernel_rfl) (fun _ _ _ _ _ h => h) ⟨rfl, (by intro c h; cases h), ?_⟩ hHeld ?_
          rotate_left
          focus (intro wS hSw; (try dsimp only at hSw); go_simp; (try with_reducible rfl))
          (try simp only [Act.put, List.setIfInBounds_toArray, List.set_cons_zero, List.set_cons_succ])
          refine wpAnyS_pure 3 (v := ?_) (fun _ => trivial) (by simp only [List.getElem?_toArray, List.getElem?_cons_succ, List.getElem?_cons_zero]; rfl) (by kernel_rfl) (fun _ _ _ _ _ h => h) ⟨rfl, (by intro c h; cases h), ?_⟩ hHeld ?_
          rotate_left
          focus (intro wS hSw; (try dsimp only at hSw); go_simp; (try with_reducible rfl))
          (try simp only [Act.put, List.setIfInBounds_toArray, List.set_cons_zero, List.set_cons_succ])
          refine wpAnyS_take 4 (v := ?_) (fun _ => trivial) (by simp only [List.getElem?_toArray, List.getElem?_cons_succ, List.getElem?_cons_zero]; rfl) (by kernel_rfl) (fun _ _ _ _ _ h => h) ⟨rfl, (by intro c h; cases h), ?_⟩ hHeld ?_
          rotate_left
          focus (intro wS hSw; (try dsimp only at hSw); go_simp; (try with_reducible rfl))
          (try simp only [Act.put, List.setIfInBounds_toArray, List.set_cons_zero, List.set_cons_succ])
          refine wpAnyS_pure 5 (v := ?_) (fun _ => trivial) (by simp only [List.getElem?_toArray, List.getElem?_cons_succ, List.getElem?_cons_zero]; rfl) (by kernel_rfl) (fun _ _ _ _ _ h => h) ⟨rfl, (by intro c h; cases h), ?_⟩ hHeld ?_
          rotate_left
          focus (intro wS hSw; (try dsimp only at hSw); go_simp; (try with_reducible rfl))
          (try simp only [Act.put, List.setIfInBounds_toArray, List.set_cons_zero, List.set_cons_succ])
          refine wpAnyS_pure 6 (v := ?_) (fun _ => trivial) (by simp only [List.getElem?_toArray, List.getElem?_cons_succ, List.getElem?_cons_zero]; rfl) (by kernel_rfl) (fun _ _ _ _ _ h => h) ⟨rfl, (by intro c h; cases h), ?_⟩ hHeld ?_
          rotate_left
          focus (intro wS hSw; (try dsimp only at hSw); go_simp; (try with_reducible rfl))
          (try simp only [Act.put, List.setIfInBounds_toArray, List.set_cons_zero, List.set_cons_succ])
          refine wpAnyS_take 7 (v := ?_) (fun _ => trivial) (by simp only [List.getElem?_toArray, List.getElem?_cons_succ, List.getElem?_cons_zero]; rfl) (by kernel_rfl) (fun _ _ _ _ _ h => h) ⟨rfl, (by intro c h; cases h), ?_⟩ hHeld ?_
          rotate_left
          focus (intro wS hSw; (try dsimp only at hSw); go_simp; (try with_reducible rfl))
          (try simp only [Act.put, List.setIfInBounds_toArray, List.set_cons_zero, List.set_cons_succ])
          refine wpAnyS_pure 8 (v := ?_) (fun _ => trivial) (by simp only [List.getElem?_toArray, List.getElem?_cons_succ, List.getElem?_cons_zero]; rfl) (by kernel_rfl) (fun _ _ _ _ _ h => h) ⟨rfl, (by intro c h; cases h), ?_⟩ hHeld ?_
          rotate_left
          focus (intro wS hSw; (try dsimp only at hSw); go_simp; (try with_reducible rfl))
          (try simp only [Act.put, List.setIfInBounds_toArray, List.set_cons_zero, List.set_cons_succ])
          refine wpAnyS_pure 9 (v := ?_) (fun _ => trivial) (by simp only [List.getElem?_toArray, List.getElem?_cons_succ, List.getElem?_cons_zero]; rfl) (by kernel_rfl) (fun _ _ _ _ _ h => h) ⟨rfl, (by intro c h; cases h), ?_⟩ hHeld ?_
          rotate_left
          focus (intro wS hSw; (try dsimp only at hSw); go_simp; (try with_reducible rfl))
          (try simp only [Act.put, List.setIfInBounds_toArray, List.set_cons_zero, List.set_cons_succ])
          refine wpAnyS_pure 10 (v := ?_) (fun _ => trivial) (by simp only [List.getElem?_toArray, List.getElem?_cons_succ, List.getElem?_cons_zero]; rfl) (by kernel_rfl) (fun _ _ _ _ _ h => h) ⟨rfl, (by intro c h; cases h), ?_⟩ hHeld ?_
          rotate_left
          focus (intro wS hSw; (try dsimp only at hSw); go_simp; (try with_reducible rfl))
          (try simp only [Act.put, List.setIfInBounds_toArray, List.set_cons_zero, List.set_cons_succ])
          refine wpAnyS_ready [11] (by kernel_rfl) (by simp) (AllReadyS.cons (by simp only [List.getElem?_toArray, List.getElem?_cons_succ, List.getElem?_cons_zero]; rfl) rfl (fun K hK => ?_) AllReadyS.nil)
          go_simp
          refine hK.out _ _ (HS12.out _ hb11.out) ?_
          clear hK K hHeld
          have hHeld := HS12.out _ hb11.out
          refine wpAnyS_pure 12 (v := ?_) (fun _ => trivial) (by simp only [List.getElem?_toArray, List.getElem?_cons_succ, List.getElem?_cons_zero]; rfl) (by kernel_rfl) (fun _ _ _ _ _ h => h) ⟨rfl, (by intro c h; cases h), ?_⟩ hHeld ?_
          rotate_left
          focus (intro wS hSw; (try dsimp only at hSw); go_simp; (try with_reducible rfl))
          (try simp only [Act.put, List.setIfInBounds_toArray, List.set_cons_zero, List.set_cons_succ])
          refine wpAnyS_ready [13] (by kernel_rfl) (by simp) (AllReadyS.cons (by simp only [List.getElem?_toArray, List.getElem?_cons_succ, List.getElem?_cons_zero]; rfl) rfl (fun K hK => ?_) AllReadyS.nil)
          go_simp
          refine hK.out _ _ (HS12.out _ B13.out) ?_
          clear hK K hHeld
          generalize ((wc.alloc (Obj.cells #[.int .i64 tt] 3)).alloc (Obj.cells #[.int .i64 (la + 1), .slice (some ⟨wc.heap.size, 0, none⟩) 1 1] 41)).drew = w13 at *
          refine wpAnyS_ready [14] (by kernel_rfl) (by simp) (AllReadyS.cons (by simp only [List.getElem?_toArray, List.getElem?_cons_succ, List.getElem?_cons_zero]; rfl) rfl (fun K hK => ?_) AllReadyS.nil)
          refine appMvS (fun _ => trivial) _ (.tmp 86) (.tmp 92) rfl 0 (.slice AL g.2[p].length cL) xs7 rfl O13.out (wc.heap.size + 1) 1 (la + 1, .slice (some ⟨wc.heap.size, 0, none⟩) 1 1) rfl rfl M13.out hxl.out (Nat.zero_le _) ?_
          intro vW w14 ho14 hg14
          obtain ⟨hf1, hf2, hf3, hf4, hf5⟩ := D13.out.far hpm
          rw [HvL.out] at hf1 hf2 hf3
          have e1 := (hg14.cell_far ⟨b10, 1, none⟩ D13.out.blk.lt (fun e => hf1 e.symm)).trans (HS12.out _ B13.out).1
          have e2 := (hg14.cell_far ⟨qm, p, none⟩ hf5 (fun e => hf2 e.symm)).trans (HS12.out _ B13.out).2
          have e3 := (hg14.frozen_far ⟨qm, p, none⟩ hf5 (fun e => hf2 e.symm)).trans ((bfrozen B13.out qm p qz').trans f1')
          refine hK.out _ _ ⟨e1, e2⟩ ?_
          clear hK K
          have hHeld := And.intro e1 e2
          obtain ⟨gW, capW, curW, hvW, _⟩ := own_cell ho14 (by simp)
          rw [show (xs7 ++ [((la + 1, Value.slice (some ⟨wc.heap.size, 0, none⟩) 1 1) : Int × Value)]).length = xs7.length + 1 by simp] at hvW
          subst hvW
          refine wpAnyS_pure 15 (v := ?_) (fun _ => trivial) (by simp only [List.getElem?_toArray, List.getElem?_cons_succ, List.getElem?_cons_zero]; rfl) (by kernel_rfl) (fun _ _ _ _ _ h => h) ⟨rfl, (by intro c h; cases h), ?_⟩ hHeld ?_
          rotate_left
          focus (intro wS hSw; (try dsimp only at hSw); go_simp; (try with_reducible rfl))
          (try simp only [Act.put, List.setIfInBounds_toArray, List.set_cons_zero, List.set_cons_succ])
          refine wpAnyS_ready [16] (by kernel_rfl) (by simp) (AllReadyS.consL (by simp only [List.getElem?_toArray, List.getElem?_cons_succ, List.getElem?_cons_zero]; rfl) rfl (by kernel_rfl) (fun K hK => ?_) AllReadyS.nil)
          go_simp
          refine hK.out _ _ ?_
          clear hK K
          refine wpAnyS_done (by kernel_rfl) ?_
          go_wp2_with fail
          go_meet
          have hgk : w13.grownBy w14 (vs7.getD p (.bool false)).ownBlock := by rw [HvL.out]; exact hg14
          obtain ⟨k1, k2⟩ := more_more hok.out (p := p) (tt := tt) hpm htn (a := la + 1) hll.out
          exact ⟨_, D13.out.more (y := (la + 1, .slice (some ⟨wc.heap.size, 0, none⟩) 1 1)) (ts := [(tt : Int)]) hpm hgk R13.out ho14 hi1.out T13.out (fun t ht => by simp at ht; subst ht; exact HTO.out), k1, k2, (B6d.out.grown hg14 (B6d.out.size) (fun q e => hf3 q e)).setCell (by exact hf4) _⟩
      case rest =>
        obtain ⟨g', hG9, hok', hE, hB⟩ := hcut
        have RA := hid ((D6.out.below hB).read)
        have XC := hid (X6.out.below hB X6.out.lt)
        have BBC := hid (BB6.out.trans (hB.mono BB6.out.size))
        have B4C := hid (B46.out.trans (hB.mono B46.out.size))
        have RB := hid hG9
        have HOK' := hid hok'
        have HE := hid hE
        clear D9 O9 R9 B69 y1' c1' f1' qz' yz' HvL hqb HLA hla' hB hG9 hok' hE D6 X6 BB6 B46
        have HMG := hid (moreGoal_ok hok.out p)
        have HEG := hid (eased_law hok.out (eased_goal g p) (rankL_rk hok.out) (rankL_rk HMG.out))
        have HEM := hid (eased_law hok.out HE.out (rankL_rk hok.out) (rankL_rk HOK'.out))
        obtain ⟨Aa, Ma, ca, ma, za, ra⟩ := RA.out
        have z0 := za.cell 0; have z1 := za.cell 1; have zz := za.lt
        simp at z0 z1
        have HR := hid (ranks_any Aa Ma ca ma (moreGoal g p) wc ra HMG.out)
        clear za ra
        go_wp2_with fail
        refine HR.out.mono ?_
        rintro e w10 ⟨v10, rfl, ho10, hB10⟩
        obtain ⟨A10, c10, rfl, hl10, hs10, -, -, -⟩ := rank_form HMG.out ho10
        have HQ := hid (easier_any A10 AR c10 cR (rankL (moreGoal g p)) (rankL g) w10 hl10 HLR.out hs10 ((S4.out.below (B4C.out.trans (hB10.mono B4C.out.size))).more (B4C.out.trans (hB10.mono B4C.out.size)).size))
        have RB10 := hid (RB.out.below hB10)
        have XC10 := hid (XC.out.below hB10 XC.out.lt)
        have BB10 := hid (BBC.out.trans (hB10.mono BBC.out.size))
        have B410 := hid (B4C.out.trans (hB10.mono B4C.out.size))
        clear HR ho10 hl10 hs10 hB10 z0 z1 zz RA RB XC BBC B4C
        go_wp2_with fail
        refine HQ.out.mono ?_
        rintro e w11 ⟨r, rfl, hr, hB11⟩
        obtain rfl : r = true := hr.2 HEG.out
        obtain ⟨Aa, Ma, ca, ma, za, ra⟩ := RB10.out.below hB11
        have z0 := za.cell 0; have z1 := za.cell 1; have zz := za.lt
        simp at z0 z1
        have HR := hid (ranks_any Aa Ma ca ma g' w11 ra HOK'.out)
        have XC11 := hid (XC10.out.below hB11 XC10.out.lt)
        have BB11 := hid (BB10.out.trans (hB11.mono BB10.out.size))
        have B411 := hid (B410.out.trans (hB11.mono B410.out.size))
        clear za ra hr hB11 HQ RB10 XC10 BB10 B410
        go_wp2_with fail
        refine HR.out.mono ?_
        rintro e w12 ⟨v12, rfl, ho12, hB12⟩
        obtain ⟨A12, c12, rfl, hl12, hs12, -, -, -⟩ := rank_form HOK'.out ho12
        have XC12 := hid (XC11.out.below hB12 XC11.out.lt)
        have BB12 := hid (BB11.out.trans (hB12.mono BB11.out.size))
        have B412 := hid (B411.out.trans (hB12.mono B411.out.size))
        have HQ := hid (easier_any A12 AR c12 cR (rankL g') (rankL g) w12 hl12 HLR.out hs12 ((S4.out.below B412.out).more B412.out.size))
        clear HR ho12 hl12 hs12 hB12 z0 z1 zz XC11 BB11 B411
        go_wp2_with fail
        refine HQ.out.mono ?_
        rintro e w13 ⟨r, rfl, hr, hB13⟩
        obtain rfl : r = true := hr.2 HEM.out
        have XC := hid (XC12.out.below hB13 XC12.out.lt)
        have BB := hid (BB12.out.trans (hB13.mono BB12.out.size))
        have B4 := hid (B412.out.trans (hB13.mono B412.out.size))
        clear hr hB13 HQ XC12 BB12 B412 HEG HEM HOK' HE HMG
        have x0 := XC.out.cell 0; have x1 := XC.out.cell 1; have xz := XC.out.lt
        simp at x0 x1
        obtain ⟨bM, oM, A', c', rfl, hbM, hcM, _, _, hsM⟩ := H.out.mvs.list hpm
        have HCM := hid hcM
        have HSM := hid hsM
        have cM := (bcell BB.out bM _ hbM).trans hcM
        have mz : bM < w13.heap.size := by have := BB.out.size; omega
        clear hcM hsM
        by_cases hl0 : g.2[p].length = 0
        · have hl2 : (g.2[p].length : Int) = 0 := by omega
          as_aux_lemma =>
            go_wp2_with fail
            go_ret
            exact ⟨rfl, BB.out⟩
        have hl2 : ¬ (g.2[p].length : Int) = 0 := by omega
        have h0p : 0 < g.2[p].length := by omega
        have HC := hid (clone_any Ag (some ⟨bM, oM, none⟩) cg cm g w13 (H.out.to BB.out) hok.out (by omega))
        go_wp2_with fail
        refine HC.out.mono ?_
        rintro e w14 ⟨vG, vM, rfl, hC⟩
        obtain ⟨A14, c14, M14, m14, rfl, rfl⟩ := hC.form
        obtain ⟨q14, vs14, rfl, -, D14, b14⟩ := hC.boxx (by omega)
        have D14 := hid D14
        have BE14 := hid b14
        clear HC hC b14 x0 x1 xz cM mz
        go_upto_region 18 with fail
        obtain ⟨_, _, qn, cn, -, e2, hqn, hqnz, hqnf, hqnc, xs14, AL2, cL2, hoL, hrL, hvL⟩ := D14.out.form hpm
        injection e2 with e2 _ e3
        subst e2 e3
        obtain ⟨mb, capm, curm, hv2, -⟩ := own_cell hoL (by have := hrL.len; omega)
        rw [hvL] at hqnc hv2
        injection hv2 with hv2 hn2 hc2
        clear hn2
        subst hv2 hc2
        obtain ⟨A15, hA15⟩ : ∃ A : Option Addr, A = if cL2 = 1 then some ⟨mb, 0, none⟩ else some ⟨mb, 2, none⟩ := ⟨_, rfl⟩
        have L15 := hid (D14.out.less hpm hoL hrL hvL h0p hA15)
        have BL15 := hid (show Below w13.heap.size w13 _ from (BE14.out.setCell (p := ⟨qn, p, none⟩) (by exact hqn) (.slice A15 (g.2[p].length - 1) (cL2 - 1))).drew)
        have HA15 := hid hA15
        clear hA15
        have h1le : (1 : Int) ≤ g.2[p].length := by omega
        have hb14 := hid D14.out.blk
        clear hoL hrL hvL D14 BE14
        generalize (w14.alloc (Obj.cells #[.slice (some ⟨q14, 0, none⟩) g.1.length c14, .slice (some ⟨qn, 0, none⟩) g.2.length m14] 25)) = w15 at *
        generalize w14.heap.size = b15 at *
        have y1 := hb14.out.cell 1; have yz := hb14.out.lt
        simp at y1
        clear hb14
        refine wpIn_wide.1 (wpIn_region_S (n := 0) (fun wq => wq.cell? ⟨b15, 1, none⟩ = some (.slice (some ⟨qn, 0, none⟩) g.2.length m14) ∧ wq.cell? ⟨qn, p, none⟩ = some (.slice (some ⟨mb, 0, none⟩) g.2[p].length cL2)) [10] (by kernel_rfl) ⟨y1, hqnc⟩ (fun hHeld => ?_))
        refine wpAnyS_pure 0 (v := ?_) (fun _ => trivial) (by simp only [List.getElem?_toArray, List.getElem?_cons_succ, List.getElem?_cons_zero]; rfl) (by kernel_rfl) (fun _ _ _ _ _ h => h) ⟨rfl, (by intro c h; cases h), ?_⟩ hHeld ?_
        rotate_left
        focus (intro wS hSw; (try dsimp only at hSw); go_simp; (try with_reducible rfl))
        (try simp only [Act.put, List.setIfInBounds_toArray, List.set_cons_zero, List.set_cons_succ])
        refine wpAnyS_take 1 (v := ?_) (fun _ => trivial) (by simp only [List.getElem?_toArray, List.getElem?_cons_succ, List.getElem?_cons_zero]; rfl) (by kernel_rfl) (fun _ _ _ _ _ h => h) ⟨rfl, (by intro c h; cases h), ?_⟩ hHeld ?_
        rotate_left
        focus (intro wS hSw; (try dsimp only at hSw); go_simp; (try with_reducible rfl))
        (try simp only [Act.put, List.setIfInBounds_toArray, List.set_cons_zero, List.set_cons_succ])
        refine wpAnyS_pure 2 (v := ?_) (fun _ => trivial) (by simp only [List.getElem?_toArray, List.getElem?_cons_succ, List.getElem?_cons_zero]; rfl) (by kernel_rfl) (fun _ _ _ _ _ h => h) ⟨rfl, (by intro c h; cases h), ?_⟩ hHeld ?_
        rotate_left
        focus (intro wS hSw; (try dsimp only at hSw); go_simp; (try with_reducible rfl))
        (try simp only [Act.put, List.setIfInBounds_toArray, List.set_cons_zero, List.set_cons_succ])
        refine wpAnyS_pure 3 (v := ?_) (fun _ => trivial) (by simp only [List.getElem?_toArray, List.getElem?_cons_succ, List.getElem?_cons_zero]; rfl) (by kernel_rfl) (fun _ _ _ _ _ h => h) ⟨rfl, (by intro c h; cases h), ?_⟩ hHeld ?_
        rotate_left
        focus (intro wS hSw; (try dsimp only at hSw); go_simp; (try with_reducible rfl))
        (try simp only [Act.put, List.setIfInBounds_toArray, List.set_cons_zero, List.set_cons_succ])
        refine wpAnyS_take 4 (v := ?_) (fun _ => trivial) (by simp only [List.getElem?_toArray, List.getElem?_cons_succ, List.getElem?_cons_zero]; rfl) (by kernel_rfl) (fun _ _ _ _ _ h => h) ⟨rfl, (by intro c h; cases h), ?_⟩ hHeld ?_
        rotate_left
        focus (intro wS hSw; (try dsimp only at hSw); go_simp; (try with_reducible rfl))
        (try simp only [Act.put, List.setIfInBounds_toArray, List.set_cons_zero, List.set_cons_succ])
        refine wpAnyS_pure 5 (v := ?_) (fun _ => trivial) (by simp only [List.getElem?_toArray, List.getElem?_cons_succ, List.getElem?_cons_zero]; rfl) (by kernel_rfl) (fun _ _ _ _ _ h => h) ⟨rfl, (by intro c h; cases h), ?_⟩ hHeld ?_
        rotate_left
        focus (intro wS hSw; (try dsimp only at hSw); go_simp; (try with_reducible rfl))
        (try simp only [Act.put, List.setIfInBounds_toArray, List.set_cons_zero, List.set_cons_succ])
        refine wpAnyS_pure 6 (v := ?_) (fun _ => trivial) (by simp only [List.getElem?_toArray, List.getElem?_cons_succ, List.getElem?_cons_zero]; rfl) (by kernel_rfl) (fun _ _ _ _ _ h => h) ⟨rfl, (by intro c h; cases h), ?_⟩ hHeld ?_
        rotate_left
        focus (intro wS hSw; (try dsimp only at hSw); go_simp; (try with_reducible rfl))
        (try simp only [Act.put, List.setIfInBounds_toArray, List.set_cons_zero, List.set_cons_succ])
        refine wpAnyS_take 7 (v := ?_) (fun _ => trivial) (by simp only [List.getElem?_toArray, List.getElem?_cons_succ, List.getElem?_cons_zero]; rfl) (by kernel_rfl) (fun _ _ _ _ _ h => h) ⟨rfl, (by intro c h; cases h), ?_⟩ hHeld ?_
        rotate_left
        focus (intro wS hSw; (try dsimp only at hSw); go_simp; (try with_reducible rfl))
        (try simp only [Act.put, List.setIfInBounds_toArray, List.set_cons_zero, List.set_cons_succ])
        refine wpAnyS_pure 8 (v := .slice A15 (g.2[p].length - 1) (cL2 - 1)) (fun _ => trivial) (by simp only [List.getElem?_toArray, List.getElem?_cons_succ, List.getElem?_cons_zero]; rfl) (by kernel_rfl) (fun _ _ _ _ _ h => h) ⟨rfl, (by intro c h; cases h), ?_⟩ hHeld ?_
        focus (intro wS hSw; (try dsimp only at hSw); go_simp; rw [HA15.out])
        (try simp only [Act.put, List.setIfInBounds_toArray, List.set_cons_zero, List.set_cons_succ])
        refine wpAnyS_pure 9 (v := ?_) (fun _ => trivial) (by simp only [List.getElem?_toArray, List.getElem?_cons_succ, List.getElem?_cons_zero]; rfl) (by kernel_rfl) (fun _ _ _ _ _ h => h) ⟨rfl, (by intro c h; cases h), ?_⟩ hHeld ?_
        rotate_left
        focus (intro wS hSw; (try dsimp only at hSw); go_simp; (try with_reducible rfl))
        (try simp only [Act.put, List.setIfInBounds_toArray, List.set_cons_zero, List.set_cons_succ])
        refine wpAnyS_ready [10] (by kernel_rfl) (by simp) (AllReadyS.consL (by simp only [List.getElem?_toArray, List.getElem?_cons_succ, List.getElem?_cons_zero]; rfl) rfl (by kernel_rfl) (fun K hK => ?_) AllReadyS.nil)
        go_simp
        refine hK.out _ _ ?_
        clear hK K hHeld
        refine wpAnyS_done (by kernel_rfl) ?_
        have b16 : Below (w15.setCell ⟨qn, p, none⟩ (.slice A15 (g.2[p].length - 1) (cL2 - 1))).heap.size (w15.setCell ⟨qn, p, none⟩ (.slice A15 (g.2[p].length - 1) (cL2 - 1))) (w15.setCell ⟨qn, p, none⟩ (.slice A15 (g.2[p].length - 1) (cL2 - 1))).drew := (Below.refl _ _).drew
        obtain ⟨gl, L16, HML⟩ : ∃ gl, Hid (RG (w15.setCell ⟨qn, p, none⟩ (.slice A15 (g.2[p].length - 1) (cL2 - 1))).drew b15 gl) ∧ Hid (GmOK gl ∧ Eased gl g) := ⟨_, hid (L15.out.below b16), hid (more_less hok.out hpm)⟩
        clear b16
        generalize (w15.setCell ⟨qn, p, none⟩ (.slice A15 (g.2[p].length - 1) (cL2 - 1))).drew = w16 at *
        have XC16 := hid (XC.out.below BL15.out XC.out.lt)
        have BB16 := hid (BB.out.trans (BL15.out.mono BB.out.size))
        have B416 := hid (B4.out.trans (BL15.out.mono B4.out.size))
        clear XC BB B4 BL15 L15 y1 yz hqnc hqnz hqnf HA15 h1le hqn
        have x0 := XC16.out.cell 0; have x1 := XC16.out.cell 1; have xz := XC16.out.lt
        simp at x0 x1
        have HC := hid (clone_any Ag (some ⟨bM, oM, none⟩) cg cm g w16 (H.out.to BB16.out) hok.out (by omega))
        go_wp2_with fail
        refine HC.out.mono ?_
        rintro e w17 ⟨vG, vM, rfl, hC⟩
        obtain ⟨A17, c17, M17, m17, rfl, rfl⟩ := hC.form
        obtain ⟨q17, vs17, rfl, -, D17, b17⟩ := hC.boxx (by omega)
        have D17 := hid D17
        have B17 := hid b17
        clear HC hC b17 x0 x1 xz
        go_upto_region 20 with fail
        generalize (w17.alloc (Obj.cells #[.slice (some ⟨q17, 0, none⟩) g.1.length c17, .slice M17 g.2.length m17] 25)) = w20 at *
        generalize w17.heap.size = b20 at *
        obtain ⟨b4, off4, A4, c4, rfl, hb4, m0, m1, -, -, hs4, hs4i⟩ := HSM.out.mv h0p
        rw [Nat.zero_mul, Nat.add_zero] at m0 m1
        have hmo := hok.out.m _ (List.getElem_mem hpm) g.2[p][0] (List.getElem_mem h0p)
        have HTS := hid (Eq.refl g.2[p][0].2)
        generalize hts : g.2[p][0].2 = tos at hs4 m1 hmo HTS
        have htl : 0 < tos.length := List.length_pos_iff.2 hmo.2.2.1
        obtain ⟨b5, off5, rfl, hb5, -⟩ := hs4.int htl
        have htn2 : tos.length ≤ 1000 := hmo.1
        have M1 := hid m1
        have HS4 := hid hs4
        have HTI := hid hs4.ints
        have HTO2 := hid hts
        have HX := hid (show ∀ wq, Below w20.heap.size w20 wq → wq.cell? ⟨w.heap.size, 0, none⟩ = some (.slice Ag g.1.length cg) ∧ wq.cell? ⟨w.heap.size, 1, none⟩ = some (.slice (some ⟨bM, oM, none⟩) g.2.length cm) ∧ wq.cell? ⟨bM, oM + p, none⟩ = some (.slice (some ⟨b4, off4, none⟩) g.2[p].length c') ∧ wq.cell? ⟨b4, off4 + 1, none⟩ = some (.slice (some ⟨b5, off5, none⟩) tos.length c4) ∧ w.heap.size < wq.heap.size ∧ bM < wq.heap.size ∧ b4 < wq.heap.size ∧ b5 < wq.heap.size ∧ ∀ k (hk : k < tos.length), wq.cell? ⟨b5, off5 + k, none⟩ = some (.int .i64 tos[k]) from fun wq hb => by
          have hb9 := B17.out.trans (hb.mono B17.out.size)
          have hX := XC16.out.below hb9 XC16.out.lt
          have e0 := hX.cell 0; have e1 := hX.cell 1
          simp at e0 e1
          have hb9 := BB16.out.trans (hb9.mono BB16.out.size)
          have hz := hb9.size
          exact ⟨e0, e1, (bcell hb9 bM _ hbM).trans HCM.out, (bcell hb9 b4 _ hb4).trans M1.out, hX.lt, by omega, by omega, by omega, fun k hk => (bcell hb9 b5 _ hb5).trans (HS4.out.int_at hk)⟩)
        clear m0 m1 hmo hs4 hs4i hts HTS
        go_wp2_with fail
        go_loopw [14, 15] (fun lv iv wr => ∃ (i : Nat) (v : Value), i ≤ g.1.length ∧ iv = .int .i64 i ∧ v = lv ∧ OwnI wr w20.heap.size v (wideK tt tos i) ∧ Below w20.heap.size w20 wr) (fun _ iv _ => g.1.length - (intOf iv).toNat)
        case atStart => exact ⟨0, .slice none 0 0, by omega, rfl, rfl, ⟨rfl, .inl ⟨rfl, rfl⟩⟩, Below.refl _ _⟩
        case round =>
          obtain ⟨i, v, hi, rfl, rfl, hOI, hB⟩ := hrel
          obtain ⟨x0, x1, cM, cT, xz, mz, z4, z5, hcT⟩ := HX.out wr hB
          have HB := hid hB
          have HOI := hid hOI
          have HCT := hid hcT
          clear hB hOI hcT
          by_cases hlt : i < g.1.length
          case neg =>
            obtain rfl : i = g.1.length := by omega
            as_aux_lemma =>
              have D20 := D17.out.below HB.out
              obtain ⟨_, _, qd, cmd, -, e2, -, hqz, hqf, hqc, -⟩ := D20.form hpm
              injection e2 with e2 _ e3
              subst e2 e3
              obtain ⟨md, cd, ud, hvd, hlo, hmz, hmf, hmc, hRG⟩ := D20.setTo hpm h0p (vT := v) (ts := wideK tt tos g.1.length) (own_base HOI.out (Nat.zero_le _)) (wideK_i64 _ _ _ (by omega))
              rw [hvd] at hqc
              have y1 := D20.blk.cell 1; have yz := D20.blk.lt
              simp at y1
              have BF := hid (show Below w16.heap.size w16 (wr.setCell ⟨md, 1, none⟩ v) from (B17.out.trans (HB.out.mono B17.out.size)).setCell (by exact hlo) v)
              have LF := hid (L16.out.below BF.out)
              obtain ⟨gw, DF, HMW⟩ : ∃ gw, Hid (RG (wr.setCell ⟨md, 1, none⟩ v) b20 gw) ∧ Hid (GmOK gw ∧ Eased gw g) := ⟨_, hid hRG, hid (by have := more_wide hok.out hpm htn h0p; rw [HTO2.out] at this; exact this)⟩
              obtain ⟨AV, cV, rfl, -⟩ := HOI.out.form
              have BBF := hid (BB16.out.trans (BF.out.mono BB16.out.size))
              have B4F := hid (B416.out.trans (BF.out.mono B416.out.size))
              clear D20 hvd hlo hRG HOI HB HCT HX B17 D17 L16 XC16 hi hlt
              obtain ⟨Aa, Ma, ca, ma, za, ra⟩ := LF.out
              have HZ := hid za
              have HR := hid ra
              clear za ra
              go_upto_region 32 with fail
              generalize wr.setCell ⟨md, 1, none⟩ (.slice AV (wideK tt tos g.1.length).length cV) = wf at *
              have z0 := HZ.out.cell 0; have z1 := HZ.out.cell 1; have zz := HZ.out.lt
              simp at z0 z1
              have HR2 := hid (ranks_any Aa Ma ca ma gl wf HR.out HML.out.1)
              clear HR HZ hqc hmf hmc y1 yz x0 x1 cM cT xz mz z4 z5 hqz hqf hmz
              go_wp2_with fail
              refine HR2.out.mono ?_
              rintro e w21 ⟨v21, rfl, ho21, hB21⟩
              obtain ⟨A21, c21, rfl, hl21, hs21, -, -, -⟩ := rank_form HML.out.1 ho21
              have B421 := hid (B4F.out.trans (hB21.mono B4F.out.size))
              have BB21 := hid (BBF.out.trans (hB21.mono BBF.out.size))
              have DF21 := hid (DF.out.below hB21)
              have HQ := hid (easier_any AR A21 cR c21 (rankL g) (rankL gl) w21 HLR.out hl21 ((S4.out.below B421.out).more B421.out.size) hs21)
              have HEA := hid (eased_law HML.out.1 HML.out.2 (rankL_rk HML.out.1) (rankL_rk hok.out))
              clear HR2 ho21 hB21 hl21 hs21 z0 z1 zz DF LF BF B4F BBF
              go_wp2_with fail
              refine HQ.out.mono ?_
              rintro e w22 ⟨r, rfl, hr, hB22⟩
              obtain rfl : r = true := hr.2 HEA.out
              have B422 := hid (B421.out.trans (hB22.mono B421.out.size))
              have BB22 := hid (BB21.out.trans (hB22.mono BB21.out.size))
              obtain ⟨Ab, Mb, cb, mb', zb, rb⟩ := DF21.out.below hB22
              have z0 := zb.cell 0; have z1 := zb.cell 1; have zz := zb.lt
              simp at z0 z1
              have HR2 := hid (ranks_any Ab Mb cb mb' _ w22 rb HMW.out.1)
              clear hr hB22 HQ HEA B421 BB21 DF21 zb rb
              go_wp2_with fail
              refine HR2.out.mono ?_
              rintro e w23 ⟨v23, rfl, ho23, hB23⟩
              obtain ⟨A23, c23, rfl, hl23, hs23, -, -, -⟩ := rank_form HMW.out.1 ho23
              have B423 := hid (B422.out.trans (hB23.mono B422.out.size))
              have BB23 := hid (BB22.out.trans (hB23.mono BB22.out.size))
              have HQ := hid (easier_any AR A23 cR c23 (rankL g) _ w23 HLR.out hl23 ((S4.out.below B423.out).more B423.out.size) hs23)
              have HEA := hid (eased_law HMW.out.1 HMW.out.2 (rankL_rk HMW.out.1) (rankL_rk hok.out))
              clear HR2 ho23 hB23 hl23 hs23 z0 z1 zz B422 BB22
              go_wp2_with fail
              refine HQ.out.mono ?_
              rintro e w24 ⟨r, rfl, hr, hB24⟩
              obtain rfl : r = true := hr.2 HEA.out
              have BB24 := hid (BB23.out.trans (hB24.mono BB23.out.size))
              clear hr hB24 HQ HEA B423 BB23
              go_wp2_with fail
              go_ret
              exact ⟨rfl, BB24.out⟩
          have hltI : (i : Int) < g.1.length := by omega
          generalize hwi : wr = wi at *
          clear hwi
          go_wp2_with fail
          go_loopw [16, 17] (fun bv kv wq => ∃ k : Nat, k ≤ tos.length ∧ kv = .int .i64 k ∧ bv = .bool (inK tt tos i k) ∧ Below wi.heap.size wi wq) (fun _ kv _ => tos.length - (intOf kv).toNat)
          case atStart =>
            refine ⟨0, by omega, rfl, ?_, Below.refl _ _⟩
            have : (((i : Nat) : Int) == ((tt : Nat) : Int)) = inK tt tos i 0 := by
              unfold inK
              rw [List.take_zero, List.any_nil, Bool.or_false, Bool.eq_iff_iff, beq_iff_eq, beq_iff_eq]
              omega
            rw [this]
          case round =>
            obtain ⟨k, hk, rfl, rfl, hBq⟩ := hrel
            clear x0 x1 cM cT xz mz z4 z5
            obtain ⟨x0, x1, cM, cT, xz, mz, z4, z5, hcT⟩ := HX.out wr (HB.out.trans (hBq.mono HB.out.size))
            have HBq := hid hBq
            clear hBq
            by_cases hkl : k < tos.length
            case neg =>
              obtain rfl : k = tos.length := by omega
              clear hcT
              have HB2 := hid (HB.out.trans (HBq.out.mono HB.out.size))
              have HO2 := hid (HOI.out.below HBq.out)
              cases hin : inK tt tos i tos.length with
              | false =>
                have HW := hid (show wideK tt tos (i + 1) = wideK tt tos i by rw [wideK_succ, hin]; simp)
                as_aux_lemma =>
                  go_wp2_with fail
                  exact ⟨⟨i + 1, v, by omega, by go_num, rfl, by rw [HW.out]; exact HO2.out, HB2.out⟩, by simp [intOf]; omega⟩
              | true =>
                have HW := hid (show wideK tt tos (i + 1) = wideK tt tos i ++ [(i : Int)] by rw [wideK_succ, hin]; simp)
                have hnw := hid (show (wr.alloc (Obj.cells #[.int .i64 i] 3)).cell? ⟨wr.heap.size, 0, none⟩ = some (.int .i64 i) by simp)
                have hlw := hid (show (wideK tt tos i).length ≤ 10000000 by have := wideK_len tt tos i; omega)
                have b1 := hid ((Below.refl wr.heap.size wr).alloc (Nat.le_refl _) (Obj.cells #[.int .i64 i] 3))
                have HB3 := hid (HB2.out.trans (b1.out.mono HB2.out.size))
                have HO3 := hid (HO2.out.below b1.out)
                as_aux_lemma =>
                  go_wp2_with (at_builtin; refine wp_appJ _ rfl (.tmp 169) (.tmp 171) rfl w20.heap.size v (wideK tt tos i) _ rfl rfl HO3.out wr.heap.size 1 (i : Int) rfl hnw.out hlw.out HB3.out.size ?_; intro g3 c3 w3 ho3 hg3 _; have HO4 := hid ho3; have HB4 := hid (HB3.out.grown hg3 HB3.out.size (fun q e => (own_blk HO3.out q e).1)); clear ho3 hg3)
                  exact ⟨⟨i + 1, _, by omega, by go_num, rfl, by rw [HW.out]; exact HO4.out, HB4.out⟩, by simp [intOf]; omega⟩
            have ct := hcT k hkl
            have hkI : (k : Int) < tos.length := by omega
            have HIN := hid (inK_succ (tt := tt) (i := i) hkl)
            clear hcT
            cases hin : inK tt tos i k with
            | true =>
              rw [hin] at HIN
              as_aux_lemma =>
                go_wp2_with fail
                exact ⟨⟨k + 1, by omega, by go_num, by rw [HIN.out]; rfl, HBq.out⟩, by simp [intOf]; omega⟩
            | false =>
              rw [hin] at HIN
              as_aux_lemma =>
                go_wp2_with fail
                exact ⟨⟨k + 1, by omega, by go_num, by rw [HIN.out]; rfl, HBq.out⟩, by simp [intOf]; omega⟩
end Go.Proofs.Ytiaplhdgchbkkaa
