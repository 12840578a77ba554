
/- Stock: StockPlans, the walk. -/
import Derived.Test.YtmffdhfpfijocaaStkGb
set_option linter.unusedSimpArgs false
set_option linter.unusedVariables false
namespace Go.Proofs.Ytmffdhfpfijocaa
open Go.RowKit Go.IntWalk

theorem flat_take {T : Type} {pl : List (List T)} {i : Nat} (h : i < pl.length) : (pl.take (i + 1)).flatten = (pl.take i).flatten ++ pl[i] := by
  rw [List.take_add_one, List.getElem?_eq_getElem h, Option.toList_some, List.flatten_append]
  simp
theorem flat_bd {pl : List (List Tk)} (h : ∀ t ∈ pl.flatten, 1 ≤ t.2) (i : Nat) : 0 ≤ sumT (pl.take i).flatten ∧ sumT (pl.take i).flatten ≤ sumT pl.flatten ∧ ((pl.take i).flatten.length : Int) ≤ sumT (pl.take i).flatten := by
  have e : (pl.take i).flatten ++ (pl.drop i).flatten = pl.flatten := by rw [← List.flatten_append, List.take_append_drop]
  have h1 := sumT_len (p := (pl.take i).flatten) (fun t ht => h t (by rw [← e]; exact List.mem_append_left _ ht))
  have h2 := sumT_len (p := (pl.drop i).flatten) (fun t ht => h t (by rw [← e]; exact List.mem_append_right _ ht))
  have h3 := sumT_app (pl.take i).flatten (pl.drop i).flatten
  rw [e] at h3
  omega
set_option maxRecDepth 100000 in
set_option maxHeartbeats 8000000 in
theorem splans_any (A B C D : Option Addr) (c d e0 e1 : Nat) (ks : List Kd) (lots : List Lt) (bs : List Bx) (ws : List Wt) (w : World) (hk : ks.length ≤ maxLen) (hl : lots.length ≤ maxLen) (hb : bs.length ≤ maxLen) (hws : ws.length ≤ maxLen) (h1 : SlR w w.heap.size A ks) (h2 : SlR w w.heap.size B lots) (h3 : SlR w w.heap.size C bs) (h4 : SlR w w.heap.size D ws) :
    Calls Try.prog 4 #[.agg #[.slice A ks.length c, .slice B lots.length d, .slice C bs.length e0], .slice D ws.length e1] w fun e w' => e = .returned (.bool true) ∧ Below w.heap.size w w' := by
  obtain ⟨w1, hw1⟩ : ∃ w1, w1 = w.alloc (Obj.cells #[.slice A ks.length c, .slice B lots.length d, .slice C bs.length e0] 26) := ⟨_, rfl⟩
  have B1 := hid (show Below w.heap.size w w1 by rw [hw1]; (repeat (first | exact Below.refl _ _ | assumption | refine below_drewN ?_ _ | refine Below.drew ?_ | refine Below.alloc ?_ (by (try simp); (try omega)) _ | refine Below.setCell ?_ (by (try simp); (try omega)) _)))
  have X1 := hid (show Blk w1 w.heap.size 26 #[.slice A ks.length c, .slice B lots.length d, .slice C bs.length e0] by rw [hw1]; exact Blk.new w _ _)
  have H1 := hid h1; have H2 := hid h2; have H3 := hid h3; have H4 := hid h4
  have HS := hid (ssmall_any w1)
  have HG := hid (fun W (hW : Below w.heap.size w W) => given_any A B C c d e0 ks lots bs W hk hl hb ((H1.out.below hW).more hW.size) ((H2.out.below hW).more hW.size) ((H3.out.below hW).more hW.size))
  clear h1 h2 h3 h4
  go_enter Try.func4, Try.ntmps4
  go_upto_region 1 with fail
  rw [← hw1]
  clear hw1
  go_wp2_with fail
  refine HS.out.mono ?_
  rintro e w2 ⟨rfl, hB⟩
  have B2 := hid (B1.out.trans (hB.mono B1.out.size))
  have X2 := hid (X1.out.below hB X1.out.lt)
  have HG2 := hid (HG.out w2 B2.out)
  clear hB HS HG B1 X1
  have x0 := X2.out.cell 0; have x1 := X2.out.cell 1; have x2 := X2.out.cell 2; have xz := X2.out.lt
  simp at x0 x1 x2
  go_wp2_with fail
  refine HG2.out.mono ?_
  rintro e w3 ⟨rfl, hB⟩
  have B3 := hid (B2.out.trans (hB.mono B2.out.size))
  have X3 := hid (X2.out.below hB X2.out.lt)
  clear hB HG2 B2 X2 x0 x1 x2 xz
  cases hg : (fewS ks lots bs 20 && rightS ks lots bs) with
  | false =>
    as_aux_lemma =>
      go_wp2_with fail
      go_ret
      exact ⟨rfl, B3.out⟩
  | true =>
    obtain ⟨⟨k20, l20, b20⟩, hr, hlt, hc⟩ := given_parts hg
    have HRT := hid hr; have HLT := hid hlt; have HCN := hid hc
    have HOK := hid (leftOK_of (lots := lots) H3.out hlt hc)
    clear hg hr hlt hc
    have x0 := X3.out.cell 0; have x1 := X3.out.cell 1; have x2 := X3.out.cell 2; have xz := X3.out.lt
    simp at x0 x1 x2
    by_cases hw12 : (12 : Int) < ws.length
    case pos =>
      as_aux_lemma =>
        go_wp2_with fail
        go_ret
        exact ⟨rfl, B3.out⟩
    have HRW := hid (fun (x : Wt) (W : World) => refWant_any x W)
    clear x0 x1 x2 xz
    go_upto_region 4 with fail
    go_wp2_with fail
    go_loopw [6] (fun iv wr => ∃ i : Nat, i ≤ ws.length ∧ iv = .int .i64 i ∧ (∀ x ∈ ws.take i, wantF x = true) ∧ Below w3.heap.size w3 wr) (fun iv _ => ws.length - (intOf iv).toNat)
    case atStart => exact ⟨0, by omega, rfl, by simp, Below.refl _ _⟩
    case round =>
      obtain ⟨i, hi, rfl, hwf, hB⟩ := hrel
      have HWF := hid hwf
      have HB := hid hB
      have BR := hid (B3.out.trans (hB.mono B3.out.size))
      have XR := hid (X3.out.below hB X3.out.lt)
      clear hwf hB
      by_cases hil : i < ws.length
      case pos =>
        have hilI : (i : Int) < ws.length := by omega
        have HTK := hid (show ws.take (i + 1) = ws.take i ++ [ws[i]] by rw [List.take_add_one, List.getElem?_eq_getElem hil]; rfl)
        obtain ⟨wb, wo, rfl, hwz, w0, w1c, w2c, -⟩ := H4.out.i3 hil
        replace w0 := (bcell BR.out _ _ hwz).trans w0
        replace w1c := (bcell BR.out _ _ hwz).trans w1c
        replace w2c := (bcell BR.out _ _ hwz).trans w2c
        generalize ws[i] = x at *
        obtain ⟨xk, xc, xu⟩ := x
        simp only at w0 w1c w2c
        have HC := hid (HRW.out (xk, xc, xu) wr)
        simp only at HC
        go_wp2_with fail
        refine HC.out.mono ?_
        rintro e w4 ⟨rfl, hB⟩
        have B4 := hid (HB.out.trans (hB.mono HB.out.size))
        have BW4 := hid (BR.out.trans (hB.mono BR.out.size))
        clear hB w0 w1c w2c HC
        cases hwx : wantF (xk, xc, xu) with
        | false =>
          as_aux_lemma =>
            go_wp2_with fail
            go_ret
            exact ⟨rfl, BW4.out⟩
        | true =>
          have hall2 := hid (show ∀ x ∈ ws.take (i + 1), wantF x = true from fun x hx => by
            rw [HTK.out] at hx
            rcases List.mem_append.1 hx with hx | hx
            · exact HWF.out x hx
            · have := List.mem_singleton.1 hx
              subst this
              exact hwx)
          as_aux_lemma =>
            go_wp2_with fail
            go_roundw
            case rel => exact ⟨i + 1, by omega, by go_num, hall2.out, B4.out⟩
            case measure => simp [intOf]; omega
      obtain rfl : i = ws.length := by omega
      have hwf := HWF.out
      rw [List.take_length] at hwf
      have HWF2 := hid hwf
      have HWC := hid (show ∀ x ∈ ws, 0 ≤ x.2.1 ∧ x.2.1 ≤ 20000 from fun x hx => by
        have := hwf x hx
        simp only [wantF, btw, Bool.and_eq_true, decide_eq_true_eq] at this
        omega)
      obtain ⟨hiff, hor⟩ := plan_iff (lots := lots) (bs := bs) HCN.out hwf
      have HIFF := hid hiff; have HOR := hid hor
      clear hiff hor hwf HWF HB HRW X3 B3
      have HP := hid (plan_any B C D d e0 e1 lots bs ws wr hl b20 (by omega) ((H2.out.below BR.out).more BR.out.size) ((H3.out.below BR.out).more BR.out.size) ((H4.out.below BR.out).more BR.out.size) HOK.out)
      have HPO := hid (@planL_ok lots bs ws); have HPB := hid (@planL_bad lots bs ws)
      have x0 := XR.out.cell 0; have x1 := XR.out.cell 1; have x2 := XR.out.cell 2; have xz := XR.out.lt
      simp at x0 x1 x2
      go_wp2_with fail
      refine HP.out.mono ?_
      rintro e w4 ⟨A4, c4, rfl, hmx4, s4, hB⟩
      have B4 := hid (BR.out.trans (hB.mono BR.out.size))
      have X4 := hid (XR.out.below hB XR.out.lt)
      have F4 := hid s4
      clear s4 hB HP BR XR x0 x1 x2 xz hil
      generalize planL lots bs ws = pr at *
      obtain ⟨pl, er⟩ := pr
      simp only at hmx4 F4 HIFF HOR ⊢
      have x0 := X4.out.cell 0; have x1 := X4.out.cell 1; have x2 := X4.out.cell 2; have xz := X4.out.lt
      simp at x0 x1 x2
      have HC := hid (possible_any A B C D c d e0 e1 ks lots bs ws w4 hl b20 (by omega) ((H2.out.below B4.out).more B4.out.size) ((H3.out.below B4.out).more B4.out.size) ((H4.out.below B4.out).more B4.out.size) HCN.out HLT.out HWC.out)
      rw [← HIFF.out] at HC
      clear HIFF
      rcases HOR.out with rfl | rfl
      case inr =>
        have := HPB.out (by show (22 : Int) ≠ 0; decide)
        simp only at this
        subst this
        clear HPO HPB
        simp at HC
        as_aux_lemma =>
          go_wp2_with fail
          refine HC.out.mono ?_
          rintro e w5 ⟨rfl, hB⟩
          have B5 := hid (B4.out.trans (hB.mono B4.out.size))
          clear hB
          go_wp2_with fail
          go_ret
          exact ⟨rfl, B5.out⟩
      simp only [decide_true] at HC
      obtain ⟨-, bsL, hpl⟩ := HPO.out rfl
      simp only at hpl
      have HPL := hid hpl
      have hlen := hpl.len
      have hlenI : (pl.length : Int) = (ws.length : Int) := by rw [hlen]
      have HLEN := hid hlen
      clear hpl HPO HPB hlen HOR
      go_wp2_with fail
      refine HC.out.mono ?_
      rintro e w5 ⟨rfl, hB⟩
      have B5 := hid (B4.out.trans (hB.mono B4.out.size))
      have X5 := hid (X4.out.below hB X4.out.lt)
      have F5 := hid ((F4.out.below hB).more hB.size)
      clear hB HC B4 X4 F4 x0 x1 x2 xz
      have HPK := hid (plans_pick HPL.out)
      have HPOK := hid (fun i h1 h2 => plans_ok (i := i) rfl (fun _ => rfl) HPL.out h1 h2)
      have HFB := hid (flat_bd (fun t ht => (HPK.out.2.2.2 t ht).2.2))
      have HUS := hid (show sumT pl.flatten ≤ 20000 from by
        have h1 := HPK.out.2.1
        have h2 := ((HPK.out.2.2.1 HCN.out).units bsL.length).1
        rw [List.take_length] at h2
        have h3 := right_units HRT.out
        omega)
      clear HWC HWF2 HCN
      have HFO := hid (show ∀ t ∈ pl.flatten, tkRK.ok t from fun t ht => by
        obtain ⟨p, hp, htp⟩ := List.mem_flatten.1 ht
        obtain ⟨i, hi, rfl⟩ := List.getElem_of_mem hp
        obtain ⟨_, _, _, _, -, -, -, -, -, hps⟩ := F5.out.list hi
        exact tkRK.oks hps t htp)
      go_upto_region 19 with fail
      go_wp2_with fail
      go_loopw [9, 10, 11, 12, 13, 14, 15] (fun av uv iv _ _ _ _ wr => ∃ i : Nat, i ≤ pl.length ∧ iv = .int .i64 i ∧ uv = .int .i64 (sumT (pl.take i).flatten) ∧ tkRK.Own wr w5.heap.size av (pl.take i).flatten ∧ Below w5.heap.size w5 wr) (fun _ _ iv _ _ _ _ _ => pl.length - (intOf iv).toNat)
      case atStart => exact ⟨0, by omega, rfl, rfl, RK.Own.nil, Below.refl _ _⟩
      case round =>
        obtain ⟨i, hi, rfl, rfl, ho, hB⟩ := hrel
        have HB := hid hB
        have XR := hid (X5.out.below hB X5.out.lt)
        have BR := hid (B5.out.trans (hB.mono B5.out.size))
        have OR := hid ho
        clear hB ho
        by_cases hil : i < pl.length
        case neg =>
          as_aux_lemma =>
            obtain rfl : i = pl.length := by omega
            have hOR := OR.out
            rw [List.take_length] at hOR ⊢
            clear HFB HPOK HPL OR
            generalize pl.flatten = fl at *
            obtain ⟨A6, c6, rfl, -, -, sal⟩ := hOR.slr HFO.out
            have SAL := hid sal
            have hPL := hid (show pickL bs fl = (bsL, 0) from pickL_of HPK.out.2.2.2 HPK.out.1)
            have hgt : GoodT bs.length fl := HPK.out.2.2.2
            have hpk := pick_pk hgt HPK.out.1
            have HUN := hid HPK.out.2.1
            have hfl := sumT_len (p := fl) (fun t ht => (hgt t ht).2.2)
            have hcl := HPK.out.2.2.1 HOK.out.cnt
            have hsl := (sumT_len (p := fl) (fun t ht => (hgt t ht).2.2))
            have HRL := hid (right_left HRT.out hgt hpk (by have := HUN.out; omega))
            have hbl : bsL.length = bs.length := hpk.len
            have hub := (HOK.out.cnt.units bs.length).1
            rw [List.take_length] at hub
            have hur := right_units HRT.out
            have hus := HUS.out
            have hwu : IntKind.i64.wrap (unitsL bs - sumT fl) = unitsL bs - sumT fl := IntWalk.i64_in _ (by omega)
            have HP := hid (pick_any C A6 e0 c6 lots bs fl wr b20 (by omega) ((H3.out.below BR.out).more BR.out.size) SAL.out HOK.out)
            have HCL := hid hcl
            have HBL := hid hbl
            have x0 := XR.out.cell 0; have x1 := XR.out.cell 1; have x2 := XR.out.cell 2; have xz := XR.out.lt
            simp at x0 x1 x2
            clear hgt hpk hfl hsl hcl hbl hub hur hus hOR sal
            go_wp2_with fail
            refine HP.out.mono ?_
            rintro e w6 ⟨A7, c7, rfl, hmx7, s7, hB⟩
            rw [hPL.out] at s7 hmx7
            simp only [hPL.out]
            simp only at s7 hmx7
            have B6 := hid (BR.out.trans (hB.mono BR.out.size))
            have X6 := hid (XR.out.below hB XR.out.lt)
            have F6 := hid s7
            clear s7 hB HP BR XR x0 x1 x2 xz HPK HFO HB SAL
            have x0 := X6.out.cell 0; have x1 := X6.out.cell 1; have x2 := X6.out.cell 2; have xz := X6.out.lt
            simp at x0 x1 x2
            have HU1 := hid (fun (W : World) (hW : Below w6.heap.size w6 W) => units_any A7 c7 bsL W (by have := HBL.out; omega) ((F6.out.below hW).more hW.size) HCL.out)
            have HU2 := hid (fun (W : World) (hW : Below w6.heap.size w6 W) => units_any C e0 bs W (by omega) ((H3.out.below (B6.out.trans (hW.mono B6.out.size))).more (B6.out.trans (hW.mono B6.out.size)).size) HOK.out.cnt)
            have HRR := hid (fun (W : World) (hW : Below w6.heap.size w6 W) => sright_any A B A7 c d c7 ks lots bsL W (by omega) hl hmx7 ((H1.out.below (B6.out.trans (hW.mono B6.out.size))).more (B6.out.trans (hW.mono B6.out.size)).size) ((H2.out.below (B6.out.trans (hW.mono B6.out.size))).more (B6.out.trans (hW.mono B6.out.size)).size) ((F6.out.below hW).more hW.size))
            rw [HUN.out] at HU1
            rw [HRL.out] at HRR
            generalize unitsL bs = U at *
            generalize sumT fl = SM at *
            have HSF := hid (fun (wq : World) (hq : Below w6.heap.size w6 wq) => And.intro ((bcell hq _ _ xz).trans x0) (And.intro ((bcell hq _ _ xz).trans x1) ((bcell hq _ _ xz).trans x2)))
            have BD := hid ((Below.refl w6.heap.size w6).drew)
            go_upto_region 41 with fail
            refine wpIn_wide.1 (wpIn_region_S (n := 0) (fun wq => Below w6.heap.size w6 wq) [] (by kernel_rfl) BD.out (fun hHeld => ?_))
            refine wpAnyG_pure 0 (v := ?_) (fun _ => trivial) (by simp only [List.getElem?_toArray, List.getElem?_cons_succ, List.getElem?_cons_zero]; rfl) (by kernel_rfl) (fun _ _ _ _ _ h => h) ⟨(by rfl), (by intro c h; cases h), ?_⟩ hHeld ?_
            rotate_left
            focus (intro wS hSw; (try replace hSw := HSF.out wS hSw); (try dsimp only at hSw); go_simp; (try with_reducible rfl))
            (try simp only [Act.put, List.setIfInBounds_toArray, List.set_cons_zero, List.set_cons_succ])
            refine wpAnyG_pure 1 (v := ?_) (fun _ => trivial) (by simp only [List.getElem?_toArray, List.getElem?_cons_succ, List.getElem?_cons_zero]; rfl) (by kernel_rfl) (fun _ _ _ _ _ h => h) ⟨(by rfl), (by intro c h; cases h), ?_⟩ hHeld ?_
            rotate_left
            focus (intro wS hSw; (try replace hSw := HSF.out wS hSw); (try dsimp only at hSw); go_simp; (try with_reducible rfl))
            (try simp only [Act.put, List.setIfInBounds_toArray, List.set_cons_zero, List.set_cons_succ])
            refine wpAnyG_pure 2 (v := ?_) (fun _ => trivial) (by simp only [List.getElem?_toArray, List.getElem?_cons_succ, List.getElem?_cons_zero]; rfl) (by kernel_rfl) (fun _ _ _ _ _ h => h) ⟨(by rfl), (by intro c h; cases h), ?_⟩ hHeld ?_
            rotate_left
            focus (intro wS hSw; (try replace hSw := HSF.out wS hSw); (try dsimp only at hSw); go_simp; (try with_reducible rfl))
            (try simp only [Act.put, List.setIfInBounds_toArray, List.set_cons_zero, List.set_cons_succ])
            refine wpAnyG_pure 3 (v := ?_) (fun _ => trivial) (by simp only [List.getElem?_toArray, List.getElem?_cons_succ, List.getElem?_cons_zero]; rfl) (by kernel_rfl) (fun _ _ _ _ _ h => h) ⟨(by rfl), (by intro c h; cases h), ?_⟩ hHeld ?_
            rotate_left
            focus (intro wS hSw; (try replace hSw := HSF.out wS hSw); (try dsimp only at hSw); go_simp; (try with_reducible rfl))
            (try simp only [Act.put, List.setIfInBounds_toArray, List.set_cons_zero, List.set_cons_succ])
            refine wpAnyG_pure 4 (v := ?_) (fun _ => trivial) (by simp only [List.getElem?_toArray, List.getElem?_cons_succ, List.getElem?_cons_zero]; rfl) (by kernel_rfl) (fun _ _ _ _ _ h => h) ⟨(by rfl), (by intro c h; cases h), ?_⟩ hHeld ?_
            rotate_left
            focus (intro wS hSw; (try replace hSw := HSF.out wS hSw); (try dsimp only at hSw); go_simp; (try with_reducible rfl))
            (try simp only [Act.put, List.setIfInBounds_toArray, List.set_cons_zero, List.set_cons_succ])
            refine wpAnyG_pure 5 (v := ?_) (fun _ => trivial) (by simp only [List.getElem?_toArray, List.getElem?_cons_succ, List.getElem?_cons_zero]; rfl) (by kernel_rfl) (fun _ _ _ _ _ h => h) ⟨(by rfl), (by intro c h; cases h), ?_⟩ hHeld ?_
            rotate_left
            focus (intro wS hSw; (try replace hSw := HSF.out wS hSw); (try dsimp only at hSw); go_simp; (try with_reducible rfl))
            (try simp only [Act.put, List.setIfInBounds_toArray, List.set_cons_zero, List.set_cons_succ])
            refine wpAnyG_pure 6 (v := ?_) (fun _ => trivial) (by simp only [List.getElem?_toArray, List.getElem?_cons_succ, List.getElem?_cons_zero]; rfl) (by kernel_rfl) (fun _ _ _ _ _ h => h) ⟨(by rfl), (by intro c h; cases h), ?_⟩ hHeld ?_
            rotate_left
            focus (intro wS hSw; (try replace hSw := HSF.out wS hSw); (try dsimp only at hSw); go_simp; (try with_reducible rfl))
            (try simp only [Act.put, List.setIfInBounds_toArray, List.set_cons_zero, List.set_cons_succ])
            refine wpAnyG_pure 8 (v := ?_) (fun _ => trivial) (by simp only [List.getElem?_toArray, List.getElem?_cons_succ, List.getElem?_cons_zero]; rfl) (by kernel_rfl) (fun _ _ _ _ _ h => h) ⟨(by rfl), (by intro c h; cases h), ?_⟩ hHeld ?_
            rotate_left
            focus (intro wS hSw; (try replace hSw := HSF.out wS hSw); (try dsimp only at hSw); go_simp; (try with_reducible rfl))
            (try simp only [Act.put, List.setIfInBounds_toArray, List.set_cons_zero, List.set_cons_succ])
            refine wpAnyG_take 9 (v := ?_) (fun _ => trivial) (by simp only [List.getElem?_toArray, List.getElem?_cons_succ, List.getElem?_cons_zero]; rfl) (by kernel_rfl) (fun _ _ _ _ _ h => h) ⟨(by rfl), (by intro c h; cases h), ?_⟩ hHeld ?_
            rotate_left
            focus (intro wS hSw; (try replace hSw := HSF.out wS hSw); (try dsimp only at hSw); go_simp; (try with_reducible rfl))
            (try simp only [Act.put, List.setIfInBounds_toArray, List.set_cons_zero, List.set_cons_succ])
            refine wpAnyG_pure 11 (v := ?_) (fun _ => trivial) (by simp only [List.getElem?_toArray, List.getElem?_cons_succ, List.getElem?_cons_zero]; rfl) (by kernel_rfl) (fun _ _ _ _ _ h => h) ⟨(by rfl), (by intro c h; cases h), ?_⟩ hHeld ?_
            rotate_left
            focus (intro wS hSw; (try replace hSw := HSF.out wS hSw); (try dsimp only at hSw); go_simp; (try with_reducible rfl))
            (try simp only [Act.put, List.setIfInBounds_toArray, List.set_cons_zero, List.set_cons_succ])
            refine wpAnyS_ready [7] (by kernel_rfl) (by simp) (AllReadyS.consG (by simp only [List.getElem?_toArray, List.getElem?_cons_succ, List.getElem?_cons_zero]; rfl) (by rfl) (fun K hK => ?_) AllReadyS.nil)
            refine callS (by intro c h; cases h) (by go_simp; try with_reducible rfl) (HU1.out _ BD.out) ?_
            intro w7 hBq
            have B7 := hid (BD.out.trans (hBq.mono BD.out.size))
            refine hK.out _ _ B7.out ?_
            (try simp only [Act.put, List.setIfInBounds_toArray, List.set_cons_zero, List.set_cons_succ])
            clear hK K hBq
            clear hHeld
            have hHeld := B7.out
            refine wpAnyS_ready [10] (by kernel_rfl) (by simp) (AllReadyS.consG (by simp only [List.getElem?_toArray, List.getElem?_cons_succ, List.getElem?_cons_zero]; rfl) (by rfl) (fun K hK => ?_) AllReadyS.nil)
            refine callS (by intro c h; cases h) (by go_simp; try with_reducible rfl) (HU2.out _ B7.out) ?_
            intro w8 hBq
            have B8 := hid (B7.out.trans (hBq.mono B7.out.size))
            refine hK.out _ _ B8.out ?_
            (try simp only [Act.put, List.setIfInBounds_toArray, List.set_cons_zero, List.set_cons_succ])
            clear hK K hBq
            clear hHeld
            have hHeld := B8.out
            refine wpAnyG_pure 12 (v := ?_) (fun _ => trivial) (by simp only [List.getElem?_toArray, List.getElem?_cons_succ, List.getElem?_cons_zero]; rfl) (by kernel_rfl) (fun _ _ _ _ _ h => h) ⟨(by rfl), (by intro c h; cases h), ?_⟩ hHeld ?_
            rotate_left
            focus (intro wS hSw; (try replace hSw := HSF.out wS hSw); (try dsimp only at hSw); go_simp; (try with_reducible rfl))
            (try simp only [Act.put, List.setIfInBounds_toArray, List.set_cons_zero, List.set_cons_succ])
            refine wpAnyG_pure 13 (v := ?_) (fun _ => trivial) (by simp only [List.getElem?_toArray, List.getElem?_cons_succ, List.getElem?_cons_zero]; rfl) (by kernel_rfl) (fun _ _ _ _ _ h => h) ⟨(by rfl), (by intro c h; cases h), ?_⟩ hHeld ?_
            rotate_left
            focus (intro wS hSw; (try replace hSw := HSF.out wS hSw); (try dsimp only at hSw); go_simp; (try with_reducible rfl))
            (try simp only [Act.put, List.setIfInBounds_toArray, List.set_cons_zero, List.set_cons_succ])
            refine wpAnyG_pure 14 (v := ?_) (fun _ => trivial) (by simp only [List.getElem?_toArray, List.getElem?_cons_succ, List.getElem?_cons_zero]; rfl) (by kernel_rfl) (fun _ _ _ _ _ h => h) ⟨(by rfl), (by intro c h; cases h), ?_⟩ hHeld ?_
            rotate_left
            focus (intro wS hSw; (try replace hSw := HSF.out wS hSw); (try dsimp only at hSw); go_simp; (try with_reducible rfl))
            (try simp only [Act.put, List.setIfInBounds_toArray, List.set_cons_zero, List.set_cons_succ])
            refine wpAnyG_pure 15 (v := ?_) (fun _ => trivial) (by simp only [List.getElem?_toArray, List.getElem?_cons_succ, List.getElem?_cons_zero]; rfl) (by kernel_rfl) (fun _ _ _ _ _ h => h) ⟨(by rfl), (by intro c h; cases h), ?_⟩ hHeld ?_
            rotate_left
            focus (intro wS hSw; (try replace hSw := HSF.out wS hSw); (try dsimp only at hSw); go_simp; (try with_reducible rfl))
            (try simp only [Act.put, List.setIfInBounds_toArray, List.set_cons_zero, List.set_cons_succ])
            refine wpAnyG_pure 16 (v := ?_) (fun _ => trivial) (by simp only [List.getElem?_toArray, List.getElem?_cons_succ, List.getElem?_cons_zero]; rfl) (by kernel_rfl) (fun _ _ _ _ _ h => h) ⟨(by rfl), (by intro c h; cases h), ?_⟩ hHeld ?_
            rotate_left
            focus (intro wS hSw; (try replace hSw := HSF.out wS hSw); (try dsimp only at hSw); go_simp; (try with_reducible rfl))
            (try simp only [Act.put, List.setIfInBounds_toArray, List.set_cons_zero, List.set_cons_succ])
            refine wpAnyG_take 17 (v := ?_) (fun _ => trivial) (by simp only [List.getElem?_toArray, List.getElem?_cons_succ, List.getElem?_cons_zero]; rfl) (by kernel_rfl) (fun _ _ _ _ _ h => h) ⟨(by rfl), (by intro c h; cases h), ?_⟩ hHeld ?_
            rotate_left
            focus (intro wS hSw; (try replace hSw := HSF.out wS hSw); (try dsimp only at hSw); go_simp; (try with_reducible rfl))
            (try simp only [Act.put, List.setIfInBounds_toArray, List.set_cons_zero, List.set_cons_succ])
            refine wpAnyG_pure 18 (v := ?_) (fun _ => trivial) (by simp only [List.getElem?_toArray, List.getElem?_cons_succ, List.getElem?_cons_zero]; rfl) (by kernel_rfl) (fun _ _ _ _ _ h => h) ⟨(by rfl), (by intro c h; cases h), ?_⟩ hHeld ?_
            rotate_left
            focus (intro wS hSw; (try replace hSw := HSF.out wS hSw); (try dsimp only at hSw); go_simp; (try with_reducible rfl))
            (try simp only [Act.put, List.setIfInBounds_toArray, List.set_cons_zero, List.set_cons_succ])
            refine wpAnyG_take 19 (v := ?_) (fun _ => trivial) (by simp only [List.getElem?_toArray, List.getElem?_cons_succ, List.getElem?_cons_zero]; rfl) (by kernel_rfl) (fun _ _ _ _ _ h => h) ⟨(by rfl), (by intro c h; cases h), ?_⟩ hHeld ?_
            rotate_left
            focus (intro wS hSw; (try replace hSw := HSF.out wS hSw); (try dsimp only at hSw); go_simp; (try with_reducible rfl))
            (try simp only [Act.put, List.setIfInBounds_toArray, List.set_cons_zero, List.set_cons_succ])
            refine wpAnyG_pure 20 (v := ?_) (fun _ => trivial) (by simp only [List.getElem?_toArray, List.getElem?_cons_succ, List.getElem?_cons_zero]; rfl) (by kernel_rfl) (fun _ _ _ _ _ h => h) ⟨(by rfl), (by intro c h; cases h), ?_⟩ hHeld ?_
            rotate_left
            focus (intro wS hSw; (try replace hSw := HSF.out wS hSw); (try dsimp only at hSw); go_simp; (try with_reducible rfl))
            (try simp only [Act.put, List.setIfInBounds_toArray, List.set_cons_zero, List.set_cons_succ])
            refine wpAnyS_ready [21] (by kernel_rfl) (by simp) (AllReadyS.consG (by simp only [List.getElem?_toArray, List.getElem?_cons_succ, List.getElem?_cons_zero]; rfl) (by rfl) (fun K hK => ?_) AllReadyS.nil)
            refine callS (by intro c h; cases h) (by go_simp; try with_reducible rfl) (HRR.out _ B8.out) ?_
            intro w9 hBq
            have B9 := hid (B8.out.trans (hBq.mono B8.out.size))
            refine hK.out _ _ B9.out ?_
            (try simp only [Act.put, List.setIfInBounds_toArray, List.set_cons_zero, List.set_cons_succ])
            clear hK K hBq
            clear hHeld
            have hHeld := B9.out
            refine wpAnyG_pure 22 (v := ?_) (fun _ => trivial) (by simp only [List.getElem?_toArray, List.getElem?_cons_succ, List.getElem?_cons_zero]; rfl) (by kernel_rfl) (fun _ _ _ _ _ h => h) ⟨(by rfl), (by intro c h; cases h), ?_⟩ hHeld ?_
            rotate_left
            focus (intro wS hSw; (try replace hSw := HSF.out wS hSw); (try dsimp only at hSw); go_simp; (try with_reducible rfl))
            (try simp only [Act.put, List.setIfInBounds_toArray, List.set_cons_zero, List.set_cons_succ])
            refine wpAnyG_pure 23 (v := ?_) (fun _ => trivial) (by simp only [List.getElem?_toArray, List.getElem?_cons_succ, List.getElem?_cons_zero]; rfl) (by kernel_rfl) (fun _ _ _ _ _ h => h) ⟨(by rfl), (by intro c h; cases h), ?_⟩ hHeld ?_
            rotate_left
            focus (intro wS hSw; (try replace hSw := HSF.out wS hSw); (try dsimp only at hSw); go_simp; (try with_reducible rfl))
            (try simp only [Act.put, List.setIfInBounds_toArray, List.set_cons_zero, List.set_cons_succ])
            refine wpAnyS_done (by kernel_rfl) ?_
            clear hHeld HSF
            have BW9 := hid (B6.out.trans (B9.out.mono B6.out.size))
            go_wp2_with fail
            go_ret
            exact ⟨rfl, BW9.out⟩
        have hilI : (i : Int) < pl.length := by omega
        have hiw : i < ws.length := by have := HLEN.out; omega
        have hiwI : (i : Int) < ws.length := by omega
        have HOKi := hid (HPOK.out i hiw hil)
        have HFT := hid (flat_take hil)
        have hfb0 := HFB.out i
        have hfb1 := HFB.out (i + 1)
        rw [HFT.out, sumT_app] at hfb1
        obtain ⟨pb, po, AP, cP, rfl, hpz, hpc, hpl4, hpl5, hps⟩ := F5.out.list hil
        have hpmx : pl[i].length ≤ 9223372036854775807 := by unfold maxLen at hpl5; omega
        clear hpl5
        have HPS := hid hps
        obtain ⟨wb, wo, rfl, hwz, w0c, w1c, w2c, -⟩ := H4.out.i3 hiw
        generalize pl[i] = p at *
        generalize ws[i] = x at *
        obtain ⟨xk, xc, xu⟩ := x
        simp only at w0c w1c w2c
        have hpcr := (bcell HB.out _ _ hpz).trans hpc
        have hus := HUS.out
        have HPT := hid (sumT_part (p := p) (fun t ht => (HOKi.out.good t ht).2.2.1))
        have HTT := hid (fun k (h : k < p.length) => sumT_take h)
        have hsm := HOKi.out.sum
        simp only at hsm
        clear hps HFB HPK HPOK HRT HFO
        generalize (pl.take i).flatten = fi at *
        generalize sumT pl.flatten = sp at *
        have hsiI := hid (show sumT (fi ++ p) = sumT fi + sumT p from sumT_app _ _)
        generalize sumT fi = si at *
        go_upto_region 21 with fail
        go_wp2_with fail
        go_loopw [12, 13, 14, 15] (fun nv kv _ _ wq => ∃ k : Nat, k ≤ p.length ∧ kv = .int .i64 k ∧ nv = .int .i64 (sumT (p.take k)) ∧ Below wr.heap.size wr wq) (fun _ kv _ _ _ => p.length - (intOf kv).toNat)
        case atStart => exact ⟨0, by omega, rfl, rfl, Below.refl _ _⟩
        case round =>
          obtain ⟨k, hk2, rfl, rfl, hB⟩ := hrel
          have HBk := hid hB
          have XK := hid (XR.out.below hB XR.out.lt)
          have BK := hid (BR.out.trans (hB.mono BR.out.size))
          have hpck := (bcell (HB.out.trans (hB.mono HB.out.size)) _ _ hpz).trans hpc
          clear hB
          by_cases hkp : k < p.length
          case neg =>
            as_aux_lemma =>
              obtain rfl : k = p.length := by omega
              rw [List.take_length] at *
              have hws : IntKind.i64.wrap (si + sumT p) = si + sumT p := IntWalk.i64_in _ (by omega)
              have u1 := (bcell BK.out _ _ hwz).trans w1c
              have BRk := hid (HB.out.trans (HBk.out.mono HB.out.size))
              have OK := hid (OR.out.below HBk.out)
              have SP := hid ((HPS.out.below BRk.out).more BRk.out.size)
              have hfl2 : (fi.length : Int) + p.length ≤ 20000 := by rw [List.length_append] at hfb1; omega
              have HNX := hid hsiI.out
              have hfl3 := hid (show fi.length + p.length ≤ 100000000 from by omega)
              clear HTT HPT hpcr hpc w0c w1c w2c hkp hk2
              generalize sumT p = sm at *
              subst hsm
              go_upto_region 39 with fail
              go_wp2_with (at_builtin; refine tkRK.appL _ rfl (.tmp 159) (.tmp 163) rfl rfl OK.out (ys := p) (c := cP) rfl SP.out hfl3.out BRk.out.size ?_; intro A6 c6 w6 ho6 hg6; have O6 := hid ho6; have b6 := hid (gr_own BRk.out BRk.out.size OK.out hg6); clear ho6 hg6)
              go_roundw
              case rel => exact ⟨i + 1, by omega, by go_num, by rw [HFT.out, HNX.out], by rw [HFT.out, List.length_append] at *; exact O6.out, b6.out⟩
              case measure => simp [intOf]; omega
          have hkpI : (k : Int) < p.length := by omega
          have hgd := HOKi.out.good _ (List.getElem_mem hkp)
          have HTK := hid (HTT.out k hkp)
          have hp1 := HPT.out (k + 1)
          rw [HTK.out] at hp1
          have hp0 := HPT.out k
          have HND := hid (show ∀ j (h : j < k), p[j].1 ≠ p[k].1 from fun j h => by
            have h3 := List.pairwise_iff_getElem.1 HOKi.out.nodup j k (by rw [List.length_map]; omega) (by rw [List.length_map]; exact hkp) h
            rw [List.getElem_map, List.getElem_map] at h3
            exact h3)
          obtain ⟨tb, to_, rfl, htz, t0, t1, -⟩ := HPS.out.tk hkp
          have BRk := hid (HB.out.trans (HBk.out.mono HB.out.size))
          have t0k := (bcell BRk.out _ _ htz).trans t0
          have t1k := (bcell BRk.out _ _ htz).trans t1
          generalize p[k] = pk at *
          obtain ⟨pk1, pk2⟩ := pk
          simp only at hgd HTK hp1 t0 t1 t0k t1k HND
          obtain ⟨hg0, hg1, hg2, hg3⟩ := hgd
          obtain ⟨q, rfl⟩ := Int.eq_ofNat_of_zero_le hg0
          have hqb : q < bs.length := by omega
          rw [Int.toNat_natCast, show bs.getD q z3 = bs[q] from by simp [hqb]] at hg3
          obtain ⟨bb, bo, rfl, hbz, q0, q1, q2, -⟩ := H3.out.i3 hqb
          have x2 := XK.out.cell 2; have x1 := XK.out.cell 1; have xz := XK.out.lt
          simp at x1 x2
          clear hpcr hpc t0 t1
          obtain ⟨wa, hwa⟩ : ∃ wa, wa = wr.alloc (Obj.cells #[.int .i64 (q : Int), .int .i64 pk2] 36) := ⟨_, rfl⟩
          have BA := hid (show Below wr.heap.size wr wa by rw [hwa]; (repeat (first | exact Below.refl _ _ | assumption | refine below_drewN ?_ _ | refine Below.drew ?_ | refine Below.alloc ?_ (by (try simp); (try omega)) _ | refine Below.setCell ?_ (by (try simp); (try omega)) _)))
          have YA := hid (show Blk wa wr.heap.size 36 #[.int .i64 (q : Int), .int .i64 pk2] by rw [hwa]; exact Blk.new wr _ _)
          go_upto_region 26 with fail
          rw [← hwa]
          clear hwa
          have BWA := hid (BK.out.trans (BA.out.mono BK.out.size))
          have BAA := hid (BRk.out.trans (BA.out.mono BRk.out.size))
          have BBA := hid (HBk.out.trans (BA.out.mono HBk.out.size))
          have HPSA := hid (fun j (hj : j < p.length) => HPS.out.tk hj)
          have hpca := (bcell BA.out _ _ (show pb < wr.heap.size by have := BRk.out.size; omega)).trans hpck
          have XA := hid (XK.out.below BA.out XK.out.lt)
          have x1 := XA.out.cell 1; have x2 := XA.out.cell 2; have xz := XA.out.lt
          have y0 := YA.out.cell 0; have y1 := YA.out.cell 1; have yz := YA.out.lt
          simp at x1 x2 y0 y1
          have hq0 : ¬ (q : Int) < 0 := by omega
          have hqb2 : ¬ (bs.length : Int) ≤ (q : Int) := by omega
          have hp2 : ¬ pk2 < 1 := by omega
          have hqbI : (q : Int) < bs.length := by omega
          have q0a := (bcell BWA.out _ _ hbz).trans q0
          have q1a := (bcell BWA.out _ _ hbz).trans q1
          have q2a := (bcell BWA.out _ _ hbz).trans q2
          have u0 := (bcell BWA.out _ _ hwz).trans w0c
          have u1 := (bcell BWA.out _ _ hwz).trans w1c
          have u2 := (bcell BWA.out _ _ hwz).trans w2c
          have hbz' : bb < wa.heap.size := by have := BWA.out.size; omega
          have hwz' : wb < wa.heap.size := by have := BWA.out.size; omega
          have hpz' : pb < wa.heap.size := by have := BAA.out.size; omega
          have hw2 : IntKind.i64.wrap (sumT (p.take k) + pk2) = sumT (p.take k) + pk2 := IntWalk.i64_in _ (by omega)
          clear q0 q1 q2 w0c w1c w2c t0k t1k hpck XK hg0 hg1 hp0 hfb0 hfb1
          generalize bs[q] = cq at *
          obtain ⟨cq0, cq1, cq2⟩ := cq
          simp only at q0a q1a q2a
          have HH := hid (fun (W : World) (hW : Below w.heap.size w W) => has_any B d lots (cq0, cq1, cq2) (xk, xc, xu) W hl ((H2.out.below hW).more hW.size))
          rw [hg3] at HH
          simp only at HH
          go_upto_region 28 with fail
          have HSF := hid (fun (wq : World) (hq : Below wa.heap.size wa wq) => And.intro ((bcell hq _ _ xz).trans x1) (And.intro ((bcell hq _ _ xz).trans x2) (And.intro ((bcell hq _ _ yz).trans y0) (And.intro ((bcell hq _ _ hbz').trans q0a) (And.intro ((bcell hq _ _ hbz').trans q1a) (And.intro ((bcell hq _ _ hbz').trans q2a) (And.intro ((bcell hq _ _ hwz').trans u0) (And.intro ((bcell hq _ _ hwz').trans u1) ((bcell hq _ _ hwz').trans u2)))))))))
          have BD := hid ((Below.refl wa.heap.size wa).drew)
          clear q0a q1a q2a u0 u1 u2
          refine wpIn_wide.1 (wpIn_region_S (n := 0) (fun wq => Below wa.heap.size wa wq) [] (by kernel_rfl) BD.out (fun hHeld => ?_))
          refine wpAnyG_pure 0 (v := ?_) (fun _ => trivial) (by simp only [List.getElem?_toArray, List.getElem?_cons_succ, List.getElem?_cons_zero]; rfl) (by kernel_rfl) (fun _ _ _ _ _ h => h) ⟨(by rfl), (by intro c h; cases h), ?_⟩ hHeld ?_
          rotate_left
          focus (intro wS hSw; (try replace hSw := HSF.out wS hSw); (try dsimp only at hSw); go_simp; (try with_reducible rfl))
          (try simp only [Act.put, List.setIfInBounds_toArray, List.set_cons_zero, List.set_cons_succ])
          refine wpAnyG_take 1 (v := ?_) (fun _ => trivial) (by simp only [List.getElem?_toArray, List.getElem?_cons_succ, List.getElem?_cons_zero]; rfl) (by kernel_rfl) (fun _ _ _ _ _ h => h) ⟨(by rfl), (by intro c h; cases h), ?_⟩ hHeld ?_
          rotate_left
          focus (intro wS hSw; (try replace hSw := HSF.out wS hSw); (try dsimp only at hSw); go_simp; (try with_reducible rfl))
          (try simp only [Act.put, List.setIfInBounds_toArray, List.set_cons_zero, List.set_cons_succ])
          refine wpAnyG_pure 2 (v := ?_) (fun _ => trivial) (by simp only [List.getElem?_toArray, List.getElem?_cons_succ, List.getElem?_cons_zero]; rfl) (by kernel_rfl) (fun _ _ _ _ _ h => h) ⟨(by rfl), (by intro c h; cases h), ?_⟩ hHeld ?_
          rotate_left
          focus (intro wS hSw; (try replace hSw := HSF.out wS hSw); (try dsimp only at hSw); go_simp; (try with_reducible rfl))
          (try simp only [Act.put, List.setIfInBounds_toArray, List.set_cons_zero, List.set_cons_succ])
          refine wpAnyG_take 3 (v := ?_) (fun _ => trivial) (by simp only [List.getElem?_toArray, List.getElem?_cons_succ, List.getElem?_cons_zero]; rfl) (by kernel_rfl) (fun _ _ _ _ _ h => h) ⟨(by rfl), (by intro c h; cases h), ?_⟩ hHeld ?_
          rotate_left
          focus (intro wS hSw; (try replace hSw := HSF.out wS hSw); (try dsimp only at hSw); go_simp; (try with_reducible rfl))
          (try simp only [Act.put, List.setIfInBounds_toArray, List.set_cons_zero, List.set_cons_succ])
          refine wpAnyG_pure 4 (v := ?_) (fun _ => trivial) (by simp only [List.getElem?_toArray, List.getElem?_cons_succ, List.getElem?_cons_zero]; rfl) (by kernel_rfl) (fun _ _ _ _ _ h => h) ⟨(by rfl), (by intro c h; cases h), ?_⟩ hHeld ?_
          rotate_left
          focus (intro wS hSw; (try replace hSw := HSF.out wS hSw); (try dsimp only at hSw); go_simp; (try with_reducible rfl))
          (try simp only [Act.put, List.setIfInBounds_toArray, List.set_cons_zero, List.set_cons_succ])
          refine wpAnyG_take 5 (v := ?_) (fun _ => trivial) (by simp only [List.getElem?_toArray, List.getElem?_cons_succ, List.getElem?_cons_zero]; rfl) (by kernel_rfl) (fun _ _ _ _ _ h => h) ⟨(by rfl), (by intro c h; cases h), ?_⟩ hHeld ?_
          rotate_left
          focus (intro wS hSw; (try replace hSw := HSF.out wS hSw); (try dsimp only at hSw); go_simp; (try with_reducible rfl))
          (try simp only [Act.put, List.setIfInBounds_toArray, List.set_cons_zero, List.set_cons_succ])
          refine wpAnyG_pure 6 (v := ?_) (fun _ => trivial) (by simp only [List.getElem?_toArray, List.getElem?_cons_succ, List.getElem?_cons_zero]; rfl) (by kernel_rfl) (fun _ _ _ _ _ h => h) ⟨(by rfl), (by intro c h; cases h), ?_⟩ hHeld ?_
          rotate_left
          focus (intro wS hSw; (try replace hSw := HSF.out wS hSw); (try dsimp only at hSw); go_simp; (try with_reducible rfl))
          (try simp only [Act.put, List.setIfInBounds_toArray, List.set_cons_zero, List.set_cons_succ])
          refine wpAnyG_take 7 (v := ?_) (fun _ => trivial) (by simp only [List.getElem?_toArray, List.getElem?_cons_succ, List.getElem?_cons_zero]; rfl) (by kernel_rfl) (fun _ _ _ _ _ h => h) ⟨(by rfl), (by intro c h; cases h), ?_⟩ hHeld ?_
          rotate_left
          focus (intro wS hSw; (try replace hSw := HSF.out wS hSw); (try dsimp only at hSw); go_simp; (try with_reducible rfl))
          (try simp only [Act.put, List.setIfInBounds_toArray, List.set_cons_zero, List.set_cons_succ])
          refine wpAnyG_pure 8 (v := ?_) (fun _ => trivial) (by simp only [List.getElem?_toArray, List.getElem?_cons_succ, List.getElem?_cons_zero]; rfl) (by kernel_rfl) (fun _ _ _ _ _ h => h) ⟨(by rfl), (by intro c h; cases h), ?_⟩ hHeld ?_
          rotate_left
          focus (intro wS hSw; (try replace hSw := HSF.out wS hSw); (try dsimp only at hSw); go_simp; (try with_reducible rfl))
          (try simp only [Act.put, List.setIfInBounds_toArray, List.set_cons_zero, List.set_cons_succ])
          refine wpAnyG_pure 9 (v := ?_) (fun _ => trivial) (by simp only [List.getElem?_toArray, List.getElem?_cons_succ, List.getElem?_cons_zero]; rfl) (by kernel_rfl) (fun _ _ _ _ _ h => h) ⟨(by rfl), (by intro c h; cases h), ?_⟩ hHeld ?_
          rotate_left
          focus (intro wS hSw; (try replace hSw := HSF.out wS hSw); (try dsimp only at hSw); go_simp; (try with_reducible rfl))
          (try simp only [Act.put, List.setIfInBounds_toArray, List.set_cons_zero, List.set_cons_succ])
          refine wpAnyG_pure 10 (v := ?_) (fun _ => trivial) (by simp only [List.getElem?_toArray, List.getElem?_cons_succ, List.getElem?_cons_zero]; rfl) (by kernel_rfl) (fun _ _ _ _ _ h => h) ⟨(by rfl), (by intro c h; cases h), ?_⟩ hHeld ?_
          rotate_left
          focus (intro wS hSw; (try replace hSw := HSF.out wS hSw); (try dsimp only at hSw); go_simp; (try with_reducible rfl))
          (try simp only [Act.put, List.setIfInBounds_toArray, List.set_cons_zero, List.set_cons_succ])
          refine wpAnyG_take 11 (v := ?_) (fun _ => trivial) (by simp only [List.getElem?_toArray, List.getElem?_cons_succ, List.getElem?_cons_zero]; rfl) (by kernel_rfl) (fun _ _ _ _ _ h => h) ⟨(by rfl), (by intro c h; cases h), ?_⟩ hHeld ?_
          rotate_left
          focus (intro wS hSw; (try replace hSw := HSF.out wS hSw); (try dsimp only at hSw); go_simp; (try with_reducible rfl))
          (try simp only [Act.put, List.setIfInBounds_toArray, List.set_cons_zero, List.set_cons_succ])
          refine wpAnyS_ready [12] (by kernel_rfl) (by simp) (AllReadyS.consG (by simp only [List.getElem?_toArray, List.getElem?_cons_succ, List.getElem?_cons_zero]; rfl) (by rfl) (fun K hK => ?_) AllReadyS.nil)
          refine callS (by intro c h; cases h) (by go_simp; try with_reducible rfl) (HH.out _ (BWA.out.trans (BD.out.mono BWA.out.size))) ?_
          intro w12 hBq
          have B12 := hid (BD.out.trans (hBq.mono BD.out.size))
          refine hK.out _ _ B12.out ?_
          (try simp only [Act.put, List.setIfInBounds_toArray, List.set_cons_zero, List.set_cons_succ])
          clear hK K hBq
          clear hHeld
          have hHeld := B12.out
          refine wpAnyG_pure 13 (v := ?_) (fun _ => trivial) (by simp only [List.getElem?_toArray, List.getElem?_cons_succ, List.getElem?_cons_zero]; rfl) (by kernel_rfl) (fun _ _ _ _ _ h => h) ⟨(by rfl), (by intro c h; cases h), ?_⟩ hHeld ?_
          rotate_left
          focus (intro wS hSw; (try replace hSw := HSF.out wS hSw); (try dsimp only at hSw); go_simp; (try with_reducible rfl))
          (try simp only [Act.put, List.setIfInBounds_toArray, List.set_cons_zero, List.set_cons_succ])
          refine wpAnyS_done (by kernel_rfl) ?_
          clear hHeld HSF HH
          have BB12 := hid (BBA.out.trans (B12.out.mono BBA.out.size))
          have BW12 := hid (BAA.out.trans (B12.out.mono BAA.out.size))
          have y0' := (bcell B12.out _ _ yz).trans y0
          have y1' := (bcell B12.out _ _ yz).trans y1
          have hpc12 := (bcell B12.out _ _ hpz').trans hpca
          have yz' : wr.heap.size < w12.heap.size := by have := B12.out.size; omega
          have hpz2 : pb < w12.heap.size := by have := B12.out.size; omega
          clear y0 y1 hpca x1 x2 xz yz BD BWA BAA BBA XA YA B12 BA hq0 hqb2 hp2 hqbI
          go_upto_region 31 with fail
          go_wp2_with fail
          go_loopw [15] (fun jv wq => ∃ j : Nat, j ≤ k ∧ jv = .int .i64 j ∧ Below w12.heap.size w12 wq) (fun jv _ => k - (intOf jv).toNat)
          case atStart => exact ⟨0, by omega, rfl, Below.refl _ _⟩
          case round =>
            obtain ⟨j, hj, rfl, hB⟩ := hrel
            have HBj := hid hB
            have y0 := (bcell hB _ _ yz').trans y0'
            have y1 := (bcell hB _ _ yz').trans y1'
            have hpcj := (bcell hB _ _ hpz2).trans hpc12
            clear hB
            by_cases hjk : j < k
            case neg =>
              have hjkI : ¬ (j : Int) < k := by omega
              have BN := hid (BB12.out.trans (HBj.out.mono BB12.out.size))
              as_aux_lemma =>
                go_wp2_with fail
                go_roundw
                case rel => exact ⟨k + 1, by omega, by go_num, by rw [HTK.out], BN.out⟩
                case measure => simp [intOf]; omega
            have hjkI : (j : Int) < k := by omega
            have hjp : j < p.length := by omega
            have hjpI : (j : Int) < p.length := by omega
            obtain ⟨tb', to', hA, htz, t0, -, -⟩ := HPSA.out j hjp
            injection hA with hA
            injection hA with hA1 hA2 _
            subst hA1 hA2
            have BT := hid (BW12.out.trans (HBj.out.mono BW12.out.size))
            have t0j := (bcell BT.out _ _ htz).trans t0
            have hne := HND.out j hjk
            have hne1 : (p[j].1 == (q : Int)) = false := by simpa using hne
            have hne2 : decide (p[j].1 = (q : Int)) = false := by simpa using hne
            generalize p[j].1 = pj at *
            clear t0
            as_aux_lemma =>
              go_upto_region 33 with fail
              refine wpIn_wide.1 (wpIn_region_S (n := 0) (fun wq => wq.cell? ⟨pb, po + i, none⟩ = some (.slice (some ⟨tb, to_, none⟩) p.length cP) ∧ wq.cell? ⟨tb, to_ + j * 2, none⟩ = some (.int .i64 pj) ∧ wq.cell? ⟨_, 0, none⟩ = some (.int .i64 (q : Int))) [] (by kernel_rfl) ⟨hpcj, t0j, y0⟩ (fun hHeld => ?_))
              refine wpAnyG_pure 0 (v := ?_) (fun _ => trivial) (by simp only [List.getElem?_toArray, List.getElem?_cons_succ, List.getElem?_cons_zero]; rfl) (by kernel_rfl) (fun _ _ _ _ _ h => h) ⟨(by rfl), (by intro c h; cases h), ?_⟩ hHeld ?_
              rotate_left
              focus (intro wS hSw; (try replace hSw := HSF.out wS hSw); (try dsimp only at hSw); go_simp; (try with_reducible rfl))
              (try simp only [Act.put, List.setIfInBounds_toArray, List.set_cons_zero, List.set_cons_succ])
              refine wpAnyG_pure 1 (v := ?_) (fun _ => trivial) (by simp only [List.getElem?_toArray, List.getElem?_cons_succ, List.getElem?_cons_zero]; rfl) (by kernel_rfl) (fun _ _ _ _ _ h => h) ⟨(by rfl), (by intro c h; cases h), ?_⟩ hHeld ?_
              rotate_left
              focus (intro wS hSw; (try replace hSw := HSF.out wS hSw); (try dsimp only at hSw); go_simp; (try with_reducible rfl))
              (try simp only [Act.put, List.setIfInBounds_toArray, List.set_cons_zero, List.set_cons_succ])
              refine wpAnyG_pure 2 (v := ?_) (fun _ => trivial) (by simp only [List.getElem?_toArray, List.getElem?_cons_succ, List.getElem?_cons_zero]; rfl) (by kernel_rfl) (fun _ _ _ _ _ h => h) ⟨(by rfl), (by intro c h; cases h), ?_⟩ hHeld ?_
              rotate_left
              focus (intro wS hSw; (try replace hSw := HSF.out wS hSw); (try dsimp only at hSw); go_simp; (try with_reducible rfl))
              (try simp only [Act.put, List.setIfInBounds_toArray, List.set_cons_zero, List.set_cons_succ])
              refine wpAnyG_take 3 (v := ?_) (fun _ => trivial) (by simp only [List.getElem?_toArray, List.getElem?_cons_succ, List.getElem?_cons_zero]; rfl) (by kernel_rfl) (fun _ _ _ _ _ h => h) ⟨(by rfl), (by intro c h; cases h), ?_⟩ hHeld ?_
              rotate_left
              focus (intro wS hSw; (try replace hSw := HSF.out wS hSw); (try dsimp only at hSw); go_simp; (try with_reducible rfl))
              (try simp only [Act.put, List.setIfInBounds_toArray, List.set_cons_zero, List.set_cons_succ])
              refine wpAnyG_pure 4 (v := ?_) (fun _ => trivial) (by simp only [List.getElem?_toArray, List.getElem?_cons_succ, List.getElem?_cons_zero]; rfl) (by kernel_rfl) (fun _ _ _ _ _ h => h) ⟨(by rfl), (by intro c h; cases h), ?_⟩ hHeld ?_
              rotate_left
              focus (intro wS hSw; (try replace hSw := HSF.out wS hSw); (try dsimp only at hSw); go_simp; (try with_reducible rfl))
              (try simp only [Act.put, List.setIfInBounds_toArray, List.set_cons_zero, List.set_cons_succ])
              refine wpAnyG_pure 5 (v := ?_) (fun _ => trivial) (by simp only [List.getElem?_toArray, List.getElem?_cons_succ, List.getElem?_cons_zero]; rfl) (by kernel_rfl) (fun _ _ _ _ _ h => h) ⟨(by rfl), (by intro c h; cases h), ?_⟩ hHeld ?_
              rotate_left
              focus (intro wS hSw; (try replace hSw := HSF.out wS hSw); (try dsimp only at hSw); go_simp; (try with_reducible rfl))
              (try simp only [Act.put, List.setIfInBounds_toArray, List.set_cons_zero, List.set_cons_succ])
              refine wpAnyG_pure 6 (v := ?_) (fun _ => trivial) (by simp only [List.getElem?_toArray, List.getElem?_cons_succ, List.getElem?_cons_zero]; rfl) (by kernel_rfl) (fun _ _ _ _ _ h => h) ⟨(by rfl), (by intro c h; cases h), ?_⟩ hHeld ?_
              rotate_left
              focus (intro wS hSw; (try replace hSw := HSF.out wS hSw); (try dsimp only at hSw); go_simp; (try with_reducible rfl))
              (try simp only [Act.put, List.setIfInBounds_toArray, List.set_cons_zero, List.set_cons_succ])
              refine wpAnyG_take 7 (v := ?_) (fun _ => trivial) (by simp only [List.getElem?_toArray, List.getElem?_cons_succ, List.getElem?_cons_zero]; rfl) (by kernel_rfl) (fun _ _ _ _ _ h => h) ⟨(by rfl), (by intro c h; cases h), ?_⟩ hHeld ?_
              rotate_left
              focus (intro wS hSw; (try replace hSw := HSF.out wS hSw); (try dsimp only at hSw); go_simp; (try with_reducible rfl))
              (try simp only [Act.put, List.setIfInBounds_toArray, List.set_cons_zero, List.set_cons_succ])
              refine wpAnyG_pure 8 (v := ?_) (fun _ => trivial) (by simp only [List.getElem?_toArray, List.getElem?_cons_succ, List.getElem?_cons_zero]; rfl) (by kernel_rfl) (fun _ _ _ _ _ h => h) ⟨(by rfl), (by intro c h; cases h), ?_⟩ hHeld ?_
              rotate_left
              focus (intro wS hSw; (try replace hSw := HSF.out wS hSw); (try dsimp only at hSw); go_simp; (try with_reducible rfl))
              (try simp only [Act.put, List.setIfInBounds_toArray, List.set_cons_zero, List.set_cons_succ])
              refine wpAnyG_take 9 (v := ?_) (fun _ => trivial) (by simp only [List.getElem?_toArray, List.getElem?_cons_succ, List.getElem?_cons_zero]; rfl) (by kernel_rfl) (fun _ _ _ _ _ h => h) ⟨(by rfl), (by intro c h; cases h), ?_⟩ hHeld ?_
              rotate_left
              focus (intro wS hSw; (try replace hSw := HSF.out wS hSw); (try dsimp only at hSw); go_simp; (try with_reducible rfl))
              (try simp only [Act.put, List.setIfInBounds_toArray, List.set_cons_zero, List.set_cons_succ])
              refine wpAnyG_pure 10 (v := ?_) (fun _ => trivial) (by simp only [List.getElem?_toArray, List.getElem?_cons_succ, List.getElem?_cons_zero]; rfl) (by kernel_rfl) (fun _ _ _ _ _ h => h) ⟨(by rfl), (by intro c h; cases h), ?_⟩ hHeld ?_
              rotate_left
              focus (intro wS hSw; (try replace hSw := HSF.out wS hSw); (try dsimp only at hSw); go_simp; (try with_reducible rfl))
              (try simp only [Act.put, List.setIfInBounds_toArray, List.set_cons_zero, List.set_cons_succ])
              refine wpAnyS_done (by kernel_rfl) ?_
              clear hHeld
              go_wp2_with fail
              go_roundw
              case rel => exact ⟨j + 1, by omega, by go_num, HBj.out.drew⟩
              case measure => simp [intOf]; omega
end Go.Proofs.Ytmffdhfpfijocaa
