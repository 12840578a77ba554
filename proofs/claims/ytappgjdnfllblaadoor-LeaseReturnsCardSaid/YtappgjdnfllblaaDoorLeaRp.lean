
/- Lease: LeaseReturns, the walk. -/
import Derived.Test.YtappgjdnfllblaaDoorLeaTb
import Derived.Deep.CutBlock
set_option linter.unusedSimpArgs false
set_option linter.unusedVariables false
namespace Go.Proofs.YtappgjdnfllblaaDoor
open Go.RowKit Go.IntWalk Go.Maps Go.WideMaps
theorem meas_up (N t : Nat) (x : Int) (h : x = ((t + 1 : Nat) : Int)) (ht : t < N) : N - (intOf (.int .i64 x)).toNat < N - (intOf (.int .i64 (t : Int))).toNat := by
  subst h
  simp [intOf]
  omega
set_option maxRecDepth 100000 in
set_option maxHeartbeats 8000000 in
theorem lreturns_any (Ah : Option Addr) (ch : Nat) (home : List Int) (Al : Option Addr) (cl : Nat) (l : List Ac) (tk : Int) (w : World) (h1 : home.length ≤ ch) (h2 : ch ≤ maxLen) (hll : l.length ≤ maxLen)
    (hh : SlR w w.heap.size Ah home) (hs : SlR w w.heap.size Al l) (he : Env w) :
    Calls Tryd.prog 6 #[.slice Ah home.length ch, .slice Al l.length cl, .int .i64 tk] w fun e w' => e = .returned (.bool true) ∧ Below w.heap.size w w' := by
  have hh2 := hid hh
  have HS := hid hs
  unfold maxLen at hll
  have HM := hid h2
  have HC := hid h1
  clear hh hs h1 h2
  go_enter Tryd.func6, Tryd.ntmps6
  go_wp2_with fail
  refine (lsmall_any _).mono ?_
  rintro e w1 ⟨rfl, hB1⟩
  have B1 := hid hB1
  clear hB1
  by_cases hok : home.length ≤ 64 ∧ ∀ x ∈ home, x = 0 ∨ x = 1
  case neg =>
    have hc := hid (begin_no Ah ch home w1 HC.out HM.out ((hh2.out.below B1.out).more B1.out.size) hok)
    clear hok
    go_wp2_with fail
    refine hc.out.mono ?_
    rintro e w2 ⟨rfl, hB⟩
    have B2 := hid (B1.out.trans (hB.mono B1.out.size))
    clear hB hc B1
    by_cases h6 : (6 : Int) < home.length
    · go_wp2_with fail
      go_ret
      exact ⟨rfl, B2.out⟩
    by_cases h100 : (100 : Int) < l.length
    · go_wp2_with fail
      go_ret
      exact ⟨rfl, B2.out⟩
    go_wp2_with fail
    go_ret
    exact ⟨rfl, B2.out⟩
  have hc := hid (begin_yes Ah ch home w1 HC.out HM.out ((hh2.out.below B1.out).more B1.out.size) hok)
  have HOK := hid hok
  clear hok
  go_wp2_with fail
  refine hc.out.mono ?_
  rintro e w2 ⟨m0, rfl, hP⟩
  have P2 := hid (hP.low B1.out)
  have I2 := hid (LInv.begin HOK.out.2 HOK.out.1)
  clear hP hc B1 HOK
  have hmp : ∃ px, px = m0.px := ⟨_, rfl⟩
  obtain ⟨px, hpx⟩ := hmp
  rw [← hpx]
  have HPX := hid hpx
  clear hpx
  have B2 := hid P2.out.below
  by_cases h6 : (6 : Int) < home.length
  · go_wp2_with fail
    go_ret
    exact ⟨rfl, B2.out⟩
  by_cases h100 : (100 : Int) < l.length
  · go_wp2_with fail
    go_ret
    exact ⟨rfl, B2.out⟩
  by_cases ht0 : tk < 0
  · go_wp2_with fail
    go_ret
    exact ⟨rfl, B2.out⟩
  by_cases ht1 : 1000 < tk
  · go_wp2_with fail
    go_ret
    exact ⟨rfl, B2.out⟩
  go_wp2_with fail
  go_loopw [9] (fun i wr => ∃ (k : Nat) (m : PM) (s : LS), k ≤ l.length ∧ i = .int .i64 k ∧ m.px = px ∧ Pl w wr m s ∧ LInv home k s) (fun i _ => l.length - (intOf i).toNat)
  case atStart => exact ⟨0, m0, _, by omega, rfl, HPX.out.symm, P2.out, I2.out⟩
  case round =>
    clear P2 I2 B2 HPX
    obtain ⟨k, m, s, hk, rfl, hpm, hP, hI⟩ := hrel
    by_cases hlt : k < l.length
    · have hac := HS.out.ac hlt
      generalize l[k] = o at *
      obtain ⟨dd, ww, zz, nn⟩ := o
      obtain ⟨b, off, rfl, hbB, g1, g2, g3, g4, hz⟩ := hac
      simp only at g1 g2 g3 g4 hz
      have hBB := hP.below
      replace g1 := (bcell hBB b _ hbB).trans g1
      replace g2 := (bcell hBB b _ hbB).trans g2
      replace g3 := (bcell hBB b _ hbB).trans g3
      replace g4 := (bcell hBB b _ hbB).trans g4
      have hbz : b < wr.heap.size := by have := hBB.size; omega
      have hlt' : (k : Int) < l.length := by omega
      have hc := hid (lact_any (i := (k : Int)) (by omega) (by omega) he hP hI dd ww zz nn hz)
      rw [hpm] at hc
      have hk1 : wrap64 ((k : Int) + 1) = ((k + 1 : Nat) : Int) := by rw [wrap64_in _ (by omega)]; simp
      clear hP hI hBB hpm hz
      go_wp2_with fail
      refine hc.out.mono ?_
      rintro e w3 ⟨rfl, m', s', hpx', P3, I3⟩
      have p3 := hid P3
      have i3 := hid I3
      have hp' := hid hpx'
      clear P3 I3 hpx' hc g1 g2 g3 g4 hbz
      go_wp2_with fail
      go_roundw
      case rel => exact ⟨k + 1, m', s', by omega, by simp, hp'.out, p3.out, by have := i3.out; simpa using this⟩
      case measure => exact meas_up _ _ _ (by simp) hlt
    · have hnl : ¬ (k : Int) < (l.length : Int) := by omega
      have PP := hid hP
      have II := hid hI
      have hp' := hid hpm
      have hkl := hid (show (k : Int) ≤ 100 by omega)
      clear hP hI hpm
      go_wp2_with fail
      generalize wr = wy at *
      go_loopw [10] (fun j wq => ∃ t : Nat, t ≤ home.length ∧ j = .int .i64 t ∧ Pl w wq m s) (fun j _ => home.length - (intOf j).toNat)
      case atStart => exact ⟨0, by omega, rfl, PP.out⟩
      case round =>
        clear PP
        obtain ⟨t, ht, rfl, hP⟩ := hrel
        have PP := hid hP
        clear hP
        by_cases hlt2 : t < home.length
        · have hlt2' : (t : Int) < home.length := by omega
          have ht1' : wrap64 ((t : Int) + 1) = ((t + 1 : Nat) : Int) := by rw [wrap64_in _ (by omega)]; simp
          obtain ⟨bh, oh, rfl, hbh, hch, hih⟩ := hh2.out.int hlt2
          replace hch := (bcell PP.out.below bh _ hbh).trans hch
          have hbz2 : bh < wr.heap.size := by have := PP.out.below.size; omega
          have hm1 : hm home t = home[t] := by simp [hm, List.getD, List.getElem?_eq_getElem hlt2]
          have t0 : (0 : Int) ≤ t := by omega
          have t1 : (t : Int) < home.length := by omega
          have h01 := hm01 II.out.h01 t0 t1
          rw [hm1] at h01
          have han := and01 h01
          have hIt : I64 (t : Int) := by constructor <;> omega
          have tt := II.out.t
          have hkl2 := hkl.out
          have ck0 := II.out.clocks 0
          have ck1 := II.out.clocks 1
          rw [show (1 : Int) - 0 = 1 from rfl] at ck0
          rw [show (1 : Int) - 1 = 0 from rfl] at ck1
          have K0 := hid (fun (W : World) (hW : Pl w W m s) => clock_0 hW (by omega) II.out.a0)
          have K1 := hid (fun (W : World) (hW : Pl w W m s) => clock_1 hW (by omega) II.out.a1)
          rw [hp'.out] at K0 K1
          have O0 := hid (fun (W : World) (hW : Pl w W m s) (now : Int) (hn : 0 ≤ now ∧ now ≤ 1000000) => holds_any hW.la (II.out.me 0 (.inl rfl)).2.2 (z := (t : Int)) (now := now) hIt (by omega))
          have O1 := hid (fun (W : World) (hW : Pl w W m s) (now : Int) (hn : 0 ≤ now ∧ now ≤ 1000000) => holds_any hW.lb (II.out.me 1 (.inr rfl)).2.2 (z := (t : Int)) (now := now) hIt (by omega))
          have E0 := hid (fun (W : World) (hW : Pl w W m s) => ends_any hW.la (II.out.me 0 (.inl rfl)).2.2 (z := (t : Int)) hIt)
          have E1 := hid (fun (W : World) (hW : Pl w W m s) => ends_any hW.lb (II.out.me 1 (.inr rfl)).2.2 (z := (t : Int)) hIt)
          have hHH := fun now => II.out.holdsH t0 t1 now
          have hGG := fun now => II.out.holdsG t0 t1 now
          have hEG := II.out.endsG t0 t1
          have hsn := II.out.soon t t0 t1
          have hzi := II.out.zi t t0 t1
          have hle := hzi.hl
          have hl0 := hzi.h0
          rw [hm1] at hHH hGG hEG hsn hle hl0
          have HT1 := hid ht1'
          have hc0 : s.clock 0 ≤ 1000 := by omega
          have hc1 : s.clock 1 ≤ 1000 := by omega
          clear hzi hm1 hih ht1' hIt
          generalize home[t] = x at *
          go_upto_block 3 with fail
          go_cut [] (fun wx => Pl w wx m s)
          case first =>
            rcases h01 with rfl | rfl
            · as_aux_lemma =>
                rw [show (1 : Int) - 0 = 1 from rfl] at hGG hEG hle hl0
                rw [show s.D 0 = s.da from rfl] at hHH hsn hle
                rw [show s.D 1 = s.db from rfl] at hGG hEG hle hl0
                have F1 := hid (show lHolds s.db t (s.clock 1 + tk) = decide (s.clock 1 + tk + 2 < lEnds s.db t) by rw [hGG, hEG])
                have F2 := hid (show lHolds s.da t (s.clock 0 + 1010) = true by rw [hHH]; exact decide_eq_true (by omega))
                have F3 := hid (show lHolds s.db t (s.clock 1 + 1010) = false by rw [hGG]; exact decide_eq_false (by omega))
                have OG1 := hid (fun (W : World) (hW : Pl w W m s) => O1.out W hW (s.clock 1 + tk) (by omega))
                have OH := hid (fun (W : World) (hW : Pl w W m s) => O0.out W hW (s.clock 0 + 1010) (by omega))
                have OG2 := hid (fun (W : World) (hW : Pl w W m s) => O1.out W hW (s.clock 1 + 1010) (by omega))
                rw [F1.out] at OG1
                rw [F2.out] at OH
                rw [F3.out] at OG2
                have CH := K0
                have CG := K1
                have EG := E1
                have wr1 : wrap64 (s.clock 1 + tk) = s.clock 1 + tk := wrap64_in _ (by omega)
                have wr2 : wrap64 (s.clock 0 + 1010) = s.clock 0 + 1010 := wrap64_in _ (by omega)
                have wr3 : wrap64 (s.clock 1 + 1010) = s.clock 1 + 1010 := wrap64_in _ (by omega)
                have hbe := II.out.nums (show (k : Int) ≤ 100000 by omega) t0 t1
                have wr4 : wrap64 (s.clock 1 + tk + 2) = s.clock 1 + tk + 2 := wrap64_in _ (by omega)
                clear hbe F1 F2 F3 O0 O1 K0 K1 E0 E1 hHH hGG hEG hsn hle hl0 t0 t1 tt hkl2
                generalize lEnds s.db t = en at *
                generalize s.clock 1 = cg at *
                generalize s.clock 0 = ck at *
                obtain ⟨p0, p1, p2, p3, e0, e1, c0, c1⟩ := PP.out.c
                obtain ⟨zp, zd, zg⟩ := PP.out.wr
                rw [hp'.out] at p0 p1 p2 p3 zp
                go_wp2_with fail
                clear hch hbz2
                refine (EG.out _ PP.out).mono ?_
                rintro e w5 ⟨rfl, hB5⟩
                have P5 := hid (PP.out.step hB5)
                clear hB5 p0 p1 p2 p3 e0 e1 c0 c1 zp zd zg
                go_wp2_with fail
                refine (CG.out _ P5.out).mono ?_
                rintro e w6 ⟨rfl, hB6⟩
                have P6 := hid (P5.out.step hB6)
                obtain ⟨p0, p1, p2, p3, e0, e1, c0, c1⟩ := P6.out.c
                obtain ⟨zp, zd, zg⟩ := P6.out.wr
                rw [hp'.out] at p0 p1 p2 p3 zp
                clear hB6 P5
                go_wp2_with fail
                refine (OG1.out _ P6.out).mono ?_
                rintro e w7 ⟨rfl, hB7⟩
                have P7 := hid (P6.out.step hB7)
                clear hB7 P6 p0 p1 p2 p3 e0 e1 c0 c1 zp zd zg
                go_upto_region 19 with fail
                have PC := hid (fun (wq : World) (hq : Below w7.heap.size w7 wq) => (P7.out.step hq))
                have HSF := hid (fun (wq : World) (hq : Below w7.heap.size w7 wq) => (P7.out.step hq).c)
                rw [hp'.out] at HSF
                have wi2 : IntKind.i64.wrap (ck + 1010) = ck + 1010 := by rw [i64_left]; exact wr2
                have wi3 : IntKind.i64.wrap (cg + 1010) = cg + 1010 := by rw [i64_left]; exact wr3
                have BD := hid ((Below.refl w7.heap.size w7).drew)
                refine wpIn_wide.1 (wpIn_region_S (n := 0) (fun wq => Below w7.heap.size w7 wq) [] (by kernel_rfl) BD.out (fun hHeld => ?_))
                generalize w7.drew = wd at *
                refine wpAnyG_pure 0 (v := ?_) (fun _ => trivial) (by simp only [List.getElem?_toArray, List.getElem?_cons_succ, List.getElem?_cons_zero]; rfl) (by kernel_rfl) (fun _ _ _ _ _ h => h) ⟨(by rfl), (by intro c h; cases h), ?_⟩ hHeld ?_
                rotate_left
                focus (intro wS hSw; (try replace hSw := HSF.out wS hSw); (try dsimp only at hSw); go_simp; (try with_reducible rfl))
                (try simp only [Act.put, List.setIfInBounds_toArray, List.set_cons_zero, List.set_cons_succ])
                refine wpAnyG_pure 1 (v := ?_) (fun _ => trivial) (by simp only [List.getElem?_toArray, List.getElem?_cons_succ, List.getElem?_cons_zero]; rfl) (by kernel_rfl) (fun _ _ _ _ _ h => h) ⟨(by rfl), (by intro c h; cases h), ?_⟩ hHeld ?_
                rotate_left
                focus (intro wS hSw; (try replace hSw := HSF.out wS hSw); (try dsimp only at hSw); go_simp; (try with_reducible rfl))
                (try simp only [Act.put, List.setIfInBounds_toArray, List.set_cons_zero, List.set_cons_succ])
                refine wpAnyG_pure 2 (v := ?_) (fun _ => trivial) (by simp only [List.getElem?_toArray, List.getElem?_cons_succ, List.getElem?_cons_zero]; rfl) (by kernel_rfl) (fun _ _ _ _ _ h => h) ⟨(by rfl), (by intro c h; cases h), ?_⟩ hHeld ?_
                rotate_left
                focus (intro wS hSw; (try replace hSw := HSF.out wS hSw); (try dsimp only at hSw); go_simp; (try with_reducible rfl))
                (try simp only [Act.put, List.setIfInBounds_toArray, List.set_cons_zero, List.set_cons_succ])
                refine wpAnyG_take 3 (v := ?_) (fun _ => trivial) (by simp only [List.getElem?_toArray, List.getElem?_cons_succ, List.getElem?_cons_zero]; rfl) (by kernel_rfl) (fun _ _ _ _ _ h => h) ⟨(by rfl), (by intro c h; cases h), ?_⟩ hHeld ?_
                rotate_left
                focus (intro wS hSw; (try replace hSw := HSF.out wS hSw); (try dsimp only at hSw); go_simp; (try with_reducible rfl))
                (try simp only [Act.put, List.setIfInBounds_toArray, List.set_cons_zero, List.set_cons_succ])
                refine wpAnyG_pure 4 (v := ?_) (fun _ => trivial) (by simp only [List.getElem?_toArray, List.getElem?_cons_succ, List.getElem?_cons_zero]; rfl) (by kernel_rfl) (fun _ _ _ _ _ h => h) ⟨(by rfl), (by intro c h; cases h), ?_⟩ hHeld ?_
                rotate_left
                focus (intro wS hSw; (try replace hSw := HSF.out wS hSw); (try dsimp only at hSw); go_simp; (try with_reducible rfl))
                (try simp only [Act.put, List.setIfInBounds_toArray, List.set_cons_zero, List.set_cons_succ])
                refine wpAnyG_pure 5 (v := ?_) (fun _ => trivial) (by simp only [List.getElem?_toArray, List.getElem?_cons_succ, List.getElem?_cons_zero]; rfl) (by kernel_rfl) (fun _ _ _ _ _ h => h) ⟨(by rfl), (by intro c h; cases h), ?_⟩ hHeld ?_
                rotate_left
                focus (intro wS hSw; (try replace hSw := HSF.out wS hSw); (try dsimp only at hSw); go_simp; (try with_reducible rfl))
                (try simp only [Act.put, List.setIfInBounds_toArray, List.set_cons_zero, List.set_cons_succ])
                refine wpAnyG_take 6 (v := ?_) (fun _ => trivial) (by simp only [List.getElem?_toArray, List.getElem?_cons_succ, List.getElem?_cons_zero]; rfl) (by kernel_rfl) (fun _ _ _ _ _ h => h) ⟨(by rfl), (by intro c h; cases h), ?_⟩ hHeld ?_
                rotate_left
                focus (intro wS hSw; (try replace hSw := HSF.out wS hSw); (try dsimp only at hSw); go_simp; (try with_reducible rfl))
                (try simp only [Act.put, List.setIfInBounds_toArray, List.set_cons_zero, List.set_cons_succ])
                refine wpAnyG_pure 7 (v := ?_) (fun _ => trivial) (by simp only [List.getElem?_toArray, List.getElem?_cons_succ, List.getElem?_cons_zero]; rfl) (by kernel_rfl) (fun _ _ _ _ _ h => h) ⟨(by rfl), (by intro c h; cases h), ?_⟩ hHeld ?_
                rotate_left
                focus (intro wS hSw; (try replace hSw := HSF.out wS hSw); (try dsimp only at hSw); go_simp; (try with_reducible rfl))
                (try simp only [Act.put, List.setIfInBounds_toArray, List.set_cons_zero, List.set_cons_succ])
                refine wpAnyG_pure 8 (v := ?_) (fun _ => trivial) (by simp only [List.getElem?_toArray, List.getElem?_cons_succ, List.getElem?_cons_zero]; rfl) (by kernel_rfl) (fun _ _ _ _ _ h => h) ⟨(by rfl), (by intro c h; cases h), ?_⟩ hHeld ?_
                rotate_left
                focus (intro wS hSw; (try replace hSw := HSF.out wS hSw); (try dsimp only at hSw); go_simp; (try with_reducible rfl))
                (try simp only [Act.put, List.setIfInBounds_toArray, List.set_cons_zero, List.set_cons_succ])
                refine wpAnyG_pure 9 (v := ?_) (fun _ => trivial) (by simp only [List.getElem?_toArray, List.getElem?_cons_succ, List.getElem?_cons_zero]; rfl) (by kernel_rfl) (fun _ _ _ _ _ h => h) ⟨(by rfl), (by intro c h; cases h), ?_⟩ hHeld ?_
                rotate_left
                focus (intro wS hSw; (try replace hSw := HSF.out wS hSw); (try dsimp only at hSw); go_simp; (try with_reducible rfl))
                (try simp only [Act.put, List.setIfInBounds_toArray, List.set_cons_zero, List.set_cons_succ])
                refine wpAnyS_ready [10] (by kernel_rfl) (by simp) (AllReadyS.consG (by simp only [List.getElem?_toArray, List.getElem?_cons_succ, List.getElem?_cons_zero]; rfl) (by rfl) (fun K hK => ?_) AllReadyS.nil)
                refine callS (by intro c h; cases h) (by go_simp; try with_reducible rfl) (CH.out _ (PC.out _ BD.out)) ?_
                intro w10 hBq
                have B10 := hid (BD.out.trans (hBq.mono BD.out.size))
                refine hK.out _ _ B10.out ?_
                (try simp only [Act.put, List.setIfInBounds_toArray, List.set_cons_zero, List.set_cons_succ])
                clear hK K hBq
                clear hHeld BD
                have hHeld := B10.out
                refine wpAnyG_pure 11 (v := ?_) (fun _ => trivial) (by simp only [List.getElem?_toArray, List.getElem?_cons_succ, List.getElem?_cons_zero]; rfl) (by kernel_rfl) (fun _ _ _ _ _ h => h) ⟨(by rfl), (by intro c h; cases h), ?_⟩ hHeld ?_
                rotate_left
                focus (intro wS hSw; (try replace hSw := HSF.out wS hSw); (try dsimp only at hSw); go_simp; (try with_reducible rfl))
                (try simp only [Act.put, List.setIfInBounds_toArray, List.set_cons_zero, List.set_cons_succ])
                refine wpAnyS_ready [12] (by kernel_rfl) (by simp) (AllReadyS.consG (by simp only [List.getElem?_toArray, List.getElem?_cons_succ, List.getElem?_cons_zero]; rfl) (by rfl) (fun K hK => ?_) AllReadyS.nil)
                refine callS (by intro c h; cases h) (by go_simp; try with_reducible rfl) (OH.out _ (PC.out _ B10.out)) ?_
                intro w12 hBq
                have B12 := hid (B10.out.trans (hBq.mono B10.out.size))
                refine hK.out _ _ B12.out ?_
                (try simp only [Act.put, List.setIfInBounds_toArray, List.set_cons_zero, List.set_cons_succ])
                clear hK K hBq
                clear hHeld B10
                have hHeld := B12.out
                refine wpAnyG_pure 13 (v := ?_) (fun _ => trivial) (by simp only [List.getElem?_toArray, List.getElem?_cons_succ, List.getElem?_cons_zero]; rfl) (by kernel_rfl) (fun _ _ _ _ _ h => h) ⟨(by rfl), (by intro c h; cases h), ?_⟩ hHeld ?_
                rotate_left
                focus (intro wS hSw; (try replace hSw := HSF.out wS hSw); (try dsimp only at hSw); go_simp; (try with_reducible rfl))
                (try simp only [Act.put, List.setIfInBounds_toArray, List.set_cons_zero, List.set_cons_succ])
                refine wpAnyG_pure 14 (v := ?_) (fun _ => trivial) (by simp only [List.getElem?_toArray, List.getElem?_cons_succ, List.getElem?_cons_zero]; rfl) (by kernel_rfl) (fun _ _ _ _ _ h => h) ⟨(by rfl), (by intro c h; cases h), ?_⟩ hHeld ?_
                rotate_left
                focus (intro wS hSw; (try replace hSw := HSF.out wS hSw); (try dsimp only at hSw); go_simp; (try with_reducible rfl))
                (try simp only [Act.put, List.setIfInBounds_toArray, List.set_cons_zero, List.set_cons_succ])
                refine wpAnyG_pure 15 (v := ?_) (fun _ => trivial) (by simp only [List.getElem?_toArray, List.getElem?_cons_succ, List.getElem?_cons_zero]; rfl) (by kernel_rfl) (fun _ _ _ _ _ h => h) ⟨(by rfl), (by intro c h; cases h), ?_⟩ hHeld ?_
                rotate_left
                focus (intro wS hSw; (try replace hSw := HSF.out wS hSw); (try dsimp only at hSw); go_simp; (try with_reducible rfl))
                (try simp only [Act.put, List.setIfInBounds_toArray, List.set_cons_zero, List.set_cons_succ])
                refine wpAnyG_pure 16 (v := ?_) (fun _ => trivial) (by simp only [List.getElem?_toArray, List.getElem?_cons_succ, List.getElem?_cons_zero]; rfl) (by kernel_rfl) (fun _ _ _ _ _ h => h) ⟨(by rfl), (by intro c h; cases h), ?_⟩ hHeld ?_
                rotate_left
                focus (intro wS hSw; (try replace hSw := HSF.out wS hSw); (try dsimp only at hSw); go_simp; (try with_reducible rfl))
                (try simp only [Act.put, List.setIfInBounds_toArray, List.set_cons_zero, List.set_cons_succ])
                refine wpAnyG_pure 17 (v := ?_) (fun _ => trivial) (by simp only [List.getElem?_toArray, List.getElem?_cons_succ, List.getElem?_cons_zero]; rfl) (by kernel_rfl) (fun _ _ _ _ _ h => h) ⟨(by rfl), (by intro c h; cases h), ?_⟩ hHeld ?_
                rotate_left
                focus (intro wS hSw; (try replace hSw := HSF.out wS hSw); (try dsimp only at hSw); go_simp; (try with_reducible rfl))
                (try simp only [Act.put, List.setIfInBounds_toArray, List.set_cons_zero, List.set_cons_succ])
                refine wpAnyG_take 18 (v := ?_) (fun _ => trivial) (by simp only [List.getElem?_toArray, List.getElem?_cons_succ, List.getElem?_cons_zero]; rfl) (by kernel_rfl) (fun _ _ _ _ _ h => h) ⟨(by rfl), (by intro c h; cases h), ?_⟩ hHeld ?_
                rotate_left
                focus (intro wS hSw; (try replace hSw := HSF.out wS hSw); (try dsimp only at hSw); go_simp; (try with_reducible rfl))
                (try simp only [Act.put, List.setIfInBounds_toArray, List.set_cons_zero, List.set_cons_succ])
                refine wpAnyG_pure 19 (v := ?_) (fun _ => trivial) (by simp only [List.getElem?_toArray, List.getElem?_cons_succ, List.getElem?_cons_zero]; rfl) (by kernel_rfl) (fun _ _ _ _ _ h => h) ⟨(by rfl), (by intro c h; cases h), ?_⟩ hHeld ?_
                rotate_left
                focus (intro wS hSw; (try replace hSw := HSF.out wS hSw); (try dsimp only at hSw); go_simp; (try with_reducible rfl))
                (try simp only [Act.put, List.setIfInBounds_toArray, List.set_cons_zero, List.set_cons_succ])
                refine wpAnyG_pure 20 (v := ?_) (fun _ => trivial) (by simp only [List.getElem?_toArray, List.getElem?_cons_succ, List.getElem?_cons_zero]; rfl) (by kernel_rfl) (fun _ _ _ _ _ h => h) ⟨(by rfl), (by intro c h; cases h), ?_⟩ hHeld ?_
                rotate_left
                focus (intro wS hSw; (try replace hSw := HSF.out wS hSw); (try dsimp only at hSw); go_simp; (try with_reducible rfl))
                (try simp only [Act.put, List.setIfInBounds_toArray, List.set_cons_zero, List.set_cons_succ])
                refine wpAnyG_take 21 (v := ?_) (fun _ => trivial) (by simp only [List.getElem?_toArray, List.getElem?_cons_succ, List.getElem?_cons_zero]; rfl) (by kernel_rfl) (fun _ _ _ _ _ h => h) ⟨(by rfl), (by intro c h; cases h), ?_⟩ hHeld ?_
                rotate_left
                focus (intro wS hSw; (try replace hSw := HSF.out wS hSw); (try dsimp only at hSw); go_simp; (try with_reducible rfl))
                (try simp only [Act.put, List.setIfInBounds_toArray, List.set_cons_zero, List.set_cons_succ])
                refine wpAnyG_pure 22 (v := ?_) (fun _ => trivial) (by simp only [List.getElem?_toArray, List.getElem?_cons_succ, List.getElem?_cons_zero]; rfl) (by kernel_rfl) (fun _ _ _ _ _ h => h) ⟨(by rfl), (by intro c h; cases h), ?_⟩ hHeld ?_
                rotate_left
                focus (intro wS hSw; (try replace hSw := HSF.out wS hSw); (try dsimp only at hSw); go_simp; (try with_reducible rfl))
                (try simp only [Act.put, List.setIfInBounds_toArray, List.set_cons_zero, List.set_cons_succ])
                refine wpAnyG_pure 23 (v := ?_) (fun _ => trivial) (by simp only [List.getElem?_toArray, List.getElem?_cons_succ, List.getElem?_cons_zero]; rfl) (by kernel_rfl) (fun _ _ _ _ _ h => h) ⟨(by rfl), (by intro c h; cases h), ?_⟩ hHeld ?_
                rotate_left
                focus (intro wS hSw; (try replace hSw := HSF.out wS hSw); (try dsimp only at hSw); go_simp; (try with_reducible rfl))
                (try simp only [Act.put, List.setIfInBounds_toArray, List.set_cons_zero, List.set_cons_succ])
                refine wpAnyG_pure 24 (v := ?_) (fun _ => trivial) (by simp only [List.getElem?_toArray, List.getElem?_cons_succ, List.getElem?_cons_zero]; rfl) (by kernel_rfl) (fun _ _ _ _ _ h => h) ⟨(by rfl), (by intro c h; cases h), ?_⟩ hHeld ?_
                rotate_left
                focus (intro wS hSw; (try replace hSw := HSF.out wS hSw); (try dsimp only at hSw); go_simp; (try with_reducible rfl))
                (try simp only [Act.put, List.setIfInBounds_toArray, List.set_cons_zero, List.set_cons_succ])
                refine wpAnyS_ready [25] (by kernel_rfl) (by simp) (AllReadyS.consG (by simp only [List.getElem?_toArray, List.getElem?_cons_succ, List.getElem?_cons_zero]; rfl) (by rfl) (fun K hK => ?_) AllReadyS.nil)
                refine callS (by intro c h; cases h) (by go_simp; try with_reducible rfl) (CG.out _ (PC.out _ B12.out)) ?_
                intro w25 hBq
                have B25 := hid (B12.out.trans (hBq.mono B12.out.size))
                refine hK.out _ _ B25.out ?_
                (try simp only [Act.put, List.setIfInBounds_toArray, List.set_cons_zero, List.set_cons_succ])
                clear hK K hBq
                clear hHeld B12
                have hHeld := B25.out
                refine wpAnyG_pure 26 (v := ?_) (fun _ => trivial) (by simp only [List.getElem?_toArray, List.getElem?_cons_succ, List.getElem?_cons_zero]; rfl) (by kernel_rfl) (fun _ _ _ _ _ h => h) ⟨(by rfl), (by intro c h; cases h), ?_⟩ hHeld ?_
                rotate_left
                focus (intro wS hSw; (try replace hSw := HSF.out wS hSw); (try dsimp only at hSw); go_simp; (try with_reducible rfl))
                (try simp only [Act.put, List.setIfInBounds_toArray, List.set_cons_zero, List.set_cons_succ])
                refine wpAnyS_ready [27] (by kernel_rfl) (by simp) (AllReadyS.consG (by simp only [List.getElem?_toArray, List.getElem?_cons_succ, List.getElem?_cons_zero]; rfl) (by rfl) (fun K hK => ?_) AllReadyS.nil)
                refine callS (by intro c h; cases h) (by go_simp; try with_reducible rfl) (OG2.out _ (PC.out _ B25.out)) ?_
                intro w27 hBq
                have B27 := hid (B25.out.trans (hBq.mono B25.out.size))
                refine hK.out _ _ B27.out ?_
                (try simp only [Act.put, List.setIfInBounds_toArray, List.set_cons_zero, List.set_cons_succ])
                clear hK K hBq
                clear hHeld B25
                have hHeld := B27.out
                refine wpAnyG_pure 28 (v := ?_) (fun _ => trivial) (by simp only [List.getElem?_toArray, List.getElem?_cons_succ, List.getElem?_cons_zero]; rfl) (by kernel_rfl) (fun _ _ _ _ _ h => h) ⟨(by rfl), (by intro c h; cases h), ?_⟩ hHeld ?_
                rotate_left
                focus (intro wS hSw; (try replace hSw := HSF.out wS hSw); (try dsimp only at hSw); go_simp; (try with_reducible rfl))
                (try simp only [Act.put, List.setIfInBounds_toArray, List.set_cons_zero, List.set_cons_succ])
                refine wpAnyS_done (by kernel_rfl) ?_
                clear hHeld
                go_wp2_with fail
                go_meet
                exact PC.out _ B27.out
            · as_aux_lemma =>
                rw [show (1 : Int) - 1 = 0 from rfl] at hGG hEG hle hl0
                rw [show s.D 1 = s.db from rfl] at hHH hsn hle
                rw [show s.D 0 = s.da from rfl] at hGG hEG hle hl0
                have F1 := hid (show lHolds s.da t (s.clock 0 + tk) = decide (s.clock 0 + tk + 2 < lEnds s.da t) by rw [hGG, hEG])
                have F2 := hid (show lHolds s.db t (s.clock 1 + 1010) = true by rw [hHH]; exact decide_eq_true (by omega))
                have F3 := hid (show lHolds s.da t (s.clock 0 + 1010) = false by rw [hGG]; exact decide_eq_false (by omega))
                have OG1 := hid (fun (W : World) (hW : Pl w W m s) => O0.out W hW (s.clock 0 + tk) (by omega))
                have OH := hid (fun (W : World) (hW : Pl w W m s) => O1.out W hW (s.clock 1 + 1010) (by omega))
                have OG2 := hid (fun (W : World) (hW : Pl w W m s) => O0.out W hW (s.clock 0 + 1010) (by omega))
                rw [F1.out] at OG1
                rw [F2.out] at OH
                rw [F3.out] at OG2
                have CH := K1
                have CG := K0
                have EG := E0
                have wr1 : wrap64 (s.clock 0 + tk) = s.clock 0 + tk := wrap64_in _ (by omega)
                have wr2 : wrap64 (s.clock 1 + 1010) = s.clock 1 + 1010 := wrap64_in _ (by omega)
                have wr3 : wrap64 (s.clock 0 + 1010) = s.clock 0 + 1010 := wrap64_in _ (by omega)
                have hbe := II.out.nums (show (k : Int) ≤ 100000 by omega) t0 t1
                have wr4 : wrap64 (s.clock 0 + tk + 2) = s.clock 0 + tk + 2 := wrap64_in _ (by omega)
                clear hbe F1 F2 F3 O0 O1 K0 K1 E0 E1 hHH hGG hEG hsn hle hl0 t0 t1 tt hkl2
                generalize lEnds s.da t = en at *
                generalize s.clock 0 = cg at *
                generalize s.clock 1 = ck at *
                obtain ⟨p0, p1, p2, p3, e0, e1, c0, c1⟩ := PP.out.c
                obtain ⟨zp, zd, zg⟩ := PP.out.wr
                rw [hp'.out] at p0 p1 p2 p3 zp
                go_wp2_with fail
                clear hch hbz2
                refine (EG.out _ PP.out).mono ?_
                rintro e w5 ⟨rfl, hB5⟩
                have P5 := hid (PP.out.step hB5)
                clear hB5 p0 p1 p2 p3 e0 e1 c0 c1 zp zd zg
                go_wp2_with fail
                refine (CG.out _ P5.out).mono ?_
                rintro e w6 ⟨rfl, hB6⟩
                have P6 := hid (P5.out.step hB6)
                obtain ⟨p0, p1, p2, p3, e0, e1, c0, c1⟩ := P6.out.c
                obtain ⟨zp, zd, zg⟩ := P6.out.wr
                rw [hp'.out] at p0 p1 p2 p3 zp
                clear hB6 P5
                go_wp2_with fail
                refine (OG1.out _ P6.out).mono ?_
                rintro e w7 ⟨rfl, hB7⟩
                have P7 := hid (P6.out.step hB7)
                clear hB7 P6 p0 p1 p2 p3 e0 e1 c0 c1 zp zd zg
                go_upto_region 19 with fail
                have PC := hid (fun (wq : World) (hq : Below w7.heap.size w7 wq) => (P7.out.step hq))
                have HSF := hid (fun (wq : World) (hq : Below w7.heap.size w7 wq) => (P7.out.step hq).c)
                rw [hp'.out] at HSF
                have wi2 : IntKind.i64.wrap (ck + 1010) = ck + 1010 := by rw [i64_left]; exact wr2
                have wi3 : IntKind.i64.wrap (cg + 1010) = cg + 1010 := by rw [i64_left]; exact wr3
                have BD := hid ((Below.refl w7.heap.size w7).drew)
                refine wpIn_wide.1 (wpIn_region_S (n := 0) (fun wq => Below w7.heap.size w7 wq) [] (by kernel_rfl) BD.out (fun hHeld => ?_))
                generalize w7.drew = wd at *
                refine wpAnyG_pure 0 (v := ?_) (fun _ => trivial) (by simp only [List.getElem?_toArray, List.getElem?_cons_succ, List.getElem?_cons_zero]; rfl) (by kernel_rfl) (fun _ _ _ _ _ h => h) ⟨(by rfl), (by intro c h; cases h), ?_⟩ hHeld ?_
                rotate_left
                focus (intro wS hSw; (try replace hSw := HSF.out wS hSw); (try dsimp only at hSw); go_simp; (try with_reducible rfl))
                (try simp only [Act.put, List.setIfInBounds_toArray, List.set_cons_zero, List.set_cons_succ])
                refine wpAnyG_pure 1 (v := ?_) (fun _ => trivial) (by simp only [List.getElem?_toArray, List.getElem?_cons_succ, List.getElem?_cons_zero]; rfl) (by kernel_rfl) (fun _ _ _ _ _ h => h) ⟨(by rfl), (by intro c h; cases h), ?_⟩ hHeld ?_
                rotate_left
                focus (intro wS hSw; (try replace hSw := HSF.out wS hSw); (try dsimp only at hSw); go_simp; (try with_reducible rfl))
                (try simp only [Act.put, List.setIfInBounds_toArray, List.set_cons_zero, List.set_cons_succ])
                refine wpAnyG_pure 2 (v := ?_) (fun _ => trivial) (by simp only [List.getElem?_toArray, List.getElem?_cons_succ, List.getElem?_cons_zero]; rfl) (by kernel_rfl) (fun _ _ _ _ _ h => h) ⟨(by rfl), (by intro c h; cases h), ?_⟩ hHeld ?_
                rotate_left
                focus (intro wS hSw; (try replace hSw := HSF.out wS hSw); (try dsimp only at hSw); go_simp; (try with_reducible rfl))
                (try simp only [Act.put, List.setIfInBounds_toArray, List.set_cons_zero, List.set_cons_succ])
                refine wpAnyG_take 3 (v := ?_) (fun _ => trivial) (by simp only [List.getElem?_toArray, List.getElem?_cons_succ, List.getElem?_cons_zero]; rfl) (by kernel_rfl) (fun _ _ _ _ _ h => h) ⟨(by rfl), (by intro c h; cases h), ?_⟩ hHeld ?_
                rotate_left
                focus (intro wS hSw; (try replace hSw := HSF.out wS hSw); (try dsimp only at hSw); go_simp; (try with_reducible rfl))
                (try simp only [Act.put, List.setIfInBounds_toArray, List.set_cons_zero, List.set_cons_succ])
                refine wpAnyG_pure 4 (v := ?_) (fun _ => trivial) (by simp only [List.getElem?_toArray, List.getElem?_cons_succ, List.getElem?_cons_zero]; rfl) (by kernel_rfl) (fun _ _ _ _ _ h => h) ⟨(by rfl), (by intro c h; cases h), ?_⟩ hHeld ?_
                rotate_left
                focus (intro wS hSw; (try replace hSw := HSF.out wS hSw); (try dsimp only at hSw); go_simp; (try with_reducible rfl))
                (try simp only [Act.put, List.setIfInBounds_toArray, List.set_cons_zero, List.set_cons_succ])
                refine wpAnyG_pure 5 (v := ?_) (fun _ => trivial) (by simp only [List.getElem?_toArray, List.getElem?_cons_succ, List.getElem?_cons_zero]; rfl) (by kernel_rfl) (fun _ _ _ _ _ h => h) ⟨(by rfl), (by intro c h; cases h), ?_⟩ hHeld ?_
                rotate_left
                focus (intro wS hSw; (try replace hSw := HSF.out wS hSw); (try dsimp only at hSw); go_simp; (try with_reducible rfl))
                (try simp only [Act.put, List.setIfInBounds_toArray, List.set_cons_zero, List.set_cons_succ])
                refine wpAnyG_take 6 (v := ?_) (fun _ => trivial) (by simp only [List.getElem?_toArray, List.getElem?_cons_succ, List.getElem?_cons_zero]; rfl) (by kernel_rfl) (fun _ _ _ _ _ h => h) ⟨(by rfl), (by intro c h; cases h), ?_⟩ hHeld ?_
                rotate_left
                focus (intro wS hSw; (try replace hSw := HSF.out wS hSw); (try dsimp only at hSw); go_simp; (try with_reducible rfl))
                (try simp only [Act.put, List.setIfInBounds_toArray, List.set_cons_zero, List.set_cons_succ])
                refine wpAnyG_pure 7 (v := ?_) (fun _ => trivial) (by simp only [List.getElem?_toArray, List.getElem?_cons_succ, List.getElem?_cons_zero]; rfl) (by kernel_rfl) (fun _ _ _ _ _ h => h) ⟨(by rfl), (by intro c h; cases h), ?_⟩ hHeld ?_
                rotate_left
                focus (intro wS hSw; (try replace hSw := HSF.out wS hSw); (try dsimp only at hSw); go_simp; (try with_reducible rfl))
                (try simp only [Act.put, List.setIfInBounds_toArray, List.set_cons_zero, List.set_cons_succ])
                refine wpAnyG_pure 8 (v := ?_) (fun _ => trivial) (by simp only [List.getElem?_toArray, List.getElem?_cons_succ, List.getElem?_cons_zero]; rfl) (by kernel_rfl) (fun _ _ _ _ _ h => h) ⟨(by rfl), (by intro c h; cases h), ?_⟩ hHeld ?_
                rotate_left
                focus (intro wS hSw; (try replace hSw := HSF.out wS hSw); (try dsimp only at hSw); go_simp; (try with_reducible rfl))
                (try simp only [Act.put, List.setIfInBounds_toArray, List.set_cons_zero, List.set_cons_succ])
                refine wpAnyG_pure 9 (v := ?_) (fun _ => trivial) (by simp only [List.getElem?_toArray, List.getElem?_cons_succ, List.getElem?_cons_zero]; rfl) (by kernel_rfl) (fun _ _ _ _ _ h => h) ⟨(by rfl), (by intro c h; cases h), ?_⟩ hHeld ?_
                rotate_left
                focus (intro wS hSw; (try replace hSw := HSF.out wS hSw); (try dsimp only at hSw); go_simp; (try with_reducible rfl))
                (try simp only [Act.put, List.setIfInBounds_toArray, List.set_cons_zero, List.set_cons_succ])
                refine wpAnyS_ready [10] (by kernel_rfl) (by simp) (AllReadyS.consG (by simp only [List.getElem?_toArray, List.getElem?_cons_succ, List.getElem?_cons_zero]; rfl) (by rfl) (fun K hK => ?_) AllReadyS.nil)
                refine callS (by intro c h; cases h) (by go_simp; try with_reducible rfl) (CH.out _ (PC.out _ BD.out)) ?_
                intro w10 hBq
                have B10 := hid (BD.out.trans (hBq.mono BD.out.size))
                refine hK.out _ _ B10.out ?_
                (try simp only [Act.put, List.setIfInBounds_toArray, List.set_cons_zero, List.set_cons_succ])
                clear hK K hBq
                clear hHeld BD
                have hHeld := B10.out
                refine wpAnyG_pure 11 (v := ?_) (fun _ => trivial) (by simp only [List.getElem?_toArray, List.getElem?_cons_succ, List.getElem?_cons_zero]; rfl) (by kernel_rfl) (fun _ _ _ _ _ h => h) ⟨(by rfl), (by intro c h; cases h), ?_⟩ hHeld ?_
                rotate_left
                focus (intro wS hSw; (try replace hSw := HSF.out wS hSw); (try dsimp only at hSw); go_simp; (try with_reducible rfl))
                (try simp only [Act.put, List.setIfInBounds_toArray, List.set_cons_zero, List.set_cons_succ])
                refine wpAnyS_ready [12] (by kernel_rfl) (by simp) (AllReadyS.consG (by simp only [List.getElem?_toArray, List.getElem?_cons_succ, List.getElem?_cons_zero]; rfl) (by rfl) (fun K hK => ?_) AllReadyS.nil)
                refine callS (by intro c h; cases h) (by go_simp; try with_reducible rfl) (OH.out _ (PC.out _ B10.out)) ?_
                intro w12 hBq
                have B12 := hid (B10.out.trans (hBq.mono B10.out.size))
                refine hK.out _ _ B12.out ?_
                (try simp only [Act.put, List.setIfInBounds_toArray, List.set_cons_zero, List.set_cons_succ])
                clear hK K hBq
                clear hHeld B10
                have hHeld := B12.out
                refine wpAnyG_pure 13 (v := ?_) (fun _ => trivial) (by simp only [List.getElem?_toArray, List.getElem?_cons_succ, List.getElem?_cons_zero]; rfl) (by kernel_rfl) (fun _ _ _ _ _ h => h) ⟨(by rfl), (by intro c h; cases h), ?_⟩ hHeld ?_
                rotate_left
                focus (intro wS hSw; (try replace hSw := HSF.out wS hSw); (try dsimp only at hSw); go_simp; (try with_reducible rfl))
                (try simp only [Act.put, List.setIfInBounds_toArray, List.set_cons_zero, List.set_cons_succ])
                refine wpAnyG_pure 14 (v := ?_) (fun _ => trivial) (by simp only [List.getElem?_toArray, List.getElem?_cons_succ, List.getElem?_cons_zero]; rfl) (by kernel_rfl) (fun _ _ _ _ _ h => h) ⟨(by rfl), (by intro c h; cases h), ?_⟩ hHeld ?_
                rotate_left
                focus (intro wS hSw; (try replace hSw := HSF.out wS hSw); (try dsimp only at hSw); go_simp; (try with_reducible rfl))
                (try simp only [Act.put, List.setIfInBounds_toArray, List.set_cons_zero, List.set_cons_succ])
                refine wpAnyG_pure 15 (v := ?_) (fun _ => trivial) (by simp only [List.getElem?_toArray, List.getElem?_cons_succ, List.getElem?_cons_zero]; rfl) (by kernel_rfl) (fun _ _ _ _ _ h => h) ⟨(by rfl), (by intro c h; cases h), ?_⟩ hHeld ?_
                rotate_left
                focus (intro wS hSw; (try replace hSw := HSF.out wS hSw); (try dsimp only at hSw); go_simp; (try with_reducible rfl))
                (try simp only [Act.put, List.setIfInBounds_toArray, List.set_cons_zero, List.set_cons_succ])
                refine wpAnyG_pure 16 (v := ?_) (fun _ => trivial) (by simp only [List.getElem?_toArray, List.getElem?_cons_succ, List.getElem?_cons_zero]; rfl) (by kernel_rfl) (fun _ _ _ _ _ h => h) ⟨(by rfl), (by intro c h; cases h), ?_⟩ hHeld ?_
                rotate_left
                focus (intro wS hSw; (try replace hSw := HSF.out wS hSw); (try dsimp only at hSw); go_simp; (try with_reducible rfl))
                (try simp only [Act.put, List.setIfInBounds_toArray, List.set_cons_zero, List.set_cons_succ])
                refine wpAnyG_pure 17 (v := ?_) (fun _ => trivial) (by simp only [List.getElem?_toArray, List.getElem?_cons_succ, List.getElem?_cons_zero]; rfl) (by kernel_rfl) (fun _ _ _ _ _ h => h) ⟨(by rfl), (by intro c h; cases h), ?_⟩ hHeld ?_
                rotate_left
                focus (intro wS hSw; (try replace hSw := HSF.out wS hSw); (try dsimp only at hSw); go_simp; (try with_reducible rfl))
                (try simp only [Act.put, List.setIfInBounds_toArray, List.set_cons_zero, List.set_cons_succ])
                refine wpAnyG_take 18 (v := ?_) (fun _ => trivial) (by simp only [List.getElem?_toArray, List.getElem?_cons_succ, List.getElem?_cons_zero]; rfl) (by kernel_rfl) (fun _ _ _ _ _ h => h) ⟨(by rfl), (by intro c h; cases h), ?_⟩ hHeld ?_
                rotate_left
                focus (intro wS hSw; (try replace hSw := HSF.out wS hSw); (try dsimp only at hSw); go_simp; (try with_reducible rfl))
                (try simp only [Act.put, List.setIfInBounds_toArray, List.set_cons_zero, List.set_cons_succ])
                refine wpAnyG_pure 19 (v := ?_) (fun _ => trivial) (by simp only [List.getElem?_toArray, List.getElem?_cons_succ, List.getElem?_cons_zero]; rfl) (by kernel_rfl) (fun _ _ _ _ _ h => h) ⟨(by rfl), (by intro c h; cases h), ?_⟩ hHeld ?_
                rotate_left
                focus (intro wS hSw; (try replace hSw := HSF.out wS hSw); (try dsimp only at hSw); go_simp; (try with_reducible rfl))
                (try simp only [Act.put, List.setIfInBounds_toArray, List.set_cons_zero, List.set_cons_succ])
                refine wpAnyG_pure 20 (v := ?_) (fun _ => trivial) (by simp only [List.getElem?_toArray, List.getElem?_cons_succ, List.getElem?_cons_zero]; rfl) (by kernel_rfl) (fun _ _ _ _ _ h => h) ⟨(by rfl), (by intro c h; cases h), ?_⟩ hHeld ?_
                rotate_left
                focus (intro wS hSw; (try replace hSw := HSF.out wS hSw); (try dsimp only at hSw); go_simp; (try with_reducible rfl))
                (try simp only [Act.put, List.setIfInBounds_toArray, List.set_cons_zero, List.set_cons_succ])
                refine wpAnyG_take 21 (v := ?_) (fun _ => trivial) (by simp only [List.getElem?_toArray, List.getElem?_cons_succ, List.getElem?_cons_zero]; rfl) (by kernel_rfl) (fun _ _ _ _ _ h => h) ⟨(by rfl), (by intro c h; cases h), ?_⟩ hHeld ?_
                rotate_left
                focus (intro wS hSw; (try replace hSw := HSF.out wS hSw); (try dsimp only at hSw); go_simp; (try with_reducible rfl))
                (try simp only [Act.put, List.setIfInBounds_toArray, List.set_cons_zero, List.set_cons_succ])
                refine wpAnyG_pure 22 (v := ?_) (fun _ => trivial) (by simp only [List.getElem?_toArray, List.getElem?_cons_succ, List.getElem?_cons_zero]; rfl) (by kernel_rfl) (fun _ _ _ _ _ h => h) ⟨(by rfl), (by intro c h; cases h), ?_⟩ hHeld ?_
                rotate_left
                focus (intro wS hSw; (try replace hSw := HSF.out wS hSw); (try dsimp only at hSw); go_simp; (try with_reducible rfl))
                (try simp only [Act.put, List.setIfInBounds_toArray, List.set_cons_zero, List.set_cons_succ])
                refine wpAnyG_pure 23 (v := ?_) (fun _ => trivial) (by simp only [List.getElem?_toArray, List.getElem?_cons_succ, List.getElem?_cons_zero]; rfl) (by kernel_rfl) (fun _ _ _ _ _ h => h) ⟨(by rfl), (by intro c h; cases h), ?_⟩ hHeld ?_
                rotate_left
                focus (intro wS hSw; (try replace hSw := HSF.out wS hSw); (try dsimp only at hSw); go_simp; (try with_reducible rfl))
                (try simp only [Act.put, List.setIfInBounds_toArray, List.set_cons_zero, List.set_cons_succ])
                refine wpAnyG_pure 24 (v := ?_) (fun _ => trivial) (by simp only [List.getElem?_toArray, List.getElem?_cons_succ, List.getElem?_cons_zero]; rfl) (by kernel_rfl) (fun _ _ _ _ _ h => h) ⟨(by rfl), (by intro c h; cases h), ?_⟩ hHeld ?_
                rotate_left
                focus (intro wS hSw; (try replace hSw := HSF.out wS hSw); (try dsimp only at hSw); go_simp; (try with_reducible rfl))
                (try simp only [Act.put, List.setIfInBounds_toArray, List.set_cons_zero, List.set_cons_succ])
                refine wpAnyS_ready [25] (by kernel_rfl) (by simp) (AllReadyS.consG (by simp only [List.getElem?_toArray, List.getElem?_cons_succ, List.getElem?_cons_zero]; rfl) (by rfl) (fun K hK => ?_) AllReadyS.nil)
                refine callS (by intro c h; cases h) (by go_simp; try with_reducible rfl) (CG.out _ (PC.out _ B12.out)) ?_
                intro w25 hBq
                have B25 := hid (B12.out.trans (hBq.mono B12.out.size))
                refine hK.out _ _ B25.out ?_
                (try simp only [Act.put, List.setIfInBounds_toArray, List.set_cons_zero, List.set_cons_succ])
                clear hK K hBq
                clear hHeld B12
                have hHeld := B25.out
                refine wpAnyG_pure 26 (v := ?_) (fun _ => trivial) (by simp only [List.getElem?_toArray, List.getElem?_cons_succ, List.getElem?_cons_zero]; rfl) (by kernel_rfl) (fun _ _ _ _ _ h => h) ⟨(by rfl), (by intro c h; cases h), ?_⟩ hHeld ?_
                rotate_left
                focus (intro wS hSw; (try replace hSw := HSF.out wS hSw); (try dsimp only at hSw); go_simp; (try with_reducible rfl))
                (try simp only [Act.put, List.setIfInBounds_toArray, List.set_cons_zero, List.set_cons_succ])
                refine wpAnyS_ready [27] (by kernel_rfl) (by simp) (AllReadyS.consG (by simp only [List.getElem?_toArray, List.getElem?_cons_succ, List.getElem?_cons_zero]; rfl) (by rfl) (fun K hK => ?_) AllReadyS.nil)
                refine callS (by intro c h; cases h) (by go_simp; try with_reducible rfl) (OG2.out _ (PC.out _ B25.out)) ?_
                intro w27 hBq
                have B27 := hid (B25.out.trans (hBq.mono B25.out.size))
                refine hK.out _ _ B27.out ?_
                (try simp only [Act.put, List.setIfInBounds_toArray, List.set_cons_zero, List.set_cons_succ])
                clear hK K hBq
                clear hHeld B25
                have hHeld := B27.out
                refine wpAnyG_pure 28 (v := ?_) (fun _ => trivial) (by simp only [List.getElem?_toArray, List.getElem?_cons_succ, List.getElem?_cons_zero]; rfl) (by kernel_rfl) (fun _ _ _ _ _ h => h) ⟨(by rfl), (by intro c h; cases h), ?_⟩ hHeld ?_
                rotate_left
                focus (intro wS hSw; (try replace hSw := HSF.out wS hSw); (try dsimp only at hSw); go_simp; (try with_reducible rfl))
                (try simp only [Act.put, List.setIfInBounds_toArray, List.set_cons_zero, List.set_cons_succ])
                refine wpAnyS_done (by kernel_rfl) ?_
                clear hHeld
                go_wp2_with fail
                go_meet
                exact PC.out _ B27.out
          case rest =>
            have PZ := hid hcut
            clear hcut PP O0 O1 K0 K1 E0 E1 hHH hGG hEG hsn hle hl0
            generalize wc = wz at *
            have ht1 := HT1.out
            go_wp2_with fail
            go_roundw
            case rel => exact ⟨t + 1, hlt2, congrArg (Value.int .i64) ht1, PZ.out⟩
            case measure => exact meas_up _ _ _ ht1 hlt2
        · have hnl2 : ¬ (t : Int) < (home.length : Int) := by omega
          have hB := hid PP.out.below
          clear PP
          go_wp2_with fail
          go_ret
          exact ⟨rfl, hB.out⟩
end Go.Proofs.YtappgjdnfllblaaDoor
