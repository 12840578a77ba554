
/- Lease: LeaseGoes, the walk, where the home of the zone is 1. -/
import Derived.Test.YtappgjdnfllblaaDoorLeaGw
import Derived.Deep.CutBlock
set_option linter.unusedSimpArgs false
set_option linter.unusedVariables false
namespace Go.Proofs.YtappgjdnfllblaaDoor
open Go.RowKit Go.IntWalk Go.Maps Go.WideMaps
set_option maxRecDepth 100000 in
set_option maxHeartbeats 8000000 in
theorem lgoes_1 (Ah : Option Addr) (ch : Nat) (home : List Int) (Al : Option Addr) (cl : Nat) (l : List Ac) (zn tm : Int) (w : World) (h1 : home.length ≤ ch) (h2 : ch ≤ maxLen) (hll : l.length ≤ maxLen)
    (hh : SlR w w.heap.size Ah home) (hs : SlR w w.heap.size Al l) (he : Env w) (hway : ∀ t : Nat, zn = (t : Int) → ∀ h : t < home.length, home[t] ≠ 0) :
    Calls Tryd.prog 7 #[.slice Ah home.length ch, .slice Al l.length cl, .int .i64 zn, .int .i64 tm] w fun e w' => e = .returned (.bool true) ∧ Below w.heap.size w w' := by
  have hh2 := hid hh
  have HS := hid hs
  unfold maxLen at hll
  have HM := hid h2
  have HWAY := hid hway
  clear hway
  have HC := hid h1
  clear hh hs h1 h2
  go_enter Tryd.func7, Tryd.ntmps7
  go_wp2_with fail
  refine (lsmall_any _).mono ?_
  rintro e w1 ⟨rfl, hB1⟩
  have B1 := hid hB1
  clear hB1
  by_cases hok : home.length ≤ 64 ∧ ∀ x ∈ home, x = 0 ∨ x = 1
  case neg =>
    have hc := hid (begin_no Ah ch home w1 HC.out HM.out ((hh2.out.below B1.out).more B1.out.size) hok)
    clear hok
    go_wp2_with fail
    refine hc.out.mono ?_
    rintro e w2 ⟨rfl, hB⟩
    have B2 := hid (B1.out.trans (hB.mono B1.out.size))
    clear hB hc B1
    by_cases h6 : (6 : Int) < home.length
    · go_wp2_with fail
      go_ret
      exact ⟨rfl, B2.out⟩
    by_cases h100 : (100 : Int) < l.length
    · go_wp2_with fail
      go_ret
      exact ⟨rfl, B2.out⟩
    go_wp2_with fail
    go_ret
    exact ⟨rfl, B2.out⟩
  have hc := hid (begin_yes Ah ch home w1 HC.out HM.out ((hh2.out.below B1.out).more B1.out.size) hok)
  have HOK := hid hok
  clear hok
  go_wp2_with fail
  refine hc.out.mono ?_
  rintro e w2 ⟨m0, rfl, hP⟩
  have P2 := hid (hP.low B1.out)
  have I2 := hid (LInv.begin HOK.out.2 HOK.out.1)
  clear hP hc B1 HOK
  have hmp : ∃ px, px = m0.px := ⟨_, rfl⟩
  obtain ⟨px, hpx⟩ := hmp
  rw [← hpx]
  have HPX := hid hpx
  clear hpx
  have B2 := hid P2.out.below
  by_cases h6 : (6 : Int) < home.length
  · go_wp2_with fail
    go_ret
    exact ⟨rfl, B2.out⟩
  by_cases h100 : (100 : Int) < l.length
  · go_wp2_with fail
    go_ret
    exact ⟨rfl, B2.out⟩
  by_cases hz0 : zn < 0
  · go_wp2_with fail
    go_ret
    exact ⟨rfl, B2.out⟩
  by_cases hz1 : (home.length : Int) ≤ zn
  · go_wp2_with fail
    go_ret
    exact ⟨rfl, B2.out⟩
  by_cases ht0 : tm < 8
  · go_wp2_with fail
    go_ret
    exact ⟨rfl, B2.out⟩
  by_cases ht1 : 900 < tm
  · go_wp2_with fail
    go_ret
    exact ⟨rfl, B2.out⟩
  go_upto_region 3 with fail
  go_cut [49] (fun v wx => v = .bool false ∧ w2 = wx)
  case first =>
    go_wp2_with fail
    go_meet
    exact ⟨by simp; omega, by first | rfl | trivial⟩
  obtain ⟨rfl, rfl⟩ := hcut
  go_wp2_with fail
  go_loopw [11] (fun i wr => ∃ (k : Nat) (m : PM) (s : LS), k ≤ l.length ∧ i = .int .i64 k ∧ m.px = px ∧ Pl w wr m s ∧ LInv home k s) (fun i _ => l.length - (intOf i).toNat)
  case atStart => exact ⟨0, m0, _, by omega, rfl, HPX.out.symm, P2.out, I2.out⟩
  case round =>
    clear P2 I2 B2 HPX
    obtain ⟨k, m, s, hk, rfl, hpm, hP, hI⟩ := hrel
    by_cases hlt : k < l.length
    · have hac := HS.out.ac hlt
      generalize l[k] = o at *
      obtain ⟨dd, ww, zz, nn⟩ := o
      obtain ⟨b, off, rfl, hbB, g1, g2, g3, g4, hz⟩ := hac
      simp only at g1 g2 g3 g4 hz
      have hBB := hP.below
      replace g1 := (bcell hBB b _ hbB).trans g1
      replace g2 := (bcell hBB b _ hbB).trans g2
      replace g3 := (bcell hBB b _ hbB).trans g3
      replace g4 := (bcell hBB b _ hbB).trans g4
      have hbz : b < wr.heap.size := by have := hBB.size; omega
      have hlt' : (k : Int) < l.length := by omega
      have hc := hid (lact_any (i := (k : Int)) (by omega) (by omega) he hP hI dd ww zz nn hz)
      rw [hpm] at hc
      have hk1 : wrap64 ((k : Int) + 1) = ((k + 1 : Nat) : Int) := by rw [wrap64_in _ (by omega)]; simp
      clear hP hI hBB hpm hz
      go_wp2_with fail
      refine hc.out.mono ?_
      rintro e w3 ⟨rfl, m', s', hpx', P3, I3⟩
      have p3 := hid P3
      have i3 := hid I3
      have hp' := hid hpx'
      clear P3 I3 hpx' hc g1 g2 g3 g4 hbz
      go_wp2_with fail
      go_roundw
      case rel => exact ⟨k + 1, m', s', by omega, by simp [hk1], hp'.out, p3.out, by have := i3.out; simpa using this⟩
      case measure => simp [intOf, hk1]; omega
    · have hnl : ¬ (k : Int) < (l.length : Int) := by omega
      have PP := hid hP
      have II := hid hI
      have hp'' := hid hpm
      have hkl := hid (show (k : Int) ≤ 100 by omega)
      obtain ⟨t, rfl⟩ : ∃ t : Nat, zn = t := ⟨zn.toNat, by omega⟩
      have hlt2 : t < home.length := by omega
      obtain ⟨bh, oh, rfl, hbh, hch, hih⟩ := hh2.out.int hlt2
      replace hch := (bcell PP.out.below bh _ hbh).trans hch
      have hbz2 : bh < wr.heap.size := by have := PP.out.below.size; omega
      have hm1 : hm home t = home[t] := by simp [hm, List.getD, List.getElem?_eq_getElem hlt2]
      have t0 : (0 : Int) ≤ t := by omega
      have t1 : (t : Int) < home.length := by omega
      have h01 := hm01 II.out.h01 t0 t1
      rw [hm1] at h01
      have han := and01 h01
      have hIt : I64 (t : Int) := by constructor <;> omega
      have HM1 := hid hm1
      have H01 := hid h01
      have HW2 := hid (HWAY.out t rfl hlt2)
      generalize home[t] = x at *
      clear hP hI hpm hih hm1 h01
      rcases H01.out with rfl | rfl
      · as_aux_lemma =>
          exact absurd rfl HW2.out
      · as_aux_lemma =>
          have hnn : ∃ NN, NN = m.nn := ⟨_, rfl⟩
          obtain ⟨NN, hNN⟩ := hnn
          have HNN := hid hNN
          clear hNN
          go_wp2_with fail
          generalize wr = wy at *
          go_loopw [] (fun wr => ∃ (m' : PM) (s' : LS), m'.px = px ∧ m'.nn = NN ∧ Pl w wr m' s' ∧ LInv home k s') (fun wr => netLen wr NN)
          case atStart => exact ⟨m, s, hp'', HNN.out.symm, PP.out, II.out⟩
          case round =>
            clear PP II hp'' HNN hch hbz2
            obtain ⟨m', s', hpm', hnn', hP, hI⟩ := hrel
            have P0 := hid hP
            have I0 := hid hI
            have HPM := hid hpm'
            have HNN := hid hnn'
            have cnt := hid (count_any hP.nt)
            have hdr := hid (ndrop_any hP.nt hI.fl 0)
            have hhe := hid (nheal_any hP.nt)
            have hfl := hI.fl
            have hln := netLen_of hP.nt
            obtain ⟨p0, p1, _, _, _, _, _, _⟩ := hP.c
            have zp := hP.wr.1
            rw [hpm'] at p0 p1 zp
            rw [hnn'] at cnt hdr hhe hln p1
            clear hP hI hpm' hnn'
            by_cases hF : s'.F.length = 0
            case neg =>
              have hFp : (0 : Int) < (s'.F.length : Int) := by omega
              have HF := hid hF
              have HLN := hid hln
              clear hF hln
              go_wp2_with fail
              refine cnt.out.mono ?_
              rintro e w3 ⟨rfl, rfl⟩
              clear cnt
              go_wp2_with fail
              refine hdr.out.mono ?_
              rintro e w4 ⟨x9, vn, rfl, ⟨rt, rfl⟩, N4, C4, _⟩
              have P4 := hid (P0.out.net (by rw [HNN.out]; exact N4) (by rw [HNN.out]; exact C4))
              have hl4 := hid (show netLen w4 NN = (dropN s'.F 0).length from netLen_of N4)
              have I4 := hid (I0.out.net (F' := dropN s'.F 0) (sp' := s'.sp) (fun p hp => dropN_mem hp) (dropN_len hfl) I0.out.sp)
              clear N4 C4 hdr hhe P0 I0 p0 p1 zp
              go_wp2_with fail
              go_roundw
              case rel => exact ⟨{ m' with vn := vn }, _, HPM.out, HNN.out, P4.out, I4.out⟩
              case measure =>
                rw [hl4.out, HLN.out]
                have h1 := HF.out
                unfold dropN
                rw [if_pos (by omega), List.length_eraseIdx_of_lt (by omega)]
                omega
            case pos =>
              have hFe := hid (List.eq_nil_of_length_eq_zero hF)
              have cnt0 := cnt
              rw [hF] at cnt0
              clear cnt hdr hln hfl hF
              go_wp2_with fail
              refine cnt0.out.mono ?_
              rintro e w3 ⟨rfl, rfl⟩
              clear cnt0
              go_wp2_with fail
              refine hhe.out.mono ?_
              rintro e w4 ⟨x9, vn, rfl, rfl, N4, C4, _⟩
              have hP4 := P0.out.net (by rw [HNN.out]; exact N4) (by rw [HNN.out]; exact C4)
              rw [hFe.out] at hP4
              obtain ⟨m, hm⟩ : ∃ m : PM, m = { m' with vn := vn } := ⟨_, rfl⟩
              rw [← hm] at hP4
              have P4 := hid hP4
              have hp' : m.px = px := by rw [hm]; exact HPM.out
              have hnn : m.nn = NN := by rw [hm]; exact HNN.out
              clear N4 C4 hhe P0 p0 p1 zp hP4 hm
              have t1000 := I0.out.t
              have hzi := I0.out.zi t t0 t1
              have hsn := I0.out.soon t t0 t1
              have hEN := I0.out.endsH t0 t1
              have hck := I0.out.clocks 1
              have hkl2 := hkl.out
              have hm1 := HM1.out
              rw [hm1] at hzi hsn hEN
              rw [show (1 : Int) - 1 = 0 from rfl] at hzi
              rw [show s'.D 1 = s'.db from rfl] at hzi hsn hEN
              rw [show s'.D 0 = s'.da from rfl] at hzi
              obtain ⟨mh1, mh2, mh3⟩ := I0.out.me 1 (.inr rfl)
              obtain ⟨mg1, mg2, mg3⟩ := I0.out.me 0 (.inl rfl)
              rw [show s'.D 1 = s'.db from rfl] at mh1 mh2 mh3
              rw [show s'.D 0 = s'.da from rfl] at mg1 mg2 mg3
              have inh := I0.out.in_ (by omega) (w := 1) (.inr rfl)
              have ing := I0.out.in_ (by omega) (w := 0) (.inl rfl)
              rw [show s'.D 1 = s'.db from rfl] at inh
              rw [show s'.D 0 = s'.da from rfl] at ing
              have OKH := hid mh3
              have OKG := hid mg3
              obtain ⟨T, hT⟩ : ∃ T, T = (if s'.time < lEnds s'.db t then lEnds s'.db t else s'.time) := ⟨_, rfl⟩
              have hTb : s'.time ≤ T ∧ lEnds s'.db t ≤ T ∧ T ≤ 1500 := by rw [hT]; split <;> omega
              obtain ⟨T2, hT2⟩ : ∃ T2, T2 = T + 2 := ⟨_, rfl⟩
              have wi : IntKind.i64.wrap (T + 2) = T2 := by rw [i64_left, hT2]; exact wrap64_in _ (by omega)
              obtain ⟨ch, hch⟩ : ∃ ch, ch = (⟨s'.da, s'.db, [], 0, T2, 2, 0⟩ : LS).clock 1 := ⟨_, rfl⟩
              obtain ⟨cg, hcg⟩ : ∃ cg, cg = (⟨s'.da, s'.db, [], 0, T2, 2, 0⟩ : LS).clock 0 := ⟨_, rfl⟩
              have hchv : ch = T2 + 0 := by rw [hch]; rfl
              have hcgv : cg = T2 + 2 := by rw [hcg]; rfl
              obtain ⟨a, no, dg1, dh1, dh2, dg2, dg3, dh3, GO⟩ := goes_plain (z := (t : Int)) (dh := s'.db) (dg := s'.da) (ch := ch) (cg := cg) (term := tm) ⟨mh3, inh⟩ ⟨mg3, ing⟩ (by rw [mh2, mg2]) (by rw [mh1, mg1]; rfl) t0 (by rw [mh2]; exact t1) (by rw [mh2, mh1]; exact hm1) (hzi.sub (by simp)) (by rw [← hEN]; omega) (by omega) (by omega) (by omega) (by omega)
              have HLEN_dh1 := hid (show dh1.home.length = home.length by rw [GO.n1, mh2])
              have HLEN_dh2 := hid (show dh2.home.length = home.length by rw [GO.n2, mh2])
              have HE := hid (ends_any P4.out.lb mh3 (z := (t : Int)) hIt)
              generalize hen : lEnds s'.db t = en at *
              have HEN := hid hen
              have HT := hid hT
              have HTM := hid (show T = max s'.time en by rw [hT]; split <;> omega)
              have GOH := hid GO
              have HCH := hid hch
              have HCG := hid hcg
              have hb : 0 ≤ T2 ∧ T2 ≤ 2000 := by omega
              have hcb : 0 ≤ ch ∧ ch ≤ 3000 := by omega
              have hcgb : 0 ≤ cg ∧ cg ≤ 3000 := by omega
              clear hT hT2 hTb hchv hcgv hch hcg hzi hsn hEN hck mh1 mh2 mh3 mg1 mg2 mg3 inh ing GO hm1 t1000 hen
              obtain ⟨p0, p1, p2, p3, e0, e1, c0, c1⟩ := P4.out.c
              obtain ⟨zp, zd, zg⟩ := P4.out.wr
              rw [hp'] at p0 p1 p2 p3 zp
              go_upto_region 15 with fail
              clear p0 p1 p2 p3 e0 e1 c0 c1 zp zd zg
              have HSF := hid (fun (wq : World) (hq : Below w4.heap.size w4 wq) => (P4.out.step hq).c)
              rw [hp'] at HSF
              have HEq := hid (fun (W : World) (hW : Below w4.heap.size w4 W) => ends_any (P4.out.step hW).lb OKH.out (z := (t : Int)) hIt)
              rw [HEN.out] at HEq
              have BD := hid ((Below.refl w4.heap.size w4).drew)
              refine wpIn_wide.1 (wpIn_region_S (n := 0) (fun wq => Below w4.heap.size w4 wq) [18] (by kernel_rfl) BD.out (fun hHeld => ?_))
              generalize w4.drew = w5 at *
              refine wpAnyS_pure 0 (v := ?_) (fun _ => trivial) (by simp only [List.getElem?_toArray, List.getElem?_cons_succ, List.getElem?_cons_zero]; rfl) (by kernel_rfl) (fun _ _ _ _ _ h => h) ⟨rfl, (by intro c h; cases h), ?_⟩ hHeld ?_
              rotate_left
              focus (intro wS hSw; (try replace hSw := HSF.out wS hSw); (try dsimp only at hSw); go_simp; (try with_reducible rfl))
              (try simp only [Act.put, List.setIfInBounds_toArray, List.set_cons_zero, List.set_cons_succ])
              refine wpAnyS_pure 1 (v := ?_) (fun _ => trivial) (by simp only [List.getElem?_toArray, List.getElem?_cons_succ, List.getElem?_cons_zero]; rfl) (by kernel_rfl) (fun _ _ _ _ _ h => h) ⟨rfl, (by intro c h; cases h), ?_⟩ hHeld ?_
              rotate_left
              focus (intro wS hSw; (try replace hSw := HSF.out wS hSw); (try dsimp only at hSw); go_simp; (try with_reducible rfl))
              (try simp only [Act.put, List.setIfInBounds_toArray, List.set_cons_zero, List.set_cons_succ])
              refine wpAnyS_pure 2 (v := ?_) (fun _ => trivial) (by simp only [List.getElem?_toArray, List.getElem?_cons_succ, List.getElem?_cons_zero]; rfl) (by kernel_rfl) (fun _ _ _ _ _ h => h) ⟨rfl, (by intro c h; cases h), ?_⟩ hHeld ?_
              rotate_left
              focus (intro wS hSw; (try replace hSw := HSF.out wS hSw); (try dsimp only at hSw); go_simp; (try with_reducible rfl))
              (try simp only [Act.put, List.setIfInBounds_toArray, List.set_cons_zero, List.set_cons_succ])
              refine wpAnyS_pure 3 (v := ?_) (fun _ => trivial) (by simp only [List.getElem?_toArray, List.getElem?_cons_succ, List.getElem?_cons_zero]; rfl) (by kernel_rfl) (fun _ _ _ _ _ h => h) ⟨rfl, (by intro c h; cases h), ?_⟩ hHeld ?_
              rotate_left
              focus (intro wS hSw; (try replace hSw := HSF.out wS hSw); (try dsimp only at hSw); go_simp; (try with_reducible rfl))
              (try simp only [Act.put, List.setIfInBounds_toArray, List.set_cons_zero, List.set_cons_succ])
              refine wpAnyS_take 4 (v := ?_) (fun _ => trivial) (by simp only [List.getElem?_toArray, List.getElem?_cons_succ, List.getElem?_cons_zero]; rfl) (by kernel_rfl) (fun _ _ _ _ _ h => h) ⟨rfl, (by intro c h; cases h), ?_⟩ hHeld ?_
              rotate_left
              focus (intro wS hSw; (try replace hSw := HSF.out wS hSw); (try dsimp only at hSw); go_simp; (try with_reducible rfl))
              (try simp only [Act.put, List.setIfInBounds_toArray, List.set_cons_zero, List.set_cons_succ])
              refine wpAnyS_pure 5 (v := ?_) (fun _ => trivial) (by simp only [List.getElem?_toArray, List.getElem?_cons_succ, List.getElem?_cons_zero]; rfl) (by kernel_rfl) (fun _ _ _ _ _ h => h) ⟨rfl, (by intro c h; cases h), ?_⟩ hHeld ?_
              rotate_left
              focus (intro wS hSw; (try replace hSw := HSF.out wS hSw); (try dsimp only at hSw); go_simp; (try with_reducible rfl))
              (try simp only [Act.put, List.setIfInBounds_toArray, List.set_cons_zero, List.set_cons_succ])
              refine wpAnyS_pure 6 (v := ?_) (fun _ => trivial) (by simp only [List.getElem?_toArray, List.getElem?_cons_succ, List.getElem?_cons_zero]; rfl) (by kernel_rfl) (fun _ _ _ _ _ h => h) ⟨rfl, (by intro c h; cases h), ?_⟩ hHeld ?_
              rotate_left
              focus (intro wS hSw; (try replace hSw := HSF.out wS hSw); (try dsimp only at hSw); go_simp; (try with_reducible rfl))
              (try simp only [Act.put, List.setIfInBounds_toArray, List.set_cons_zero, List.set_cons_succ])
              refine wpAnyS_pure 7 (v := ?_) (fun _ => trivial) (by simp only [List.getElem?_toArray, List.getElem?_cons_succ, List.getElem?_cons_zero]; rfl) (by kernel_rfl) (fun _ _ _ _ _ h => h) ⟨rfl, (by intro c h; cases h), ?_⟩ hHeld ?_
              rotate_left
              focus (intro wS hSw; (try replace hSw := HSF.out wS hSw); (try dsimp only at hSw); go_simp; (try with_reducible rfl))
              (try simp only [Act.put, List.setIfInBounds_toArray, List.set_cons_zero, List.set_cons_succ])
              refine wpAnyS_take 8 (v := ?_) (fun _ => trivial) (by simp only [List.getElem?_toArray, List.getElem?_cons_succ, List.getElem?_cons_zero]; rfl) (by kernel_rfl) (fun _ _ _ _ _ h => h) ⟨rfl, (by intro c h; cases h), ?_⟩ hHeld ?_
              rotate_left
              focus (intro wS hSw; (try replace hSw := HSF.out wS hSw); (try dsimp only at hSw); go_simp; (try with_reducible rfl))
              (try simp only [Act.put, List.setIfInBounds_toArray, List.set_cons_zero, List.set_cons_succ])
              refine wpAnyS_pure 9 (v := ?_) (fun _ => trivial) (by simp only [List.getElem?_toArray, List.getElem?_cons_succ, List.getElem?_cons_zero]; rfl) (by kernel_rfl) (fun _ _ _ _ _ h => h) ⟨rfl, (by intro c h; cases h), ?_⟩ hHeld ?_
              rotate_left
              focus (intro wS hSw; (try replace hSw := HSF.out wS hSw); (try dsimp only at hSw); go_simp; (try with_reducible rfl))
              (try simp only [Act.put, List.setIfInBounds_toArray, List.set_cons_zero, List.set_cons_succ])
              refine wpAnyS_pure 10 (v := ?_) (fun _ => trivial) (by simp only [List.getElem?_toArray, List.getElem?_cons_succ, List.getElem?_cons_zero]; rfl) (by kernel_rfl) (fun _ _ _ _ _ h => h) ⟨rfl, (by intro c h; cases h), ?_⟩ hHeld ?_
              rotate_left
              focus (intro wS hSw; (try replace hSw := HSF.out wS hSw); (try dsimp only at hSw); go_simp; (try with_reducible rfl))
              (try simp only [Act.put, List.setIfInBounds_toArray, List.set_cons_zero, List.set_cons_succ])
              refine wpAnyS_take 11 (v := ?_) (fun _ => trivial) (by simp only [List.getElem?_toArray, List.getElem?_cons_succ, List.getElem?_cons_zero]; rfl) (by kernel_rfl) (fun _ _ _ _ _ h => h) ⟨rfl, (by intro c h; cases h), ?_⟩ hHeld ?_
              rotate_left
              focus (intro wS hSw; (try replace hSw := HSF.out wS hSw); (try dsimp only at hSw); go_simp; (try with_reducible rfl))
              (try simp only [Act.put, List.setIfInBounds_toArray, List.set_cons_zero, List.set_cons_succ])
              refine wpAnyS_pure 12 (v := ?_) (fun _ => trivial) (by simp only [List.getElem?_toArray, List.getElem?_cons_succ, List.getElem?_cons_zero]; rfl) (by kernel_rfl) (fun _ _ _ _ _ h => h) ⟨rfl, (by intro c h; cases h), ?_⟩ hHeld ?_
              rotate_left
              focus (intro wS hSw; (try replace hSw := HSF.out wS hSw); (try dsimp only at hSw); go_simp; (try with_reducible rfl))
              (try simp only [Act.put, List.setIfInBounds_toArray, List.set_cons_zero, List.set_cons_succ])
              refine wpAnyS_ready [13] (by kernel_rfl) (by simp) (AllReadyS.cons (by simp only [List.getElem?_toArray, List.getElem?_cons_succ, List.getElem?_cons_zero]; rfl) rfl (fun K hK => ?_) AllReadyS.nil)
              refine callS (by intro c h; cases h) (by go_simp; try with_reducible rfl) (HEq.out w5 BD.out) ?_
              intro w6 hB6
              have B6 := hid (BD.out.trans (hB6.mono BD.out.size))
              refine hK.out _ _ B6.out ?_
              (try simp only [Act.put, List.setIfInBounds_toArray, List.set_cons_zero, List.set_cons_succ])
              clear hK K hB6 hHeld BD
              have hHeld := B6.out
              refine wpAnyS_pure 14 (v := ?_) (fun _ => trivial) (by simp only [List.getElem?_toArray, List.getElem?_cons_succ, List.getElem?_cons_zero]; rfl) (by kernel_rfl) (fun _ _ _ _ _ h => h) ⟨rfl, (by intro c h; cases h), ?_⟩ hHeld ?_
              rotate_left
              focus (intro wS hSw; (try replace hSw := HSF.out wS hSw); (try dsimp only at hSw); go_simp; (try with_reducible rfl))
              (try simp only [Act.put, List.setIfInBounds_toArray, List.set_cons_zero, List.set_cons_succ])
              first | rw [← HT.out] | rw [← HTM.out]
              refine wpAnyS_pure 15 (v := ?_) (fun _ => trivial) (by simp only [List.getElem?_toArray, List.getElem?_cons_succ, List.getElem?_cons_zero]; rfl) (by kernel_rfl) (fun _ _ _ _ _ h => h) ⟨rfl, (by intro c h; cases h), ?_⟩ hHeld ?_
              rotate_left
              focus (intro wS hSw; (try replace hSw := HSF.out wS hSw); (try dsimp only at hSw); go_simp; (try with_reducible rfl))
              (try simp only [Act.put, List.setIfInBounds_toArray, List.set_cons_zero, List.set_cons_succ])
              refine wpAnyS_pure 16 (v := ?_) (fun _ => trivial) (by simp only [List.getElem?_toArray, List.getElem?_cons_succ, List.getElem?_cons_zero]; rfl) (by kernel_rfl) (fun _ _ _ _ _ h => h) ⟨rfl, (by intro c h; cases h), ?_⟩ hHeld ?_
              rotate_left
              focus (intro wS hSw; (try replace hSw := HSF.out wS hSw); (try dsimp only at hSw); go_simp; (try with_reducible rfl))
              (try simp only [Act.put, List.setIfInBounds_toArray, List.set_cons_zero, List.set_cons_succ])
              refine wpAnyS_pure 17 (v := ?_) (fun _ => trivial) (by simp only [List.getElem?_toArray, List.getElem?_cons_succ, List.getElem?_cons_zero]; rfl) (by kernel_rfl) (fun _ _ _ _ _ h => h) ⟨rfl, (by intro c h; cases h), ?_⟩ hHeld ?_
              rotate_left
              focus (intro wS hSw; (try replace hSw := HSF.out wS hSw); (try dsimp only at hSw); go_simp; (try with_reducible rfl))
              (try simp only [Act.put, List.setIfInBounds_toArray, List.set_cons_zero, List.set_cons_succ])
              have P6 := hid (P4.out.step B6.out)
              have fp := P6.out.bp.frozen; have cp := P6.out.c.2.2.1
              rw [hp'] at fp cp
              refine wpAnyS_ready [18] (by kernel_rfl) (by simp) (AllReadyS.consL (by simp only [List.getElem?_toArray, List.getElem?_cons_succ, List.getElem?_cons_zero]; rfl) rfl (by kernel_rfl) (fun K hK => ?_) AllReadyS.nil)
              go_simp
              refine hK.out _ _ ?_
              (try simp only [Act.put, List.setIfInBounds_toArray, List.set_cons_zero, List.set_cons_succ])
              clear hK K fp cp hHeld HSF HEq B6 P4 HE HTM
              have P7 := P6.out.time T2
              rw [hp'] at P7
              have P7 := hid P7
              clear P6 wi HT
              generalize w6.setCell ⟨px, 2, none⟩ (.int .i64 T2) = w7 at *
              refine wpAnyS_done (by kernel_rfl) ?_
              have fp := P7.out.bp.frozen; have cp := P7.out.c.2.2.2.1; have zp := P7.out.wr.1
              rw [hp'] at fp cp zp
              go_upto_region 17 with fail
              clear fp cp zp
              have P8 := P7.out.newGa
              obtain ⟨m9, hm9⟩ : ∃ m9 : PM, m9 = { m with ga := w7.heap.size } := ⟨_, rfl⟩
              rw [← hm9, hp', World.setCell_alloc_past _ _ _ _ (by have := P7.out.wr.1; rw [hp'] at this; exact this)] at P8
              have hp9 : m9.px = px := by rw [hm9]; exact hp'
              have PV := hid (show PlV w _ m9 ⟨s'.da, s'.db, [], 0, T2, 2, 0⟩ from P8.v)
              clear P7 P8 hm9 hp' hnn
              generalize ((w7.setCell ⟨px, 3, none⟩ (.slice (some ⟨w7.heap.size, 0, none⟩) 2 2)).alloc (Obj.cells #[.int .i64 2, .int .i64 0] 3)) = w8 at *
              generalize m9 = m at *
              have hp' := hp9
              clear hp9
              have hc := hid (ask_f PV.out.la OKG.out (z := (t : Int)) hIt)
              rw [GOH.out.a1] at hc
              simp only [noteV, noteC] at hc
              obtain ⟨f0, f1, f2, f3, f4, f5⟩ := PV.out.cc hp'
              go_wp2_with fail
              refine hc.out.mono ?_
              rintro e w9 ⟨rfl, hL, q, hq, hg⟩
              obtain ⟨hPV, hkt⟩ := PV.out.desk0 hq hL hg
              have hPV : PlV w w9 m ⟨dg1, s'.db, [], 0, T2, 2, 0⟩ := hPV
              have hgx := hid hPV.below.size
              have PV2 := hid (hPV.step (show Below w9.heap.size w9 (w9.alloc (Obj.cells #[.int .i64 0, .int .i64 t, .int .i64 0, .int .i64 a] 26)) by (repeat (first | exact Below.refl _ _ | assumption | refine below_drewN ?_ _ | refine Below.drew ?_ | refine Below.alloc ?_ (by (try simp); (try omega)) _ | refine Below.setCell ?_ (by (try simp); (try omega)) _))))
              have X := hid (Blk.new w9 26 #[.int .i64 0, .int .i64 t, .int .i64 0, .int .i64 a])
              clear hc hL hq hg hPV hkt PV f0 f1 f2 f3 f4 f5
              have PV := PV2
              clear PV2
              obtain ⟨f0, f1, f2, f3, f4, f5⟩ := PV.out.cc hp'
              have y0 := X.out.cell 0; have y1 := X.out.cell 1; have y2 := X.out.cell 2; have y3 := X.out.cell 3; have fy := X.out.frozen; have yl := X.out.lt
              simp at y0 y1 y2 y3
              go_upto_region 18 with fail
              generalize (w9.alloc (Obj.cells #[.int .i64 0, .int .i64 t, .int .i64 0, .int .i64 a] 26)) = w10 at *
              generalize w9.heap.size = gx at *
              clear f0 f1 f2 f3 f4 f5 y0 y1 y2 y3 fy yl
              go_cut [152] (fun v wx => v = .bool false ∧ PlV w wx m ⟨dg1, dh1, [], 0, T2, 2, 0⟩ ∧ Blk wx gx 26 #[.int .i64 0, .int .i64 t, .int .i64 0, .int .i64 a])
              case first =>
               as_aux_lemma =>
                have PV2 := hid (show PlV w w10.drew m ⟨dg1, s'.db, [], 0, T2, 2, 0⟩ from PV.out.step (by (repeat (first | exact Below.refl _ _ | assumption | refine below_drewN ?_ _ | refine Below.drew ?_ | refine Below.alloc ?_ (by (try simp); (try omega)) _ | refine Below.setCell ?_ (by (try simp); (try omega)) _))))
                have X2 := hid (show Blk w10.drew gx 26 #[.int .i64 0, .int .i64 t, .int .i64 0, .int .i64 a] from X.out.drew)
                have hS0 := PV2.out.sq hp' X2.out
                have HSF := hid (fun (wq : World) (hq : SQ px m.gd m.nn m.A.b m.B.b gx #[.int .i64 0, .int .i64 t, .int .i64 0, .int .i64 a] wq) => hq.facts)
                refine wpIn_wide.1 (wpIn_region_S (n := 0) (SQ px m.gd m.nn m.A.b m.B.b gx #[.int .i64 0, .int .i64 t, .int .i64 0, .int .i64 a]) [] (by kernel_rfl) hS0 (fun hHeld => ?_))
                clear hS0 PV X
                have PV := PV2; have X := X2
                clear PV2 X2
                generalize w10.drew = v0 at *
                refine wpAnyG_pure 0 (v := ?_) (fun _ => trivial) (by simp only [List.getElem?_toArray, List.getElem?_cons_succ, List.getElem?_cons_zero]; rfl) (by kernel_rfl) (fun _ _ _ _ _ h => h) ⟨(by rfl), (by intro c h; cases h), ?_⟩ hHeld ?_
                rotate_left
                focus (intro wS hSw; (try replace hSw := HSF.out wS hSw); (try dsimp only at hSw); go_simp; (try with_reducible rfl))
                (try simp only [Act.put, List.setIfInBounds_toArray, List.set_cons_zero, List.set_cons_succ])
                refine wpAnyG_pure 1 (v := ?_) (fun _ => trivial) (by simp only [List.getElem?_toArray, List.getElem?_cons_succ, List.getElem?_cons_zero]; rfl) (by kernel_rfl) (fun _ _ _ _ _ h => h) ⟨(by rfl), (by intro c h; cases h), ?_⟩ hHeld ?_
                rotate_left
                focus (intro wS hSw; (try replace hSw := HSF.out wS hSw); (try dsimp only at hSw); go_simp; (try with_reducible rfl))
                (try simp only [Act.put, List.setIfInBounds_toArray, List.set_cons_zero, List.set_cons_succ])
                refine wpAnyG_pure 2 (v := ?_) (fun _ => trivial) (by simp only [List.getElem?_toArray, List.getElem?_cons_succ, List.getElem?_cons_zero]; rfl) (by kernel_rfl) (fun _ _ _ _ _ h => h) ⟨(by rfl), (by intro c h; cases h), ?_⟩ hHeld ?_
                rotate_left
                focus (intro wS hSw; (try replace hSw := HSF.out wS hSw); (try dsimp only at hSw); go_simp; (try with_reducible rfl))
                (try simp only [Act.put, List.setIfInBounds_toArray, List.set_cons_zero, List.set_cons_succ])
                refine wpAnyG_pure 3 (v := ?_) (fun _ => trivial) (by simp only [List.getElem?_toArray, List.getElem?_cons_succ, List.getElem?_cons_zero]; rfl) (by kernel_rfl) (fun _ _ _ _ _ h => h) ⟨(by rfl), (by intro c h; cases h), ?_⟩ hHeld ?_
                rotate_left
                focus (intro wS hSw; (try replace hSw := HSF.out wS hSw); (try dsimp only at hSw); go_simp; (try with_reducible rfl))
                (try simp only [Act.put, List.setIfInBounds_toArray, List.set_cons_zero, List.set_cons_succ])
                refine wpAnyG_pure 4 (v := ?_) (fun _ => trivial) (by simp only [List.getElem?_toArray, List.getElem?_cons_succ, List.getElem?_cons_zero]; rfl) (by kernel_rfl) (fun _ _ _ _ _ h => h) ⟨(by rfl), (by intro c h; cases h), ?_⟩ hHeld ?_
                rotate_left
                focus (intro wS hSw; (try replace hSw := HSF.out wS hSw); (try dsimp only at hSw); go_simp; (try with_reducible rfl))
                (try simp only [Act.put, List.setIfInBounds_toArray, List.set_cons_zero, List.set_cons_succ])
                refine wpAnyG_pure 5 (v := ?_) (fun _ => trivial) (by simp only [List.getElem?_toArray, List.getElem?_cons_succ, List.getElem?_cons_zero]; rfl) (by kernel_rfl) (fun _ _ _ _ _ h => h) ⟨(by rfl), (by intro c h; cases h), ?_⟩ hHeld ?_
                rotate_left
                focus (intro wS hSw; (try replace hSw := HSF.out wS hSw); (try dsimp only at hSw); go_simp; (try with_reducible rfl))
                (try simp only [Act.put, List.setIfInBounds_toArray, List.set_cons_zero, List.set_cons_succ])
                refine wpAnyG_take 6 (v := ?_) (fun _ => trivial) (by simp only [List.getElem?_toArray, List.getElem?_cons_succ, List.getElem?_cons_zero]; rfl) (by kernel_rfl) (fun _ _ _ _ _ h => h) ⟨(by rfl), (by intro c h; cases h), ?_⟩ hHeld ?_
                rotate_left
                focus (intro wS hSw; (try replace hSw := HSF.out wS hSw); (try dsimp only at hSw); go_simp; (try with_reducible rfl))
                (try simp only [Act.put, List.setIfInBounds_toArray, List.set_cons_zero, List.set_cons_succ])
                refine wpAnyG_pure 7 (v := ?_) (fun _ => trivial) (by simp only [List.getElem?_toArray, List.getElem?_cons_succ, List.getElem?_cons_zero]; rfl) (by kernel_rfl) (fun _ _ _ _ _ h => h) ⟨(by rfl), (by intro c h; cases h), ?_⟩ hHeld ?_
                rotate_left
                focus (intro wS hSw; (try replace hSw := HSF.out wS hSw); (try dsimp only at hSw); go_simp; (try with_reducible rfl))
                (try simp only [Act.put, List.setIfInBounds_toArray, List.set_cons_zero, List.set_cons_succ])
                refine wpAnyG_pure 8 (v := ?_) (fun _ => trivial) (by simp only [List.getElem?_toArray, List.getElem?_cons_succ, List.getElem?_cons_zero]; rfl) (by kernel_rfl) (fun _ _ _ _ _ h => h) ⟨(by rfl), (by intro c h; cases h), ?_⟩ hHeld ?_
                rotate_left
                focus (intro wS hSw; (try replace hSw := HSF.out wS hSw); (try dsimp only at hSw); go_simp; (try with_reducible rfl))
                (try simp only [Act.put, List.setIfInBounds_toArray, List.set_cons_zero, List.set_cons_succ])
                refine wpAnyG_take 9 (v := ?_) (fun _ => trivial) (by simp only [List.getElem?_toArray, List.getElem?_cons_succ, List.getElem?_cons_zero]; rfl) (by kernel_rfl) (fun _ _ _ _ _ h => h) ⟨(by rfl), (by intro c h; cases h), ?_⟩ hHeld ?_
                rotate_left
                focus (intro wS hSw; (try replace hSw := HSF.out wS hSw); (try dsimp only at hSw); go_simp; (try with_reducible rfl))
                (try simp only [Act.put, List.setIfInBounds_toArray, List.set_cons_zero, List.set_cons_succ])
                refine wpAnyS_ready [10] (by kernel_rfl) (by simp) (AllReadyS.consG (by simp only [List.getElem?_toArray, List.getElem?_cons_succ, List.getElem?_cons_zero]; rfl) (by rfl) (fun K hK => ?_) AllReadyS.nil)
                refine callS (by intro c h; cases h) (by go_simp; try with_reducible rfl) (PV.out.nb he (0, t, 0, a) GOH.out.i1) ?_
                rintro v1a ⟨hP, hkt⟩
                have PV2 := hid (show PlV w v1a m ⟨dg1, s'.db, [], 0, T2, 2, 0⟩ from hP)
                have X2 := hid (show Blk v1a gx 26 #[.int .i64 0, .int .i64 t, .int .i64 0, .int .i64 a] from hkt gx _ _ (by simp) X.out)
                have hS1 := PV2.out.sq hp' X2.out
                refine hK.out _ _ hS1 ?_
                (try simp only [Act.put, List.setIfInBounds_toArray, List.set_cons_zero, List.set_cons_succ])
                clear hK K hHeld hP hkt PV X
                have PV := PV2; have X := X2
                clear PV2 X2
                have hHeld := hS1
                clear hS1
                refine wpAnyS_ready [11] (by kernel_rfl) (by simp) (AllReadyS.consG (by simp only [List.getElem?_toArray, List.getElem?_cons_succ, List.getElem?_cons_zero]; rfl) (by rfl) (fun K hK => ?_) AllReadyS.nil)
                refine callS (by intro c h; cases h) (by go_simp; try with_reducible rfl) (PV.out.send rfl (by simp) 0 1 (bs (enc4 (0, t, 0, a))) (by unfold Ends; omega)) ?_
                rintro v1b ⟨hP, hkt⟩
                have PV2 := hid (show PlV w v1b m ⟨dg1, s'.db, [(0, 1, bs (enc4 (0, t, 0, a)))], 0, T2, 2, 0⟩ from hP)
                have X2 := hid (show Blk v1b gx 26 #[.int .i64 0, .int .i64 t, .int .i64 0, .int .i64 a] from hkt gx _ _ (by simp) X.out)
                have hS1 := PV2.out.sq hp' X2.out
                refine hK.out _ _ hS1 ?_
                (try simp only [Act.put, List.setIfInBounds_toArray, List.set_cons_zero, List.set_cons_succ])
                clear hK K hHeld hP hkt PV X
                have PV := PV2; have X := X2
                clear PV2 X2
                have hHeld := hS1
                clear hS1
                refine wpAnyG_pure 12 (v := ?_) (fun _ => trivial) (by simp only [List.getElem?_toArray, List.getElem?_cons_succ, List.getElem?_cons_zero]; rfl) (by kernel_rfl) (fun _ _ _ _ _ h => h) ⟨(by rfl), (by intro c h; cases h), ?_⟩ hHeld ?_
                rotate_left
                focus (intro wS hSw; (try replace hSw := HSF.out wS hSw); (try dsimp only at hSw); go_simp; (try with_reducible rfl))
                (try simp only [Act.put, List.setIfInBounds_toArray, List.set_cons_zero, List.set_cons_succ])
                refine wpAnyG_pure 13 (v := ?_) (fun _ => trivial) (by simp only [List.getElem?_toArray, List.getElem?_cons_succ, List.getElem?_cons_zero]; rfl) (by kernel_rfl) (fun _ _ _ _ _ h => h) ⟨(by rfl), (by intro c h; cases h), ?_⟩ hHeld ?_
                rotate_left
                focus (intro wS hSw; (try replace hSw := HSF.out wS hSw); (try dsimp only at hSw); go_simp; (try with_reducible rfl))
                (try simp only [Act.put, List.setIfInBounds_toArray, List.set_cons_zero, List.set_cons_succ])
                refine wpAnyG_pure 14 (v := ?_) (fun _ => trivial) (by simp only [List.getElem?_toArray, List.getElem?_cons_succ, List.getElem?_cons_zero]; rfl) (by kernel_rfl) (fun _ _ _ _ _ h => h) ⟨(by rfl), (by intro c h; cases h), ?_⟩ hHeld ?_
                rotate_left
                focus (intro wS hSw; (try replace hSw := HSF.out wS hSw); (try dsimp only at hSw); go_simp; (try with_reducible rfl))
                (try simp only [Act.put, List.setIfInBounds_toArray, List.set_cons_zero, List.set_cons_succ])
                refine wpAnyG_pure 15 (v := ?_) (fun _ => trivial) (by simp only [List.getElem?_toArray, List.getElem?_cons_succ, List.getElem?_cons_zero]; rfl) (by kernel_rfl) (fun _ _ _ _ _ h => h) ⟨(by rfl), (by intro c h; cases h), ?_⟩ hHeld ?_
                rotate_left
                focus (intro wS hSw; (try replace hSw := HSF.out wS hSw); (try dsimp only at hSw); go_simp; (try with_reducible rfl))
                (try simp only [Act.put, List.setIfInBounds_toArray, List.set_cons_zero, List.set_cons_succ])
                refine wpAnyS_ready [16] (by kernel_rfl) (by simp) (AllReadyS.consG (by simp only [List.getElem?_toArray, List.getElem?_cons_succ, List.getElem?_cons_zero]; rfl) (by rfl) (fun K hK => ?_) AllReadyS.nil)
                refine callS (by intro c h; cases h) (by go_simp; try with_reducible rfl) (PV.out.arr1 hp' he rfl (0, t, 0, a) GOH.out.i1 rfl OKH.out GOH.out.a2) ?_
                rintro v1c ⟨hP, hkt⟩
                have PV2 := hid (show PlV w v1c m ⟨dg1, dh1, [], 0, T2, 2, 0⟩ from hP)
                have X2 := hid (show Blk v1c gx 26 #[.int .i64 0, .int .i64 t, .int .i64 0, .int .i64 a] from hkt gx _ _ (by simp) X.out)
                have hS1 := PV2.out.sq hp' X2.out
                refine hK.out _ _ hS1 ?_
                (try simp only [Act.put, List.setIfInBounds_toArray, List.set_cons_zero, List.set_cons_succ])
                clear hK K hHeld hP hkt PV X
                have PV := PV2; have X := X2
                clear PV2 X2
                have hHeld := hS1
                clear hS1
                refine wpAnyG_pure 17 (v := ?_) (fun _ => trivial) (by simp only [List.getElem?_toArray, List.getElem?_cons_succ, List.getElem?_cons_zero]; rfl) (by kernel_rfl) (fun _ _ _ _ _ h => h) ⟨(by rfl), (by intro c h; cases h), ?_⟩ hHeld ?_
                rotate_left
                focus (intro wS hSw; (try replace hSw := HSF.out wS hSw); (try dsimp only at hSw); go_simp; (try with_reducible rfl))
                (try simp only [Act.put, List.setIfInBounds_toArray, List.set_cons_zero, List.set_cons_succ])
                refine wpAnyG_pure 18 (v := ?_) (fun _ => trivial) (by simp only [List.getElem?_toArray, List.getElem?_cons_succ, List.getElem?_cons_zero]; rfl) (by kernel_rfl) (fun _ _ _ _ _ h => h) ⟨(by rfl), (by intro c h; cases h), ?_⟩ hHeld ?_
                rotate_left
                focus (intro wS hSw; (try replace hSw := HSF.out wS hSw); (try dsimp only at hSw); go_simp; (try with_reducible rfl))
                (try simp only [Act.put, List.setIfInBounds_toArray, List.set_cons_zero, List.set_cons_succ])
                refine wpAnyG_pure 19 (v := ?_) (fun _ => trivial) (by simp only [List.getElem?_toArray, List.getElem?_cons_succ, List.getElem?_cons_zero]; rfl) (by kernel_rfl) (fun _ _ _ _ _ h => h) ⟨(by rfl), (by intro c h; cases h), ?_⟩ hHeld ?_
                rotate_left
                focus (intro wS hSw; (try replace hSw := HSF.out wS hSw); (try dsimp only at hSw); go_simp; (try with_reducible rfl))
                (try simp only [Act.put, List.setIfInBounds_toArray, List.set_cons_zero, List.set_cons_succ])
                refine wpAnyG_pure 20 (v := ?_) (fun _ => trivial) (by simp only [List.getElem?_toArray, List.getElem?_cons_succ, List.getElem?_cons_zero]; rfl) (by kernel_rfl) (fun _ _ _ _ _ h => h) ⟨(by rfl), (by intro c h; cases h), ?_⟩ hHeld ?_
                rotate_left
                focus (intro wS hSw; (try replace hSw := HSF.out wS hSw); (try dsimp only at hSw); go_simp; (try with_reducible rfl))
                (try simp only [Act.put, List.setIfInBounds_toArray, List.set_cons_zero, List.set_cons_succ])
                refine wpAnyG_pure 21 (v := ?_) (fun _ => trivial) (by simp only [List.getElem?_toArray, List.getElem?_cons_succ, List.getElem?_cons_zero]; rfl) (by kernel_rfl) (fun _ _ _ _ _ h => h) ⟨(by rfl), (by intro c h; cases h), ?_⟩ hHeld ?_
                rotate_left
                focus (intro wS hSw; (try replace hSw := HSF.out wS hSw); (try dsimp only at hSw); go_simp; (try with_reducible rfl))
                (try simp only [Act.put, List.setIfInBounds_toArray, List.set_cons_zero, List.set_cons_succ])
                refine wpAnyG_pure 22 (v := ?_) (fun _ => trivial) (by simp only [List.getElem?_toArray, List.getElem?_cons_succ, List.getElem?_cons_zero]; rfl) (by kernel_rfl) (fun _ _ _ _ _ h => h) ⟨(by rfl), (by intro c h; cases h), ?_⟩ hHeld ?_
                rotate_left
                focus (intro wS hSw; (try replace hSw := HSF.out wS hSw); (try dsimp only at hSw); go_simp; (try with_reducible rfl))
                (try simp only [Act.put, List.setIfInBounds_toArray, List.set_cons_zero, List.set_cons_succ])
                refine wpAnyG_take 23 (v := ?_) (fun _ => trivial) (by simp only [List.getElem?_toArray, List.getElem?_cons_succ, List.getElem?_cons_zero]; rfl) (by kernel_rfl) (fun _ _ _ _ _ h => h) ⟨(by rfl), (by intro c h; cases h), ?_⟩ hHeld ?_
                rotate_left
                focus (intro wS hSw; (try replace hSw := HSF.out wS hSw); (try dsimp only at hSw); go_simp; (try with_reducible rfl))
                (try simp only [Act.put, List.setIfInBounds_toArray, List.set_cons_zero, List.set_cons_succ])
                refine wpAnyG_pure 24 (v := ?_) (fun _ => trivial) (by simp only [List.getElem?_toArray, List.getElem?_cons_succ, List.getElem?_cons_zero]; rfl) (by kernel_rfl) (fun _ _ _ _ _ h => h) ⟨(by rfl), (by intro c h; cases h), ?_⟩ hHeld ?_
                rotate_left
                focus (intro wS hSw; (try replace hSw := HSF.out wS hSw); (try dsimp only at hSw); go_simp; (try with_reducible rfl))
                (try simp only [Act.put, List.setIfInBounds_toArray, List.set_cons_zero, List.set_cons_succ])
                refine wpAnyG_pure 25 (v := ?_) (fun _ => trivial) (by simp only [List.getElem?_toArray, List.getElem?_cons_succ, List.getElem?_cons_zero]; rfl) (by kernel_rfl) (fun _ _ _ _ _ h => h) ⟨(by rfl), (by intro c h; cases h), ?_⟩ hHeld ?_
                rotate_left
                focus (intro wS hSw; (try replace hSw := HSF.out wS hSw); (try dsimp only at hSw); go_simp; (try with_reducible rfl))
                (try simp only [Act.put, List.setIfInBounds_toArray, List.set_cons_zero, List.set_cons_succ])
                refine wpAnyG_take 26 (v := ?_) (fun _ => trivial) (by simp only [List.getElem?_toArray, List.getElem?_cons_succ, List.getElem?_cons_zero]; rfl) (by kernel_rfl) (fun _ _ _ _ _ h => h) ⟨(by rfl), (by intro c h; cases h), ?_⟩ hHeld ?_
                rotate_left
                focus (intro wS hSw; (try replace hSw := HSF.out wS hSw); (try dsimp only at hSw); go_simp; (try with_reducible rfl))
                (try simp only [Act.put, List.setIfInBounds_toArray, List.set_cons_zero, List.set_cons_succ])
                refine wpAnyG_pure 28 (v := ?_) (fun _ => trivial) (by simp only [List.getElem?_toArray, List.getElem?_cons_succ, List.getElem?_cons_zero]; rfl) (by kernel_rfl) (fun _ _ _ _ _ h => h) ⟨(by rfl), (by intro c h; cases h), ?_⟩ hHeld ?_
                rotate_left
                focus (intro wS hSw; (try replace hSw := HSF.out wS hSw); (try dsimp only at hSw); go_simp; (try with_reducible rfl))
                (try simp only [Act.put, List.setIfInBounds_toArray, List.set_cons_zero, List.set_cons_succ])
                refine wpAnyS_ready [27] (by kernel_rfl) (by simp) (AllReadyS.consG (by simp only [List.getElem?_toArray, List.getElem?_cons_succ, List.getElem?_cons_zero]; rfl) (by rfl) (fun K hK => ?_) AllReadyS.nil)
                refine callV (by intro c h; cases h) (by go_simp; try with_reducible rfl) (wish_call PV.out.lb GOH.out.o2) ?_
                rintro u8 v2 ⟨A8, c8, rfl, hs8, hB8⟩
                have PV2 := hid (show PlV w v2 m ⟨dg1, dh1, [], 0, T2, 2, 0⟩ from PV.out.step hB8)
                have X2 := hid (show Blk v2 gx 26 #[.int .i64 0, .int .i64 t, .int .i64 0, .int .i64 a] from X.out.below hB8 X.out.lt)
                have hS1 := PV2.out.sq hp' X2.out
                have HHAS := hid (lhas_any A8 c8 (upToP (fun z => (dh1.hs z).2.2) dh1.home.length) (t : Int) v2 (by have := upToP_le (fun z => (dh1.hs z).2.2) dh1.home.length; have := GOH.out.o2.len; omega) hs8)
                have hcon : hasB (upToP (fun z => (dh1.hs z).2.2) dh1.home.length) (t : Int) = true := by
                  rw [show hasB (upToP (fun z => (dh1.hs z).2.2) dh1.home.length) (t : Int) = (upToP (fun z => (dh1.hs z).2.2) dh1.home.length).contains (t : Int) from rfl, upToP_has, GOH.out.a3, decide_eq_true (by rw [HLEN_dh1.out]; omega)]; rfl
                rw [hcon] at HHAS
                generalize upToP (fun z => (dh1.hs z).2.2) dh1.home.length = UL at *
                refine hK.out _ _ hS1 ?_
                (try simp only [Act.put, List.setIfInBounds_toArray, List.set_cons_zero, List.set_cons_succ])
                clear hK K hHeld hB8 hs8 hcon PV X
                have PV := PV2; have X := X2
                clear PV2 X2
                have hHeld := hS1
                clear hS1
                refine wpAnyS_ready [29] (by kernel_rfl) (by simp) (AllReadyS.consG (by simp only [List.getElem?_toArray, List.getElem?_cons_succ, List.getElem?_cons_zero]; rfl) (by rfl) (fun K hK => ?_) AllReadyS.nil)
                refine callS (by intro c h; cases h) (by go_simp; try with_reducible rfl) (calls_kt HHAS.out PV.out) ?_
                rintro v2h ⟨hP, hkt⟩
                have PV2 := hid (show PlV w v2h m ⟨dg1, dh1, [], 0, T2, 2, 0⟩ from hP)
                have X2 := hid (show Blk v2h gx 26 #[.int .i64 0, .int .i64 t, .int .i64 0, .int .i64 a] from hkt gx _ _ (by simp) X.out)
                have hS1 := PV2.out.sq hp' X2.out
                refine hK.out _ _ hS1 ?_
                (try simp only [Act.put, List.setIfInBounds_toArray, List.set_cons_zero, List.set_cons_succ])
                clear hK K hHeld hP hkt PV X
                have PV := PV2; have X := X2
                clear PV2 X2
                have hHeld := hS1
                clear hS1
                clear HHAS
                refine wpAnyG_pure 30 (v := ?_) (fun _ => trivial) (by simp only [List.getElem?_toArray, List.getElem?_cons_succ, List.getElem?_cons_zero]; rfl) (by kernel_rfl) (fun _ _ _ _ _ h => h) ⟨(by rfl), (by intro c h; cases h), ?_⟩ hHeld ?_
                rotate_left
                focus (intro wS hSw; (try replace hSw := HSF.out wS hSw); (try dsimp only at hSw); go_simp; (try with_reducible rfl))
                (try simp only [Act.put, List.setIfInBounds_toArray, List.set_cons_zero, List.set_cons_succ])
                refine wpAnyG_pure 31 (v := ?_) (fun _ => trivial) (by simp only [List.getElem?_toArray, List.getElem?_cons_succ, List.getElem?_cons_zero]; rfl) (by kernel_rfl) (fun _ _ _ _ _ h => h) ⟨(by rfl), (by intro c h; cases h), ?_⟩ hHeld ?_
                rotate_left
                focus (intro wS hSw; (try replace hSw := HSF.out wS hSw); (try dsimp only at hSw); go_simp; (try with_reducible rfl))
                (try simp only [Act.put, List.setIfInBounds_toArray, List.set_cons_zero, List.set_cons_succ])
                refine wpAnyS_done (by kernel_rfl) ?_
                clear hHeld HSF
                go_wp2_with fail
                go_meet
                exact ⟨rfl, PV.out, X.out⟩
              obtain ⟨rfl, hPV, hX⟩ := hcut
              clear PV X
              have PV := hid hPV
              have X := hid hX
              clear hPV hX
              have hcx0 := PV.out.ck hp' (by dsimp only; omega) (by simp) (by simp) 1 (by simp)
              rw [show (⟨dg1, dh1, [], 0, T2, 2, 0⟩ : LS).clock 1 = ch from HCH.out.symm] at hcx0
              have hcx := hid hcx0
              clear hcx0
              obtain ⟨f0, f1, f2, f3, f4, f5⟩ := PV.out.cc hp'
              have y0 := X.out.cell 0; have y1 := X.out.cell 1; have y2 := X.out.cell 2; have y3 := X.out.cell 3; have fy := X.out.frozen; have yl := X.out.lt
              simp at y0 y1 y2 y3
              go_wp2_with fail
              refine hcx.out.mono ?_
              clear hcx
              rintro e u1 ⟨rfl, hPV, hkt⟩
              have X2 := hid (hkt gx _ _ (by simp) X.out)
              have PV2 := hid (show PlV w u1 m ⟨dg1, dh1, [], 0, T2, 2, 0⟩ from hPV)
              clear hPV hkt PV X f0 f1 f2 f3 f4 f5 y0 y1 y2 y3 fy yl
              have PV := PV2; have X := X2
              clear PV2 X2
              have wr1 : wrap64 (ch + tm) = ch + tm := wrap64_in _ (by omega)
              have hI2 : I64 (ch + tm) := by constructor <;> omega
              have hnw : -4398046511104 ≤ ch ∧ ch ≤ 4398046511104 := by omega
              have hc0 := give_f PV.out.lb GOH.out.o2 (z := (t : Int)) (unt := ch + tm) (now := ch) hIt hI2 hnw
              rw [GOH.out.b1] at hc0
              have hc := hid hc0
              clear hc0
              simp only [noteV, noteC] at hc
              obtain ⟨f0, f1, f2, f3, f4, f5⟩ := PV.out.cc hp'
              have y0 := X.out.cell 0; have y1 := X.out.cell 1; have y2 := X.out.cell 2; have y3 := X.out.cell 3; have fy := X.out.frozen; have yl := X.out.lt
              simp at y0 y1 y2 y3
              go_wp2_with fail
              refine hc.out.mono ?_
              rintro e u2 ⟨rfl, hL, q, hq, hg⟩
              obtain ⟨hPV, hkt⟩ := PV.out.desk1 hq hL hg
              have X2 := hid (hkt gx _ _ (by simp) X.out)
              have PV2 := hid (show PlV w u2 m ⟨dg1, dh2, [], 0, T2, 2, 0⟩ from hPV)
              clear hc hL hq hg hPV hkt PV X f0 f1 f2 f3 f4 f5 y0 y1 y2 y3 fy yl
              have PV := PV2; have X := X2
              clear PV2 X2
              obtain ⟨f0, f1, f2, f3, f4, f5⟩ := PV.out.cc hp'
              have y0 := X.out.cell 0; have y1 := X.out.cell 1; have y2 := X.out.cell 2; have y3 := X.out.cell 3; have fy := X.out.frozen; have yl := X.out.lt
              simp at y0 y1 y2 y3
              go_upto_region 22 with fail
              have GX := gr_tr (gr_tr (gr_tr (gr_set u2 gx 0 (.int .i64 1)) (gr_set _ gx 1 (.int .i64 (t : Int)))) (gr_set _ gx 2 (.int .i64 ((ch + tm))))) (gr_set _ gx 3 (.int .i64 no))
              have PV2 := hid (PV.out.box X.out hgx.out GX)
              have X2 := hid ((((X.out.set_ 0 (.int .i64 1)).set_ 1 (.int .i64 (t : Int))).set_ 2 (.int .i64 ((ch + tm)))).set_ 3 (.int .i64 no))
              simp at X2
              clear GX PV X
              have PV := PV2; have X := X2
              clear PV2 X2
              generalize ((((u2.setCell ⟨gx, 0, none⟩ (.int .i64 1)).setCell ⟨gx, 1, none⟩ (.int .i64 (t : Int))).setCell ⟨gx, 2, none⟩ (.int .i64 ((ch + tm)))).setCell ⟨gx, 3, none⟩ (.int .i64 no)) = u3 at *
              clear f0 f1 f2 f3 f4 f5 y0 y1 y2 y3 fy yl
              go_cut [229] (fun v wx => v = .bool false ∧ PlV w wx m ⟨dg2, dh2, [], 0, T2, 2, 0⟩ ∧ Blk wx gx 26 #[.int .i64 1, .int .i64 t, .int .i64 (ch + tm), .int .i64 no])
              case first =>
               as_aux_lemma =>
                have PV2 := hid (show PlV w u3.drew m ⟨dg1, dh2, [], 0, T2, 2, 0⟩ from PV.out.step (by (repeat (first | exact Below.refl _ _ | assumption | refine below_drewN ?_ _ | refine Below.drew ?_ | refine Below.alloc ?_ (by (try simp); (try omega)) _ | refine Below.setCell ?_ (by (try simp); (try omega)) _))))
                have X2 := hid (show Blk u3.drew gx 26 #[.int .i64 1, .int .i64 t, .int .i64 (ch + tm), .int .i64 no] from X.out.drew)
                have hS0 := PV2.out.sq hp' X2.out
                have HSF := hid (fun (wq : World) (hq : SQ px m.gd m.nn m.A.b m.B.b gx #[.int .i64 1, .int .i64 t, .int .i64 (ch + tm), .int .i64 no] wq) => hq.facts)
                refine wpIn_wide.1 (wpIn_region_S (n := 0) (SQ px m.gd m.nn m.A.b m.B.b gx #[.int .i64 1, .int .i64 t, .int .i64 (ch + tm), .int .i64 no]) [] (by kernel_rfl) hS0 (fun hHeld => ?_))
                clear hS0 PV X
                have PV := PV2; have X := X2
                clear PV2 X2
                generalize u3.drew = x0 at *
                refine wpAnyG_pure 0 (v := ?_) (fun _ => trivial) (by simp only [List.getElem?_toArray, List.getElem?_cons_succ, List.getElem?_cons_zero]; rfl) (by kernel_rfl) (fun _ _ _ _ _ h => h) ⟨(by rfl), (by intro c h; cases h), ?_⟩ hHeld ?_
                rotate_left
                focus (intro wS hSw; (try replace hSw := HSF.out wS hSw); (try dsimp only at hSw); go_simp; (try with_reducible rfl))
                (try simp only [Act.put, List.setIfInBounds_toArray, List.set_cons_zero, List.set_cons_succ])
                refine wpAnyG_pure 1 (v := ?_) (fun _ => trivial) (by simp only [List.getElem?_toArray, List.getElem?_cons_succ, List.getElem?_cons_zero]; rfl) (by kernel_rfl) (fun _ _ _ _ _ h => h) ⟨(by rfl), (by intro c h; cases h), ?_⟩ hHeld ?_
                rotate_left
                focus (intro wS hSw; (try replace hSw := HSF.out wS hSw); (try dsimp only at hSw); go_simp; (try with_reducible rfl))
                (try simp only [Act.put, List.setIfInBounds_toArray, List.set_cons_zero, List.set_cons_succ])
                refine wpAnyG_pure 2 (v := ?_) (fun _ => trivial) (by simp only [List.getElem?_toArray, List.getElem?_cons_succ, List.getElem?_cons_zero]; rfl) (by kernel_rfl) (fun _ _ _ _ _ h => h) ⟨(by rfl), (by intro c h; cases h), ?_⟩ hHeld ?_
                rotate_left
                focus (intro wS hSw; (try replace hSw := HSF.out wS hSw); (try dsimp only at hSw); go_simp; (try with_reducible rfl))
                (try simp only [Act.put, List.setIfInBounds_toArray, List.set_cons_zero, List.set_cons_succ])
                refine wpAnyG_pure 3 (v := ?_) (fun _ => trivial) (by simp only [List.getElem?_toArray, List.getElem?_cons_succ, List.getElem?_cons_zero]; rfl) (by kernel_rfl) (fun _ _ _ _ _ h => h) ⟨(by rfl), (by intro c h; cases h), ?_⟩ hHeld ?_
                rotate_left
                focus (intro wS hSw; (try replace hSw := HSF.out wS hSw); (try dsimp only at hSw); go_simp; (try with_reducible rfl))
                (try simp only [Act.put, List.setIfInBounds_toArray, List.set_cons_zero, List.set_cons_succ])
                refine wpAnyG_pure 4 (v := ?_) (fun _ => trivial) (by simp only [List.getElem?_toArray, List.getElem?_cons_succ, List.getElem?_cons_zero]; rfl) (by kernel_rfl) (fun _ _ _ _ _ h => h) ⟨(by rfl), (by intro c h; cases h), ?_⟩ hHeld ?_
                rotate_left
                focus (intro wS hSw; (try replace hSw := HSF.out wS hSw); (try dsimp only at hSw); go_simp; (try with_reducible rfl))
                (try simp only [Act.put, List.setIfInBounds_toArray, List.set_cons_zero, List.set_cons_succ])
                refine wpAnyG_pure 5 (v := ?_) (fun _ => trivial) (by simp only [List.getElem?_toArray, List.getElem?_cons_succ, List.getElem?_cons_zero]; rfl) (by kernel_rfl) (fun _ _ _ _ _ h => h) ⟨(by rfl), (by intro c h; cases h), ?_⟩ hHeld ?_
                rotate_left
                focus (intro wS hSw; (try replace hSw := HSF.out wS hSw); (try dsimp only at hSw); go_simp; (try with_reducible rfl))
                (try simp only [Act.put, List.setIfInBounds_toArray, List.set_cons_zero, List.set_cons_succ])
                refine wpAnyG_take 6 (v := ?_) (fun _ => trivial) (by simp only [List.getElem?_toArray, List.getElem?_cons_succ, List.getElem?_cons_zero]; rfl) (by kernel_rfl) (fun _ _ _ _ _ h => h) ⟨(by rfl), (by intro c h; cases h), ?_⟩ hHeld ?_
                rotate_left
                focus (intro wS hSw; (try replace hSw := HSF.out wS hSw); (try dsimp only at hSw); go_simp; (try with_reducible rfl))
                (try simp only [Act.put, List.setIfInBounds_toArray, List.set_cons_zero, List.set_cons_succ])
                refine wpAnyG_pure 7 (v := ?_) (fun _ => trivial) (by simp only [List.getElem?_toArray, List.getElem?_cons_succ, List.getElem?_cons_zero]; rfl) (by kernel_rfl) (fun _ _ _ _ _ h => h) ⟨(by rfl), (by intro c h; cases h), ?_⟩ hHeld ?_
                rotate_left
                focus (intro wS hSw; (try replace hSw := HSF.out wS hSw); (try dsimp only at hSw); go_simp; (try with_reducible rfl))
                (try simp only [Act.put, List.setIfInBounds_toArray, List.set_cons_zero, List.set_cons_succ])
                refine wpAnyG_pure 8 (v := ?_) (fun _ => trivial) (by simp only [List.getElem?_toArray, List.getElem?_cons_succ, List.getElem?_cons_zero]; rfl) (by kernel_rfl) (fun _ _ _ _ _ h => h) ⟨(by rfl), (by intro c h; cases h), ?_⟩ hHeld ?_
                rotate_left
                focus (intro wS hSw; (try replace hSw := HSF.out wS hSw); (try dsimp only at hSw); go_simp; (try with_reducible rfl))
                (try simp only [Act.put, List.setIfInBounds_toArray, List.set_cons_zero, List.set_cons_succ])
                refine wpAnyG_take 9 (v := ?_) (fun _ => trivial) (by simp only [List.getElem?_toArray, List.getElem?_cons_succ, List.getElem?_cons_zero]; rfl) (by kernel_rfl) (fun _ _ _ _ _ h => h) ⟨(by rfl), (by intro c h; cases h), ?_⟩ hHeld ?_
                rotate_left
                focus (intro wS hSw; (try replace hSw := HSF.out wS hSw); (try dsimp only at hSw); go_simp; (try with_reducible rfl))
                (try simp only [Act.put, List.setIfInBounds_toArray, List.set_cons_zero, List.set_cons_succ])
                refine wpAnyS_ready [10] (by kernel_rfl) (by simp) (AllReadyS.consG (by simp only [List.getElem?_toArray, List.getElem?_cons_succ, List.getElem?_cons_zero]; rfl) (by rfl) (fun K hK => ?_) AllReadyS.nil)
                refine callS (by intro c h; cases h) (by go_simp; try with_reducible rfl) (PV.out.nb he (1, t, (ch + tm), no) GOH.out.i2) ?_
                rintro x1a ⟨hP, hkt⟩
                have PV2 := hid (show PlV w x1a m ⟨dg1, dh2, [], 0, T2, 2, 0⟩ from hP)
                have X2 := hid (show Blk x1a gx 26 #[.int .i64 1, .int .i64 t, .int .i64 (ch + tm), .int .i64 no] from hkt gx _ _ (by simp) X.out)
                have hS1 := PV2.out.sq hp' X2.out
                refine hK.out _ _ hS1 ?_
                (try simp only [Act.put, List.setIfInBounds_toArray, List.set_cons_zero, List.set_cons_succ])
                clear hK K hHeld hP hkt PV X
                have PV := PV2; have X := X2
                clear PV2 X2
                have hHeld := hS1
                clear hS1
                refine wpAnyS_ready [11] (by kernel_rfl) (by simp) (AllReadyS.consG (by simp only [List.getElem?_toArray, List.getElem?_cons_succ, List.getElem?_cons_zero]; rfl) (by rfl) (fun K hK => ?_) AllReadyS.nil)
                refine callS (by intro c h; cases h) (by go_simp; try with_reducible rfl) (PV.out.send rfl (by simp) 1 0 (bs (enc4 (1, t, (ch + tm), no))) (by unfold Ends; omega)) ?_
                rintro x1b ⟨hP, hkt⟩
                have PV2 := hid (show PlV w x1b m ⟨dg1, dh2, [(1, 0, bs (enc4 (1, t, (ch + tm), no)))], 0, T2, 2, 0⟩ from hP)
                have X2 := hid (show Blk x1b gx 26 #[.int .i64 1, .int .i64 t, .int .i64 (ch + tm), .int .i64 no] from hkt gx _ _ (by simp) X.out)
                have hS1 := PV2.out.sq hp' X2.out
                refine hK.out _ _ hS1 ?_
                (try simp only [Act.put, List.setIfInBounds_toArray, List.set_cons_zero, List.set_cons_succ])
                clear hK K hHeld hP hkt PV X
                have PV := PV2; have X := X2
                clear PV2 X2
                have hHeld := hS1
                clear hS1
                refine wpAnyG_pure 12 (v := ?_) (fun _ => trivial) (by simp only [List.getElem?_toArray, List.getElem?_cons_succ, List.getElem?_cons_zero]; rfl) (by kernel_rfl) (fun _ _ _ _ _ h => h) ⟨(by rfl), (by intro c h; cases h), ?_⟩ hHeld ?_
                rotate_left
                focus (intro wS hSw; (try replace hSw := HSF.out wS hSw); (try dsimp only at hSw); go_simp; (try with_reducible rfl))
                (try simp only [Act.put, List.setIfInBounds_toArray, List.set_cons_zero, List.set_cons_succ])
                refine wpAnyG_pure 13 (v := ?_) (fun _ => trivial) (by simp only [List.getElem?_toArray, List.getElem?_cons_succ, List.getElem?_cons_zero]; rfl) (by kernel_rfl) (fun _ _ _ _ _ h => h) ⟨(by rfl), (by intro c h; cases h), ?_⟩ hHeld ?_
                rotate_left
                focus (intro wS hSw; (try replace hSw := HSF.out wS hSw); (try dsimp only at hSw); go_simp; (try with_reducible rfl))
                (try simp only [Act.put, List.setIfInBounds_toArray, List.set_cons_zero, List.set_cons_succ])
                refine wpAnyG_pure 14 (v := ?_) (fun _ => trivial) (by simp only [List.getElem?_toArray, List.getElem?_cons_succ, List.getElem?_cons_zero]; rfl) (by kernel_rfl) (fun _ _ _ _ _ h => h) ⟨(by rfl), (by intro c h; cases h), ?_⟩ hHeld ?_
                rotate_left
                focus (intro wS hSw; (try replace hSw := HSF.out wS hSw); (try dsimp only at hSw); go_simp; (try with_reducible rfl))
                (try simp only [Act.put, List.setIfInBounds_toArray, List.set_cons_zero, List.set_cons_succ])
                refine wpAnyG_pure 15 (v := ?_) (fun _ => trivial) (by simp only [List.getElem?_toArray, List.getElem?_cons_succ, List.getElem?_cons_zero]; rfl) (by kernel_rfl) (fun _ _ _ _ _ h => h) ⟨(by rfl), (by intro c h; cases h), ?_⟩ hHeld ?_
                rotate_left
                focus (intro wS hSw; (try replace hSw := HSF.out wS hSw); (try dsimp only at hSw); go_simp; (try with_reducible rfl))
                (try simp only [Act.put, List.setIfInBounds_toArray, List.set_cons_zero, List.set_cons_succ])
                refine wpAnyS_ready [16] (by kernel_rfl) (by simp) (AllReadyS.consG (by simp only [List.getElem?_toArray, List.getElem?_cons_succ, List.getElem?_cons_zero]; rfl) (by rfl) (fun K hK => ?_) AllReadyS.nil)
                refine callS (by intro c h; cases h) (by go_simp; try with_reducible rfl) (PV.out.arr0 hp' he rfl (1, t, (ch + tm), no) GOH.out.i2 rfl GOH.out.o1 GOH.out.b2) ?_
                rintro x1c ⟨hP, hkt⟩
                have PV2 := hid (show PlV w x1c m ⟨dg2, dh2, [], 0, T2, 2, 0⟩ from hP)
                have X2 := hid (show Blk x1c gx 26 #[.int .i64 1, .int .i64 t, .int .i64 (ch + tm), .int .i64 no] from hkt gx _ _ (by simp) X.out)
                have hS1 := PV2.out.sq hp' X2.out
                refine hK.out _ _ hS1 ?_
                (try simp only [Act.put, List.setIfInBounds_toArray, List.set_cons_zero, List.set_cons_succ])
                clear hK K hHeld hP hkt PV X
                have PV := PV2; have X := X2
                clear PV2 X2
                have hHeld := hS1
                clear hS1
                refine wpAnyG_pure 17 (v := ?_) (fun _ => trivial) (by simp only [List.getElem?_toArray, List.getElem?_cons_succ, List.getElem?_cons_zero]; rfl) (by kernel_rfl) (fun _ _ _ _ _ h => h) ⟨(by rfl), (by intro c h; cases h), ?_⟩ hHeld ?_
                rotate_left
                focus (intro wS hSw; (try replace hSw := HSF.out wS hSw); (try dsimp only at hSw); go_simp; (try with_reducible rfl))
                (try simp only [Act.put, List.setIfInBounds_toArray, List.set_cons_zero, List.set_cons_succ])
                refine wpAnyG_pure 18 (v := ?_) (fun _ => trivial) (by simp only [List.getElem?_toArray, List.getElem?_cons_succ, List.getElem?_cons_zero]; rfl) (by kernel_rfl) (fun _ _ _ _ _ h => h) ⟨(by rfl), (by intro c h; cases h), ?_⟩ hHeld ?_
                rotate_left
                focus (intro wS hSw; (try replace hSw := HSF.out wS hSw); (try dsimp only at hSw); go_simp; (try with_reducible rfl))
                (try simp only [Act.put, List.setIfInBounds_toArray, List.set_cons_zero, List.set_cons_succ])
                refine wpAnyG_pure 19 (v := ?_) (fun _ => trivial) (by simp only [List.getElem?_toArray, List.getElem?_cons_succ, List.getElem?_cons_zero]; rfl) (by kernel_rfl) (fun _ _ _ _ _ h => h) ⟨(by rfl), (by intro c h; cases h), ?_⟩ hHeld ?_
                rotate_left
                focus (intro wS hSw; (try replace hSw := HSF.out wS hSw); (try dsimp only at hSw); go_simp; (try with_reducible rfl))
                (try simp only [Act.put, List.setIfInBounds_toArray, List.set_cons_zero, List.set_cons_succ])
                refine wpAnyG_pure 20 (v := ?_) (fun _ => trivial) (by simp only [List.getElem?_toArray, List.getElem?_cons_succ, List.getElem?_cons_zero]; rfl) (by kernel_rfl) (fun _ _ _ _ _ h => h) ⟨(by rfl), (by intro c h; cases h), ?_⟩ hHeld ?_
                rotate_left
                focus (intro wS hSw; (try replace hSw := HSF.out wS hSw); (try dsimp only at hSw); go_simp; (try with_reducible rfl))
                (try simp only [Act.put, List.setIfInBounds_toArray, List.set_cons_zero, List.set_cons_succ])
                refine wpAnyG_pure 21 (v := ?_) (fun _ => trivial) (by simp only [List.getElem?_toArray, List.getElem?_cons_succ, List.getElem?_cons_zero]; rfl) (by kernel_rfl) (fun _ _ _ _ _ h => h) ⟨(by rfl), (by intro c h; cases h), ?_⟩ hHeld ?_
                rotate_left
                focus (intro wS hSw; (try replace hSw := HSF.out wS hSw); (try dsimp only at hSw); go_simp; (try with_reducible rfl))
                (try simp only [Act.put, List.setIfInBounds_toArray, List.set_cons_zero, List.set_cons_succ])
                refine wpAnyG_pure 22 (v := ?_) (fun _ => trivial) (by simp only [List.getElem?_toArray, List.getElem?_cons_succ, List.getElem?_cons_zero]; rfl) (by kernel_rfl) (fun _ _ _ _ _ h => h) ⟨(by rfl), (by intro c h; cases h), ?_⟩ hHeld ?_
                rotate_left
                focus (intro wS hSw; (try replace hSw := HSF.out wS hSw); (try dsimp only at hSw); go_simp; (try with_reducible rfl))
                (try simp only [Act.put, List.setIfInBounds_toArray, List.set_cons_zero, List.set_cons_succ])
                refine wpAnyG_take 23 (v := ?_) (fun _ => trivial) (by simp only [List.getElem?_toArray, List.getElem?_cons_succ, List.getElem?_cons_zero]; rfl) (by kernel_rfl) (fun _ _ _ _ _ h => h) ⟨(by rfl), (by intro c h; cases h), ?_⟩ hHeld ?_
                rotate_left
                focus (intro wS hSw; (try replace hSw := HSF.out wS hSw); (try dsimp only at hSw); go_simp; (try with_reducible rfl))
                (try simp only [Act.put, List.setIfInBounds_toArray, List.set_cons_zero, List.set_cons_succ])
                refine wpAnyG_pure 24 (v := ?_) (fun _ => trivial) (by simp only [List.getElem?_toArray, List.getElem?_cons_succ, List.getElem?_cons_zero]; rfl) (by kernel_rfl) (fun _ _ _ _ _ h => h) ⟨(by rfl), (by intro c h; cases h), ?_⟩ hHeld ?_
                rotate_left
                focus (intro wS hSw; (try replace hSw := HSF.out wS hSw); (try dsimp only at hSw); go_simp; (try with_reducible rfl))
                (try simp only [Act.put, List.setIfInBounds_toArray, List.set_cons_zero, List.set_cons_succ])
                refine wpAnyG_pure 25 (v := ?_) (fun _ => trivial) (by simp only [List.getElem?_toArray, List.getElem?_cons_succ, List.getElem?_cons_zero]; rfl) (by kernel_rfl) (fun _ _ _ _ _ h => h) ⟨(by rfl), (by intro c h; cases h), ?_⟩ hHeld ?_
                rotate_left
                focus (intro wS hSw; (try replace hSw := HSF.out wS hSw); (try dsimp only at hSw); go_simp; (try with_reducible rfl))
                (try simp only [Act.put, List.setIfInBounds_toArray, List.set_cons_zero, List.set_cons_succ])
                refine wpAnyG_take 26 (v := ?_) (fun _ => trivial) (by simp only [List.getElem?_toArray, List.getElem?_cons_succ, List.getElem?_cons_zero]; rfl) (by kernel_rfl) (fun _ _ _ _ _ h => h) ⟨(by rfl), (by intro c h; cases h), ?_⟩ hHeld ?_
                rotate_left
                focus (intro wS hSw; (try replace hSw := HSF.out wS hSw); (try dsimp only at hSw); go_simp; (try with_reducible rfl))
                (try simp only [Act.put, List.setIfInBounds_toArray, List.set_cons_zero, List.set_cons_succ])
                refine wpAnyG_pure 27 (v := ?_) (fun _ => trivial) (by simp only [List.getElem?_toArray, List.getElem?_cons_succ, List.getElem?_cons_zero]; rfl) (by kernel_rfl) (fun _ _ _ _ _ h => h) ⟨(by rfl), (by intro c h; cases h), ?_⟩ hHeld ?_
                rotate_left
                focus (intro wS hSw; (try replace hSw := HSF.out wS hSw); (try dsimp only at hSw); go_simp; (try with_reducible rfl))
                (try simp only [Act.put, List.setIfInBounds_toArray, List.set_cons_zero, List.set_cons_succ])
                refine wpAnyG_pure 28 (v := ?_) (fun _ => trivial) (by simp only [List.getElem?_toArray, List.getElem?_cons_succ, List.getElem?_cons_zero]; rfl) (by kernel_rfl) (fun _ _ _ _ _ h => h) ⟨(by rfl), (by intro c h; cases h), ?_⟩ hHeld ?_
                rotate_left
                focus (intro wS hSw; (try replace hSw := HSF.out wS hSw); (try dsimp only at hSw); go_simp; (try with_reducible rfl))
                (try simp only [Act.put, List.setIfInBounds_toArray, List.set_cons_zero, List.set_cons_succ])
                refine wpAnyG_pure 29 (v := ?_) (fun _ => trivial) (by simp only [List.getElem?_toArray, List.getElem?_cons_succ, List.getElem?_cons_zero]; rfl) (by kernel_rfl) (fun _ _ _ _ _ h => h) ⟨(by rfl), (by intro c h; cases h), ?_⟩ hHeld ?_
                rotate_left
                focus (intro wS hSw; (try replace hSw := HSF.out wS hSw); (try dsimp only at hSw); go_simp; (try with_reducible rfl))
                (try simp only [Act.put, List.setIfInBounds_toArray, List.set_cons_zero, List.set_cons_succ])
                have hcx := PV.out.ck hp' (by dsimp only; omega) (by simp) (by simp) 0 (by simp)
                rw [show (⟨dg2, dh2, [], 0, T2, 2, 0⟩ : LS).clock 0 = cg from HCG.out.symm] at hcx
                refine wpAnyS_ready [30] (by kernel_rfl) (by simp) (AllReadyS.consG (by simp only [List.getElem?_toArray, List.getElem?_cons_succ, List.getElem?_cons_zero]; rfl) (by rfl) (fun K hK => ?_) AllReadyS.nil)
                refine callS (by intro c h; cases h) (by go_simp; try with_reducible rfl) (hcx) ?_
                rintro x2 ⟨hP, hkt⟩
                have PV2 := hid (show PlV w x2 m ⟨dg2, dh2, [], 0, T2, 2, 0⟩ from hP)
                have X2 := hid (show Blk x2 gx 26 #[.int .i64 1, .int .i64 t, .int .i64 (ch + tm), .int .i64 no] from hkt gx _ _ (by simp) X.out)
                have hS1 := PV2.out.sq hp' X2.out
                refine hK.out _ _ hS1 ?_
                (try simp only [Act.put, List.setIfInBounds_toArray, List.set_cons_zero, List.set_cons_succ])
                clear hK K hHeld hP hkt PV X
                have PV := PV2; have X := X2
                clear PV2 X2
                have hHeld := hS1
                clear hS1
                clear hcx
                have hcx := holds_any PV.out.la GOH.out.o4 (z := (t : Int)) (now := cg) hIt (by omega)
                rw [GOH.out.b3] at hcx
                refine wpAnyS_ready [31] (by kernel_rfl) (by simp) (AllReadyS.consG (by simp only [List.getElem?_toArray, List.getElem?_cons_succ, List.getElem?_cons_zero]; rfl) (by rfl) (fun K hK => ?_) AllReadyS.nil)
                refine callS (by intro c h; cases h) (by go_simp; try with_reducible rfl) (calls_kt hcx PV.out) ?_
                rintro x3 ⟨hP, hkt⟩
                have PV2 := hid (show PlV w x3 m ⟨dg2, dh2, [], 0, T2, 2, 0⟩ from hP)
                have X2 := hid (show Blk x3 gx 26 #[.int .i64 1, .int .i64 t, .int .i64 (ch + tm), .int .i64 no] from hkt gx _ _ (by simp) X.out)
                have hS1 := PV2.out.sq hp' X2.out
                refine hK.out _ _ hS1 ?_
                (try simp only [Act.put, List.setIfInBounds_toArray, List.set_cons_zero, List.set_cons_succ])
                clear hK K hHeld hP hkt PV X
                have PV := PV2; have X := X2
                clear PV2 X2
                have hHeld := hS1
                clear hS1
                clear hcx
                refine wpAnyG_pure 32 (v := ?_) (fun _ => trivial) (by simp only [List.getElem?_toArray, List.getElem?_cons_succ, List.getElem?_cons_zero]; rfl) (by kernel_rfl) (fun _ _ _ _ _ h => h) ⟨(by rfl), (by intro c h; cases h), ?_⟩ hHeld ?_
                rotate_left
                focus (intro wS hSw; (try replace hSw := HSF.out wS hSw); (try dsimp only at hSw); go_simp; (try with_reducible rfl))
                (try simp only [Act.put, List.setIfInBounds_toArray, List.set_cons_zero, List.set_cons_succ])
                refine wpAnyG_pure 33 (v := ?_) (fun _ => trivial) (by simp only [List.getElem?_toArray, List.getElem?_cons_succ, List.getElem?_cons_zero]; rfl) (by kernel_rfl) (fun _ _ _ _ _ h => h) ⟨(by rfl), (by intro c h; cases h), ?_⟩ hHeld ?_
                rotate_left
                focus (intro wS hSw; (try replace hSw := HSF.out wS hSw); (try dsimp only at hSw); go_simp; (try with_reducible rfl))
                (try simp only [Act.put, List.setIfInBounds_toArray, List.set_cons_zero, List.set_cons_succ])
                refine wpAnyG_pure 34 (v := ?_) (fun _ => trivial) (by simp only [List.getElem?_toArray, List.getElem?_cons_succ, List.getElem?_cons_zero]; rfl) (by kernel_rfl) (fun _ _ _ _ _ h => h) ⟨(by rfl), (by intro c h; cases h), ?_⟩ hHeld ?_
                rotate_left
                focus (intro wS hSw; (try replace hSw := HSF.out wS hSw); (try dsimp only at hSw); go_simp; (try with_reducible rfl))
                (try simp only [Act.put, List.setIfInBounds_toArray, List.set_cons_zero, List.set_cons_succ])
                refine wpAnyG_pure 35 (v := ?_) (fun _ => trivial) (by simp only [List.getElem?_toArray, List.getElem?_cons_succ, List.getElem?_cons_zero]; rfl) (by kernel_rfl) (fun _ _ _ _ _ h => h) ⟨(by rfl), (by intro c h; cases h), ?_⟩ hHeld ?_
                rotate_left
                focus (intro wS hSw; (try replace hSw := HSF.out wS hSw); (try dsimp only at hSw); go_simp; (try with_reducible rfl))
                (try simp only [Act.put, List.setIfInBounds_toArray, List.set_cons_zero, List.set_cons_succ])
                refine wpAnyG_pure 36 (v := ?_) (fun _ => trivial) (by simp only [List.getElem?_toArray, List.getElem?_cons_succ, List.getElem?_cons_zero]; rfl) (by kernel_rfl) (fun _ _ _ _ _ h => h) ⟨(by rfl), (by intro c h; cases h), ?_⟩ hHeld ?_
                rotate_left
                focus (intro wS hSw; (try replace hSw := HSF.out wS hSw); (try dsimp only at hSw); go_simp; (try with_reducible rfl))
                (try simp only [Act.put, List.setIfInBounds_toArray, List.set_cons_zero, List.set_cons_succ])
                refine wpAnyG_pure 37 (v := ?_) (fun _ => trivial) (by simp only [List.getElem?_toArray, List.getElem?_cons_succ, List.getElem?_cons_zero]; rfl) (by kernel_rfl) (fun _ _ _ _ _ h => h) ⟨(by rfl), (by intro c h; cases h), ?_⟩ hHeld ?_
                rotate_left
                focus (intro wS hSw; (try replace hSw := HSF.out wS hSw); (try dsimp only at hSw); go_simp; (try with_reducible rfl))
                (try simp only [Act.put, List.setIfInBounds_toArray, List.set_cons_zero, List.set_cons_succ])
                refine wpAnyG_take 38 (v := ?_) (fun _ => trivial) (by simp only [List.getElem?_toArray, List.getElem?_cons_succ, List.getElem?_cons_zero]; rfl) (by kernel_rfl) (fun _ _ _ _ _ h => h) ⟨(by rfl), (by intro c h; cases h), ?_⟩ hHeld ?_
                rotate_left
                focus (intro wS hSw; (try replace hSw := HSF.out wS hSw); (try dsimp only at hSw); go_simp; (try with_reducible rfl))
                (try simp only [Act.put, List.setIfInBounds_toArray, List.set_cons_zero, List.set_cons_succ])
                refine wpAnyG_pure 39 (v := ?_) (fun _ => trivial) (by simp only [List.getElem?_toArray, List.getElem?_cons_succ, List.getElem?_cons_zero]; rfl) (by kernel_rfl) (fun _ _ _ _ _ h => h) ⟨(by rfl), (by intro c h; cases h), ?_⟩ hHeld ?_
                rotate_left
                focus (intro wS hSw; (try replace hSw := HSF.out wS hSw); (try dsimp only at hSw); go_simp; (try with_reducible rfl))
                (try simp only [Act.put, List.setIfInBounds_toArray, List.set_cons_zero, List.set_cons_succ])
                refine wpAnyG_pure 40 (v := ?_) (fun _ => trivial) (by simp only [List.getElem?_toArray, List.getElem?_cons_succ, List.getElem?_cons_zero]; rfl) (by kernel_rfl) (fun _ _ _ _ _ h => h) ⟨(by rfl), (by intro c h; cases h), ?_⟩ hHeld ?_
                rotate_left
                focus (intro wS hSw; (try replace hSw := HSF.out wS hSw); (try dsimp only at hSw); go_simp; (try with_reducible rfl))
                (try simp only [Act.put, List.setIfInBounds_toArray, List.set_cons_zero, List.set_cons_succ])
                refine wpAnyG_take 41 (v := ?_) (fun _ => trivial) (by simp only [List.getElem?_toArray, List.getElem?_cons_succ, List.getElem?_cons_zero]; rfl) (by kernel_rfl) (fun _ _ _ _ _ h => h) ⟨(by rfl), (by intro c h; cases h), ?_⟩ hHeld ?_
                rotate_left
                focus (intro wS hSw; (try replace hSw := HSF.out wS hSw); (try dsimp only at hSw); go_simp; (try with_reducible rfl))
                (try simp only [Act.put, List.setIfInBounds_toArray, List.set_cons_zero, List.set_cons_succ])
                refine wpAnyG_pure 42 (v := ?_) (fun _ => trivial) (by simp only [List.getElem?_toArray, List.getElem?_cons_succ, List.getElem?_cons_zero]; rfl) (by kernel_rfl) (fun _ _ _ _ _ h => h) ⟨(by rfl), (by intro c h; cases h), ?_⟩ hHeld ?_
                rotate_left
                focus (intro wS hSw; (try replace hSw := HSF.out wS hSw); (try dsimp only at hSw); go_simp; (try with_reducible rfl))
                (try simp only [Act.put, List.setIfInBounds_toArray, List.set_cons_zero, List.set_cons_succ])
                refine wpAnyG_pure 43 (v := ?_) (fun _ => trivial) (by simp only [List.getElem?_toArray, List.getElem?_cons_succ, List.getElem?_cons_zero]; rfl) (by kernel_rfl) (fun _ _ _ _ _ h => h) ⟨(by rfl), (by intro c h; cases h), ?_⟩ hHeld ?_
                rotate_left
                focus (intro wS hSw; (try replace hSw := HSF.out wS hSw); (try dsimp only at hSw); go_simp; (try with_reducible rfl))
                (try simp only [Act.put, List.setIfInBounds_toArray, List.set_cons_zero, List.set_cons_succ])
                have hcx := holds_any PV.out.lb GOH.out.o3 (z := (t : Int)) (now := ch) hIt (by omega)
                rw [GOH.out.b4] at hcx
                refine wpAnyS_ready [44] (by kernel_rfl) (by simp) (AllReadyS.consG (by simp only [List.getElem?_toArray, List.getElem?_cons_succ, List.getElem?_cons_zero]; rfl) (by rfl) (fun K hK => ?_) AllReadyS.nil)
                refine callS (by intro c h; cases h) (by go_simp; try with_reducible rfl) (calls_kt hcx PV.out) ?_
                rintro x4 ⟨hP, hkt⟩
                have PV2 := hid (show PlV w x4 m ⟨dg2, dh2, [], 0, T2, 2, 0⟩ from hP)
                have X2 := hid (show Blk x4 gx 26 #[.int .i64 1, .int .i64 t, .int .i64 (ch + tm), .int .i64 no] from hkt gx _ _ (by simp) X.out)
                have hS1 := PV2.out.sq hp' X2.out
                refine hK.out _ _ hS1 ?_
                (try simp only [Act.put, List.setIfInBounds_toArray, List.set_cons_zero, List.set_cons_succ])
                clear hK K hHeld hP hkt PV X
                have PV := PV2; have X := X2
                clear PV2 X2
                have hHeld := hS1
                clear hS1
                clear hcx
                refine wpAnyG_pure 45 (v := ?_) (fun _ => trivial) (by simp only [List.getElem?_toArray, List.getElem?_cons_succ, List.getElem?_cons_zero]; rfl) (by kernel_rfl) (fun _ _ _ _ _ h => h) ⟨(by rfl), (by intro c h; cases h), ?_⟩ hHeld ?_
                rotate_left
                focus (intro wS hSw; (try replace hSw := HSF.out wS hSw); (try dsimp only at hSw); go_simp; (try with_reducible rfl))
                (try simp only [Act.put, List.setIfInBounds_toArray, List.set_cons_zero, List.set_cons_succ])
                refine wpAnyG_pure 46 (v := ?_) (fun _ => trivial) (by simp only [List.getElem?_toArray, List.getElem?_cons_succ, List.getElem?_cons_zero]; rfl) (by kernel_rfl) (fun _ _ _ _ _ h => h) ⟨(by rfl), (by intro c h; cases h), ?_⟩ hHeld ?_
                rotate_left
                focus (intro wS hSw; (try replace hSw := HSF.out wS hSw); (try dsimp only at hSw); go_simp; (try with_reducible rfl))
                (try simp only [Act.put, List.setIfInBounds_toArray, List.set_cons_zero, List.set_cons_succ])
                refine wpAnyG_pure 47 (v := ?_) (fun _ => trivial) (by simp only [List.getElem?_toArray, List.getElem?_cons_succ, List.getElem?_cons_zero]; rfl) (by kernel_rfl) (fun _ _ _ _ _ h => h) ⟨(by rfl), (by intro c h; cases h), ?_⟩ hHeld ?_
                rotate_left
                focus (intro wS hSw; (try replace hSw := HSF.out wS hSw); (try dsimp only at hSw); go_simp; (try with_reducible rfl))
                (try simp only [Act.put, List.setIfInBounds_toArray, List.set_cons_zero, List.set_cons_succ])
                refine wpAnyG_pure 48 (v := ?_) (fun _ => trivial) (by simp only [List.getElem?_toArray, List.getElem?_cons_succ, List.getElem?_cons_zero]; rfl) (by kernel_rfl) (fun _ _ _ _ _ h => h) ⟨(by rfl), (by intro c h; cases h), ?_⟩ hHeld ?_
                rotate_left
                focus (intro wS hSw; (try replace hSw := HSF.out wS hSw); (try dsimp only at hSw); go_simp; (try with_reducible rfl))
                (try simp only [Act.put, List.setIfInBounds_toArray, List.set_cons_zero, List.set_cons_succ])
                refine wpAnyG_pure 49 (v := ?_) (fun _ => trivial) (by simp only [List.getElem?_toArray, List.getElem?_cons_succ, List.getElem?_cons_zero]; rfl) (by kernel_rfl) (fun _ _ _ _ _ h => h) ⟨(by rfl), (by intro c h; cases h), ?_⟩ hHeld ?_
                rotate_left
                focus (intro wS hSw; (try replace hSw := HSF.out wS hSw); (try dsimp only at hSw); go_simp; (try with_reducible rfl))
                (try simp only [Act.put, List.setIfInBounds_toArray, List.set_cons_zero, List.set_cons_succ])
                refine wpAnyG_take 50 (v := ?_) (fun _ => trivial) (by simp only [List.getElem?_toArray, List.getElem?_cons_succ, List.getElem?_cons_zero]; rfl) (by kernel_rfl) (fun _ _ _ _ _ h => h) ⟨(by rfl), (by intro c h; cases h), ?_⟩ hHeld ?_
                rotate_left
                focus (intro wS hSw; (try replace hSw := HSF.out wS hSw); (try dsimp only at hSw); go_simp; (try with_reducible rfl))
                (try simp only [Act.put, List.setIfInBounds_toArray, List.set_cons_zero, List.set_cons_succ])
                refine wpAnyG_pure 51 (v := ?_) (fun _ => trivial) (by simp only [List.getElem?_toArray, List.getElem?_cons_succ, List.getElem?_cons_zero]; rfl) (by kernel_rfl) (fun _ _ _ _ _ h => h) ⟨(by rfl), (by intro c h; cases h), ?_⟩ hHeld ?_
                rotate_left
                focus (intro wS hSw; (try replace hSw := HSF.out wS hSw); (try dsimp only at hSw); go_simp; (try with_reducible rfl))
                (try simp only [Act.put, List.setIfInBounds_toArray, List.set_cons_zero, List.set_cons_succ])
                refine wpAnyG_pure 52 (v := ?_) (fun _ => trivial) (by simp only [List.getElem?_toArray, List.getElem?_cons_succ, List.getElem?_cons_zero]; rfl) (by kernel_rfl) (fun _ _ _ _ _ h => h) ⟨(by rfl), (by intro c h; cases h), ?_⟩ hHeld ?_
                rotate_left
                focus (intro wS hSw; (try replace hSw := HSF.out wS hSw); (try dsimp only at hSw); go_simp; (try with_reducible rfl))
                (try simp only [Act.put, List.setIfInBounds_toArray, List.set_cons_zero, List.set_cons_succ])
                refine wpAnyG_take 53 (v := ?_) (fun _ => trivial) (by simp only [List.getElem?_toArray, List.getElem?_cons_succ, List.getElem?_cons_zero]; rfl) (by kernel_rfl) (fun _ _ _ _ _ h => h) ⟨(by rfl), (by intro c h; cases h), ?_⟩ hHeld ?_
                rotate_left
                focus (intro wS hSw; (try replace hSw := HSF.out wS hSw); (try dsimp only at hSw); go_simp; (try with_reducible rfl))
                (try simp only [Act.put, List.setIfInBounds_toArray, List.set_cons_zero, List.set_cons_succ])
                refine wpAnyG_pure 55 (v := ?_) (fun _ => trivial) (by simp only [List.getElem?_toArray, List.getElem?_cons_succ, List.getElem?_cons_zero]; rfl) (by kernel_rfl) (fun _ _ _ _ _ h => h) ⟨(by rfl), (by intro c h; cases h), ?_⟩ hHeld ?_
                rotate_left
                focus (intro wS hSw; (try replace hSw := HSF.out wS hSw); (try dsimp only at hSw); go_simp; (try with_reducible rfl))
                (try simp only [Act.put, List.setIfInBounds_toArray, List.set_cons_zero, List.set_cons_succ])
                refine wpAnyS_ready [54] (by kernel_rfl) (by simp) (AllReadyS.consG (by simp only [List.getElem?_toArray, List.getElem?_cons_succ, List.getElem?_cons_zero]; rfl) (by rfl) (fun K hK => ?_) AllReadyS.nil)
                refine callV (by intro c h; cases h) (by go_simp; try with_reducible rfl) (wish_call PV.out.lb GOH.out.o3) ?_
                rintro u8 x5 ⟨A8, c8, rfl, hs8, hB8⟩
                have PV2 := hid (show PlV w x5 m ⟨dg2, dh2, [], 0, T2, 2, 0⟩ from PV.out.step hB8)
                have X2 := hid (show Blk x5 gx 26 #[.int .i64 1, .int .i64 t, .int .i64 (ch + tm), .int .i64 no] from X.out.below hB8 X.out.lt)
                have hS1 := PV2.out.sq hp' X2.out
                have HHAS := hid (lhas_any A8 c8 (upToP (fun z => (dh2.hs z).2.2) dh2.home.length) (t : Int) x5 (by have := upToP_le (fun z => (dh2.hs z).2.2) dh2.home.length; have := GOH.out.o3.len; omega) hs8)
                have hcon : hasB (upToP (fun z => (dh2.hs z).2.2) dh2.home.length) (t : Int) = false := by
                  rw [show hasB (upToP (fun z => (dh2.hs z).2.2) dh2.home.length) (t : Int) = (upToP (fun z => (dh2.hs z).2.2) dh2.home.length).contains (t : Int) from rfl, upToP_has, GOH.out.b5, decide_eq_true (by rw [HLEN_dh2.out]; omega)]; rfl
                rw [hcon] at HHAS
                generalize upToP (fun z => (dh2.hs z).2.2) dh2.home.length = UL at *
                refine hK.out _ _ hS1 ?_
                (try simp only [Act.put, List.setIfInBounds_toArray, List.set_cons_zero, List.set_cons_succ])
                clear hK K hHeld hB8 hs8 hcon PV X
                have PV := PV2; have X := X2
                clear PV2 X2
                have hHeld := hS1
                clear hS1
                refine wpAnyS_ready [56] (by kernel_rfl) (by simp) (AllReadyS.consG (by simp only [List.getElem?_toArray, List.getElem?_cons_succ, List.getElem?_cons_zero]; rfl) (by rfl) (fun K hK => ?_) AllReadyS.nil)
                refine callS (by intro c h; cases h) (by go_simp; try with_reducible rfl) (calls_kt HHAS.out PV.out) ?_
                rintro x5h ⟨hP, hkt⟩
                have PV2 := hid (show PlV w x5h m ⟨dg2, dh2, [], 0, T2, 2, 0⟩ from hP)
                have X2 := hid (show Blk x5h gx 26 #[.int .i64 1, .int .i64 t, .int .i64 (ch + tm), .int .i64 no] from hkt gx _ _ (by simp) X.out)
                have hS1 := PV2.out.sq hp' X2.out
                refine hK.out _ _ hS1 ?_
                (try simp only [Act.put, List.setIfInBounds_toArray, List.set_cons_zero, List.set_cons_succ])
                clear hK K hHeld hP hkt PV X
                have PV := PV2; have X := X2
                clear PV2 X2
                have hHeld := hS1
                clear hS1
                clear HHAS
                refine wpAnyG_pure 57 (v := ?_) (fun _ => trivial) (by simp only [List.getElem?_toArray, List.getElem?_cons_succ, List.getElem?_cons_zero]; rfl) (by kernel_rfl) (fun _ _ _ _ _ h => h) ⟨(by rfl), (by intro c h; cases h), ?_⟩ hHeld ?_
                rotate_left
                focus (intro wS hSw; (try replace hSw := HSF.out wS hSw); (try dsimp only at hSw); go_simp; (try with_reducible rfl))
                (try simp only [Act.put, List.setIfInBounds_toArray, List.set_cons_zero, List.set_cons_succ])
                refine wpAnyS_done (by kernel_rfl) ?_
                clear hHeld HSF
                go_wp2_with fail
                go_meet
                exact ⟨rfl, PV.out, X.out⟩
              obtain ⟨rfl, hPV, hX⟩ := hcut
              clear PV X
              have PV := hid hPV
              have X := hid hX
              clear hPV hX
              have hc0 := back_f PV.out.la GOH.out.o4 (z := (t : Int)) hIt
              rw [GOH.out.c1] at hc0
              have hc := hid hc0
              clear hc0
              simp only [noteV, noteC] at hc
              obtain ⟨f0, f1, f2, f3, f4, f5⟩ := PV.out.cc hp'
              have y0 := X.out.cell 0; have y1 := X.out.cell 1; have y2 := X.out.cell 2; have y3 := X.out.cell 3; have fy := X.out.frozen; have yl := X.out.lt
              simp at y0 y1 y2 y3
              go_wp2_with fail
              refine hc.out.mono ?_
              rintro e u4 ⟨rfl, hL, q, hq, hg⟩
              obtain ⟨hPV, hkt⟩ := PV.out.desk0 hq hL hg
              have X2 := hid (hkt gx _ _ (by simp) X.out)
              have PV2 := hid (show PlV w u4 m ⟨dg3, dh2, [], 0, T2, 2, 0⟩ from hPV)
              clear hc hL hq hg hPV hkt PV X f0 f1 f2 f3 f4 f5 y0 y1 y2 y3 fy yl
              have PV := PV2; have X := X2
              clear PV2 X2
              obtain ⟨f0, f1, f2, f3, f4, f5⟩ := PV.out.cc hp'
              have y0 := X.out.cell 0; have y1 := X.out.cell 1; have y2 := X.out.cell 2; have y3 := X.out.cell 3; have fy := X.out.frozen; have yl := X.out.lt
              simp at y0 y1 y2 y3
              go_upto_region 25 with fail
              have GX := gr_tr (gr_tr (gr_tr (gr_set u4 gx 0 (.int .i64 2)) (gr_set _ gx 1 (.int .i64 (t : Int)))) (gr_set _ gx 2 (.int .i64 (0)))) (gr_set _ gx 3 (.int .i64 no))
              have PV2 := hid (PV.out.box X.out hgx.out GX)
              have X2 := hid ((((X.out.set_ 0 (.int .i64 2)).set_ 1 (.int .i64 (t : Int))).set_ 2 (.int .i64 (0))).set_ 3 (.int .i64 no))
              simp at X2
              clear GX PV X
              have PV := PV2; have X := X2
              clear PV2 X2
              generalize ((((u4.setCell ⟨gx, 0, none⟩ (.int .i64 2)).setCell ⟨gx, 1, none⟩ (.int .i64 (t : Int))).setCell ⟨gx, 2, none⟩ (.int .i64 (0))).setCell ⟨gx, 3, none⟩ (.int .i64 no)) = u5 at *
              clear f0 f1 f2 f3 f4 f5 y0 y1 y2 y3 fy yl
              go_cut [260] (fun v wx => v = .bool false ∧ PlV w wx m ⟨dg3, dh3, [], 0, T2, 2, 0⟩ ∧ Blk wx gx 26 #[.int .i64 2, .int .i64 t, .int .i64 0, .int .i64 no])
              case first =>
               as_aux_lemma =>
                have PV2 := hid (show PlV w u5.drew m ⟨dg3, dh2, [], 0, T2, 2, 0⟩ from PV.out.step (by (repeat (first | exact Below.refl _ _ | assumption | refine below_drewN ?_ _ | refine Below.drew ?_ | refine Below.alloc ?_ (by (try simp); (try omega)) _ | refine Below.setCell ?_ (by (try simp); (try omega)) _))))
                have X2 := hid (show Blk u5.drew gx 26 #[.int .i64 2, .int .i64 t, .int .i64 0, .int .i64 no] from X.out.drew)
                have hS0 := PV2.out.sq hp' X2.out
                have HSF := hid (fun (wq : World) (hq : SQ px m.gd m.nn m.A.b m.B.b gx #[.int .i64 2, .int .i64 t, .int .i64 0, .int .i64 no] wq) => hq.facts)
                refine wpIn_wide.1 (wpIn_region_S (n := 0) (SQ px m.gd m.nn m.A.b m.B.b gx #[.int .i64 2, .int .i64 t, .int .i64 0, .int .i64 no]) [] (by kernel_rfl) hS0 (fun hHeld => ?_))
                clear hS0 PV X
                have PV := PV2; have X := X2
                clear PV2 X2
                generalize u5.drew = z0 at *
                refine wpAnyG_pure 0 (v := ?_) (fun _ => trivial) (by simp only [List.getElem?_toArray, List.getElem?_cons_succ, List.getElem?_cons_zero]; rfl) (by kernel_rfl) (fun _ _ _ _ _ h => h) ⟨(by rfl), (by intro c h; cases h), ?_⟩ hHeld ?_
                rotate_left
                focus (intro wS hSw; (try replace hSw := HSF.out wS hSw); (try dsimp only at hSw); go_simp; (try with_reducible rfl))
                (try simp only [Act.put, List.setIfInBounds_toArray, List.set_cons_zero, List.set_cons_succ])
                refine wpAnyG_pure 1 (v := ?_) (fun _ => trivial) (by simp only [List.getElem?_toArray, List.getElem?_cons_succ, List.getElem?_cons_zero]; rfl) (by kernel_rfl) (fun _ _ _ _ _ h => h) ⟨(by rfl), (by intro c h; cases h), ?_⟩ hHeld ?_
                rotate_left
                focus (intro wS hSw; (try replace hSw := HSF.out wS hSw); (try dsimp only at hSw); go_simp; (try with_reducible rfl))
                (try simp only [Act.put, List.setIfInBounds_toArray, List.set_cons_zero, List.set_cons_succ])
                refine wpAnyG_pure 2 (v := ?_) (fun _ => trivial) (by simp only [List.getElem?_toArray, List.getElem?_cons_succ, List.getElem?_cons_zero]; rfl) (by kernel_rfl) (fun _ _ _ _ _ h => h) ⟨(by rfl), (by intro c h; cases h), ?_⟩ hHeld ?_
                rotate_left
                focus (intro wS hSw; (try replace hSw := HSF.out wS hSw); (try dsimp only at hSw); go_simp; (try with_reducible rfl))
                (try simp only [Act.put, List.setIfInBounds_toArray, List.set_cons_zero, List.set_cons_succ])
                refine wpAnyG_pure 3 (v := ?_) (fun _ => trivial) (by simp only [List.getElem?_toArray, List.getElem?_cons_succ, List.getElem?_cons_zero]; rfl) (by kernel_rfl) (fun _ _ _ _ _ h => h) ⟨(by rfl), (by intro c h; cases h), ?_⟩ hHeld ?_
                rotate_left
                focus (intro wS hSw; (try replace hSw := HSF.out wS hSw); (try dsimp only at hSw); go_simp; (try with_reducible rfl))
                (try simp only [Act.put, List.setIfInBounds_toArray, List.set_cons_zero, List.set_cons_succ])
                refine wpAnyG_pure 4 (v := ?_) (fun _ => trivial) (by simp only [List.getElem?_toArray, List.getElem?_cons_succ, List.getElem?_cons_zero]; rfl) (by kernel_rfl) (fun _ _ _ _ _ h => h) ⟨(by rfl), (by intro c h; cases h), ?_⟩ hHeld ?_
                rotate_left
                focus (intro wS hSw; (try replace hSw := HSF.out wS hSw); (try dsimp only at hSw); go_simp; (try with_reducible rfl))
                (try simp only [Act.put, List.setIfInBounds_toArray, List.set_cons_zero, List.set_cons_succ])
                refine wpAnyG_pure 5 (v := ?_) (fun _ => trivial) (by simp only [List.getElem?_toArray, List.getElem?_cons_succ, List.getElem?_cons_zero]; rfl) (by kernel_rfl) (fun _ _ _ _ _ h => h) ⟨(by rfl), (by intro c h; cases h), ?_⟩ hHeld ?_
                rotate_left
                focus (intro wS hSw; (try replace hSw := HSF.out wS hSw); (try dsimp only at hSw); go_simp; (try with_reducible rfl))
                (try simp only [Act.put, List.setIfInBounds_toArray, List.set_cons_zero, List.set_cons_succ])
                refine wpAnyG_take 6 (v := ?_) (fun _ => trivial) (by simp only [List.getElem?_toArray, List.getElem?_cons_succ, List.getElem?_cons_zero]; rfl) (by kernel_rfl) (fun _ _ _ _ _ h => h) ⟨(by rfl), (by intro c h; cases h), ?_⟩ hHeld ?_
                rotate_left
                focus (intro wS hSw; (try replace hSw := HSF.out wS hSw); (try dsimp only at hSw); go_simp; (try with_reducible rfl))
                (try simp only [Act.put, List.setIfInBounds_toArray, List.set_cons_zero, List.set_cons_succ])
                refine wpAnyG_pure 7 (v := ?_) (fun _ => trivial) (by simp only [List.getElem?_toArray, List.getElem?_cons_succ, List.getElem?_cons_zero]; rfl) (by kernel_rfl) (fun _ _ _ _ _ h => h) ⟨(by rfl), (by intro c h; cases h), ?_⟩ hHeld ?_
                rotate_left
                focus (intro wS hSw; (try replace hSw := HSF.out wS hSw); (try dsimp only at hSw); go_simp; (try with_reducible rfl))
                (try simp only [Act.put, List.setIfInBounds_toArray, List.set_cons_zero, List.set_cons_succ])
                refine wpAnyG_pure 8 (v := ?_) (fun _ => trivial) (by simp only [List.getElem?_toArray, List.getElem?_cons_succ, List.getElem?_cons_zero]; rfl) (by kernel_rfl) (fun _ _ _ _ _ h => h) ⟨(by rfl), (by intro c h; cases h), ?_⟩ hHeld ?_
                rotate_left
                focus (intro wS hSw; (try replace hSw := HSF.out wS hSw); (try dsimp only at hSw); go_simp; (try with_reducible rfl))
                (try simp only [Act.put, List.setIfInBounds_toArray, List.set_cons_zero, List.set_cons_succ])
                refine wpAnyG_take 9 (v := ?_) (fun _ => trivial) (by simp only [List.getElem?_toArray, List.getElem?_cons_succ, List.getElem?_cons_zero]; rfl) (by kernel_rfl) (fun _ _ _ _ _ h => h) ⟨(by rfl), (by intro c h; cases h), ?_⟩ hHeld ?_
                rotate_left
                focus (intro wS hSw; (try replace hSw := HSF.out wS hSw); (try dsimp only at hSw); go_simp; (try with_reducible rfl))
                (try simp only [Act.put, List.setIfInBounds_toArray, List.set_cons_zero, List.set_cons_succ])
                refine wpAnyS_ready [10] (by kernel_rfl) (by simp) (AllReadyS.consG (by simp only [List.getElem?_toArray, List.getElem?_cons_succ, List.getElem?_cons_zero]; rfl) (by rfl) (fun K hK => ?_) AllReadyS.nil)
                refine callS (by intro c h; cases h) (by go_simp; try with_reducible rfl) (PV.out.nb he (2, t, 0, no) GOH.out.i3) ?_
                rintro z1a ⟨hP, hkt⟩
                have PV2 := hid (show PlV w z1a m ⟨dg3, dh2, [], 0, T2, 2, 0⟩ from hP)
                have X2 := hid (show Blk z1a gx 26 #[.int .i64 2, .int .i64 t, .int .i64 0, .int .i64 no] from hkt gx _ _ (by simp) X.out)
                have hS1 := PV2.out.sq hp' X2.out
                refine hK.out _ _ hS1 ?_
                (try simp only [Act.put, List.setIfInBounds_toArray, List.set_cons_zero, List.set_cons_succ])
                clear hK K hHeld hP hkt PV X
                have PV := PV2; have X := X2
                clear PV2 X2
                have hHeld := hS1
                clear hS1
                refine wpAnyS_ready [11] (by kernel_rfl) (by simp) (AllReadyS.consG (by simp only [List.getElem?_toArray, List.getElem?_cons_succ, List.getElem?_cons_zero]; rfl) (by rfl) (fun K hK => ?_) AllReadyS.nil)
                refine callS (by intro c h; cases h) (by go_simp; try with_reducible rfl) (PV.out.send rfl (by simp) 0 1 (bs (enc4 (2, t, 0, no))) (by unfold Ends; omega)) ?_
                rintro z1b ⟨hP, hkt⟩
                have PV2 := hid (show PlV w z1b m ⟨dg3, dh2, [(0, 1, bs (enc4 (2, t, 0, no)))], 0, T2, 2, 0⟩ from hP)
                have X2 := hid (show Blk z1b gx 26 #[.int .i64 2, .int .i64 t, .int .i64 0, .int .i64 no] from hkt gx _ _ (by simp) X.out)
                have hS1 := PV2.out.sq hp' X2.out
                refine hK.out _ _ hS1 ?_
                (try simp only [Act.put, List.setIfInBounds_toArray, List.set_cons_zero, List.set_cons_succ])
                clear hK K hHeld hP hkt PV X
                have PV := PV2; have X := X2
                clear PV2 X2
                have hHeld := hS1
                clear hS1
                refine wpAnyG_pure 12 (v := ?_) (fun _ => trivial) (by simp only [List.getElem?_toArray, List.getElem?_cons_succ, List.getElem?_cons_zero]; rfl) (by kernel_rfl) (fun _ _ _ _ _ h => h) ⟨(by rfl), (by intro c h; cases h), ?_⟩ hHeld ?_
                rotate_left
                focus (intro wS hSw; (try replace hSw := HSF.out wS hSw); (try dsimp only at hSw); go_simp; (try with_reducible rfl))
                (try simp only [Act.put, List.setIfInBounds_toArray, List.set_cons_zero, List.set_cons_succ])
                refine wpAnyG_pure 13 (v := ?_) (fun _ => trivial) (by simp only [List.getElem?_toArray, List.getElem?_cons_succ, List.getElem?_cons_zero]; rfl) (by kernel_rfl) (fun _ _ _ _ _ h => h) ⟨(by rfl), (by intro c h; cases h), ?_⟩ hHeld ?_
                rotate_left
                focus (intro wS hSw; (try replace hSw := HSF.out wS hSw); (try dsimp only at hSw); go_simp; (try with_reducible rfl))
                (try simp only [Act.put, List.setIfInBounds_toArray, List.set_cons_zero, List.set_cons_succ])
                refine wpAnyG_pure 14 (v := ?_) (fun _ => trivial) (by simp only [List.getElem?_toArray, List.getElem?_cons_succ, List.getElem?_cons_zero]; rfl) (by kernel_rfl) (fun _ _ _ _ _ h => h) ⟨(by rfl), (by intro c h; cases h), ?_⟩ hHeld ?_
                rotate_left
                focus (intro wS hSw; (try replace hSw := HSF.out wS hSw); (try dsimp only at hSw); go_simp; (try with_reducible rfl))
                (try simp only [Act.put, List.setIfInBounds_toArray, List.set_cons_zero, List.set_cons_succ])
                refine wpAnyG_pure 15 (v := ?_) (fun _ => trivial) (by simp only [List.getElem?_toArray, List.getElem?_cons_succ, List.getElem?_cons_zero]; rfl) (by kernel_rfl) (fun _ _ _ _ _ h => h) ⟨(by rfl), (by intro c h; cases h), ?_⟩ hHeld ?_
                rotate_left
                focus (intro wS hSw; (try replace hSw := HSF.out wS hSw); (try dsimp only at hSw); go_simp; (try with_reducible rfl))
                (try simp only [Act.put, List.setIfInBounds_toArray, List.set_cons_zero, List.set_cons_succ])
                refine wpAnyS_ready [16] (by kernel_rfl) (by simp) (AllReadyS.consG (by simp only [List.getElem?_toArray, List.getElem?_cons_succ, List.getElem?_cons_zero]; rfl) (by rfl) (fun K hK => ?_) AllReadyS.nil)
                refine callS (by intro c h; cases h) (by go_simp; try with_reducible rfl) (PV.out.arr1 hp' he rfl (2, t, 0, no) GOH.out.i3 rfl GOH.out.o3 GOH.out.c2) ?_
                rintro z1c ⟨hP, hkt⟩
                have PV2 := hid (show PlV w z1c m ⟨dg3, dh3, [], 0, T2, 2, 0⟩ from hP)
                have X2 := hid (show Blk z1c gx 26 #[.int .i64 2, .int .i64 t, .int .i64 0, .int .i64 no] from hkt gx _ _ (by simp) X.out)
                have hS1 := PV2.out.sq hp' X2.out
                refine hK.out _ _ hS1 ?_
                (try simp only [Act.put, List.setIfInBounds_toArray, List.set_cons_zero, List.set_cons_succ])
                clear hK K hHeld hP hkt PV X
                have PV := PV2; have X := X2
                clear PV2 X2
                have hHeld := hS1
                clear hS1
                refine wpAnyG_pure 17 (v := ?_) (fun _ => trivial) (by simp only [List.getElem?_toArray, List.getElem?_cons_succ, List.getElem?_cons_zero]; rfl) (by kernel_rfl) (fun _ _ _ _ _ h => h) ⟨(by rfl), (by intro c h; cases h), ?_⟩ hHeld ?_
                rotate_left
                focus (intro wS hSw; (try replace hSw := HSF.out wS hSw); (try dsimp only at hSw); go_simp; (try with_reducible rfl))
                (try simp only [Act.put, List.setIfInBounds_toArray, List.set_cons_zero, List.set_cons_succ])
                refine wpAnyG_pure 18 (v := ?_) (fun _ => trivial) (by simp only [List.getElem?_toArray, List.getElem?_cons_succ, List.getElem?_cons_zero]; rfl) (by kernel_rfl) (fun _ _ _ _ _ h => h) ⟨(by rfl), (by intro c h; cases h), ?_⟩ hHeld ?_
                rotate_left
                focus (intro wS hSw; (try replace hSw := HSF.out wS hSw); (try dsimp only at hSw); go_simp; (try with_reducible rfl))
                (try simp only [Act.put, List.setIfInBounds_toArray, List.set_cons_zero, List.set_cons_succ])
                refine wpAnyS_done (by kernel_rfl) ?_
                clear hHeld HSF
                go_wp2_with fail
                go_meet
                exact ⟨rfl, PV.out, X.out⟩
              obtain ⟨rfl, hPV, hX⟩ := hcut
              clear PV X
              have PV := hid hPV
              have X := hid hX
              clear hPV hX
              obtain ⟨f0, f1, f2, f3, f4, f5⟩ := PV.out.cc hp'
              have y0 := X.out.cell 0; have y1 := X.out.cell 1; have y2 := X.out.cell 2; have y3 := X.out.cell 3; have fy := X.out.frozen; have yl := X.out.lt
              simp at y0 y1 y2 y3
              go_upto_region 27 with fail
              clear f0 f1 f2 f3 f4 f5 y0 y1 y2 y3 fy yl
              have PV2 := hid (show PlV w wc.drew m ⟨dg3, dh3, [], 0, T2, 2, 0⟩ from PV.out.step (by (repeat (first | exact Below.refl _ _ | assumption | refine below_drewN ?_ _ | refine Below.drew ?_ | refine Below.alloc ?_ (by (try simp); (try omega)) _ | refine Below.setCell ?_ (by (try simp); (try omega)) _))))
              have X2 := hid (show Blk wc.drew gx 26 #[.int .i64 2, .int .i64 t, .int .i64 0, .int .i64 no] from X.out.drew)
              have hS0 := PV2.out.sq hp' X2.out
              have HSF := hid (fun (wq : World) (hq : SQ px m.gd m.nn m.A.b m.B.b gx #[.int .i64 2, .int .i64 t, .int .i64 0, .int .i64 no] wq) => hq.facts)
              refine wpIn_wide.1 (wpIn_region_S (n := 0) (SQ px m.gd m.nn m.A.b m.B.b gx #[.int .i64 2, .int .i64 t, .int .i64 0, .int .i64 no]) [] (by kernel_rfl) hS0 (fun hHeld => ?_))
              clear hS0 PV X
              have PV := PV2; have X := X2
              clear PV2 X2
              generalize wc.drew = q0 at *
              refine wpAnyG_pure 0 (v := ?_) (fun _ => trivial) (by simp only [List.getElem?_toArray, List.getElem?_cons_succ, List.getElem?_cons_zero]; rfl) (by kernel_rfl) (fun _ _ _ _ _ h => h) ⟨(by rfl), (by intro c h; cases h), ?_⟩ hHeld ?_
              rotate_left
              focus (intro wS hSw; (try replace hSw := HSF.out wS hSw); (try dsimp only at hSw); go_simp; (try with_reducible rfl))
              (try simp only [Act.put, List.setIfInBounds_toArray, List.set_cons_zero, List.set_cons_succ])
              refine wpAnyG_pure 1 (v := ?_) (fun _ => trivial) (by simp only [List.getElem?_toArray, List.getElem?_cons_succ, List.getElem?_cons_zero]; rfl) (by kernel_rfl) (fun _ _ _ _ _ h => h) ⟨(by rfl), (by intro c h; cases h), ?_⟩ hHeld ?_
              rotate_left
              focus (intro wS hSw; (try replace hSw := HSF.out wS hSw); (try dsimp only at hSw); go_simp; (try with_reducible rfl))
              (try simp only [Act.put, List.setIfInBounds_toArray, List.set_cons_zero, List.set_cons_succ])
              refine wpAnyG_pure 2 (v := ?_) (fun _ => trivial) (by simp only [List.getElem?_toArray, List.getElem?_cons_succ, List.getElem?_cons_zero]; rfl) (by kernel_rfl) (fun _ _ _ _ _ h => h) ⟨(by rfl), (by intro c h; cases h), ?_⟩ hHeld ?_
              rotate_left
              focus (intro wS hSw; (try replace hSw := HSF.out wS hSw); (try dsimp only at hSw); go_simp; (try with_reducible rfl))
              (try simp only [Act.put, List.setIfInBounds_toArray, List.set_cons_zero, List.set_cons_succ])
              refine wpAnyG_pure 3 (v := ?_) (fun _ => trivial) (by simp only [List.getElem?_toArray, List.getElem?_cons_succ, List.getElem?_cons_zero]; rfl) (by kernel_rfl) (fun _ _ _ _ _ h => h) ⟨(by rfl), (by intro c h; cases h), ?_⟩ hHeld ?_
              rotate_left
              focus (intro wS hSw; (try replace hSw := HSF.out wS hSw); (try dsimp only at hSw); go_simp; (try with_reducible rfl))
              (try simp only [Act.put, List.setIfInBounds_toArray, List.set_cons_zero, List.set_cons_succ])
              refine wpAnyG_pure 4 (v := ?_) (fun _ => trivial) (by simp only [List.getElem?_toArray, List.getElem?_cons_succ, List.getElem?_cons_zero]; rfl) (by kernel_rfl) (fun _ _ _ _ _ h => h) ⟨(by rfl), (by intro c h; cases h), ?_⟩ hHeld ?_
              rotate_left
              focus (intro wS hSw; (try replace hSw := HSF.out wS hSw); (try dsimp only at hSw); go_simp; (try with_reducible rfl))
              (try simp only [Act.put, List.setIfInBounds_toArray, List.set_cons_zero, List.set_cons_succ])
              refine wpAnyG_take 5 (v := ?_) (fun _ => trivial) (by simp only [List.getElem?_toArray, List.getElem?_cons_succ, List.getElem?_cons_zero]; rfl) (by kernel_rfl) (fun _ _ _ _ _ h => h) ⟨(by rfl), (by intro c h; cases h), ?_⟩ hHeld ?_
              rotate_left
              focus (intro wS hSw; (try replace hSw := HSF.out wS hSw); (try dsimp only at hSw); go_simp; (try with_reducible rfl))
              (try simp only [Act.put, List.setIfInBounds_toArray, List.set_cons_zero, List.set_cons_succ])
              refine wpAnyG_pure 6 (v := ?_) (fun _ => trivial) (by simp only [List.getElem?_toArray, List.getElem?_cons_succ, List.getElem?_cons_zero]; rfl) (by kernel_rfl) (fun _ _ _ _ _ h => h) ⟨(by rfl), (by intro c h; cases h), ?_⟩ hHeld ?_
              rotate_left
              focus (intro wS hSw; (try replace hSw := HSF.out wS hSw); (try dsimp only at hSw); go_simp; (try with_reducible rfl))
              (try simp only [Act.put, List.setIfInBounds_toArray, List.set_cons_zero, List.set_cons_succ])
              refine wpAnyG_pure 7 (v := ?_) (fun _ => trivial) (by simp only [List.getElem?_toArray, List.getElem?_cons_succ, List.getElem?_cons_zero]; rfl) (by kernel_rfl) (fun _ _ _ _ _ h => h) ⟨(by rfl), (by intro c h; cases h), ?_⟩ hHeld ?_
              rotate_left
              focus (intro wS hSw; (try replace hSw := HSF.out wS hSw); (try dsimp only at hSw); go_simp; (try with_reducible rfl))
              (try simp only [Act.put, List.setIfInBounds_toArray, List.set_cons_zero, List.set_cons_succ])
              refine wpAnyG_take 8 (v := ?_) (fun _ => trivial) (by simp only [List.getElem?_toArray, List.getElem?_cons_succ, List.getElem?_cons_zero]; rfl) (by kernel_rfl) (fun _ _ _ _ _ h => h) ⟨(by rfl), (by intro c h; cases h), ?_⟩ hHeld ?_
              rotate_left
              focus (intro wS hSw; (try replace hSw := HSF.out wS hSw); (try dsimp only at hSw); go_simp; (try with_reducible rfl))
              (try simp only [Act.put, List.setIfInBounds_toArray, List.set_cons_zero, List.set_cons_succ])
              refine wpAnyG_pure 9 (v := ?_) (fun _ => trivial) (by simp only [List.getElem?_toArray, List.getElem?_cons_succ, List.getElem?_cons_zero]; rfl) (by kernel_rfl) (fun _ _ _ _ _ h => h) ⟨(by rfl), (by intro c h; cases h), ?_⟩ hHeld ?_
              rotate_left
              focus (intro wS hSw; (try replace hSw := HSF.out wS hSw); (try dsimp only at hSw); go_simp; (try with_reducible rfl))
              (try simp only [Act.put, List.setIfInBounds_toArray, List.set_cons_zero, List.set_cons_succ])
              refine wpAnyG_pure 10 (v := ?_) (fun _ => trivial) (by simp only [List.getElem?_toArray, List.getElem?_cons_succ, List.getElem?_cons_zero]; rfl) (by kernel_rfl) (fun _ _ _ _ _ h => h) ⟨(by rfl), (by intro c h; cases h), ?_⟩ hHeld ?_
              rotate_left
              focus (intro wS hSw; (try replace hSw := HSF.out wS hSw); (try dsimp only at hSw); go_simp; (try with_reducible rfl))
              (try simp only [Act.put, List.setIfInBounds_toArray, List.set_cons_zero, List.set_cons_succ])
              have hcx := holds_any PV.out.lb GOH.out.o6 (z := (t : Int)) (now := ch) hIt (by omega)
              rw [GOH.out.c3] at hcx
              refine wpAnyS_ready [11] (by kernel_rfl) (by simp) (AllReadyS.consG (by simp only [List.getElem?_toArray, List.getElem?_cons_succ, List.getElem?_cons_zero]; rfl) (by rfl) (fun K hK => ?_) AllReadyS.nil)
              refine callS (by intro c h; cases h) (by go_simp; try with_reducible rfl) (calls_kt hcx PV.out) ?_
              rintro q1 ⟨hP, hkt⟩
              have PV2 := hid (show PlV w q1 m ⟨dg3, dh3, [], 0, T2, 2, 0⟩ from hP)
              have X2 := hid (show Blk q1 gx 26 #[.int .i64 2, .int .i64 t, .int .i64 0, .int .i64 no] from hkt gx _ _ (by simp) X.out)
              have hS1 := PV2.out.sq hp' X2.out
              refine hK.out _ _ hS1 ?_
              (try simp only [Act.put, List.setIfInBounds_toArray, List.set_cons_zero, List.set_cons_succ])
              clear hK K hHeld hP hkt PV X
              have PV := PV2; have X := X2
              clear PV2 X2
              have hHeld := hS1
              clear hS1
              clear hcx
              refine wpAnyG_pure 12 (v := ?_) (fun _ => trivial) (by simp only [List.getElem?_toArray, List.getElem?_cons_succ, List.getElem?_cons_zero]; rfl) (by kernel_rfl) (fun _ _ _ _ _ h => h) ⟨(by rfl), (by intro c h; cases h), ?_⟩ hHeld ?_
              rotate_left
              focus (intro wS hSw; (try replace hSw := HSF.out wS hSw); (try dsimp only at hSw); go_simp; (try with_reducible rfl))
              (try simp only [Act.put, List.setIfInBounds_toArray, List.set_cons_zero, List.set_cons_succ])
              refine wpAnyG_pure 13 (v := ?_) (fun _ => trivial) (by simp only [List.getElem?_toArray, List.getElem?_cons_succ, List.getElem?_cons_zero]; rfl) (by kernel_rfl) (fun _ _ _ _ _ h => h) ⟨(by rfl), (by intro c h; cases h), ?_⟩ hHeld ?_
              rotate_left
              focus (intro wS hSw; (try replace hSw := HSF.out wS hSw); (try dsimp only at hSw); go_simp; (try with_reducible rfl))
              (try simp only [Act.put, List.setIfInBounds_toArray, List.set_cons_zero, List.set_cons_succ])
              refine wpAnyG_pure 14 (v := ?_) (fun _ => trivial) (by simp only [List.getElem?_toArray, List.getElem?_cons_succ, List.getElem?_cons_zero]; rfl) (by kernel_rfl) (fun _ _ _ _ _ h => h) ⟨(by rfl), (by intro c h; cases h), ?_⟩ hHeld ?_
              rotate_left
              focus (intro wS hSw; (try replace hSw := HSF.out wS hSw); (try dsimp only at hSw); go_simp; (try with_reducible rfl))
              (try simp only [Act.put, List.setIfInBounds_toArray, List.set_cons_zero, List.set_cons_succ])
              refine wpAnyG_pure 15 (v := ?_) (fun _ => trivial) (by simp only [List.getElem?_toArray, List.getElem?_cons_succ, List.getElem?_cons_zero]; rfl) (by kernel_rfl) (fun _ _ _ _ _ h => h) ⟨(by rfl), (by intro c h; cases h), ?_⟩ hHeld ?_
              rotate_left
              focus (intro wS hSw; (try replace hSw := HSF.out wS hSw); (try dsimp only at hSw); go_simp; (try with_reducible rfl))
              (try simp only [Act.put, List.setIfInBounds_toArray, List.set_cons_zero, List.set_cons_succ])
              refine wpAnyG_pure 16 (v := ?_) (fun _ => trivial) (by simp only [List.getElem?_toArray, List.getElem?_cons_succ, List.getElem?_cons_zero]; rfl) (by kernel_rfl) (fun _ _ _ _ _ h => h) ⟨(by rfl), (by intro c h; cases h), ?_⟩ hHeld ?_
              rotate_left
              focus (intro wS hSw; (try replace hSw := HSF.out wS hSw); (try dsimp only at hSw); go_simp; (try with_reducible rfl))
              (try simp only [Act.put, List.setIfInBounds_toArray, List.set_cons_zero, List.set_cons_succ])
              refine wpAnyG_take 17 (v := ?_) (fun _ => trivial) (by simp only [List.getElem?_toArray, List.getElem?_cons_succ, List.getElem?_cons_zero]; rfl) (by kernel_rfl) (fun _ _ _ _ _ h => h) ⟨(by rfl), (by intro c h; cases h), ?_⟩ hHeld ?_
              rotate_left
              focus (intro wS hSw; (try replace hSw := HSF.out wS hSw); (try dsimp only at hSw); go_simp; (try with_reducible rfl))
              (try simp only [Act.put, List.setIfInBounds_toArray, List.set_cons_zero, List.set_cons_succ])
              refine wpAnyG_pure 18 (v := ?_) (fun _ => trivial) (by simp only [List.getElem?_toArray, List.getElem?_cons_succ, List.getElem?_cons_zero]; rfl) (by kernel_rfl) (fun _ _ _ _ _ h => h) ⟨(by rfl), (by intro c h; cases h), ?_⟩ hHeld ?_
              rotate_left
              focus (intro wS hSw; (try replace hSw := HSF.out wS hSw); (try dsimp only at hSw); go_simp; (try with_reducible rfl))
              (try simp only [Act.put, List.setIfInBounds_toArray, List.set_cons_zero, List.set_cons_succ])
              refine wpAnyG_pure 19 (v := ?_) (fun _ => trivial) (by simp only [List.getElem?_toArray, List.getElem?_cons_succ, List.getElem?_cons_zero]; rfl) (by kernel_rfl) (fun _ _ _ _ _ h => h) ⟨(by rfl), (by intro c h; cases h), ?_⟩ hHeld ?_
              rotate_left
              focus (intro wS hSw; (try replace hSw := HSF.out wS hSw); (try dsimp only at hSw); go_simp; (try with_reducible rfl))
              (try simp only [Act.put, List.setIfInBounds_toArray, List.set_cons_zero, List.set_cons_succ])
              refine wpAnyG_take 20 (v := ?_) (fun _ => trivial) (by simp only [List.getElem?_toArray, List.getElem?_cons_succ, List.getElem?_cons_zero]; rfl) (by kernel_rfl) (fun _ _ _ _ _ h => h) ⟨(by rfl), (by intro c h; cases h), ?_⟩ hHeld ?_
              rotate_left
              focus (intro wS hSw; (try replace hSw := HSF.out wS hSw); (try dsimp only at hSw); go_simp; (try with_reducible rfl))
              (try simp only [Act.put, List.setIfInBounds_toArray, List.set_cons_zero, List.set_cons_succ])
              refine wpAnyG_pure 21 (v := ?_) (fun _ => trivial) (by simp only [List.getElem?_toArray, List.getElem?_cons_succ, List.getElem?_cons_zero]; rfl) (by kernel_rfl) (fun _ _ _ _ _ h => h) ⟨(by rfl), (by intro c h; cases h), ?_⟩ hHeld ?_
              rotate_left
              focus (intro wS hSw; (try replace hSw := HSF.out wS hSw); (try dsimp only at hSw); go_simp; (try with_reducible rfl))
              (try simp only [Act.put, List.setIfInBounds_toArray, List.set_cons_zero, List.set_cons_succ])
              refine wpAnyG_pure 22 (v := ?_) (fun _ => trivial) (by simp only [List.getElem?_toArray, List.getElem?_cons_succ, List.getElem?_cons_zero]; rfl) (by kernel_rfl) (fun _ _ _ _ _ h => h) ⟨(by rfl), (by intro c h; cases h), ?_⟩ hHeld ?_
              rotate_left
              focus (intro wS hSw; (try replace hSw := HSF.out wS hSw); (try dsimp only at hSw); go_simp; (try with_reducible rfl))
              (try simp only [Act.put, List.setIfInBounds_toArray, List.set_cons_zero, List.set_cons_succ])
              refine wpAnyG_pure 23 (v := ?_) (fun _ => trivial) (by simp only [List.getElem?_toArray, List.getElem?_cons_succ, List.getElem?_cons_zero]; rfl) (by kernel_rfl) (fun _ _ _ _ _ h => h) ⟨(by rfl), (by intro c h; cases h), ?_⟩ hHeld ?_
              rotate_left
              focus (intro wS hSw; (try replace hSw := HSF.out wS hSw); (try dsimp only at hSw); go_simp; (try with_reducible rfl))
              (try simp only [Act.put, List.setIfInBounds_toArray, List.set_cons_zero, List.set_cons_succ])
              have hcx := PV.out.ck hp' (by dsimp only; omega) (by simp) (by simp) 0 (by simp)
              rw [show (⟨dg3, dh3, [], 0, T2, 2, 0⟩ : LS).clock 0 = cg from HCG.out.symm] at hcx
              refine wpAnyS_ready [24] (by kernel_rfl) (by simp) (AllReadyS.consG (by simp only [List.getElem?_toArray, List.getElem?_cons_succ, List.getElem?_cons_zero]; rfl) (by rfl) (fun K hK => ?_) AllReadyS.nil)
              refine callS (by intro c h; cases h) (by go_simp; try with_reducible rfl) (hcx) ?_
              rintro q2 ⟨hP, hkt⟩
              have PV2 := hid (show PlV w q2 m ⟨dg3, dh3, [], 0, T2, 2, 0⟩ from hP)
              have X2 := hid (show Blk q2 gx 26 #[.int .i64 2, .int .i64 t, .int .i64 0, .int .i64 no] from hkt gx _ _ (by simp) X.out)
              have hS1 := PV2.out.sq hp' X2.out
              refine hK.out _ _ hS1 ?_
              (try simp only [Act.put, List.setIfInBounds_toArray, List.set_cons_zero, List.set_cons_succ])
              clear hK K hHeld hP hkt PV X
              have PV := PV2; have X := X2
              clear PV2 X2
              have hHeld := hS1
              clear hS1
              clear hcx
              have hcx := holds_any PV.out.la GOH.out.o5 (z := (t : Int)) (now := cg) hIt (by omega)
              rw [GOH.out.c4] at hcx
              refine wpAnyS_ready [25] (by kernel_rfl) (by simp) (AllReadyS.consG (by simp only [List.getElem?_toArray, List.getElem?_cons_succ, List.getElem?_cons_zero]; rfl) (by rfl) (fun K hK => ?_) AllReadyS.nil)
              refine callS (by intro c h; cases h) (by go_simp; try with_reducible rfl) (calls_kt hcx PV.out) ?_
              rintro q3 ⟨hP, hkt⟩
              have PV2 := hid (show PlV w q3 m ⟨dg3, dh3, [], 0, T2, 2, 0⟩ from hP)
              have X2 := hid (show Blk q3 gx 26 #[.int .i64 2, .int .i64 t, .int .i64 0, .int .i64 no] from hkt gx _ _ (by simp) X.out)
              have hS1 := PV2.out.sq hp' X2.out
              refine hK.out _ _ hS1 ?_
              (try simp only [Act.put, List.setIfInBounds_toArray, List.set_cons_zero, List.set_cons_succ])
              clear hK K hHeld hP hkt PV X
              have PV := PV2; have X := X2
              clear PV2 X2
              have hHeld := hS1
              clear hS1
              clear hcx
              refine wpAnyG_pure 26 (v := ?_) (fun _ => trivial) (by simp only [List.getElem?_toArray, List.getElem?_cons_succ, List.getElem?_cons_zero]; rfl) (by kernel_rfl) (fun _ _ _ _ _ h => h) ⟨(by rfl), (by intro c h; cases h), ?_⟩ hHeld ?_
              rotate_left
              focus (intro wS hSw; (try replace hSw := HSF.out wS hSw); (try dsimp only at hSw); go_simp; (try with_reducible rfl))
              (try simp only [Act.put, List.setIfInBounds_toArray, List.set_cons_zero, List.set_cons_succ])
              refine wpAnyG_pure 27 (v := ?_) (fun _ => trivial) (by simp only [List.getElem?_toArray, List.getElem?_cons_succ, List.getElem?_cons_zero]; rfl) (by kernel_rfl) (fun _ _ _ _ _ h => h) ⟨(by rfl), (by intro c h; cases h), ?_⟩ hHeld ?_
              rotate_left
              focus (intro wS hSw; (try replace hSw := HSF.out wS hSw); (try dsimp only at hSw); go_simp; (try with_reducible rfl))
              (try simp only [Act.put, List.setIfInBounds_toArray, List.set_cons_zero, List.set_cons_succ])
              refine wpAnyG_pure 28 (v := ?_) (fun _ => trivial) (by simp only [List.getElem?_toArray, List.getElem?_cons_succ, List.getElem?_cons_zero]; rfl) (by kernel_rfl) (fun _ _ _ _ _ h => h) ⟨(by rfl), (by intro c h; cases h), ?_⟩ hHeld ?_
              rotate_left
              focus (intro wS hSw; (try replace hSw := HSF.out wS hSw); (try dsimp only at hSw); go_simp; (try with_reducible rfl))
              (try simp only [Act.put, List.setIfInBounds_toArray, List.set_cons_zero, List.set_cons_succ])
              refine wpAnyS_done (by kernel_rfl) ?_
              clear hHeld HSF
              go_wp2_with fail
              go_ret
              exact ⟨rfl, PV.out.below⟩
end Go.Proofs.YtappgjdnfllblaaDoor
