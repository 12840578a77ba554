
/- Journal: JournalStays, the walk. -/
import Derived.Test.YtbefmjodpndndaaDoorJoH
set_option linter.unusedSimpArgs false
set_option linter.unusedVariables false
namespace Go.Proofs.YtbefmjodpndndaaDoor
open Go.RowKit Go.IntWalk

set_option maxRecDepth 100000 in
set_option maxHeartbeats 4000000 in
theorem jstays_any (A1 A2 A3 A4 : Option Addr) (c1 c2 c3 c4 : Nat) (l : List Jop) (ys : List ByteArray) (k1 k2 : List Int) (w : World) (hl : l.length ≤ maxLen) (hys : ys.length ≤ maxLen) (hk1 : k1.length ≤ maxLen) (hk2 : k2.length ≤ maxLen) (hs1 : SlR w w.heap.size A1 l) (hs2 : SlR w w.heap.size A2 ys) (hs3 : SlR w w.heap.size A3 k1) (hs4 : SlR w w.heap.size A4 k2) (he : Env w) (hO : OffE w) :
    Calls Tryd.prog 5 #[.slice A1 l.length c1, .slice A2 ys.length c2, .slice A3 k1.length c3, .slice A4 k2.length c4] w fun e w' => e = .returned (.bool true) ∧ Below w.heap.size w w' := by
  have HSM := hid (jsmall_any w he hO)
  have HEB := hid (EB.of he hO)
  have HS1 := hid hs1; have HS2 := hid hs2; have HS3 := hid hs3; have HS4 := hid hs4
  have hl' := hl; have hys' := hys; have hk1' := hk1; have hk2' := hk2
  unfold maxLen at hl' hys' hk1' hk2'
  have HL := hid (And.intro hl (And.intro hys (And.intro hk1 hk2)))
  clear he hO hs1 hs2 hs3 hs4 hl hys hk1 hk2
  go_enter Tryd.func5, Tryd.ntmps5
  go_wp2_with fail
  refine HSM.out.mono ?_
  rintro e w1 ⟨rfl, hB⟩
  have B1 := hid hB
  have HF := fewJ_any A1 c1 l w1 HL.out.1 ((HS1.out.below hB).more hB.size)
  have HT := texts_any A2 c2 ys w1 HL.out.2.1 ((HS2.out.below hB).more hB.size)
  obtain ⟨rf, hrf⟩ : ∃ r, r = fewJ l := ⟨_, rfl⟩
  obtain ⟨rt, hrt⟩ : ∃ r, r = textsL ys := ⟨_, rfl⟩
  rw [← hrf] at HF
  rw [← hrt] at HT
  have HF := hid HF; have HT := hid HT; have HRF := hid hrf; have HRT := hid hrt
  clear hrf hrt hB HSM
  cases rf with
  | false =>
    go_wp2_with fail
    refine HF.out.mono ?_
    rintro e w2 ⟨rfl, rfl⟩
    go_wp2_with fail
    go_ret
    exact ⟨rfl, B1.out⟩
  | true =>
  cases rt with
  | false =>
    go_wp2_with fail
    refine HF.out.mono ?_
    rintro e w2 ⟨rfl, rfl⟩
    go_wp2_with fail
    refine HT.out.mono ?_
    rintro e w2 ⟨rfl, rfl⟩
    go_wp2_with fail
    go_ret
    exact ⟨rfl, B1.out⟩
  | true =>
  by_cases h50a : 50 < k1.length
  · have hI : (50 : Int) < (k1.length : Int) := by omega
    go_wp2_with fail
    refine HF.out.mono ?_
    rintro e w2 ⟨rfl, rfl⟩
    go_wp2_with fail
    refine HT.out.mono ?_
    rintro e w2 ⟨rfl, rfl⟩
    go_wp2_with fail
    go_ret
    exact ⟨rfl, B1.out⟩
  by_cases h50b : 50 < k2.length
  · have hI : (50 : Int) < (k2.length : Int) := by omega
    have hI2 : ¬ (50 : Int) < (k1.length : Int) := by omega
    go_wp2_with fail
    refine HF.out.mono ?_
    rintro e w2 ⟨rfl, rfl⟩
    go_wp2_with fail
    refine HT.out.mono ?_
    rintro e w2 ⟨rfl, rfl⟩
    go_wp2_with fail
    go_ret
    exact ⟨rfl, B1.out⟩
  have hI1 : ¬ (50 : Int) < (k1.length : Int) := by omega
  have hI2 : ¬ (50 : Int) < (k2.length : Int) := by omega
  have hkl : k1.length ≤ 50 ∧ k2.length ≤ 50 := by omega
  have HKL := hid hkl
  have HFW := hid (fewJ_iff.1 HRF.out.symm)
  have HYS := hid (show Bd 8 ys from by have := textsL_iff.1 HRT.out.symm; exact ⟨this.2, this.1⟩)
  clear h50a h50b hkl HRF HRT
  go_wp2_with fail
  refine HF.out.mono ?_
  rintro e w2 ⟨rfl, rfl⟩
  go_wp2_with fail
  refine HT.out.mono ?_
  rintro e w2 ⟨rfl, rfl⟩
  go_wp2_with fail
  refine (dnew_any w1).mono ?_
  rintro e w2 ⟨b, L0, rfl, hD, hB⟩
  have J0 := hid (show JD w w2 b 0 (fun x => x = []) 0 [] (fun s => s = ds0) from ⟨L0, ds0, ⟨hD.low_ B1.out.size, B1.out.trans (hB.mono B1.out.size), HEB.out.below (B1.out.trans (hB.mono B1.out.size)), safe_new 0⟩, fun r h => (by cases h), rfl⟩)
  clear hD hB HF HT B1 hI1 hI2
  go_wp2_with fail
  refine (jd_open J0.out (fun s h => by rw [h]; rfl) (by omega) (by omega) (fun l h => by rw [h]; exact Bd.nil _) (by omega)).mono ?_
  rintro e w3 ⟨jv, ec, rfl, -, hres⟩
  have K3 := hid (show JQ w w3 b 0 (Bd 0) (Bd 0) 2 [] jv from by
    rcases hres with ⟨rfl, _, _, h⟩ | ⟨jk, l0, rfl, _, hl0, h⟩
    · exact h.mono (by omega) (fun x h => by rw [h]; exact Bd.nil _) (fun x h => by rw [h]; exact Bd.nil _)
    · subst hl0
      exact h.jq.mono (by omega) (fun x h => by rw [h]; exact Bd.nil _) (fun x h => by rw [h]; exact Bd.nil _))
  have HJV := hid K3.out.jv_
  clear hres J0
  go_wp2_with fail
  go_loopw [11, 13] (fun jv iv wr => ∃ (k N : Nat), k ≤ l.length ∧ iv = .int .i64 (k : Nat) ∧ N ≤ 2 + 4002 * k ∧ JQ w wr b 0 (Bd (8 * k)) (Bd (8 * k)) N [] jv) (fun _ iv _ => l.length - (intOf iv).toNat)
  case atStart => exact ⟨0, 2, by omega, rfl, by omega, K3.out⟩
  case round =>
    clear K3 HJV
    obtain ⟨k, N, hk, rfl, hN, hQ⟩ := hrel
    have HQ := hid hQ
    have HJV := hid hQ.jv_
    have HB := hid hQ.low
    have hl25 := HFW.out.2
    clear hQ
    by_cases hlt : k < l.length
    case pos =>
      have hltI : (k : Int) < (l.length : Int) := by omega
      obtain ⟨g, off, a1, d1, a2, d2, rfl, hg, q0, q1, q2, q3, i0, i2, m1, m2, s1, s2⟩ := HS1.out.jop hlt
      replace q0 := (bcell HB.out g _ hg).trans q0
      replace q1 := (bcell HB.out g _ hg).trans q1
      replace q2 := (bcell HB.out g _ hg).trans q2
      replace q3 := (bcell HB.out g _ hg).trans q3
      have hgw := Nat.lt_of_lt_of_le hg HB.out.size
      have HFO := hid (HFW.out.1 _ (List.getElem_mem hlt))
      generalize l[k] = o at *
      obtain ⟨kd, L1, n, kp⟩ := o
      simp only at q0 q1 q2 q3 i0 i2 m1 m2 s1 s2
      have HSL := hid s1; have HSK := hid s2; have HI2 := hid i2
      have HBL := hid (show Bd 8 L1 from by have := textsL_iff.1 HFO.out.1; exact ⟨this.2, this.1⟩)
      have HBK := hid (show kp.length ≤ 50 from HFO.out.2)
      unfold maxLen at m1 m2
      have hW : ∀ m, Bd (8 * k) m → Bd (8 * (k + 1)) m := fun m h => h.mono (by omega)
      have HW := hid hW
      clear s1 s2 i0 i2 hW hlt
      by_cases h0 : kd = 0
      · subst h0
        rcases HJV.out with rfl | ⟨jk, rfl⟩
        · go_wp2_with fail
          go_roundw
          case rel => exact ⟨k + 1, N, by omega, by go_num, by omega, HQ.out.mono (by omega) HW.out HW.out⟩
          case measure => simp [intOf]; omega
        · have HC := hid (jq_append HQ.out ⟨by omega, by omega⟩ a1 d1 L1 HSL.out HBL.out (fun _ h => h) (by omega) (by omega))
          go_wp2_with fail
          refine HC.out.mono ?_
          rintro e w4 ⟨ec, l0, rfl, -, hq, hres⟩
          have HQ4 := hid (show JQ w w4 b 0 (Bd (8 * (k + 1))) (Bd (8 * (k + 1))) (N + 4000) [] (.pointer (some ⟨jk, 0, none⟩)) from by
            have h1 := HW.out _ hq
            have h2 : Bd (8 * (k + 1)) (l0 ++ L1) := (hq.app HBL.out).mono (by omega)
            rcases hres with ⟨_, h⟩ | ⟨_, _, h⟩ | ⟨_, _, _, h⟩
            · exact h.jq.mono (by omega) (fun x e => by rw [e]; exact h2) (fun x e => by rw [e]; exact h2)
            · exact h.mono (by omega) (fun x e => by rcases e with rfl | rfl <;> assumption) (fun x e => by rw [e]; exact h1)
            · exact h.mono (by omega) HW.out (fun x e => by rw [e]; exact h1))
          clear hres HC hq
          go_wp2_with fail
          go_roundw
          case rel => exact ⟨k + 1, N + 4000, by omega, by go_num, by omega, HQ4.out⟩
          case measure => simp [intOf]; omega
      have b0 : (kd == 0) = false := by simpa using h0
      by_cases h1 : kd = 1
      · subst h1
        rcases HJV.out with rfl | ⟨jk, rfl⟩
        · go_wp2_with fail
          go_roundw
          case rel => exact ⟨k + 1, N, by omega, by go_num, by omega, HQ.out.mono (by omega) HW.out HW.out⟩
          case measure => simp [intOf]; omega
        · have HC := hid (jq_cut HQ.out ⟨by omega, by omega⟩ n HI2.out (fun _ h => h) (by omega) (by omega))
          go_wp2_with fail
          refine HC.out.mono ?_
          rintro e w4 ⟨ec, l0, rfl, -, hq, hres⟩
          have HQ4 := hid (show JQ w w4 b 0 (Bd (8 * (k + 1))) (Bd (8 * (k + 1))) (N + 4000) [] (.pointer (some ⟨jk, 0, none⟩)) from by
            have h1 := HW.out _ hq
            have h2 : Bd (8 * (k + 1)) (l0.take n.toNat) := h1.take _
            rcases hres with ⟨_, _, _, h⟩ | ⟨_, _, _, _, h⟩ | ⟨_, _, _, h⟩
            · exact h.jq.mono (by omega) (fun x e => by rw [e]; exact h2) (fun x e => by rw [e]; exact h2)
            · exact h.mono (by omega) (fun x e => by rcases e with rfl | rfl <;> assumption) (fun x e => by rw [e]; exact h1)
            · exact h.mono (by omega) HW.out (fun x e => by rw [e]; exact h1))
          clear hres HC hq
          go_wp2_with fail
          go_roundw
          case rel => exact ⟨k + 1, N + 4000, by omega, by go_num, by omega, HQ4.out⟩
          case measure => simp [intOf]; omega
      have b1 : (kd == 1) = false := by simpa using h1
      by_cases h2 : kd = 2
      · subst h2
        have HC := hid (jq_lose HQ.out n HI2.out)
        go_wp2_with fail
        refine HC.out.mono ?_
        rintro e w4 ⟨rfl, hq, -⟩
        have HQ4 := hid hq
        clear hq HC
        go_wp2_with fail
        go_roundw
        case rel => exact ⟨k + 1, N, by omega, by go_num, by omega, HQ4.out.mono (by omega) HW.out HW.out⟩
        case measure => simp [intOf]; omega
      have b2 : (kd == 2) = false := by simpa using h2
      by_cases h4 : kd = 4
      · subst h4
        have HC := hid (jd_crash (P' := fun _ => True) HQ.out.disk a2 d2 kp (by have := HBK.out; omega) HSK.out (by omega) (fun _ _ _ _ => trivial))
        go_wp2_with fail
        refine HC.out.mono ?_
        rintro e w4 ⟨rfl, hd4, -⟩
        have HC2 := hid (jd_start (P' := fun _ => True) hd4 (fun _ _ => trivial))
        clear hd4 HC
        go_wp2_with fail
        refine HC2.out.mono ?_
        rintro e w5 ⟨rfl, hd5, -⟩
        have HC3 := hid (jd_open hd5 (fun s h => h.1) (by omega) (by omega) (fun x h => h.mono (by omega)) (by omega))
        clear hd5 HC2
        go_wp2_with fail
        refine HC3.out.mono ?_
        rintro e w6 ⟨jv2, ec, rfl, -, hres⟩
        have HQ6 := hid (show JQ w w6 b 0 (Bd (8 * (k + 1))) (Bd (8 * (k + 1))) (N + 2) [] jv2 from by
          rcases hres with ⟨rfl, _, _, h⟩ | ⟨jk2, l0, rfl, _, hl0, h⟩
          · exact h.mono (by omega) HW.out HW.out
          · have := HW.out _ hl0
            exact h.jq.mono (by omega) (fun x h => by rw [h]; exact this) (fun x h => by rw [h]; exact this))
        clear hres HC3
        go_wp2_with fail
        go_roundw
        case rel => exact ⟨k + 1, N + 2, by omega, by go_num, by omega, HQ6.out⟩
        case measure => simp [intOf]; omega
      have b4 : (kd == 4) = false := by simpa using h4
      go_wp2_with fail
      go_roundw
      case rel => exact ⟨k + 1, N, by omega, by go_num, by omega, HQ.out.mono (by omega) HW.out HW.out⟩
      case measure => simp [intOf]; omega
    case neg =>
      obtain rfl : k = l.length := by omega
      clear HJV
      have HJV := hid HQ.out.jv_
      have hm200 : 8 * l.length ≤ 200 := by omega
      have hlt9 : ¬ (l.length : Int) < (l.length : Int) := by omega
      rcases HJV.out with rfl | ⟨jk, rfl⟩
      · go_wp2_with fail
        go_ret
        exact ⟨rfl, HB.out⟩
      obtain ⟨cb, v, l0, br, hl0, hJ, hQ2⟩ := HQ.out.pin
      have HL0 := hid (hl0.mono hm200)
      have l0l : l0.length ≤ 200 := by have := HL0.out.1; omega
      have HA := hid (all_any w.heap.size jk b cb 0 v l0 br wr hJ (by omega))
      have HQ2 := hid hQ2
      clear hl0 hJ hQ2 HQ HJV
      go_wp2_with fail
      refine HA.out.mono ?_
      rintro e w4 ⟨gb, rfl, -, hO, hB⟩
      obtain ⟨bv, hbv⟩ : ∃ bv, bv = Value.slice (some ⟨gb, 0, none⟩) l0.length l0.length := ⟨_, rfl⟩
      have hO2 := hO
      rw [← hbv] at hO2
      have HQ4 := hid (HQ2.out.row hB hO2)
      have HBV := hid hbv
      have HB4 := hid (HB.out.trans (hB.mono HB.out.size))
      clear hO hO2 hB hbv HA HQ2
      have HC := hid (jq_append HQ4.out ⟨by omega, by omega⟩ A2 c2 ys HS2.out HYS.out (fun x e => by rw [e]; exact HL0.out) (by omega) (by omega))
      go_wp2_with fail
      refine HC.out.mono ?_
      rintro e w5 ⟨ec, l1, rfl, -, rfl, hres⟩
      clear HC
      have hOK := hid HL0.out.max_
      by_cases hec : ec = 0
      case neg =>
        have hecb : (ec != 0) = true := by simpa using hec
        have HQ5 := hid (show ∃ Ls, JQ w w5 b 0 Ls (fun x => x = l1) (N + 4000) [(bv, l1)] (.pointer (some ⟨jk, 0, none⟩)) from by
          rcases hres with ⟨h, _⟩ | ⟨_, _, h⟩ | ⟨_, _, _, h⟩
          · exact absurd h hec
          · exact ⟨_, h⟩
          · exact ⟨_, h⟩)
        obtain ⟨Ls, hQ5⟩ := HQ5.out
        obtain ⟨cb2, v2, l2, br2, hl2, hJ2⟩ := jq_jr hQ5
        have hrow := hQ5.rows_ _ (List.mem_singleton.2 rfl)
        simp only at hrow hl2
        subst hl2
        have HA2 := hid (all_any w.heap.size jk b cb2 0 v2 l2 br2 w5 hJ2 (by omega))
        have HR2 := hid hrow
        have HB5 := hid hQ5.low
        clear hres hJ2 hrow hQ5 HQ5
        go_wp2_with fail
        refine HA2.out.mono ?_
        rintro e w6 ⟨gc, rfl, -, hO, hB⟩
        obtain ⟨Ac, cc, hvc, hsc⟩ := row_slr hO hOK.out
        injection hvc with e1 e2 e3
        subst e1
        obtain ⟨Ab, cbb, hvb, hsb⟩ := row_slr (HR2.out.below hB) hOK.out
        have hbv2 := HBV.out
        rw [hvb] at hbv2
        injection hbv2 with e4 e5 e6
        subst e4
        have hsm := sameTexts_any (some ⟨gc, 0, none⟩) (some ⟨gb, 0, none⟩) l2.length l2.length l2 l2 w6 hsc hsb (by unfold maxLen; omega) (by unfold maxLen; omega)
        rw [decide_eq_true rfl] at hsm
        have HSAM := hid hsm
        have HB6 := hid (HB5.out.trans (hB.mono HB5.out.size))
        clear hO hB hsc hsb hsm HA2 HR2 e2 e3 e5 e6 hvb HBV HQ4
        go_wp2_with fail
        refine HSAM.out.mono ?_
        rintro e w7 ⟨rfl, hB⟩
        have HB7 := hid (HB6.out.trans (hB.mono HB6.out.size))
        clear hB
        go_wp2_with fail
        go_ret
        exact ⟨rfl, HB7.out⟩
      case pos =>
        subst hec
        have HG5 := hid (show JG w w5 b 0 (l1 ++ ys) (N + 4000) [(bv, l1)] jk (fun _ => True) from by
          rcases hres with ⟨_, h⟩ | ⟨h, _⟩ | ⟨h, _⟩
          · exact h
          · exact absurd rfl h
          · exact absurd rfl h)
        have hrow := HG5.out.rows_ _ (List.mem_singleton.2 rfl)
        simp only at hrow
        have HR5 := hid hrow
        have hYL := hid (show SlR w5 w5.heap.size A2 ys from (HS2.out.below HG5.out.low).more HG5.out.low.size)
        have hyb : ys.length ≤ 8 := HYS.out.1
        clear hres hrow HQ4
        have hwb := hid HG5.out.low.size
        rw [HBV.out] at HR5
        go_upto_region 30 with (at_builtin; refine row_appL rfl (.tmp 120) (.tmp 121) rfl rfl HR5.out hOK.out rfl hYL.out (by omega) hwb.out ?_; intro A6 c6 w6 hO6 hg6 hl6; have O6 := hid hO6; have G6 := hid hg6; have L6 := hid hl6; clear hO6 hg6 hl6)
        obtain ⟨lw, hlw⟩ : ∃ lw, lw = l1 ++ ys := ⟨_, rfl⟩
        have hlen : l1.length + ys.length = lw.length := by rw [hlw, List.length_append]
        have HW6 := HG5.out.grow (by rw [HBV.out]; exact G6.out) O6.out (by rw [HBV.out]; exact L6.out)
        rw [← hlw, hlen] at HW6
        rw [hlen]
        have HG6 := hid HW6
        have hokw := hid (show ∀ x ∈ lw, x.size ≤ maxLen from by
          rw [hlw]; intro x hx
          rcases List.mem_append.1 hx with h | h
          · exact hOK.out x h
          · exact HYS.out.max_ x h)
        have HBW := hid (show ∀ x ∈ lw, x.size ≤ 200 from by
          rw [hlw]; intro x hx
          rcases List.mem_append.1 hx with h | h
          · exact HL0.out.2 x h
          · exact HYS.out.2 x h)
        have hlwl : lw.length ≤ 300 := by omega
        clear HW6 hlw hlen O6 G6 L6 HR5 HG5 HBV hwb
        have HC7 := hid (jg_lose HG6.out 0 ⟨by omega, by omega⟩)
        go_wp2_with fail
        refine HC7.out.mono ?_
        rintro e w7 ⟨rfl, h7⟩
        have HG7 := hid (h7.mono (Nat.le_refl _) (P' := fun s => s.lost = 0) (fun s h => h))
        clear h7 HC7 HG6
        obtain ⟨N7, hN7⟩ : ∃ n, n = N + 4000 := ⟨_, rfl⟩
        rw [← hN7] at HG7
        have hN7b : N7 ≤ 1000000 := by omega
        clear hN7
        obtain ⟨wv, hwv⟩ : ∃ wv, wv = Value.slice A6 lw.length c6 := ⟨_, rfl⟩
        rw [← hwv] at HG7
        have HWV := hid hwv
        clear hwv
        go_wp2_with fail
        go_loopw [11, 16, 17] (fun jv iv _ wr => ∃ (k jk : Nat), k ≤ 2 ∧ iv = .int .i64 (k : Nat) ∧ jv = .pointer (some ⟨jk, 0, none⟩) ∧ JG w wr b 0 lw (N7 + 2 * k) [(wv, lw)] jk (fun s => s.lost = 0)) (fun _ iv _ _ => 2 - (intOf iv).toNat)
        case atStart => exact ⟨0, jk, by omega, rfl, rfl, HG7.out⟩
        case round =>
          clear HG7
          obtain ⟨k, jk, hk2, rfl, rfl, hG⟩ := hrel
          have HG := hid hG
          obtain ⟨cb, v, hJ⟩ := hG.jr
          have hrow := hG.rows_ _ (List.mem_singleton.2 rfl)
          simp only at hrow
          rw [HWV.out] at hrow
          have HR := hid hrow
          have HA := hid (all_any w.heap.size jk b cb 0 v lw false wr hJ (by omega))
          have HSAM := hid (fun (gc : Nat) (W : World) (hO : strRK.Own W wr.heap.size (.slice (some ⟨gc, 0, none⟩) lw.length lw.length) lw) (hB : Below wr.heap.size wr W) => show Calls Tryd.prog 17 #[.slice (some ⟨gc, 0, none⟩) lw.length lw.length, .slice A6 lw.length c6] W fun e w' => e = .returned (.bool true) ∧ Below W.heap.size W w' from by
            obtain ⟨Ac, cc, hvc, hsc⟩ := row_slr hO hokw.out
            injection hvc with e1 _ _
            subst e1
            obtain ⟨Ab, cbb, hvb, hsb⟩ := row_slr (HR.out.below hB) hokw.out
            injection hvb with e4 _ _
            subst e4
            have hsm := sameTexts_any (some ⟨gc, 0, none⟩) A6 lw.length c6 lw lw W hsc hsb (by unfold maxLen; omega) (by unfold maxLen; omega)
            rw [decide_eq_true rfl] at hsm
            exact hsm)
          clear hG hJ hrow
          have hlw1 : ¬ 9223372036854775807 < lw.length := by omega
          by_cases hlt2 : k < 2
          case pos =>
            have hltI : (k : Int) < 2 := by omega
            go_wp2_with fail
            refine HA.out.mono ?_
            rintro e w8 ⟨gc, rfl, -, hO, hB⟩
            have HS8 := hid (HSAM.out gc w8 hO hB)
            have HG8 := hid (HG.out.below hB)
            clear hO hB HA HSAM
            go_wp2_with fail
            refine HS8.out.mono ?_
            rintro e w9 ⟨rfl, hB⟩
            have HG9 := hid (HG8.out.below hB)
            clear hB HS8 HG8
            rcases (show k = 0 ∨ k = 1 by omega) with rfl | rfl
            all_goals
              have HC1 := hid (fun (A : Option Addr) (c : Nat) (kp : List Int) (h1 : kp.length ≤ 50) (h2 : SlR w w.heap.size A kp) => jd_crash (P' := fun s => s.armed = 0 ∧ s.lost = 0) HG9.out.disk A c kp (by omega) h2 (by omega) (fun s s' h hc => ⟨(hc.2.2 h.1).1, (hc.2.2 h.1).2.1.trans h.2⟩))
            · have HCR := hid (HC1.out A3 c3 k1 HKL.out.1 HS3.out)
              go_wp2_with fail
              refine HCR.out.mono ?_
              rintro e w10 ⟨rfl, hd, -⟩
              have HC2 := hid (jd_start (P' := fun s => s.armed = 0 ∧ s.lost = 0) hd (fun s h => h))
              clear hd HCR HC1
              go_wp2_with fail
              refine HC2.out.mono ?_
              rintro e w11 ⟨rfl, hd, -⟩
              have HC3 := hid (jd_open hd (fun s h => h.1) (by omega) (by omega) (fun x h => by rw [h]; exact ⟨by omega, HBW.out⟩) (by omega))
              clear hd HC2
              go_wp2_with fail
              refine HC3.out.mono ?_
              rintro e w12 ⟨jv2, ec2, rfl, -, hres⟩
              rcases hres with ⟨_, _, h, _⟩ | ⟨jk2, l2, rfl, rfl, hl2, h⟩
              · exact absurd (fun s h => ⟨h.2.1, h.2.2, h.1⟩) h
              subst hl2
              have HG12 := hid (h.jg.mono (Nat.le_refl _) (P' := fun s => s.lost = 0) (fun s h => (h (fun s h => ⟨h.2.1, h.2.2, h.1⟩)).2.1))
              clear h HC3
              go_wp2_with fail
              go_roundw
              case rel => exact ⟨1, jk2, by omega, rfl, rfl, HG12.out⟩
              case measure => simp [intOf]
            · have HCR := hid (HC1.out A4 c4 k2 HKL.out.2 HS4.out)
              go_wp2_with fail
              refine HCR.out.mono ?_
              rintro e w10 ⟨rfl, hd, -⟩
              have HC2 := hid (jd_start (P' := fun s => s.armed = 0 ∧ s.lost = 0) hd (fun s h => h))
              clear hd HCR HC1
              go_wp2_with fail
              refine HC2.out.mono ?_
              rintro e w11 ⟨rfl, hd, -⟩
              have HC3 := hid (jd_open hd (fun s h => h.1) (by omega) (by omega) (fun x h => by rw [h]; exact ⟨by omega, HBW.out⟩) (by omega))
              clear hd HC2
              go_wp2_with fail
              refine HC3.out.mono ?_
              rintro e w12 ⟨jv2, ec2, rfl, -, hres⟩
              rcases hres with ⟨_, _, h, _⟩ | ⟨jk2, l2, rfl, rfl, hl2, h⟩
              · exact absurd (fun s h => ⟨h.2.1, h.2.2, h.1⟩) h
              subst hl2
              have HG12 := hid (h.jg.mono (Nat.le_refl _) (P' := fun s => s.lost = 0) (fun s h => (h (fun s h => ⟨h.2.1, h.2.2, h.1⟩)).2.1))
              clear h HC3
              go_wp2_with fail
              go_roundw
              case rel => exact ⟨2, jk2, by omega, rfl, rfl, HG12.out⟩
              case measure => simp [intOf]
          case neg =>
            obtain rfl : k = 2 := by omega
            go_wp2_with fail
            refine HA.out.mono ?_
            rintro e w8 ⟨gc, rfl, -, hO, hB⟩
            have HS8 := hid (HSAM.out gc w8 hO hB)
            have HB8 := hid (HG.out.low.trans (hB.mono HG.out.low.size))
            clear hO hB HA HSAM
            go_wp2_with fail
            refine HS8.out.mono ?_
            rintro e w9 ⟨rfl, hB⟩
            have HB9 := hid (HB8.out.trans (hB.mono HB8.out.size))
            clear hB HS8
            go_wp2_with fail
            go_ret
            exact ⟨rfl, HB9.out⟩
end Go.Proofs.YtbefmjodpndndaaDoor
