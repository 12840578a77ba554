
/- Game: GameForces, the walk. -/
import Derived.Test.YtiaplhdgchbkkaaGamY
import Derived.Test.YtiaplhdgchbkkaaReg
set_option linter.unusedSimpArgs false
set_option linter.unusedVariables false
namespace Go.Proofs.Ytiaplhdgchbkkaa
open Go.RowKit Go.IntWalk Go.Shelf

set_option maxRecDepth 100000 in
set_option maxHeartbeats 40000000 in
theorem gforces_any (w : World) (Ag Am : Option Addr) (cg cm : Nat) (g : Gm) (h : GmR w w.heap.size Ag Am g) (pos : Int) (hpos : I64 pos) (A : Option Addr) (c : Nat) (ch : List Int) (hl : ch.length ≤ maxLen) (hs : SlR w w.heap.size A ch) (worst : Bool) :
    Calls Try.prog 5 #[.agg #[.slice Ag g.1.length cg, .slice Am g.2.length cm], .int .i64 pos, .slice A ch.length c, .bool worst] w fun e w' => e = .returned (.bool true) ∧ Below w.heap.size w w' := by
  have B1 := hid (show Below w.heap.size w (w.alloc (Obj.cells #[.slice Ag g.1.length cg, .slice Am g.2.length cm] 25)) by (repeat (first | exact Below.refl _ _ | assumption | refine below_drewN ?_ _ | refine Below.drew ?_ | refine Below.alloc ?_ (by (try simp); (try omega)) _ | refine Below.setCell ?_ (by (try simp); (try omega)) _)))
  have X1 := hid (Blk.new w 25 #[.slice Ag g.1.length cg, .slice Am g.2.length cm])
  have H := hid h
  have HCH := hid hs
  have HS := hid (small_any (w.alloc (Obj.cells #[.slice Ag g.1.length cg, .slice Am g.2.length cm] 25)))
  have hcl : ch.length ≤ 9223372036854775807 := by unfold maxLen at hl; omega
  have hpb := hpos.bd
  clear h hs hpos
  go_enter Try.func5, Try.ntmps5
  go_wp2_with fail
  refine HS.out.mono ?_
  rintro e w2 ⟨rfl, hB2⟩
  have B2 := hid (B1.out.trans (hB2.mono B1.out.size))
  have X2 := hid (X1.out.below hB2 X1.out.lt)
  have G2 := hid (H.out.to B2.out)
  clear hB2 B1 X1 HS
  have x0 := X2.out.cell 0; have x1 := X2.out.cell 1; have xz := X2.out.lt
  simp at x0 x1
  have HG := hid (given_any Ag Am cg cm g 60 (by omega) w2 G2.out)
  go_wp2_with fail
  refine HG.out.mono ?_
  rintro e w3 ⟨rfl, hB3⟩
  have B3 := hid (B2.out.trans (hB3.mono B2.out.size))
  have X3 := hid (X2.out.below hB3 X2.out.lt)
  have G3 := hid (H.out.to B3.out)
  clear hB3 B2 X2 HG G2 x0 x1 xz
  have x0 := X3.out.cell 0; have x1 := X3.out.cell 1; have xz := X3.out.lt
  simp at x0 x1
  cases hgv : fewL g 60 && rightL g with
  | false =>
    as_aux_lemma =>
      go_wp2_with fail
      go_ret
      exact ⟨rfl, B3.out⟩
  | true =>
    rw [Bool.and_eq_true] at hgv
    have hok := hid (ok_of hgv.1 hgv.2 (by omega))
    have hright := hid hgv.2
    have HA := hid H.out.acts
    have hg60 : g.1.length ≤ 60 := by
      have := hgv.1
      simp only [fewL, Bool.and_eq_true, decide_eq_true_eq] at this
      omega
    clear hgv
    by_cases h1 : (100 : Int) < ch.length
    · as_aux_lemma =>
        go_wp2_with fail
        go_ret
        exact ⟨rfl, B3.out⟩
    have HR := hid (solve_any Ag Am cg cm g w3 G3.out hok.out)
    go_wp2_with fail
    refine HR.out.mono ?_
    rintro e w4 ⟨v4, rfl, ho4, hB4⟩
    obtain ⟨AS, cS, rfl, hlS, hsS, hs1⟩ := solve_form hok.out ho4 (solve_rows hok.out HA.out)
    have B4 := hid (B3.out.trans (hB4.mono B3.out.size))
    have X4 := hid (X3.out.below hB4 X3.out.lt)
    have T4 := hid hsS
    have HLS := hid hlS
    clear ho4 hB4 hsS hlS hs1 x0 x1 xz HR X3 B3 G3 HA
    have x0 := X4.out.cell 0; have x1 := X4.out.cell 1; have xz := X4.out.lt
    simp at x0 x1
    have HR := hid (ranks_any Ag Am cg cm g w4 (H.out.to B4.out) hok.out)
    go_wp2_with fail
    refine HR.out.mono ?_
    rintro e w5 ⟨v5, rfl, ho5, hB5⟩
    obtain ⟨AR, cR, rfl, hlR, hsR, hrn, hr1, hrb⟩ := rank_form hok.out ho5
    have B5 := hid (B4.out.trans (hB5.mono B4.out.size))
    have X5 := hid (X4.out.below hB5 X4.out.lt)
    have T5 := hid ((T4.out.below hB5).more hB5.size)
    have S5 := hid hsR
    have HLR := hid hlR; have HRN := hid hrn; have HRB := hid hrb
    clear ho5 hB5 hsR hlR hrn hr1 hrb x0 x1 xz HR X4 B4 T4
    have x0 := X5.out.cell 0; have x1 := X5.out.cell 1; have xz := X5.out.lt
    simp at x0 x1
    have HR := hid (row_any AS cS (solveL g) pos w5 HLS.out T5.out)
    by_cases hno : ∀ p : Nat, p < g.1.length → pos = p → (rankL g).getD p 0 < 0
    · rw [row_no hno] at HR
      simp only at HR
      clear hno
      as_aux_lemma =>
        go_wp2_with fail
        refine HR.out.mono ?_
        rintro e w6 ⟨rfl, hB6⟩
        have B6 := hid (B5.out.trans (hB6.mono B5.out.size))
        have B7 := hid (B6.out.alloc B6.out.size (Obj.cells #[.int .i64 0, .int .i64 0, .int .i64 0] 43))
        clear hB6 HR
        go_wp2_with fail
        go_ret
        exact ⟨rfl, B7.out⟩
    simp only [Classical.not_forall, Int.not_lt] at hno
    obtain ⟨p0, hp0, rfl, hr0⟩ := hno
    rw [row_yes hp0 hr0] at HR
    simp only at HR
    have HR0 := hid hr0
    clear hr0
    go_wp2_with fail
    refine HR.out.mono ?_
    rintro e w6 ⟨rfl, hB6⟩
    have n6 : Blk (w6.alloc (Obj.cells #[.int .i64 (frow g p0).1, .int .i64 (frow g p0).2.1, .int .i64 (frow g p0).2.2] 43)) w6.heap.size 43 #[.int .i64 (frow g p0).1, .int .i64 (frow g p0).2.1, .int .i64 (frow g p0).2.2] := Blk.new _ _ _
    have N7 := hid n6
    have b67 : Below w5.heap.size w5 (w6.alloc (Obj.cells #[.int .i64 (frow g p0).1, .int .i64 (frow g p0).2.1, .int .i64 (frow g p0).2.2] 43)) := hB6.alloc hB6.size _
    have B7 := hid (B5.out.trans (b67.mono B5.out.size))
    have C7 := hid b67
    have hzx := hB6.size
    clear hB6 b67 n6 HR x0 x1 xz
    go_upto_region 7 with fail
    generalize hw7 : w6.alloc _ = w7 at *
    clear hw7
    generalize w6.heap.size = gx at *
    have HN0 := hid (row_yes hp0 HR0.out)
    have hr0l := hid (rank_le hok.out p0)
    have X7 := hid (X5.out.below C7.out X5.out.lt)
    have hgx1 : w.heap.size ≤ gx := by have := B5.out.size; omega
    have hgx2 : w5.heap.size ≤ gx := hzx
    have hgx3 : w.heap.size < gx := by have := X5.out.lt; omega
    have hp0' : (p0 : Int) < g.1.length := by omega
    have F7 := hid (show Blk w7 gx 43 #[.int .i64 (p0 : Int), .int .i64 (frow g p0).2.1, .int .i64 ((rankL g).getD p0 0)] from N7.out)
    clear N7 hzx
    go_wp2_with fail
    go_loopw [14] (fun rv wr => ∃ p r : Nat, rv = .int .i64 r ∧ p < g.1.length ∧ 0 ≤ (rankL g).getD p 0 ∧ (r : Int) + (rankL g).getD p 0 ≤ (rankL g).getD p0 0 ∧ (worst = true → (r : Int) + (rankL g).getD p 0 = (rankL g).getD p0 0) ∧ Blk wr gx 43 #[.int .i64 (p : Int), .int .i64 (frow g p).2.1, .int .i64 ((rankL g).getD p 0)] ∧ Below w.heap.size w wr ∧ Below w5.heap.size w5 wr) (fun rv _ => 100 - (intOf rv).toNat)
    case atStart => exact ⟨p0, 0, rfl, hp0, HR0.out, by omega, fun _ => by omega, F7.out, B7.out, C7.out⟩
    case round =>
      clear F7 X7
      obtain ⟨p, r, rfl, hp, hrp0, hle, heq, hF, hB, hB5⟩ := hrel
      have HBQ := hid (And.intro hB hB5)
      have HF := hid hF
      have X8 := hid (X5.out.below hB5 X5.out.lt)
      have y0 := hF.cell 0; have y1 := hF.cell 1; have y2 := hF.cell 2; have yz := hF.lt
      have x0 := X8.out.cell 0; have x1 := X8.out.cell 1; have xz := X8.out.lt
      simp only [List.getElem?_toArray, List.getElem?_cons_succ, List.getElem?_cons_zero] at x0 x1 y0 y1 y2
      have hpl := rank_le hok.out p0
      have hpg := hp
      have hzero := hid ((rankL_rk hok.out).zero p hp)
      have hlaw := hid (fun h1 => force_law hok.out hright.out hp h1)
      have hrpd := hid (show (rankL g).getD p 0 = (rankL g).getD p 0 from rfl)
      obtain ⟨rp, hrp⟩ : ∃ rp, (rankL g).getD p 0 = rp := ⟨_, rfl⟩
      obtain ⟨act, hact⟩ : ∃ act, (frow g p).2.1 = act := ⟨_, rfl⟩
      rw [hrp] at hrp0 hle heq y2 hzero
      rw [hact] at y1
      have HRP := hid hrp; have HACT := hid hact
      have HEQ := hid heq; have HLE := hid hle
      obtain ⟨r00, hr00⟩ : ∃ r00, (rankL g).getD p0 0 = r00 := ⟨_, rfl⟩
      have HR00 := hid hr00
      rw [hr00] at hle hpl
      clear hF hrpd hrp hact heq hr00
      by_cases hpos : 0 < rp
      · obtain ⟨k0, hk0, hfr, hne, hgd, q9, hq1, hq2, hq3⟩ := hlaw.out (by rw [HRP.out]; omega)
        rw [HACT.out] at hfr hne hq1
        have HGD := hid hgd; have HQ := hid (And.intro hq1 (And.intro hq2 hq3))
        have hpm : p < g.2.length := by have := hok.out.n; omega
        have HM := hid (move_any Ag Am cg cm g p k0 act (g.2.getD p []) rfl wr (H.out.to hB) hok.out hpm hk0 hfr.symm hne)
        have hmo := hok.out.m (g.2.getD p []) (by have : g.2.getD p [] = g.2[p] := (by rw [List.getD, List.getElem?_eq_getElem hpm]; rfl); rw [this]; exact List.getElem_mem hpm) _ (List.getElem_mem hk0)
        have hmo1 := hmo.1; have hmo2 := hmo.2.2.1
        clear hgd hmo hq1 hq2 hq3 hne hfr
        generalize (g.2.getD p [])[k0].2 = tos at *
        have hpos9 : 0 < tos.length := List.length_pos_iff.2 hmo2
        have hpos8 : ¬ (tos.length : Int) = 0 := by omega
        have hpos7 : ((tos.length : Int) == 0) = false := by simpa using hmo2
        have hrb7 : ¬ ((tos.length : Int) == 0) = true := by rw [hpos7]; simp
        have hrb : ¬ (60 : Int) < r := by omega
        have hrb2 : (r : Int) ≤ 60 := by omega
        clear hmo2 hk0
        go_wp2_with fail
        refine HM.out.mono ?_
        rintro e w8 ⟨A2, c2, rfl, hs2, hB8⟩
        have b8 : Below wr.heap.size wr (w8.alloc (Obj.cells #[.int .i64 act, .slice A2 tos.length c2] 41)) := hB8.alloc hB8.size _
        have M9 := Blk.new w8 41 #[.int .i64 act, .slice A2 tos.length c2]
        go_upto_region 12 with fail
        generalize w8.alloc _ = w9 at *
        generalize w8.heap.size = gm at *
        clear HM hB8 hlaw
        have HS2 := hid hs2
        have HB9 := hid (And.intro (HBQ.out.1.trans (b8.mono HBQ.out.1.size)) (HBQ.out.2.trans (b8.mono HBQ.out.2.size)))
        have F9 := hid (HF.out.below b8 HF.out.lt)
        have M10 := hid M9
        have B89 := hid b8
        have X9 := hid (X8.out.below b8 X8.out.lt)
        have m1 := M9.cell 1; have mz := M9.lt
        simp at m1
        obtain ⟨bT, oT, rfl, hbT, hd0, _⟩ := hs2.int hpos9
        replace hd0 := (bcell B89.out bT _ hbT).trans hd0
        have hzT : bT < w9.heap.size := by have := B89.out.size; omega
        have hm0 := hid (List.getElem_mem hpos9)
        obtain ⟨t0, ht0⟩ : ∃ t0, tos[0] = t0 := ⟨_, rfl⟩
        rw [ht0] at hd0 hm0
        simp only [Nat.add_zero] at hd0
        clear ht0 hs2 M9 b8 hB hB5 x0 x1 xz y0 y1 y2 yz
        go_upto_if 79 with fail
        go_cut [17, 18] (fun tv nv wx => (∃ t, t ∈ tos ∧ tv = .int .i64 t) ∧ Below w9.heap.size w9 wx)
        case first =>
          by_cases hlt : (r : Int) < ch.length
          · have hlt2 : r < ch.length := by omega
            obtain ⟨bC, oC, hAC, hbC, hcC, _⟩ := HCH.out.int hlt2
            have hci := hid (HCH.out.ints _ (List.getElem_mem hlt2))
            replace hcC := (bcell HB9.out.1 bC _ hbC).trans hcC
            have hzC : bC < w9.heap.size := by have := HB9.out.1.size; omega
            subst hAC
            generalize ch[r] = cx at *
            have hix := idxOf_lt cx tos.length hpos9
            obtain ⟨k, hk⟩ : ∃ k : Nat, idxOf cx tos.length = k := ⟨(idxOf cx tos.length).toNat, by omega⟩
            have hkl : k < tos.length := by omega
            have hkl' : (k : Int) < tos.length := by omega
            have hcase : (cx.tmod tos.length < 0 ∧ cx.tmod tos.length + tos.length = k) ∨ (¬ cx.tmod tos.length < 0 ∧ cx.tmod tos.length = k) := by
              rw [← hk]; unfold idxOf; split <;> omega
            have hwt : IntKind.i64.wrap (cx.tmod tos.length) = cx.tmod tos.length := IntWalk.i64_in _ (by omega)
            have hdT := HS2.out.int_at hkl
            replace hdT := (bcell B89.out bT _ hbT).trans hdT
            have htk := hid (List.getElem_mem hkl)
            obtain ⟨tk, htke⟩ : ∃ tk, tos[k] = tk := ⟨_, rfl⟩
            rw [htke] at hdT htk
            clear hix hk htke
            rcases hcase with ⟨ha, hb⟩ | ⟨ha, hb⟩
            all_goals
              as_aux_lemma =>
                have HKB := hid hb
                go_wp2_with fail
                go_quiet (fail)
                go_wp2_with fail
                go_meet
                exact ⟨⟨tk, htk.out, rfl⟩, below_drewN (Below.refl _ _) _⟩
          · as_aux_lemma =>
              go_wp2_with fail
              go_meet
              exact ⟨⟨t0, hm0.out, rfl⟩, Below.refl _ _⟩
        case rest =>
          obtain ⟨⟨t, htm, rfl⟩, bc⟩ := hcut
          have HB10 := hid (And.intro (HB9.out.1.trans (bc.mono HB9.out.1.size)) (HB9.out.2.trans (bc.mono HB9.out.2.size)))
          have F10 := hid (F9.out.below bc F9.out.lt)
          have X10 := hid (X9.below bc X9.lt)
          have HTM := hid htm
          clear bc htm F9 X9 M10 m1 mz hd0 hzT HB9 B89 hm0
          have y0 := F10.out.cell 0; have y1 := F10.out.cell 1; have y2 := F10.out.cell 2; have yz := F10.out.lt
          have x0 := X10.out.cell 0; have x1 := X10.out.cell 1; have xz := X10.out.lt
          rw [HACT.out] at y1
          rw [HRP.out] at y2
          simp only [List.getElem?_toArray, List.getElem?_cons_succ, List.getElem?_cons_zero] at x0 x1 y0 y1 y2
          generalize hwd : wc = wd at *
          clear hwd
          go_upto_if 100 with fail
          go_cut [17, 19, 20] (fun tv _ _ wx => (∃ q : Nat, tv = .int .i64 q ∧ q < g.1.length ∧ 0 ≤ (rankL g).getD q 0 ∧ (rankL g).getD q 0 + 1 ≤ rp ∧ (worst = true → (rankL g).getD q 0 + 1 = rp)) ∧ Below wd.heap.size wd wx)
          case first =>
            cases worst with
            | true =>
              have HA := hid (answer_any Ag Am AR cg cm cR g (rankL g) p act wd (H.out.to HB10.out.1) hok.out HLR.out ((S5.out.below HB10.out.2).more HB10.out.2.size))
              rw [HQ.out.1] at HA
              simp only at HA
              as_aux_lemma =>
                go_wp2_with fail
                refine HA.out.mono ?_
                rintro e w11 ⟨rfl, hB11⟩
                have b11 := hid hB11
                clear hB11 HA
                go_wp2_with fail
                go_meet
                exact ⟨⟨q9, rfl, HQ.out.2.1, by rw [HQ.out.2.2, HRP.out]; omega, by rw [HQ.out.2.2, HRP.out]; omega, fun _ => by rw [HQ.out.2.2, HRP.out]; omega⟩, b11.out⟩
            | false =>
              have h9 := HGD.out t HTM.out
              have hfin := hid (show ∃ q : Nat, Value.int .i64 t = .int .i64 q ∧ q < g.1.length ∧ 0 ≤ (rankL g).getD q 0 ∧ (rankL g).getD q 0 + 1 ≤ rp ∧ (false = true → (rankL g).getD q 0 + 1 = rp) from ⟨t.toNat, by rw [Int.toNat_of_nonneg h9.1], by omega, h9.2.2.1, by rw [← HRP.out]; omega, fun h => by cases h⟩)
              clear h9
              as_aux_lemma =>
                go_wp2_with fail
                go_meet
                exact ⟨hfin.out, Below.refl _ _⟩
          case rest =>
            obtain ⟨⟨q, rfl, hq, hq0, hq1, hq2⟩, bc⟩ := hcut
            have HB11 := hid (And.intro (HB10.out.1.trans (bc.mono HB10.out.1.size)) (HB10.out.2.trans (bc.mono HB10.out.2.size)))
            have F11 := hid (F10.out.below bc F10.out.lt)
            have HR := hid (row_any AS cS (solveL g) q wc HLS.out ((T5.out.below HB11.out.2).more HB11.out.2.size))
            rw [row_yes hq hq0] at HR
            have hfr : (frow g q).1 = (q : Int) := rfl
            have hfr2 : (frow g q).2.2 = (rankL g).getD q 0 := rfl
            simp only [hfr, hfr2] at HR
            have HFR := hid (show ∀ W, Blk W gx 43 #[.int .i64 (q : Int), .int .i64 (frow g q).2.1, .int .i64 ((rankL g).getD q 0)] → Blk W gx 43 #[.int .i64 (q : Int), .int .i64 (frow g q).2.1, .int .i64 ((rankL g).getD q 0)] from fun _ h => h)
            obtain ⟨rq, hrq⟩ : ∃ rq, (rankL g).getD q 0 = rq := ⟨_, rfl⟩
            obtain ⟨aq, haq⟩ : ∃ aq, (frow g q).2.1 = aq := ⟨_, rfl⟩
            rw [hrq] at HR hq0 hq1 hq2 HFR
            rw [haq] at HR HFR
            have HRQ := hid hrq; have HAQ := hid haq
            have HQ2 := hid hq2
            have hpls := hid (rank_le hok.out q)
            clear hfr hfr2 hrq haq hq2 bc F10 X10 y0 y1 y2 yz x0 x1 xz HFR
            go_wp2_with fail
            refine HR.out.mono ?_
            rintro e w12 ⟨rfl, hB12⟩
            have b12 : Below wc.heap.size wc (w12.alloc (Obj.cells #[.int .i64 (q : Int), .int .i64 aq, .int .i64 rq] 43)) := hB12.alloc hB12.size _
            have HB12 := hid (And.intro (HB11.out.1.trans (b12.mono HB11.out.1.size)) (HB11.out.2.trans (b12.mono HB11.out.2.size)))
            have N12 := Blk.new w12 43 #[.int .i64 (q : Int), .int .i64 aq, .int .i64 rq]
            have F12 := hid (F11.out.below b12 F11.out.lt)
            have hxy : gx < w12.heap.size := by have := F11.out.lt; have := hB12.size; omega
            clear hB12 HR b12 F11 HB11 HB10
            go_upto_region 26 with fail
            generalize w12.alloc _ = w13 at *
            generalize w12.heap.size = gy at *
            have hxy2 : gx ≠ gy := by omega
            have y0 := F12.out.cell 0; have y1 := F12.out.cell 1; have y2 := F12.out.cell 2; have yz := F12.out.lt
            have yf0 := F12.out.frozen 0; have yf1 := F12.out.frozen 1; have yf2 := F12.out.frozen 2
            have v0 := N12.cell 0; have v1 := N12.cell 1; have v2 := N12.cell 2; have vz := N12.lt
            rw [HACT.out] at y1
            rw [HRP.out] at y2
            simp only [List.getElem?_toArray, List.getElem?_cons_succ, List.getElem?_cons_zero] at y0 y1 y2 v0 v1 v2
            have FIN := hid (show Blk (((w13.setCell ⟨gx, 0, none⟩ (.int .i64 (q : Int))).setCell ⟨gx, 1, none⟩ (.int .i64 aq)).setCell ⟨gx, 2, none⟩ (.int .i64 rq)) gx 43 #[.int .i64 (q : Int), .int .i64 aq, .int .i64 rq] ∧ Below w.heap.size w (((w13.setCell ⟨gx, 0, none⟩ (.int .i64 (q : Int))).setCell ⟨gx, 1, none⟩ (.int .i64 aq)).setCell ⟨gx, 2, none⟩ (.int .i64 rq)) ∧ Below w5.heap.size w5 (((w13.setCell ⟨gx, 0, none⟩ (.int .i64 (q : Int))).setCell ⟨gx, 1, none⟩ (.int .i64 aq)).setCell ⟨gx, 2, none⟩ (.int .i64 rq)) from
              ⟨by simpa using ((F12.out.set_ 0 (.int .i64 (q : Int))).set_ 1 (.int .i64 aq)).set_ 2 (.int .i64 rq), ((HB12.out.1.setCell hgx1 _).setCell hgx1 _).setCell hgx1 _, ((HB12.out.2.setCell hgx2 _).setCell hgx2 _).setCell hgx2 _⟩)
            have hws : IntKind.i64.wrap (rp - 1) = rp - 1 := IntWalk.i64_in _ (by omega)
            have hlt : ¬ rp ≤ rq := by omega
            clear F12 N12 HB12
            cases worst with
            | true =>
              obtain rfl : rp = rq + 1 := by have := HQ2.out rfl; omega
              have hws2 : IntKind.i64.wrap (rq + 1 - 1) = rq := by rw [hws]; omega
              clear hws
              as_aux_lemma =>
                go_wp2_with fail
                go_roundw
                case rel => exact ⟨q, r + 1, by go_num, hq, by rw [HRQ.out]; exact hq0, by rw [HRQ.out]; have := HLE.out; omega, (by rw [HRQ.out]; intro _; have := HEQ.out rfl; omega), by rw [HRQ.out, HAQ.out]; exact FIN.out.1, FIN.out.2.1, FIN.out.2.2⟩
                case measure => simp [intOf]; omega
            | false =>
              as_aux_lemma =>
                go_wp2_with fail
                go_roundw
                case rel => exact ⟨q, r + 1, by go_num, hq, by rw [HRQ.out]; exact hq0, by rw [HRQ.out]; have := HLE.out; omega, (by rw [HRQ.out]; intro h; cases h), by rw [HRQ.out, HAQ.out]; exact FIN.out.1, FIN.out.2.1, FIN.out.2.2⟩
                case measure => simp [intOf]; omega
      · have hrp9 : rp = 0 := by omega
        subst hrp9
        have hgo : g.1.getD p false = true := hzero.out.1 rfl
        obtain ⟨bG, oG, hAG, hbG, hcG⟩ := H.out.goal.bool hp
        replace hcG := (bcell hB bG _ hbG).trans hcG
        have hgo2 : g.1[p] = true := by rw [← hgo]; simp [List.getD, hp]
        rw [hgo2] at hcG
        have hzG : bG < wr.heap.size := by have := hB.size; omega
        subst hAG
        have hp9 : (p : Int) < g.1.length := by omega
        have HCG := hid hcG
        have HR := hid (row_any AS cS (solveL g) p0 wr HLS.out ((T5.out.below hB5).more hB5.size))
        rw [HN0.out] at HR
        have hfr : (frow g p0).1 = (p0 : Int) := rfl
        have hfr2 : (frow g p0).2.2 = (rankL g).getD p0 0 := rfl
        simp only [hfr, hfr2] at HR
        rw [HR00.out] at HR
        obtain ⟨aq, haq⟩ : ∃ aq, (frow g p0).2.1 = aq := ⟨_, rfl⟩
        rw [haq] at HR
        have hle9 : (r : Int) ≤ r00 := by omega
        clear hfr hfr2 haq hcG hlaw hgo hgo2 hzero
        go_wp2_with fail
        refine HR.out.mono ?_
        rintro e w12 ⟨rfl, hB12⟩
        have b12 : Below wr.heap.size wr (w12.alloc (Obj.cells #[.int .i64 (p0 : Int), .int .i64 aq, .int .i64 r00] 43)) := hB12.alloc hB12.size _
        have HB12 := hid (HBQ.out.1.trans (b12.mono HBQ.out.1.size))
        have F12 := hid (HF.out.below b12 HF.out.lt)
        have X12 := hid (X8.out.below b12 X8.out.lt)
        have N12 := Blk.new w12 43 #[.int .i64 (p0 : Int), .int .i64 aq, .int .i64 r00]
        have hcG := (bcell b12 bG (oG + p) (by omega)).trans HCG.out
        have hzG2 : bG < (w12.alloc (Obj.cells #[.int .i64 (p0 : Int), .int .i64 aq, .int .i64 r00] 43)).heap.size := by have := b12.size; omega
        clear hB12 HR b12 hzG x0 x1 xz y0 y1 y2 yz
        go_upto_region 31 with fail
        generalize w12.alloc _ = w13 at *
        generalize w12.heap.size = gy at *
        have y0 := F12.out.cell 0; have y1 := F12.out.cell 1; have y2 := F12.out.cell 2; have yz := F12.out.lt
        have v0 := N12.cell 0; have v1 := N12.cell 1; have v2 := N12.cell 2; have vz := N12.lt
        have x0 := X12.out.cell 0; have x1 := X12.out.cell 1; have xz := X12.out.lt
        rw [HRP.out] at y2
        simp only [List.getElem?_toArray, List.getElem?_cons_succ, List.getElem?_cons_zero] at y0 y1 y2 v0 v1 v2 x0 x1
        cases worst with
        | true =>
          have he9 := HEQ.out rfl
          rw [HR00.out] at he9
          obtain rfl : r00 = r := by omega
          as_aux_lemma =>
            go_wp2_with fail
            go_ret
            exact ⟨rfl, HB12.out⟩
        | false =>
          as_aux_lemma =>
            go_wp2_with fail
            go_ret
            exact ⟨rfl, HB12.out⟩
end Go.Proofs.Ytiaplhdgchbkkaa
