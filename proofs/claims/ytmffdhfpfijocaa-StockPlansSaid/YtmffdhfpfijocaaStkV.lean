
/- Stock: StockRecalls, the walk. -/
import Derived.Test.YtmffdhfpfijocaaStkU
set_option linter.unusedSimpArgs false
set_option linter.unusedVariables false
namespace Go.Proofs.Ytmffdhfpfijocaa
open Go.RowKit Go.IntWalk

theorem given_parts {ks : List Kd} {lots : List Lt} {bs : List Bx} (h : (fewS ks lots bs 20 && rightS ks lots bs) = true) : (ks.length ≤ 20 ∧ lots.length ≤ 20 ∧ bs.length ≤ 20) ∧ rightS ks lots bs = true ∧ (∀ b ∈ bs, b.1 < lots.length) ∧ CntOK bs := by
  simp only [Bool.and_eq_true] at h
  obtain ⟨h1, h2⟩ := h
  refine ⟨?_, h2, ?_⟩
  · simp only [fewS, Bool.and_eq_true, decide_eq_true_eq] at h1
    omega
  · simp only [rightS, Bool.and_eq_true] at h2
    have hb := List.all_eq_true.1 h2.1.2
    constructor
    · intro b hb'
      have := hb b hb'
      simp only [boxF, btw, Bool.and_eq_true, decide_eq_true_eq] at this
      omega
    · intro b hb'
      have := hb b hb'
      simp only [boxF, btw, Bool.and_eq_true, decide_eq_true_eq] at this
      omega
theorem goneL_bd {lots : List Lt} {bs : List Bx} {w : Wt} {n : Int} (h : CntOK bs) : ∀ i, i ≤ bs.length → 0 ≤ goneL lots (bs.take i) w n ∧ goneL lots (bs.take i) w n ≤ 20000 * i := by
  intro i
  induction i with
  | zero => intro _; simp [goneL, sumI]
  | succ i ih =>
    intro hi
    have h1 := ih (by omega)
    have h2 := h _ (List.getElem_mem (show i < bs.length by omega))
    rw [goneL_take (by omega)]
    split <;> constructor <;> omega
set_option maxRecDepth 100000 in
set_option maxHeartbeats 8000000 in
theorem srecalls_any (A B C : Option Addr) (c d e0 : Nat) (ks : List Kd) (lots : List Lt) (bs : List Bx) (x : Wt) (lot tick : Int) (w : World) (hk : ks.length ≤ maxLen) (hl : lots.length ≤ maxLen) (hb : bs.length ≤ maxLen) (h1 : SlR w w.heap.size A ks) (h2 : SlR w w.heap.size B lots) (h3 : SlR w w.heap.size C bs) :
    Calls Try.prog 6 #[.agg #[.slice A ks.length c, .slice B lots.length d, .slice C bs.length e0], .agg #[.int .i64 x.1, .int .i64 x.2.1, .int .i64 x.2.2], .int .i64 lot, .int .i64 tick] w fun e w' => e = .returned (.bool true) ∧ Below w.heap.size w w' := by
  obtain ⟨xk, xc, xu⟩ := x
  simp only
  obtain ⟨w1, hw1⟩ : ∃ w1, w1 = (w.alloc (Obj.cells #[.slice A ks.length c, .slice B lots.length d, .slice C bs.length e0] 26)).alloc (Obj.cells #[.int .i64 xk, .int .i64 xc, .int .i64 xu] 43) := ⟨_, rfl⟩
  have B1 := hid (show Below w.heap.size w w1 by rw [hw1]; (repeat (first | exact Below.refl _ _ | assumption | refine below_drewN ?_ _ | refine Below.drew ?_ | refine Below.alloc ?_ (by (try simp); (try omega)) _ | refine Below.setCell ?_ (by (try simp); (try omega)) _)))
  have X1 := hid (show Blk w1 w.heap.size 26 #[.slice A ks.length c, .slice B lots.length d, .slice C bs.length e0] by rw [hw1]; exact (Blk.new w _ _).alloc _)
  have Y1 := hid (show Blk w1 (w.heap.size + 1) 43 #[.int .i64 xk, .int .i64 xc, .int .i64 xu] by rw [hw1]; exact Blk.new_at (by simp))
  have H1 := hid h1; have H2 := hid h2; have H3 := hid h3
  have HS := hid (ssmall_any w1)
  have HG := hid (fun W (hW : Below w.heap.size w W) => given_any A B C c d e0 ks lots bs W hk hl hb ((H1.out.below hW).more hW.size) ((H2.out.below hW).more hW.size) ((H3.out.below hW).more hW.size))
  clear h1 h2 h3
  go_enter Try.func6, Try.ntmps6
  go_upto_region 1 with fail
  rw [← hw1]
  clear hw1
  go_wp2_with fail
  refine HS.out.mono ?_
  rintro e w2 ⟨rfl, hB⟩
  have B2 := hid (B1.out.trans (hB.mono B1.out.size))
  have X2 := hid (X1.out.below hB X1.out.lt)
  have Y2 := hid (Y1.out.below hB Y1.out.lt)
  have HG2 := hid (HG.out w2 B2.out)
  clear hB HS HG B1 X1 Y1
  have x0 := X2.out.cell 0; have x1 := X2.out.cell 1; have x2 := X2.out.cell 2; have xz := X2.out.lt
  simp at x0 x1 x2
  go_wp2_with fail
  refine HG2.out.mono ?_
  rintro e w3 ⟨rfl, hB⟩
  have B3 := hid (B2.out.trans (hB.mono B2.out.size))
  have X3 := hid (X2.out.below hB X2.out.lt)
  have Y3 := hid (Y2.out.below hB Y2.out.lt)
  clear hB HG2 B2 X2 Y2 x0 x1 x2 xz
  cases hg : (fewS ks lots bs 20 && rightS ks lots bs) with
  | false =>
    as_aux_lemma =>
      go_wp2_with fail
      go_ret
      exact ⟨rfl, B3.out⟩
  | true =>
    obtain ⟨⟨k20, l20, b20⟩, hr, hlt, hc⟩ := given_parts hg
    have HRT := hid hr; have HLT := hid hlt; have HCN := hid hc
    have HRC := hid (fun W (hW : Below w.heap.size w W) => recall_any B d lots lot W (by omega) ((H2.out.below hW).more hW.size))
    have HRC3 := hid (HRC.out w3 B3.out)
    clear hg hr hlt hc HRC
    have x0 := X3.out.cell 0; have x1 := X3.out.cell 1; have x2 := X3.out.cell 2; have xz := X3.out.lt
    simp at x0 x1 x2
    by_cases hin : 0 ≤ lot ∧ lot < lots.length
    case neg =>
      have hrec := hid (show recL lots lot = ([], 4) by unfold recL; rw [if_neg hin])
      have hlI : ¬ 0 ≤ lot ∨ ¬ lot < lots.length := by omega
      as_aux_lemma =>
        go_wp2_with fail
        refine HRC3.out.mono ?_
        rintro e w4 ⟨A4, c4, rfl, _, _, hB⟩
        rw [hrec.out]
        simp only [List.length_nil]
        have X4 := hid (X3.out.below hB X3.out.lt)
        have B4 := hid (B3.out.trans (hB.mono B3.out.size))
        clear hB x0 x1 x2 xz
        have x0 := X4.out.cell 0; have x1 := X4.out.cell 1; have x2 := X4.out.cell 2; have xz := X4.out.lt
        simp at x0 x1 x2
        by_cases h0 : lot < 0
        · go_wp2_with fail
          go_ret
          exact ⟨rfl, B4.out⟩
        · have h7 : ¬ lot < lots.length := by omega
          have h8 : (lots.length : Int) ≤ lot := by omega
          go_wp2_with fail
          go_ret
          exact ⟨rfl, B4.out⟩
    obtain ⟨k, rfl⟩ := Int.eq_ofNat_of_zero_le hin.1
    have hkl : k < lots.length := by omega
    have hkI : (k : Int) < lots.length := by omega
    have HRC4 := hid (show Calls Try.prog 19 #[.slice B lots.length d, .int .i64 (k : Int)] w3 (fun e w' => ∃ (A : Option Addr) (c : Nat), e = .returned (.tuple #[.slice A lots.length c, .int .i64 0]) ∧ SlR w' w'.heap.size A (frz lots k) ∧ Below w3.heap.size w3 w') from HRC3.out.mono (fun e w' h => by
      obtain ⟨A, c, h1, _, h2, h3⟩ := h
      rw [rec_frz hkl] at h1 h2
      rw [show ((frz lots k, (0 : Int)).1).length = lots.length from frz_len lots k] at h1
      exact ⟨A, c, h1, h2, h3⟩))
    clear HRC3 hin
    go_wp2_with fail
    refine HRC4.out.mono ?_
    rintro e w4 ⟨A4, c4, rfl, s4, hB⟩
    have F4 := hid s4
    have B4 := hid (B3.out.trans (hB.mono B3.out.size))
    have X4 := hid (X3.out.below hB X3.out.lt)
    have Y4 := hid (Y3.out.below hB Y3.out.lt)
    clear s4 hB HRC4 B3 X3 Y3 x0 x1 x2 xz
    have x0 := X4.out.cell 0; have x1 := X4.out.cell 1; have x2 := X4.out.cell 2; have xz := X4.out.lt
    simp at x0 x1 x2
    go_wp2_with fail
    clear x0 x1 x2 xz
    have HBD := hid (fun i hi => goneL_bd (lots := lots) (w := (xk, xc, xu)) (n := (k : Int)) HCN.out i hi)
    go_loopw [12, 13] (fun gv iv wr => ∃ i : Nat, i ≤ bs.length ∧ iv = .int .i64 i ∧ gv = .int .i64 (goneL lots (bs.take i) (xk, xc, xu) (k : Int)) ∧ Below w4.heap.size w4 wr) (fun _ iv _ => bs.length - (intOf iv).toNat)
    case atStart => exact ⟨0, by omega, rfl, rfl, Below.refl _ _⟩
    case round =>
      obtain ⟨i, hi, rfl, rfl, hB⟩ := hrel
      have HB := hid hB
      have XR := hid (X4.out.below hB X4.out.lt)
      have YR := hid (Y4.out.below hB Y4.out.lt)
      have FR := hid ((F4.out.below hB).more hB.size)
      have BR := hid (B4.out.trans (hB.mono B4.out.size))
      clear hB
      have x0 := XR.out.cell 0; have x1 := XR.out.cell 1; have x2 := XR.out.cell 2; have xz := XR.out.lt
      have y0 := YR.out.cell 0; have y1 := YR.out.cell 1; have y2 := YR.out.cell 2; have yz := YR.out.lt
      simp at x0 x1 x2 y0 y1 y2
      by_cases hil : i < bs.length
      case neg =>
        obtain rfl : i = bs.length := by omega
        have hgb := HBD.out bs.length (Nat.le_refl _)
        rw [List.take_length] at hgb
        have HRD := hid (show Calls Try.prog 19 #[.slice A4 lots.length c4, .int .i64 (k : Int)] wr (fun e w' => ∃ (A : Option Addr) (c : Nat), e = .returned (.tuple #[.slice A lots.length c, .int .i64 0]) ∧ SlR w' w'.heap.size A (frz lots k) ∧ Below wr.heap.size wr w') from by
          have h := recall_any A4 c4 (frz lots k) (k : Int) wr (by rw [frz_len]; omega) FR.out
          rw [frz_len] at h
          refine h.mono (fun e w' h => ?_)
          obtain ⟨A, c, h1, _, h2, h3⟩ := h
          rw [rec_frz (by rw [frz_len]; exact hkl), frz_frz hkl] at h1 h2
          rw [show ((frz lots k, (0 : Int)).1).length = lots.length from frz_len lots k] at h1
          exact ⟨A, c, h1, h2, h3⟩)
        rw [List.take_length]
        generalize hgg : goneL lots bs (xk, xc, xu) (k : Int) = gn at *
        go_upto_region 15 with fail
        go_wp2_with fail
        refine HRD.out.mono ?_
        rintro e w6 ⟨A6, c6, rfl, s6, hB6⟩
        have S6 := hid s6
        have F6 := hid ((FR.out.below hB6).more hB6.size)
        have B6 := hid (BR.out.trans (hB6.mono BR.out.size))
        have b6 := hid (HB.out.trans (hB6.mono HB.out.size))
        have xz6 : w.heap.size < w6.heap.size := by have := hB6.size; omega
        have yz6 : w.heap.size + 1 < w6.heap.size := by have := hB6.size; omega
        replace x0 := (bcell hB6 _ _ xz).trans x0
        replace x1 := (bcell hB6 _ _ xz).trans x1
        replace x2 := (bcell hB6 _ _ xz).trans x2
        replace y0 := (bcell hB6 _ _ yz).trans y0
        replace y1 := (bcell hB6 _ _ yz).trans y1
        replace y2 := (bcell hB6 _ _ yz).trans y2
        have X6 := hid (XR.out.below hB6 XR.out.lt)
        have Y6 := hid (YR.out.below hB6 YR.out.lt)
        obtain ⟨b, off, rfl, hbz, c0, c1, c2, -⟩ := F6.out.lt (show k < (frz lots k).length by rw [frz_len]; exact hkl)
        have hkf := hid (frz_fit hkl (xk, xc, xu))
        rw [show (frz lots k).getD k (0, 0, false) = (frz lots k)[k]'(by rw [frz_len]; exact hkl) from by simp [List.getD_eq_getElem?_getD, frz_len, hkl]] at hkf
        generalize (frz lots k)[k]'(by rw [frz_len]; exact hkl) = fk at *
        obtain ⟨f0, f1, f2⟩ := fk
        simp only at c0 c1 c2
        have hsb := HCN.out.supply lots (xk, xc, xu) bs.length
        rw [List.take_length] at hsb
        have hsf := hid (frz_supply hkl bs (xk, xc, xu))
        rw [hgg] at hsf
        have HS1 := hid (fun (W : World) (hW : Below w6.heap.size w6 W) => supply_any (some ⟨b, off, none⟩) C c4 e0 (frz lots k) bs (xk, xc, xu) W (by rw [frz_len]; exact hl) (by omega) ((F6.out.below hW).more hW.size) ((H3.out.below (B6.out.trans (hW.mono B6.out.size))).more (B6.out.trans (hW.mono B6.out.size)).size) HCN.out (by rw [frz_len]; exact HLT.out))
        rw [hsf.out, frz_len] at HS1
        have HS2 := hid (fun (W : World) (hW : Below w6.heap.size w6 W) => supply_any B C d e0 lots bs (xk, xc, xu) W hl (by omega) ((H2.out.below (B6.out.trans (hW.mono B6.out.size))).more (B6.out.trans (hW.mono B6.out.size)).size) ((H3.out.below (B6.out.trans (hW.mono B6.out.size))).more (B6.out.trans (hW.mono B6.out.size)).size) HCN.out HLT.out)
        have HS3 := hid (fun (W : World) (hW : Below w6.heap.size w6 W) => sfits_any (f0, f1, f2) (xk, xc, xu) W)
        rw [hkf.out] at HS3
        have HS4 := hid (fun (W : World) (hW : Below w6.heap.size w6 W) => samelots_any A6 (some ⟨b, off, none⟩) c6 c4 (frz lots k) (frz lots k) W (by rw [frz_len]; exact hl) (by rw [frz_len]; exact hl) ((S6.out.below hW).more hW.size) ((F6.out.below hW).more hW.size))
        rw [frz_len] at HS4
        simp only [decide_true] at HS4
        have HSF := hid (fun (wq : World) (hq : Below w6.heap.size w6 wq) => And.intro ((bcell hq _ _ xz6).trans x1) (And.intro ((bcell hq _ _ xz6).trans x2) (And.intro ((bcell hq _ _ yz6).trans y0) (And.intro ((bcell hq _ _ yz6).trans y1) (And.intro ((bcell hq _ _ yz6).trans y2) (And.intro ((bcell hq _ _ hbz).trans c0) (And.intro ((bcell hq _ _ hbz).trans c1) ((bcell hq _ _ hbz).trans c2))))))))
        generalize supplyL lots bs (xk, xc, xu) = sp at *
        have hw1 : IntKind.i64.wrap (sp - gn) = sp - gn := IntWalk.i64_in _ (by omega)
        have BD := hid ((Below.refl w6.heap.size w6).drew)
        go_upto_region 16 with fail
        refine wpIn_wide.1 (wpIn_region_S (n := 0) (fun wq => Below w6.heap.size w6 wq) [] (by kernel_rfl) BD.out (fun hHeld => ?_))
        refine wpAnyG_pure 0 (v := ?_) (fun _ => trivial) (by simp only [List.getElem?_toArray, List.getElem?_cons_succ, List.getElem?_cons_zero]; rfl) (by kernel_rfl) (fun _ _ _ _ _ h => h) ⟨(by rfl), (by intro c h; cases h), ?_⟩ hHeld ?_
        rotate_left
        focus (intro wS hSw; (try replace hSw := HSF.out wS hSw); (try dsimp only at hSw); go_simp; (try with_reducible rfl))
        (try simp only [Act.put, List.setIfInBounds_toArray, List.set_cons_zero, List.set_cons_succ])
        refine wpAnyG_pure 1 (v := ?_) (fun _ => trivial) (by simp only [List.getElem?_toArray, List.getElem?_cons_succ, List.getElem?_cons_zero]; rfl) (by kernel_rfl) (fun _ _ _ _ _ h => h) ⟨(by rfl), (by intro c h; cases h), ?_⟩ hHeld ?_
        rotate_left
        focus (intro wS hSw; (try replace hSw := HSF.out wS hSw); (try dsimp only at hSw); go_simp; (try with_reducible rfl))
        (try simp only [Act.put, List.setIfInBounds_toArray, List.set_cons_zero, List.set_cons_succ])
        refine wpAnyG_take 2 (v := ?_) (fun _ => trivial) (by simp only [List.getElem?_toArray, List.getElem?_cons_succ, List.getElem?_cons_zero]; rfl) (by kernel_rfl) (fun _ _ _ _ _ h => h) ⟨(by rfl), (by intro c h; cases h), ?_⟩ hHeld ?_
        rotate_left
        focus (intro wS hSw; (try replace hSw := HSF.out wS hSw); (try dsimp only at hSw); go_simp; (try with_reducible rfl))
        (try simp only [Act.put, List.setIfInBounds_toArray, List.set_cons_zero, List.set_cons_succ])
        refine wpAnyG_take 3 (v := ?_) (fun _ => trivial) (by simp only [List.getElem?_toArray, List.getElem?_cons_succ, List.getElem?_cons_zero]; rfl) (by kernel_rfl) (fun _ _ _ _ _ h => h) ⟨(by rfl), (by intro c h; cases h), ?_⟩ hHeld ?_
        rotate_left
        focus (intro wS hSw; (try replace hSw := HSF.out wS hSw); (try dsimp only at hSw); go_simp; (try with_reducible rfl))
        (try simp only [Act.put, List.setIfInBounds_toArray, List.set_cons_zero, List.set_cons_succ])
        refine wpAnyG_pure 5 (v := ?_) (fun _ => trivial) (by simp only [List.getElem?_toArray, List.getElem?_cons_succ, List.getElem?_cons_zero]; rfl) (by kernel_rfl) (fun _ _ _ _ _ h => h) ⟨(by rfl), (by intro c h; cases h), ?_⟩ hHeld ?_
        rotate_left
        focus (intro wS hSw; (try replace hSw := HSF.out wS hSw); (try dsimp only at hSw); go_simp; (try with_reducible rfl))
        (try simp only [Act.put, List.setIfInBounds_toArray, List.set_cons_zero, List.set_cons_succ])
        refine wpAnyG_take 6 (v := ?_) (fun _ => trivial) (by simp only [List.getElem?_toArray, List.getElem?_cons_succ, List.getElem?_cons_zero]; rfl) (by kernel_rfl) (fun _ _ _ _ _ h => h) ⟨(by rfl), (by intro c h; cases h), ?_⟩ hHeld ?_
        rotate_left
        focus (intro wS hSw; (try replace hSw := HSF.out wS hSw); (try dsimp only at hSw); go_simp; (try with_reducible rfl))
        (try simp only [Act.put, List.setIfInBounds_toArray, List.set_cons_zero, List.set_cons_succ])
        refine wpAnyG_pure 7 (v := ?_) (fun _ => trivial) (by simp only [List.getElem?_toArray, List.getElem?_cons_succ, List.getElem?_cons_zero]; rfl) (by kernel_rfl) (fun _ _ _ _ _ h => h) ⟨(by rfl), (by intro c h; cases h), ?_⟩ hHeld ?_
        rotate_left
        focus (intro wS hSw; (try replace hSw := HSF.out wS hSw); (try dsimp only at hSw); go_simp; (try with_reducible rfl))
        (try simp only [Act.put, List.setIfInBounds_toArray, List.set_cons_zero, List.set_cons_succ])
        refine wpAnyG_take 8 (v := ?_) (fun _ => trivial) (by simp only [List.getElem?_toArray, List.getElem?_cons_succ, List.getElem?_cons_zero]; rfl) (by kernel_rfl) (fun _ _ _ _ _ h => h) ⟨(by rfl), (by intro c h; cases h), ?_⟩ hHeld ?_
        rotate_left
        focus (intro wS hSw; (try replace hSw := HSF.out wS hSw); (try dsimp only at hSw); go_simp; (try with_reducible rfl))
        (try simp only [Act.put, List.setIfInBounds_toArray, List.set_cons_zero, List.set_cons_succ])
        refine wpAnyG_take 9 (v := ?_) (fun _ => trivial) (by simp only [List.getElem?_toArray, List.getElem?_cons_succ, List.getElem?_cons_zero]; rfl) (by kernel_rfl) (fun _ _ _ _ _ h => h) ⟨(by rfl), (by intro c h; cases h), ?_⟩ hHeld ?_
        rotate_left
        focus (intro wS hSw; (try replace hSw := HSF.out wS hSw); (try dsimp only at hSw); go_simp; (try with_reducible rfl))
        (try simp only [Act.put, List.setIfInBounds_toArray, List.set_cons_zero, List.set_cons_succ])
        refine wpAnyG_pure 11 (v := ?_) (fun _ => trivial) (by simp only [List.getElem?_toArray, List.getElem?_cons_succ, List.getElem?_cons_zero]; rfl) (by kernel_rfl) (fun _ _ _ _ _ h => h) ⟨(by rfl), (by intro c h; cases h), ?_⟩ hHeld ?_
        rotate_left
        focus (intro wS hSw; (try replace hSw := HSF.out wS hSw); (try dsimp only at hSw); go_simp; (try with_reducible rfl))
        (try simp only [Act.put, List.setIfInBounds_toArray, List.set_cons_zero, List.set_cons_succ])
        refine wpAnyS_ready [4] (by kernel_rfl) (by simp) (AllReadyS.consG (by simp only [List.getElem?_toArray, List.getElem?_cons_succ, List.getElem?_cons_zero]; rfl) (by rfl) (fun K hK => ?_) AllReadyS.nil)
        refine callS (by intro c h; cases h) (by go_simp; try with_reducible rfl) (HS1.out _ BD.out) ?_
        intro w7 hBq
        have B7 := hid (BD.out.trans (hBq.mono BD.out.size))
        refine hK.out _ _ B7.out ?_
        (try simp only [Act.put, List.setIfInBounds_toArray, List.set_cons_zero, List.set_cons_succ])
        clear hK K hBq
        clear hHeld
        have hHeld := B7.out
        refine wpAnyS_ready [10] (by kernel_rfl) (by simp) (AllReadyS.consG (by simp only [List.getElem?_toArray, List.getElem?_cons_succ, List.getElem?_cons_zero]; rfl) (by rfl) (fun K hK => ?_) AllReadyS.nil)
        refine callS (by intro c h; cases h) (by go_simp; try with_reducible rfl) (HS2.out _ B7.out) ?_
        intro w8 hBq
        have B8 := hid (B7.out.trans (hBq.mono B7.out.size))
        refine hK.out _ _ B8.out ?_
        (try simp only [Act.put, List.setIfInBounds_toArray, List.set_cons_zero, List.set_cons_succ])
        clear hK K hBq
        clear hHeld
        have hHeld := B8.out
        refine wpAnyG_pure 12 (v := ?_) (fun _ => trivial) (by simp only [List.getElem?_toArray, List.getElem?_cons_succ, List.getElem?_cons_zero]; rfl) (by kernel_rfl) (fun _ _ _ _ _ h => h) ⟨(by rfl), (by intro c h; cases h), ?_⟩ hHeld ?_
        rotate_left
        focus (intro wS hSw; (try replace hSw := HSF.out wS hSw); (try dsimp only at hSw); go_simp; (try with_reducible rfl))
        (try simp only [Act.put, List.setIfInBounds_toArray, List.set_cons_zero, List.set_cons_succ])
        refine wpAnyG_pure 13 (v := ?_) (fun _ => trivial) (by simp only [List.getElem?_toArray, List.getElem?_cons_succ, List.getElem?_cons_zero]; rfl) (by kernel_rfl) (fun _ _ _ _ _ h => h) ⟨(by rfl), (by intro c h; cases h), ?_⟩ hHeld ?_
        rotate_left
        focus (intro wS hSw; (try replace hSw := HSF.out wS hSw); (try dsimp only at hSw); go_simp; (try with_reducible rfl))
        (try simp only [Act.put, List.setIfInBounds_toArray, List.set_cons_zero, List.set_cons_succ])
        refine wpAnyG_pure 14 (v := ?_) (fun _ => trivial) (by simp only [List.getElem?_toArray, List.getElem?_cons_succ, List.getElem?_cons_zero]; rfl) (by kernel_rfl) (fun _ _ _ _ _ h => h) ⟨(by rfl), (by intro c h; cases h), ?_⟩ hHeld ?_
        rotate_left
        focus (intro wS hSw; (try replace hSw := HSF.out wS hSw); (try dsimp only at hSw); go_simp; (try with_reducible rfl))
        (try simp only [Act.put, List.setIfInBounds_toArray, List.set_cons_zero, List.set_cons_succ])
        refine wpAnyG_pure 15 (v := ?_) (fun _ => trivial) (by simp only [List.getElem?_toArray, List.getElem?_cons_succ, List.getElem?_cons_zero]; rfl) (by kernel_rfl) (fun _ _ _ _ _ h => h) ⟨(by rfl), (by intro c h; cases h), ?_⟩ hHeld ?_
        rotate_left
        focus (intro wS hSw; (try replace hSw := HSF.out wS hSw); (try dsimp only at hSw); go_simp; (try with_reducible rfl))
        (try simp only [Act.put, List.setIfInBounds_toArray, List.set_cons_zero, List.set_cons_succ])
        refine wpAnyG_pure 16 (v := ?_) (fun _ => trivial) (by simp only [List.getElem?_toArray, List.getElem?_cons_succ, List.getElem?_cons_zero]; rfl) (by kernel_rfl) (fun _ _ _ _ _ h => h) ⟨(by rfl), (by intro c h; cases h), ?_⟩ hHeld ?_
        rotate_left
        focus (intro wS hSw; (try replace hSw := HSF.out wS hSw); (try dsimp only at hSw); go_simp; (try with_reducible rfl))
        (try simp only [Act.put, List.setIfInBounds_toArray, List.set_cons_zero, List.set_cons_succ])
        refine wpAnyG_pure 17 (v := ?_) (fun _ => trivial) (by simp only [List.getElem?_toArray, List.getElem?_cons_succ, List.getElem?_cons_zero]; rfl) (by kernel_rfl) (fun _ _ _ _ _ h => h) ⟨(by rfl), (by intro c h; cases h), ?_⟩ hHeld ?_
        rotate_left
        focus (intro wS hSw; (try replace hSw := HSF.out wS hSw); (try dsimp only at hSw); go_simp; (try with_reducible rfl))
        (try simp only [Act.put, List.setIfInBounds_toArray, List.set_cons_zero, List.set_cons_succ])
        refine wpAnyG_take 18 (v := ?_) (fun _ => trivial) (by simp only [List.getElem?_toArray, List.getElem?_cons_succ, List.getElem?_cons_zero]; rfl) (by kernel_rfl) (fun _ _ _ _ _ h => h) ⟨(by rfl), (by intro c h; cases h), ?_⟩ hHeld ?_
        rotate_left
        focus (intro wS hSw; (try replace hSw := HSF.out wS hSw); (try dsimp only at hSw); go_simp; (try with_reducible rfl))
        (try simp only [Act.put, List.setIfInBounds_toArray, List.set_cons_zero, List.set_cons_succ])
        refine wpAnyG_take 19 (v := ?_) (fun _ => trivial) (by simp only [List.getElem?_toArray, List.getElem?_cons_succ, List.getElem?_cons_zero]; rfl) (by kernel_rfl) (fun _ _ _ _ _ h => h) ⟨(by rfl), (by intro c h; cases h), ?_⟩ hHeld ?_
        rotate_left
        focus (intro wS hSw; (try replace hSw := HSF.out wS hSw); (try dsimp only at hSw); go_simp; (try with_reducible rfl))
        (try simp only [Act.put, List.setIfInBounds_toArray, List.set_cons_zero, List.set_cons_succ])
        refine wpAnyS_ready [20] (by kernel_rfl) (by simp) (AllReadyS.consG (by simp only [List.getElem?_toArray, List.getElem?_cons_succ, List.getElem?_cons_zero]; rfl) (by rfl) (fun K hK => ?_) AllReadyS.nil)
        refine callS (by intro c h; cases h) (by go_simp; try with_reducible rfl) (HS3.out _ B8.out) ?_
        intro w9 hBq
        have B9 := hid (B8.out.trans (hBq.mono B8.out.size))
        refine hK.out _ _ B9.out ?_
        (try simp only [Act.put, List.setIfInBounds_toArray, List.set_cons_zero, List.set_cons_succ])
        clear hK K hBq
        clear hHeld
        have hHeld := B9.out
        refine wpAnyG_pure 21 (v := ?_) (fun _ => trivial) (by simp only [List.getElem?_toArray, List.getElem?_cons_succ, List.getElem?_cons_zero]; rfl) (by kernel_rfl) (fun _ _ _ _ _ h => h) ⟨(by rfl), (by intro c h; cases h), ?_⟩ hHeld ?_
        rotate_left
        focus (intro wS hSw; (try replace hSw := HSF.out wS hSw); (try dsimp only at hSw); go_simp; (try with_reducible rfl))
        (try simp only [Act.put, List.setIfInBounds_toArray, List.set_cons_zero, List.set_cons_succ])
        refine wpAnyG_pure 22 (v := ?_) (fun _ => trivial) (by simp only [List.getElem?_toArray, List.getElem?_cons_succ, List.getElem?_cons_zero]; rfl) (by kernel_rfl) (fun _ _ _ _ _ h => h) ⟨(by rfl), (by intro c h; cases h), ?_⟩ hHeld ?_
        rotate_left
        focus (intro wS hSw; (try replace hSw := HSF.out wS hSw); (try dsimp only at hSw); go_simp; (try with_reducible rfl))
        (try simp only [Act.put, List.setIfInBounds_toArray, List.set_cons_zero, List.set_cons_succ])
        refine wpAnyG_pure 23 (v := ?_) (fun _ => trivial) (by simp only [List.getElem?_toArray, List.getElem?_cons_succ, List.getElem?_cons_zero]; rfl) (by kernel_rfl) (fun _ _ _ _ _ h => h) ⟨(by rfl), (by intro c h; cases h), ?_⟩ hHeld ?_
        rotate_left
        focus (intro wS hSw; (try replace hSw := HSF.out wS hSw); (try dsimp only at hSw); go_simp; (try with_reducible rfl))
        (try simp only [Act.put, List.setIfInBounds_toArray, List.set_cons_zero, List.set_cons_succ])
        refine wpAnyG_pure 24 (v := ?_) (fun _ => trivial) (by simp only [List.getElem?_toArray, List.getElem?_cons_succ, List.getElem?_cons_zero]; rfl) (by kernel_rfl) (fun _ _ _ _ _ h => h) ⟨(by rfl), (by intro c h; cases h), ?_⟩ hHeld ?_
        rotate_left
        focus (intro wS hSw; (try replace hSw := HSF.out wS hSw); (try dsimp only at hSw); go_simp; (try with_reducible rfl))
        (try simp only [Act.put, List.setIfInBounds_toArray, List.set_cons_zero, List.set_cons_succ])
        refine wpAnyG_pure 25 (v := ?_) (fun _ => trivial) (by simp only [List.getElem?_toArray, List.getElem?_cons_succ, List.getElem?_cons_zero]; rfl) (by kernel_rfl) (fun _ _ _ _ _ h => h) ⟨(by rfl), (by intro c h; cases h), ?_⟩ hHeld ?_
        rotate_left
        focus (intro wS hSw; (try replace hSw := HSF.out wS hSw); (try dsimp only at hSw); go_simp; (try with_reducible rfl))
        (try simp only [Act.put, List.setIfInBounds_toArray, List.set_cons_zero, List.set_cons_succ])
        refine wpAnyG_pure 26 (v := ?_) (fun _ => trivial) (by simp only [List.getElem?_toArray, List.getElem?_cons_succ, List.getElem?_cons_zero]; rfl) (by kernel_rfl) (fun _ _ _ _ _ h => h) ⟨(by rfl), (by intro c h; cases h), ?_⟩ hHeld ?_
        rotate_left
        focus (intro wS hSw; (try replace hSw := HSF.out wS hSw); (try dsimp only at hSw); go_simp; (try with_reducible rfl))
        (try simp only [Act.put, List.setIfInBounds_toArray, List.set_cons_zero, List.set_cons_succ])
        refine wpAnyG_pure 27 (v := ?_) (fun _ => trivial) (by simp only [List.getElem?_toArray, List.getElem?_cons_succ, List.getElem?_cons_zero]; rfl) (by kernel_rfl) (fun _ _ _ _ _ h => h) ⟨(by rfl), (by intro c h; cases h), ?_⟩ hHeld ?_
        rotate_left
        focus (intro wS hSw; (try replace hSw := HSF.out wS hSw); (try dsimp only at hSw); go_simp; (try with_reducible rfl))
        (try simp only [Act.put, List.setIfInBounds_toArray, List.set_cons_zero, List.set_cons_succ])
        refine wpAnyG_pure 28 (v := ?_) (fun _ => trivial) (by simp only [List.getElem?_toArray, List.getElem?_cons_succ, List.getElem?_cons_zero]; rfl) (by kernel_rfl) (fun _ _ _ _ _ h => h) ⟨(by rfl), (by intro c h; cases h), ?_⟩ hHeld ?_
        rotate_left
        focus (intro wS hSw; (try replace hSw := HSF.out wS hSw); (try dsimp only at hSw); go_simp; (try with_reducible rfl))
        (try simp only [Act.put, List.setIfInBounds_toArray, List.set_cons_zero, List.set_cons_succ])
        refine wpAnyS_ready [29] (by kernel_rfl) (by simp) (AllReadyS.consG (by simp only [List.getElem?_toArray, List.getElem?_cons_succ, List.getElem?_cons_zero]; rfl) (by rfl) (fun K hK => ?_) AllReadyS.nil)
        refine callS (by intro c h; cases h) (by go_simp; try with_reducible rfl) (HS4.out _ B9.out) ?_
        intro w10 hBq
        have B10 := hid (B9.out.trans (hBq.mono B9.out.size))
        refine hK.out _ _ B10.out ?_
        (try simp only [Act.put, List.setIfInBounds_toArray, List.set_cons_zero, List.set_cons_succ])
        clear hK K hBq
        clear hHeld
        have hHeld := B10.out
        refine wpAnyG_pure 30 (v := ?_) (fun _ => trivial) (by simp only [List.getElem?_toArray, List.getElem?_cons_succ, List.getElem?_cons_zero]; rfl) (by kernel_rfl) (fun _ _ _ _ _ h => h) ⟨(by rfl), (by intro c h; cases h), ?_⟩ hHeld ?_
        rotate_left
        focus (intro wS hSw; (try replace hSw := HSF.out wS hSw); (try dsimp only at hSw); go_simp; (try with_reducible rfl))
        (try simp only [Act.put, List.setIfInBounds_toArray, List.set_cons_zero, List.set_cons_succ])
        refine wpAnyG_pure 31 (v := ?_) (fun _ => trivial) (by simp only [List.getElem?_toArray, List.getElem?_cons_succ, List.getElem?_cons_zero]; rfl) (by kernel_rfl) (fun _ _ _ _ _ h => h) ⟨(by rfl), (by intro c h; cases h), ?_⟩ hHeld ?_
        rotate_left
        focus (intro wS hSw; (try replace hSw := HSF.out wS hSw); (try dsimp only at hSw); go_simp; (try with_reducible rfl))
        (try simp only [Act.put, List.setIfInBounds_toArray, List.set_cons_zero, List.set_cons_succ])
        refine wpAnyS_done (by kernel_rfl) ?_
        clear hHeld HS1 HS2 HS3 HS4 HSF B7 B8 B9 BD hkf hsf hgb hgg hsb hw1 hil hi x0 x1 x2 y0 y1 y2 c0 c1 c2
        have BT := hid (B6.out.trans (B10.out.mono B6.out.size))
        have XT := hid (X6.out.below B10.out X6.out.lt)
        have YT := hid (Y6.out.below B10.out Y6.out.lt)
        have FT := hid ((F6.out.below B10.out).more B10.out.size)
        clear X6 Y6 F6 S6 XR YR FR BR B6 b6 F4 X4 Y4 B4 HB HRD HBD
        have x0 := XT.out.cell 0; have x1 := XT.out.cell 1; have x2 := XT.out.cell 2; have xzt := XT.out.lt
        simp at x0 x1 x2
        have HEX := hid (expired_any B d lots tick w10 (by omega) ((H2.out.below BT.out).more BT.out.size))
        go_wp2_with fail
        refine HEX.out.mono ?_
        rintro e w11 ⟨v, rfl, ho, hB11⟩
        obtain ⟨A7, c7, rfl, hc7, hc8, hs7⟩ := ho.slr (fun z hz => by
          obtain ⟨q, hq, rfl⟩ := List.mem_map.1 hz
          have := (List.mem_filter.1 hq).1
          have := List.mem_range.1 this
          exact ⟨by omega, by omega⟩)
        have HEF := hid (fun i (hi : i ∈ expK lots tick lots.length) => exp_fit hi (xk, xc, xu))
        have hex : (expK lots tick lots.length).length ≤ lots.length := by
          have := List.length_filter_le (fun i => decide ((lots.getD i (0, 0, false)).2.1 < tick)) (List.range lots.length)
          simpa [expK] using this
        rw [toI_len] at hc7 ⊢
        generalize expK lots tick lots.length = ex at *
        have S7 := hid hs7
        have B11 := hid (BT.out.trans (hB11.mono BT.out.size))
        have X11 := hid (XT.out.below hB11 XT.out.lt)
        have Y11 := hid (YT.out.below hB11 YT.out.lt)
        have F11 := hid ((FT.out.below hB11).more hB11.size)
        clear XT YT FT BT HEX hs7 ho hB11 x0 x1 x2 xzt hc7
        go_wp2_with fail
        go_loopw [17, 18] (fun iv pv wr => ∃ i : Nat, i ≤ ex.length ∧ iv = .int .i64 i ∧ Below w11.heap.size w11 wr) (fun iv _ _ => ex.length - (intOf iv).toNat)
        case atStart => exact ⟨0, by omega, rfl, Below.refl _ _⟩
        case round =>
          obtain ⟨i, hi, rfl, hB⟩ := hrel
          have HB := hid hB
          have XR := hid (X11.out.below hB X11.out.lt)
          have YR := hid (Y11.out.below hB Y11.out.lt)
          have FR := hid ((F11.out.below hB).more hB.size)
          have BR := hid (B11.out.trans (hB.mono B11.out.size))
          have SR := hid ((S7.out.below hB).more hB.size)
          clear hB
          have x0 := XR.out.cell 0; have x1 := XR.out.cell 1; have x2 := XR.out.cell 2; have xz2 := XR.out.lt
          have y0 := YR.out.cell 0; have y1 := YR.out.cell 1; have y2 := YR.out.cell 2; have yz2 := YR.out.lt
          simp at x0 x1 x2 y0 y1 y2
          by_cases hil : i < ex.length
          case neg =>
            obtain rfl : i = ex.length := by omega
            have HRR := hid (sright_any A (some ⟨b, off, none⟩) C c c4 e0 ks (frz lots k) bs wr (by omega) (by rw [frz_len]; exact hl) hb ((H1.out.below BR.out).more BR.out.size) FR.out ((H3.out.below BR.out).more BR.out.size))
            rw [frz_right hkl HRT.out, frz_len] at HRR
            as_aux_lemma =>
              go_wp2_with fail
              refine HRR.out.mono ?_
              rintro e w12 ⟨rfl, hB12⟩
              have B12 := hid (BR.out.trans (hB12.mono BR.out.size))
              go_wp2_with fail
              go_ret
              exact ⟨rfl, B12.out⟩
          have hilI : (i : Int) < ex.length := by omega
          obtain ⟨eb, eo, rfl, hez, ec, -⟩ := SR.out.int (show i < (toI ex).length by rw [toI_len]; exact hil)
          rw [toI_at hil] at ec
          have hef := HEF.out _ (List.getElem_mem hil)
          generalize ex[i] = q at *
          have hfq := hid hef.2
          have hql := hef.1
          clear hef
          have hq0 : ¬ (q : Int) < 0 := by omega
          have hq1 : ¬ (lots.length : Int) ≤ (q : Int) := by omega
          have hq2 : (q : Int) < (lots.length : Int) := by omega
          go_upto_region 22 with fail
          refine wpIn_wide.1 (wpIn_region_S (n := 0) (fun wq => wq.cell? ⟨w.heap.size, 1, none⟩ = some (.slice B lots.length d) ∧ wq.cell? ⟨eb, eo + i, none⟩ = some (.int .i64 (q : Int))) [] (by kernel_rfl) ⟨x1, ec⟩ (fun hHeld => ?_))
          refine wpAnyG_pure 0 (v := ?_) (fun _ => trivial) (by simp only [List.getElem?_toArray, List.getElem?_cons_succ, List.getElem?_cons_zero]; rfl) (by kernel_rfl) (fun _ _ _ _ _ h => h) ⟨(by rfl), (by intro c h; cases h), ?_⟩ hHeld ?_
          rotate_left
          focus (intro wS hSw; (try replace hSw := HSF.out wS hSw); (try dsimp only at hSw); go_simp; (try with_reducible rfl))
          (try simp only [Act.put, List.setIfInBounds_toArray, List.set_cons_zero, List.set_cons_succ])
          refine wpAnyG_pure 1 (v := ?_) (fun _ => trivial) (by simp only [List.getElem?_toArray, List.getElem?_cons_succ, List.getElem?_cons_zero]; rfl) (by kernel_rfl) (fun _ _ _ _ _ h => h) ⟨(by rfl), (by intro c h; cases h), ?_⟩ hHeld ?_
          rotate_left
          focus (intro wS hSw; (try replace hSw := HSF.out wS hSw); (try dsimp only at hSw); go_simp; (try with_reducible rfl))
          (try simp only [Act.put, List.setIfInBounds_toArray, List.set_cons_zero, List.set_cons_succ])
          refine wpAnyG_pure 2 (v := ?_) (fun _ => trivial) (by simp only [List.getElem?_toArray, List.getElem?_cons_succ, List.getElem?_cons_zero]; rfl) (by kernel_rfl) (fun _ _ _ _ _ h => h) ⟨(by rfl), (by intro c h; cases h), ?_⟩ hHeld ?_
          rotate_left
          focus (intro wS hSw; (try replace hSw := HSF.out wS hSw); (try dsimp only at hSw); go_simp; (try with_reducible rfl))
          (try simp only [Act.put, List.setIfInBounds_toArray, List.set_cons_zero, List.set_cons_succ])
          refine wpAnyG_take 3 (v := ?_) (fun _ => trivial) (by simp only [List.getElem?_toArray, List.getElem?_cons_succ, List.getElem?_cons_zero]; rfl) (by kernel_rfl) (fun _ _ _ _ _ h => h) ⟨(by rfl), (by intro c h; cases h), ?_⟩ hHeld ?_
          rotate_left
          focus (intro wS hSw; (try replace hSw := HSF.out wS hSw); (try dsimp only at hSw); go_simp; (try with_reducible rfl))
          (try simp only [Act.put, List.setIfInBounds_toArray, List.set_cons_zero, List.set_cons_succ])
          refine wpAnyG_pure 4 (v := ?_) (fun _ => trivial) (by simp only [List.getElem?_toArray, List.getElem?_cons_succ, List.getElem?_cons_zero]; rfl) (by kernel_rfl) (fun _ _ _ _ _ h => h) ⟨(by rfl), (by intro c h; cases h), ?_⟩ hHeld ?_
          rotate_left
          focus (intro wS hSw; (try replace hSw := HSF.out wS hSw); (try dsimp only at hSw); go_simp; (try with_reducible rfl))
          (try simp only [Act.put, List.setIfInBounds_toArray, List.set_cons_zero, List.set_cons_succ])
          refine wpAnyG_pure 5 (v := ?_) (fun _ => trivial) (by simp only [List.getElem?_toArray, List.getElem?_cons_succ, List.getElem?_cons_zero]; rfl) (by kernel_rfl) (fun _ _ _ _ _ h => h) ⟨(by rfl), (by intro c h; cases h), ?_⟩ hHeld ?_
          rotate_left
          focus (intro wS hSw; (try replace hSw := HSF.out wS hSw); (try dsimp only at hSw); go_simp; (try with_reducible rfl))
          (try simp only [Act.put, List.setIfInBounds_toArray, List.set_cons_zero, List.set_cons_succ])
          refine wpAnyG_pure 6 (v := ?_) (fun _ => trivial) (by simp only [List.getElem?_toArray, List.getElem?_cons_succ, List.getElem?_cons_zero]; rfl) (by kernel_rfl) (fun _ _ _ _ _ h => h) ⟨(by rfl), (by intro c h; cases h), ?_⟩ hHeld ?_
          rotate_left
          focus (intro wS hSw; (try replace hSw := HSF.out wS hSw); (try dsimp only at hSw); go_simp; (try with_reducible rfl))
          (try simp only [Act.put, List.setIfInBounds_toArray, List.set_cons_zero, List.set_cons_succ])
          refine wpAnyG_pure 7 (v := ?_) (fun _ => trivial) (by simp only [List.getElem?_toArray, List.getElem?_cons_succ, List.getElem?_cons_zero]; rfl) (by kernel_rfl) (fun _ _ _ _ _ h => h) ⟨(by rfl), (by intro c h; cases h), ?_⟩ hHeld ?_
          rotate_left
          focus (intro wS hSw; (try replace hSw := HSF.out wS hSw); (try dsimp only at hSw); go_simp; (try with_reducible rfl))
          (try simp only [Act.put, List.setIfInBounds_toArray, List.set_cons_zero, List.set_cons_succ])
          refine wpAnyG_pure 8 (v := ?_) (fun _ => trivial) (by simp only [List.getElem?_toArray, List.getElem?_cons_succ, List.getElem?_cons_zero]; rfl) (by kernel_rfl) (fun _ _ _ _ _ h => h) ⟨(by rfl), (by intro c h; cases h), ?_⟩ hHeld ?_
          rotate_left
          focus (intro wS hSw; (try replace hSw := HSF.out wS hSw); (try dsimp only at hSw); go_simp; (try with_reducible rfl))
          (try simp only [Act.put, List.setIfInBounds_toArray, List.set_cons_zero, List.set_cons_succ])
          refine wpAnyG_take 9 (v := ?_) (fun _ => trivial) (by simp only [List.getElem?_toArray, List.getElem?_cons_succ, List.getElem?_cons_zero]; rfl) (by kernel_rfl) (fun _ _ _ _ _ h => h) ⟨(by rfl), (by intro c h; cases h), ?_⟩ hHeld ?_
          rotate_left
          focus (intro wS hSw; (try replace hSw := HSF.out wS hSw); (try dsimp only at hSw); go_simp; (try with_reducible rfl))
          (try simp only [Act.put, List.setIfInBounds_toArray, List.set_cons_zero, List.set_cons_succ])
          refine wpAnyG_pure 10 (v := ?_) (fun _ => trivial) (by simp only [List.getElem?_toArray, List.getElem?_cons_succ, List.getElem?_cons_zero]; rfl) (by kernel_rfl) (fun _ _ _ _ _ h => h) ⟨(by rfl), (by intro c h; cases h), ?_⟩ hHeld ?_
          rotate_left
          focus (intro wS hSw; (try replace hSw := HSF.out wS hSw); (try dsimp only at hSw); go_simp; (try with_reducible rfl))
          (try simp only [Act.put, List.setIfInBounds_toArray, List.set_cons_zero, List.set_cons_succ])
          refine wpAnyG_take 11 (v := ?_) (fun _ => trivial) (by simp only [List.getElem?_toArray, List.getElem?_cons_succ, List.getElem?_cons_zero]; rfl) (by kernel_rfl) (fun _ _ _ _ _ h => h) ⟨(by rfl), (by intro c h; cases h), ?_⟩ hHeld ?_
          rotate_left
          focus (intro wS hSw; (try replace hSw := HSF.out wS hSw); (try dsimp only at hSw); go_simp; (try with_reducible rfl))
          (try simp only [Act.put, List.setIfInBounds_toArray, List.set_cons_zero, List.set_cons_succ])
          refine wpAnyG_pure 12 (v := ?_) (fun _ => trivial) (by simp only [List.getElem?_toArray, List.getElem?_cons_succ, List.getElem?_cons_zero]; rfl) (by kernel_rfl) (fun _ _ _ _ _ h => h) ⟨(by rfl), (by intro c h; cases h), ?_⟩ hHeld ?_
          rotate_left
          focus (intro wS hSw; (try replace hSw := HSF.out wS hSw); (try dsimp only at hSw); go_simp; (try with_reducible rfl))
          (try simp only [Act.put, List.setIfInBounds_toArray, List.set_cons_zero, List.set_cons_succ])
          refine wpAnyG_pure 13 (v := ?_) (fun _ => trivial) (by simp only [List.getElem?_toArray, List.getElem?_cons_succ, List.getElem?_cons_zero]; rfl) (by kernel_rfl) (fun _ _ _ _ _ h => h) ⟨(by rfl), (by intro c h; cases h), ?_⟩ hHeld ?_
          rotate_left
          focus (intro wS hSw; (try replace hSw := HSF.out wS hSw); (try dsimp only at hSw); go_simp; (try with_reducible rfl))
          (try simp only [Act.put, List.setIfInBounds_toArray, List.set_cons_zero, List.set_cons_succ])
          refine wpAnyG_pure 14 (v := ?_) (fun _ => trivial) (by simp only [List.getElem?_toArray, List.getElem?_cons_succ, List.getElem?_cons_zero]; rfl) (by kernel_rfl) (fun _ _ _ _ _ h => h) ⟨(by rfl), (by intro c h; cases h), ?_⟩ hHeld ?_
          rotate_left
          focus (intro wS hSw; (try replace hSw := HSF.out wS hSw); (try dsimp only at hSw); go_simp; (try with_reducible rfl))
          (try simp only [Act.put, List.setIfInBounds_toArray, List.set_cons_zero, List.set_cons_succ])
          refine wpAnyS_done (by kernel_rfl) ?_
          clear hHeld
          go_upto_region 26 with fail
          have hmx : (if xu < tick then tick else xu) = max xu tick := by split <;> omega
          rw [hmx]
          generalize max xu tick = um at *
          obtain ⟨w12, hw12⟩ : ∃ w12, w12 = (wr.alloc (Obj.cells #[.int .i64 xk, .int .i64 xc, .int .i64 um] 43)).drew := ⟨_, rfl⟩
          have b12 := hid (show Below wr.heap.size wr w12 by rw [hw12]; (repeat (first | exact Below.refl _ _ | assumption | refine below_drewN ?_ _ | refine Below.drew ?_ | refine Below.alloc ?_ (by (try simp); (try omega)) _ | refine Below.setCell ?_ (by (try simp); (try omega)) _)))
          have N12 := hid (show Blk w12 wr.heap.size 43 #[.int .i64 xk, .int .i64 xc, .int .i64 um] by rw [hw12]; exact (Blk.new wr _ _).drew)
          have hfd := hid (frz_len lots k)
          obtain ⟨lb, lo, rfl, hlz, l0, l1, l2, -⟩ := H2.out.lt hql
          rw [show lots.getD q (0, 0, false) = lots[q] from by simp [List.getD_eq_getElem?_getD, hql]] at hfq
          generalize lots[q] = lq at *
          obtain ⟨q0, q1, q2⟩ := lq
          simp only at l0 l1 l2
          have HSQ := hid (sfits_any (q0, q1, q2) (xk, xc, um))
          rw [hfq.out] at HSQ
          rw [← hw12]
          have B12 := hid (BR.out.trans (b12.out.mono BR.out.size))
          replace l0 := (bcell B12.out _ _ hlz).trans l0
          replace l1 := (bcell B12.out _ _ hlz).trans l1
          replace l2 := (bcell B12.out _ _ hlz).trans l2
          replace x1 := (bcell b12.out _ _ xz2).trans x1
          replace ec := (bcell b12.out _ _ hez).trans ec
          have n0 := N12.out.cell 0; have n1 := N12.out.cell 1; have n2 := N12.out.cell 2
          simp at n0 n1 n2
          have C12 := hid (HB.out.trans (b12.out.mono HB.out.size))
          clear hw12 x0 x2 y0 y1 y2
          as_aux_lemma =>
            refine wpIn_wide.1 (wpIn_region_S (n := 0) (fun wq => wq.cell? ⟨w.heap.size, 1, none⟩ = some (.slice (some ⟨lb, lo, none⟩) lots.length d) ∧ wq.cell? ⟨eb, eo + i, none⟩ = some (.int .i64 (q : Int)) ∧ wq.cell? ⟨lb, lo + q * 3, none⟩ = some (.int .i64 q0) ∧ wq.cell? ⟨lb, lo + q * 3 + 1, none⟩ = some (.int .i64 q1) ∧ wq.cell? ⟨lb, lo + q * 3 + 2, none⟩ = some (.bool q2) ∧ wq.cell? ⟨wr.heap.size, 0, none⟩ = some (.int .i64 xk) ∧ wq.cell? ⟨wr.heap.size, 1, none⟩ = some (.int .i64 xc) ∧ wq.cell? ⟨wr.heap.size, 2, none⟩ = some (.int .i64 um)) [9] (by kernel_rfl) ⟨x1, ec, l0, l1, l2, n0, n1, n2⟩ (fun hHeld => ?_))
            refine wpAnyG_pure 0 (v := ?_) (fun _ => trivial) (by simp only [List.getElem?_toArray, List.getElem?_cons_succ, List.getElem?_cons_zero]; rfl) (by kernel_rfl) (fun _ _ _ _ _ h => h) ⟨(by rfl), (by intro c h; cases h), ?_⟩ hHeld ?_
            rotate_left
            focus (intro wS hSw; (try replace hSw := HSF.out wS hSw); (try dsimp only at hSw); go_simp; (try with_reducible rfl))
            (try simp only [Act.put, List.setIfInBounds_toArray, List.set_cons_zero, List.set_cons_succ])
            refine wpAnyG_take 1 (v := ?_) (fun _ => trivial) (by simp only [List.getElem?_toArray, List.getElem?_cons_succ, List.getElem?_cons_zero]; rfl) (by kernel_rfl) (fun _ _ _ _ _ h => h) ⟨(by rfl), (by intro c h; cases h), ?_⟩ hHeld ?_
            rotate_left
            focus (intro wS hSw; (try replace hSw := HSF.out wS hSw); (try dsimp only at hSw); go_simp; (try with_reducible rfl))
            (try simp only [Act.put, List.setIfInBounds_toArray, List.set_cons_zero, List.set_cons_succ])
            refine wpAnyG_pure 2 (v := ?_) (fun _ => trivial) (by simp only [List.getElem?_toArray, List.getElem?_cons_succ, List.getElem?_cons_zero]; rfl) (by kernel_rfl) (fun _ _ _ _ _ h => h) ⟨(by rfl), (by intro c h; cases h), ?_⟩ hHeld ?_
            rotate_left
            focus (intro wS hSw; (try replace hSw := HSF.out wS hSw); (try dsimp only at hSw); go_simp; (try with_reducible rfl))
            (try simp only [Act.put, List.setIfInBounds_toArray, List.set_cons_zero, List.set_cons_succ])
            refine wpAnyG_pure 3 (v := ?_) (fun _ => trivial) (by simp only [List.getElem?_toArray, List.getElem?_cons_succ, List.getElem?_cons_zero]; rfl) (by kernel_rfl) (fun _ _ _ _ _ h => h) ⟨(by rfl), (by intro c h; cases h), ?_⟩ hHeld ?_
            rotate_left
            focus (intro wS hSw; (try replace hSw := HSF.out wS hSw); (try dsimp only at hSw); go_simp; (try with_reducible rfl))
            (try simp only [Act.put, List.setIfInBounds_toArray, List.set_cons_zero, List.set_cons_succ])
            refine wpAnyG_pure 4 (v := ?_) (fun _ => trivial) (by simp only [List.getElem?_toArray, List.getElem?_cons_succ, List.getElem?_cons_zero]; rfl) (by kernel_rfl) (fun _ _ _ _ _ h => h) ⟨(by rfl), (by intro c h; cases h), ?_⟩ hHeld ?_
            rotate_left
            focus (intro wS hSw; (try replace hSw := HSF.out wS hSw); (try dsimp only at hSw); go_simp; (try with_reducible rfl))
            (try simp only [Act.put, List.setIfInBounds_toArray, List.set_cons_zero, List.set_cons_succ])
            refine wpAnyG_take 5 (v := ?_) (fun _ => trivial) (by simp only [List.getElem?_toArray, List.getElem?_cons_succ, List.getElem?_cons_zero]; rfl) (by kernel_rfl) (fun _ _ _ _ _ h => h) ⟨(by rfl), (by intro c h; cases h), ?_⟩ hHeld ?_
            rotate_left
            focus (intro wS hSw; (try replace hSw := HSF.out wS hSw); (try dsimp only at hSw); go_simp; (try with_reducible rfl))
            (try simp only [Act.put, List.setIfInBounds_toArray, List.set_cons_zero, List.set_cons_succ])
            refine wpAnyG_pure 6 (v := ?_) (fun _ => trivial) (by simp only [List.getElem?_toArray, List.getElem?_cons_succ, List.getElem?_cons_zero]; rfl) (by kernel_rfl) (fun _ _ _ _ _ h => h) ⟨(by rfl), (by intro c h; cases h), ?_⟩ hHeld ?_
            rotate_left
            focus (intro wS hSw; (try replace hSw := HSF.out wS hSw); (try dsimp only at hSw); go_simp; (try with_reducible rfl))
            (try simp only [Act.put, List.setIfInBounds_toArray, List.set_cons_zero, List.set_cons_succ])
            refine wpAnyG_take 7 (v := ?_) (fun _ => trivial) (by simp only [List.getElem?_toArray, List.getElem?_cons_succ, List.getElem?_cons_zero]; rfl) (by kernel_rfl) (fun _ _ _ _ _ h => h) ⟨(by rfl), (by intro c h; cases h), ?_⟩ hHeld ?_
            rotate_left
            focus (intro wS hSw; (try replace hSw := HSF.out wS hSw); (try dsimp only at hSw); go_simp; (try with_reducible rfl))
            (try simp only [Act.put, List.setIfInBounds_toArray, List.set_cons_zero, List.set_cons_succ])
            refine wpAnyG_take 8 (v := ?_) (fun _ => trivial) (by simp only [List.getElem?_toArray, List.getElem?_cons_succ, List.getElem?_cons_zero]; rfl) (by kernel_rfl) (fun _ _ _ _ _ h => h) ⟨(by rfl), (by intro c h; cases h), ?_⟩ hHeld ?_
            rotate_left
            focus (intro wS hSw; (try replace hSw := HSF.out wS hSw); (try dsimp only at hSw); go_simp; (try with_reducible rfl))
            (try simp only [Act.put, List.setIfInBounds_toArray, List.set_cons_zero, List.set_cons_succ])
            refine wpAnyS_ready [9] (by kernel_rfl) (by simp) (AllReadyS.consLG (by simp only [List.getElem?_toArray, List.getElem?_cons_succ, List.getElem?_cons_zero]; rfl) (by rfl) (by kernel_rfl) (fun K hK => ?_) AllReadyS.nil)
            refine callS (by intro c h; cases h) (by go_simp; try with_reducible rfl) (HSQ.out _) ?_
            intro w13 hB13
            have B13 := hid (C12.out.trans (((Below.refl w12.heap.size w12).drew.trans hB13).mono C12.out.size))
            refine hK.out _ _ ?_
            (try simp only [Act.put, List.setIfInBounds_toArray, List.set_cons_zero, List.set_cons_succ])
            clear hK K hHeld hB13 HSQ
            refine wpAnyS_done (by kernel_rfl) ?_
            go_wp2_with fail
            go_roundw
            case rel => exact ⟨i + 1, by omega, by go_num, B13.out⟩
            case measure => simp [intOf]; omega
      have hilI : (i : Int) < bs.length := by omega
      obtain ⟨b, off, rfl, hbz, c0, c1, c2, -⟩ := H3.out.i3 hil
      replace c0 := (bcell BR.out b _ hbz).trans c0
      replace c1 := (bcell BR.out b _ hbz).trans c1
      replace c2 := (bcell BR.out b _ hbz).trans c2
      have hz : b < wr.heap.size := by have := BR.out.size; omega
      have hgt := hid (goneL_take (lots := lots) (w := (xk, xc, xu)) (n := (k : Int)) hil)
      have hbd := HBD.out i (by omega)
      have hcn := HCN.out _ (List.getElem_mem hil)
      have HH := hid (fun (y : Bx) => has_any B d lots y (xk, xc, xu) wr.drew hl ((H2.out.below BR.out.drew).more BR.out.drew.size))
      generalize bs[i] = y at *
      obtain ⟨ya, yb, yc⟩ := y
      simp only at c0 c1 c2 hcn
      generalize goneL lots (bs.take i) (xk, xc, xu) (k : Int) = gn at *
      have hw1 : IntKind.i64.wrap (gn + yb) = gn + yb := IntWalk.i64_in _ (by omega)
      go_upto_region 13 with fail
      by_cases hyk : ya = (k : Int)
      case neg =>
        have hyb : (ya == (k : Int)) = false := by simpa using hyk
        have hyd : decide (ya = (k : Int)) = false := by simpa using hyk
        have hg2 := hid (show goneL lots (bs.take (i + 1)) (xk, xc, xu) (k : Int) = gn by rw [hgt.out]; simp [hyk])
        refine wpIn_wide.1 (wpIn_region_S (n := 0) (fun wq => wq.cell? ⟨w.heap.size, 2, none⟩ = some (.slice (some ⟨b, off, none⟩) bs.length e0) ∧ wq.cell? ⟨b, off + i * 3, none⟩ = some (.int .i64 ya)) [] (by kernel_rfl) ⟨x2, c0⟩ (fun hHeld => ?_))
        refine wpAnyG_pure 0 (v := ?_) (fun _ => trivial) (by simp only [List.getElem?_toArray, List.getElem?_cons_succ, List.getElem?_cons_zero]; rfl) (by kernel_rfl) (fun _ _ _ _ _ h => h) ⟨(by rfl), (by intro c h; cases h), ?_⟩ hHeld ?_
        rotate_left
        focus (intro wS hSw; (try replace hSw := HSF.out wS hSw); (try dsimp only at hSw); go_simp; (try with_reducible rfl))
        (try simp only [Act.put, List.setIfInBounds_toArray, List.set_cons_zero, List.set_cons_succ])
        refine wpAnyG_take 1 (v := ?_) (fun _ => trivial) (by simp only [List.getElem?_toArray, List.getElem?_cons_succ, List.getElem?_cons_zero]; rfl) (by kernel_rfl) (fun _ _ _ _ _ h => h) ⟨(by rfl), (by intro c h; cases h), ?_⟩ hHeld ?_
        rotate_left
        focus (intro wS hSw; (try replace hSw := HSF.out wS hSw); (try dsimp only at hSw); go_simp; (try with_reducible rfl))
        (try simp only [Act.put, List.setIfInBounds_toArray, List.set_cons_zero, List.set_cons_succ])
        refine wpAnyG_pure 2 (v := ?_) (fun _ => trivial) (by simp only [List.getElem?_toArray, List.getElem?_cons_succ, List.getElem?_cons_zero]; rfl) (by kernel_rfl) (fun _ _ _ _ _ h => h) ⟨(by rfl), (by intro c h; cases h), ?_⟩ hHeld ?_
        rotate_left
        focus (intro wS hSw; (try replace hSw := HSF.out wS hSw); (try dsimp only at hSw); go_simp; (try with_reducible rfl))
        (try simp only [Act.put, List.setIfInBounds_toArray, List.set_cons_zero, List.set_cons_succ])
        refine wpAnyG_pure 3 (v := ?_) (fun _ => trivial) (by simp only [List.getElem?_toArray, List.getElem?_cons_succ, List.getElem?_cons_zero]; rfl) (by kernel_rfl) (fun _ _ _ _ _ h => h) ⟨(by rfl), (by intro c h; cases h), ?_⟩ hHeld ?_
        rotate_left
        focus (intro wS hSw; (try replace hSw := HSF.out wS hSw); (try dsimp only at hSw); go_simp; (try with_reducible rfl))
        (try simp only [Act.put, List.setIfInBounds_toArray, List.set_cons_zero, List.set_cons_succ])
        refine wpAnyG_pure 4 (v := ?_) (fun _ => trivial) (by simp only [List.getElem?_toArray, List.getElem?_cons_succ, List.getElem?_cons_zero]; rfl) (by kernel_rfl) (fun _ _ _ _ _ h => h) ⟨(by rfl), (by intro c h; cases h), ?_⟩ hHeld ?_
        rotate_left
        focus (intro wS hSw; (try replace hSw := HSF.out wS hSw); (try dsimp only at hSw); go_simp; (try with_reducible rfl))
        (try simp only [Act.put, List.setIfInBounds_toArray, List.set_cons_zero, List.set_cons_succ])
        refine wpAnyG_take 5 (v := ?_) (fun _ => trivial) (by simp only [List.getElem?_toArray, List.getElem?_cons_succ, List.getElem?_cons_zero]; rfl) (by kernel_rfl) (fun _ _ _ _ _ h => h) ⟨(by rfl), (by intro c h; cases h), ?_⟩ hHeld ?_
        rotate_left
        focus (intro wS hSw; (try replace hSw := HSF.out wS hSw); (try dsimp only at hSw); go_simp; (try with_reducible rfl))
        (try simp only [Act.put, List.setIfInBounds_toArray, List.set_cons_zero, List.set_cons_succ])
        refine wpAnyG_pure 6 (v := ?_) (fun _ => trivial) (by simp only [List.getElem?_toArray, List.getElem?_cons_succ, List.getElem?_cons_zero]; rfl) (by kernel_rfl) (fun _ _ _ _ _ h => h) ⟨(by rfl), (by intro c h; cases h), ?_⟩ hHeld ?_
        rotate_left
        focus (intro wS hSw; (try replace hSw := HSF.out wS hSw); (try dsimp only at hSw); go_simp; (try with_reducible rfl))
        (try simp only [Act.put, List.setIfInBounds_toArray, List.set_cons_zero, List.set_cons_succ])
        refine wpAnyG_pure 7 (v := ?_) (fun _ => trivial) (by simp only [List.getElem?_toArray, List.getElem?_cons_succ, List.getElem?_cons_zero]; rfl) (by kernel_rfl) (fun _ _ _ _ _ h => h) ⟨(by rfl), (by intro c h; cases h), ?_⟩ hHeld ?_
        rotate_left
        focus (intro wS hSw; (try replace hSw := HSF.out wS hSw); (try dsimp only at hSw); go_simp; (try with_reducible rfl))
        (try simp only [Act.put, List.setIfInBounds_toArray, List.set_cons_zero, List.set_cons_succ])
        refine wpAnyG_pure 8 (v := ?_) (fun _ => trivial) (by simp only [List.getElem?_toArray, List.getElem?_cons_succ, List.getElem?_cons_zero]; rfl) (by kernel_rfl) (fun _ _ _ _ _ h => h) ⟨(by rfl), (by intro c h; cases h), ?_⟩ hHeld ?_
        rotate_left
        focus (intro wS hSw; (try replace hSw := HSF.out wS hSw); (try dsimp only at hSw); go_simp; (try with_reducible rfl))
        (try simp only [Act.put, List.setIfInBounds_toArray, List.set_cons_zero, List.set_cons_succ])
        refine wpAnyG_skip 9 (fun _ => trivial) (by simp only [List.getElem?_toArray, List.getElem?_cons_succ, List.getElem?_cons_zero]; rfl) (by kernel_rfl) (fun _ _ _ _ _ h => h) (by rfl) hHeld ?_
        (try simp only [Act.put, List.setIfInBounds_toArray, List.set_cons_zero, List.set_cons_succ])
        refine wpAnyG_skip 10 (fun _ => trivial) (by simp only [List.getElem?_toArray, List.getElem?_cons_succ, List.getElem?_cons_zero]; rfl) (by kernel_rfl) (fun _ _ _ _ _ h => h) (by rfl) hHeld ?_
        (try simp only [Act.put, List.setIfInBounds_toArray, List.set_cons_zero, List.set_cons_succ])
        refine wpAnyG_skip 11 (fun _ => trivial) (by simp only [List.getElem?_toArray, List.getElem?_cons_succ, List.getElem?_cons_zero]; rfl) (by kernel_rfl) (fun _ _ _ _ _ h => h) (by rfl) hHeld ?_
        (try simp only [Act.put, List.setIfInBounds_toArray, List.set_cons_zero, List.set_cons_succ])
        refine wpAnyG_skip 12 (fun _ => trivial) (by simp only [List.getElem?_toArray, List.getElem?_cons_succ, List.getElem?_cons_zero]; rfl) (by kernel_rfl) (fun _ _ _ _ _ h => h) (by rfl) hHeld ?_
        (try simp only [Act.put, List.setIfInBounds_toArray, List.set_cons_zero, List.set_cons_succ])
        refine wpAnyG_skip 13 (fun _ => trivial) (by simp only [List.getElem?_toArray, List.getElem?_cons_succ, List.getElem?_cons_zero]; rfl) (by kernel_rfl) (fun _ _ _ _ _ h => h) (by rfl) hHeld ?_
        (try simp only [Act.put, List.setIfInBounds_toArray, List.set_cons_zero, List.set_cons_succ])
        refine wpAnyG_skip 14 (fun _ => trivial) (by simp only [List.getElem?_toArray, List.getElem?_cons_succ, List.getElem?_cons_zero]; rfl) (by kernel_rfl) (fun _ _ _ _ _ h => h) (by rfl) hHeld ?_
        (try simp only [Act.put, List.setIfInBounds_toArray, List.set_cons_zero, List.set_cons_succ])
        refine wpAnyG_skip 15 (fun _ => trivial) (by simp only [List.getElem?_toArray, List.getElem?_cons_succ, List.getElem?_cons_zero]; rfl) (by kernel_rfl) (fun _ _ _ _ _ h => h) (by rfl) hHeld ?_
        (try simp only [Act.put, List.setIfInBounds_toArray, List.set_cons_zero, List.set_cons_succ])
        refine wpAnyG_skip 16 (fun _ => trivial) (by simp only [List.getElem?_toArray, List.getElem?_cons_succ, List.getElem?_cons_zero]; rfl) (by kernel_rfl) (fun _ _ _ _ _ h => h) (by rfl) hHeld ?_
        (try simp only [Act.put, List.setIfInBounds_toArray, List.set_cons_zero, List.set_cons_succ])
        refine wpAnyG_skip 17 (fun _ => trivial) (by simp only [List.getElem?_toArray, List.getElem?_cons_succ, List.getElem?_cons_zero]; rfl) (by kernel_rfl) (fun _ _ _ _ _ h => h) (by rfl) hHeld ?_
        (try simp only [Act.put, List.setIfInBounds_toArray, List.set_cons_zero, List.set_cons_succ])
        refine wpAnyG_pure 18 (v := ?_) (fun _ => trivial) (by simp only [List.getElem?_toArray, List.getElem?_cons_succ, List.getElem?_cons_zero]; rfl) (by kernel_rfl) (fun _ _ _ _ _ h => h) ⟨(by rfl), (by intro c h; cases h), ?_⟩ hHeld ?_
        rotate_left
        focus (intro wS hSw; (try replace hSw := HSF.out wS hSw); (try dsimp only at hSw); go_simp; (try with_reducible rfl))
        (try simp only [Act.put, List.setIfInBounds_toArray, List.set_cons_zero, List.set_cons_succ])
        refine wpAnyS_done (by kernel_rfl) ?_
        clear hHeld
        as_aux_lemma =>
          go_wp2_with fail
          go_roundw
          case rel => exact ⟨i + 1, by omega, by go_num, by rw [hg2.out], HB.out.drew⟩
          case measure => simp [intOf]; omega
      subst hyk
      have HC := hid (HH.out ((k : Int), yb, yc))
      refine wpIn_wide.1 (wpIn_region_S (n := 0) (fun wq => wq.cell? ⟨w.heap.size, 1, none⟩ = some (.slice B lots.length d) ∧ wq.cell? ⟨w.heap.size, 2, none⟩ = some (.slice (some ⟨b, off, none⟩) bs.length e0) ∧ wq.cell? ⟨w.heap.size + 1, 0, none⟩ = some (.int .i64 xk) ∧ wq.cell? ⟨w.heap.size + 1, 1, none⟩ = some (.int .i64 xc) ∧ wq.cell? ⟨w.heap.size + 1, 2, none⟩ = some (.int .i64 xu) ∧ wq.cell? ⟨b, off + i * 3, none⟩ = some (.int .i64 (k : Int)) ∧ wq.cell? ⟨b, off + i * 3 + 1, none⟩ = some (.int .i64 yb) ∧ wq.cell? ⟨b, off + i * 3 + 2, none⟩ = some (.int .i64 yc)) [17] (by kernel_rfl) ⟨x1, x2, y0, y1, y2, c0, c1, c2⟩ (fun hHeld => ?_))
      refine wpAnyG_pure 0 (v := ?_) (fun _ => trivial) (by simp only [List.getElem?_toArray, List.getElem?_cons_succ, List.getElem?_cons_zero]; rfl) (by kernel_rfl) (fun _ _ _ _ _ h => h) ⟨(by rfl), (by intro c h; cases h), ?_⟩ hHeld ?_
      rotate_left
      focus (intro wS hSw; (try replace hSw := HSF.out wS hSw); (try dsimp only at hSw); go_simp; (try with_reducible rfl))
      (try simp only [Act.put, List.setIfInBounds_toArray, List.set_cons_zero, List.set_cons_succ])
      refine wpAnyG_take 1 (v := ?_) (fun _ => trivial) (by simp only [List.getElem?_toArray, List.getElem?_cons_succ, List.getElem?_cons_zero]; rfl) (by kernel_rfl) (fun _ _ _ _ _ h => h) ⟨(by rfl), (by intro c h; cases h), ?_⟩ hHeld ?_
      rotate_left
      focus (intro wS hSw; (try replace hSw := HSF.out wS hSw); (try dsimp only at hSw); go_simp; (try with_reducible rfl))
      (try simp only [Act.put, List.setIfInBounds_toArray, List.set_cons_zero, List.set_cons_succ])
      refine wpAnyG_pure 2 (v := ?_) (fun _ => trivial) (by simp only [List.getElem?_toArray, List.getElem?_cons_succ, List.getElem?_cons_zero]; rfl) (by kernel_rfl) (fun _ _ _ _ _ h => h) ⟨(by rfl), (by intro c h; cases h), ?_⟩ hHeld ?_
      rotate_left
      focus (intro wS hSw; (try replace hSw := HSF.out wS hSw); (try dsimp only at hSw); go_simp; (try with_reducible rfl))
      (try simp only [Act.put, List.setIfInBounds_toArray, List.set_cons_zero, List.set_cons_succ])
      refine wpAnyG_pure 3 (v := ?_) (fun _ => trivial) (by simp only [List.getElem?_toArray, List.getElem?_cons_succ, List.getElem?_cons_zero]; rfl) (by kernel_rfl) (fun _ _ _ _ _ h => h) ⟨(by rfl), (by intro c h; cases h), ?_⟩ hHeld ?_
      rotate_left
      focus (intro wS hSw; (try replace hSw := HSF.out wS hSw); (try dsimp only at hSw); go_simp; (try with_reducible rfl))
      (try simp only [Act.put, List.setIfInBounds_toArray, List.set_cons_zero, List.set_cons_succ])
      refine wpAnyG_pure 4 (v := ?_) (fun _ => trivial) (by simp only [List.getElem?_toArray, List.getElem?_cons_succ, List.getElem?_cons_zero]; rfl) (by kernel_rfl) (fun _ _ _ _ _ h => h) ⟨(by rfl), (by intro c h; cases h), ?_⟩ hHeld ?_
      rotate_left
      focus (intro wS hSw; (try replace hSw := HSF.out wS hSw); (try dsimp only at hSw); go_simp; (try with_reducible rfl))
      (try simp only [Act.put, List.setIfInBounds_toArray, List.set_cons_zero, List.set_cons_succ])
      refine wpAnyG_take 5 (v := ?_) (fun _ => trivial) (by simp only [List.getElem?_toArray, List.getElem?_cons_succ, List.getElem?_cons_zero]; rfl) (by kernel_rfl) (fun _ _ _ _ _ h => h) ⟨(by rfl), (by intro c h; cases h), ?_⟩ hHeld ?_
      rotate_left
      focus (intro wS hSw; (try replace hSw := HSF.out wS hSw); (try dsimp only at hSw); go_simp; (try with_reducible rfl))
      (try simp only [Act.put, List.setIfInBounds_toArray, List.set_cons_zero, List.set_cons_succ])
      refine wpAnyG_pure 6 (v := ?_) (fun _ => trivial) (by simp only [List.getElem?_toArray, List.getElem?_cons_succ, List.getElem?_cons_zero]; rfl) (by kernel_rfl) (fun _ _ _ _ _ h => h) ⟨(by rfl), (by intro c h; cases h), ?_⟩ hHeld ?_
      rotate_left
      focus (intro wS hSw; (try replace hSw := HSF.out wS hSw); (try dsimp only at hSw); go_simp; (try with_reducible rfl))
      (try simp only [Act.put, List.setIfInBounds_toArray, List.set_cons_zero, List.set_cons_succ])
      refine wpAnyG_pure 7 (v := ?_) (fun _ => trivial) (by simp only [List.getElem?_toArray, List.getElem?_cons_succ, List.getElem?_cons_zero]; rfl) (by kernel_rfl) (fun _ _ _ _ _ h => h) ⟨(by rfl), (by intro c h; cases h), ?_⟩ hHeld ?_
      rotate_left
      focus (intro wS hSw; (try replace hSw := HSF.out wS hSw); (try dsimp only at hSw); go_simp; (try with_reducible rfl))
      (try simp only [Act.put, List.setIfInBounds_toArray, List.set_cons_zero, List.set_cons_succ])
      refine wpAnyG_pure 8 (v := ?_) (fun _ => trivial) (by simp only [List.getElem?_toArray, List.getElem?_cons_succ, List.getElem?_cons_zero]; rfl) (by kernel_rfl) (fun _ _ _ _ _ h => h) ⟨(by rfl), (by intro c h; cases h), ?_⟩ hHeld ?_
      rotate_left
      focus (intro wS hSw; (try replace hSw := HSF.out wS hSw); (try dsimp only at hSw); go_simp; (try with_reducible rfl))
      (try simp only [Act.put, List.setIfInBounds_toArray, List.set_cons_zero, List.set_cons_succ])
      refine wpAnyG_pure 9 (v := ?_) (fun _ => trivial) (by simp only [List.getElem?_toArray, List.getElem?_cons_succ, List.getElem?_cons_zero]; rfl) (by kernel_rfl) (fun _ _ _ _ _ h => h) ⟨(by rfl), (by intro c h; cases h), ?_⟩ hHeld ?_
      rotate_left
      focus (intro wS hSw; (try replace hSw := HSF.out wS hSw); (try dsimp only at hSw); go_simp; (try with_reducible rfl))
      (try simp only [Act.put, List.setIfInBounds_toArray, List.set_cons_zero, List.set_cons_succ])
      refine wpAnyG_take 10 (v := ?_) (fun _ => trivial) (by simp only [List.getElem?_toArray, List.getElem?_cons_succ, List.getElem?_cons_zero]; rfl) (by kernel_rfl) (fun _ _ _ _ _ h => h) ⟨(by rfl), (by intro c h; cases h), ?_⟩ hHeld ?_
      rotate_left
      focus (intro wS hSw; (try replace hSw := HSF.out wS hSw); (try dsimp only at hSw); go_simp; (try with_reducible rfl))
      (try simp only [Act.put, List.setIfInBounds_toArray, List.set_cons_zero, List.set_cons_succ])
      refine wpAnyG_pure 11 (v := ?_) (fun _ => trivial) (by simp only [List.getElem?_toArray, List.getElem?_cons_succ, List.getElem?_cons_zero]; rfl) (by kernel_rfl) (fun _ _ _ _ _ h => h) ⟨(by rfl), (by intro c h; cases h), ?_⟩ hHeld ?_
      rotate_left
      focus (intro wS hSw; (try replace hSw := HSF.out wS hSw); (try dsimp only at hSw); go_simp; (try with_reducible rfl))
      (try simp only [Act.put, List.setIfInBounds_toArray, List.set_cons_zero, List.set_cons_succ])
      refine wpAnyG_take 12 (v := ?_) (fun _ => trivial) (by simp only [List.getElem?_toArray, List.getElem?_cons_succ, List.getElem?_cons_zero]; rfl) (by kernel_rfl) (fun _ _ _ _ _ h => h) ⟨(by rfl), (by intro c h; cases h), ?_⟩ hHeld ?_
      rotate_left
      focus (intro wS hSw; (try replace hSw := HSF.out wS hSw); (try dsimp only at hSw); go_simp; (try with_reducible rfl))
      (try simp only [Act.put, List.setIfInBounds_toArray, List.set_cons_zero, List.set_cons_succ])
      refine wpAnyG_pure 13 (v := ?_) (fun _ => trivial) (by simp only [List.getElem?_toArray, List.getElem?_cons_succ, List.getElem?_cons_zero]; rfl) (by kernel_rfl) (fun _ _ _ _ _ h => h) ⟨(by rfl), (by intro c h; cases h), ?_⟩ hHeld ?_
      rotate_left
      focus (intro wS hSw; (try replace hSw := HSF.out wS hSw); (try dsimp only at hSw); go_simp; (try with_reducible rfl))
      (try simp only [Act.put, List.setIfInBounds_toArray, List.set_cons_zero, List.set_cons_succ])
      refine wpAnyG_pure 14 (v := ?_) (fun _ => trivial) (by simp only [List.getElem?_toArray, List.getElem?_cons_succ, List.getElem?_cons_zero]; rfl) (by kernel_rfl) (fun _ _ _ _ _ h => h) ⟨(by rfl), (by intro c h; cases h), ?_⟩ hHeld ?_
      rotate_left
      focus (intro wS hSw; (try replace hSw := HSF.out wS hSw); (try dsimp only at hSw); go_simp; (try with_reducible rfl))
      (try simp only [Act.put, List.setIfInBounds_toArray, List.set_cons_zero, List.set_cons_succ])
      refine wpAnyG_take 15 (v := ?_) (fun _ => trivial) (by simp only [List.getElem?_toArray, List.getElem?_cons_succ, List.getElem?_cons_zero]; rfl) (by kernel_rfl) (fun _ _ _ _ _ h => h) ⟨(by rfl), (by intro c h; cases h), ?_⟩ hHeld ?_
      rotate_left
      focus (intro wS hSw; (try replace hSw := HSF.out wS hSw); (try dsimp only at hSw); go_simp; (try with_reducible rfl))
      (try simp only [Act.put, List.setIfInBounds_toArray, List.set_cons_zero, List.set_cons_succ])
      refine wpAnyG_take 16 (v := ?_) (fun _ => trivial) (by simp only [List.getElem?_toArray, List.getElem?_cons_succ, List.getElem?_cons_zero]; rfl) (by kernel_rfl) (fun _ _ _ _ _ h => h) ⟨(by rfl), (by intro c h; cases h), ?_⟩ hHeld ?_
      rotate_left
      focus (intro wS hSw; (try replace hSw := HSF.out wS hSw); (try dsimp only at hSw); go_simp; (try with_reducible rfl))
      (try simp only [Act.put, List.setIfInBounds_toArray, List.set_cons_zero, List.set_cons_succ])
      refine wpAnyS_ready [17] (by kernel_rfl) (by simp) (AllReadyS.consLG (by simp only [List.getElem?_toArray, List.getElem?_cons_succ, List.getElem?_cons_zero]; rfl) (by rfl) (by kernel_rfl) (fun K hK => ?_) AllReadyS.nil)
      refine callS (by intro c h; cases h) (by go_simp; try with_reducible rfl) HC.out ?_
      intro w5 hB5
      have b5 := hid (show Below wr.heap.size wr w5 from (Below.refl wr.heap.size wr).drew.trans hB5)
      have B5 := hid (HB.out.trans (b5.out.mono HB.out.size))
      refine hK.out _ _ ?_
      (try simp only [Act.put, List.setIfInBounds_toArray, List.set_cons_zero, List.set_cons_succ])
      clear hK K hHeld hB5 HC HH
      refine wpAnyG_pureL 18 (v := ?_) (fun _ => trivial) (by simp only [List.getElem?_toArray, List.getElem?_cons_succ, List.getElem?_cons_zero]; rfl) (by kernel_rfl) (by kernel_rfl) (fun _ _ _ _ _ h => h) ⟨(by rfl), (by intro c h; cases h), ?_⟩ ?_
      rotate_left
      focus (intro wS hSw; (try replace hSw := HSF.out wS hSw); (try dsimp only at hSw); go_simp; (try with_reducible rfl))
      (try simp only [Act.put, List.setIfInBounds_toArray, List.set_cons_zero, List.set_cons_succ])
      refine wpAnyS_done (by kernel_rfl) ?_
      replace x2 := (bcell b5.out _ _ xz).trans x2
      replace c1 := (bcell b5.out _ _ hz).trans c1
      have hz5 : b < w5.heap.size := by have := b5.out.size; omega
      have xz5 : w.heap.size < w5.heap.size := by have := b5.out.size; omega
      clear x0 x1 y0 y1 y2 yz c0 c2 XR YR FR BR
      cases hh : hasF lots (xk, xc, xu) ((k : Int), yb, yc) with
      | false =>
        have hg2 := hid (show goneL lots (bs.take (i + 1)) (xk, xc, xu) (k : Int) = gn by rw [hgt.out]; simp [hh])
        as_aux_lemma =>
          go_wp2_with fail
          go_roundw
          case rel => exact ⟨i + 1, by omega, by go_num, by rw [hg2.out], B5.out⟩
          case measure => simp [intOf]; omega
      | true =>
        have hg2 := hid (show goneL lots (bs.take (i + 1)) (xk, xc, xu) (k : Int) = gn + yb by rw [hgt.out]; simp [hh])
        as_aux_lemma =>
          go_wp2_with fail
          go_roundw
          case rel => exact ⟨i + 1, by omega, by go_num, by rw [hg2.out], B5.out⟩
          case measure => simp [intOf]; omega
end Go.Proofs.Ytmffdhfpfijocaa
