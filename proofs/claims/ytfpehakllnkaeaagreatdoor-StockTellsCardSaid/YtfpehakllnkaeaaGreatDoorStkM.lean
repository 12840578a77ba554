
/- Stock: Plan. -/
import Derived.Test.YtfpehakllnkaeaaGreatDoorStkL
set_option linter.unusedSimpArgs false
set_option linter.unusedVariables false
namespace Go.Proofs.YtfpehakllnkaeaaGreatDoor
open Go.RowKit Go.IntWalk

structure LeftOK (lots : List Lt) (n : Nat) (left : List Bx) : Prop where
  len : left.length = n
  lt : ∀ b ∈ left, b.1 < lots.length
  cnt : CntOK left
  i3 : ∀ b ∈ left, I3 b
theorem subAt_eq {bs : List Bx} {k : Nat} (h : k < bs.length) (n : Int) : subAt bs k n = bs.set k (bs[k].1, bs[k].2.1 - n, bs[k].2.2) := by
  have e : bs.getD k (0, 0, 0) = bs[k] := by simp [h]
  unfold subAt
  rw [e]
theorem LeftOK.sub {lots : List Lt} {n : Nat} {left : List Bx} (h : LeftOK lots n left) {k : Nat} (hk : k < left.length) {m : Int} (h0 : 0 ≤ m) (h1 : m ≤ left[k].2.1) : LeftOK lots n (subAt left k m) := by
  have hm := List.getElem_mem hk
  have hc := h.cnt _ hm
  have hi := h.i3 _ hm
  have hl := h.lt _ hm
  rw [subAt_eq hk]
  refine ⟨by simp [h.len], fun b hb => ?_, fun b hb => ?_, fun b hb => ?_⟩
  · rcases List.mem_or_eq_of_mem_set hb with hb | rfl
    · exact h.lt b hb
    · exact hl
  · rcases List.mem_or_eq_of_mem_set hb with hb | rfl
    · exact h.cnt b hb
    · simp only; omega
  · rcases List.mem_or_eq_of_mem_set hb with hb | rfl
    · exact h.i3 b hb
    · exact ⟨hi.1, ⟨by simp only; omega, by simp only; omega⟩, hi.2.2⟩
/-- What Plan hands back: a plan and an error number. -/
def planL (lots : List Lt) (bs : List Bx) (wants : List Wt) : List (List Tk) × Int :=
  if wants.any (fun x => !wantF x) then ([], 1) else match planS lots wants bs [] with
    | none => ([], 22)
    | some r => (r.1, 0)
def PlanR (w : World) (lots : List Lt) (bs : List Bx) (wants : List Wt) (e : Ending) (w' : World) : Prop :=
  ∃ (A : Option Addr) (c : Nat), e = .returned (.tuple #[.slice A (planL lots bs wants).1.length c, .int .i64 (planL lots bs wants).2]) ∧ (planL lots bs wants).1.length ≤ maxLen ∧ SlR w' w'.heap.size A (planL lots bs wants).1 ∧ Below w.heap.size w w'
theorem planL_arg {lots : List Lt} {bs : List Bx} {wants : List Wt} (h : wants.any (fun x => !wantF x) = true) : planL lots bs wants = ([], 1) := by unfold planL; rw [if_pos h]
theorem planL_none {lots : List Lt} {bs : List Bx} {wants : List Wt} (h : wants.any (fun x => !wantF x) = false) (h2 : planS lots wants bs [] = none) : planL lots bs wants = ([], 22) := by unfold planL; rw [if_neg (by rw [h]; simp), h2]
theorem planL_some {lots : List Lt} {bs : List Bx} {wants : List Wt} {r : List (List Tk) × List Bx} (h : wants.any (fun x => !wantF x) = false) (h2 : planS lots wants bs [] = some r) : planL lots bs wants = (r.1, 0) := by unfold planL; rw [if_neg (by rw [h]; simp), h2]
/-- A row of boxes made by make and copy. -/
theorem ownX_of {w : World} {base g : Nat} {l : List Bx} (hb : Blk w g 45 (b3 l).toArray) (hg : base ≤ g) (hl : l.length ≤ maxLen) : OwnX w base (.slice (some ⟨g, 0, none⟩) l.length l.length) l :=
  ⟨b3_len l, .inr ⟨g, l.length, _, rfl, hg, hb, Nat.le_refl _, hl, by simp [b3_len], by rw [List.take_of_length_le (by rw [b3_len]; exact Nat.le_refl _)]⟩⟩
set_option maxRecDepth 100000 in
set_option maxHeartbeats 40000000 in
theorem plan_any (A B C : Option Addr) (c d e0 : Nat) (lots : List Lt) (bs : List Bx) (wants : List Wt) (w : World) (hl : lots.length ≤ maxLen) (hb : bs.length ≤ 20) (hw : wants.length ≤ 1000) (h1 : SlR w w.heap.size A lots) (h2 : SlR w w.heap.size B bs) (h3 : SlR w w.heap.size C wants) (hok : LeftOK lots bs.length bs) :
    Calls Tryz.prog 22 #[.slice A lots.length c, .slice B bs.length d, .slice C wants.length e0] w (PlanR w lots bs wants) := by
  have HL := hid hl; have H1 := hid h1; have H2 := hid h2; have H3 := hid h3; have HOK := hid hok
  have HC := hid (ctw_any 58 #[] callPl C e0 wants (fun x => !wantF x) w (by unfold maxLen; omega) h3 (fun x W _ hBW => (plan1_any x W).mono (fun e w' he => ⟨he.1, hBW.trans (he.2.mono hBW.size)⟩)))
  obtain ⟨i0, hi, hz0, hz1, hz2⟩ := info_parts infoBx
  have hmk := fun W => run_make_rowN (P := Tryz.prog) 24 45 i0 _ Tryz.underlying24 hi hz0 .i64 .i64 bs.length bs.length (Nat.le_refl _) (by rw [hz2]; omega) (by omega) W
  rw [hz1] at hmk
  clear hl h1 h2 h3 hok hi hz0 hz1 hz2
  go_enter Tryz.func22, Tryz.ntmps22
  go_wp2_with fail
  refine HC.out.mono ?_
  rintro e w2 ⟨rfl, hB2⟩
  have B2 := hid hB2
  clear hB2 HC
  cases hany : wants.any (fun x => !wantF x) with
  | true =>
    have hp := hid (planL_arg (lots := lots) (bs := bs) hany)
    clear hmk
    as_aux_lemma =>
      go_wp2_with fail
      refine bodyPost_ret (v := .tuple #[.slice none 0 0, .int .i64 1]) (by simp [results, Tryz.results22, go_sem]) rfl ?_
      exact ⟨none, 0, by rw [hp.out]; rfl, by rw [hp.out]; exact Nat.zero_le _, by rw [hp.out]; exact SlR.nil, B2.out⟩
  | false =>
    have HANY := hid hany
    clear hany
    go_upto_region 4 with fail
    clear hmk
    have hcur := hid (size_madeCells #[Value.int .i64 0, .int .i64 0, .int .i64 0] (bs.length * 3))
    generalize madeCells #[Value.int .i64 0, .int .i64 0, .int .i64 0] (bs.length * 3) = cur at *
    have N3 := hid (Blk.new w2 45 cur)
    have b3' := hid ((Below.refl w2.heap.size w2).alloc (Nat.le_refl _) (Obj.cells cur 45))
    have hg0 := hid (show w.heap.size ≤ w2.heap.size from B2.out.size)
    have hsrc := hid (show 0 < bs.length → ∃ a, B = some a ∧ ∀ j v, (b3 bs)[j]? = some v → (w2.alloc (Obj.cells cur 45)).cell? (a.add j) = some v from fun h0 => by
      obtain ⟨b, off, rfl, _⟩ := H2.out.i3 h0
      have B23 := B2.out.trans (b3'.out.mono B2.out.size)
      exact ⟨⟨b, off, none⟩, rfl, (H2.out.below B23).b3c⟩)
    have hfit := hid (show (b3 bs).length = cur.size by rw [hcur.out, b3_len])
    have B3 := hid (B2.out.trans (b3'.out.mono B2.out.size))
    generalize hgg : w2.heap.size = g at *
    generalize w2.alloc (Obj.cells cur 45) = w3 at *
    clear hgg b3' B2
    go_upto_region 5 with (refine wp_copyB _ rfl (.tmp 22) (.tmp 23) rfl g bs.length bs.length B d cur 45 (b3 bs) rfl rfl N3.out (b3_len bs) hsrc.out hfit.out (b3_one bs) ?_; intro w4 hb4 hg4; have X4 := hid (ownX_of (base := w.heap.size) hb4 hg0.out (by unfold maxLen; omega)); have B4 := hid (B3.out.grown hg4 B3.out.size (fun q e => by injection e with e; have := hg0.out; omega)); clear hb4 hg4)
    clear hsrc hfit N3 B3 hcur
    go_wp2_with fail
    go_loopw [9, 27] (fun ov iv wr => ∃ (i : Nat) (vO : Value) (vs : List Value) (p : List (List Tk)) (left : List Bx), i ≤ wants.length ∧ iv = .int .i64 i ∧ vO = ov ∧ OwnX wr w.heap.size (.slice (some ⟨g, 0, none⟩) bs.length bs.length) left ∧ OwnO wr w.heap.size vO vs ∧ Pln wr vs p ∧ planS lots wants bs [] = planS lots (wants.drop i) left p ∧ LeftOK lots bs.length left ∧ p.length = i ∧ Below w.heap.size w wr) (fun _ iv _ => wants.length - (intOf iv).toNat)
    case atStart => exact ⟨0, .slice none 0 0, [], [], bs, by omega, rfl, rfl, X4.out, ⟨rfl, .inl ⟨rfl, rfl⟩⟩, ⟨rfl, fun k h => by simp at h, fun l h => by simp at h⟩, by simp, HOK.out, rfl, B4.out⟩
    case round =>
      obtain ⟨i, vO, vs, p, left, hi, rfl, rfl, hX, hO, hP, hS, hLO, hpl, hB⟩ := hrel
      have HX := hid hX; have HO := hid hO; have HP := hid hP; have HS := hid hS; have HLO := hid hLO; have HB := hid hB; have HPL := hid hpl
      clear hX hO hP hS hLO hB hpl X4 B4
      by_cases hlt : i < wants.length
      case neg =>
        obtain rfl : i = wants.length := by omega
        have hp := hid (planL_some (lots := lots) (bs := bs) (r := (p, left)) HANY.out (by rw [HS.out, List.drop_length]; rfl))
        obtain ⟨Ap, cp, rfl, hq1, hq2, hq3⟩ := Pln.slr HO.out HP.out
        have Q3 := hid hq3
        have Q2 := hid (Nat.le_trans hq1 hq2)
        clear hq1 hq2 hq3 hlt hi
        as_aux_lemma =>
          go_wp2_with fail
          refine bodyPost_ret (v := .tuple #[.slice Ap p.length cp, .int .i64 0]) (by simp [results, Tryz.results22, go_sem]) rfl ?_
          exact ⟨Ap, cp, by rw [hp.out], by rw [hp.out]; exact Q2.out, by rw [hp.out]; exact Q3.out, HB.out⟩
      have hltI : (i : Int) < wants.length := by omega
      have hwf := hid (show wantF wants[i] = true by
        have := List.any_eq_false.1 HANY.out _ (List.getElem_mem hlt)
        simpa using this)
      have hdr := hid (show wants.drop i = wants[i] :: wants.drop (i + 1) from List.drop_eq_getElem_cons hlt)
      obtain ⟨b, off, rfl, hbz, c0, c1, c2, -⟩ := H3.out.i3 hlt
      replace c0 := (bcell HB.out b _ hbz).trans c0
      replace c1 := (bcell HB.out b _ hbz).trans c1
      replace c2 := (bcell HB.out b _ hbz).trans c2
      have hz : b < wr.heap.size := by have := HB.out.size; omega
      generalize wants[i] = x at *
      obtain ⟨xk, xc, xu⟩ := x
      simp only at c0 c1 c2
      have hxc : 1 ≤ xc ∧ xc ≤ 20000 := by
        have := hwf.out
        simp only [wantF, btw, Bool.and_eq_true, decide_eq_true_eq] at this
        omega
      have hlx := HLO.out.len
      have b5 := hid ((Below.refl wr.heap.size wr).alloc (Nat.le_refl _) (Obj.cells #[.int .i64 xk, .int .i64 xc, .int .i64 xu] 42))
      have B5 := hid (HB.out.trans (b5.out.mono HB.out.size))
      have W5 := hid (Blk.new wr 42 #[.int .i64 xk, .int .i64 xc, .int .i64 xu])
      have X5 := hid (show OwnX (wr.alloc (Obj.cells #[.int .i64 xk, .int .i64 xc, .int .i64 xu] 42)) w.heap.size (.slice (some ⟨g, 0, none⟩) bs.length bs.length) left from own_kt (ts := [45]) HX.out (KT.of_below b5.out) (by decide))
      have HORD := hid (show Calls Tryz.prog 20 #[.slice A lots.length c, .slice (some ⟨g, 0, none⟩) bs.length bs.length, .agg #[.int .i64 xk, .int .i64 xc, .int .i64 xu]] (wr.alloc (Obj.cells #[.int .i64 xk, .int .i64 xc, .int .i64 xu] 42)) (fun e w' => ∃ v, e = .returned v ∧ OwnI w' (wr.alloc (Obj.cells #[.int .i64 xk, .int .i64 xc, .int .i64 xu] 42)).heap.size v (toI (orderL lots left (xk, xc, xu))) ∧ Below (wr.alloc (Obj.cells #[.int .i64 xk, .int .i64 xc, .int .i64 xu] 42)).heap.size (wr.alloc (Obj.cells #[.int .i64 xk, .int .i64 xc, .int .i64 xu] 42)) w') by
        obtain ⟨Al, cl, e1, _, _, hsl⟩ := X5.out.slr HLO.out.i3
        injection e1 with e1 e2 e3
        subst e1 e3
        have := order_any A (some ⟨g, 0, none⟩) c bs.length lots left (xk, xc, xu) _ HL.out (by omega) ((H1.out.below B5.out).more B5.out.size) hsl HLO.out.lt
        rwa [← e2] at this)
      go_wp2_with fail
      refine HORD.out.mono ?_
      rintro e w6 ⟨vR, rfl, ho6, hB6⟩
      have W6 := hid (W5.out.below hB6 W5.out.lt)
      have X6 := hid (show OwnX w6 w.heap.size (.slice (some ⟨g, 0, none⟩) bs.length bs.length) left from own_kt (ts := [45]) X5.out (KT.of_below hB6) (by decide))
      have b56 := hid (b5.out.trans (hB6.mono b5.out.size))
      have O6 := hid (show OwnO w6 w.heap.size vO vs from own_kt (ts := [28]) HO.out (KT.of_below b56.out) (by decide))
      have P6 := hid (HP.out.kt (ts := [66]) (KT.of_below b56.out) (by decide))
      have B6 := hid (B5.out.trans (hB6.mono B5.out.size))
      have hgz : g < wr.heap.size ∨ bs.length = 0 := by
        rcases HX.out.2 with ⟨hv, _⟩ | ⟨g', cap, cur, hv, _, hh, _⟩
        · cases hv
        · injection hv with hv _ _
          injection hv with hv
          injection hv with hv
          subst hv
          exact .inl (show Blk wr g _ _ from hh).lt
      have hsz5 : (wr.alloc (Obj.cells #[.int .i64 xk, .int .i64 xc, .int .i64 xu] 42)).heap.size = wr.heap.size + 1 := by simp
      rw [hsz5] at ho6
      have R6 := hid ho6
      have hom := hid (fun k (hk : k ∈ orderL lots left (xk, xc, xu)) => (orderL_mem.1 hk).1)
      have hserve := hid (Eq.refl (serve (orderL lots left (xk, xc, xu)) xc left []))
      have hplan := hid (show planS lots ((xk, xc, xu) :: wants.drop (i + 1)) left p = if 0 < (serve (orderL lots left (xk, xc, xu)) xc left []).1 then none else planS lots (wants.drop (i + 1)) (serve (orderL lots left (xk, xc, xu)) xc left []).2.1 (p ++ [(serve (orderL lots left (xk, xc, xu)) xc left []).2.2]) from rfl)
      have hol : (orderL lots left (xk, xc, xu)).length ≤ 20 := by have := orderL_len lots left (xk, xc, xu); omega
      generalize orderL lots left (xk, xc, xu) = ord at *
      obtain ⟨AR, cR, hvR⟩ := own_form R6.out
      rw [toI_len] at hvR
      subst hvR
      clear ho6 hB6 HORD X5 W5 b5 B5 HX HO HP HB hsz5 c0 c1 c2 hz
      have hwz6 : wr.heap.size ≤ w6.heap.size := b56.out.size
      generalize wr.heap.size = nz at *
      have t1 := W6.out.cell 1; have tz := W6.out.lt
      simp at t1
      go_wp2_with fail
      have hgb := hid (show ∃ cs, Blk w6 g 45 cs from by
        rcases X6.out.2 with ⟨hv, _⟩ | ⟨g', cap, cur, hv, _, hh, _⟩
        · cases hv
        · injection hv with hv _ _
          injection hv with hv
          injection hv with hv
          subst hv
          exact ⟨cur, hh⟩)
      go_loopw [12, 13, 15, 16, 38] (fun tv nv _ _ jv wq => ∃ (j : Nat) (vT : Value) (ts : List Tk) (lf : List Bx) (need : Int), j ≤ ord.length ∧ jv = .int .i64 j ∧ vT = tv ∧ nv = .int .i64 need ∧ (0 ≤ need ∧ need ≤ 20000) ∧ OwnT wq w6.heap.size vT ts ∧ (∀ x ∈ ts, I2 x) ∧ OwnX wq w.heap.size (.slice (some ⟨g, 0, none⟩) bs.length bs.length) lf ∧ LeftOK lots bs.length lf ∧ serve ord xc left [] = serve (ord.drop j) need lf ts ∧ ts.length = j ∧ w6.grownBy wq (some g)) (fun _ _ _ _ jv _ => ord.length - (intOf jv).toNat)
      case atStart => exact ⟨0, .slice none 0 0, [], left, xc, by omega, rfl, rfl, rfl, ⟨by omega, hxc.2⟩, ⟨rfl, .inl ⟨rfl, rfl⟩⟩, fun x hx => (by cases hx), X6.out, HLO.out, rfl, rfl, World.grownBy.refl _ _⟩
      case round =>
        obtain ⟨j, vT, ts, lf, need, hj, rfl, rfl, rfl, hneed, hT, hTI, hX, hLF, hSV, htl, hG⟩ := hrel
        have HT := hid hT; have HTI := hid hTI; have HX := hid hX; have HLF := hid hLF; have HSV := hid hSV; have HG := hid hG; have HTL := hid htl
        clear hT hTI hX hLF hSV hG htl t1 tz
        have BQ := hid (B6.out.grown HG.out B6.out.size (fun q e => by have := hg0.out; have e2 : g = q := Option.some.inj e; omega))
        have OQ := hid (own_kt (ts := [28]) O6.out (KT.of_grown HG.out (fun q e => by obtain ⟨cs, hc⟩ := hgb.out; have e2 : g = q := Option.some.inj e; subst e2; exact ⟨_, cs, hc, by decide⟩)) (by decide))
        have PQ := hid (P6.out.kt (ts := [66]) (KT.of_grown HG.out (fun q e => by obtain ⟨cs, hc⟩ := hgb.out; have e2 : g = q := Option.some.inj e; subst e2; exact ⟨_, cs, hc, by decide⟩)) (by decide))
        by_cases hjl : j < ord.length
        case neg =>
          obtain rfl : j = ord.length := by omega
          have hfin := hid (show serve ord xc left [] = (need, lf, ts) by rw [HSV.out, List.drop_length]; rfl)
          by_cases hn0 : 0 < need
          · have hp := hid (planL_none (lots := lots) (bs := bs) HANY.out (by rw [HS.out, hdr.out, hplan.out, hfin.out]; simp [hn0]))
            as_aux_lemma =>
              go_wp2_with fail
              refine bodyPost_ret (v := .tuple #[.slice none 0 0, .int .i64 22]) (by simp [results, Tryz.results22, go_sem]) rfl ?_
              exact ⟨none, 0, by rw [hp.out]; rfl, by rw [hp.out]; exact Nat.zero_le _, by rw [hp.out]; exact SlR.nil, BQ.out⟩
          have hps := hid (show planS lots wants bs [] = planS lots (wants.drop (i + 1)) lf (p ++ [ts]) by rw [HS.out, hdr.out, hplan.out, hfin.out]; simp [hn0])
          obtain ⟨AT, cT, rfl⟩ := own_form HT.out
          have bz := hid ((Below.refl wr.heap.size wr).alloc (Nat.le_refl _) (Obj.cells #[.slice AT ts.length cT] 28))
          have BZ := hid (BQ.out.trans (bz.out.mono BQ.out.size))
          have OZ := hid (own_kt (ts := [28]) OQ.out (KT.of_below bz.out) (by decide))
          have PZ := hid ((PQ.out.snoc (own_base HT.out (Nat.zero_le _)) HTI.out).kt (ts := [66]) (KT.of_below bz.out) (by decide))
          have XZ := hid (own_kt (ts := [45]) HX.out (KT.of_below bz.out) (by decide))
          have NZ := hid (Blk.new wr 28 #[.slice AT ts.length cT])
          have hvl := hid (show vs.length ≤ 1000000 by have h7 := P6.out.len; have h8 := HPL.out; omega)
          have hone := hid (own_one HT.out)
          as_aux_lemma =>
            go_wp2_with (at_builtin; refine wp_appO _ rfl (.tmp 72) (.tmp 74) rfl w.heap.size vO vs rfl OZ.out wr.heap.size 1 (.slice AT ts.length cT) hone.out rfl NZ.out hvl.out BZ.out.size ?_; intro v9 w9 ho9 hg9; have O9 := hid ho9; have k9 := hid (KT.of_grown (ts := [66, 45]) hg9 (fun q e => by obtain ⟨_, cs, hb⟩ := own_blk OZ.out q e; exact ⟨_, cs, hb, by decide⟩)); have B9 := hid (BZ.out.grown hg9 BZ.out.size (fun q e => (own_blk OZ.out q e).1)); clear ho9 hg9)
            go_roundw
            case rel => exact ⟨i + 1, v9, _, _, lf, by omega, by go_num, rfl, own_kt XZ.out k9.out (by decide), O9.out, PZ.out.kt k9.out (by decide), hps.out, HLF.out, by have := HPL.out; simp; omega, B9.out⟩
            case measure => simp [intOf]; omega
        have hjI : (j : Int) < ord.length := by omega
        have hdo := hid (show ord.drop j = ord[j] :: ord.drop (j + 1) from List.drop_eq_getElem_cons hjl)
        have hko := hom.out _ (List.getElem_mem hjl)
        have hoc : ∃ qR, AR = some ⟨qR, 0, none⟩ ∧ nz + 1 ≤ qR ∧ qR < w6.heap.size ∧ w6.cell? ⟨qR, j, none⟩ = some (.int .i64 (ord[j] : Int)) := by
          obtain ⟨qR, cap, cur, hv, hq, hbq, _, _, hcell⟩ := own_cell R6.out (by rw [toI_len]; omega)
          injection hv with hv _ _
          refine ⟨qR, hv, hq, hbq.lt, ?_⟩
          have := hcell j (by rw [toI_len]; omega)
          rw [hbq.cell, this]
          simp [toI, hjl]
        obtain ⟨qR, rfl, hq1, hq2, hoc⟩ := hoc
        generalize ord[j] = k at *
        have hkl : k < lf.length := by rw [HLF.out.len, ← HLO.out.len]; exact hko
        have hkn : k < bs.length := by have := HLF.out.len; omega
        have hg1 : g < nz := by omega
        have oc := (HG.out.cell_far ⟨qR, j, none⟩ hq2 (fun e => by have e2 : qR = g := Option.some.inj e; omega)).trans hoc
        have ocz : qR < wr.heap.size := by have := HG.out.size; omega
        obtain ⟨q0, q1, q2, xz, xf⟩ := HX.out.at_ hkl
        have xf1 := xf (k * 3 + 1)
        clear xf
        have hcb := HLF.out.cnt _ (List.getElem_mem hkl)
        have hca : cntAt lf k = lf[k].2.1 := by simp [cntAt, hkl]
        have hsv := hid (show serve (k :: ord.drop (j + 1)) need lf ts = if min need (cntAt lf k) = 0 then (need, lf, ts) else serve (ord.drop (j + 1)) (need - min need (cntAt lf k)) (subAt lf k (min need (cntAt lf k))) (ts ++ [((k : Int), min need (cntAt lf k))]) from rfl)
        rw [hca] at hsv
        have hsub := hid (fun (m : Int) (h0 : 0 ≤ m) (h1 : m ≤ lf[k].2.1) => HLF.out.sub hkl h0 h1)
        have hset := hid (fun (W : World) (hW : OwnX W w.heap.size (.slice (some ⟨g, 0, none⟩) bs.length bs.length) lf) (m : Int) => show OwnX (W.setCell ⟨g, k * 3 + 1, none⟩ (.int .i64 (lf[k].2.1 - m))) w.heap.size (.slice (some ⟨g, 0, none⟩) bs.length bs.length) (subAt lf k m) from by rw [subAt_eq hkl]; exact hW.setCnt hkl _)
        have hcl := hid (fun (W : World) (hW : OwnX W w.heap.size (.slice (some ⟨g, 0, none⟩) bs.length bs.length) lf) => (hW.at_ hkl).2.1)
        have hfr := hid (fun (W : World) (hW : OwnX W w.heap.size (.slice (some ⟨g, 0, none⟩) bs.length bs.length) lf) => show g < W.heap.size ∧ W.frozen? ⟨g, k * 3 + 1, none⟩ = false from ⟨(hW.at_ hkl).2.2.2.1, (hW.at_ hkl).2.2.2.2 _⟩)
        generalize lf[k].2.1 = cnt at *
        generalize hmm : min need cnt = m at *
        have hm1 : 0 ≤ m ∧ m ≤ need ∧ m ≤ cnt := by omega
        go_upto_region 15 with fail
        rw [show (if cnt < need then cnt else need) = m from by split <;> omega]
        by_cases hm0 : m = 0
        case pos =>
          have hfin := hid (show serve ord xc left [] = (need, lf, ts) by rw [HSV.out, hdo.out, hsv.out, if_pos hm0])
          clear hcl hfr
          by_cases hn0 : 0 < need
          · have hp := hid (planL_none (lots := lots) (bs := bs) HANY.out (by rw [HS.out, hdr.out, hplan.out, hfin.out]; simp [hn0]))
            as_aux_lemma =>
              go_wp2_with fail
              refine bodyPost_ret (v := .tuple #[.slice none 0 0, .int .i64 22]) (by simp [results, Tryz.results22, go_sem]) rfl ?_
              exact ⟨none, 0, by rw [hp.out]; rfl, by rw [hp.out]; exact Nat.zero_le _, by rw [hp.out]; exact SlR.nil, BQ.out⟩
          have hps := hid (show planS lots wants bs [] = planS lots (wants.drop (i + 1)) lf (p ++ [ts]) by rw [HS.out, hdr.out, hplan.out, hfin.out]; simp [hn0])
          obtain ⟨AT, cT, rfl⟩ := own_form HT.out
          have bz := hid ((Below.refl wr.heap.size wr).alloc (Nat.le_refl _) (Obj.cells #[.slice AT ts.length cT] 28))
          have BZ := hid (BQ.out.trans (bz.out.mono BQ.out.size))
          have OZ := hid (own_kt (ts := [28]) OQ.out (KT.of_below bz.out) (by decide))
          have PZ := hid ((PQ.out.snoc (own_base HT.out (Nat.zero_le _)) HTI.out).kt (ts := [66]) (KT.of_below bz.out) (by decide))
          have XZ := hid (own_kt (ts := [45]) HX.out (KT.of_below bz.out) (by decide))
          have NZ := hid (Blk.new wr 28 #[.slice AT ts.length cT])
          have hvl := hid (show vs.length ≤ 1000000 by have h7 := P6.out.len; have h8 := HPL.out; omega)
          have hone := hid (own_one HT.out)
          clear hjI hkl hkn hg1 oc ocz q0 q1 q2 xz xf1 hoc hca hcb hko hsub hset hmm hm1
          as_aux_lemma =>
            go_wp2_with (at_builtin; refine wp_appO _ rfl (.tmp 72) (.tmp 74) rfl w.heap.size vO vs rfl OZ.out wr.heap.size 1 (.slice AT ts.length cT) hone.out rfl NZ.out hvl.out BZ.out.size ?_; intro v9 w9 ho9 hg9; have O9 := hid ho9; have k9 := hid (KT.of_grown (ts := [66, 45]) hg9 (fun q e => by obtain ⟨_, cs, hb⟩ := own_blk OZ.out q e; exact ⟨_, cs, hb, by decide⟩)); have B9 := hid (BZ.out.grown hg9 BZ.out.size (fun q e => (own_blk OZ.out q e).1)); clear ho9 hg9)
            go_roundw
            case rel => exact ⟨i + 1, v9, _, _, lf, by omega, by go_num, rfl, own_kt XZ.out k9.out (by decide), O9.out, PZ.out.kt k9.out (by decide), hps.out, HLF.out, by have := HPL.out; simp; omega, B9.out⟩
            case measure => simp [intOf]; omega
        have hps := hid (show serve ord xc left [] = serve (ord.drop (j + 1)) (need - m) (subAt lf k m) (ts ++ [((k : Int), m)]) by rw [HSV.out, hdo.out, hsv.out, if_neg hm0])
        have b7 := hid ((Below.refl wr.heap.size wr).alloc (Nat.le_refl _) (Obj.cells #[.int .i64 (k : Int), .int .i64 m] 66))
        have N7 := hid (Blk.new wr 66 #[.int .i64 (k : Int), .int .i64 m])
        have T7 := hid (show OwnT _ w6.heap.size vT ts from own_kt (ts := [66]) HT.out (KT.of_below b7.out) (by decide))
        have X7 := hid (show OwnX _ w.heap.size (.slice (some ⟨g, 0, none⟩) bs.length bs.length) lf from own_kt (ts := [45]) HX.out (KT.of_below b7.out) (by decide))
        have G7 := hid (gr_far HG.out (gr_below b7.out none) (fun q e => by cases e))
        have htl1 := hid (show ts.length ≤ 1000000 by have := HTL.out; omega)
        have hsz7 := hid (show w6.heap.size ≤ (wr.alloc (Obj.cells #[.int .i64 (k : Int), .int .i64 m] 66)).heap.size by have := HG.out.size; simp; omega)
        have hw1 : IntKind.i64.wrap (cnt - m) = cnt - m := IntWalk.i64_in _ (by omega)
        have hw2 : IntKind.i64.wrap (need - m) = need - m := IntWalk.i64_in _ (by omega)
        clear q0 q1 q2 xz xf1 hoc hca hko hmm oc
        clear HX BQ OQ PQ
        go_upto_region 17 with (at_builtin; refine wp_appT _ rfl (.tmp 51) (.tmp 55) rfl w6.heap.size vT ts rfl T7.out wr.heap.size 1 ((k : Int), m) rfl N7.out htl1.out hsz7.out ?_; intro v9 w9 ho9 hg9; have T9 := hid ho9; have X9 := hid (show OwnX w9 w.heap.size (.slice (some ⟨g, 0, none⟩) bs.length bs.length) lf from own_kt (ts := [45]) X7.out (KT.of_grown hg9 (fun q e => by obtain ⟨_, cs, hb⟩ := own_blk T7.out q e; exact ⟨_, cs, hb, by decide⟩)) (by decide)); have G9 := hid (gr_far G7.out hg9 (fun q e => (own_blk T7.out q e).1)); clear ho9 hg9)
        clear N7 b7 T7 X7 G7 hsz7 htl1
        have xc1 := hcl.out w9 X9.out
        obtain ⟨xz, xf⟩ := hfr.out w9 X9.out
        have X10 := hid (hset.out w9 X9.out m)
        have G10 := hid (gr_tr G9.out (gr_set w9 g (k * 3 + 1) (.int .i64 (cnt - m))))
        have hgb9 := hid (show ∃ cs, Blk w9 g 45 cs from by
          rcases X9.out.2 with ⟨hv, _⟩ | ⟨g', cap, cur, hv, _, hh, _⟩
          · cases hv
          · injection hv with hv _ _
            injection hv with hv
            injection hv with hv
            subst hv
            exact ⟨cur, hh⟩)
        have T10 := hid (show OwnT (w9.setCell ⟨g, k * 3 + 1, none⟩ (.int .i64 (cnt - m))) w6.heap.size v9 (ts ++ [((k : Int), m)]) from own_kt (ts := [66]) T9.out (KT.of_set hgb9.out.choose_spec (by decide) _) (by decide))
        clear hcl hfr hset
        as_aux_lemma =>
          go_wp2_with fail
          go_roundw
          case rel => exact ⟨j + 1, v9, _, _, need - m, by omega, by go_num, rfl, by go_num, ⟨by omega, by omega⟩, T10.out, fun x hx => by
            rcases List.mem_append.1 hx with hx | hx
            · exact HTI.out x hx
            · rcases List.mem_singleton.1 hx with rfl
              exact ⟨⟨by simp only; omega, by simp only; omega⟩, ⟨by simp only; omega, by simp only; omega⟩⟩, X10.out, hsub.out m (by omega) (by omega), hps.out, by have := HTL.out; simp; omega, G10.out⟩
          case measure => simp [intOf]; omega
end Go.Proofs.YtfpehakllnkaeaaGreatDoor
