
/- Lease: LeaseBack, the walk. -/
import Derived.Test.YtappgjdnfllblaaDoorLrE
import Derived.Test.YtappgjdnfllblaaDoorLeaSb
import Derived.Deep.CutBlock
import Derived.Deep.DeepCutAuto
set_option linter.unusedSimpArgs false
set_option linter.unusedVariables false
namespace Go.Proofs.YtappgjdnfllblaaDoor
open Go.RowKit Go.IntWalk Go.Maps Go.WideMaps
theorem meas_b (N t : Nat) (x : Int) (h : x = ((t + 1 : Nat) : Int)) (ht : t < N) : N - (intOf (.int .i64 x)).toNat < N - (intOf (.int .i64 (t : Int))).toNat := by
  subst h
  simp [intOf]
  omega
theorem no_one {w w' : World} {r : Option P4} {e : Ending} (h : NoRes w r e w') : e = .returned (.tuple #[.agg #[.int .i64 (r.getD zeroN).1, .int .i64 (r.getD zeroN).2.1, .int .i64 (r.getD zeroN).2.2.1, .int .i64 (r.getD zeroN).2.2.2], .bool r.isSome]) ∧ Below w.heap.size w w' := by
  cases r with
  | none => exact h
  | some p => exact h
/-- The desk, its copy, and what has been made of the desk. -/
structure BkS (w0 w : World) (base b : Nat) (v : Value) (mh mg base2 cb : Nat) (cv : Value) (cmh cmg : Nat) (d0 d : LDk) (M : Int) : Prop where
  D : Ld w base b v mh mg d
  C : Ld w base2 cb cv cmh cmg d0
  K : OkI d M
  B : Below w0.heap.size w0 w
  hb : w0.heap.size ≤ base
  h1 : mh < base2
  h2 : mg < base2
section
variable {w0 w w' : World} {base b : Nat} {v : Value} {mh mg base2 cb : Nat} {cv : Value} {cmh cmg : Nat} {d0 d d' : LDk} {M M' : Int}
theorem BkS.act (h : BkS w0 w base b v mh mg base2 cb cv cmh cmg d0 d M) {x : Value} {e : Ending} (hr : LRes w base b v mh mg x d' e w') (hk : OkI d' M') : e = .returned x ∧ BkS w0 w' base b v mh mg base2 cb cv cmh cmg d0 d' M' := by
  obtain ⟨he, hd, q, hq, hg⟩ := hr
  have q1 : q < base2 := by rcases hq with rfl | rfl; exact h.h1; exact h.h2
  have q2 : base ≤ q := by rcases hq with rfl | rfl; exact h.D.ha; exact h.D.ga
  exact ⟨he, hd, h.C.reader q1 hg, hk, bg h.B hg (Nat.le_trans h.hb q2), h.hb, h.h1, h.h2⟩
theorem BkS.below (h : BkS w0 w base b v mh mg base2 cb cv cmh cmg d0 d M) (hb : Below w.heap.size w w') : BkS w0 w' base b v mh mg base2 cb cv cmh cmg d0 d M :=
  ⟨h.D.below hb, h.C.below hb, h.K, h.B.trans (hb.mono h.B.size), h.hb, h.h1, h.h2⟩
theorem BkS.mono (h : BkS w0 w base b v mh mg base2 cb cv cmh cmg d0 d M) (hM : M ≤ M') : BkS w0 w base b v mh mg base2 cb cv cmh cmg d0 d M' :=
  ⟨h.D, h.C, ⟨h.K.1, h.K.2.mono hM⟩, h.B, h.hb, h.h1, h.h2⟩
end
set_option maxRecDepth 100000 in
set_option maxHeartbeats 8000000 in
theorem lback_any (s : ByteArray) (Al : Option Addr) (cl : Nat) (l : List Opl) (w : World) (hl : l.length ≤ maxLen) (hs : SlR w w.heap.size Al l) (he : Env w) :
    Calls Tryd.prog 3 #[.string s, .slice Al l.length cl] w fun e w' => e = .returned (.bool true) ∧ Below w.heap.size w w' := by
  have HS := hid hs
  have HL := hid hl
  unfold maxLen at hl
  clear hs
  go_enter Tryd.func3, Tryd.ntmps3
  go_wp2_with fail
  refine (lsmall_any _).mono ?_
  rintro e w1 ⟨rfl, hB1⟩
  have B1 := hid hB1
  clear hB1
  by_cases h200 : (200 : Int) < s.size
  · go_wp2_with fail
    go_ret
    exact ⟨rfl, B1.out⟩
  have HF := hid (fine_any Al cl l 20 w1 HL.out ((HS.out.below B1.out).more B1.out.size))
  cases hf : fineL l 20 with
  | false =>
    rw [hf] at HF
    clear hf
    go_wp2_with fail
    refine HF.out.mono ?_
    rintro e w2 ⟨rfl, hB⟩
    have B2 := hid (B1.out.trans (hB.mono B1.out.size))
    clear hB
    go_wp2_with fail
    go_ret
    exact ⟨rfl, B2.out⟩
  | true =>
    rw [hf] at HF
    obtain ⟨hok, hl20⟩ := fineL_iff.1 hf
    have HOK := hid hok
    have HL20 := hid hl20
    clear hf hok hl20
    have hs2 : s.size ≤ 90000 := by omega
    go_wp2_with fail
    refine HF.out.mono ?_
    rintro e w2 ⟨rfl, hB⟩
    have B2 := hid (B1.out.trans (hB.mono B1.out.size))
    have N1 := hid (rnote_any s w2 hs2 (he.below B2.out))
    have hsl := hid (show s.data.toList.length ≤ 1000000000000 by rw [← size_list]; omega)
    clear hB HF B1
    have HNS := hid (fun p (h : readN s.data.toList = some p) => readN_split h)
    have HDS := hid (fun d (h : readDk s.data.toList = some d) => And.intro (readDk_split hsl.out h) (readDk_ok h))
    have N2 := hid (fun (W : World) => rrnote_any s W hs2)
    have D1 := hid (fun (W : World) (hW : Below w.heap.size w W) => lread_any s W hs2 (he.below hW))
    have D2 := hid (fun (W : World) => rread_any s W hs2)
    have HBS := hid (show bs s.data.toList = s from bs_of s)
    generalize s.data.toList = sl at *
    obtain ⟨np, hnp⟩ : ∃ np, np = (readN sl).getD zeroN := ⟨_, rfl⟩
    have HNB := hid (show (readN sl).isSome = true → bs (enc4 np) = s ∧ P4I np by
      intro h
      cases hr : readN sl with
      | none => rw [hr] at h; cases h
      | some p =>
        rw [hr] at hnp
        obtain ⟨a, b⟩ := HNS.out p hr
        rw [hnp]
        exact ⟨by rw [show (some p).getD zeroN = p from rfl, a, HBS.out], b⟩)
    have N1' := hid (N1.out.mono fun e w' h => no_one h)
    have N2' := hid (fun W => (N2.out W).mono fun e w' h => no_one h)
    rw [← hnp] at N1' N2'
    clear N1 N2 HNS hnp hs2
    generalize (readN sl).isSome = bn at *
    obtain ⟨n0, n1, n2, n3⟩ := np
    simp only at N1' N2'
    go_upto_region 5 with (go_at_call 10; refine N1'.out.mono ?_; rintro e w3 ⟨rfl, hB⟩)
    have B3 := hid (B2.out.trans (hB.mono B2.out.size))
    have B4 := hid (B3.out.alloc B3.out.size (Obj.cells #[.int .i64 n0, .int .i64 n1, .int .i64 n2, .int .i64 n3] 26))
    have X4 := hid (Blk.new w3 26 #[.int .i64 n0, .int .i64 n1, .int .i64 n2, .int .i64 n3])
    clear hB B2 B3 N1' h200
    generalize (w3.alloc (Obj.cells #[.int .i64 n0, .int .i64 n1, .int .i64 n2, .int .i64 n3] 26)) = w4 at *
    generalize w3.heap.size = g1 at *
    go_upto_region 6 with (go_at_call 11; refine (N2'.out _).mono ?_; rintro e w5 ⟨rfl, hB⟩)
    have B5 := hid (B4.out.trans (hB.mono B4.out.size))
    have X5 := hid (X4.out.below hB X4.out.lt)
    have B6 := hid (B5.out.alloc B5.out.size (Obj.cells #[.int .i64 n0, .int .i64 n1, .int .i64 n2, .int .i64 n3] 26))
    have X6 := hid (X5.out.alloc (Obj.cells #[.int .i64 n0, .int .i64 n1, .int .i64 n2, .int .i64 n3] 26))
    have Y6 := hid (Blk.new w5 26 #[.int .i64 n0, .int .i64 n1, .int .i64 n2, .int .i64 n3])
    clear hB B4 B5 X4 X5 N2'
    generalize (w5.alloc (Obj.cells #[.int .i64 n0, .int .i64 n1, .int .i64 n2, .int .i64 n3] 26)) = w6 at *
    generalize w5.heap.size = g2 at *
    have R1 := hid (D1.out w6 B6.out)
    clear D1
    cases hrd : readDk sl with
    | none =>
      as_aux_lemma =>
        rw [hrd] at R1 D2
        clear hrd HDS
        go_wp2_with fail
        refine R1.out.mono ?_
        rintro e w7 ⟨rfl, hB⟩
        have B7 := hid (B6.out.trans (hB.mono B6.out.size))
        have X7 := hid (X6.out.below hB X6.out.lt)
        have Y7 := hid (Y6.out.below hB Y6.out.lt)
        clear hB B6 X6 Y6 R1
        go_wp2_with fail
        refine (D2.out w7).mono ?_
        rintro e w8 ⟨pr, rfl, hB⟩
        have B8 := hid (B7.out.trans (hB.mono B7.out.size))
        have X8 := hid (X7.out.below hB X7.out.lt)
        have Y8 := hid (Y7.out.below hB Y7.out.lt)
        clear hB B7 X7 Y7 D2
        go_upto_region 8 with fail
        go_cut [73] (fun vv wx => vv = .bool false ∧ Below w.heap.size w wx)
        case first =>
         as_aux_lemma =>
          have x0 := X8.out.cell 0; have x1 := X8.out.cell 1; have x2 := X8.out.cell 2; have x3 := X8.out.cell 3
          have y0 := Y8.out.cell 0; have y1 := Y8.out.cell 1; have y2 := Y8.out.cell 2; have y3 := Y8.out.cell 3
          simp at x0 x1 x2 x3 y0 y1 y2 y3
          cases bn with
          | false =>
            go_wp2_with fail
            go_meet
            exact ⟨rfl, B8.out⟩
          | true =>
            obtain ⟨hbs, hp4⟩ := HNB.out rfl
            have NB := hid (nbytes_any n0 n1 n2 n3 w8 hp4.1 hp4.2.1 hp4.2.2.1 hp4.2.2.2 (he.below B8.out))
            rw [show enc4 (n0, n1, n2, n3) = encI n0 ++ encI n1 ++ encI n2 ++ encI n3 from rfl] at hbs
            simp only [enc4, hbs] at NB
            clear hbs hp4
            go_wp2_with fail
            refine NB.out.mono ?_
            rintro e w9 ⟨rfl, hB⟩
            have B9 := hid (B8.out.trans (hB.mono B8.out.size))
            have C9 := hid hB
            clear hB NB
            go_wp2_with fail
            go_meet
            exact ⟨rfl, B9.out⟩
        obtain ⟨rfl, hB9⟩ := hcut
        have B9 := hid hB9
        clear hB9 B8 X8 Y8
        go_wp2_with fail
        go_ret
        exact ⟨rfl, B9.out⟩
    | some d =>
      as_aux_lemma =>
        rw [hrd] at R1 D2
        obtain ⟨hen, hdo, hdi⟩ := HDS.out d hrd
        have HEN := hid (show bs (encDk d) = s by rw [hen]; exact HBS.out)
        have OKD := hid (show OkI d 2199023255552 from ⟨hdo, hdi⟩)
        clear hrd HDS hen hdo hdi
        go_wp2_with fail
        refine R1.out.mono ?_
        rintro e w7 ⟨b, v, mh, mg, rfl, hL, hB⟩
        have B7 := hid (B6.out.trans (hB.mono B6.out.size))
        have X7 := hid (X6.out.below hB X6.out.lt)
        have Y7 := hid (Y6.out.below hB Y6.out.lt)
        have L7 := hid hL
        have HBA := hid B6.out.size
        clear hB B6 X6 Y6 R1 hL
        generalize w6.heap.size = base at *
        go_wp2_with fail
        refine (D2.out w7).mono ?_
        rintro e w8 ⟨pr, rfl, hB⟩
        have B8 := hid (B7.out.trans (hB.mono B7.out.size))
        have X8 := hid (X7.out.below hB X7.out.lt)
        have Y8 := hid (Y7.out.below hB Y7.out.lt)
        have L8 := hid (L7.out.below hB)
        clear hB B7 X7 Y7 D2 L7
        go_upto_region 8 with fail
        go_cut [73] (fun vv wx => vv = .bool false ∧ Below w.heap.size w wx ∧ Ld wx base b v mh mg d)
        case first =>
         as_aux_lemma =>
          have x0 := X8.out.cell 0; have x1 := X8.out.cell 1; have x2 := X8.out.cell 2; have x3 := X8.out.cell 3
          have y0 := Y8.out.cell 0; have y1 := Y8.out.cell 1; have y2 := Y8.out.cell 2; have y3 := Y8.out.cell 3
          simp at x0 x1 x2 x3 y0 y1 y2 y3
          cases bn with
          | false =>
            go_wp2_with fail
            go_meet
            exact ⟨rfl, B8.out, L8.out.below (Below.refl _ _)⟩
          | true =>
            obtain ⟨hbs, hp4⟩ := HNB.out rfl
            have NB := hid (nbytes_any n0 n1 n2 n3 w8 hp4.1 hp4.2.1 hp4.2.2.1 hp4.2.2.2 (he.below B8.out))
            rw [show enc4 (n0, n1, n2, n3) = encI n0 ++ encI n1 ++ encI n2 ++ encI n3 from rfl] at hbs
            simp only [enc4, hbs] at NB
            clear hbs hp4
            go_wp2_with fail
            refine NB.out.mono ?_
            rintro e w9 ⟨rfl, hB⟩
            have B9 := hid (B8.out.trans (hB.mono B8.out.size))
            have C9 := hid hB
            clear hB NB
            go_wp2_with fail
            go_meet
            exact ⟨rfl, B9.out, L8.out.below (C9.out)⟩
        obtain ⟨rfl, hB9, hL9⟩ := hcut
        have B9 := hid hB9
        have L9 := hid hL9
        clear hB9 hL9 B8 X8 Y8 L8
        generalize wc = w9 at *
        have CP := hid (lcopy_any L9.out OKD.out.1)
        go_wp2_with fail
        refine CP.out.mono ?_
        rintro e w10 ⟨cb, cv, cmh, cmg, rfl, hC, hB⟩
        have S10 := hid (show BkS w w10 base b v mh mg w9.heap.size cb cv cmh cmg d d 2199023255552 from ⟨L9.out.below hB, hC, OKD.out, B9.out.trans (hB.mono B9.out.size), HBA.out, L9.out.h.lt, L9.out.g.lt⟩)
        clear hC hB CP B9 L9
        generalize w9.heap.size = base2 at *
        have BY := hid (lbytes_any S10.out.D OKD.out.1 (he.below S10.out.B))
        rw [HEN.out] at BY
        go_wp2_with fail
        refine BY.out.mono ?_
        rintro e w11 ⟨rfl, hB⟩
        have S11 := hid (S10.out.below hB)
        clear hB S10 BY
        go_wp2_with fail
        go_loopw [15] (fun iv wr => ∃ (k : Nat) (dd : LDk), k ≤ l.length ∧ iv = .int .i64 (k : Nat) ∧ BkS w wr base b v mh mg base2 cb cv cmh cmg d dd (2199023255552 + 2 * (k : Nat))) (fun iv _ => l.length - (intOf iv).toNat)
        case atStart => exact ⟨0, d, by omega, rfl, by simpa using S11.out⟩
        case round =>
          clear S11
          obtain ⟨k, dd, hk, rfl, hS⟩ := hrel
          have S0 := hid hS
          clear hS
          have hl20 := HL20.out
          by_cases hlt : k < l.length
          · have hlt' : (k : Int) < l.length := by omega
            have hk1 : wrap64 ((k : Int) + 1) = ((k + 1 : Nat) : Int) := by rw [wrap64_in _ (by omega)]; simp
            obtain ⟨ab, ao, rfl, hab, q0, q1, q2, q3, q4, q5, q6, q7, i1, i2, i3⟩ := HS.out.opl hlt
            have hoo := HOK.out _ (List.getElem_mem hlt)
            generalize l[k] = o at *
            obtain ⟨o0, o1, o2, o3, o4, o5, o6, o7⟩ := o
            simp only at q0 q1 q2 q3 q4 q5 q6 q7 i1 i2 i3
            simp only [okO, decide_eq_true_eq] at hoo
            obtain ⟨⟨n1, n2⟩, ⟨n3, n4⟩, n5, n6⟩ := hoo
            obtain ⟨M, hM⟩ : ∃ M : Int, M = 2199023255552 + 2 * (k : Nat) := ⟨_, rfl⟩
            rw [← hM] at S0
            have HM2 := hid (show M + 2 = 2199023255552 + 2 * ((k + 1 : Nat) : Int) by rw [hM]; push_cast; omega)
            have hMb : 2199023255552 ≤ M ∧ M ≤ 2199023255592 := by omega
            have MB := hid hMb
            have HQ := hid (fun (W : World) (hW : Below w.heap.size w W) => And.intro ((bcell hW ab _ hab).trans q1) (And.intro ((bcell hW ab _ hab).trans q2) (And.intro ((bcell hW ab _ hab).trans q3) (And.intro ((bcell hW ab _ hab).trans q4) (And.intro ((bcell hW ab _ hab).trans q5) (And.intro ((bcell hW ab _ hab).trans q6) ((bcell hW ab _ hab).trans q7)))))))
            clear q0 q1 q2 q3 q4 q5 q6 q7 hM
            have hI1 := hid i1
            have hnow := hid (show -4398046511104 ≤ o3 ∧ o3 ≤ 4398046511104 by omega)
            have hI2 := hid i2
            have KH := hid (hearF_ok S0.out.K (by omega) (by omega) (o4, o5, o6, o7) (by simp only; omega) (by simp only; omega))
            have CH := hid (hear_f S0.out.D S0.out.K.1 (o4, o5, o6, o7) i3.2.1)
            simp only [noteV, noteC] at CH
            generalize hd1 : hearF dd (o4, o5, o6, o7) = r1 at *
            have KA := hid (askF_ok KH.out.1 (by omega) (by omega) o1)
            have KG := hid (fun D2 (h : OkI D2 (M + 1)) => giveF_ok h (by omega) (by omega) o1 o2 o3 n1 (by omega))
            clear hd1 n1 n2 n3 n4 n5 n6 i1 i2 i3 hMb
            obtain ⟨q1, q2, q3, q4, q5, q6, q7⟩ := HQ.out _ S0.out.B
            go_wp2_with fail
            refine CH.out.mono ?_
            intro e w12 hr
            obtain ⟨rfl, hS⟩ := S0.out.act hr KH.out.1
            have S1 := hid hS
            clear hr hS S0 CH q1 q2 q3 q4 q5 q6 q7
            have CA := hid (ask_f S1.out.D S1.out.K.1 (z := o1) hI1.out)
            generalize askF r1.2 o1 = r2 at *
            obtain ⟨q1, q2, q3, q4, q5, q6, q7⟩ := HQ.out _ S1.out.B
            go_wp2_with fail
            refine CA.out.mono ?_
            intro e w13 hr
            obtain ⟨rfl, hS⟩ := S1.out.act hr KA.out.1
            have S2 := hid hS
            clear hr hS S1 CA q1 q2 q3 q4 q5 q6 q7
            have KG2 := hid (KG.out _ S2.out.K).1
            have CG := hid (fun (W : World) (hW : Below w13.heap.size w13 W) => give_f (S2.out.D.below hW) S2.out.K.1 (z := o1) (unt := o2) (now := o3) hI1.out hI2.out hnow.out)
            generalize giveF r2.2 o1 o2 o3 = r3 at *
            clear KG KA KH
            go_upto_region 20 with fail
            have BD := hid ((Below.refl w13.heap.size w13).drew)
            have HSF := hid (fun (wq : World) (hq : Below w13.heap.size w13 wq) => HQ.out wq (S2.out.B.trans (hq.mono S2.out.B.size)))
            refine wpIn_wide.1 (wpIn_region_S (n := 0) (fun wq => Below w13.heap.size w13 wq) [16] (by kernel_rfl) BD.out (fun hHeld => ?_))
            generalize w13.drew = wd at *
            refine wpAnyS_pure 0 (v := ?_) (fun _ => trivial) (by simp only [List.getElem?_toArray, List.getElem?_cons_succ, List.getElem?_cons_zero]; rfl) (by kernel_rfl) (fun _ _ _ _ _ h => h) ⟨rfl, (by intro c h; cases h), ?_⟩ hHeld ?_
            rotate_left
            focus (intro wS hSw; (try replace hSw := HSF.out wS hSw); (try dsimp only at hSw); go_simp; (try with_reducible rfl))
            (try simp only [Act.put, List.setIfInBounds_toArray, List.set_cons_zero, List.set_cons_succ])
            refine wpAnyS_pure 1 (v := ?_) (fun _ => trivial) (by simp only [List.getElem?_toArray, List.getElem?_cons_succ, List.getElem?_cons_zero]; rfl) (by kernel_rfl) (fun _ _ _ _ _ h => h) ⟨rfl, (by intro c h; cases h), ?_⟩ hHeld ?_
            rotate_left
            focus (intro wS hSw; (try replace hSw := HSF.out wS hSw); (try dsimp only at hSw); go_simp; (try with_reducible rfl))
            (try simp only [Act.put, List.setIfInBounds_toArray, List.set_cons_zero, List.set_cons_succ])
            refine wpAnyS_pure 2 (v := ?_) (fun _ => trivial) (by simp only [List.getElem?_toArray, List.getElem?_cons_succ, List.getElem?_cons_zero]; rfl) (by kernel_rfl) (fun _ _ _ _ _ h => h) ⟨rfl, (by intro c h; cases h), ?_⟩ hHeld ?_
            rotate_left
            focus (intro wS hSw; (try replace hSw := HSF.out wS hSw); (try dsimp only at hSw); go_simp; (try with_reducible rfl))
            (try simp only [Act.put, List.setIfInBounds_toArray, List.set_cons_zero, List.set_cons_succ])
            refine wpAnyS_pure 3 (v := ?_) (fun _ => trivial) (by simp only [List.getElem?_toArray, List.getElem?_cons_succ, List.getElem?_cons_zero]; rfl) (by kernel_rfl) (fun _ _ _ _ _ h => h) ⟨rfl, (by intro c h; cases h), ?_⟩ hHeld ?_
            rotate_left
            focus (intro wS hSw; (try replace hSw := HSF.out wS hSw); (try dsimp only at hSw); go_simp; (try with_reducible rfl))
            (try simp only [Act.put, List.setIfInBounds_toArray, List.set_cons_zero, List.set_cons_succ])
            refine wpAnyS_pure 4 (v := ?_) (fun _ => trivial) (by simp only [List.getElem?_toArray, List.getElem?_cons_succ, List.getElem?_cons_zero]; rfl) (by kernel_rfl) (fun _ _ _ _ _ h => h) ⟨rfl, (by intro c h; cases h), ?_⟩ hHeld ?_
            rotate_left
            focus (intro wS hSw; (try replace hSw := HSF.out wS hSw); (try dsimp only at hSw); go_simp; (try with_reducible rfl))
            (try simp only [Act.put, List.setIfInBounds_toArray, List.set_cons_zero, List.set_cons_succ])
            refine wpAnyS_take 5 (v := ?_) (fun _ => trivial) (by simp only [List.getElem?_toArray, List.getElem?_cons_succ, List.getElem?_cons_zero]; rfl) (by kernel_rfl) (fun _ _ _ _ _ h => h) ⟨rfl, (by intro c h; cases h), ?_⟩ hHeld ?_
            rotate_left
            focus (intro wS hSw; (try replace hSw := HSF.out wS hSw); (try dsimp only at hSw); go_simp; (try with_reducible rfl))
            (try simp only [Act.put, List.setIfInBounds_toArray, List.set_cons_zero, List.set_cons_succ])
            refine wpAnyS_pure 6 (v := ?_) (fun _ => trivial) (by simp only [List.getElem?_toArray, List.getElem?_cons_succ, List.getElem?_cons_zero]; rfl) (by kernel_rfl) (fun _ _ _ _ _ h => h) ⟨rfl, (by intro c h; cases h), ?_⟩ hHeld ?_
            rotate_left
            focus (intro wS hSw; (try replace hSw := HSF.out wS hSw); (try dsimp only at hSw); go_simp; (try with_reducible rfl))
            (try simp only [Act.put, List.setIfInBounds_toArray, List.set_cons_zero, List.set_cons_succ])
            refine wpAnyS_pure 7 (v := ?_) (fun _ => trivial) (by simp only [List.getElem?_toArray, List.getElem?_cons_succ, List.getElem?_cons_zero]; rfl) (by kernel_rfl) (fun _ _ _ _ _ h => h) ⟨rfl, (by intro c h; cases h), ?_⟩ hHeld ?_
            rotate_left
            focus (intro wS hSw; (try replace hSw := HSF.out wS hSw); (try dsimp only at hSw); go_simp; (try with_reducible rfl))
            (try simp only [Act.put, List.setIfInBounds_toArray, List.set_cons_zero, List.set_cons_succ])
            refine wpAnyS_pure 8 (v := ?_) (fun _ => trivial) (by simp only [List.getElem?_toArray, List.getElem?_cons_succ, List.getElem?_cons_zero]; rfl) (by kernel_rfl) (fun _ _ _ _ _ h => h) ⟨rfl, (by intro c h; cases h), ?_⟩ hHeld ?_
            rotate_left
            focus (intro wS hSw; (try replace hSw := HSF.out wS hSw); (try dsimp only at hSw); go_simp; (try with_reducible rfl))
            (try simp only [Act.put, List.setIfInBounds_toArray, List.set_cons_zero, List.set_cons_succ])
            refine wpAnyS_pure 9 (v := ?_) (fun _ => trivial) (by simp only [List.getElem?_toArray, List.getElem?_cons_succ, List.getElem?_cons_zero]; rfl) (by kernel_rfl) (fun _ _ _ _ _ h => h) ⟨rfl, (by intro c h; cases h), ?_⟩ hHeld ?_
            rotate_left
            focus (intro wS hSw; (try replace hSw := HSF.out wS hSw); (try dsimp only at hSw); go_simp; (try with_reducible rfl))
            (try simp only [Act.put, List.setIfInBounds_toArray, List.set_cons_zero, List.set_cons_succ])
            refine wpAnyS_take 10 (v := ?_) (fun _ => trivial) (by simp only [List.getElem?_toArray, List.getElem?_cons_succ, List.getElem?_cons_zero]; rfl) (by kernel_rfl) (fun _ _ _ _ _ h => h) ⟨rfl, (by intro c h; cases h), ?_⟩ hHeld ?_
            rotate_left
            focus (intro wS hSw; (try replace hSw := HSF.out wS hSw); (try dsimp only at hSw); go_simp; (try with_reducible rfl))
            (try simp only [Act.put, List.setIfInBounds_toArray, List.set_cons_zero, List.set_cons_succ])
            refine wpAnyS_pure 11 (v := ?_) (fun _ => trivial) (by simp only [List.getElem?_toArray, List.getElem?_cons_succ, List.getElem?_cons_zero]; rfl) (by kernel_rfl) (fun _ _ _ _ _ h => h) ⟨rfl, (by intro c h; cases h), ?_⟩ hHeld ?_
            rotate_left
            focus (intro wS hSw; (try replace hSw := HSF.out wS hSw); (try dsimp only at hSw); go_simp; (try with_reducible rfl))
            (try simp only [Act.put, List.setIfInBounds_toArray, List.set_cons_zero, List.set_cons_succ])
            refine wpAnyS_pure 12 (v := ?_) (fun _ => trivial) (by simp only [List.getElem?_toArray, List.getElem?_cons_succ, List.getElem?_cons_zero]; rfl) (by kernel_rfl) (fun _ _ _ _ _ h => h) ⟨rfl, (by intro c h; cases h), ?_⟩ hHeld ?_
            rotate_left
            focus (intro wS hSw; (try replace hSw := HSF.out wS hSw); (try dsimp only at hSw); go_simp; (try with_reducible rfl))
            (try simp only [Act.put, List.setIfInBounds_toArray, List.set_cons_zero, List.set_cons_succ])
            refine wpAnyS_pure 13 (v := ?_) (fun _ => trivial) (by simp only [List.getElem?_toArray, List.getElem?_cons_succ, List.getElem?_cons_zero]; rfl) (by kernel_rfl) (fun _ _ _ _ _ h => h) ⟨rfl, (by intro c h; cases h), ?_⟩ hHeld ?_
            rotate_left
            focus (intro wS hSw; (try replace hSw := HSF.out wS hSw); (try dsimp only at hSw); go_simp; (try with_reducible rfl))
            (try simp only [Act.put, List.setIfInBounds_toArray, List.set_cons_zero, List.set_cons_succ])
            refine wpAnyS_pure 14 (v := ?_) (fun _ => trivial) (by simp only [List.getElem?_toArray, List.getElem?_cons_succ, List.getElem?_cons_zero]; rfl) (by kernel_rfl) (fun _ _ _ _ _ h => h) ⟨rfl, (by intro c h; cases h), ?_⟩ hHeld ?_
            rotate_left
            focus (intro wS hSw; (try replace hSw := HSF.out wS hSw); (try dsimp only at hSw); go_simp; (try with_reducible rfl))
            (try simp only [Act.put, List.setIfInBounds_toArray, List.set_cons_zero, List.set_cons_succ])
            refine wpAnyS_take 15 (v := ?_) (fun _ => trivial) (by simp only [List.getElem?_toArray, List.getElem?_cons_succ, List.getElem?_cons_zero]; rfl) (by kernel_rfl) (fun _ _ _ _ _ h => h) ⟨rfl, (by intro c h; cases h), ?_⟩ hHeld ?_
            rotate_left
            focus (intro wS hSw; (try replace hSw := HSF.out wS hSw); (try dsimp only at hSw); go_simp; (try with_reducible rfl))
            (try simp only [Act.put, List.setIfInBounds_toArray, List.set_cons_zero, List.set_cons_succ])
            refine wpAnyS_ready [16] (by kernel_rfl) (by simp) (AllReadyS.consL (by simp only [List.getElem?_toArray, List.getElem?_cons_succ, List.getElem?_cons_zero]; rfl) rfl (by kernel_rfl) (fun K hK => ?_) AllReadyS.nil)
            refine callS (by intro c h; cases h) (by go_simp; try with_reducible rfl) ((CG.out wd BD.out).mono (fun e w' h => ⟨h.1, h.2⟩)) ?_
            intro w14 hr
            obtain ⟨-, hS⟩ := (S2.out.below BD.out).act (e := .returned (.int .i64 0)) (x := .int .i64 0) ⟨rfl, hr.1, hr.2⟩ KG2.out
            have S3 := hid hS
            refine hK.out _ _ ?_
            (try simp only [Act.put, List.setIfInBounds_toArray, List.set_cons_zero, List.set_cons_succ])
            clear hK K hHeld HSF hr hS S2 CG BD
            refine wpAnyS_done (by kernel_rfl) ?_
            rw [show M + 1 + 1 = M + 2 by omega, HM2.out] at S3
            go_wp2_with fail
            go_roundw
            case rel => exact ⟨k + 1, r3.2, by omega, by first | exact congrArg (Value.int .i64) hk1 | (simp [hk1]; done), S3.out⟩
            case measure => exact meas_b _ _ _ (by first | exact hk1 | (simp; done) | omega) hlt
          · obtain rfl : k = l.length := by omega
            have BC := hid (lbytes_any S0.out.C OKD.out.1 (he.below S0.out.B))
            rw [HEN.out] at BC
            go_wp2_with fail
            refine BC.out.mono ?_
            rintro e w12 ⟨rfl, hB⟩
            have B12 := hid (S0.out.B.trans (hB.mono S0.out.B.size))
            clear hB
            go_wp2_with fail
            go_ret
            exact ⟨ret_bool (by simp), B12.out⟩
end Go.Proofs.YtappgjdnfllblaaDoor
