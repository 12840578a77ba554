
/- Lease: LeaseTells, the walk. -/
import Derived.Test.YtappgjdnfllblaaDoorLeaTq
import Derived.Test.YtappgjdnfllblaaDoorLeaTs
import Derived.Test.YtappgjdnfllblaaDoorLrB
import Derived.Test.YtappgjdnfllblaaDoorLeaSb
import Derived.Deep.CutBlock
import Derived.Deep.DeepCutAuto
set_option linter.unusedSimpArgs false
set_option linter.unusedVariables false
namespace Go.Proofs.YtappgjdnfllblaaDoor
open Go.RowKit Go.IntWalk Go.Maps Go.WideMaps
theorem bs_list' (l : List UInt8) : (bs l).data.toList = l := rfl
theorem meas_t (N t : Nat) (x : Int) (h : x = ((t + 1 : Nat) : Int)) (ht : t < N) : N - (intOf (.int .i64 x)).toNat < N - (intOf (.int .i64 (t : Int))).toNat := by
  subst h
  simp [intOf]
  omega
set_option maxRecDepth 100000 in
set_option maxHeartbeats 16000000 in
theorem ltells_any (me : Int) (Ah : Option Addr) (ch : Nat) (home : List Int) (Al : Option Addr) (cl : Nat) (l : List Opl) (now : Int) (w : World) (hme : I64 me) (h1 : home.length ≤ ch) (h2 : ch ≤ maxLen) (hh : SlR w w.heap.size Ah home) (hl : l.length ≤ maxLen) (hs : SlR w w.heap.size Al l) (he : Env w) :
    Calls Tryd.prog 4 #[.int .i64 me, .slice Ah home.length ch, .slice Al l.length cl, .int .i64 now] w fun e w' => e = .returned (.bool true) ∧ Below w.heap.size w w' := by
  have HS := hid hs
  have HH := hid hh
  have HL := hid hl
  have HC := hid h1
  have HM := hid h2
  have HME := hid hme
  unfold maxLen at hl
  clear hs hh h1 h2 hme
  go_enter Tryd.func4, Tryd.ntmps4
  go_wp2_with fail
  refine (lsmall_any _).mono ?_
  rintro e w1 ⟨rfl, hB1⟩
  have B1 := hid hB1
  clear hB1
  by_cases h70 : (70 : Int) < home.length
  · go_wp2_with fail
    go_ret
    exact ⟨rfl, B1.out⟩
  have HF := hid (fine_any Al cl l 60 w1 HL.out ((HS.out.below B1.out).more B1.out.size))
  cases hf : fineL l 60 with
  | false =>
    rw [hf] at HF
    clear hf
    go_wp2_with fail
    refine HF.out.mono ?_
    rintro e w2 ⟨rfl, hB⟩
    have B2 := hid (B1.out.trans (hB.mono B1.out.size))
    clear hB
    go_wp2_with fail
    go_ret
    exact ⟨rfl, B2.out⟩
  | true =>
    rw [hf] at HF
    obtain ⟨hok, hl60⟩ := fineL_iff.1 hf
    have HOK := hid hok
    have HL60 := hid hl60
    clear hf hok hl60
    by_cases hn0 : now < 0
    · go_wp2_with fail
      refine HF.out.mono ?_
      rintro e w2 ⟨rfl, hB⟩
      have B2 := hid (B1.out.trans (hB.mono B1.out.size))
      clear hB HF B1
      go_wp2_with fail
      go_ret
      exact ⟨rfl, B2.out⟩
    by_cases hn1 : 1099511627776 < now
    · go_wp2_with fail
      refine HF.out.mono ?_
      rintro e w2 ⟨rfl, hB⟩
      have B2 := hid (B1.out.trans (hB.mono B1.out.size))
      clear hB HF B1
      go_wp2_with fail
      go_ret
      exact ⟨rfl, B2.out⟩
    go_upto_region 2 with fail
    go_cut [36] (fun vv wx => vv = .bool false ∧ Below w.heap.size w wx)
    case first =>
      go_wp2_with fail
      refine HF.out.mono ?_
      rintro e w2 ⟨rfl, hB⟩
      have B2 := hid (B1.out.trans (hB.mono B1.out.size))
      clear hB HF B1
      go_wp2_with fail
      go_meet
      exact ⟨by simp <;> omega, B2.out⟩
    obtain ⟨rfl, hB⟩ := hcut
    have B2 := hid hB
    clear hB HF B1
    generalize wc = w2 at *
    have NW := hid (show -4398046511104 ≤ now ∧ now ≤ 4398046511104 by omega)
    have N1 := hid (lnew_any me Ah ch home w2 HME.out HC.out HM.out ((HH.out.below B2.out).more B2.out.size))
    have N2 := hid (fun (W : World) (hW : Below w.heap.size w W) => rnew_any me Ah ch home W HME.out HC.out HM.out ((HH.out.below hW).more hW.size))
    cases hnd : newDk me home with
    | none =>
      rw [hnd] at N1 N2
      clear hnd
      go_wp2_with fail
      refine N1.out.mono ?_
      clear h70 hn0 hn1
      rintro e w3 ⟨rfl, hB⟩
      have B3 := hid (B2.out.trans (hB.mono B2.out.size))
      clear hB N1 B2
      go_wp2_with fail
      refine (N2.out _ B3.out).mono ?_
      rintro e w4 ⟨rfl, hB⟩
      have B4 := hid (B3.out.trans (hB.mono B3.out.size))
      clear hB N2 B3
      go_wp2_with fail
      go_loopw [10, 12] (fun pd iv wr => pd = .pointer none ∧ iv = .int .i64 0 ∧ wr = w4) (fun _ _ _ => 0)
      case atStart => exact ⟨rfl, rfl, rfl⟩
      case round =>
        obtain ⟨rfl, rfl, rfl⟩ := hrel
        by_cases hl0 : (0 : Int) < l.length
        · have hl0n : 0 < l.length := by omega
          have hl0e : l ≠ [] := by rintro rfl; simp at hl0n
          go_wp2_with fail
          go_ret
          exact ⟨rfl, B4.out⟩
        · go_wp2_with fail
          go_ret
          exact ⟨rfl, B4.out⟩
    | some d0 =>
      rw [hnd] at N1 N2
      obtain ⟨e0, ok0⟩ := newDk_some hnd
      have OK0 := hid (show OkI d0 1099511629776 from ⟨ok0, by rw [e0]; exact newD_in me home _ (by omega)⟩)
      clear hnd e0 ok0
      go_wp2_with fail
      refine N1.out.mono ?_
      clear h70 hn0 hn1
      rintro e w3 ⟨b, v, mh, mg, rfl, hD, hB⟩
      have B3 := hid (B2.out.trans (hB.mono B2.out.size))
      have D3 := hid hD
      have HB2 := hid B2.out.size
      clear hB hD N1 B2
      generalize w2.heap.size = base at *
      go_wp2_with fail
      refine (N2.out _ B3.out).mono ?_
      rintro e w4 ⟨rb, rv, rfl, hR, hB⟩
      have B4 := hid (B3.out.trans (hB.mono B3.out.size))
      have D4 := hid (D3.out.below hB)
      have R4 := hid hR
      have HB3 := hid B3.out.size
      clear hB hR N2 B3 D3
      generalize w3.heap.size = rbase at *
      go_wp2_with fail
      go_loopw [10, 12] (fun pd iv wr => ∃ (k base b : Nat) (v : Value) (mh mg : Nat) (d : LDk), k ≤ l.length ∧ iv = .int .i64 (k : Nat) ∧ pd = .pointer (some ⟨b, 0, none⟩) ∧ Ld wr base b v mh mg d ∧ RLd wr rbase rb rv d ∧ OkI d (1099511629776 + (k : Nat)) ∧ w.heap.size ≤ base ∧ Below w.heap.size w wr) (fun _ iv _ => l.length - (intOf iv).toNat)
      case atStart => exact ⟨0, base, b, v, mh, mg, d0, by omega, rfl, rfl, D4.out, R4.out, by simpa using OK0.out, HB2.out, B4.out⟩
      case round =>
        clear D4 R4 OK0 B4 HB2
        obtain ⟨k, base, b, v, mh, mg, d, hk, rfl, rfl, hD, hR, hK, hbs, hB⟩ := hrel
        have DD := hid hD
        have RR := hid hR
        have BB := hid hB
        have HBS := hid hbs
        clear hD hR hB hbs
        by_cases hlt : k < l.length
        · have hlt' : (k : Int) < l.length := by omega
          have hl60 := HL60.out
          have hk1 : wrap64 ((k : Int) + 1) = ((k + 1 : Nat) : Int) := by rw [wrap64_in _ (by omega)]; simp
          obtain ⟨ab, ao, rfl, hab, q0, q1, q2, q3, q4, q5, q6, q7, i1, i2, i3⟩ := HS.out.opl hlt
          have hoo := HOK.out _ (List.getElem_mem hlt)
          generalize l[k] = o at *
          obtain ⟨o0, o1, o2, o3, o4, o5, o6, o7⟩ := o
          simp only at q0 q1 q2 q3 q4 q5 q6 q7 i1 i2 i3
          simp only [okO, decide_eq_true_eq] at hoo
          obtain ⟨⟨n1, n2⟩, ⟨n3, n4⟩, n5, n6⟩ := hoo
          have HI1 := hid i1
          have HI2 := hid i2
          have HI4 := hid i3
          have HN0 := hid n1
          have HN1 := hid n2
          have HN2 := hid (And.intro n4 n6)
          have HNW := hid (show -4398046511104 ≤ o3 ∧ o3 ≤ 4398046511104 by omega)
          clear i1 i2 i3 n1 n2 n3 n4 n5 n6
          obtain ⟨M, hM⟩ : ∃ M : Int, M = 1099511629776 + (k : Nat) := ⟨_, rfl⟩
          rw [← hM] at hK
          have OKD := hid hK
          have HM2 := hid (show M + 1 = 1099511629776 + ((k + 1 : Nat) : Int) by rw [hM]; push_cast; omega)
          have hMb : 1099511629776 ≤ M ∧ M ≤ 1099511629900 := by omega
          clear hM hK
          replace q0 := (bcell BB.out ab _ hab).trans q0
          replace q1 := (bcell BB.out ab _ hab).trans q1
          replace q2 := (bcell BB.out ab _ hab).trans q2
          replace q3 := (bcell BB.out ab _ hab).trans q3
          replace q4 := (bcell BB.out ab _ hab).trans q4
          replace q5 := (bcell BB.out ab _ hab).trans q5
          replace q6 := (bcell BB.out ab _ hab).trans q6
          replace q7 := (bcell BB.out ab _ hab).trans q7
          obtain ⟨W3, hW3⟩ : ∃ W3, W3 = ((wr.alloc (Obj.cells #[.int .i64 o0, .int .i64 o1, .int .i64 o2, .int .i64 o3, .int .i64 o4, .int .i64 o5, .int .i64 o6, .int .i64 o7] 41)).alloc (Obj.cells #[.int .i64 0, .int .i64 0, .int .i64 0, .int .i64 0] 26)).alloc (Obj.cells #[.int .i64 0, .int .i64 0, .int .i64 0, .int .i64 0] 26) := ⟨_, rfl⟩
          have T := hid (show TS w W3 base b v mh mg rbase rb rv d d wr.heap.size (wr.heap.size + 1) (wr.heap.size + 1 + 1) #[.int .i64 o0, .int .i64 o1, .int .i64 o2, .int .i64 o3, .int .i64 o4, .int .i64 o5, .int .i64 o6, .int .i64 o7] #[.int .i64 0, .int .i64 0, .int .i64 0, .int .i64 0] #[.int .i64 0, .int .i64 0, .int .i64 0, .int .i64 0] by
            rw [hW3]
            have s1 : (wr.alloc (Obj.cells #[.int .i64 o0, .int .i64 o1, .int .i64 o2, .int .i64 o3, .int .i64 o4, .int .i64 o5, .int .i64 o6, .int .i64 o7] 41)).heap.size = wr.heap.size + 1 := by simp
            have s2 : ((wr.alloc (Obj.cells #[.int .i64 o0, .int .i64 o1, .int .i64 o2, .int .i64 o3, .int .i64 o4, .int .i64 o5, .int .i64 o6, .int .i64 o7] 41)).alloc (Obj.cells #[.int .i64 0, .int .i64 0, .int .i64 0, .int .i64 0] 26)).heap.size = wr.heap.size + 1 + 1 := by simp
            have b1 : Below wr.heap.size wr (wr.alloc (Obj.cells #[.int .i64 o0, .int .i64 o1, .int .i64 o2, .int .i64 o3, .int .i64 o4, .int .i64 o5, .int .i64 o6, .int .i64 o7] 41)) := by (repeat (first | exact Below.refl _ _ | assumption | refine below_drewN ?_ _ | refine Below.drew ?_ | refine Below.alloc ?_ (by (try simp); (try omega)) _ | refine Below.setCell ?_ (by (try simp); (try omega)) _))
            have b2 : Below (wr.alloc (Obj.cells #[.int .i64 o0, .int .i64 o1, .int .i64 o2, .int .i64 o3, .int .i64 o4, .int .i64 o5, .int .i64 o6, .int .i64 o7] 41)).heap.size (wr.alloc (Obj.cells #[.int .i64 o0, .int .i64 o1, .int .i64 o2, .int .i64 o3, .int .i64 o4, .int .i64 o5, .int .i64 o6, .int .i64 o7] 41)) ((wr.alloc (Obj.cells #[.int .i64 o0, .int .i64 o1, .int .i64 o2, .int .i64 o3, .int .i64 o4, .int .i64 o5, .int .i64 o6, .int .i64 o7] 41)).alloc (Obj.cells #[.int .i64 0, .int .i64 0, .int .i64 0, .int .i64 0] 26)) := by (repeat (first | exact Below.refl _ _ | assumption | refine below_drewN ?_ _ | refine Below.drew ?_ | refine Below.alloc ?_ (by (try simp); (try omega)) _ | refine Below.setCell ?_ (by (try simp); (try omega)) _))
            have b3 : Below ((wr.alloc (Obj.cells #[.int .i64 o0, .int .i64 o1, .int .i64 o2, .int .i64 o3, .int .i64 o4, .int .i64 o5, .int .i64 o6, .int .i64 o7] 41)).alloc (Obj.cells #[.int .i64 0, .int .i64 0, .int .i64 0, .int .i64 0] 26)).heap.size ((wr.alloc (Obj.cells #[.int .i64 o0, .int .i64 o1, .int .i64 o2, .int .i64 o3, .int .i64 o4, .int .i64 o5, .int .i64 o6, .int .i64 o7] 41)).alloc (Obj.cells #[.int .i64 0, .int .i64 0, .int .i64 0, .int .i64 0] 26)) (((wr.alloc (Obj.cells #[.int .i64 o0, .int .i64 o1, .int .i64 o2, .int .i64 o3, .int .i64 o4, .int .i64 o5, .int .i64 o6, .int .i64 o7] 41)).alloc (Obj.cells #[.int .i64 0, .int .i64 0, .int .i64 0, .int .i64 0] 26)).alloc (Obj.cells #[.int .i64 0, .int .i64 0, .int .i64 0, .int .i64 0] 26)) := by (repeat (first | exact Below.refl _ _ | assumption | refine below_drewN ?_ _ | refine Below.drew ?_ | refine Below.alloc ?_ (by (try simp); (try omega)) _ | refine Below.setCell ?_ (by (try simp); (try omega)) _))
            have x1 := Blk.new wr 41 #[.int .i64 o0, .int .i64 o1, .int .i64 o2, .int .i64 o3, .int .i64 o4, .int .i64 o5, .int .i64 o6, .int .i64 o7]
            have x2 := Blk.new (wr.alloc (Obj.cells #[.int .i64 o0, .int .i64 o1, .int .i64 o2, .int .i64 o3, .int .i64 o4, .int .i64 o5, .int .i64 o6, .int .i64 o7] 41)) 26 #[.int .i64 0, .int .i64 0, .int .i64 0, .int .i64 0]
            have x3 := Blk.new ((wr.alloc (Obj.cells #[.int .i64 o0, .int .i64 o1, .int .i64 o2, .int .i64 o3, .int .i64 o4, .int .i64 o5, .int .i64 o6, .int .i64 o7] 41)).alloc (Obj.cells #[.int .i64 0, .int .i64 0, .int .i64 0, .int .i64 0] 26)) 26 #[.int .i64 0, .int .i64 0, .int .i64 0, .int .i64 0]
            rw [s1] at x2
            rw [s2] at x3
            have bz := BB.out.size
            exact ⟨((DD.out.below b1).below b2).below b3, ((RR.out.below b1).below b2).below b3, (x1.below b2 x1.lt).below b3 (x1.below b2 x1.lt).lt, x2.below b3 x2.lt, x3, ((BB.out.trans (b1.mono BB.out.size)).trans (b2.mono (by rw [s1]; omega))).trans (b3.mono (by rw [s2]; omega)), HBS.out, HB3.out, by omega, by omega, by omega⟩)
          have KD := hid (And.intro DD.out.k.lt (And.intro RR.out.k.lt BB.out.size))
          go_upto_region 16 with fail
          clear q0 q1 q2 q3 q4 q5 q6 q7 DD RR
          (first | rw [← hW3] | skip)
          clear hW3
          generalize wr.heap.size = gq at *
          have q0 := T.out.Q.cell 0; have q1 := T.out.Q.cell 1; have q2 := T.out.Q.cell 2; have q3 := T.out.Q.cell 3; have q4 := T.out.Q.cell 4; have q5 := T.out.Q.cell 5; have q6 := T.out.Q.cell 6; have q7 := T.out.Q.cell 7
          have a0 := T.out.A.cell 0; have a1 := T.out.A.cell 1; have a2 := T.out.A.cell 2; have a3 := T.out.A.cell 3
          have b0 := T.out.N.cell 0; have b1 := T.out.N.cell 1; have b2 := T.out.N.cell 2; have b3 := T.out.N.cell 3
          have fa := T.out.A.frozen; have fb := T.out.N.frozen; have za := T.out.A.lt; have zb := T.out.N.lt; have zq := T.out.Q.lt; have n23 := T.out.ne
          simp at q0 q1 q2 q3 q4 q5 q6 q7 a0 a1 a2 a3 b0 b1 b2 b3
          go_upto_block 2 with fail
          clear q0 q1 q2 q3 q4 q5 q6 q7 a0 a1 a2 a3 b0 b1 b2 b3 fa fb za zb zq n23
          generalize bits .and .i64 o0 7 = o7x at *
          go_cut [10, 16, 17] (fun pd e1 e2 wx => CutL w rbase rb rv (M + 1) gq (gq + 1) (gq + 1 + 1) #[.int .i64 o0, .int .i64 o1, .int .i64 o2, .int .i64 o3, .int .i64 o4, .int .i64 o5, .int .i64 o6, .int .i64 o7] pd e1 e2 wx)
          case first =>
            by_cases hx0 : o7x = 0
            · as_aux_lemma =>
                subst hx0
                have KA := hid (show OkI (askF d o1).2 (M + 1) from (askF_ok OKD.out (by omega) (by omega) o1).1)
                have C1 := hid (ask_f T.out.D OKD.out.1 (z := o1) HI1.out)
                have C2 := hid (fun (W : World) (h : RLd W rbase rb rv d) => rask_any h OKD.out.1 (z := o1))
                generalize askF d o1 = rr at *
                obtain ⟨⟨⟨n0, n1, n2, n3⟩, e1⟩, d1⟩ := rr
                simp only [noteV, noteC] at C1 C2 KA
                have q0 := T.out.Q.cell 0; have q1 := T.out.Q.cell 1; have q2 := T.out.Q.cell 2; have q3 := T.out.Q.cell 3; have q4 := T.out.Q.cell 4; have q5 := T.out.Q.cell 5; have q6 := T.out.Q.cell 6; have q7 := T.out.Q.cell 7
                have a0 := T.out.A.cell 0; have a1 := T.out.A.cell 1; have a2 := T.out.A.cell 2; have a3 := T.out.A.cell 3
                have b0 := T.out.N.cell 0; have b1 := T.out.N.cell 1; have b2 := T.out.N.cell 2; have b3 := T.out.N.cell 3
                have fa := T.out.A.frozen; have fb := T.out.N.frozen; have za := T.out.A.lt; have zb := T.out.N.lt; have zq := T.out.Q.lt; have n23 := T.out.ne
                simp at q0 q1 q2 q3 q4 q5 q6 q7 a0 a1 a2 a3 b0 b1 b2 b3
                go_wp2_with fail
                refine C1.out.mono ?_
                clear q0 q1 q2 q3 q4 q5 q6 q7 a0 a1 a2 a3 b0 b1 b2 b3 fa fb za zb zq n23
                clear C1
                intro e w8 hr
                obtain ⟨rfl, hT⟩ := T.out.actD hr
                have T1 := hid hT
                have T2 := hid (T1.out.setA rfl (.int .i64 n0) (.int .i64 n1) (.int .i64 n2) (.int .i64 n3))
                clear hr hT T
                have q0 := T1.out.Q.cell 0; have q1 := T1.out.Q.cell 1; have q2 := T1.out.Q.cell 2; have q3 := T1.out.Q.cell 3; have q4 := T1.out.Q.cell 4; have q5 := T1.out.Q.cell 5; have q6 := T1.out.Q.cell 6; have q7 := T1.out.Q.cell 7
                have a0 := T1.out.A.cell 0; have a1 := T1.out.A.cell 1; have a2 := T1.out.A.cell 2; have a3 := T1.out.A.cell 3
                have b0 := T1.out.N.cell 0; have b1 := T1.out.N.cell 1; have b2 := T1.out.N.cell 2; have b3 := T1.out.N.cell 3
                have fa := T1.out.A.frozen; have fb := T1.out.N.frozen; have za := T1.out.A.lt; have zb := T1.out.N.lt; have zq := T1.out.Q.lt; have n23 := T1.out.ne
                simp at q0 q1 q2 q3 q4 q5 q6 q7 a0 a1 a2 a3 b0 b1 b2 b3
                go_wp2_with fail
                refine (C2.out _ T2.out.R).mono ?_
                clear q0 q1 q2 q3 q4 q5 q6 q7 a0 a1 a2 a3 b0 b1 b2 b3 fa fb za zb zq n23
                clear C2 T1
                intro e w9 hr
                obtain ⟨rfl, hT⟩ := T2.out.actR hr
                have T3 := hid hT
                have TE := hid (T3.out.setN rfl (.int .i64 n0) (.int .i64 n1) (.int .i64 n2) (.int .i64 n3))
                clear hr hT T2
                have q0 := T3.out.Q.cell 0; have q1 := T3.out.Q.cell 1; have q2 := T3.out.Q.cell 2; have q3 := T3.out.Q.cell 3; have q4 := T3.out.Q.cell 4; have q5 := T3.out.Q.cell 5; have q6 := T3.out.Q.cell 6; have q7 := T3.out.Q.cell 7
                have a0 := T3.out.A.cell 0; have a1 := T3.out.A.cell 1; have a2 := T3.out.A.cell 2; have a3 := T3.out.A.cell 3
                have b0 := T3.out.N.cell 0; have b1 := T3.out.N.cell 1; have b2 := T3.out.N.cell 2; have b3 := T3.out.N.cell 3
                have fa := T3.out.A.frozen; have fb := T3.out.N.frozen; have za := T3.out.A.lt; have zb := T3.out.N.lt; have zq := T3.out.Q.lt; have n23 := T3.out.ne
                simp at q0 q1 q2 q3 q4 q5 q6 q7 a0 a1 a2 a3 b0 b1 b2 b3
                go_wp2_with fail
                go_meet
                exact ⟨_, _, _, _, _, d1, (n0, n1, n2, n3), e1, rfl, rfl, rfl, KA.out, TE.out⟩
            have hb0 : (o7x == 0) = false := by simpa using hx0
            by_cases hx1 : o7x = 1
            · as_aux_lemma =>
                subst hx1
                have KA := hid (show OkI (giveF d o1 o2 o3).2 (M + 1) from (giveF_ok OKD.out (by omega) (by omega) o1 o2 o3 HN0.out (by have := HN1.out; omega)).1)
                have C1 := hid (give_f T.out.D OKD.out.1 (z := o1) (unt := o2) (now := o3) HI1.out HI2.out HNW.out)
                have C2 := hid (fun (W : World) (h : RLd W rbase rb rv d) => rgive_any h OKD.out.1 (z := o1) (unt := o2) (now := o3) HNW.out)
                generalize giveF d o1 o2 o3 = rr at *
                obtain ⟨⟨⟨n0, n1, n2, n3⟩, e1⟩, d1⟩ := rr
                simp only [noteV, noteC] at C1 C2 KA
                have q0 := T.out.Q.cell 0; have q1 := T.out.Q.cell 1; have q2 := T.out.Q.cell 2; have q3 := T.out.Q.cell 3; have q4 := T.out.Q.cell 4; have q5 := T.out.Q.cell 5; have q6 := T.out.Q.cell 6; have q7 := T.out.Q.cell 7
                have a0 := T.out.A.cell 0; have a1 := T.out.A.cell 1; have a2 := T.out.A.cell 2; have a3 := T.out.A.cell 3
                have b0 := T.out.N.cell 0; have b1 := T.out.N.cell 1; have b2 := T.out.N.cell 2; have b3 := T.out.N.cell 3
                have fa := T.out.A.frozen; have fb := T.out.N.frozen; have za := T.out.A.lt; have zb := T.out.N.lt; have zq := T.out.Q.lt; have n23 := T.out.ne
                simp at q0 q1 q2 q3 q4 q5 q6 q7 a0 a1 a2 a3 b0 b1 b2 b3
                go_wp2_with fail
                refine C1.out.mono ?_
                clear q0 q1 q2 q3 q4 q5 q6 q7 a0 a1 a2 a3 b0 b1 b2 b3 fa fb za zb zq n23
                clear C1
                intro e w8 hr
                obtain ⟨rfl, hT⟩ := T.out.actD hr
                have T1 := hid hT
                have T2 := hid (T1.out.setA rfl (.int .i64 n0) (.int .i64 n1) (.int .i64 n2) (.int .i64 n3))
                clear hr hT T
                have q0 := T1.out.Q.cell 0; have q1 := T1.out.Q.cell 1; have q2 := T1.out.Q.cell 2; have q3 := T1.out.Q.cell 3; have q4 := T1.out.Q.cell 4; have q5 := T1.out.Q.cell 5; have q6 := T1.out.Q.cell 6; have q7 := T1.out.Q.cell 7
                have a0 := T1.out.A.cell 0; have a1 := T1.out.A.cell 1; have a2 := T1.out.A.cell 2; have a3 := T1.out.A.cell 3
                have b0 := T1.out.N.cell 0; have b1 := T1.out.N.cell 1; have b2 := T1.out.N.cell 2; have b3 := T1.out.N.cell 3
                have fa := T1.out.A.frozen; have fb := T1.out.N.frozen; have za := T1.out.A.lt; have zb := T1.out.N.lt; have zq := T1.out.Q.lt; have n23 := T1.out.ne
                simp at q0 q1 q2 q3 q4 q5 q6 q7 a0 a1 a2 a3 b0 b1 b2 b3
                go_wp2_with fail
                refine (C2.out _ T2.out.R).mono ?_
                clear q0 q1 q2 q3 q4 q5 q6 q7 a0 a1 a2 a3 b0 b1 b2 b3 fa fb za zb zq n23
                clear C2 T1
                intro e w9 hr
                obtain ⟨rfl, hT⟩ := T2.out.actR hr
                have T3 := hid hT
                have TE := hid (T3.out.setN rfl (.int .i64 n0) (.int .i64 n1) (.int .i64 n2) (.int .i64 n3))
                clear hr hT T2
                have q0 := T3.out.Q.cell 0; have q1 := T3.out.Q.cell 1; have q2 := T3.out.Q.cell 2; have q3 := T3.out.Q.cell 3; have q4 := T3.out.Q.cell 4; have q5 := T3.out.Q.cell 5; have q6 := T3.out.Q.cell 6; have q7 := T3.out.Q.cell 7
                have a0 := T3.out.A.cell 0; have a1 := T3.out.A.cell 1; have a2 := T3.out.A.cell 2; have a3 := T3.out.A.cell 3
                have b0 := T3.out.N.cell 0; have b1 := T3.out.N.cell 1; have b2 := T3.out.N.cell 2; have b3 := T3.out.N.cell 3
                have fa := T3.out.A.frozen; have fb := T3.out.N.frozen; have za := T3.out.A.lt; have zb := T3.out.N.lt; have zq := T3.out.Q.lt; have n23 := T3.out.ne
                simp at q0 q1 q2 q3 q4 q5 q6 q7 a0 a1 a2 a3 b0 b1 b2 b3
                go_wp2_with fail
                go_meet
                exact ⟨_, _, _, _, _, d1, (n0, n1, n2, n3), e1, rfl, rfl, rfl, KA.out, TE.out⟩
            have hb1 : (o7x == 1) = false := by simpa using hx1
            by_cases hx2 : o7x = 2
            · as_aux_lemma =>
                subst hx2
                have KA := hid (show OkI (giveF d o1 o2 o3).2 (M + 1) from (giveF_ok OKD.out (by omega) (by omega) o1 o2 o3 HN0.out (by have := HN1.out; omega)).1)
                have C1 := hid (give_f T.out.D OKD.out.1 (z := o1) (unt := o2) (now := o3) HI1.out HI2.out HNW.out)
                have C2 := hid (fun (W : World) (h : RLd W rbase rb rv d) => rgive_any h OKD.out.1 (z := o1) (unt := o2) (now := o3) HNW.out)
                generalize giveF d o1 o2 o3 = rr at *
                obtain ⟨⟨⟨n0, n1, n2, n3⟩, e1⟩, d1⟩ := rr
                simp only [noteV, noteC] at C1 C2 KA
                have q0 := T.out.Q.cell 0; have q1 := T.out.Q.cell 1; have q2 := T.out.Q.cell 2; have q3 := T.out.Q.cell 3; have q4 := T.out.Q.cell 4; have q5 := T.out.Q.cell 5; have q6 := T.out.Q.cell 6; have q7 := T.out.Q.cell 7
                have a0 := T.out.A.cell 0; have a1 := T.out.A.cell 1; have a2 := T.out.A.cell 2; have a3 := T.out.A.cell 3
                have b0 := T.out.N.cell 0; have b1 := T.out.N.cell 1; have b2 := T.out.N.cell 2; have b3 := T.out.N.cell 3
                have fa := T.out.A.frozen; have fb := T.out.N.frozen; have za := T.out.A.lt; have zb := T.out.N.lt; have zq := T.out.Q.lt; have n23 := T.out.ne
                simp at q0 q1 q2 q3 q4 q5 q6 q7 a0 a1 a2 a3 b0 b1 b2 b3
                go_wp2_with fail
                refine C1.out.mono ?_
                clear q0 q1 q2 q3 q4 q5 q6 q7 a0 a1 a2 a3 b0 b1 b2 b3 fa fb za zb zq n23
                clear C1
                intro e w8 hr
                obtain ⟨rfl, hT⟩ := T.out.actD hr
                have T1 := hid hT
                have T2 := hid (T1.out.setA rfl (.int .i64 n0) (.int .i64 n1) (.int .i64 n2) (.int .i64 n3))
                clear hr hT T
                have q0 := T1.out.Q.cell 0; have q1 := T1.out.Q.cell 1; have q2 := T1.out.Q.cell 2; have q3 := T1.out.Q.cell 3; have q4 := T1.out.Q.cell 4; have q5 := T1.out.Q.cell 5; have q6 := T1.out.Q.cell 6; have q7 := T1.out.Q.cell 7
                have a0 := T1.out.A.cell 0; have a1 := T1.out.A.cell 1; have a2 := T1.out.A.cell 2; have a3 := T1.out.A.cell 3
                have b0 := T1.out.N.cell 0; have b1 := T1.out.N.cell 1; have b2 := T1.out.N.cell 2; have b3 := T1.out.N.cell 3
                have fa := T1.out.A.frozen; have fb := T1.out.N.frozen; have za := T1.out.A.lt; have zb := T1.out.N.lt; have zq := T1.out.Q.lt; have n23 := T1.out.ne
                simp at q0 q1 q2 q3 q4 q5 q6 q7 a0 a1 a2 a3 b0 b1 b2 b3
                go_wp2_with fail
                refine (C2.out _ T2.out.R).mono ?_
                clear q0 q1 q2 q3 q4 q5 q6 q7 a0 a1 a2 a3 b0 b1 b2 b3 fa fb za zb zq n23
                clear C2 T1
                intro e w9 hr
                obtain ⟨rfl, hT⟩ := T2.out.actR hr
                have T3 := hid hT
                have TE := hid (T3.out.setN rfl (.int .i64 n0) (.int .i64 n1) (.int .i64 n2) (.int .i64 n3))
                clear hr hT T2
                have q0 := T3.out.Q.cell 0; have q1 := T3.out.Q.cell 1; have q2 := T3.out.Q.cell 2; have q3 := T3.out.Q.cell 3; have q4 := T3.out.Q.cell 4; have q5 := T3.out.Q.cell 5; have q6 := T3.out.Q.cell 6; have q7 := T3.out.Q.cell 7
                have a0 := T3.out.A.cell 0; have a1 := T3.out.A.cell 1; have a2 := T3.out.A.cell 2; have a3 := T3.out.A.cell 3
                have b0 := T3.out.N.cell 0; have b1 := T3.out.N.cell 1; have b2 := T3.out.N.cell 2; have b3 := T3.out.N.cell 3
                have fa := T3.out.A.frozen; have fb := T3.out.N.frozen; have za := T3.out.A.lt; have zb := T3.out.N.lt; have zq := T3.out.Q.lt; have n23 := T3.out.ne
                simp at q0 q1 q2 q3 q4 q5 q6 q7 a0 a1 a2 a3 b0 b1 b2 b3
                go_wp2_with fail
                go_meet
                exact ⟨_, _, _, _, _, d1, (n0, n1, n2, n3), e1, rfl, rfl, rfl, KA.out, TE.out⟩
            have hb2 : (o7x == 2) = false := by simpa using hx2
            by_cases hx3 : o7x = 3
            · as_aux_lemma =>
                subst hx3
                have KA := hid (show OkI (backF d o1).2 (M + 1) from ⟨(backF_ok OKD.out (by omega) (by omega) o1).1.1, (backF_ok OKD.out (by omega) (by omega) o1).1.2.mono (by omega)⟩)
                have C1 := hid (back_f T.out.D OKD.out.1 (z := o1) HI1.out)
                have C2 := hid (fun (W : World) (h : RLd W rbase rb rv d) => rback_any h OKD.out.1 (z := o1))
                generalize backF d o1 = rr at *
                obtain ⟨⟨⟨n0, n1, n2, n3⟩, e1⟩, d1⟩ := rr
                simp only [noteV, noteC] at C1 C2 KA
                have q0 := T.out.Q.cell 0; have q1 := T.out.Q.cell 1; have q2 := T.out.Q.cell 2; have q3 := T.out.Q.cell 3; have q4 := T.out.Q.cell 4; have q5 := T.out.Q.cell 5; have q6 := T.out.Q.cell 6; have q7 := T.out.Q.cell 7
                have a0 := T.out.A.cell 0; have a1 := T.out.A.cell 1; have a2 := T.out.A.cell 2; have a3 := T.out.A.cell 3
                have b0 := T.out.N.cell 0; have b1 := T.out.N.cell 1; have b2 := T.out.N.cell 2; have b3 := T.out.N.cell 3
                have fa := T.out.A.frozen; have fb := T.out.N.frozen; have za := T.out.A.lt; have zb := T.out.N.lt; have zq := T.out.Q.lt; have n23 := T.out.ne
                simp at q0 q1 q2 q3 q4 q5 q6 q7 a0 a1 a2 a3 b0 b1 b2 b3
                go_wp2_with fail
                refine C1.out.mono ?_
                clear q0 q1 q2 q3 q4 q5 q6 q7 a0 a1 a2 a3 b0 b1 b2 b3 fa fb za zb zq n23
                clear C1
                intro e w8 hr
                obtain ⟨rfl, hT⟩ := T.out.actD hr
                have T1 := hid hT
                have T2 := hid (T1.out.setA rfl (.int .i64 n0) (.int .i64 n1) (.int .i64 n2) (.int .i64 n3))
                clear hr hT T
                have q0 := T1.out.Q.cell 0; have q1 := T1.out.Q.cell 1; have q2 := T1.out.Q.cell 2; have q3 := T1.out.Q.cell 3; have q4 := T1.out.Q.cell 4; have q5 := T1.out.Q.cell 5; have q6 := T1.out.Q.cell 6; have q7 := T1.out.Q.cell 7
                have a0 := T1.out.A.cell 0; have a1 := T1.out.A.cell 1; have a2 := T1.out.A.cell 2; have a3 := T1.out.A.cell 3
                have b0 := T1.out.N.cell 0; have b1 := T1.out.N.cell 1; have b2 := T1.out.N.cell 2; have b3 := T1.out.N.cell 3
                have fa := T1.out.A.frozen; have fb := T1.out.N.frozen; have za := T1.out.A.lt; have zb := T1.out.N.lt; have zq := T1.out.Q.lt; have n23 := T1.out.ne
                simp at q0 q1 q2 q3 q4 q5 q6 q7 a0 a1 a2 a3 b0 b1 b2 b3
                go_wp2_with fail
                refine (C2.out _ T2.out.R).mono ?_
                clear q0 q1 q2 q3 q4 q5 q6 q7 a0 a1 a2 a3 b0 b1 b2 b3 fa fb za zb zq n23
                clear C2 T1
                intro e w9 hr
                obtain ⟨rfl, hT⟩ := T2.out.actR hr
                have T3 := hid hT
                have TE := hid (T3.out.setN rfl (.int .i64 n0) (.int .i64 n1) (.int .i64 n2) (.int .i64 n3))
                clear hr hT T2
                have q0 := T3.out.Q.cell 0; have q1 := T3.out.Q.cell 1; have q2 := T3.out.Q.cell 2; have q3 := T3.out.Q.cell 3; have q4 := T3.out.Q.cell 4; have q5 := T3.out.Q.cell 5; have q6 := T3.out.Q.cell 6; have q7 := T3.out.Q.cell 7
                have a0 := T3.out.A.cell 0; have a1 := T3.out.A.cell 1; have a2 := T3.out.A.cell 2; have a3 := T3.out.A.cell 3
                have b0 := T3.out.N.cell 0; have b1 := T3.out.N.cell 1; have b2 := T3.out.N.cell 2; have b3 := T3.out.N.cell 3
                have fa := T3.out.A.frozen; have fb := T3.out.N.frozen; have za := T3.out.A.lt; have zb := T3.out.N.lt; have zq := T3.out.Q.lt; have n23 := T3.out.ne
                simp at q0 q1 q2 q3 q4 q5 q6 q7 a0 a1 a2 a3 b0 b1 b2 b3
                go_wp2_with fail
                go_meet
                exact ⟨_, _, _, _, _, d1, (n0, n1, n2, n3), e1, rfl, rfl, rfl, KA.out, TE.out⟩
            have hb3 : (o7x == 3) = false := by simpa using hx3
            by_cases hx6 : o7x = 6
            · as_aux_lemma =>
                subst hx6
                have C1 := hid (lcopy_any T.out.D OKD.out.1)
                have q0 := T.out.Q.cell 0; have q1 := T.out.Q.cell 1; have q2 := T.out.Q.cell 2; have q3 := T.out.Q.cell 3; have q4 := T.out.Q.cell 4; have q5 := T.out.Q.cell 5; have q6 := T.out.Q.cell 6; have q7 := T.out.Q.cell 7
                have a0 := T.out.A.cell 0; have a1 := T.out.A.cell 1; have a2 := T.out.A.cell 2; have a3 := T.out.A.cell 3
                have b0 := T.out.N.cell 0; have b1 := T.out.N.cell 1; have b2 := T.out.N.cell 2; have b3 := T.out.N.cell 3
                have fa := T.out.A.frozen; have fb := T.out.N.frozen; have za := T.out.A.lt; have zb := T.out.N.lt; have zq := T.out.Q.lt; have n23 := T.out.ne
                simp at q0 q1 q2 q3 q4 q5 q6 q7 a0 a1 a2 a3 b0 b1 b2 b3
                go_wp2_with fail
                refine C1.out.mono ?_
                clear q0 q1 q2 q3 q4 q5 q6 q7 a0 a1 a2 a3 b0 b1 b2 b3 fa fb za zb zq n23
                clear C1
                rintro e w8 ⟨b', v', mh', mg', rfl, hD, hB⟩
                have TE := hid (T.out.newD hD hB)
                clear hD hB T
                have q0 := TE.out.Q.cell 0; have q1 := TE.out.Q.cell 1; have q2 := TE.out.Q.cell 2; have q3 := TE.out.Q.cell 3; have q4 := TE.out.Q.cell 4; have q5 := TE.out.Q.cell 5; have q6 := TE.out.Q.cell 6; have q7 := TE.out.Q.cell 7
                have a0 := TE.out.A.cell 0; have a1 := TE.out.A.cell 1; have a2 := TE.out.A.cell 2; have a3 := TE.out.A.cell 3
                have b0 := TE.out.N.cell 0; have b1 := TE.out.N.cell 1; have b2 := TE.out.N.cell 2; have b3 := TE.out.N.cell 3
                have fa := TE.out.A.frozen; have fb := TE.out.N.frozen; have za := TE.out.A.lt; have zb := TE.out.N.lt; have zq := TE.out.Q.lt; have n23 := TE.out.ne
                simp at q0 q1 q2 q3 q4 q5 q6 q7 a0 a1 a2 a3 b0 b1 b2 b3
                go_wp2_with fail
                go_meet
                exact ⟨_, _, _, _, _, d, (0, 0, 0, 0), 0, rfl, rfl, rfl, ⟨OKD.out.1, OKD.out.2.mono (by omega)⟩, TE.out⟩
            have hb6 : (o7x == 6) = false := by simpa using hx6
            by_cases hx7 : o7x = 7
            · as_aux_lemma =>
                subst hx7
                have C1 := hid (lbytes_any T.out.D OKD.out.1 (he.below T.out.B))
                have HRD := hid (show readDk (bs (encDk d)).data.toList = some d by rw [bs_list']; exact readDk_enc OKD.out.1 (OKD.out.2.mono (by omega)))
                have HSZ := hid (show (bs (encDk d)).size ≤ 90000 by rw [bs_size]; have := encDk_le OKD.out.1; omega)
                generalize bs (encDk d) = sb at *
                have q0 := T.out.Q.cell 0; have q1 := T.out.Q.cell 1; have q2 := T.out.Q.cell 2; have q3 := T.out.Q.cell 3; have q4 := T.out.Q.cell 4; have q5 := T.out.Q.cell 5; have q6 := T.out.Q.cell 6; have q7 := T.out.Q.cell 7
                have a0 := T.out.A.cell 0; have a1 := T.out.A.cell 1; have a2 := T.out.A.cell 2; have a3 := T.out.A.cell 3
                have b0 := T.out.N.cell 0; have b1 := T.out.N.cell 1; have b2 := T.out.N.cell 2; have b3 := T.out.N.cell 3
                have fa := T.out.A.frozen; have fb := T.out.N.frozen; have za := T.out.A.lt; have zb := T.out.N.lt; have zq := T.out.Q.lt; have n23 := T.out.ne
                simp at q0 q1 q2 q3 q4 q5 q6 q7 a0 a1 a2 a3 b0 b1 b2 b3
                go_wp2_with fail
                refine C1.out.mono ?_
                clear q0 q1 q2 q3 q4 q5 q6 q7 a0 a1 a2 a3 b0 b1 b2 b3 fa fb za zb zq n23
                clear C1
                rintro e w8 ⟨rfl, hB⟩
                have T1 := hid (T.out.below hB)
                have C2 := hid (lread_any sb w8 HSZ.out (he.below T1.out.B))
                rw [HRD.out] at C2
                clear hB T
                have q0 := T1.out.Q.cell 0; have q1 := T1.out.Q.cell 1; have q2 := T1.out.Q.cell 2; have q3 := T1.out.Q.cell 3; have q4 := T1.out.Q.cell 4; have q5 := T1.out.Q.cell 5; have q6 := T1.out.Q.cell 6; have q7 := T1.out.Q.cell 7
                have a0 := T1.out.A.cell 0; have a1 := T1.out.A.cell 1; have a2 := T1.out.A.cell 2; have a3 := T1.out.A.cell 3
                have b0 := T1.out.N.cell 0; have b1 := T1.out.N.cell 1; have b2 := T1.out.N.cell 2; have b3 := T1.out.N.cell 3
                have fa := T1.out.A.frozen; have fb := T1.out.N.frozen; have za := T1.out.A.lt; have zb := T1.out.N.lt; have zq := T1.out.Q.lt; have n23 := T1.out.ne
                simp at q0 q1 q2 q3 q4 q5 q6 q7 a0 a1 a2 a3 b0 b1 b2 b3
                go_wp2_with fail
                refine C2.out.mono ?_
                clear q0 q1 q2 q3 q4 q5 q6 q7 a0 a1 a2 a3 b0 b1 b2 b3 fa fb za zb zq n23
                clear C2
                rintro e w9 ⟨b', v', mh', mg', rfl, hD, hB⟩
                have TE := hid (T1.out.newD hD hB)
                clear hD hB T1
                have q0 := TE.out.Q.cell 0; have q1 := TE.out.Q.cell 1; have q2 := TE.out.Q.cell 2; have q3 := TE.out.Q.cell 3; have q4 := TE.out.Q.cell 4; have q5 := TE.out.Q.cell 5; have q6 := TE.out.Q.cell 6; have q7 := TE.out.Q.cell 7
                have a0 := TE.out.A.cell 0; have a1 := TE.out.A.cell 1; have a2 := TE.out.A.cell 2; have a3 := TE.out.A.cell 3
                have b0 := TE.out.N.cell 0; have b1 := TE.out.N.cell 1; have b2 := TE.out.N.cell 2; have b3 := TE.out.N.cell 3
                have fa := TE.out.A.frozen; have fb := TE.out.N.frozen; have za := TE.out.A.lt; have zb := TE.out.N.lt; have zq := TE.out.Q.lt; have n23 := TE.out.ne
                simp at q0 q1 q2 q3 q4 q5 q6 q7 a0 a1 a2 a3 b0 b1 b2 b3
                go_wp2_with fail
                go_meet
                exact ⟨_, _, _, _, _, d, (0, 0, 0, 0), 0, rfl, rfl, rfl, ⟨OKD.out.1, OKD.out.2.mono (by omega)⟩, TE.out⟩
            have hb7 : (o7x == 7) = false := by simpa using hx7
            as_aux_lemma =>
              have KA := hid (show OkI (hearF d (o4, o5, o6, o7)).2 (M + 1) from ⟨(hearF_ok OKD.out (by omega) (by omega) (o4, o5, o6, o7) (by have := HN2.out; simp only; omega) (by have := HN2.out; simp only; omega)).1.1, (hearF_ok OKD.out (by omega) (by omega) (o4, o5, o6, o7) (by have := HN2.out; simp only; omega) (by have := HN2.out; simp only; omega)).1.2.mono (by omega)⟩)
              have C1 := hid (hear_f T.out.D OKD.out.1 (o4, o5, o6, o7) HI4.out.2.1)
              have C2 := hid (fun (W : World) (h : RLd W rbase rb rv d) => rhear_any h OKD.out.1 (o4, o5, o6, o7))
              generalize hearF d (o4, o5, o6, o7) = rr at *
              obtain ⟨e1, d1⟩ := rr
              simp only [noteV, noteC] at C1 C2 KA
              have q0 := T.out.Q.cell 0; have q1 := T.out.Q.cell 1; have q2 := T.out.Q.cell 2; have q3 := T.out.Q.cell 3; have q4 := T.out.Q.cell 4; have q5 := T.out.Q.cell 5; have q6 := T.out.Q.cell 6; have q7 := T.out.Q.cell 7
              have a0 := T.out.A.cell 0; have a1 := T.out.A.cell 1; have a2 := T.out.A.cell 2; have a3 := T.out.A.cell 3
              have b0 := T.out.N.cell 0; have b1 := T.out.N.cell 1; have b2 := T.out.N.cell 2; have b3 := T.out.N.cell 3
              have fa := T.out.A.frozen; have fb := T.out.N.frozen; have za := T.out.A.lt; have zb := T.out.N.lt; have zq := T.out.Q.lt; have n23 := T.out.ne
              simp at q0 q1 q2 q3 q4 q5 q6 q7 a0 a1 a2 a3 b0 b1 b2 b3
              go_wp2_with fail
              refine C1.out.mono ?_
              clear q0 q1 q2 q3 q4 q5 q6 q7 a0 a1 a2 a3 b0 b1 b2 b3 fa fb za zb zq n23
              clear C1
              intro e w8 hr
              obtain ⟨rfl, hT⟩ := T.out.actD hr
              have T1 := hid hT
              clear hr hT T
              have q0 := T1.out.Q.cell 0; have q1 := T1.out.Q.cell 1; have q2 := T1.out.Q.cell 2; have q3 := T1.out.Q.cell 3; have q4 := T1.out.Q.cell 4; have q5 := T1.out.Q.cell 5; have q6 := T1.out.Q.cell 6; have q7 := T1.out.Q.cell 7
              have a0 := T1.out.A.cell 0; have a1 := T1.out.A.cell 1; have a2 := T1.out.A.cell 2; have a3 := T1.out.A.cell 3
              have b0 := T1.out.N.cell 0; have b1 := T1.out.N.cell 1; have b2 := T1.out.N.cell 2; have b3 := T1.out.N.cell 3
              have fa := T1.out.A.frozen; have fb := T1.out.N.frozen; have za := T1.out.A.lt; have zb := T1.out.N.lt; have zq := T1.out.Q.lt; have n23 := T1.out.ne
              simp at q0 q1 q2 q3 q4 q5 q6 q7 a0 a1 a2 a3 b0 b1 b2 b3
              go_wp2_with fail
              refine (C2.out _ T1.out.R).mono ?_
              clear q0 q1 q2 q3 q4 q5 q6 q7 a0 a1 a2 a3 b0 b1 b2 b3 fa fb za zb zq n23
              clear C2
              intro e w9 hr
              obtain ⟨rfl, hT⟩ := T1.out.actR hr
              have TE := hid hT
              clear hr hT T1
              have q0 := TE.out.Q.cell 0; have q1 := TE.out.Q.cell 1; have q2 := TE.out.Q.cell 2; have q3 := TE.out.Q.cell 3; have q4 := TE.out.Q.cell 4; have q5 := TE.out.Q.cell 5; have q6 := TE.out.Q.cell 6; have q7 := TE.out.Q.cell 7
              have a0 := TE.out.A.cell 0; have a1 := TE.out.A.cell 1; have a2 := TE.out.A.cell 2; have a3 := TE.out.A.cell 3
              have b0 := TE.out.N.cell 0; have b1 := TE.out.N.cell 1; have b2 := TE.out.N.cell 2; have b3 := TE.out.N.cell 3
              have fa := TE.out.A.frozen; have fb := TE.out.N.frozen; have za := TE.out.A.lt; have zb := TE.out.N.lt; have zq := TE.out.Q.lt; have n23 := TE.out.ne
              simp at q0 q1 q2 q3 q4 q5 q6 q7 a0 a1 a2 a3 b0 b1 b2 b3
              go_wp2_with fail
              go_meet
              exact ⟨_, _, _, _, _, d1, (0, 0, 0, 0), e1, rfl, rfl, rfl, KA.out, TE.out⟩
          obtain ⟨base2, b2, v2, mh2, mg2, d2, n, er, rfl, rfl, rfl, hK2, hT2⟩ := hcut
          have T2 := hid hT2
          have OK2 := hid hK2
          obtain ⟨n0, n1, n2, n3⟩ := n
          simp only at hT2
          have T2 := hid hT2
          clear hT2 hK2 T OKD KD
          generalize wc = w5 at *
          obtain ⟨rA, rc, rfl⟩ := T2.out.R.form
          have a0 := T2.out.A.cell 0; have a1 := T2.out.A.cell 1; have a2 := T2.out.A.cell 2; have a3 := T2.out.A.cell 3
          have b0 := T2.out.N.cell 0; have b1 := T2.out.N.cell 1; have b2' := T2.out.N.cell 2; have b3 := T2.out.N.cell 3
          simp at a0 a1 a2 a3 b0 b1 b2' b3
          go_upto_region 38 with fail
          clear a0 a1 a2 a3 b0 b1 b2' b3
          go_cut [227] (fun vv wx => vv = .bool false ∧ Below w5.heap.size w5 wx)
          case first =>
           as_aux_lemma =>
            have BD := hid ((Below.refl w5.heap.size w5).drew)
            have HSF := hid (fun (wq : World) (hq : Below w5.heap.size w5 wq) => show wq.cell? ⟨rb, 0, none⟩ = some (.int .i64 d2.me) ∧ wq.cell? ⟨rb, 1, none⟩ = some (.slice rA d2.home.length rc) ∧ wq.cell? ⟨gq, 1, none⟩ = some (.int .i64 o1) from ⟨(T2.out.R.below hq).at_.1, (T2.out.R.below hq).at_.2, (T2.out.Q.below hq T2.out.Q.lt).cell 1⟩)
            have HD := hid (fun (wq : World) (hq : Below w5.heap.size w5 wq) => T2.out.D.below hq)
            have HR := hid (fun (wq : World) (hq : Below w5.heap.size w5 wq) => T2.out.R.below hq)
            have HEV := hid (fun (wq : World) (hq : Below w5.heap.size w5 wq) => he.below (T2.out.B.trans (hq.mono T2.out.B.size)))
            have OKd := hid OK2.out.1
            have hlen64 := hid OKd.out.len
            refine wpIn_wide.1 (wpIn_region_S (n := 0) (fun wq => Below w5.heap.size w5 wq) [] (by kernel_rfl) BD.out (fun hHeld => ?_))
            generalize w5.drew = wd at *
            refine wpAnyG_pure 0 (v := ?_) (fun _ => trivial) (by simp only [List.getElem?_toArray, List.getElem?_cons_succ, List.getElem?_cons_zero]; rfl) (by kernel_rfl) (fun _ _ _ _ _ h => h) ⟨(by rfl), (by intro c h; cases h), ?_⟩ hHeld ?_
            rotate_left
            focus (intro wS hSw; (try replace hSw := HSF.out wS hSw); (try dsimp only at hSw); go_simp; (try with_reducible rfl))
            (try simp only [Act.put, List.setIfInBounds_toArray, List.set_cons_zero, List.set_cons_succ])
            refine wpAnyG_pure 2 (v := ?_) (fun _ => trivial) (by simp only [List.getElem?_toArray, List.getElem?_cons_succ, List.getElem?_cons_zero]; rfl) (by kernel_rfl) (fun _ _ _ _ _ h => h) ⟨(by rfl), (by intro c h; cases h), ?_⟩ hHeld ?_
            rotate_left
            focus (intro wS hSw; (try replace hSw := HSF.out wS hSw); (try dsimp only at hSw); go_simp; (try with_reducible rfl))
            (try simp only [Act.put, List.setIfInBounds_toArray, List.set_cons_zero, List.set_cons_succ])
            refine wpAnyG_pure 3 (v := ?_) (fun _ => trivial) (by simp only [List.getElem?_toArray, List.getElem?_cons_succ, List.getElem?_cons_zero]; rfl) (by kernel_rfl) (fun _ _ _ _ _ h => h) ⟨(by rfl), (by intro c h; cases h), ?_⟩ hHeld ?_
            rotate_left
            focus (intro wS hSw; (try replace hSw := HSF.out wS hSw); (try dsimp only at hSw); go_simp; (try with_reducible rfl))
            (try simp only [Act.put, List.setIfInBounds_toArray, List.set_cons_zero, List.set_cons_succ])
            refine wpAnyG_pure 4 (v := ?_) (fun _ => trivial) (by simp only [List.getElem?_toArray, List.getElem?_cons_succ, List.getElem?_cons_zero]; rfl) (by kernel_rfl) (fun _ _ _ _ _ h => h) ⟨(by rfl), (by intro c h; cases h), ?_⟩ hHeld ?_
            rotate_left
            focus (intro wS hSw; (try replace hSw := HSF.out wS hSw); (try dsimp only at hSw); go_simp; (try with_reducible rfl))
            (try simp only [Act.put, List.setIfInBounds_toArray, List.set_cons_zero, List.set_cons_succ])
            refine wpAnyG_take 5 (v := ?_) (fun _ => trivial) (by simp only [List.getElem?_toArray, List.getElem?_cons_succ, List.getElem?_cons_zero]; rfl) (by kernel_rfl) (fun _ _ _ _ _ h => h) ⟨(by rfl), (by intro c h; cases h), ?_⟩ hHeld ?_
            rotate_left
            focus (intro wS hSw; (try replace hSw := HSF.out wS hSw); (try dsimp only at hSw); go_simp; (try with_reducible rfl))
            (try simp only [Act.put, List.setIfInBounds_toArray, List.set_cons_zero, List.set_cons_succ])
            refine wpAnyS_ready [1] (by kernel_rfl) (by simp) (AllReadyS.consG (by simp only [List.getElem?_toArray, List.getElem?_cons_succ, List.getElem?_cons_zero]; rfl) (by rfl) (fun K hK => ?_) AllReadyS.nil)
            refine callS (by intro c h; cases h) (by go_simp; try with_reducible rfl) (calls_bel (lme_any (HD.out wd BD.out))) ?_
            intro u1 hBq
            have C1 := hid (BD.out.trans (hBq.mono BD.out.size))
            refine hK.out _ _ C1.out ?_
            (try simp only [Act.put, List.setIfInBounds_toArray, List.set_cons_zero, List.set_cons_succ])
            clear hK K hBq
            clear hHeld
            have hHeld := C1.out
            refine wpAnyG_pure 6 (v := ?_) (fun _ => trivial) (by simp only [List.getElem?_toArray, List.getElem?_cons_succ, List.getElem?_cons_zero]; rfl) (by kernel_rfl) (fun _ _ _ _ _ h => h) ⟨(by rfl), (by intro c h; cases h), ?_⟩ hHeld ?_
            rotate_left
            focus (intro wS hSw; (try replace hSw := HSF.out wS hSw); (try dsimp only at hSw); go_simp; (try with_reducible rfl))
            (try simp only [Act.put, List.setIfInBounds_toArray, List.set_cons_zero, List.set_cons_succ])
            refine wpAnyG_pure 7 (v := ?_) (fun _ => trivial) (by simp only [List.getElem?_toArray, List.getElem?_cons_succ, List.getElem?_cons_zero]; rfl) (by kernel_rfl) (fun _ _ _ _ _ h => h) ⟨(by rfl), (by intro c h; cases h), ?_⟩ hHeld ?_
            rotate_left
            focus (intro wS hSw; (try replace hSw := HSF.out wS hSw); (try dsimp only at hSw); go_simp; (try with_reducible rfl))
            (try simp only [Act.put, List.setIfInBounds_toArray, List.set_cons_zero, List.set_cons_succ])
            refine wpAnyG_pure 8 (v := ?_) (fun _ => trivial) (by simp only [List.getElem?_toArray, List.getElem?_cons_succ, List.getElem?_cons_zero]; rfl) (by kernel_rfl) (fun _ _ _ _ _ h => h) ⟨(by rfl), (by intro c h; cases h), ?_⟩ hHeld ?_
            rotate_left
            focus (intro wS hSw; (try replace hSw := HSF.out wS hSw); (try dsimp only at hSw); go_simp; (try with_reducible rfl))
            (try simp only [Act.put, List.setIfInBounds_toArray, List.set_cons_zero, List.set_cons_succ])
            refine wpAnyG_pure 10 (v := ?_) (fun _ => trivial) (by simp only [List.getElem?_toArray, List.getElem?_cons_succ, List.getElem?_cons_zero]; rfl) (by kernel_rfl) (fun _ _ _ _ _ h => h) ⟨(by rfl), (by intro c h; cases h), ?_⟩ hHeld ?_
            rotate_left
            focus (intro wS hSw; (try replace hSw := HSF.out wS hSw); (try dsimp only at hSw); go_simp; (try with_reducible rfl))
            (try simp only [Act.put, List.setIfInBounds_toArray, List.set_cons_zero, List.set_cons_succ])
            refine wpAnyG_pure 11 (v := ?_) (fun _ => trivial) (by simp only [List.getElem?_toArray, List.getElem?_cons_succ, List.getElem?_cons_zero]; rfl) (by kernel_rfl) (fun _ _ _ _ _ h => h) ⟨(by rfl), (by intro c h; cases h), ?_⟩ hHeld ?_
            rotate_left
            focus (intro wS hSw; (try replace hSw := HSF.out wS hSw); (try dsimp only at hSw); go_simp; (try with_reducible rfl))
            (try simp only [Act.put, List.setIfInBounds_toArray, List.set_cons_zero, List.set_cons_succ])
            refine wpAnyG_pure 12 (v := ?_) (fun _ => trivial) (by simp only [List.getElem?_toArray, List.getElem?_cons_succ, List.getElem?_cons_zero]; rfl) (by kernel_rfl) (fun _ _ _ _ _ h => h) ⟨(by rfl), (by intro c h; cases h), ?_⟩ hHeld ?_
            rotate_left
            focus (intro wS hSw; (try replace hSw := HSF.out wS hSw); (try dsimp only at hSw); go_simp; (try with_reducible rfl))
            (try simp only [Act.put, List.setIfInBounds_toArray, List.set_cons_zero, List.set_cons_succ])
            refine wpAnyG_take 13 (v := ?_) (fun _ => trivial) (by simp only [List.getElem?_toArray, List.getElem?_cons_succ, List.getElem?_cons_zero]; rfl) (by kernel_rfl) (fun _ _ _ _ _ h => h) ⟨(by rfl), (by intro c h; cases h), ?_⟩ hHeld ?_
            rotate_left
            focus (intro wS hSw; (try replace hSw := HSF.out wS hSw); (try dsimp only at hSw); go_simp; (try with_reducible rfl))
            (try simp only [Act.put, List.setIfInBounds_toArray, List.set_cons_zero, List.set_cons_succ])
            refine wpAnyG_pure 14 (v := ?_) (fun _ => trivial) (by simp only [List.getElem?_toArray, List.getElem?_cons_succ, List.getElem?_cons_zero]; rfl) (by kernel_rfl) (fun _ _ _ _ _ h => h) ⟨(by rfl), (by intro c h; cases h), ?_⟩ hHeld ?_
            rotate_left
            focus (intro wS hSw; (try replace hSw := HSF.out wS hSw); (try dsimp only at hSw); go_simp; (try with_reducible rfl))
            (try simp only [Act.put, List.setIfInBounds_toArray, List.set_cons_zero, List.set_cons_succ])
            refine wpAnyS_ready [9] (by kernel_rfl) (by simp) (AllReadyS.consG (by simp only [List.getElem?_toArray, List.getElem?_cons_succ, List.getElem?_cons_zero]; rfl) (by rfl) (fun K hK => ?_) AllReadyS.nil)
            refine callS (by intro c h; cases h) (by go_simp; try with_reducible rfl) (calls_bel (lzones_any (HD.out u1 C1.out))) ?_
            intro u9 hBq
            have C9 := hid (C1.out.trans (hBq.mono C1.out.size))
            refine hK.out _ _ C9.out ?_
            (try simp only [Act.put, List.setIfInBounds_toArray, List.set_cons_zero, List.set_cons_succ])
            clear hK K hBq
            clear hHeld
            have hHeld := C9.out
            refine wpAnyG_pure 15 (v := ?_) (fun _ => trivial) (by simp only [List.getElem?_toArray, List.getElem?_cons_succ, List.getElem?_cons_zero]; rfl) (by kernel_rfl) (fun _ _ _ _ _ h => h) ⟨(by rfl), (by intro c h; cases h), ?_⟩ hHeld ?_
            rotate_left
            focus (intro wS hSw; (try replace hSw := HSF.out wS hSw); (try dsimp only at hSw); go_simp; (try with_reducible rfl))
            (try simp only [Act.put, List.setIfInBounds_toArray, List.set_cons_zero, List.set_cons_succ])
            refine wpAnyG_pure 16 (v := ?_) (fun _ => trivial) (by simp only [List.getElem?_toArray, List.getElem?_cons_succ, List.getElem?_cons_zero]; rfl) (by kernel_rfl) (fun _ _ _ _ _ h => h) ⟨(by rfl), (by intro c h; cases h), ?_⟩ hHeld ?_
            rotate_left
            focus (intro wS hSw; (try replace hSw := HSF.out wS hSw); (try dsimp only at hSw); go_simp; (try with_reducible rfl))
            (try simp only [Act.put, List.setIfInBounds_toArray, List.set_cons_zero, List.set_cons_succ])
            refine wpAnyG_pure 17 (v := ?_) (fun _ => trivial) (by simp only [List.getElem?_toArray, List.getElem?_cons_succ, List.getElem?_cons_zero]; rfl) (by kernel_rfl) (fun _ _ _ _ _ h => h) ⟨(by rfl), (by intro c h; cases h), ?_⟩ hHeld ?_
            rotate_left
            focus (intro wS hSw; (try replace hSw := HSF.out wS hSw); (try dsimp only at hSw); go_simp; (try with_reducible rfl))
            (try simp only [Act.put, List.setIfInBounds_toArray, List.set_cons_zero, List.set_cons_succ])
            refine wpAnyG_pure 18 (v := ?_) (fun _ => trivial) (by simp only [List.getElem?_toArray, List.getElem?_cons_succ, List.getElem?_cons_zero]; rfl) (by kernel_rfl) (fun _ _ _ _ _ h => h) ⟨(by rfl), (by intro c h; cases h), ?_⟩ hHeld ?_
            rotate_left
            focus (intro wS hSw; (try replace hSw := HSF.out wS hSw); (try dsimp only at hSw); go_simp; (try with_reducible rfl))
            (try simp only [Act.put, List.setIfInBounds_toArray, List.set_cons_zero, List.set_cons_succ])
            refine wpAnyG_pure 19 (v := ?_) (fun _ => trivial) (by simp only [List.getElem?_toArray, List.getElem?_cons_succ, List.getElem?_cons_zero]; rfl) (by kernel_rfl) (fun _ _ _ _ _ h => h) ⟨(by rfl), (by intro c h; cases h), ?_⟩ hHeld ?_
            rotate_left
            focus (intro wS hSw; (try replace hSw := HSF.out wS hSw); (try dsimp only at hSw); go_simp; (try with_reducible rfl))
            (try simp only [Act.put, List.setIfInBounds_toArray, List.set_cons_zero, List.set_cons_succ])
            refine wpAnyG_take 20 (v := ?_) (fun _ => trivial) (by simp only [List.getElem?_toArray, List.getElem?_cons_succ, List.getElem?_cons_zero]; rfl) (by kernel_rfl) (fun _ _ _ _ _ h => h) ⟨(by rfl), (by intro c h; cases h), ?_⟩ hHeld ?_
            rotate_left
            focus (intro wS hSw; (try replace hSw := HSF.out wS hSw); (try dsimp only at hSw); go_simp; (try with_reducible rfl))
            (try simp only [Act.put, List.setIfInBounds_toArray, List.set_cons_zero, List.set_cons_succ])
            refine wpAnyG_pure 21 (v := ?_) (fun _ => trivial) (by simp only [List.getElem?_toArray, List.getElem?_cons_succ, List.getElem?_cons_zero]; rfl) (by kernel_rfl) (fun _ _ _ _ _ h => h) ⟨(by rfl), (by intro c h; cases h), ?_⟩ hHeld ?_
            rotate_left
            focus (intro wS hSw; (try replace hSw := HSF.out wS hSw); (try dsimp only at hSw); go_simp; (try with_reducible rfl))
            (try simp only [Act.put, List.setIfInBounds_toArray, List.set_cons_zero, List.set_cons_succ])
            refine wpAnyG_pure 23 (v := ?_) (fun _ => trivial) (by simp only [List.getElem?_toArray, List.getElem?_cons_succ, List.getElem?_cons_zero]; rfl) (by kernel_rfl) (fun _ _ _ _ _ h => h) ⟨(by rfl), (by intro c h; cases h), ?_⟩ hHeld ?_
            rotate_left
            focus (intro wS hSw; (try replace hSw := HSF.out wS hSw); (try dsimp only at hSw); go_simp; (try with_reducible rfl))
            (try simp only [Act.put, List.setIfInBounds_toArray, List.set_cons_zero, List.set_cons_succ])
            refine wpAnyG_pure 24 (v := ?_) (fun _ => trivial) (by simp only [List.getElem?_toArray, List.getElem?_cons_succ, List.getElem?_cons_zero]; rfl) (by kernel_rfl) (fun _ _ _ _ _ h => h) ⟨(by rfl), (by intro c h; cases h), ?_⟩ hHeld ?_
            rotate_left
            focus (intro wS hSw; (try replace hSw := HSF.out wS hSw); (try dsimp only at hSw); go_simp; (try with_reducible rfl))
            (try simp only [Act.put, List.setIfInBounds_toArray, List.set_cons_zero, List.set_cons_succ])
            refine wpAnyG_take 25 (v := ?_) (fun _ => trivial) (by simp only [List.getElem?_toArray, List.getElem?_cons_succ, List.getElem?_cons_zero]; rfl) (by kernel_rfl) (fun _ _ _ _ _ h => h) ⟨(by rfl), (by intro c h; cases h), ?_⟩ hHeld ?_
            rotate_left
            focus (intro wS hSw; (try replace hSw := HSF.out wS hSw); (try dsimp only at hSw); go_simp; (try with_reducible rfl))
            (try simp only [Act.put, List.setIfInBounds_toArray, List.set_cons_zero, List.set_cons_succ])
            refine wpAnyG_pure 26 (v := ?_) (fun _ => trivial) (by simp only [List.getElem?_toArray, List.getElem?_cons_succ, List.getElem?_cons_zero]; rfl) (by kernel_rfl) (fun _ _ _ _ _ h => h) ⟨(by rfl), (by intro c h; cases h), ?_⟩ hHeld ?_
            rotate_left
            focus (intro wS hSw; (try replace hSw := HSF.out wS hSw); (try dsimp only at hSw); go_simp; (try with_reducible rfl))
            (try simp only [Act.put, List.setIfInBounds_toArray, List.set_cons_zero, List.set_cons_succ])
            refine wpAnyS_ready [22] (by kernel_rfl) (by simp) (AllReadyS.consG (by simp only [List.getElem?_toArray, List.getElem?_cons_succ, List.getElem?_cons_zero]; rfl) (by rfl) (fun K hK => ?_) AllReadyS.nil)
            refine callS (by intro c h; cases h) (by go_simp; try with_reducible rfl) (holds_any (HD.out u9 C9.out) OKd.out (z := o1) (now := now) HI1.out NW.out) ?_
            intro u22 hBq
            have C22 := hid (C9.out.trans (hBq.mono C9.out.size))
            refine hK.out _ _ C22.out ?_
            (try simp only [Act.put, List.setIfInBounds_toArray, List.set_cons_zero, List.set_cons_succ])
            clear hK K hBq
            clear hHeld
            have hHeld := C22.out
            refine wpAnyS_ready [27] (by kernel_rfl) (by simp) (AllReadyS.consG (by simp only [List.getElem?_toArray, List.getElem?_cons_succ, List.getElem?_cons_zero]; rfl) (by rfl) (fun K hK => ?_) AllReadyS.nil)
            refine callS (by intro c h; cases h) (by go_simp; try with_reducible rfl) (rholds_any (HR.out u22 C22.out) OKd.out (z := o1) (now := now) NW.out) ?_
            intro u27 hBq
            have C27 := hid (C22.out.trans (hBq.mono C22.out.size))
            refine hK.out _ _ C27.out ?_
            (try simp only [Act.put, List.setIfInBounds_toArray, List.set_cons_zero, List.set_cons_succ])
            clear hK K hBq
            clear hHeld
            have hHeld := C27.out
            refine wpAnyG_pure 28 (v := ?_) (fun _ => trivial) (by simp only [List.getElem?_toArray, List.getElem?_cons_succ, List.getElem?_cons_zero]; rfl) (by kernel_rfl) (fun _ _ _ _ _ h => h) ⟨(by rfl), (by intro c h; cases h), ?_⟩ hHeld ?_
            rotate_left
            focus (intro wS hSw; (try replace hSw := HSF.out wS hSw); (try dsimp only at hSw); go_simp; (try with_reducible rfl))
            (try simp only [Act.put, List.setIfInBounds_toArray, List.set_cons_zero, List.set_cons_succ])
            refine wpAnyG_pure 29 (v := ?_) (fun _ => trivial) (by simp only [List.getElem?_toArray, List.getElem?_cons_succ, List.getElem?_cons_zero]; rfl) (by kernel_rfl) (fun _ _ _ _ _ h => h) ⟨(by rfl), (by intro c h; cases h), ?_⟩ hHeld ?_
            rotate_left
            focus (intro wS hSw; (try replace hSw := HSF.out wS hSw); (try dsimp only at hSw); go_simp; (try with_reducible rfl))
            (try simp only [Act.put, List.setIfInBounds_toArray, List.set_cons_zero, List.set_cons_succ])
            refine wpAnyG_pure 30 (v := ?_) (fun _ => trivial) (by simp only [List.getElem?_toArray, List.getElem?_cons_succ, List.getElem?_cons_zero]; rfl) (by kernel_rfl) (fun _ _ _ _ _ h => h) ⟨(by rfl), (by intro c h; cases h), ?_⟩ hHeld ?_
            rotate_left
            focus (intro wS hSw; (try replace hSw := HSF.out wS hSw); (try dsimp only at hSw); go_simp; (try with_reducible rfl))
            (try simp only [Act.put, List.setIfInBounds_toArray, List.set_cons_zero, List.set_cons_succ])
            refine wpAnyG_pure 31 (v := ?_) (fun _ => trivial) (by simp only [List.getElem?_toArray, List.getElem?_cons_succ, List.getElem?_cons_zero]; rfl) (by kernel_rfl) (fun _ _ _ _ _ h => h) ⟨(by rfl), (by intro c h; cases h), ?_⟩ hHeld ?_
            rotate_left
            focus (intro wS hSw; (try replace hSw := HSF.out wS hSw); (try dsimp only at hSw); go_simp; (try with_reducible rfl))
            (try simp only [Act.put, List.setIfInBounds_toArray, List.set_cons_zero, List.set_cons_succ])
            refine wpAnyG_pure 32 (v := ?_) (fun _ => trivial) (by simp only [List.getElem?_toArray, List.getElem?_cons_succ, List.getElem?_cons_zero]; rfl) (by kernel_rfl) (fun _ _ _ _ _ h => h) ⟨(by rfl), (by intro c h; cases h), ?_⟩ hHeld ?_
            rotate_left
            focus (intro wS hSw; (try replace hSw := HSF.out wS hSw); (try dsimp only at hSw); go_simp; (try with_reducible rfl))
            (try simp only [Act.put, List.setIfInBounds_toArray, List.set_cons_zero, List.set_cons_succ])
            refine wpAnyG_take 33 (v := ?_) (fun _ => trivial) (by simp only [List.getElem?_toArray, List.getElem?_cons_succ, List.getElem?_cons_zero]; rfl) (by kernel_rfl) (fun _ _ _ _ _ h => h) ⟨(by rfl), (by intro c h; cases h), ?_⟩ hHeld ?_
            rotate_left
            focus (intro wS hSw; (try replace hSw := HSF.out wS hSw); (try dsimp only at hSw); go_simp; (try with_reducible rfl))
            (try simp only [Act.put, List.setIfInBounds_toArray, List.set_cons_zero, List.set_cons_succ])
            refine wpAnyG_pure 35 (v := ?_) (fun _ => trivial) (by simp only [List.getElem?_toArray, List.getElem?_cons_succ, List.getElem?_cons_zero]; rfl) (by kernel_rfl) (fun _ _ _ _ _ h => h) ⟨(by rfl), (by intro c h; cases h), ?_⟩ hHeld ?_
            rotate_left
            focus (intro wS hSw; (try replace hSw := HSF.out wS hSw); (try dsimp only at hSw); go_simp; (try with_reducible rfl))
            (try simp only [Act.put, List.setIfInBounds_toArray, List.set_cons_zero, List.set_cons_succ])
            refine wpAnyG_pure 36 (v := ?_) (fun _ => trivial) (by simp only [List.getElem?_toArray, List.getElem?_cons_succ, List.getElem?_cons_zero]; rfl) (by kernel_rfl) (fun _ _ _ _ _ h => h) ⟨(by rfl), (by intro c h; cases h), ?_⟩ hHeld ?_
            rotate_left
            focus (intro wS hSw; (try replace hSw := HSF.out wS hSw); (try dsimp only at hSw); go_simp; (try with_reducible rfl))
            (try simp only [Act.put, List.setIfInBounds_toArray, List.set_cons_zero, List.set_cons_succ])
            refine wpAnyG_take 37 (v := ?_) (fun _ => trivial) (by simp only [List.getElem?_toArray, List.getElem?_cons_succ, List.getElem?_cons_zero]; rfl) (by kernel_rfl) (fun _ _ _ _ _ h => h) ⟨(by rfl), (by intro c h; cases h), ?_⟩ hHeld ?_
            rotate_left
            focus (intro wS hSw; (try replace hSw := HSF.out wS hSw); (try dsimp only at hSw); go_simp; (try with_reducible rfl))
            (try simp only [Act.put, List.setIfInBounds_toArray, List.set_cons_zero, List.set_cons_succ])
            refine wpAnyS_ready [34] (by kernel_rfl) (by simp) (AllReadyS.consG (by simp only [List.getElem?_toArray, List.getElem?_cons_succ, List.getElem?_cons_zero]; rfl) (by rfl) (fun K hK => ?_) AllReadyS.nil)
            refine callS (by intro c h; cases h) (by go_simp; try with_reducible rfl) (ends_any (HD.out u27 C27.out) OKd.out (z := o1) HI1.out) ?_
            intro u34 hBq
            have C34 := hid (C27.out.trans (hBq.mono C27.out.size))
            refine hK.out _ _ C34.out ?_
            (try simp only [Act.put, List.setIfInBounds_toArray, List.set_cons_zero, List.set_cons_succ])
            clear hK K hBq
            clear hHeld
            have hHeld := C34.out
            refine wpAnyS_ready [38] (by kernel_rfl) (by simp) (AllReadyS.consG (by simp only [List.getElem?_toArray, List.getElem?_cons_succ, List.getElem?_cons_zero]; rfl) (by rfl) (fun K hK => ?_) AllReadyS.nil)
            refine callS (by intro c h; cases h) (by go_simp; try with_reducible rfl) (calls_bel (rends_any (HR.out u34 C34.out) OKd.out (z := o1))) ?_
            intro u38 hBq
            have C38 := hid (C34.out.trans (hBq.mono C34.out.size))
            refine hK.out _ _ C38.out ?_
            (try simp only [Act.put, List.setIfInBounds_toArray, List.set_cons_zero, List.set_cons_succ])
            clear hK K hBq
            clear hHeld
            have hHeld := C38.out
            refine wpAnyG_pure 39 (v := ?_) (fun _ => trivial) (by simp only [List.getElem?_toArray, List.getElem?_cons_succ, List.getElem?_cons_zero]; rfl) (by kernel_rfl) (fun _ _ _ _ _ h => h) ⟨(by rfl), (by intro c h; cases h), ?_⟩ hHeld ?_
            rotate_left
            focus (intro wS hSw; (try replace hSw := HSF.out wS hSw); (try dsimp only at hSw); go_simp; (try with_reducible rfl))
            (try simp only [Act.put, List.setIfInBounds_toArray, List.set_cons_zero, List.set_cons_succ])
            refine wpAnyG_pure 40 (v := ?_) (fun _ => trivial) (by simp only [List.getElem?_toArray, List.getElem?_cons_succ, List.getElem?_cons_zero]; rfl) (by kernel_rfl) (fun _ _ _ _ _ h => h) ⟨(by rfl), (by intro c h; cases h), ?_⟩ hHeld ?_
            rotate_left
            focus (intro wS hSw; (try replace hSw := HSF.out wS hSw); (try dsimp only at hSw); go_simp; (try with_reducible rfl))
            (try simp only [Act.put, List.setIfInBounds_toArray, List.set_cons_zero, List.set_cons_succ])
            refine wpAnyG_pure 41 (v := ?_) (fun _ => trivial) (by simp only [List.getElem?_toArray, List.getElem?_cons_succ, List.getElem?_cons_zero]; rfl) (by kernel_rfl) (fun _ _ _ _ _ h => h) ⟨(by rfl), (by intro c h; cases h), ?_⟩ hHeld ?_
            rotate_left
            focus (intro wS hSw; (try replace hSw := HSF.out wS hSw); (try dsimp only at hSw); go_simp; (try with_reducible rfl))
            (try simp only [Act.put, List.setIfInBounds_toArray, List.set_cons_zero, List.set_cons_succ])
            refine wpAnyG_pure 42 (v := ?_) (fun _ => trivial) (by simp only [List.getElem?_toArray, List.getElem?_cons_succ, List.getElem?_cons_zero]; rfl) (by kernel_rfl) (fun _ _ _ _ _ h => h) ⟨(by rfl), (by intro c h; cases h), ?_⟩ hHeld ?_
            rotate_left
            focus (intro wS hSw; (try replace hSw := HSF.out wS hSw); (try dsimp only at hSw); go_simp; (try with_reducible rfl))
            (try simp only [Act.put, List.setIfInBounds_toArray, List.set_cons_zero, List.set_cons_succ])
            refine wpAnyG_pure 43 (v := ?_) (fun _ => trivial) (by simp only [List.getElem?_toArray, List.getElem?_cons_succ, List.getElem?_cons_zero]; rfl) (by kernel_rfl) (fun _ _ _ _ _ h => h) ⟨(by rfl), (by intro c h; cases h), ?_⟩ hHeld ?_
            rotate_left
            focus (intro wS hSw; (try replace hSw := HSF.out wS hSw); (try dsimp only at hSw); go_simp; (try with_reducible rfl))
            (try simp only [Act.put, List.setIfInBounds_toArray, List.set_cons_zero, List.set_cons_succ])
            refine wpAnyG_pure 45 (v := ?_) (fun _ => trivial) (by simp only [List.getElem?_toArray, List.getElem?_cons_succ, List.getElem?_cons_zero]; rfl) (by kernel_rfl) (fun _ _ _ _ _ h => h) ⟨(by rfl), (by intro c h; cases h), ?_⟩ hHeld ?_
            rotate_left
            focus (intro wS hSw; (try replace hSw := HSF.out wS hSw); (try dsimp only at hSw); go_simp; (try with_reducible rfl))
            (try simp only [Act.put, List.setIfInBounds_toArray, List.set_cons_zero, List.set_cons_succ])
            refine wpAnyG_pure 46 (v := ?_) (fun _ => trivial) (by simp only [List.getElem?_toArray, List.getElem?_cons_succ, List.getElem?_cons_zero]; rfl) (by kernel_rfl) (fun _ _ _ _ _ h => h) ⟨(by rfl), (by intro c h; cases h), ?_⟩ hHeld ?_
            rotate_left
            focus (intro wS hSw; (try replace hSw := HSF.out wS hSw); (try dsimp only at hSw); go_simp; (try with_reducible rfl))
            (try simp only [Act.put, List.setIfInBounds_toArray, List.set_cons_zero, List.set_cons_succ])
            refine wpAnyS_ready [44] (by kernel_rfl) (by simp) (AllReadyS.consG (by simp only [List.getElem?_toArray, List.getElem?_cons_succ, List.getElem?_cons_zero]; rfl) (by rfl) (fun K hK => ?_) AllReadyS.nil)
            refine callV (by intro c h; cases h) (by go_simp; try with_reducible rfl) (calls_list hlen64.out (sure_any (HD.out u38 C38.out) OKd.out (now := now) NW.out)) ?_
            rintro uu u44 ⟨A4, c4, rfl, hs4, hBq⟩
            have C44 := hid (C38.out.trans (hBq.mono C38.out.size))
            refine hK.out _ _ C44.out ?_
            (try simp only [Act.put, List.setIfInBounds_toArray, List.set_cons_zero, List.set_cons_succ])
            clear hK K hHeld hBq
            have hHeld := C44.out
            have HS4 := hid hs4
            clear hs4
            refine wpAnyS_ready [47] (by kernel_rfl) (by simp) (AllReadyS.consG (by simp only [List.getElem?_toArray, List.getElem?_cons_succ, List.getElem?_cons_zero]; rfl) (by rfl) (fun K hK => ?_) AllReadyS.nil)
            refine callV (by intro c h; cases h) (by go_simp; try with_reducible rfl) (calls_list hlen64.out (rsure_any (HR.out u44 C44.out) OKd.out (now := now) NW.out)) ?_
            rintro uu u47 ⟨A7, c7, rfl, hs7, hBq⟩
            have C47 := hid (C44.out.trans (hBq.mono C44.out.size))
            refine hK.out _ _ C47.out ?_
            (try simp only [Act.put, List.setIfInBounds_toArray, List.set_cons_zero, List.set_cons_succ])
            clear hK K hHeld
            have hBq0 := hBq
            clear hBq
            have hHeld := C47.out
            have HS7 := hid (And.intro hs7 ((HS4.out.below hBq0).more hBq0.size))
            clear hBq0 hs7 HS4
            have HSM := hid (sameI_any A4 A7 c4 c7 (upToP (fun z => lHolds d2 z now) d2.home.length) (upToP (fun z => lHolds d2 z now) d2.home.length) u47 (by have := upToP_le (fun z => lHolds d2 z now) d2.home.length; have := hlen64.out; unfold maxLen; omega) (by have := upToP_le (fun z => lHolds d2 z now) d2.home.length; have := hlen64.out; unfold maxLen; omega) HS7.out.2 HS7.out.1)
            rw [decide_eq_true rfl] at HSM
            generalize upToP (fun z => lHolds d2 z now) d2.home.length = UL at *
            refine wpAnyS_ready [48] (by kernel_rfl) (by simp) (AllReadyS.consG (by simp only [List.getElem?_toArray, List.getElem?_cons_succ, List.getElem?_cons_zero]; rfl) (by rfl) (fun K hK => ?_) AllReadyS.nil)
            refine callS (by intro c h; cases h) (by go_simp; try with_reducible rfl) (HSM.out) ?_
            intro u48 hBq
            have C48 := hid (C47.out.trans (hBq.mono C47.out.size))
            refine hK.out _ _ C48.out ?_
            (try simp only [Act.put, List.setIfInBounds_toArray, List.set_cons_zero, List.set_cons_succ])
            clear hK K hBq
            clear hHeld
            have hHeld := C48.out
            clear HSM HS7
            refine wpAnyG_pure 49 (v := ?_) (fun _ => trivial) (by simp only [List.getElem?_toArray, List.getElem?_cons_succ, List.getElem?_cons_zero]; rfl) (by kernel_rfl) (fun _ _ _ _ _ h => h) ⟨(by rfl), (by intro c h; cases h), ?_⟩ hHeld ?_
            rotate_left
            focus (intro wS hSw; (try replace hSw := HSF.out wS hSw); (try dsimp only at hSw); go_simp; (try with_reducible rfl))
            (try simp only [Act.put, List.setIfInBounds_toArray, List.set_cons_zero, List.set_cons_succ])
            refine wpAnyG_pure 50 (v := ?_) (fun _ => trivial) (by simp only [List.getElem?_toArray, List.getElem?_cons_succ, List.getElem?_cons_zero]; rfl) (by kernel_rfl) (fun _ _ _ _ _ h => h) ⟨(by rfl), (by intro c h; cases h), ?_⟩ hHeld ?_
            rotate_left
            focus (intro wS hSw; (try replace hSw := HSF.out wS hSw); (try dsimp only at hSw); go_simp; (try with_reducible rfl))
            (try simp only [Act.put, List.setIfInBounds_toArray, List.set_cons_zero, List.set_cons_succ])
            refine wpAnyG_pure 51 (v := ?_) (fun _ => trivial) (by simp only [List.getElem?_toArray, List.getElem?_cons_succ, List.getElem?_cons_zero]; rfl) (by kernel_rfl) (fun _ _ _ _ _ h => h) ⟨(by rfl), (by intro c h; cases h), ?_⟩ hHeld ?_
            rotate_left
            focus (intro wS hSw; (try replace hSw := HSF.out wS hSw); (try dsimp only at hSw); go_simp; (try with_reducible rfl))
            (try simp only [Act.put, List.setIfInBounds_toArray, List.set_cons_zero, List.set_cons_succ])
            refine wpAnyG_pure 52 (v := ?_) (fun _ => trivial) (by simp only [List.getElem?_toArray, List.getElem?_cons_succ, List.getElem?_cons_zero]; rfl) (by kernel_rfl) (fun _ _ _ _ _ h => h) ⟨(by rfl), (by intro c h; cases h), ?_⟩ hHeld ?_
            rotate_left
            focus (intro wS hSw; (try replace hSw := HSF.out wS hSw); (try dsimp only at hSw); go_simp; (try with_reducible rfl))
            (try simp only [Act.put, List.setIfInBounds_toArray, List.set_cons_zero, List.set_cons_succ])
            refine wpAnyG_pure 54 (v := ?_) (fun _ => trivial) (by simp only [List.getElem?_toArray, List.getElem?_cons_succ, List.getElem?_cons_zero]; rfl) (by kernel_rfl) (fun _ _ _ _ _ h => h) ⟨(by rfl), (by intro c h; cases h), ?_⟩ hHeld ?_
            rotate_left
            focus (intro wS hSw; (try replace hSw := HSF.out wS hSw); (try dsimp only at hSw); go_simp; (try with_reducible rfl))
            (try simp only [Act.put, List.setIfInBounds_toArray, List.set_cons_zero, List.set_cons_succ])
            refine wpAnyS_ready [53] (by kernel_rfl) (by simp) (AllReadyS.consG (by simp only [List.getElem?_toArray, List.getElem?_cons_succ, List.getElem?_cons_zero]; rfl) (by rfl) (fun K hK => ?_) AllReadyS.nil)
            refine callV (by intro c h; cases h) (by go_simp; try with_reducible rfl) (calls_list hlen64.out (wishes_any (HD.out u48 C48.out) OKd.out)) ?_
            rintro uu u53 ⟨A5, c5, rfl, hs5, hBq⟩
            have C53 := hid (C48.out.trans (hBq.mono C48.out.size))
            refine hK.out _ _ C53.out ?_
            (try simp only [Act.put, List.setIfInBounds_toArray, List.set_cons_zero, List.set_cons_succ])
            clear hK K hHeld hBq
            have hHeld := C53.out
            have HS5 := hid hs5
            clear hs5
            refine wpAnyS_ready [55] (by kernel_rfl) (by simp) (AllReadyS.consG (by simp only [List.getElem?_toArray, List.getElem?_cons_succ, List.getElem?_cons_zero]; rfl) (by rfl) (fun K hK => ?_) AllReadyS.nil)
            refine callV (by intro c h; cases h) (by go_simp; try with_reducible rfl) (calls_list hlen64.out (rwishes_any (HR.out u53 C53.out) OKd.out)) ?_
            rintro uu u55 ⟨A6, c6, rfl, hs6, hBq⟩
            have C55 := hid (C53.out.trans (hBq.mono C53.out.size))
            refine hK.out _ _ C55.out ?_
            (try simp only [Act.put, List.setIfInBounds_toArray, List.set_cons_zero, List.set_cons_succ])
            clear hK K hHeld
            have hBq0 := hBq
            clear hBq
            have hHeld := C55.out
            have HS6 := hid (And.intro hs6 ((HS5.out.below hBq0).more hBq0.size))
            clear hBq0 hs6 HS5
            have HSM := hid (sameI_any A5 A6 c5 c6 (upToP (fun z => (d2.hs z).2.2) d2.home.length) (upToP (fun z => (d2.hs z).2.2) d2.home.length) u55 (by have := upToP_le (fun z => (d2.hs z).2.2) d2.home.length; have := hlen64.out; unfold maxLen; omega) (by have := upToP_le (fun z => (d2.hs z).2.2) d2.home.length; have := hlen64.out; unfold maxLen; omega) HS6.out.2 HS6.out.1)
            rw [decide_eq_true rfl] at HSM
            generalize upToP (fun z => (d2.hs z).2.2) d2.home.length = UL2 at *
            refine wpAnyS_ready [56] (by kernel_rfl) (by simp) (AllReadyS.consG (by simp only [List.getElem?_toArray, List.getElem?_cons_succ, List.getElem?_cons_zero]; rfl) (by rfl) (fun K hK => ?_) AllReadyS.nil)
            refine callS (by intro c h; cases h) (by go_simp; try with_reducible rfl) (HSM.out) ?_
            intro u56 hBq
            have C56 := hid (C55.out.trans (hBq.mono C55.out.size))
            refine hK.out _ _ C56.out ?_
            (try simp only [Act.put, List.setIfInBounds_toArray, List.set_cons_zero, List.set_cons_succ])
            clear hK K hBq
            clear hHeld
            have hHeld := C56.out
            clear HSM HS6
            refine wpAnyG_pure 57 (v := ?_) (fun _ => trivial) (by simp only [List.getElem?_toArray, List.getElem?_cons_succ, List.getElem?_cons_zero]; rfl) (by kernel_rfl) (fun _ _ _ _ _ h => h) ⟨(by rfl), (by intro c h; cases h), ?_⟩ hHeld ?_
            rotate_left
            focus (intro wS hSw; (try replace hSw := HSF.out wS hSw); (try dsimp only at hSw); go_simp; (try with_reducible rfl))
            (try simp only [Act.put, List.setIfInBounds_toArray, List.set_cons_zero, List.set_cons_succ])
            refine wpAnyG_pure 58 (v := ?_) (fun _ => trivial) (by simp only [List.getElem?_toArray, List.getElem?_cons_succ, List.getElem?_cons_zero]; rfl) (by kernel_rfl) (fun _ _ _ _ _ h => h) ⟨(by rfl), (by intro c h; cases h), ?_⟩ hHeld ?_
            rotate_left
            focus (intro wS hSw; (try replace hSw := HSF.out wS hSw); (try dsimp only at hSw); go_simp; (try with_reducible rfl))
            (try simp only [Act.put, List.setIfInBounds_toArray, List.set_cons_zero, List.set_cons_succ])
            refine wpAnyG_pure 59 (v := ?_) (fun _ => trivial) (by simp only [List.getElem?_toArray, List.getElem?_cons_succ, List.getElem?_cons_zero]; rfl) (by kernel_rfl) (fun _ _ _ _ _ h => h) ⟨(by rfl), (by intro c h; cases h), ?_⟩ hHeld ?_
            rotate_left
            focus (intro wS hSw; (try replace hSw := HSF.out wS hSw); (try dsimp only at hSw); go_simp; (try with_reducible rfl))
            (try simp only [Act.put, List.setIfInBounds_toArray, List.set_cons_zero, List.set_cons_succ])
            refine wpAnyG_pure 60 (v := ?_) (fun _ => trivial) (by simp only [List.getElem?_toArray, List.getElem?_cons_succ, List.getElem?_cons_zero]; rfl) (by kernel_rfl) (fun _ _ _ _ _ h => h) ⟨(by rfl), (by intro c h; cases h), ?_⟩ hHeld ?_
            rotate_left
            focus (intro wS hSw; (try replace hSw := HSF.out wS hSw); (try dsimp only at hSw); go_simp; (try with_reducible rfl))
            (try simp only [Act.put, List.setIfInBounds_toArray, List.set_cons_zero, List.set_cons_succ])
            refine wpAnyG_pure 62 (v := ?_) (fun _ => trivial) (by simp only [List.getElem?_toArray, List.getElem?_cons_succ, List.getElem?_cons_zero]; rfl) (by kernel_rfl) (fun _ _ _ _ _ h => h) ⟨(by rfl), (by intro c h; cases h), ?_⟩ hHeld ?_
            rotate_left
            focus (intro wS hSw; (try replace hSw := HSF.out wS hSw); (try dsimp only at hSw); go_simp; (try with_reducible rfl))
            (try simp only [Act.put, List.setIfInBounds_toArray, List.set_cons_zero, List.set_cons_succ])
            refine wpAnyS_ready [61] (by kernel_rfl) (by simp) (AllReadyS.consG (by simp only [List.getElem?_toArray, List.getElem?_cons_succ, List.getElem?_cons_zero]; rfl) (by rfl) (fun K hK => ?_) AllReadyS.nil)
            refine callS (by intro c h; cases h) (by go_simp; try with_reducible rfl) (lbytes_any (HD.out u56 C56.out) OKd.out (HEV.out u56 C56.out)) ?_
            intro u61 hBq
            have C61 := hid (C56.out.trans (hBq.mono C56.out.size))
            refine hK.out _ _ C61.out ?_
            (try simp only [Act.put, List.setIfInBounds_toArray, List.set_cons_zero, List.set_cons_succ])
            clear hK K hBq
            clear hHeld
            have hHeld := C61.out
            refine wpAnyS_ready [63] (by kernel_rfl) (by simp) (AllReadyS.consG (by simp only [List.getElem?_toArray, List.getElem?_cons_succ, List.getElem?_cons_zero]; rfl) (by rfl) (fun K hK => ?_) AllReadyS.nil)
            refine callS (by intro c h; cases h) (by go_simp; try with_reducible rfl) (rbytes_any (HR.out u61 C61.out) OKd.out) ?_
            intro u63 hBq
            have C63 := hid (C61.out.trans (hBq.mono C61.out.size))
            refine hK.out _ _ C63.out ?_
            (try simp only [Act.put, List.setIfInBounds_toArray, List.set_cons_zero, List.set_cons_succ])
            clear hK K hBq
            clear hHeld
            have hHeld := C63.out
            refine wpAnyG_pure 64 (v := ?_) (fun _ => trivial) (by simp only [List.getElem?_toArray, List.getElem?_cons_succ, List.getElem?_cons_zero]; rfl) (by kernel_rfl) (fun _ _ _ _ _ h => h) ⟨(by rfl), (by intro c h; cases h), ?_⟩ hHeld ?_
            rotate_left
            focus (intro wS hSw; (try replace hSw := HSF.out wS hSw); (try dsimp only at hSw); go_simp; (try with_reducible rfl))
            (try simp only [Act.put, List.setIfInBounds_toArray, List.set_cons_zero, List.set_cons_succ])
            refine wpAnyG_pure 65 (v := ?_) (fun _ => trivial) (by simp only [List.getElem?_toArray, List.getElem?_cons_succ, List.getElem?_cons_zero]; rfl) (by kernel_rfl) (fun _ _ _ _ _ h => h) ⟨(by rfl), (by intro c h; cases h), ?_⟩ hHeld ?_
            rotate_left
            focus (intro wS hSw; (try replace hSw := HSF.out wS hSw); (try dsimp only at hSw); go_simp; (try with_reducible rfl))
            (try simp only [Act.put, List.setIfInBounds_toArray, List.set_cons_zero, List.set_cons_succ])
            refine wpAnyS_done (by kernel_rfl) ?_
            clear hHeld HSF
            go_wp2_with fail
            go_meet
            exact ⟨by simp, C63.out⟩
          obtain ⟨rfl, hB⟩ := hcut
          have T3 := hid (T2.out.below hB)
          clear hB T2
          generalize wc = w6 at *
          go_wp2_with fail
          go_roundw
          case rel =>
            first
              | exact ⟨k + 1, base2, b2, v2, mh2, mg2, d2, by omega, (by first | exact congrArg (Value.int .i64) hk1 | (simp [hk1]; done)), rfl, T3.out.D, T3.out.R, (by rw [← HM2.out]; exact OK2.out), T3.out.hb, T3.out.B⟩
              | ((repeat apply Exists.intro); refine ⟨?_, rfl⟩; exact ⟨k + 1, base2, b2, v2, mh2, mg2, d2, by omega, (by first | exact congrArg (Value.int .i64) hk1 | (simp [hk1]; done)), rfl, T3.out.D, T3.out.R, (by rw [← HM2.out]; exact OK2.out), T3.out.hb, T3.out.B⟩)
          case measure => exact meas_t _ _ _ (by first | exact hk1 | (simp; done) | omega) hlt
        · obtain rfl : k = l.length := by omega
          go_wp2_with fail
          go_ret
          exact ⟨rfl, BB.out⟩
end Go.Proofs.YtappgjdnfllblaaDoor
