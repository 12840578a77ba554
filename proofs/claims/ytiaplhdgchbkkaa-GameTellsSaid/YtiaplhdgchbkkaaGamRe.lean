
/- Game: the reference's Solve. -/
import Derived.Test.YtiaplhdgchbkkaaGamRd
set_option linter.unusedSimpArgs false
set_option linter.unusedVariables false
namespace Go.Proofs.Ytiaplhdgchbkkaa
open Go.RowKit Go.IntWalk Go.Shelf

theorem appRowS {F : Fence} {n0 : Nat} {o : Oper} {a : Act} {K : Act → World → Prop} {Q : Exit → Act → World → Prop} (hF : ∀ f, F.fn f) (w : World) (s x : Operand)
    (ho : o.op = .call { callee := .builtin .append, args := #[s, x], argTypes := #[35, 35] })
    (base : Nat) (v : Value) (l : List Row) (hs : a.eval s = v) (hown : OwnR w base v l) (B c : Nat) (y : Row) (hx : a.eval x = .slice (some ⟨B, 0, none⟩) 1 c) (hb : Blk w B 43 #[.int .i64 y.1, .int .i64 y.2.1, .int .i64 y.2.2]) (hlen : l.length ≤ 1000000) (hbase : base ≤ w.heap.size)
    (h : ∀ v' w', OwnR w' base v' (l ++ [y]) → w.grownBy w' v.ownBlock → K (a.put o.dst v') w') : Oper.wpIn F n0 Try.prog o a w K Q := by
  obtain ⟨i0, hi, hz0, hz1, hz2⟩ := info_parts infoRow
  obtain ⟨g, cap, w', hr, h2, h3, _⟩ := run_append_lies (P := Try.prog) w 35 o.type base 43 i0 _ 3 24 Try.underlying35 hi hz0 hz1 hz2 rfl (by omega) v l.length _ hown ⟨B, 0, none⟩ 1 c [.int .i64 y.1, .int .i64 y.2.1, .int .i64 y.2.2] (by simp) (fun j u hu => World.news_of_block (show w.heap[B]? = _ from hb) j u (by simpa using hu)) (by simp [Value.oneCell']) (by omega) (by unfold maxLen; omega) (by omega) hbase _ rfl
  refine uponIn_of_value (v := .slice (some ⟨g, 0, none⟩) (l.length + 1) cap) (w' := w') hF (by rw [ho]; intro c hc; cases hc) ?_ (h _ w' ?_ h3)
  · unfold execOp
    simp only [ho, resolve, invoke, builtin, Sem.run_bind, Sem.run_pure, Result.andThen_ok, List.map_toArray, List.map_cons, List.map_nil, hs, hx, hr]
  · unfold OwnR
    rw [List.length_append, rcs_app]
    exact h2
theorem within_bad {R : List Int} {p : Nat} {tos : List Int} : withinL R tos (R.getD p 0 - 1) = !tos.any (badF R p) := by
  unfold withinL
  rw [Bool.eq_iff_iff, List.all_eq_true, Bool.not_eq_true', List.any_eq_false]
  constructor
  · intro h t ht
    have := h t ht
    simp only [Bool.and_eq_true, decide_eq_true_eq] at this
    have h2 := (badF_iff (R := R) (p := p) (x := t)).2 (by omega)
    simp [h2]
  · intro h t ht
    have h2 := badF_iff.1 (show badF R p t = false by simpa using h t ht)
    simp only [Bool.and_eq_true, decide_eq_true_eq]
    omega
set_option maxRecDepth 100000 in
set_option maxHeartbeats 40000000 in
theorem rsolve_any (Ag Am : Option Addr) (cg cm : Nat) (g : Gm) (w : World) (h : GmR w w.heap.size Ag Am g) (hg : GmOK g) :
    Calls Try.prog 20 #[.agg #[.slice Ag g.1.length cg, .slice Am g.2.length cm]] w fun e w' => ∃ v, e = .returned v ∧ OwnR w' w.heap.size v (solveL g) ∧ Below w.heap.size w w' := by
  obtain ⟨w1, hw1⟩ : ∃ w1, w1 = (w.alloc (Obj.cells #[.slice Ag g.1.length cg, .slice Am g.2.length cm] 25)) := ⟨_, rfl⟩
  have hB1 := hid (show Below w.heap.size w w1 by rw [hw1]; (repeat (first | exact Below.refl _ _ | assumption | refine below_drewN ?_ _ | refine Below.drew ?_ | refine Below.alloc ?_ (by (try simp); (try omega)) _ | refine Below.setCell ?_ (by (try simp); (try omega)) _)))
  have X1 := hid (show Blk w1 w.heap.size 25 #[.slice Ag g.1.length cg, .slice Am g.2.length cm] by rw [hw1]; exact Blk.new _ _ _)
  have HW1 := hid hw1
  have H := hid h
  have HG := hid hg
  have HC := hid (rranks_any Ag Am cg cm g w1 (h.to hB1.out) hg)
  have hs := hg.s
  clear h hg hw1
  have x0 := X1.out.cell 0; have x1 := X1.out.cell 1; have xz := X1.out.lt
  simp at x0 x1
  go_enter Try.func20, Try.ntmps20
  go_upto_region 1 with fail
  rw [← HW1.out]
  go_wp2_with fail
  refine HC.out.mono ?_
  rintro e w2 ⟨v2, rfl, hown, hB2⟩
  obtain ⟨AR, cR, rfl, hlR, hsR, hrn, hr1, hrb⟩ := rank_form HG.out hown
  have hrk := hid (rankL_rk HG.out)
  have hsol := hid (show rowsK g (rankL g) g.1.length = solveL g from rfl)
  have hBw := hid (hB1.out.trans (hB2.mono hB1.out.size))
  have X2 := hid (X1.out.below hB2 X1.out.lt)
  have HS := hid hsR
  have HLR := hid hlR; have HRN := hid hrn; have HRB := hid hrb
  generalize rankL g = R at *
  have hR1 : R.length ≤ 1000 := hr1
  have hRn : (R.length : Int) = g.1.length := by omega
  have HRn := hid hRn
  clear hown hB2 hsR hlR hrn hr1 hrb x0 x1 xz HC X1 hB1 HW1 hRn
  go_wp2_with fail
  go_loopw [4, 5] (fun ov iv wr => ∃ (i : Nat) (v : Value), i ≤ R.length ∧ iv = .int .i64 i ∧ v = ov ∧ OwnR wr w2.heap.size v (rowsK g R i) ∧ Below w2.heap.size w2 wr) (fun _ iv _ => R.length - (intOf iv).toNat)
  case atStart => exact ⟨0, .slice none 0 0, by omega, rfl, rfl, OwnR.nil _ _, Below.refl _ _⟩
  case round =>
    obtain ⟨i, v, hi, rfl, rfl, hown, hB⟩ := hrel
    have HO := hid hown
    have HB := hid hB
    by_cases hlt : i < R.length
    case neg =>
      obtain rfl : i = R.length := by omega
      have hfin := hid (show rowsK g R R.length = solveL g by rw [← hsol.out, HRN.out])
      clear hown hB
      as_aux_lemma =>
        go_wp2_with fail
        go_ret
        refine ⟨_, rfl, ?_, hBw.out.trans (HB.out.mono hBw.out.size)⟩
        rw [← hfin.out]; exact ⟨HO.out.1, HO.out.2.imp id (fun ⟨g, cap, cur, hv, hg, r⟩ => ⟨g, cap, cur, hv, Nat.le_trans hBw.out.size hg, r⟩)⟩
    have hlt' : (i : Int) < R.length := by omega
    have hig : i < g.1.length := by have := HRN.out; omega
    have him : i < g.2.length := by have := HG.out.n; omega
    have him' : (i : Int) < g.2.length := by omega
    have X3 := X2.out.below hB X2.out.lt
    have x0 := X3.cell 0; have x1 := X3.cell 1; have xz := X3.lt
    simp at x0 x1
    obtain ⟨bR, oR, hAR, hbR, hcR, _⟩ := HS.out.int hlt
    have HCR := hid hcR
    replace hcR := (bcell hB bR _ hbR).trans hcR
    have hzR : bR < wr.heap.size := by have := hB.size; omega
    have hL := H.out.mvs.list him
    have hLm := hid (HG.out.m _ (List.getElem_mem him))
    have hLl := HG.out.l _ (List.getElem_mem him)
    have hgm := hid (show g.2.getD i [] = g.2[i] by rw [List.getD, List.getElem?_eq_getElem him]; rfl)
    have hgd := hid (show R.getD i 0 = R[i] by simp [List.getD, hlt])
    have hrb9 := HRB.out _ (List.getElem_mem hlt)
    have hst := hid (rowsK_succ g R i)
    have hlen := hid (rowsK_len g R i)
    have hfirst := hid (fun h1 => hrk.out.first (p := i) hig h1)
    generalize g.2[i] = l at *
    generalize R[i] = r at *
    obtain ⟨bM, oM, A', c', hAM, hbM, hcM, h5, h6, hsM⟩ := hL
    have HCM := hid hcM; have HSM := hid hsM
    have hll : l.length ≤ 1000 := hLl
    subst hAR
    subst hAM
    have HX2 := hid (show ∀ wq, Below w2.heap.size w2 wq → wq.cell? ⟨w.heap.size, 1, none⟩ = some (.slice (some ⟨bM, oM, none⟩) g.2.length cm) ∧ wq.cell? ⟨bM, oM + i, none⟩ = some (.slice A' l.length c') ∧ bM < wq.heap.size ∧ w.heap.size < wq.heap.size ∧ wq.cell? ⟨bR, oR + i, none⟩ = some (.int .i64 r) ∧ bR < wq.heap.size from fun wq hb => by
      have e1 := (X2.out.below hb X2.out.lt).cell 1
      simp at e1
      have hb9 := hBw.out.trans (hb.mono hBw.out.size)
      exact ⟨e1, (bcell hb9 bM _ hbM).trans HCM.out, by have := hb9.size; omega, (X2.out.below hb X2.out.lt).lt, (bcell hb bR _ hbR).trans HCR.out, by have := hb.size; omega⟩)
    have HBz := HB.out.size
    clear hown hB X3 hcM h5 h6 hsM hLl x0
    go_upto_if 19 with fail
    go_cut [4] (fun ov wx => ∃ v : Value, v = ov ∧ OwnR wx w2.heap.size v (if r = 0 then rowsK g R (i + 1) else rowsK g R i) ∧ Below w2.heap.size w2 wx)
    case first =>
      by_cases h0 : r = 0
      · subst h0
        have hrow := hid (hst.out.trans (show _ = rowsK g R i ++ [((i : Int), (-1 : Int), (0 : Int))] by rw [rowF_zero hgd.out]))
        have HO2 := hid (HO.out.below ((Below.refl _ _).alloc (Nat.le_refl _) (Obj.cells #[.int .i64 (i : Int), .int .i64 (-1), .int .i64 0] 43)))
        have hnw := hid (Blk.new wr 43 #[.int .i64 (i : Int), .int .i64 (-1), .int .i64 0])
        clear hst hgd
        as_aux_lemma =>
          go_wp2_with (at_builtin; refine wp_appRow _ rfl (.tmp 20) (.tmp 23) rfl w2.heap.size v (rowsK g R i) rfl HO2.out wr.heap.size 1 ((i : Int), -1, 0) rfl hnw.out (by have := hlen.out; omega) (by simp; omega) ?_; intro v3 w3 ho3 hg3; have HO3 := hid ho3; have HB3 := hid ((HB.out.alloc HB.out.size (Obj.cells #[.int .i64 (i : Int), .int .i64 (-1), .int .i64 0] 43)).grown hg3 (by simp; omega) (fun q e => (World.ownsRow.lt HO2.out q e).1)); clear ho3 hg3)
          go_meet
          exact ⟨v3, rfl, by (first | rw [if_pos rfl] | rw [if_pos trivial]); rw [hrow.out]; exact HO3.out, HB3.out⟩
      · as_aux_lemma =>
          go_wp2_with fail
          go_meet
          exact ⟨v, rfl, by rw [if_neg h0]; exact HO.out, HB.out⟩
    case rest =>
      obtain ⟨v3, rfl, hown, hB⟩ := hcut
      have HO9 := hid hown
      have HB9 := hid hB
      clear HO hown hB x1 xz hcR hzR HB HBz
      go_wp2_with fail
      go_loopw [4, 6] (fun ov jv wq => ∃ k : Nat, k ≤ l.length ∧ jv = .int .i64 k ∧ v3 = ov ∧ OwnR wq w2.heap.size v3 (if r = 0 then rowsK g R (i + 1) else rowsK g R i) ∧ Below w2.heap.size w2 wq ∧ ∀ j, j < k → gdF R i l j = false) (fun _ jv _ => l.length - (intOf jv).toNat)
      case atStart => exact ⟨0, by omega, rfl, rfl, HO9.out, HB9.out, fun j h => by omega⟩
      case round =>
        obtain ⟨k, hk, rfl, hov, hown, hB, hno⟩ := hrel
        subst hov
        have HO := hid hown
        have HB := hid hB
        have HNO := hid hno
        obtain ⟨x1, hcM, hzM, xz, hcR, hzR⟩ := HX2.out wr hB
        by_cases hr0 : 0 < r
        case neg =>
          have hfin := hid (show (if r = 0 then rowsK g R (i + 1) else rowsK g R i) = rowsK g R (i + 1) by
            by_cases h0 : r = 0
            · rw [if_pos h0]
            · rw [if_neg h0, hst.out, rowF_neg hgd.out h0 hr0, List.append_nil])
          clear hown hB hno
          as_aux_lemma =>
            go_wp2_with fail
            all_goals
              go_roundw
              case rel => exact ⟨i + 1, v3, by omega, by go_num, rfl, by rw [← hfin.out]; exact HO.out, HB.out⟩
              case measure => simp [intOf]; omega
        have hrne : ¬ r = 0 := by omega
        obtain ⟨k0, hk0, hfa, hg1, hg2⟩ := hfirst.out (by rw [hgd.out]; omega)
        by_cases hkl : k < l.length
        case neg =>
          exfalso
          rw [hgm.out] at hk0 hg1
          have := hno k0 (by omega)
          rw [hg1] at this; cases this
        have hkl' : (k : Int) < l.length := by omega
        rw [if_neg hrne] at hown
        have HO5 := hid hown
        obtain ⟨hml, _, _, hto⟩ := hLm.out _ (List.getElem_mem hkl)
        obtain ⟨b2, o2, A2, c2, hA2, hb2, m0, m1, h7, h8, hs2, _⟩ := HSM.out.mv hkl
        subst hA2
        have HM0 := hid m0
        have hb9 := hBw.out.trans (hB.mono hBw.out.size)
        replace m0 := (bcell hb9 b2 _ hb2).trans m0
        replace m1 := (bcell hb9 b2 _ hb2).trans m1
        have hz2 : b2 < wr.heap.size := by have := hb9.size; omega
        have hws : IntKind.i64.wrap (r - 1) = r - 1 := IntWalk.i64_in _ (by omega)
        have bdr : Below w2.heap.size w2 wr.drew := hB.drew
        have HM := hid (within_any (some ⟨bR, oR, none⟩) A2 cR c2 R l[k].1 l[k].2 (r - 1) wr.drew HLR.out (Nat.le_trans h7 h8) ((HS.out.below bdr).more bdr.size) ((hs2.below hb9.drew).more hb9.drew.size) (fun t ht => by have := hto t ht; have := HRN.out; omega))
        have hgk : gdF R i l k = withinL R l[k].2 (r - 1) := by
          rw [← hgd.out, within_bad]
          unfold gdF
          rw [show l.getD k (0, []) = l[k] by rw [List.getD, List.getElem?_eq_getElem hkl]; rfl]
        have hrowk := hid (show gdF R i l k = true → rowsK g R (i + 1) = rowsK g R i ++ [((i : Int), l[k].1, r)] from fun hg9 => by
          rw [hgm.out] at hk0 hg1 hg2
          have hk9 : k0 = k := by
            rcases Nat.lt_trichotomy k0 k with hx | hx | hx
            · have := hno k0 hx; rw [hg1] at this; cases this
            · exact hx
            · have := hg2 k hx; rw [hg9] at this; cases this
          subst hk9
          have e2 : firstA g R i = l[k0].1 := by rw [hfa]; simp only [hgm.out]
          rw [hst.out, rowF_pos hgd.out hr0 e2])
        clear hno hown hk0 hfa hg1 hg2 hs2 h7 h8 hto hml hB hb9 bdr
        generalize l[k] = m at *
        obtain ⟨act, tos⟩ := m
        simp only at m0 m1 HM hgk hrowk HM0
        go_upto_region 11 with fail
        refine wpIn_wide.1 (wpIn_region_S (n := 0) (fun w' => w'.cell? ⟨w.heap.size, 1, none⟩ = some (.slice (some ⟨bM, oM, none⟩) g.2.length cm) ∧ w'.cell? ⟨bM, oM + i, none⟩ = some (.slice (some ⟨b2, o2, none⟩) l.length c') ∧ w'.cell? ⟨b2, o2 + k * 2, none⟩ = some (.int .i64 act) ∧ w'.cell? ⟨b2, o2 + k * 2 + 1, none⟩ = some (.slice A2 tos.length c2) ∧ w'.cell? ⟨bR, oR + i, none⟩ = some (.int .i64 r)) [14] (by kernel_rfl) ⟨x1, hcM, m0, m1, hcR⟩ (fun hHeld => ?_))
        refine wpAnyS_pure 0 (v := ?_) (fun _ => trivial) (by simp only [List.getElem?_toArray, List.getElem?_cons_succ, List.getElem?_cons_zero]; rfl) (by kernel_rfl) (fun _ _ _ _ _ h => h) ⟨rfl, (by intro c h; cases h), ?_⟩ hHeld ?_
        rotate_left
        focus (intro wS hSw; (try dsimp only at hSw); go_simp; (try with_reducible rfl))
        (try simp only [Act.put, List.setIfInBounds_toArray, List.set_cons_zero, List.set_cons_succ])
        refine wpAnyS_pure 1 (v := ?_) (fun _ => trivial) (by simp only [List.getElem?_toArray, List.getElem?_cons_succ, List.getElem?_cons_zero]; rfl) (by kernel_rfl) (fun _ _ _ _ _ h => h) ⟨rfl, (by intro c h; cases h), ?_⟩ hHeld ?_
        rotate_left
        focus (intro wS hSw; (try dsimp only at hSw); go_simp; (try with_reducible rfl))
        (try simp only [Act.put, List.setIfInBounds_toArray, List.set_cons_zero, List.set_cons_succ])
        refine wpAnyS_take 2 (v := ?_) (fun _ => trivial) (by simp only [List.getElem?_toArray, List.getElem?_cons_succ, List.getElem?_cons_zero]; rfl) (by kernel_rfl) (fun _ _ _ _ _ h => h) ⟨rfl, (by intro c h; cases h), ?_⟩ hHeld ?_
        rotate_left
        focus (intro wS hSw; (try dsimp only at hSw); go_simp; (try with_reducible rfl))
        (try simp only [Act.put, List.setIfInBounds_toArray, List.set_cons_zero, List.set_cons_succ])
        refine wpAnyS_pure 3 (v := ?_) (fun _ => trivial) (by simp only [List.getElem?_toArray, List.getElem?_cons_succ, List.getElem?_cons_zero]; rfl) (by kernel_rfl) (fun _ _ _ _ _ h => h) ⟨rfl, (by intro c h; cases h), ?_⟩ hHeld ?_
        rotate_left
        focus (intro wS hSw; (try dsimp only at hSw); go_simp; (try with_reducible rfl))
        (try simp only [Act.put, List.setIfInBounds_toArray, List.set_cons_zero, List.set_cons_succ])
        refine wpAnyS_pure 4 (v := ?_) (fun _ => trivial) (by simp only [List.getElem?_toArray, List.getElem?_cons_succ, List.getElem?_cons_zero]; rfl) (by kernel_rfl) (fun _ _ _ _ _ h => h) ⟨rfl, (by intro c h; cases h), ?_⟩ hHeld ?_
        rotate_left
        focus (intro wS hSw; (try dsimp only at hSw); go_simp; (try with_reducible rfl))
        (try simp only [Act.put, List.setIfInBounds_toArray, List.set_cons_zero, List.set_cons_succ])
        refine wpAnyS_take 5 (v := ?_) (fun _ => trivial) (by simp only [List.getElem?_toArray, List.getElem?_cons_succ, List.getElem?_cons_zero]; rfl) (by kernel_rfl) (fun _ _ _ _ _ h => h) ⟨rfl, (by intro c h; cases h), ?_⟩ hHeld ?_
        rotate_left
        focus (intro wS hSw; (try dsimp only at hSw); go_simp; (try with_reducible rfl))
        (try simp only [Act.put, List.setIfInBounds_toArray, List.set_cons_zero, List.set_cons_succ])
        refine wpAnyS_pure 6 (v := ?_) (fun _ => trivial) (by simp only [List.getElem?_toArray, List.getElem?_cons_succ, List.getElem?_cons_zero]; rfl) (by kernel_rfl) (fun _ _ _ _ _ h => h) ⟨rfl, (by intro c h; cases h), ?_⟩ hHeld ?_
        rotate_left
        focus (intro wS hSw; (try dsimp only at hSw); go_simp; (try with_reducible rfl))
        (try simp only [Act.put, List.setIfInBounds_toArray, List.set_cons_zero, List.set_cons_succ])
        refine wpAnyS_pure 7 (v := ?_) (fun _ => trivial) (by simp only [List.getElem?_toArray, List.getElem?_cons_succ, List.getElem?_cons_zero]; rfl) (by kernel_rfl) (fun _ _ _ _ _ h => h) ⟨rfl, (by intro c h; cases h), ?_⟩ hHeld ?_
        rotate_left
        focus (intro wS hSw; (try dsimp only at hSw); go_simp; (try with_reducible rfl))
        (try simp only [Act.put, List.setIfInBounds_toArray, List.set_cons_zero, List.set_cons_succ])
        refine wpAnyS_take 8 (v := ?_) (fun _ => trivial) (by simp only [List.getElem?_toArray, List.getElem?_cons_succ, List.getElem?_cons_zero]; rfl) (by kernel_rfl) (fun _ _ _ _ _ h => h) ⟨rfl, (by intro c h; cases h), ?_⟩ hHeld ?_
        rotate_left
        focus (intro wS hSw; (try dsimp only at hSw); go_simp; (try with_reducible rfl))
        (try simp only [Act.put, List.setIfInBounds_toArray, List.set_cons_zero, List.set_cons_succ])
        refine wpAnyS_pure 9 (v := ?_) (fun _ => trivial) (by simp only [List.getElem?_toArray, List.getElem?_cons_succ, List.getElem?_cons_zero]; rfl) (by kernel_rfl) (fun _ _ _ _ _ h => h) ⟨rfl, (by intro c h; cases h), ?_⟩ hHeld ?_
        rotate_left
        focus (intro wS hSw; (try dsimp only at hSw); go_simp; (try with_reducible rfl))
        (try simp only [Act.put, List.setIfInBounds_toArray, List.set_cons_zero, List.set_cons_succ])
        refine wpAnyS_pure 10 (v := ?_) (fun _ => trivial) (by simp only [List.getElem?_toArray, List.getElem?_cons_succ, List.getElem?_cons_zero]; rfl) (by kernel_rfl) (fun _ _ _ _ _ h => h) ⟨rfl, (by intro c h; cases h), ?_⟩ hHeld ?_
        rotate_left
        focus (intro wS hSw; (try dsimp only at hSw); go_simp; (try with_reducible rfl))
        (try simp only [Act.put, List.setIfInBounds_toArray, List.set_cons_zero, List.set_cons_succ])
        refine wpAnyS_pure 11 (v := ?_) (fun _ => trivial) (by simp only [List.getElem?_toArray, List.getElem?_cons_succ, List.getElem?_cons_zero]; rfl) (by kernel_rfl) (fun _ _ _ _ _ h => h) ⟨rfl, (by intro c h; cases h), ?_⟩ hHeld ?_
        rotate_left
        focus (intro wS hSw; (try dsimp only at hSw); go_simp; (try with_reducible rfl))
        (try simp only [Act.put, List.setIfInBounds_toArray, List.set_cons_zero, List.set_cons_succ])
        refine wpAnyS_take 12 (v := ?_) (fun _ => trivial) (by simp only [List.getElem?_toArray, List.getElem?_cons_succ, List.getElem?_cons_zero]; rfl) (by kernel_rfl) (fun _ _ _ _ _ h => h) ⟨rfl, (by intro c h; cases h), ?_⟩ hHeld ?_
        rotate_left
        focus (intro wS hSw; (try dsimp only at hSw); go_simp; (try with_reducible rfl))
        (try simp only [Act.put, List.setIfInBounds_toArray, List.set_cons_zero, List.set_cons_succ])
        refine wpAnyS_pure 13 (v := ?_) (fun _ => trivial) (by simp only [List.getElem?_toArray, List.getElem?_cons_succ, List.getElem?_cons_zero]; rfl) (by kernel_rfl) (fun _ _ _ _ _ h => h) ⟨rfl, (by intro c h; cases h), ?_⟩ hHeld ?_
        rotate_left
        focus (intro wS hSw; (try dsimp only at hSw); go_simp; (try with_reducible rfl))
        (try simp only [Act.put, List.setIfInBounds_toArray, List.set_cons_zero, List.set_cons_succ])
        refine wpAnyS_ready [14] (by kernel_rfl) (by simp) (AllReadyS.consL (by simp only [List.getElem?_toArray, List.getElem?_cons_succ, List.getElem?_cons_zero]; rfl) rfl (by kernel_rfl) (fun K hK => ?_) AllReadyS.nil)
        refine callS (by intro c h; cases h) (by go_simp; try with_reducible rfl) HM.out ?_
        intro w8 hB8
        refine hK.out _ _ ?_
        refine wpAnyS_done (by kernel_rfl) ?_
        (try simp only [Act.put, List.setIfInBounds_toArray, List.set_cons_zero, List.set_cons_succ])
        have b8 : Below wr.heap.size wr w8 := (Below.refl wr.heap.size wr).drew.trans hB8
        have HB8 := hid (HB.out.trans (b8.mono HB.out.size))
        have HO8 := hid (HO5.out.below b8)
        clear hK K hHeld HM hB8 b8 m0 m1 x1 hcM hcR hzM hzR xz hz2
        cases hwi : withinL R tos (r - 1) with
        | false =>
          rw [hwi] at hgk
          have hno9 := hid (IxR.step HNO.out hgk)
          clear hwi hgk
          as_aux_lemma =>
            go_wp2_with fail
            go_roundw
            case rel => exact ⟨k + 1, by omega, by go_num, rfl, by rw [if_neg hrne]; exact HO8.out, HB8.out, hno9.out⟩
            case measure => simp [intOf]; omega
        | true =>
          rw [hwi] at hgk
          have hrow := hid (hrowk.out hgk)
          clear hwi hgk hrowk
          obtain ⟨x1, hcM, hzM, xz, hcR, hzR⟩ := HX2.out w8 HB8.out
          have hb9 := hBw.out.trans (HB8.out.mono hBw.out.size)
          have m0 := (bcell hb9 b2 _ hb2).trans HM0.out
          have hz2 : b2 < w8.heap.size := by have := hb9.size; omega
          have HO9 := hid (HO8.out.below ((Below.refl w8.heap.size w8).drew.alloc (Nat.le_refl _) (Obj.cells #[.int .i64 (i : Int), .int .i64 act, .int .i64 r] 43)))
          have hnw := hid (Blk.new w8.drew 43 #[.int .i64 (i : Int), .int .i64 act, .int .i64 r])
          have hzz : w2.heap.size ≤ w8.heap.size := HB8.out.size
          have e0 := x1; have e1 := hcM; have e2 := m0; have e3 := hcR
          clear hb9
          go_upto_region 12 with fail
          refine wpIn_wide.1 (wpIn_region_S (n := 0) (fun w' => w'.cell? ⟨w.heap.size, 1, none⟩ = some (.slice (some ⟨bM, oM, none⟩) g.2.length cm) ∧ w'.cell? ⟨bM, oM + i, none⟩ = some (.slice (some ⟨b2, o2, none⟩) l.length c') ∧ w'.cell? ⟨b2, o2 + k * 2, none⟩ = some (.int .i64 act) ∧ w'.cell? ⟨bR, oR + i, none⟩ = some (.int .i64 r)) [16] (by kernel_rfl) ⟨e0, e1, e2, e3⟩ (fun hHeld => ?_))
          refine wpAnyS_pure 0 (v := ?_) (fun _ => trivial) (by simp only [List.getElem?_toArray, List.getElem?_cons_succ, List.getElem?_cons_zero]; rfl) (by kernel_rfl) (fun _ _ _ _ _ h => h) ⟨rfl, (by intro c h; cases h), ?_⟩ hHeld ?_
          rotate_left
          focus (intro wS hSw; (try dsimp only at hSw); go_simp; (try with_reducible rfl))
          (try simp only [Act.put, List.setIfInBounds_toArray, List.set_cons_zero, List.set_cons_succ])
          refine wpAnyS_pure 1 (v := ?_) (fun _ => trivial) (by simp only [List.getElem?_toArray, List.getElem?_cons_succ, List.getElem?_cons_zero]; rfl) (by kernel_rfl) (fun _ _ _ _ _ h => h) ⟨rfl, (by intro c h; cases h), ?_⟩ hHeld ?_
          rotate_left
          focus (intro wS hSw; (try dsimp only at hSw); go_simp; (try with_reducible rfl))
          (try simp only [Act.put, List.setIfInBounds_toArray, List.set_cons_zero, List.set_cons_succ])
          refine wpAnyS_pure 2 (v := ?_) (fun _ => trivial) (by simp only [List.getElem?_toArray, List.getElem?_cons_succ, List.getElem?_cons_zero]; rfl) (by kernel_rfl) (fun _ _ _ _ _ h => h) ⟨rfl, (by intro c h; cases h), ?_⟩ hHeld ?_
          rotate_left
          focus (intro wS hSw; (try dsimp only at hSw); go_simp; (try with_reducible rfl))
          (try simp only [Act.put, List.setIfInBounds_toArray, List.set_cons_zero, List.set_cons_succ])
          refine wpAnyS_take 3 (v := ?_) (fun _ => trivial) (by simp only [List.getElem?_toArray, List.getElem?_cons_succ, List.getElem?_cons_zero]; rfl) (by kernel_rfl) (fun _ _ _ _ _ h => h) ⟨rfl, (by intro c h; cases h), ?_⟩ hHeld ?_
          rotate_left
          focus (intro wS hSw; (try dsimp only at hSw); go_simp; (try with_reducible rfl))
          (try simp only [Act.put, List.setIfInBounds_toArray, List.set_cons_zero, List.set_cons_succ])
          refine wpAnyS_pure 4 (v := ?_) (fun _ => trivial) (by simp only [List.getElem?_toArray, List.getElem?_cons_succ, List.getElem?_cons_zero]; rfl) (by kernel_rfl) (fun _ _ _ _ _ h => h) ⟨rfl, (by intro c h; cases h), ?_⟩ hHeld ?_
          rotate_left
          focus (intro wS hSw; (try dsimp only at hSw); go_simp; (try with_reducible rfl))
          (try simp only [Act.put, List.setIfInBounds_toArray, List.set_cons_zero, List.set_cons_succ])
          refine wpAnyS_pure 5 (v := ?_) (fun _ => trivial) (by simp only [List.getElem?_toArray, List.getElem?_cons_succ, List.getElem?_cons_zero]; rfl) (by kernel_rfl) (fun _ _ _ _ _ h => h) ⟨rfl, (by intro c h; cases h), ?_⟩ hHeld ?_
          rotate_left
          focus (intro wS hSw; (try dsimp only at hSw); go_simp; (try with_reducible rfl))
          (try simp only [Act.put, List.setIfInBounds_toArray, List.set_cons_zero, List.set_cons_succ])
          refine wpAnyS_take 6 (v := ?_) (fun _ => trivial) (by simp only [List.getElem?_toArray, List.getElem?_cons_succ, List.getElem?_cons_zero]; rfl) (by kernel_rfl) (fun _ _ _ _ _ h => h) ⟨rfl, (by intro c h; cases h), ?_⟩ hHeld ?_
          rotate_left
          focus (intro wS hSw; (try dsimp only at hSw); go_simp; (try with_reducible rfl))
          (try simp only [Act.put, List.setIfInBounds_toArray, List.set_cons_zero, List.set_cons_succ])
          refine wpAnyS_pure 7 (v := ?_) (fun _ => trivial) (by simp only [List.getElem?_toArray, List.getElem?_cons_succ, List.getElem?_cons_zero]; rfl) (by kernel_rfl) (fun _ _ _ _ _ h => h) ⟨rfl, (by intro c h; cases h), ?_⟩ hHeld ?_
          rotate_left
          focus (intro wS hSw; (try dsimp only at hSw); go_simp; (try with_reducible rfl))
          (try simp only [Act.put, List.setIfInBounds_toArray, List.set_cons_zero, List.set_cons_succ])
          refine wpAnyS_pure 8 (v := ?_) (fun _ => trivial) (by simp only [List.getElem?_toArray, List.getElem?_cons_succ, List.getElem?_cons_zero]; rfl) (by kernel_rfl) (fun _ _ _ _ _ h => h) ⟨rfl, (by intro c h; cases h), ?_⟩ hHeld ?_
          rotate_left
          focus (intro wS hSw; (try dsimp only at hSw); go_simp; (try with_reducible rfl))
          (try simp only [Act.put, List.setIfInBounds_toArray, List.set_cons_zero, List.set_cons_succ])
          refine wpAnyS_pure 9 (v := ?_) (fun _ => trivial) (by simp only [List.getElem?_toArray, List.getElem?_cons_succ, List.getElem?_cons_zero]; rfl) (by kernel_rfl) (fun _ _ _ _ _ h => h) ⟨rfl, (by intro c h; cases h), ?_⟩ hHeld ?_
          rotate_left
          focus (intro wS hSw; (try dsimp only at hSw); go_simp; (try with_reducible rfl))
          (try simp only [Act.put, List.setIfInBounds_toArray, List.set_cons_zero, List.set_cons_succ])
          refine wpAnyS_take 10 (v := ?_) (fun _ => trivial) (by simp only [List.getElem?_toArray, List.getElem?_cons_succ, List.getElem?_cons_zero]; rfl) (by kernel_rfl) (fun _ _ _ _ _ h => h) ⟨rfl, (by intro c h; cases h), ?_⟩ hHeld ?_
          rotate_left
          focus (intro wS hSw; (try dsimp only at hSw); go_simp; (try with_reducible rfl))
          (try simp only [Act.put, List.setIfInBounds_toArray, List.set_cons_zero, List.set_cons_succ])
          refine wpAnyS_pure 11 (v := ?_) (fun _ => trivial) (by simp only [List.getElem?_toArray, List.getElem?_cons_succ, List.getElem?_cons_zero]; rfl) (by kernel_rfl) (fun _ _ _ _ _ h => h) ⟨rfl, (by intro c h; cases h), ?_⟩ hHeld ?_
          rotate_left
          focus (intro wS hSw; (try dsimp only at hSw); go_simp; (try with_reducible rfl))
          (try simp only [Act.put, List.setIfInBounds_toArray, List.set_cons_zero, List.set_cons_succ])
          refine wpAnyS_pure 12 (v := ?_) (fun _ => trivial) (by simp only [List.getElem?_toArray, List.getElem?_cons_succ, List.getElem?_cons_zero]; rfl) (by kernel_rfl) (fun _ _ _ _ _ h => h) ⟨rfl, (by intro c h; cases h), ?_⟩ hHeld ?_
          rotate_left
          focus (intro wS hSw; (try dsimp only at hSw); go_simp; (try with_reducible rfl))
          (try simp only [Act.put, List.setIfInBounds_toArray, List.set_cons_zero, List.set_cons_succ])
          refine wpAnyS_pure 13 (v := ?_) (fun _ => trivial) (by simp only [List.getElem?_toArray, List.getElem?_cons_succ, List.getElem?_cons_zero]; rfl) (by kernel_rfl) (fun _ _ _ _ _ h => h) ⟨rfl, (by intro c h; cases h), ?_⟩ hHeld ?_
          rotate_left
          focus (intro wS hSw; (try dsimp only at hSw); go_simp; (try with_reducible rfl))
          (try simp only [Act.put, List.setIfInBounds_toArray, List.set_cons_zero, List.set_cons_succ])
          refine wpAnyS_take 14 (v := ?_) (fun _ => trivial) (by simp only [List.getElem?_toArray, List.getElem?_cons_succ, List.getElem?_cons_zero]; rfl) (by kernel_rfl) (fun _ _ _ _ _ h => h) ⟨rfl, (by intro c h; cases h), ?_⟩ hHeld ?_
          rotate_left
          focus (intro wS hSw; (try dsimp only at hSw); go_simp; (try with_reducible rfl))
          (try simp only [Act.put, List.setIfInBounds_toArray, List.set_cons_zero, List.set_cons_succ])
          refine wpAnyS_pure 15 (v := ?_) (fun _ => trivial) (by simp only [List.getElem?_toArray, List.getElem?_cons_succ, List.getElem?_cons_zero]; rfl) (by kernel_rfl) (fun _ _ _ _ _ h => h) ⟨rfl, (by intro c h; cases h), ?_⟩ hHeld ?_
          rotate_left
          focus (intro wS hSw; (try dsimp only at hSw); go_simp; (try with_reducible rfl))
          (try simp only [Act.put, List.setIfInBounds_toArray, List.set_cons_zero, List.set_cons_succ])
          refine wpAnyS_ready [16] (by kernel_rfl) (by simp) (AllReadyS.consL (by simp only [List.getElem?_toArray, List.getElem?_cons_succ, List.getElem?_cons_zero]; rfl) rfl (by kernel_rfl) (fun K hK => ?_) AllReadyS.nil)
          go_simp
          refine hK.out _ _ ?_
          clear hK K hHeld
          refine wpAnyS_ready [17] (by kernel_rfl) (by simp) (AllReadyS.consL (by simp only [List.getElem?_toArray, List.getElem?_cons_succ, List.getElem?_cons_zero]; rfl) rfl (by kernel_rfl) (fun K hK => ?_) AllReadyS.nil)
          refine appRowS (fun _ => trivial) _ (.tmp 57) (.tmp 73) rfl w2.heap.size v3 (rowsK g R i) rfl HO9.out w8.heap.size 1 ((i : Int), act, r) rfl hnw.out (by have := hlen.out; omega) (by (try simp); omega) ?_
          intro v4 w9 ho4 hg4
          have HO4 := hid ho4
          have HB4 := hid ((HB8.out.drew.alloc (show w2.heap.size ≤ w8.drew.heap.size from hzz) (Obj.cells #[.int .i64 (i : Int), .int .i64 act, .int .i64 r] 43)).grown hg4 (by (try simp); omega) (fun q e => (World.ownsRow.lt HO9.out q e).1))
          clear ho4 hg4
          refine hK.out _ _ ?_
          (try simp only [Act.put, List.setIfInBounds_toArray, List.set_cons_zero, List.set_cons_succ])
          refine wpAnyS_pureL 18 (v := ?_) (fun _ => trivial) (by simp only [List.getElem?_toArray, List.getElem?_cons_succ, List.getElem?_cons_zero]; rfl) (by kernel_rfl) (by kernel_rfl) (fun _ _ _ _ _ h => h) ⟨rfl, (by intro c h; cases h), ?_⟩ ?_
          rotate_left
          focus (intro wS hSw; (try dsimp only at hSw); go_simp; (try with_reducible rfl))
          (try simp only [Act.put, List.setIfInBounds_toArray, List.set_cons_zero, List.set_cons_succ])
          refine wpAnyS_done (by kernel_rfl) ?_
          clear hK K x1 hcM m0 hcR e0 e1 e2 e3
          go_wp2_with fail
          go_roundw
          case rel => exact ⟨i + 1, v4, by omega, by go_num, rfl, by rw [hrow.out]; exact HO4.out, HB4.out⟩
          case measure => simp [intOf]; omega
end Go.Proofs.Ytiaplhdgchbkkaa
