
/- Table: Follow. -/
import Derived.Test.YtfpehakllnkaeaaDoorTabD
set_option linter.unusedSimpArgs false
set_option linter.unusedVariables false
namespace Go.Proofs.YtfpehakllnkaeaaDoor
open Go.RowKit Go.IntWalk Go.Shelf

theorem folF_step {g : Gm} {rows : List Row} {p q a : Int} {r : List Int} (h : stepF g rows p a = some q) : folF g rows p (a :: r) = q :: folF g rows q r := by simp only [folF, h]
theorem folF_stop {g : Gm} {rows : List Row} {p a : Int} {r : List Int} (h : stepF g rows p a = none) : folF g rows p (a :: r) = [] := by simp only [folF, h]
theorem own_one_int (w : World) (q : Int) : OwnI (w.alloc (Obj.cells #[.int .i64 q] 3)) w.heap.size (.slice (some ⟨w.heap.size, 0, none⟩) 1 1) [q] :=
  ⟨by simp, .inr ⟨w.heap.size, 1, #[.int .i64 q], rfl, Nat.le_refl _, Blk.new w _ _, Nat.le_refl _, by unfold maxLen; omega, by simp, by simp⟩⟩
set_option maxRecDepth 100000 in
set_option maxHeartbeats 4000000 in
theorem follow_any (Ag Am B D : Option Addr) (cg cm c d : Nat) (g : Gm) (rows : List Row) (p : Int) (ans : List Int) (w : World) (h : GmR w w.heap.size Ag Am g) (hr : rightL g = true) (hg : GmOK g) (hl : rows.length ≤ 1000000) (ha : Asc kP rows) (h1 : SlR w w.heap.size B rows) (hla : ans.length ≤ 1000) (h2 : SlR w w.heap.size D ans) :
    Calls Tryd.prog 40 #[.agg #[.slice Ag g.1.length cg, .slice Am g.2.length cm], .slice B rows.length c, .int .i64 p, .slice D ans.length d] w fun e w' => ∃ v, e = .returned v ∧ OwnI w' w.heap.size v (folL g rows p ans) ∧ Below w.heap.size w w' := by
  obtain ⟨w1, hw1⟩ : ∃ w1, w1 = w.alloc (Obj.cells #[.slice Ag g.1.length cg, .slice Am g.2.length cm] 84) := ⟨_, rfl⟩
  have B1 := hid (show Below w.heap.size w w1 by rw [hw1]; (repeat (first | exact Below.refl _ _ | assumption | refine below_drewN ?_ _ | refine Below.drew ?_ | refine Below.alloc ?_ (by (try simp); (try omega)) _ | refine Below.setCell ?_ (by (try simp); (try omega)) _)))
  have X1 := hid (show Blk w1 w.heap.size 84 #[.slice Ag g.1.length cg, .slice Am g.2.length cm] by rw [hw1]; exact Blk.new w _ _)
  have H := hid h
  have HR := hid h1; have HD := hid h2
  have HIS := hid (is_any Ag Am cg cm g p)
  have HMV := hid (fun (q a : Int) (W : World) (hW : Below w.heap.size w W) => tmove_any Ag Am cg cm g q a W (h.to hW) hr hg)
  have HRW := hid (fun (t : Int) (W : World) (hW : Below w.heap.size w W) => trow_any B c rows t W hl ha ((h1.below hW).more hW.size))
  have HNE := hid (fun (p : Nat) (m : Mv) (hm : m ∈ g.2.getD p []) => mvs_ne hr hm)
  have HML := hid (show ∀ (p : Int) (a : Int) (m : Mv), tMove g p a = some m → m.2.length ≤ 1000 from fun p a m hm => by
    obtain ⟨hp, hmm, -⟩ := tMove_mem hm
    have hp := isP_iff.1 hp
    have hpn : p.toNat < g.2.length := by have := hg.n; omega
    rw [show g.2.getD p.toNat [] = g.2[p.toNat] by simp [hpn]] at hmm
    exact (hg.m _ (List.getElem_mem hpn) m hmm).1)
  have HFL := hid (show folL g rows p ans = if isP g p then p :: folF g rows p ans else [] from rfl)
  clear h h1 h2 hr hg ha
  generalize folL g rows p ans = res at *
  go_enter Tryd.func40, Tryd.ntmps40
  go_upto_region 1 with fail
  rw [← hw1]
  clear hw1
  have x0 := X1.out.cell 0; have x1 := X1.out.cell 1; have xz := X1.out.lt
  simp at x0 x1
  go_wp2_with fail
  refine (HIS.out _).mono ?_
  rintro e w2 ⟨rfl, hB⟩
  have B2 := hid (B1.out.trans (hB.mono B1.out.size))
  have X2 := hid (X1.out.below hB X1.out.lt)
  clear hB HIS X1 B1 x0 x1 xz
  cases hp : isP g p with
  | false =>
    have hf := hid (show res = [] by rw [HFL.out, hp]; rfl)
    clear HFL hp
    as_aux_lemma =>
      go_wp2_with fail
      go_ret
      exact ⟨_, rfl, by rw [hf.out]; exact OwnI.nil _ _, B2.out⟩
  | true =>
  rw [hp] at HFL
  simp only [if_true] at HFL
  have HP := hid hp
  clear hp
  have O3 := hid (show OwnI (w2.alloc (Obj.cells #[.int .i64 p] 3)) w.heap.size (.slice (some ⟨w2.heap.size, 0, none⟩) 1 1) [p] from own_base (own_one_int w2 p) B2.out.size)
  have B3 := hid (B2.out.alloc B2.out.size (Obj.cells #[.int .i64 p] 3))
  have X3 := hid (X2.out.alloc (Obj.cells #[.int .i64 p] 3))
  go_upto_region 5 with fail
  generalize (w2.alloc (Obj.cells #[.int .i64 p] 3)) = w3 at *
  generalize (Value.slice (some ⟨w2.heap.size, 0, none⟩) 1 1) = v3 at *
  go_loopw [2, 9, 11, 12, 13, 14, 15, 24] (fun pv ov _ _ _ _ _ iv wr => ∃ (i : Nat) (q : Int) (done : List Int), i ≤ ans.length ∧ iv = .int .i64 i ∧ pv = .int .i64 q ∧ isP g q = true ∧ res = done ++ folF g rows q (ans.drop i) ∧ done.length = i + 1 ∧ OwnI wr w.heap.size ov done ∧ Below w.heap.size w wr ∧ Blk wr w.heap.size 84 #[.slice Ag g.1.length cg, .slice Am g.2.length cm]) (fun _ _ _ _ _ _ _ iv _ => ans.length - (intOf iv).toNat)
  case atStart => exact ⟨0, p, [p], by omega, rfl, rfl, HP.out, by rw [HFL.out]; rfl, rfl, O3.out, B3.out, X3.out⟩
  case round =>
    clear O3 B3 X3
    obtain ⟨i, q, done, hi, rfl, rfl, hq, hres, hdl, ho, hB, hX⟩ := hrel
    have HRES := hid hres; have HO := hid ho; have BR := hid hB; have XR := hid hX; have HDL := hid hdl
    clear hres ho hB hX HFL hdl
    by_cases hil : i < ans.length
    case neg =>
      have hf := hid (show res = done by rw [HRES.out, List.drop_of_length_le (by omega)]; simp [folF])
      as_aux_lemma =>
        go_wp2_with fail
        go_ret
        exact ⟨_, rfl, by rw [hf.out]; exact HO.out, BR.out⟩
    have hilI : (i : Int) < ans.length := by omega
    obtain ⟨ab, ao, rfl, haz, hac, -⟩ := HD.out.int hil
    replace hac := (bcell BR.out ab _ haz).trans hac
    have haz2 : ab < wr.heap.size := by have := BR.out.size; omega
    have HDR := hid (List.drop_eq_getElem_cons hil)
    rw [HDR.out] at HRES
    generalize ans[i] = a at *
    have HST := hid (fun (q2 : Int) (h : stepF g rows q a = some q2) => HRES.out.trans (by rw [folF_step h]))
    have HSP := hid (fun (h : stepF g rows q a = none) => show res = done from HRES.out.trans (by rw [folF_stop h, List.append_nil]))
    have hqb := isP_iff.1 hq
    obtain ⟨qn, rfl⟩ := Int.eq_ofNat_of_zero_le hqb.1
    have hqn : qn < g.1.length := by omega
    have hqI : (qn : Int) < g.1.length := by omega
    have e1 : g.1.getD (qn : Int).toNat false = g.1[qn] := by simp [hqn]
    have HSF := hid (show stepF g rows (qn : Int) a = match tRow rows (qn : Int) with | none => none | some r => if g.1[qn] || decide (r.2.2 < 1) then none else match tMove g (qn : Int) r.2.1 with | none => none | some m => some (m.2.getD (idxT m.2.length a) 0) by rw [← e1]; rfl)
    generalize stepF g rows (qn : Int) a = stp at *
    obtain ⟨gb, go_, rfl, hgz, hgc⟩ := H.out.goal.bool hqn
    have HGC := hid hgc
    clear hq hqb HDR HRES HP e1 hgc
    have HC := hid (HRW.out (qn : Int) wr BR.out)
    go_wp2_with fail
    refine HC.out.mono ?_
    rintro e w5 ⟨hrr, hB⟩
    have B5 := hid (BR.out.trans (hB.mono BR.out.size))
    have X5 := hid (XR.out.below hB XR.out.lt)
    have O5 := hid (show OwnI w5 w.heap.size _ done from HO.out.below hB)
    clear hB HC BR XR HO hac haz2
    rcases hrr with ⟨x, hx, hxm, rfl⟩ | ⟨hx, rfl⟩
    case inr =>
      have hf := hid (HSP.out (by rw [HSF.out, hx]))
      have B6 := hid (B5.out.alloc B5.out.size (Obj.cells #[.int .i64 0, .int .i64 0, .int .i64 0] 87))
      have O6 := hid (show OwnI (w5.alloc (Obj.cells #[.int .i64 0, .int .i64 0, .int .i64 0] 87)) w.heap.size _ done from O5.out.below ((Below.refl _ _).alloc (Nat.le_refl _) _))
      clear HST HSP HSF hx O5 X5
      as_aux_lemma =>
        go_wp2_with fail
        go_ret
        exact ⟨_, rfl, by rw [hf.out]; exact O6.out, B6.out⟩
    rw [hx] at HSF
    simp only at HSF
    obtain ⟨x0, x1, x2⟩ := x
    simp only at HSF
    clear hx hxm
    obtain ⟨w6, hw6⟩ : ∃ w6, w6 = w5.alloc (Obj.cells #[.int .i64 x0, .int .i64 x1, .int .i64 x2] 87) := ⟨_, rfl⟩
    have b6 := hid (show Below w5.heap.size w5 w6 by rw [hw6]; (repeat (first | exact Below.refl _ _ | assumption | refine below_drewN ?_ _ | refine Below.drew ?_ | refine Below.alloc ?_ (by (try simp); (try omega)) _ | refine Below.setCell ?_ (by (try simp); (try omega)) _)))
    have Y6 := hid (show Blk w6 w5.heap.size 87 #[.int .i64 x0, .int .i64 x1, .int .i64 x2] by rw [hw6]; exact Blk.new w5 _ _)
    have B6 := hid (B5.out.trans (b6.out.mono B5.out.size))
    have X6 := hid (X5.out.below b6.out X5.out.lt)
    have O6 := hid (show OwnI w6 w.heap.size _ done from O5.out.below b6.out)
    have HGT := hid (HGC.out)
    have hgc := (bcell B6.out gb _ hgz).trans HGC.out
    have hgz2 : gb < w6.heap.size := by have := B6.out.size; omega
    go_upto_region 8 with fail
    rw [← hw6]
    clear hw6 O5 X5 b6 B5
    have x0' := X6.out.cell 0; have x1' := X6.out.cell 1; have xz := X6.out.lt
    have y0 := Y6.out.cell 0; have y1 := Y6.out.cell 1; have y2 := Y6.out.cell 2; have yz := Y6.out.lt
    simp at x0' x1' y0 y1 y2
    generalize w5.heap.size = yb at *
    generalize g.1[qn] = gl at *
    cases gl with
    | true =>
      have hf := hid (HSP.out (by rw [HSF.out]; rfl))
      clear HST HSP HSF
      as_aux_lemma =>
        go_wp2_with fail
        go_ret
        exact ⟨_, rfl, by rw [hf.out]; exact O6.out, B6.out⟩
    | false =>
    by_cases hx2 : x2 < 1
    · have hf := hid (HSP.out (by rw [HSF.out, show decide (x2 < 1) = true from decide_eq_true hx2]; rfl))
      clear HST HSP HSF
      as_aux_lemma =>
        go_wp2_with fail
        go_ret
        exact ⟨_, rfl, by rw [hf.out]; exact O6.out, B6.out⟩
    rw [show decide (x2 < 1) = false from decide_eq_false hx2] at HSF
    simp only [Bool.or_false, Bool.false_eq_true, if_false] at HSF
    have HC := hid (HMV.out (qn : Int) x1 w6 B6.out)
    go_wp2_with fail
    refine HC.out.mono ?_
    rintro e w7 ⟨hrr, hB⟩
    have B7 := hid (B6.out.trans (hB.mono B6.out.size))
    have X7 := hid (X6.out.below hB X6.out.lt)
    have O7 := hid (show OwnI w7 w.heap.size _ done from O6.out.below hB)
    clear HC B6 X6 O6 hgc hgz2 xz x0' x1' yz y0 y1 y2 Y6
    rcases hrr with ⟨m, A9, c9, hx, rfl, hs, hml⟩ | ⟨hx, rfl⟩
    case inr =>
      have hf := hid (HSP.out (by rw [HSF.out, hx]))
      have B8 := hid (B7.out.alloc B7.out.size (Obj.cells #[.int .i64 0, .slice none 0 0] 105))
      have O8 := hid (show OwnI (w7.alloc (Obj.cells #[.int .i64 0, .slice none 0 0] 105)) w.heap.size _ done from O7.out.below ((Below.refl _ _).alloc (Nat.le_refl _) _))
      clear HST HSP HSF hx O7 X7 hB
      as_aux_lemma =>
        go_wp2_with fail
        go_ret
        exact ⟨_, rfl, by rw [hf.out]; exact O8.out, B8.out⟩
    rw [hx] at HSF
    simp only at HSF
    obtain ⟨hne, hrg⟩ := HNE.out _ _ (tMove_mem hx).2.1
    have hmle := HML.out _ _ _ hx
    obtain ⟨m0, m1⟩ := m
    simp only at HSF hs hml hne hrg hmle
    have hnl : 0 < m1.length := List.length_pos_iff.2 hne
    have hs7 := hid ((hs.below hB).more hB.size)
    obtain ⟨hil2, hin⟩ := idxT_lt (n := m1.length) (a := a) (by omega)
    obtain ⟨k, hk⟩ : ∃ k, k = idxT m1.length a := ⟨_, rfl⟩
    rw [← hk] at HSF hil2
    have hkm : (a.tmod m1.length + m1.length).tmod m1.length = (k : Int) := by rw [hk]; unfold idxT; omega
    have hkl : k < m1.length := by omega
    have hklI : (k : Int) < m1.length := by omega
    rw [show m1.getD k 0 = m1[k] by simp [hkl]] at HSF
    have hq2 := hrg _ (List.getElem_mem hkl)
    have HRS := hid (HST.out _ HSF.out)
    have hQP := hid (show isP g m1[k] = true from isP_iff.2 hq2)
    obtain ⟨tb, to_, rfl, htz, htc, -⟩ := hs7.out.int hkl
    clear HST HSP HSF hx hs hB hk hrg hil2 hin hml hs7 hq2
    generalize m1[k] = q2 at *
    have hdv : (m1.length : Int) ≠ 0 := by omega
    have hdv2 : ¬ (m1.length : Int) = 0 := by omega
    have hdv3 : ((m1.length : Int) == 0) = false := by simpa using hdv
    have h1t := Int.tmod_lt_of_pos a (show (0 : Int) < m1.length by omega)
    have h2t : -(m1.length : Int) < a.tmod m1.length := by
      have := Int.lt_tmod_of_pos a (show (0 : Int) < m1.length by omega)
      omega
    obtain ⟨r, hrm⟩ : ∃ r, r = a.tmod m1.length := ⟨_, rfl⟩
    have hrm2 : a.tmod m1.length = r := hrm.symm
    rw [← hrm] at hkm h1t h2t
    clear hrm
    have hw1 : IntKind.i64.wrap r = r := IntWalk.i64_in _ (by omega)
    have hw2 : IntKind.i64.wrap (r + m1.length) = r + m1.length := IntWalk.i64_in _ (by omega)
    have hw3 : IntKind.i64.wrap (k : Int) = k := IntWalk.i64_in _ (by omega)
    obtain ⟨w8, hw8⟩ : ∃ w8, w8 = w7.alloc (Obj.cells #[.int .i64 m0, .slice (some ⟨tb, to_, none⟩) m1.length c9] 105) := ⟨_, rfl⟩
    have b8 := hid (show Below w7.heap.size w7 w8 by rw [hw8]; (repeat (first | exact Below.refl _ _ | assumption | refine below_drewN ?_ _ | refine Below.drew ?_ | refine Below.alloc ?_ (by (try simp); (try omega)) _ | refine Below.setCell ?_ (by (try simp); (try omega)) _)))
    have Z8 := hid (show Blk w8 w7.heap.size 105 #[.int .i64 m0, .slice (some ⟨tb, to_, none⟩) m1.length c9] by rw [hw8]; exact Blk.new w7 _ _)
    have B8 := hid (B7.out.trans (b8.out.mono B7.out.size))
    have X8 := hid (X7.out.below b8.out X7.out.lt)
    have O8 := hid (show OwnI w8 w.heap.size _ done from O7.out.below b8.out)
    replace htc := (bcell b8.out tb _ htz).trans htc
    go_upto_region 10 with fail
    rw [← hw8]
    clear hw8 X7 O7 b8 B7
    have z0 := Z8.out.cell 0; have z1 := Z8.out.cell 1; have zz := Z8.out.lt
    simp at z0 z1
    generalize w7.heap.size = zb at *
    go_upto_region 12 with fail
    refine wpIn_wide.1 (wpIn_region_S (n := 0) (fun wq => wq.cell? ⟨zb, 1, none⟩ = some (.slice (some ⟨tb, to_, none⟩) m1.length c9) ∧ wq.cell? ⟨tb, to_ + k, none⟩ = some (.int .i64 q2)) [] (by kernel_rfl) ⟨z1, htc⟩ (fun hHeld => ?_))
    refine wpAnyG_pure 0 (v := ?_) (fun _ => trivial) (by simp only [List.getElem?_toArray, List.getElem?_cons_succ, List.getElem?_cons_zero]; rfl) (by kernel_rfl) (fun _ _ _ _ _ h => h) ⟨(by rfl), (by intro c h; cases h), ?_⟩ hHeld ?_
    rotate_left
    focus (intro wS hSw; (try replace hSw := HSF.out wS hSw); (try dsimp only at hSw); go_simp; (try with_reducible rfl))
    (try simp only [Act.put, List.setIfInBounds_toArray, List.set_cons_zero, List.set_cons_succ])
    refine wpAnyG_take 1 (v := ?_) (fun _ => trivial) (by simp only [List.getElem?_toArray, List.getElem?_cons_succ, List.getElem?_cons_zero]; rfl) (by kernel_rfl) (fun _ _ _ _ _ h => h) ⟨(by rfl), (by intro c h; cases h), ?_⟩ hHeld ?_
    rotate_left
    focus (intro wS hSw; (try replace hSw := HSF.out wS hSw); (try dsimp only at hSw); go_simp; (try with_reducible rfl))
    (try simp only [Act.put, List.setIfInBounds_toArray, List.set_cons_zero, List.set_cons_succ])
    refine wpAnyG_pure 2 (v := ?_) (fun _ => trivial) (by simp only [List.getElem?_toArray, List.getElem?_cons_succ, List.getElem?_cons_zero]; rfl) (by kernel_rfl) (fun _ _ _ _ _ h => h) ⟨(by rfl), (by intro c h; cases h), ?_⟩ hHeld ?_
    rotate_left
    focus (intro wS hSw; (try replace hSw := HSF.out wS hSw); (try dsimp only at hSw); go_simp; (try with_reducible rfl))
    (try simp only [Act.put, List.setIfInBounds_toArray, List.set_cons_zero, List.set_cons_succ])
    refine wpAnyG_pure 3 (v := ?_) (fun _ => trivial) (by simp only [List.getElem?_toArray, List.getElem?_cons_succ, List.getElem?_cons_zero]; rfl) (by kernel_rfl) (fun _ _ _ _ _ h => h) ⟨(by rfl), (by intro c h; cases h), ?_⟩ hHeld ?_
    rotate_left
    focus (intro wS hSw; (try replace hSw := HSF.out wS hSw); (try dsimp only at hSw); go_simp; (try with_reducible rfl))
    (try simp only [Act.put, List.setIfInBounds_toArray, List.set_cons_zero, List.set_cons_succ])
    refine wpAnyG_pure 4 (v := ?_) (fun _ => trivial) (by simp only [List.getElem?_toArray, List.getElem?_cons_succ, List.getElem?_cons_zero]; rfl) (by kernel_rfl) (fun _ _ _ _ _ h => h) ⟨(by rfl), (by intro c h; cases h), ?_⟩ hHeld ?_
    rotate_left
    focus (intro wS hSw; (try replace hSw := HSF.out wS hSw); (try dsimp only at hSw); go_simp; (try with_reducible rfl))
    (try simp only [Act.put, List.setIfInBounds_toArray, List.set_cons_zero, List.set_cons_succ])
    refine wpAnyG_pure 5 (v := ?_) (fun _ => trivial) (by simp only [List.getElem?_toArray, List.getElem?_cons_succ, List.getElem?_cons_zero]; rfl) (by kernel_rfl) (fun _ _ _ _ _ h => h) ⟨(by rfl), (by intro c h; cases h), ?_⟩ hHeld ?_
    rotate_left
    focus (intro wS hSw; (try replace hSw := HSF.out wS hSw); (try dsimp only at hSw); go_simp; (try with_reducible rfl))
    (try simp only [Act.put, List.setIfInBounds_toArray, List.set_cons_zero, List.set_cons_succ])
    refine wpAnyG_pure 6 (v := ?_) (fun _ => trivial) (by simp only [List.getElem?_toArray, List.getElem?_cons_succ, List.getElem?_cons_zero]; rfl) (by kernel_rfl) (fun _ _ _ _ _ h => h) ⟨(by rfl), (by intro c h; cases h), ?_⟩ hHeld ?_
    rotate_left
    focus (intro wS hSw; (try replace hSw := HSF.out wS hSw); (try dsimp only at hSw); go_simp; (try with_reducible rfl))
    (try simp only [Act.put, List.setIfInBounds_toArray, List.set_cons_zero, List.set_cons_succ])
    refine wpAnyG_pure 7 (v := ?_) (fun _ => trivial) (by simp only [List.getElem?_toArray, List.getElem?_cons_succ, List.getElem?_cons_zero]; rfl) (by kernel_rfl) (fun _ _ _ _ _ h => h) ⟨(by rfl), (by intro c h; cases h), ?_⟩ hHeld ?_
    rotate_left
    focus (intro wS hSw; (try replace hSw := HSF.out wS hSw); (try dsimp only at hSw); go_simp; (try with_reducible rfl))
    (try simp only [Act.put, List.setIfInBounds_toArray, List.set_cons_zero, List.set_cons_succ])
    refine wpAnyG_pure 8 (v := ?_) (fun _ => trivial) (by simp only [List.getElem?_toArray, List.getElem?_cons_succ, List.getElem?_cons_zero]; rfl) (by kernel_rfl) (fun _ _ _ _ _ h => h) ⟨(by rfl), (by intro c h; cases h), ?_⟩ hHeld ?_
    rotate_left
    focus (intro wS hSw; (try replace hSw := HSF.out wS hSw); (try dsimp only at hSw); go_simp; (try with_reducible rfl))
    (try simp only [Act.put, List.setIfInBounds_toArray, List.set_cons_zero, List.set_cons_succ])
    refine wpAnyG_pure 9 (v := ?_) (fun _ => trivial) (by simp only [List.getElem?_toArray, List.getElem?_cons_succ, List.getElem?_cons_zero]; rfl) (by kernel_rfl) (fun _ _ _ _ _ h => h) ⟨(by rfl), (by intro c h; cases h), ?_⟩ hHeld ?_
    rotate_left
    focus (intro wS hSw; (try replace hSw := HSF.out wS hSw); (try dsimp only at hSw); go_simp; (try with_reducible rfl))
    (try simp only [Act.put, List.setIfInBounds_toArray, List.set_cons_zero, List.set_cons_succ])
    refine wpAnyG_take 10 (v := ?_) (fun _ => trivial) (by simp only [List.getElem?_toArray, List.getElem?_cons_succ, List.getElem?_cons_zero]; rfl) (by kernel_rfl) (fun _ _ _ _ _ h => h) ⟨(by rfl), (by intro c h; cases h), ?_⟩ hHeld ?_
    rotate_left
    focus (intro wS hSw; (try replace hSw := HSF.out wS hSw); (try dsimp only at hSw); go_simp; (try with_reducible rfl))
    (try simp only [Act.put, List.setIfInBounds_toArray, List.set_cons_zero, List.set_cons_succ])
    refine wpAnyG_pure 11 (v := ?_) (fun _ => trivial) (by simp only [List.getElem?_toArray, List.getElem?_cons_succ, List.getElem?_cons_zero]; rfl) (by kernel_rfl) (fun _ _ _ _ _ h => h) ⟨(by rfl), (by intro c h; cases h), ?_⟩ hHeld ?_
    rotate_left
    focus (intro wS hSw; (try replace hSw := HSF.out wS hSw); (try dsimp only at hSw); go_simp; (try with_reducible rfl))
    (try simp only [Act.put, List.setIfInBounds_toArray, List.set_cons_zero, List.set_cons_succ])
    refine wpAnyS_done (by kernel_rfl) ?_
    clear hHeld
    have B9 := hid (B8.out.drew)
    have X9 := hid (show Blk w8.drew w.heap.size 84 #[.slice (some ⟨gb, go_, none⟩) g.1.length cg, .slice Am g.2.length cm] from X8.out)
    have O9 := hid (show OwnI w8.drew w.heap.size _ done from O8.out)
    clear htc z0 z1 zz X8 O8 B8 Z8
    generalize w8.drew = w9 at *
    obtain ⟨wA, hwA⟩ : ∃ wA, wA = w9.alloc (Obj.cells #[.int .i64 q2] 3) := ⟨_, rfl⟩
    have bA := hid (show Below w9.heap.size w9 wA by rw [hwA]; (repeat (first | exact Below.refl _ _ | assumption | refine below_drewN ?_ _ | refine Below.drew ?_ | refine Below.alloc ?_ (by (try simp); (try omega)) _ | refine Below.setCell ?_ (by (try simp); (try omega)) _)))
    have hnw := hid (show wA.cell? ⟨w9.heap.size, 0, none⟩ = some (.int .i64 q2) by rw [hwA]; simp)
    have BA := hid (B9.out.trans (bA.out.mono B9.out.size))
    have XA := hid (X9.out.below bA.out X9.out.lt)
    have OA := hid (show OwnI wA w.heap.size _ done from O9.out.below bA.out)
    have hwz := hid BA.out.size
    have hdl2 := hid (show done.length ≤ 10000000 by have := HDL.out; omega)
    clear O9 X9 B9 bA
    subst hwA
    go_upto_region 13 with fail
    go_wp2_with (at_builtin; refine wp_appJ _ rfl (.tmp 72) (.tmp 74) rfl w.heap.size u9 done (i + 1) HDL.out rfl OA.out w9.heap.size 1 q2 rfl hnw.out hdl2.out hwz.out ?_; intro g3 c3 w3' ho3 hg3 _; have O10 := hid ho3; have B10 := hid (BA.out.grown hg3 hwz.out (fun q e => (own_blk OA.out q e).1)); have X10 := hid (XA.out.grown hg3 (fun e => absurd e.symm (own_blk_ne OA.out XA.out (by decide)))); clear ho3 hg3)
    have hres2 := hid (show res = (done ++ [q2]) ++ folF g rows q2 (ans.drop (i + 1)) by rw [HRS.out]; simp)
    have hdl3 := hid (show (done ++ [q2]).length = i + 1 + 1 by rw [List.length_append, HDL.out]; rfl)
    go_roundw
    case rel => exact ⟨i + 1, q2, done ++ [q2], by omega, by go_num, rfl, hQP.out, hres2.out, hdl3.out, O10.out, B10.out, X10.out⟩
    case measure => simp [intOf]; omega
end Go.Proofs.YtfpehakllnkaeaaDoor
