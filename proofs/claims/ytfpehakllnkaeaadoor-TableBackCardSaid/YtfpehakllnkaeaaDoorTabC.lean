
/- Table: is, move, good. -/
import Derived.Test.YtfpehakllnkaeaaDoorTabB
set_option linter.unusedSimpArgs false
set_option linter.unusedVariables false
namespace Go.Proofs.YtfpehakllnkaeaaDoor
open Go.RowKit Go.IntWalk Go.Shelf

set_option maxRecDepth 100000 in
theorem is_any (Ag Am : Option Addr) (cg cm : Nat) (g : Gm) (p : Int) (w : World) :
    Calls Tryd.prog 53 #[.agg #[.slice Ag g.1.length cg, .slice Am g.2.length cm], .int .i64 p] w fun e w' => e = .returned (.bool (isP g p)) ∧ Below w.heap.size w w' := by
  have B1 := hid (show Below w.heap.size w (w.alloc (Obj.cells #[.slice Ag g.1.length cg, .slice Am g.2.length cm] 84)) by (repeat (first | exact Below.refl _ _ | assumption | refine below_drewN ?_ _ | refine Below.drew ?_ | refine Below.alloc ?_ (by (try simp); (try omega)) _ | refine Below.setCell ?_ (by (try simp); (try omega)) _)))
  by_cases h0 : 0 ≤ p
  · by_cases h1 : p < g.1.length
    · have hr := hid (show isP g p = true by simp [isP, h0, h1])
      go_enter Tryd.func53, Tryd.ntmps53
      go_wp2_with fail
      go_ret
      exact ⟨ret_bool hr.out.symm, B1.out⟩
    · have hr := hid (show isP g p = false by simp [isP, h0, h1])
      have h2 : ¬ p < (g.1.length : Int) := h1
      go_enter Tryd.func53, Tryd.ntmps53
      go_wp2_with fail
      go_ret
      exact ⟨ret_bool hr.out.symm, B1.out⟩
  · have hr := hid (show isP g p = false by simp [isP, h0])
    go_enter Tryd.func53, Tryd.ntmps53
    go_wp2_with fail
    go_ret
    exact ⟨ret_bool hr.out.symm, B1.out⟩
set_option maxRecDepth 100000 in
set_option maxHeartbeats 1000000 in
theorem tmove_any (Ag Am : Option Addr) (cg cm : Nat) (g : Gm) (p a : Int) (w : World) (h : GmR w w.heap.size Ag Am g) (hr : rightL g = true) (hg : GmOK g) :
    Calls Tryd.prog 55 #[.agg #[.slice Ag g.1.length cg, .slice Am g.2.length cm], .int .i64 p, .int .i64 a] w fun e w' => MvR (tMove g p a) e w ∧ Below w.heap.size w w' := by
  obtain ⟨w1, hw1⟩ : ∃ w1, w1 = (w.alloc (Obj.cells #[.slice Ag g.1.length cg, .slice Am g.2.length cm] 84)).alloc (Obj.cells #[.int .i64 0, .slice none 0 0] 105) := ⟨_, rfl⟩
  have B1 := hid (show Below w.heap.size w w1 by rw [hw1]; (repeat (first | exact Below.refl _ _ | assumption | refine below_drewN ?_ _ | refine Below.drew ?_ | refine Below.alloc ?_ (by (try simp); (try omega)) _ | refine Below.setCell ?_ (by (try simp); (try omega)) _)))
  have X1 := hid (show Blk w1 w.heap.size 84 #[.slice Ag g.1.length cg, .slice Am g.2.length cm] by rw [hw1]; exact (Blk.new w _ _).alloc _)
  have Y1 := hid (show Blk w1 (w.heap.size + 1) 105 #[.int .i64 0, .slice none 0 0] by rw [hw1]; have := Blk.new (w.alloc (Obj.cells #[.slice Ag g.1.length cg, .slice Am g.2.length cm] 84)) 105 #[.int .i64 0, .slice none 0 0]; simpa using this)
  have H := hid h
  have HIS := hid (is_any Ag Am cg cm g p)
  have HASC := hid (mvs_asc hr p.toNat)
  have HMV := hid (show tMove g p a = if isP g p then look kM (g.2.getD p.toNat []) a else none from rfl)
  have HN := hid hg.n
  have HLL := hid hg.l
  have x0 := X1.out.cell 0; have x1 := X1.out.cell 1; have xz := X1.out.lt
  simp at x0 x1
  clear h hr hg
  go_enter Tryd.func55, Tryd.ntmps55
  go_upto_region 1 with fail
  rw [← hw1]
  clear hw1
  go_wp2_with fail
  refine (HIS.out _).mono ?_
  rintro e w2 ⟨rfl, hB⟩
  have B2 := hid (B1.out.trans (hB.mono B1.out.size))
  have X2 := hid (X1.out.below hB X1.out.lt)
  have Y2 := hid (Y1.out.below hB Y1.out.lt)
  clear hB HIS X1 Y1 B1 x0 x1 xz
  have x0 := X2.out.cell 0; have x1 := X2.out.cell 1; have xz := X2.out.lt
  have y0 := Y2.out.cell 0; have y1 := Y2.out.cell 1; have yz := Y2.out.lt
  have hfz := Y2.out.frozen
  simp at x0 x1 y0 y1
  cases hp : isP g p with
  | false =>
    have hm := hid (show tMove g p a = none by rw [HMV.out, hp]; rfl)
    have YF := hid (show Blk ((w2.setCell ⟨w.heap.size + 1, 0, none⟩ (.int .i64 0)).setCell ⟨w.heap.size + 1, 1, none⟩ (.slice none 0 0)) (w.heap.size + 1) 105 #[.int .i64 0, .slice none 0 0] by
      have := (Y2.out.set_ 0 (.int .i64 0)).set_ 1 (.slice none 0 0)
      simpa using this)
    have BF := hid (show Below w.heap.size w ((w2.setCell ⟨w.heap.size + 1, 0, none⟩ (.int .i64 0)).setCell ⟨w.heap.size + 1, 1, none⟩ (.slice none 0 0)) from (B2.out.setCell (p := ⟨w.heap.size + 1, 0, none⟩) (by simp) _).setCell (p := ⟨w.heap.size + 1, 1, none⟩) (by simp) _)
    clear HMV hp
    as_aux_lemma =>
      go_wp2_with fail
      refine bodyPost_ret (results_ct Tryd.results55 _ _ (w.heap.size + 1) 105 _ _ rfl YF.out Tryd.underlying105 rfl (by kernel_rfl)) rfl ?_
      exact ⟨.inr ⟨hm.out, rfl⟩, BF.out⟩
  | true =>
    have hpb := isP_iff.1 hp
    have hm := hid (show tMove g p a = look kM (g.2.getD p.toNat []) a by rw [HMV.out, hp]; rfl)
    clear HMV hp
    obtain ⟨pn, rfl⟩ := Int.eq_ofNat_of_zero_le hpb.1
    have hpn : pn < g.2.length := by have := HN.out; omega
    have hpI : (pn : Int) < g.2.length := by omega
    have e1 : g.2.getD (pn : Int).toNat [] = g.2[pn] := by simp [hpn]
    rw [e1] at HASC hm
    obtain ⟨mb, mo, A', c', hA, hb, hc, h1, h2, h3⟩ := H.out.mvs.list hpn
    subst hA
    have hll := HLL.out _ (List.getElem_mem hpn)
    replace hc := (bcell B2.out mb _ hb).trans hc
    have hz : mb < w2.heap.size := by have := B2.out.size; omega
    have HS := hid (searchm_any A' c' g.2[pn] a w w2 (by omega) HASC.out h3 B2.out)
    generalize g.2[pn] = ml at *
    clear e1 hpb h1 h2 h3 HASC HLL
    go_wp2_with fail
    refine HS.out.mono ?_
    rintro e w3 ⟨hr, hB⟩
    have B3 := hid (B2.out.trans (hB.mono B2.out.size))
    have Y3 := hid (Y2.out.below hB Y2.out.lt)
    clear hB HS Y2 B2 y0 y1 yz hfz x0 x1 xz hc X2
    have y0 := Y3.out.cell 0; have y1 := Y3.out.cell 1; have yz := Y3.out.lt
    have hfz := Y3.out.frozen
    simp at y0 y1
    have YF := hid (fun (x : Int) (A : Option Addr) (n c : Nat) => show Blk ((w3.setCell ⟨w.heap.size + 1, 0, none⟩ (.int .i64 x)).setCell ⟨w.heap.size + 1, 1, none⟩ (.slice A n c)) (w.heap.size + 1) 105 #[.int .i64 x, .slice A n c] by
      have := (Y3.out.set_ 0 (.int .i64 x)).set_ 1 (.slice A n c)
      simpa using this)
    have b9 := hid (fun (x y : Value) => show Below w.heap.size w ((w3.setCell ⟨w.heap.size + 1, 0, none⟩ x).setCell ⟨w.heap.size + 1, 1, none⟩ y) from (B3.out.setCell (p := ⟨w.heap.size + 1, 0, none⟩) (by simp) _).setCell (p := ⟨w.heap.size + 1, 1, none⟩) (by simp) _)
    rcases hr with ⟨m, A9, c9, hx, rfl, hs, hml⟩ | ⟨hx, rfl⟩
    · have HX := hid hx
      have HS := hid hs
      have HL := hid hml
      obtain ⟨m0, m1⟩ := m
      clear hx hs hml
      simp only at HS HL
      as_aux_lemma =>
        go_wp2_with fail
        refine bodyPost_ret (results_ct Tryd.results55 _ _ (w.heap.size + 1) 105 _ _ rfl (YF.out _ _ _ _) Tryd.underlying105 rfl (by kernel_rfl)) rfl ?_
        exact ⟨.inl ⟨_, _, _, hm.out.trans HX.out, rfl, HS.out, HL.out⟩, b9.out _ _⟩
    · have HX := hid hx
      clear hx
      as_aux_lemma =>
        go_wp2_with fail
        refine bodyPost_ret (results_ct Tryd.results55 _ _ (w.heap.size + 1) 105 _ _ rfl (YF.out _ _ _ _) Tryd.underlying105 rfl (by kernel_rfl)) rfl ?_
        exact ⟨.inr ⟨hm.out.trans HX.out, rfl⟩, b9.out _ _⟩
/-! ### good -/
set_option maxRecDepth 100000 in
set_option maxHeartbeats 2000000 in
theorem tgood_any (Ag Am B : Option Addr) (cg cm c : Nat) (g : Gm) (rows : List Row) (r : Row) (w : World) (h : GmR w w.heap.size Ag Am g) (hr : rightL g = true) (hg : GmOK g) (hl : rows.length ≤ 1000000) (ha : Asc kP rows) (h1 : SlR w w.heap.size B rows) :
    Calls Tryd.prog 52 #[.agg #[.slice Ag g.1.length cg, .slice Am g.2.length cm], .slice B rows.length c, .agg #[.int .i64 r.1, .int .i64 r.2.1, .int .i64 r.2.2]] w fun e w' => e = .returned (.bool (tGood g rows r)) ∧ Below w.heap.size w w' := by
  obtain ⟨r0, r1, r2⟩ := r
  obtain ⟨w1, hw1⟩ : ∃ w1, w1 = (w.alloc (Obj.cells #[.slice Ag g.1.length cg, .slice Am g.2.length cm] 84)).alloc (Obj.cells #[.int .i64 r0, .int .i64 r1, .int .i64 r2] 87) := ⟨_, rfl⟩
  have B1 := hid (show Below w.heap.size w w1 by rw [hw1]; (repeat (first | exact Below.refl _ _ | assumption | refine below_drewN ?_ _ | refine Below.drew ?_ | refine Below.alloc ?_ (by (try simp); (try omega)) _ | refine Below.setCell ?_ (by (try simp); (try omega)) _)))
  have X1 := hid (show Blk w1 w.heap.size 84 #[.slice Ag g.1.length cg, .slice Am g.2.length cm] by rw [hw1]; exact (Blk.new w _ _).alloc _)
  have Y1 := hid (show Blk w1 (w.heap.size + 1) 87 #[.int .i64 r0, .int .i64 r1, .int .i64 r2] by rw [hw1]; have := Blk.new (w.alloc (Obj.cells #[.slice Ag g.1.length cg, .slice Am g.2.length cm] 84)) 87 #[.int .i64 r0, .int .i64 r1, .int .i64 r2]; simpa using this)
  have H := hid h
  have HR := hid h1
  have HIS := hid (is_any Ag Am cg cm g r0)
  have HMV := hid (fun (W : World) (hW : Below w.heap.size w W) => tmove_any Ag Am cg cm g r0 r1 W (h.to hW) hr hg)
  have HRW := hid (fun (t : Int) (W : World) (hW : Below w.heap.size w W) => trow_any B c rows t W hl ha ((h1.below hW).more hW.size))
  have HGD := hid (show tGood g rows (r0, r1, r2) = (isP g r0 && (if g.1.getD r0.toNat false then decide (r1 = -1) && decide (r2 = 0) else match tMove g r0 r1 with | none => false | some m => decide (1 ≤ r2) && m.2.all (okTo rows r2))) from rfl)
  have HN := hid hg.n
  clear h h1 hr hg ha
  generalize tGood g rows (r0, r1, r2) = res at *
  go_enter Tryd.func52, Tryd.ntmps52
  go_upto_region 1 with fail
  rw [← hw1]
  clear hw1
  have x0 := X1.out.cell 0; have x1 := X1.out.cell 1; have xz := X1.out.lt
  have y0 := Y1.out.cell 0; have y1 := Y1.out.cell 1; have y2 := Y1.out.cell 2; have yz := Y1.out.lt
  simp at x0 x1 y0 y1 y2
  go_wp2_with fail
  refine (HIS.out _).mono ?_
  rintro e w2 ⟨rfl, hB⟩
  have B2 := hid (B1.out.trans (hB.mono B1.out.size))
  have X2 := hid (X1.out.below hB X1.out.lt)
  have Y2 := hid (Y1.out.below hB Y1.out.lt)
  clear hB HIS X1 Y1 B1 x0 x1 xz y0 y1 y2 yz
  cases hp : isP g r0 with
  | false =>
    have hf := hid (show res = false by rw [HGD.out, hp]; rfl)
    clear HGD hp
    as_aux_lemma =>
      go_wp2_with fail
      go_ret
      exact ⟨ret_bool hf.out.symm, B2.out⟩
  | true =>
  rw [hp, Bool.true_and] at HGD
  have hpb := isP_iff.1 hp
  clear hp
  obtain ⟨pn, rfl⟩ := Int.eq_ofNat_of_zero_le hpb.1
  have hpn : pn < g.1.length := by omega
  have hpI : (pn : Int) < g.1.length := by omega
  have e1 : g.1.getD (pn : Int).toNat false = g.1[pn] := by simp [hpn]
  rw [e1] at HGD
  obtain ⟨gb, go_, rfl, hgz, hgc⟩ := H.out.goal.bool hpn
  replace hgc := (bcell B2.out gb _ hgz).trans hgc
  have hgz2 : gb < w2.heap.size := by have := B2.out.size; omega
  have x0 := X2.out.cell 0; have x1 := X2.out.cell 1; have xz := X2.out.lt
  have y0 := Y2.out.cell 0; have y1 := Y2.out.cell 1; have y2 := Y2.out.cell 2; have yz := Y2.out.lt
  simp at x0 x1 y0 y1 y2
  generalize g.1[pn] = gl at *
  clear e1 hpb
  cases gl with
  | true =>
    simp only [if_true] at HGD
    by_cases e1 : r1 = -1
    · by_cases e2 : r2 = 0
      · have hf := hid (show res = true by rw [HGD.out]; simp [e1, e2])
        clear HGD
        subst e1 e2
        as_aux_lemma =>
          go_wp2_with fail
          go_ret
          exact ⟨ret_bool hf.out.symm, B2.out⟩
      · have hf := hid (show res = false by rw [HGD.out]; simp [e2])
        have e2b : (r2 == 0) = false := by simpa using e2
        clear HGD
        subst e1
        as_aux_lemma =>
          go_wp2_with fail
          go_ret
          exact ⟨ret_bool hf.out.symm, B2.out⟩
    · have hf := hid (show res = false by rw [HGD.out]; simp [e1])
      have e1b : (r1 == -1) = false := by simpa using e1
      clear HGD
      as_aux_lemma =>
        go_wp2_with fail
        go_ret
        exact ⟨ret_bool hf.out.symm, B2.out⟩
  | false =>
  simp only [Bool.false_eq_true, if_false] at HGD
  go_wp2_with fail
  refine (HMV.out w2 B2.out).mono ?_
  rintro e w3 ⟨hr, hB⟩
  have B3 := hid (B2.out.trans (hB.mono B2.out.size))
  have Y3 := hid (Y2.out.below hB Y2.out.lt)
  clear HMV hgc hgz2 x0 x1 xz y0 y1 y2 yz X2 Y2
  rcases hr with ⟨m, A9, c9, hx, rfl, hs, hml⟩ | ⟨hx, rfl⟩
  case inr =>
    have hf := hid (show res = false by rw [HGD.out, hx])
    have B4 := hid (B3.out.alloc B3.out.size (Obj.cells #[.int .i64 0, .slice none 0 0] 105))
    clear HGD hx hB
    as_aux_lemma =>
      go_wp2_with fail
      go_ret
      exact ⟨ret_bool hf.out.symm, B4.out⟩
  rw [hx] at HGD
  simp only at HGD
  have hs3 := (hs.below hB).more hB.size
  have HS := hid hs3
  clear hx hs hs3 hB
  obtain ⟨m0, m1⟩ := m
  simp only at HGD HS hml
  have y0 := Y3.out.cell 0; have y1 := Y3.out.cell 1; have y2 := Y3.out.cell 2; have yz := Y3.out.lt
  simp at y0 y1 y2
  have yz1 : w.heap.size + 1 < w3.heap.size + 1 := by omega
  by_cases hr1 : r2 < 1
  case pos =>
    have hf := hid (show res = false by rw [HGD.out]; simp; omega)
    have B4 := hid (B3.out.alloc B3.out.size (Obj.cells #[.int .i64 m0, .slice A9 m1.length c9] 105))
    clear HGD
    as_aux_lemma =>
      go_wp2_with fail
      go_ret
      exact ⟨ret_bool hf.out.symm, B4.out⟩
  have HGD2 := hid (show res = m1.all (okTo rows r2) by rw [HGD.out, show decide (1 ≤ r2) = true from decide_eq_true (by omega)]; rfl)
  clear HGD
  obtain ⟨w4, hw4⟩ : ∃ w4, w4 = w3.alloc (Obj.cells #[.int .i64 m0, .slice A9 m1.length c9] 105) := ⟨_, rfl⟩
  have b4 := hid (show Below w3.heap.size w3 w4 by rw [hw4]; (repeat (first | exact Below.refl _ _ | assumption | refine below_drewN ?_ _ | refine Below.drew ?_ | refine Below.alloc ?_ (by (try simp); (try omega)) _ | refine Below.setCell ?_ (by (try simp); (try omega)) _)))
  have Z4 := hid (show Blk w4 w3.heap.size 105 #[.int .i64 m0, .slice A9 m1.length c9] by rw [hw4]; exact Blk.new w3 _ _)
  have B4 := hid (B3.out.trans (b4.out.mono B3.out.size))
  have Y4 := hid (Y3.out.below b4.out Y3.out.lt)
  have S4 := hid ((HS.out.below b4.out).more b4.out.size)
  go_upto_region 6 with fail
  rw [← hw4]
  clear hw4 y0 y1 y2 yz yz1 Y3 b4 HS B3 B2
  have y0 := Y4.out.cell 0; have y1 := Y4.out.cell 1; have y2 := Y4.out.cell 2; have yz := Y4.out.lt
  have z0 := Z4.out.cell 0; have z1 := Z4.out.cell 1; have zz := Z4.out.lt
  simp at y0 y1 y2 z0 z1
  have hml2 : m1.length ≤ 9223372036854775807 := by unfold maxLen at hml; omega
  clear hml
  generalize w3.heap.size = mb at *
  go_upto_region 9 with fail
  go_loopw [10, 11, 12, 51] (fun _ _ _ iv wr => ∃ i : Nat, i ≤ m1.length ∧ iv = .int .i64 i ∧ (m1.take i).all (okTo rows r2) = true ∧ Below w4.heap.size w4 wr) (fun _ _ _ iv _ => m1.length - (intOf iv).toNat)
  case atStart => exact ⟨0, by omega, rfl, by simp, Below.refl _ _⟩
  case round =>
    obtain ⟨i, hi, rfl, hall, hB⟩ := hrel
    have HALL := hid hall; have HB := hid hB
    have BR := hid (B4.out.trans (hB.mono B4.out.size))
    have YR := hid (Y4.out.below hB Y4.out.lt)
    clear hall hB
    by_cases hil : i < m1.length
    case neg =>
      obtain rfl : i = m1.length := by omega
      have hf := hid (show res = true by have := HALL.out; rw [List.take_length] at this; rw [HGD2.out, this])
      as_aux_lemma =>
        go_wp2_with fail
        go_ret
        exact ⟨ret_bool hf.out.symm, BR.out⟩
    have hilI : (i : Int) < m1.length := by omega
    have HTK := hid (all_take (okTo rows r2) m1 i hil)
    have HNO := hid (fun (hx : okTo rows r2 m1[i] = false) => show res = false from by
      rw [HGD2.out]
      cases hy : m1.all (okTo rows r2) with
      | false => rfl
      | true => have := List.all_eq_true.1 hy _ (List.getElem_mem hil); rw [hx] at this; cases this)
    obtain ⟨ab, ao, rfl, haz, hac, -⟩ := S4.out.int hil
    replace hac := (bcell HB.out ab _ haz).trans hac
    have haz2 : ab < wr.heap.size := by have := HB.out.size; omega
    generalize m1[i] = t at *
    have HC := hid (HRW.out t wr BR.out)
    have HOK := hid (show okTo rows r2 t = match tRow rows t with | none => false | some x => decide (0 ≤ x.2.2) && decide (x.2.2 < r2) from rfl)
    generalize okTo rows r2 t = okb at *
    go_wp2_with fail
    refine HC.out.mono ?_
    rintro e w5 ⟨hrr, hB⟩
    have BB5 := hid (HB.out.trans (hB.mono HB.out.size))
    have B5 := hid (BR.out.trans (hB.mono BR.out.size))
    have Y5 := hid (YR.out.below hB YR.out.lt)
    clear hB HC BR YR HB hac haz2 y0 y1 y2 yz
    have y0 := Y5.out.cell 0; have y1 := Y5.out.cell 1; have y2 := Y5.out.cell 2; have yz := Y5.out.lt
    simp at y0 y1 y2
    have yz1 : w.heap.size + 1 < w5.heap.size + 1 := by omega
    rcases hrr with ⟨x, hx, hxm, rfl⟩ | ⟨hx, rfl⟩
    case inr =>
      have hf := hid (HNO.out (by rw [HOK.out, hx]))
      have B6 := hid (B5.out.alloc B5.out.size (Obj.cells #[.int .i64 0, .int .i64 0, .int .i64 0] 87))
      clear HNO HOK hx
      as_aux_lemma =>
        go_wp2_with fail
        go_ret
        exact ⟨ret_bool hf.out.symm, B6.out⟩
    rw [hx] at HOK
    simp only at HOK
    obtain ⟨x0, x1, x2⟩ := x
    simp only at HOK
    clear hx hxm
    have B6 := hid (B5.out.alloc B5.out.size (Obj.cells #[.int .i64 x0, .int .i64 x1, .int .i64 x2] 87))
    have BB6 := hid (BB5.out.alloc BB5.out.size (Obj.cells #[.int .i64 x0, .int .i64 x1, .int .i64 x2] 87))
    by_cases h0 : x2 < 0
    · have hf := hid (HNO.out (by rw [HOK.out]; simp; omega))
      clear HNO HOK
      as_aux_lemma =>
        go_wp2_with fail
        go_ret
        exact ⟨ret_bool hf.out.symm, B6.out⟩
    by_cases h1 : r2 ≤ x2
    · have hf := hid (HNO.out (by rw [HOK.out]; simp; omega))
      clear HNO HOK
      as_aux_lemma =>
        go_wp2_with fail
        go_ret
        exact ⟨ret_bool hf.out.symm, B6.out⟩
    have hall2 := hid (show (m1.take (i + 1)).all (okTo rows r2) = true by
      rw [HTK.out, HALL.out, HOK.out, show decide (0 ≤ x2) = true from decide_eq_true (by omega), show decide (x2 < r2) = true from decide_eq_true (by omega)]; rfl)
    clear HNO HOK HTK
    as_aux_lemma =>
      go_wp2_with fail
      go_roundw
      case rel => exact ⟨i + 1, by omega, by go_num, hall2.out, BB6.out⟩
      case measure => simp [intOf]; omega
end Go.Proofs.YtfpehakllnkaeaaDoor
