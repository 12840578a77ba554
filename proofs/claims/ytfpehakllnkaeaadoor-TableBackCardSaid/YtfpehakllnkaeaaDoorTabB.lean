
/- Table: Row, is, move, good. -/
import Derived.Test.YtfpehakllnkaeaaDoorTabA
set_option linter.unusedSimpArgs false
set_option linter.unusedVariables false
namespace Go.Proofs.YtfpehakllnkaeaaDoor
open Go.RowKit Go.IntWalk Go.Shelf

theorem results_ct {P : Program} {fn : Func} {p u : Tmp} {ty : TypeId} (h : fn.results = #[.cell p ty, .tmp u]) (tmps : Array Value) (w : World) (g : Nat) (t : TypeId) (cs : Array Value) (d : TypeDesc)
    (hp : tmps.getD p undef = .pointer (some ⟨g, 0, none⟩)) (hg : Blk w g t cs)
    (hu : P.underlying ty = some d) (hd : (match d with | .struct _ | .array _ _ => true | _ => false) = true) (hi : (P.info? ty).map (·.size) = some cs.size) :
    (results fn tmps).run P w = .ok (.tuple #[.agg cs, tmps.getD u undef]) w := by
  rw [results_cell_tmp h]
  rw [hp]
  simp [asAddr, run_loadVar_row w g t ty cs (0, 0) d hg hu hd hi]
/-- What Row returns. -/
def RowR (l : List Row) (q : Int) (e : Ending) : Prop :=
  (∃ x, tRow l q = some x ∧ x ∈ l ∧ e = .returned (.tuple #[.agg #[.int .i64 x.1, .int .i64 x.2.1, .int .i64 x.2.2], .bool true])) ∨ (tRow l q = none ∧ e = .returned (.tuple #[.agg #[.int .i64 0, .int .i64 0, .int .i64 0], .bool false]))
set_option maxRecDepth 100000 in
set_option maxHeartbeats 1000000 in
theorem searchr_any (A : Option Addr) (c : Nat) (l : List Row) (q : Int) (w : World) (hl : l.length ≤ 1000000) (ha : Asc kP l) (h : SlR w w.heap.size A l) :
    Calls Tryd.prog 68 #[.slice A l.length c, .int .i64 q, .func (.func 69) #[] #[]] w fun e w' => RowR l q e ∧ Below w.heap.size w w' := by
  have eg : ∀ args w, (callFunc 83 args).run Tryd.prog w = .ok (.enter 83 args) w := enters_of Tryd.func83 (by kernel_rfl) rfl
  have w1e : ∃ w1, w1 = (w.alloc (Obj.cells #[.func (.func 69) #[] #[]] 126)).alloc (Obj.cells #[.int .i64 0, .int .i64 0, .int .i64 0] 87) := ⟨_, rfl⟩
  obtain ⟨w1, hw1⟩ := w1e
  have B1 := hid (show Below w.heap.size w w1 by rw [hw1]; (repeat (first | exact Below.refl _ _ | assumption | refine below_drewN ?_ _ | refine Below.drew ?_ | refine Below.alloc ?_ (by (try simp); (try omega)) _ | refine Below.setCell ?_ (by (try simp); (try omega)) _)))
  have X1 := hid (show Blk w1 w.heap.size 126 #[.func (.func 69) #[] #[]] by rw [hw1]; exact (Blk.new w _ _).alloc _)
  have Y1 := hid (show Blk w1 (w.heap.size + 1) 87 #[.int .i64 0, .int .i64 0, .int .i64 0] by rw [hw1]; have := Blk.new (w.alloc (Obj.cells #[.func (.func 69) #[] #[]] 126)) 87 #[.int .i64 0, .int .i64 0, .int .i64 0]; simpa using this)
  have HA := hid ha
  have H := hid h
  have HBS := hid (bsr_any 83 #[.pointer (some ⟨w.heap.size, 0, none⟩)] eg A c l q w1 hl ha ((h.below B1.out).more B1.out.size) (fun x W hW => rcmp_any w.heap.size x q W (X1.out.below hW X1.out.lt).lt (by have := (X1.out.below hW X1.out.lt).cell 0; simpa using this)))
  clear ha h eg
  go_enter Tryd.func68, Tryd.ntmps68
  go_upto_region 1 with fail
  rw [← hw1]
  clear hw1
  go_wp2_with fail
  refine HBS.out.mono ?_
  rintro e w2 ⟨⟨i, ok, rfl, hr⟩, hB⟩
  have B2 := hid (B1.out.trans (hB.mono B1.out.size))
  have Y2 := hid (Y1.out.below hB Y1.out.lt)
  clear hB HBS X1 Y1 B1
  rcases hr with ⟨rfl, hi, hx⟩ | ⟨rfl, hx⟩
  · obtain ⟨b, off, rfl, hb, c1, c2, c3, -⟩ := H.out.row hi
    replace c1 := (bcell B2.out b _ hb).trans c1
    replace c2 := (bcell B2.out b _ hb).trans c2
    replace c3 := (bcell B2.out b _ hb).trans c3
    have hz : b < w2.heap.size := by have := B2.out.size; omega
    have hiI : (i : Int) < l.length := by omega
    have hz2 := Y2.out.lt
    have hfz := Y2.out.frozen
    have y0 := Y2.out.cell 0; have y1 := Y2.out.cell 1; have y2 := Y2.out.cell 2
    simp at y0 y1 y2
    have HX := hid hx
    have HM := hid (List.getElem_mem hi)
    generalize l[i] = x at *
    obtain ⟨x0, x1, x2⟩ := x
    simp only at c1 c2 c3
    have YF := hid (show Blk (((w2.setCell ⟨w.heap.size + 1, 0, none⟩ (.int .i64 x0)).setCell ⟨w.heap.size + 1, 1, none⟩ (.int .i64 x1)).setCell ⟨w.heap.size + 1, 2, none⟩ (.int .i64 x2)) (w.heap.size + 1) 87 #[.int .i64 x0, .int .i64 x1, .int .i64 x2] by
      have := ((Y2.out.set_ 0 (.int .i64 x0)).set_ 1 (.int .i64 x1)).set_ 2 (.int .i64 x2)
      simpa using this)
    have BF := hid (show Below w.heap.size w (((w2.setCell ⟨w.heap.size + 1, 0, none⟩ (.int .i64 x0)).setCell ⟨w.heap.size + 1, 1, none⟩ (.int .i64 x1)).setCell ⟨w.heap.size + 1, 2, none⟩ (.int .i64 x2)) from ((B2.out.setCell (p := ⟨w.heap.size + 1, 0, none⟩) (by simp) _).setCell (p := ⟨w.heap.size + 1, 1, none⟩) (by simp) _).setCell (p := ⟨w.heap.size + 1, 2, none⟩) (by simp) _)
    clear hx H HA
    as_aux_lemma =>
      go_wp2_with fail
      refine bodyPost_ret (results_ct Tryd.results68 _ _ (w.heap.size + 1) 87 _ _ rfl YF.out Tryd.underlying87 rfl (by kernel_rfl)) rfl ?_
      exact ⟨.inl ⟨_, HX.out, HM.out, rfl⟩, BF.out⟩
  · have hz2 := Y2.out.lt
    have hfz := Y2.out.frozen
    have y0 := Y2.out.cell 0; have y1 := Y2.out.cell 1; have y2 := Y2.out.cell 2
    simp at y0 y1 y2
    have HX := hid hx
    have YF := hid (Blk.alloc (show Blk (((w2.setCell ⟨w.heap.size + 1, 0, none⟩ (.int .i64 0)).setCell ⟨w.heap.size + 1, 1, none⟩ (.int .i64 0)).setCell ⟨w.heap.size + 1, 2, none⟩ (.int .i64 0)) (w.heap.size + 1) 87 #[.int .i64 0, .int .i64 0, .int .i64 0] by
      have := ((Y2.out.set_ 0 (.int .i64 0)).set_ 1 (.int .i64 0)).set_ 2 (.int .i64 0)
      simpa using this) (Obj.cells #[.int .i64 0, .int .i64 0, .int .i64 0] 87))
    have BF := hid (Below.alloc (show Below w.heap.size w (((w2.setCell ⟨w.heap.size + 1, 0, none⟩ (.int .i64 0)).setCell ⟨w.heap.size + 1, 1, none⟩ (.int .i64 0)).setCell ⟨w.heap.size + 1, 2, none⟩ (.int .i64 0)) from ((B2.out.setCell (p := ⟨w.heap.size + 1, 0, none⟩) (by simp) _).setCell (p := ⟨w.heap.size + 1, 1, none⟩) (by simp) _).setCell (p := ⟨w.heap.size + 1, 2, none⟩) (by simp) _) (by have := B2.out.size; simp; omega) (Obj.cells #[.int .i64 0, .int .i64 0, .int .i64 0] 87))
    have hz3 : w.heap.size + 1 < w2.heap.size + 1 := by omega
    clear hx H HA
    as_aux_lemma =>
      go_wp2_with fail
      refine bodyPost_ret (results_ct Tryd.results68 _ _ (w.heap.size + 1) 87 _ _ rfl YF.out Tryd.underlying87 rfl (by kernel_rfl)) rfl ?_
      exact ⟨.inr ⟨HX.out, rfl⟩, BF.out⟩
set_option maxRecDepth 100000 in
set_option maxHeartbeats 1000000 in
theorem trow_any (A : Option Addr) (c : Nat) (l : List Row) (q : Int) (w : World) (hl : l.length ≤ 1000000) (ha : Asc kP l) (h : SlR w w.heap.size A l) :
    Calls Tryd.prog 54 #[.slice A l.length c, .int .i64 q] w fun e w' => RowR l q e ∧ Below w.heap.size w w' := by
  obtain ⟨w1, hw1⟩ : ∃ w1, w1 = w.alloc (Obj.cells #[.int .i64 0, .int .i64 0, .int .i64 0] 87) := ⟨_, rfl⟩
  have B1 := hid (show Below w.heap.size w w1 by rw [hw1]; (repeat (first | exact Below.refl _ _ | assumption | refine below_drewN ?_ _ | refine Below.drew ?_ | refine Below.alloc ?_ (by (try simp); (try omega)) _ | refine Below.setCell ?_ (by (try simp); (try omega)) _)))
  have Y1 := hid (show Blk w1 w.heap.size 87 #[.int .i64 0, .int .i64 0, .int .i64 0] by rw [hw1]; exact Blk.new w _ _)
  have HS := hid (searchr_any A c l q w1 hl ha ((h.below B1.out).more B1.out.size))
  clear ha h
  go_enter Tryd.func54, Tryd.ntmps54
  go_upto_region 1 with fail
  rw [← hw1]
  clear hw1
  go_wp2_with fail
  refine HS.out.mono ?_
  rintro e w2 ⟨hr, hB⟩
  have B2 := hid (B1.out.trans (hB.mono B1.out.size))
  have Y2 := hid (Y1.out.below hB Y1.out.lt)
  clear hB HS Y1 B1
  have hz2 := Y2.out.lt
  have hfz := Y2.out.frozen
  have y0 := Y2.out.cell 0; have y1 := Y2.out.cell 1; have y2 := Y2.out.cell 2
  simp at y0 y1 y2
  have YF := hid (fun (x0 x1 x2 : Int) => show Blk (((w2.setCell ⟨w.heap.size, 0, none⟩ (.int .i64 x0)).setCell ⟨w.heap.size, 1, none⟩ (.int .i64 x1)).setCell ⟨w.heap.size, 2, none⟩ (.int .i64 x2)) w.heap.size 87 #[.int .i64 x0, .int .i64 x1, .int .i64 x2] by
    have := ((Y2.out.set_ 0 (.int .i64 x0)).set_ 1 (.int .i64 x1)).set_ 2 (.int .i64 x2)
    simpa using this)
  have BF := hid (fun (x0 x1 x2 : Value) => show Below w.heap.size w (((w2.setCell ⟨w.heap.size, 0, none⟩ x0).setCell ⟨w.heap.size, 1, none⟩ x1).setCell ⟨w.heap.size, 2, none⟩ x2) from ((B2.out.setCell (p := ⟨w.heap.size, 0, none⟩) (by simp) _).setCell (p := ⟨w.heap.size, 1, none⟩) (by simp) _).setCell (p := ⟨w.heap.size, 2, none⟩) (by simp) _)
  rcases hr with ⟨x, hx, hm, rfl⟩ | ⟨hx, rfl⟩
  · obtain ⟨x0, x1, x2⟩ := x
    have HX := hid hx; have HM := hid hm
    clear hx hm
    as_aux_lemma =>
      go_wp2_with fail
      refine bodyPost_ret (results_ct Tryd.results54 _ _ w.heap.size 87 _ _ rfl (YF.out _ _ _) Tryd.underlying87 rfl (by kernel_rfl)) rfl ?_
      exact ⟨.inl ⟨_, HX.out, HM.out, rfl⟩, BF.out _ _ _⟩
  · have HX := hid hx
    clear hx
    as_aux_lemma =>
      go_wp2_with fail
      refine bodyPost_ret (results_ct Tryd.results54 _ _ w.heap.size 87 _ _ rfl (YF.out _ _ _) Tryd.underlying87 rfl (by kernel_rfl)) rfl ?_
      exact ⟨.inr ⟨HX.out, rfl⟩, BF.out _ _ _⟩
/-! ### Moves -/
/-- What move returns: the positions lie where they lay in w'. -/
def MvR (o : Option Mv) (e : Ending) (w' : World) : Prop :=
  (∃ m A c, o = some m ∧ e = .returned (.tuple #[.agg #[.int .i64 m.1, .slice A m.2.length c], .bool true]) ∧ SlR w' w'.heap.size A m.2 ∧ m.2.length ≤ maxLen) ∨ (o = none ∧ e = .returned (.tuple #[.agg #[.int .i64 0, .slice none 0 0], .bool false]))
set_option maxRecDepth 100000 in
set_option maxHeartbeats 1000000 in
theorem searchm_any (A : Option Addr) (c : Nat) (l : List Mv) (q : Int) (w0 w : World) (hl : l.length ≤ 1000000) (ha : Asc kM l) (h0 : SlR w0 w0.heap.size A l) (hb0 : Below w0.heap.size w0 w) :
    Calls Tryd.prog 70 #[.slice A l.length c, .int .i64 q, .func (.func 71) #[] #[]] w fun e w' => MvR (look kM l q) e w0 ∧ Below w.heap.size w w' := by
  have eg : ∀ args w, (callFunc 85 args).run Tryd.prog w = .ok (.enter 85 args) w := enters_of Tryd.func85 (by kernel_rfl) rfl
  have w1e : ∃ w1, w1 = (w.alloc (Obj.cells #[.func (.func 71) #[] #[]] 128)).alloc (Obj.cells #[.int .i64 0, .slice none 0 0] 105) := ⟨_, rfl⟩
  obtain ⟨w1, hw1⟩ := w1e
  have B1 := hid (show Below w.heap.size w w1 by rw [hw1]; (repeat (first | exact Below.refl _ _ | assumption | refine below_drewN ?_ _ | refine Below.drew ?_ | refine Below.alloc ?_ (by (try simp); (try omega)) _ | refine Below.setCell ?_ (by (try simp); (try omega)) _)))
  have X1 := hid (show Blk w1 w.heap.size 128 #[.func (.func 71) #[] #[]] by rw [hw1]; exact (Blk.new w _ _).alloc _)
  have Y1 := hid (show Blk w1 (w.heap.size + 1) 105 #[.int .i64 0, .slice none 0 0] by rw [hw1]; have := Blk.new (w.alloc (Obj.cells #[.func (.func 71) #[] #[]] 128)) 105 #[.int .i64 0, .slice none 0 0]; simpa using this)
  have h : SlR w w.heap.size A l := (h0.below hb0).more hb0.size
  have H0 := hid h0; have HB0 := hid hb0
  have HBS := hid (bsm_any 85 #[.pointer (some ⟨w.heap.size, 0, none⟩)] eg A c l q w1 hl ha ((h.below B1.out).more B1.out.size) (fun x A n c W hW => mcmp_any w.heap.size x.1 A n c q W (X1.out.below hW X1.out.lt).lt (by have := (X1.out.below hW X1.out.lt).cell 0; simpa using this)))
  clear ha h h0 eg hb0
  go_enter Tryd.func70, Tryd.ntmps70
  go_upto_region 1 with fail
  rw [← hw1]
  clear hw1
  go_wp2_with fail
  refine HBS.out.mono ?_
  rintro e w2 ⟨⟨i, ok, rfl, hr⟩, hB⟩
  have B2 := hid (B1.out.trans (hB.mono B1.out.size))
  have Y2 := hid (Y1.out.below hB Y1.out.lt)
  clear hB HBS X1 Y1 B1
  have hz2 := Y2.out.lt
  have hfz := Y2.out.frozen
  have y0 := Y2.out.cell 0; have y1 := Y2.out.cell 1
  simp at y0 y1
  rcases hr with ⟨rfl, hi, hx⟩ | ⟨rfl, hx⟩
  · obtain ⟨b, off, A', c', rfl, hb, c1, c2, g3, g4, hs, -⟩ := H0.out.mv hi
    have B9 := HB0.out.trans (B2.out.mono HB0.out.size)
    replace c1 := (bcell B9 b _ hb).trans c1
    replace c2 := (bcell B9 b _ hb).trans c2
    have hz : b < w2.heap.size := by have := B9.size; omega
    clear B9
    have hiI : (i : Int) < l.length := by omega
    have HX := hid hx
    have HS := hid hs
    have HL := hid (Nat.le_trans g3 g4)
    generalize l[i] = x at *
    obtain ⟨x0, x1⟩ := x
    simp only at c1 c2 HS HL
    have YF := hid (show Blk ((w2.setCell ⟨w.heap.size + 1, 0, none⟩ (.int .i64 x0)).setCell ⟨w.heap.size + 1, 1, none⟩ (.slice A' x1.length c')) (w.heap.size + 1) 105 #[.int .i64 x0, .slice A' x1.length c'] by
      have := (Y2.out.set_ 0 (.int .i64 x0)).set_ 1 (.slice A' x1.length c')
      simpa using this)
    have BF := hid (show Below w.heap.size w ((w2.setCell ⟨w.heap.size + 1, 0, none⟩ (.int .i64 x0)).setCell ⟨w.heap.size + 1, 1, none⟩ (.slice A' x1.length c')) from (B2.out.setCell (p := ⟨w.heap.size + 1, 0, none⟩) (by simp) _).setCell (p := ⟨w.heap.size + 1, 1, none⟩) (by simp) _)
    clear hx H0 hs g3 g4
    as_aux_lemma =>
      go_wp2_with fail
      refine bodyPost_ret (results_ct Tryd.results70 _ _ (w.heap.size + 1) 105 _ _ rfl YF.out Tryd.underlying105 rfl (by kernel_rfl)) rfl ?_
      exact ⟨.inl ⟨_, _, _, HX.out, rfl, HS.out, HL.out⟩, BF.out⟩
  · have HX := hid hx
    have YF := hid (Blk.alloc (show Blk ((w2.setCell ⟨w.heap.size + 1, 0, none⟩ (.int .i64 0)).setCell ⟨w.heap.size + 1, 1, none⟩ (.slice none 0 0)) (w.heap.size + 1) 105 #[.int .i64 0, .slice none 0 0] by
      have := (Y2.out.set_ 0 (.int .i64 0)).set_ 1 (.slice none 0 0)
      simpa using this) (Obj.cells #[.int .i64 0, .slice none 0 0] 105))
    have BF := hid (Below.alloc (show Below w.heap.size w ((w2.setCell ⟨w.heap.size + 1, 0, none⟩ (.int .i64 0)).setCell ⟨w.heap.size + 1, 1, none⟩ (.slice none 0 0)) from (B2.out.setCell (p := ⟨w.heap.size + 1, 0, none⟩) (by simp) _).setCell (p := ⟨w.heap.size + 1, 1, none⟩) (by simp) _) (by have := B2.out.size; simp; omega) (Obj.cells #[.int .i64 0, .slice none 0 0] 105))
    have hz3 : w.heap.size + 1 < w2.heap.size + 1 := by omega
    clear hx H0
    as_aux_lemma =>
      go_wp2_with fail
      refine bodyPost_ret (results_ct Tryd.results70 _ _ (w.heap.size + 1) 105 _ _ rfl YF.out Tryd.underlying105 rfl (by kernel_rfl)) rfl ?_
      exact ⟨.inr ⟨HX.out, rfl⟩, BF.out⟩
end Go.Proofs.YtfpehakllnkaeaaDoor
