
/- Game: the law's row, the reference's Move. -/
import Derived.Test.YtiaplhdgchbkkaaGamV
set_option linter.unusedSimpArgs false
set_option linter.unusedVariables false
namespace Go.Proofs.Ytiaplhdgchbkkaa
open Go.RowKit Go.IntWalk Go.Shelf

theorem results_ct {P : Program} {fn : Func} {p u : Tmp} {ty : TypeId} (h : fn.results = #[.cell p ty, .tmp u]) (tmps : Array Value) (w : World) (g : Nat) (t : TypeId) (cs : Array Value) (d : TypeDesc)
    (hp : tmps.getD p undef = .pointer (some ⟨g, 0, none⟩)) (hg : Blk w g t cs)
    (hu : P.underlying ty = some d) (hd : (match d with | .struct _ | .array _ _ => true | _ => false) = true) (hi : (P.info? ty).map (·.size) = some cs.size) :
    (results fn tmps).run P w = .ok (.tuple #[.agg cs, tmps.getD u undef]) w := by
  rw [results_cell_tmp h]
  rw [hp]
  simp [asAddr, run_loadVar_row w g t ty cs (0, 0) d hg hu hd hi]
def rowL (l : List Row) (pos : Int) : Row × Bool := match l.find? (fun x => decide (x.1 = pos)) with | some x => (x, true) | none => ((0, 0, 0), false)
theorem find_take {α : Type} {f : α → Bool} {l : List α} {k : Nat} (hk : k < l.length) (h : ∀ j (hj : j < l.length), j < k → f l[j] = false) (hf : f l[k] = true) : l.find? f = some l[k] := by
  rw [List.find?_eq_some_iff_getElem]
  exact ⟨hf, k, hk, rfl, fun j hj => by simpa using h j (by omega) hj⟩
theorem find_no {α : Type} {f : α → Bool} {l : List α} (h : ∀ j (hj : j < l.length), f l[j] = false) : l.find? f = none := by
  rw [List.find?_eq_none]
  intro x hx
  obtain ⟨j, hj, rfl⟩ := List.getElem_of_mem hx
  simpa using h j hj
set_option maxRecDepth 100000 in
set_option maxHeartbeats 1000000 in
theorem row_any (A : Option Addr) (c : Nat) (l : List Row) (pos : Int) (w : World) (hl : l.length ≤ maxLen) (h1 : SlR w w.heap.size A l) :
    Calls Try.prog 23 #[.slice A l.length c, .int .i64 pos] w fun e w' => e = .returned (.tuple #[.agg #[.int .i64 (rowL l pos).1.1, .int .i64 (rowL l pos).1.2.1, .int .i64 (rowL l pos).1.2.2], .bool (rowL l pos).2]) ∧ Below w.heap.size w w' := by
  unfold maxLen at hl
  go_enter Try.func23, Try.ntmps23
  go_wp2_with fail
  go_loopw [6] (fun i wr => ∃ k : Nat, k ≤ l.length ∧ i = .int .i64 k ∧ wr = w.alloc (Obj.cells #[.int .i64 0, .int .i64 0, .int .i64 0] 43) ∧ ∀ j (hj : j < l.length), j < k → decide (l[j].1 = pos) = false) (fun i _ => l.length - (intOf i).toNat)
  case atStart => exact ⟨0, by omega, rfl, rfl, fun j _ h => by omega⟩
  case round =>
    obtain ⟨k, hk, rfl, rfl, ht⟩ := hrel
    have HT := hid ht
    clear ht
    have hB := hid (show Below w.heap.size w (w.alloc (Obj.cells #[.int .i64 0, .int .i64 0, .int .i64 0] 43)) by (repeat (first | exact Below.refl _ _ | assumption | refine below_drewN ?_ _ | refine Below.drew ?_ | refine Below.alloc ?_ (by (try simp); (try omega)) _ | refine Below.setCell ?_ (by (try simp); (try omega)) _)))
    by_cases hlt : k < l.length
    · have hlt' : (k : Int) < l.length := by omega
      obtain ⟨b1, o1, rfl, hb1, c1, c2, c3, _⟩ := h1.row hlt
      have c1' := (bcell hB.out b1 _ hb1).trans c1
      have c2' := (bcell hB.out b1 _ hb1).trans c2
      have c3' := (bcell hB.out b1 _ hb1).trans c3
      have hfi := hid (fun (he : l[k].1 = pos) => find_take (f := fun x : Row => decide (x.1 = pos)) hlt HT.out (by simpa using he))
      have hno := hid (fun (he : ¬ l[k].1 = pos) => show ∀ j (hj : j < l.length), j < k + 1 → decide (l[j].1 = pos) = false from fun j hj hjk => by
        by_cases e : j = k
        · subst e; simpa using he
        · exact HT.out j hj (by omega))
      generalize l[k] = x at *
      obtain ⟨x0, x1, x2⟩ := x
      simp only at c1 c2 c3 c1' c2' c3' hfi hno
      clear c1 c2 c3
      by_cases he : x0 = pos
      · have hr := hid (show rowL l pos = ((x0, x1, x2), true) by unfold rowL; rw [hfi.out he])
        subst he
        have hBx := hid (show Below w.heap.size w (w.alloc (Obj.cells #[.int .i64 x0, .int .i64 x1, .int .i64 x2] 43)) by (repeat (first | exact Below.refl _ _ | assumption | refine below_drewN ?_ _ | refine Below.drew ?_ | refine Below.alloc ?_ (by (try simp); (try omega)) _ | refine Below.setCell ?_ (by (try simp); (try omega)) _)))
        clear hfi hno
        go_wp2_with fail
        refine bodyPost_ret (results_ct Try.results23 _ _ w.heap.size 43 #[.int .i64 x0, .int .i64 x1, .int .i64 x2] _ rfl (Blk.new _ _ _) Try.underlying43 rfl (by kernel_rfl)) rfl ?_
        exact ⟨by rw [hr.out]; rfl, hBx.out⟩
      · as_aux_lemma =>
          go_wp2_with fail
          go_roundw
          case rel => exact ⟨k + 1, by omega, by go_num, by first | trivial | rfl, hno.out he⟩
          case measure => simp [intOf]; omega
    · obtain rfl : k = l.length := by omega
      have hr := hid (show rowL l pos = ((0, 0, 0), false) by unfold rowL; rw [find_no (fun j hj => HT.out j hj hj)])
      go_wp2_with fail
      refine bodyPost_ret (results_ct Try.results23 _ _ w.heap.size 43 #[.int .i64 0, .int .i64 0, .int .i64 0] _ rfl (Blk.new _ _ _) Try.underlying43 rfl (by kernel_rfl)) rfl ?_
      exact ⟨by rw [hr.out]; rfl, hB.out⟩
set_option maxRecDepth 100000 in
set_option maxHeartbeats 2000000 in
/-- The reference's Move of a position that is there, where some move has this Act. -/
theorem move_any (Ag Am : Option Addr) (cg cm : Nat) (g : Gm) (p k0 : Nat) (act : Int) (l : List Mv) (hpl : g.2.getD p [] = l) (w : World) (h : GmR w w.heap.size Ag Am g) (hg : GmOK g) (hp : p < g.2.length) (hk0 : k0 < l.length) (ha : l[k0].1 = act) (hf : ∀ j, ∀ hj : j < k0, (l[j]'(by omega)).1 ≠ act) :
    Calls Try.prog 24 #[.agg #[.slice Ag g.1.length cg, .slice Am g.2.length cm], .int .i64 p, .int .i64 act] w fun e w' => ∃ A2 c2, e = .returned (.tuple #[.agg #[.int .i64 act, .slice A2 l[k0].2.length c2], .bool true]) ∧ SlR w w.heap.size A2 l[k0].2 ∧ Below w.heap.size w w' := by
  have hps : p < 1000 := by have := hg.n; have := hg.s; omega
  obtain ⟨goal, mvs⟩ := g
  simp only at hpl hp
  have hlm : mvs.length ≤ 9223372036854775807 := by have := h.lm; unfold maxLen at this; simpa using this
  have hp' : (p : Int) < mvs.length := by omega
  have hpe : mvs[p] = l := by rw [← hpl, List.getD, List.getElem?_eq_getElem hp]; rfl
  have hL := h.mvs.list hp
  have hLl := hg.l _ (List.getElem_mem hp)
  simp only at hL hLl
  rw [hpe] at hL hLl
  clear hpe hpl
  simp only
  obtain ⟨m9, hm9⟩ : ∃ m, l[k0] = m := ⟨_, rfl⟩
  rw [hm9] at ha
  simp only [hm9]
  obtain ⟨act0, tos⟩ := m9
  simp only at ha ⊢
  subst ha
  have HM9 := hid hm9
  clear hm9
  obtain ⟨b, off, A', c', rfl, hb, hc, h1, h2, h3⟩ := hL
  obtain ⟨w2, hw2⟩ : ∃ w2, w2 = (w.alloc (Obj.cells #[.slice Ag goal.length cg, .slice (some ⟨b, off, none⟩) mvs.length cm] 25)).alloc (Obj.cells #[.int .i64 0, .slice none 0 0] 41) := ⟨_, rfl⟩
  have hB := hid (show Below w.heap.size w w2 by rw [hw2]; (repeat (first | exact Below.refl _ _ | assumption | refine below_drewN ?_ _ | refine Below.drew ?_ | refine Below.alloc ?_ (by (try simp); (try omega)) _ | refine Below.setCell ?_ (by (try simp); (try omega)) _)))
  have x1 : Blk w2 w.heap.size 25 #[.slice Ag goal.length cg, .slice (some ⟨b, off, none⟩) mvs.length cm] := by rw [hw2]; exact (Blk.new _ _ _).alloc _
  have x2 : Blk w2 (w.heap.size + 1) 41 #[.int .i64 0, .slice none 0 0] := by rw [hw2]; exact Blk.new_at (by simp)
  have y1 := x1.cell 1; have z1 := x1.lt; have y20 := x2.cell 0; have y21 := x2.cell 1; have z2 := x2.lt; have f20 := x2.frozen 0; have f21 := x2.frozen 1
  simp at y1 y20 y21
  have hc2 := (bcell hB.out b _ hb).trans hc
  have hz : b < w2.heap.size := by have := hB.out.size; omega
  have X2 := hid x2
  have HW2 := hid hw2
  have H3 := hid h3
  clear hw2 x1 x2 h1 h2 h3 hc h hg
  go_enter Try.func24, Try.ntmps24
  go_upto_region 1 with fail
  rw [← HW2.out]
  go_wp2_with fail
  go_loopw [8] (fun i wr => ∃ k : Nat, k ≤ k0 ∧ i = .int .i64 k ∧ wr = w2) (fun i _ => l.length - (intOf i).toNat)
  case atStart => exact ⟨0, by omega, rfl, rfl⟩
  case round =>
    obtain ⟨k, hk, rfl, rfl⟩ := hrel
    have hkl : k < l.length := by omega
    have hkl' : (k : Int) < l.length := by omega
    obtain ⟨b2, o2, A2, c2, rfl, hb2, g0, g1, _, _, hs2, _⟩ := H3.out.mv hkl
    have g0' := (bcell hB.out b2 _ hb2).trans g0
    have g1' := (bcell hB.out b2 _ hb2).trans g1
    have hz2 : b2 < wr.heap.size := by have := hB.out.size; omega
    by_cases he : k = k0
    · subst he
      rw [HM9.out] at g0' g1' hs2
      simp only at g0' g1' hs2
      have HS2 := hid hs2
      clear hf g0 g1 hs2
      go_wp2_with fail
      have hb9 : Blk ((wr.setCell ⟨w.heap.size + 1, 0, none⟩ (.int .i64 act0)).setCell ⟨w.heap.size + 1, 1, none⟩ (.slice A2 tos.length c2)) (w.heap.size + 1) 41 #[.int .i64 act0, .slice A2 tos.length c2] := by simpa using (X2.out.set_ 0 (.int .i64 act0)).set_ 1 (.slice A2 tos.length c2)
      refine bodyPost_ret (results_ct Try.results24 _ _ (w.heap.size + 1) 41 #[.int .i64 act0, .slice A2 tos.length c2] _ rfl hb9 Try.underlying41 rfl (by kernel_rfl)) rfl ?_
      exact ⟨A2, c2, rfl, HS2.out, (hB.out.setCell (by show w.heap.size ≤ w.heap.size + 1; omega) _).setCell (by show w.heap.size ≤ w.heap.size + 1; omega) _⟩
    · have hne := hf k (by omega)
      clear hf g0 g1 hs2
      generalize l[k] = m at *
      obtain ⟨act1, tos1⟩ := m
      simp only at g0' g1' hne
      as_aux_lemma =>
        go_wp2_with fail
        go_roundw
        case rel => exact ⟨k + 1, by omega, by go_num, by first | trivial | rfl⟩
        case measure => simp [intOf]; omega
end Go.Proofs.Ytiaplhdgchbkkaa
