
/- Game: the reference's Answer. -/
import Derived.Test.YtiaplhdgchbkkaaGamRe
set_option linter.unusedSimpArgs false
set_option linter.unusedVariables false
namespace Go.Proofs.Ytiaplhdgchbkkaa
open Go.RowKit Go.IntWalk Go.Shelf

set_option maxRecDepth 100000 in
set_option maxHeartbeats 4000000 in
/-- Move, where there is none. -/
theorem move_no (Ag Am : Option Addr) (cg cm : Nat) (g : Gm) (pos act : Int) (w : World) (h : GmR w w.heap.size Ag Am g) (hg : GmOK g) (hno : pos < 0 ∨ (g.2.length : Int) ≤ pos ∨ (g.2.getD pos.toNat []).find? (fun m => decide (m.1 = act)) = none) :
    Calls Try.prog 24 #[.agg #[.slice Ag g.1.length cg, .slice Am g.2.length cm], .int .i64 pos, .int .i64 act] w fun e w' => e = .returned (.tuple #[.agg #[.int .i64 0, .slice none 0 0], .bool false]) ∧ Below w.heap.size w w' := by
  obtain ⟨w2, hw2⟩ : ∃ w2, w2 = (w.alloc (Obj.cells #[.slice Ag g.1.length cg, .slice Am g.2.length cm] 25)).alloc (Obj.cells #[.int .i64 0, .slice none 0 0] 41) := ⟨_, rfl⟩
  have hB := hid (show Below w.heap.size w w2 by rw [hw2]; (repeat (first | exact Below.refl _ _ | assumption | refine below_drewN ?_ _ | refine Below.drew ?_ | refine Below.alloc ?_ (by (try simp); (try omega)) _ | refine Below.setCell ?_ (by (try simp); (try omega)) _)))
  have x1 : Blk w2 w.heap.size 25 #[.slice Ag g.1.length cg, .slice Am g.2.length cm] := by rw [hw2]; exact (Blk.new _ _ _).alloc _
  have x2 : Blk w2 (w.heap.size + 1) 41 #[.int .i64 0, .slice none 0 0] := by rw [hw2]; exact Blk.new_at (by simp)
  have y1 := x1.cell 1; have z1 := x1.lt; have y20 := x2.cell 0; have y21 := x2.cell 1; have z2 := x2.lt; have f20 := x2.frozen 0; have f21 := x2.frozen 1
  simp at y1 y20 y21
  have X2 := hid x2
  have HW2 := hid hw2
  have hb9 := hid (show Blk ((w2.setCell ⟨w.heap.size + 1, 0, none⟩ (.int .i64 0)).setCell ⟨w.heap.size + 1, 1, none⟩ (.slice none 0 0)) (w.heap.size + 1) 41 #[.int .i64 0, .slice none 0 0] by simpa using (x2.set_ 0 (.int .i64 0)).set_ 1 (.slice none 0 0))
  have hfB := hid ((hB.out.setCell (p := ⟨w.heap.size + 1, 0, none⟩) (by show w.heap.size ≤ w.heap.size + 1; omega) (.int .i64 0)).setCell (p := ⟨w.heap.size + 1, 1, none⟩) (by show w.heap.size ≤ w.heap.size + 1; omega) (.slice none 0 0))
  have hlm : g.2.length ≤ 1000 := by have := hg.n; have := hg.s; omega
  have hL0 := hid h.mvs
  have HG := hid hg
  clear hw2 x1 x2 h hg
  by_cases h0 : pos < 0
  · clear hno
    go_enter Try.func24, Try.ntmps24
    go_upto_region 1 with fail
    rw [← HW2.out]
    go_wp2_with fail
    refine bodyPost_ret (results_ct Try.results24 _ _ (w.heap.size + 1) 41 #[.int .i64 0, .slice none 0 0] _ rfl hb9.out Try.underlying41 rfl (by kernel_rfl)) rfl ?_
    exact ⟨rfl, hfB.out⟩
  by_cases h1 : (g.2.length : Int) ≤ pos
  · clear hno
    go_enter Try.func24, Try.ntmps24
    go_upto_region 1 with fail
    rw [← HW2.out]
    go_wp2_with fail
    refine bodyPost_ret (results_ct Try.results24 _ _ (w.heap.size + 1) 41 #[.int .i64 0, .slice none 0 0] _ rfl hb9.out Try.underlying41 rfl (by kernel_rfl)) rfl ?_
    exact ⟨rfl, hfB.out⟩
  obtain ⟨p, rfl⟩ : ∃ p : Nat, pos = p := ⟨pos.toNat, by omega⟩
  have hp : p < g.2.length := by omega
  have hp' : (p : Int) < g.2.length := by omega
  have hfn := hno.resolve_left h0 |>.resolve_left h1
  rw [Int.toNat_natCast, List.getD, List.getElem?_eq_getElem hp, Option.getD_some] at hfn
  have hL := hL0.out.list hp
  have hLl := HG.out.l _ (List.getElem_mem hp)
  generalize g.2[p] = l at *
  obtain ⟨b, off, A', c', hAm, hb, hc, h5, h6, h3⟩ := hL
  subst hAm
  have hc2 := (bcell hB.out b _ hb).trans hc
  have hz : b < w2.heap.size := by have := hB.out.size; omega
  have H3 := hid h3
  have hll : l.length ≤ 1000 := hLl
  have HFN := hid (fun (k : Nat) (hk : k < l.length) => show ¬ l[k].1 = act from by
    rw [List.find?_eq_none] at hfn
    have := hfn _ (List.getElem_mem hk)
    simpa using this)
  clear hno hfn h3 hc h5 h6 hL0 HG hLl
  go_enter Try.func24, Try.ntmps24
  go_upto_region 1 with fail
  rw [← HW2.out]
  go_wp2_with fail
  go_loopw [8] (fun i wr => ∃ k : Nat, k ≤ l.length ∧ i = .int .i64 k ∧ wr = w2) (fun i _ => l.length - (intOf i).toNat)
  case atStart => exact ⟨0, by omega, rfl, rfl⟩
  case round =>
    obtain ⟨k, hk, rfl, rfl⟩ := hrel
    by_cases hkl : k < l.length
    · have hkl' : (k : Int) < l.length := by omega
      obtain ⟨b2, o2, A2, c2, rfl, hb2, g0, _⟩ := H3.out.mv hkl
      have g0' := (bcell hB.out b2 _ hb2).trans g0
      have hz2 : b2 < wr.heap.size := by have := hB.out.size; omega
      have hne := HFN.out k hkl
      clear g0
      generalize l[k] = m at *
      obtain ⟨act1, tos1⟩ := m
      simp only at g0' hne
      as_aux_lemma =>
        go_wp2_with fail
        go_roundw
        case rel => exact ⟨k + 1, by omega, by go_num, by first | trivial | rfl⟩
        case measure => simp [intOf]; omega
    · obtain rfl : k = l.length := by omega
      go_wp2_with fail
      refine bodyPost_ret (results_ct Try.results24 _ _ (w.heap.size + 1) 41 #[.int .i64 0, .slice none 0 0] _ rfl hb9.out Try.underlying41 rfl (by kernel_rfl)) rfl ?_
      exact ⟨rfl, hfB.out⟩
theorem fold_stay {R : List Int} {a : Int} (h : R.getD a.toNat 0 < 0) : ∀ l : List Int, l.foldl (wstep R) a = a
  | [] => rfl
  | x :: l => by
    have e : wstep R a x = a := by unfold wstep; rw [if_neg (fun hc => by omega)]
    rw [List.foldl_cons, e]
    exact fold_stay h l
theorem wf_succ {R : List Int} {tos : List Int} {a : Int} {j : Nat} (hj : j < tos.length) : (tos.take (j + 1)).foldl (wstep R) a = wstep R ((tos.take j).foldl (wstep R) a) tos[j] := by
  rw [List.take_add_one, List.getElem?_eq_getElem hj, List.foldl_append]; rfl
theorem wf_all {R : List Int} {tos : List Int} {a : Int} {j : Nat} : tos.foldl (wstep R) a = (tos.drop j).foldl (wstep R) ((tos.take j).foldl (wstep R) a) := by
  rw [← List.foldl_append, List.take_append_drop]
end Go.Proofs.Ytiaplhdgchbkkaa
