
/- Game: clone of an empty game, and of any. -/
import Derived.Test.YtiaplhdgchbkkaaGamCd
set_option linter.unusedSimpArgs false
set_option linter.unusedVariables false
namespace Go.Proofs.Ytiaplhdgchbkkaa
open Go.RowKit Go.IntWalk Go.Shelf

set_option maxRecDepth 100000 in
set_option maxHeartbeats 40000000 in
theorem clone0_any (Ag Am : Option Addr) (cg cm : Nat) (w : World) :
    Calls Try.prog 25 #[.agg #[.slice Ag 0 cg, .slice Am 0 cm]] w fun e w' => ∃ vG vM, e = .returned (.agg #[vG, vM]) ∧ CloneR w w' ([], []) vG vM := by
  obtain ⟨w1, hw1⟩ : ∃ w1, w1 = ((w.alloc (Obj.cells #[.slice Ag 0 cg, .slice Am 0 cm] 25)).alloc (Obj.cells #[.slice none 0 0, .slice none 0 0] 25)).alloc (Obj.cells #[] 4) := ⟨_, rfl⟩
  have s1 : w1.heap.size = w.heap.size + 1 + 1 + 1 := by rw [hw1]; simp
  have B1 := hid (show Below w.heap.size w w1 by rw [hw1]; (repeat (first | exact Below.refl _ _ | assumption | refine below_drewN ?_ _ | refine Below.drew ?_ | refine Below.alloc ?_ (by (try simp); (try omega)) _ | refine Below.setCell ?_ (by (try simp); (try omega)) _)))
  have X1 := hid (show Blk w1 w.heap.size 25 #[.slice Ag 0 cg, .slice Am 0 cm] by rw [hw1]; exact ((Blk.new w _ _).alloc _).alloc _)
  have Y1 := hid (show Blk w1 (w.heap.size + 1) 25 #[.slice none 0 0, .slice none 0 0] by rw [hw1]; exact (Blk.new_at (by simp)).alloc _)
  have Z1 := hid (show Blk w1 (w.heap.size + 1 + 1) 4 #[] by rw [hw1]; exact Blk.new_at (by simp))
  have O1 := hid (show OwnB w1 w.heap.size (.slice (some ⟨w.heap.size + 1 + 1, 0, none⟩) 0 0) [] from ⟨rfl, .inr ⟨_, 0, #[], rfl, by omega, Z1.out, Nat.le_refl _, by unfold maxLen; omega, rfl, rfl⟩⟩)
  have hb1 := B1.out.size
  subst hw1
  go_enter Try.func25, Try.ntmps25
  go_upto_region 2 with (at_builtin; refine wp_app0B _ rfl (.tmp 7) (.tmp 9) rfl (some ⟨w.heap.size + 1 + 1, 0, none⟩) Ag 0 0 cg (Nat.le_refl _) rfl rfl ?_)
  generalize ((w.alloc (Obj.cells #[.slice Ag 0 cg, .slice Am 0 cm] 25)).alloc (Obj.cells #[.slice none 0 0, .slice none 0 0] 25)).alloc (Obj.cells #[] 4) = w2 at *
  have b3 : Below w2.heap.size w2 (w2.alloc (Obj.cells #[.slice (some ⟨w.heap.size + 1 + 1, 0, none⟩) 0 0, .slice none 0 0] 25)) := (Below.refl _ _).alloc (Nat.le_refl _) _
  have B3 := hid (B1.out.trans (b3.mono hb1))
  have X3 := hid (X1.out.below b3 X1.out.lt)
  have Y3 := hid (Y1.out.below b3 Y1.out.lt)
  have O3 := hid (show OwnB (w2.alloc (Obj.cells #[.slice (some ⟨w.heap.size + 1 + 1, 0, none⟩) 0 0, .slice none 0 0] 25)) w.heap.size (.slice (some ⟨w.heap.size + 1 + 1, 0, none⟩) 0 0) [] from own_kt (ts := [4]) O1.out (KT.of_below b3) (by simp))
  have Z3 := hid (show Blk (w2.alloc (Obj.cells #[.slice (some ⟨w.heap.size + 1 + 1, 0, none⟩) 0 0, .slice none 0 0] 25)) (w.heap.size + 1 + 1 + 1) 25 #[.slice (some ⟨w.heap.size + 1 + 1, 0, none⟩) 0 0, .slice none 0 0] from Blk.new_at s1.symm)
  clear B1 X1 Y1 Z1 O1 hb1 b3 s1
  generalize w2.alloc (Obj.cells #[.slice (some ⟨w.heap.size + 1 + 1, 0, none⟩) 0 0, .slice none 0 0] 25) = w3 at *
  have x1 := X3.out.cell 1; have xz := X3.out.lt
  simp at x1
  go_wp2_with fail
  go_loopw [4] (fun iv wr => iv = .int .i64 0 ∧ Below w3.heap.size w3 wr) (fun _ _ => 0)
  case atStart => exact ⟨rfl, Below.refl _ _⟩
  case round =>
    obtain ⟨rfl, hB⟩ := hrel
    have X4 := hid (X3.out.below hB X3.out.lt)
    have Y4 := Y3.out.below hB Y3.out.lt
    have Z4 := Z3.out.below hB Z3.out.lt
    have O4 := own_kt (ts := [4]) O3.out (KT.of_below hB) (by simp)
    have x1 := X4.out.cell 1; have xz := X4.out.lt
    have z0 := Z4.cell 0; have z1 := Z4.cell 1; have zz := Z4.lt
    have yz := Y4.lt; have yf0 := Y4.frozen 0; have yf1 := Y4.frozen 1
    have y0 := Y4.cell 0; have y1 := Y4.cell 1
    simp at x1 z0 z1 y0 y1
    have hfin := hid (show Blk ((wr.setCell ⟨w.heap.size + 1, 0, none⟩ (.slice (some ⟨w.heap.size + 1 + 1, 0, none⟩) 0 0)).setCell ⟨w.heap.size + 1, 1, none⟩ (.slice none 0 0)) (w.heap.size + 1) 25 #[.slice (some ⟨w.heap.size + 1 + 1, 0, none⟩) 0 0, .slice none 0 0] by simpa using (Y4.set_ 0 (.slice (some ⟨w.heap.size + 1 + 1, 0, none⟩) 0 0)).set_ 1 (.slice none 0 0))
    have hkt := hid ((KT.of_set (ts := [4]) (i := 0) Y4 (by decide) (.slice (some ⟨w.heap.size + 1 + 1, 0, none⟩) 0 0)).trans (KT.of_set (i := 1) (Y4.set_ 0 (.slice (some ⟨w.heap.size + 1 + 1, 0, none⟩) 0 0)) (by decide) (.slice none 0 0)))
    have hBf := hid (((B3.out.trans (hB.mono B3.out.size)).setCell (p := ⟨w.heap.size + 1, 0, none⟩) (by show w.heap.size ≤ w.heap.size + 1; omega) (.slice (some ⟨w.heap.size + 1 + 1, 0, none⟩) 0 0)).setCell (p := ⟨w.heap.size + 1, 1, none⟩) (by show w.heap.size ≤ w.heap.size + 1; omega) (.slice none 0 0))
    have HO := hid O4
    clear hB X4 Y4 Z4 O4
    go_wp2_with fail
    refine bodyPost_ret (results_cell_row Try.results25 _ _ (w.heap.size + 1) 25 #[.slice (some ⟨w.heap.size + 1 + 1, 0, none⟩) 0 0, .slice none 0 0] (0, 0) _ rfl hfin.out Try.underlying25 rfl (by kernel_rfl)) rfl ?_
    exact ⟨_, _, rfl, [], own_kt HO.out hkt.out (by decide), ⟨rfl, .inl ⟨rfl, rfl⟩⟩, Nest.nil _, hBf.out, fun i hi => by simp at hi⟩
theorem gamE (g : Gm) (h1 : g.1.length = 0) (h2 : g.2.length = 0) : g = ([], []) := by
  obtain ⟨a, b⟩ := g
  simp at h1 h2
  rw [h1, h2]
theorem cloneN_any (Ag Am : Option Addr) (cg cm : Nat) (g : Gm) (w : World) (h : GmR w w.heap.size Ag Am g) (hg : GmOK g) :
    Calls Try.prog 25 #[.agg #[.slice Ag g.1.length cg, .slice Am g.2.length cm]] w fun e w' => ∃ vG vM, e = .returned (.agg #[vG, vM]) ∧ CloneR w w' g vG vM := by
  by_cases hn : 0 < g.1.length
  · exact clone_any Ag Am cg cm g w h hg hn
  · have h2 := hg.n
    obtain rfl := gamE g (by omega) (by omega)
    exact clone0_any Ag Am cg cm w
theorem CloneR.boxy {w w1 : World} {g : Gm} {vG vM : Value} (h : CloneR w w1 g vG vM) : ∃ vs, OGx (w1.alloc (Obj.cells #[vG, vM] 25)) w.heap.size w1.heap.size g vG vM vs ∧ Below w.heap.size w (w1.alloc (Obj.cells #[vG, vM] 25)) := by
  obtain ⟨h1, h2⟩ := h.box
  obtain ⟨vG', vM', vs, a1, a2, a3, a4, a5, a6⟩ := h1
  have e := (Blk.new w1 25 #[vG, vM]).uniq a1
  have e1 : vG = vG' := by have := congrArg (fun c => c[0]?) e; simpa using this
  have e2 : vM = vM' := by have := congrArg (fun c => c[1]?) e; simpa using this
  subst e1 e2
  exact ⟨vs, ⟨a1, a2, a3, a4, a5, a6⟩, h2⟩
end Go.Proofs.Ytiaplhdgchbkkaa
