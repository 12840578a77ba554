
/- Robots: the reference's Did (chapter 22). -/
import Derived.Test.YtnnephifjikkdaaGreatDoorRobWc
import Derived.Test.YtnnephifjikkdaaGreatDoorRobF
set_option linter.unusedSimpArgs false
set_option linter.unusedVariables false
namespace Go.Proofs.YtnnephifjikkdaaGreatDoor
open Go.RowKit Go.IntWalk

set_option maxRecDepth 100000 in
theorem slice1g (g o c' : Nat) (x : Int) (q1 : List Int) (h1 : q1.length + 1 ≤ c') (h2 : c' ≤ maxLen) : ∃ A3 c3, (∀ W, (Instr.slice 22 (.slice (some ⟨g, o, none⟩) (q1.length + 1) c') (some (.int .i64 1)) none none).run Tryz.prog W = .ok (.slice A3 q1.length c3) W) ∧ ∀ w B, SlR w B (some ⟨g, o, none⟩) (x :: q1) → SlR w B A3 q1 := by
  by_cases h : c' = 1
  · subst h
    have : q1 = [] := List.eq_nil_of_length_eq_zero (by omega)
    subst this
    refine ⟨some ⟨g, o, none⟩, 0, fun W => ?_, fun _ _ _ => SlR.nil⟩
    rw [run_slice_l (ht := Tryz.underlying22) (h0 := by simp) (h1 := by simp)]
    simp [go_sem, sliced, Addr.add]
  · refine ⟨some ⟨g, o + 1, none⟩, c' - 1, fun W => ?_, fun _ _ h => h.tail⟩
    have : ¬ c' - 1 = 0 := by omega
    rw [run_slice_l (ht := Tryz.underlying22) (h0 := by omega) (h1 := by omega)]
    simp [go_sem, sliced, this, Addr.add, h]
/-- A result: a mind, its queue may be another's. -/
def RetMr (w : World) (r : Int × List Int) (e : Ending) (w' : World) : Prop := ∃ A cq, e = .returned (.agg #[.int .i64 r.1, .slice A r.2.length cq]) ∧ SlR w' w'.heap.size A r.2 ∧ Below w.heap.size w w'
theorem retMr_of {w w' : World} {r : Int × List Int} {e : Ending} {c : Int} {q : List Int} {A : Option Addr} {cq : Nat} (hr : r = (c, q)) (he : e = .returned (.agg #[.int .i64 c, .slice A q.length cq])) (h3 : SlR w' w'.heap.size A q) (h4 : Below w.heap.size w w') : RetMr w r e w' := by
  subst hr; exact ⟨A, cq, he, h3, h4⟩
set_option maxRecDepth 100000 in
set_option maxHeartbeats 4000000 in
theorem rfdid_same (W H D : Int) (Ak Ao : Option Addr) (ck co : Nat) (kind out : List Int) (c0 : Int) (Aq : Option Addr) (cq : Nat) (q : List Int) (act : Int) (done : Bool) (w : World) (hql : q.length ≤ maxLen) (hq : SlR w w.heap.size Aq q) (hno : done = false ∨ q = [] ∨ (done = true ∧ q ≠ [] ∧ q.headD 0 ≠ act)) :
    Calls Tryz.prog 48 #[.agg #[.int .i64 W, .int .i64 H, .int .i64 D, .slice Ak kind.length ck, .slice Ao out.length co], .agg #[.int .i64 c0, .slice Aq q.length cq], .int .i64 act, .bool done] w (RetMr w (c0, q)) := by
  have hql' := hql
  unfold maxLen at hql
  have hbq := hid (show Below w.heap.size w (((w.alloc (Obj.cells #[.int .i64 W, .int .i64 H, .int .i64 D, .slice Ak kind.length ck, .slice Ao out.length co] 24)).alloc (Obj.cells #[.int .i64 c0, .slice Aq q.length cq] 48)).alloc (Obj.cells #[.int .i64 c0, .slice Aq q.length cq] 48)) by (repeat (first | exact Below.refl _ _ | assumption | refine below_drewN ?_ _ | refine Below.drew ?_ | refine Below.alloc ?_ (by (try simp); (try omega)) _ | refine Below.setCell ?_ (by (try simp); (try omega)) _)))
  rcases hno with rfl | rfl | ⟨rfl, hne, hh⟩
  · go_enter Tryz.func48, Tryz.ntmps48
    go_wp2_with fail
    refine bodyPost_ret (v := .agg #[.int .i64 c0, .slice Aq q.length cq]) (by simp [results, Tryz.results48, go_sem]) rfl ?_
    exact retMr_of rfl rfl ((hq.below hbq.out).more hbq.out.size) hbq.out
  · simp only [List.length_nil] at *
    cases done with
    | false =>
      go_enter Tryz.func48, Tryz.ntmps48
      go_wp2_with fail
      refine bodyPost_ret (v := .agg #[.int .i64 c0, .slice Aq 0 cq]) (by simp [results, Tryz.results48, go_sem]) rfl ?_
      exact retMr_of (q := []) rfl rfl SlR.nil hbq.out
    | true =>
      go_enter Tryz.func48, Tryz.ntmps48
      go_wp2_with fail
      refine bodyPost_ret (v := .agg #[.int .i64 c0, .slice Aq 0 cq]) (by simp [results, Tryz.results48, go_sem]) rfl ?_
      exact retMr_of (q := []) rfl rfl SlR.nil hbq.out
  · have e1 : ((q.length : Int) == 0) = false := by
      simp [hne]
    have e2 : (q.headD 0 != act) = true := by rw [bne_iff_ne]; exact hh
    have Hne := hid hne
    clear hne hh
    have hb0 := hid (show Below w.heap.size w (((w.alloc (Obj.cells #[.int .i64 W, .int .i64 H, .int .i64 D, .slice Ak kind.length ck, .slice Ao out.length co] 24)).alloc (Obj.cells #[.int .i64 c0, .slice Aq q.length cq] 48)).alloc (Obj.cells #[.int .i64 0, .slice none 0 0] 48)) by (repeat (first | exact Below.refl _ _ | assumption | refine below_drewN ?_ _ | refine Below.drew ?_ | refine Below.alloc ?_ (by (try simp); (try omega)) _ | refine Below.setCell ?_ (by (try simp); (try omega)) _)))
    have hS0 := hid (show HS w #[.int .i64 W, .int .i64 H, .int .i64 D, .slice Ak kind.length ck, .slice Ao out.length co] #[.int .i64 c0, .slice Aq q.length cq] (((w.alloc (Obj.cells #[.int .i64 W, .int .i64 H, .int .i64 D, .slice Ak kind.length ck, .slice Ao out.length co] 24)).alloc (Obj.cells #[.int .i64 c0, .slice Aq q.length cq] 48)).alloc (Obj.cells #[.int .i64 0, .slice none 0 0] 48)) from ⟨hb0.out, ((Blk.new w _ _).alloc _).alloc _, (Blk.new_at (by simp)).alloc _, Blk.new_at (by simp)⟩)
    go_enter Tryz.func48, Tryz.ntmps48
    go_wp2_with fail
    refine (rfnextM_any c0 Aq cq q _ hql' ((hq.below hb0.out).more hb0.out.size)).mono ?_
    rintro e w1 ⟨rfl, hB⟩
    have hS1 := hid (hS0.out.step hB)
    clear hB hS0 hb0
    obtain ⟨m0, m1⟩ := blk2 hS1.out.m
    obtain ⟨r0, r1⟩ := blk2 hS1.out.r
    have f0 := hS1.out.r.frozen 0
    have f1 := hS1.out.r.frozen 1
    have z1 := hS1.out.m.lt
    have z3 := hS1.out.r.lt
    generalize q.headD 0 = hd at *
    go_wp2_with fail
    refine bodyPost_ret (v := .agg #[.int .i64 c0, .slice Aq q.length cq]) (by simp [results, Tryz.results48, go_sem, f0, f1, r0, r1, z3]) rfl ?_
    have hb2 := hid ((hS1.out.below.setCell (p := ⟨w.heap.size + 1 + 1, 0, none⟩) (by simp; omega) (.int .i64 c0)).setCell (p := ⟨w.heap.size + 1 + 1, 1, none⟩) (by simp; omega) (.slice Aq q.length cq))
    exact retMr_of rfl rfl ((hq.below hb2.out).more hb2.out.size) hb2.out
end Go.Proofs.YtnnephifjikkdaaGreatDoor
