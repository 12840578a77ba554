
/- Robots: clone, Did, Hear. -/
import Derived.Test.YtnnephifjikkdaaGreatDoorRobC
import Derived.Deep.RegionHeld3
set_option linter.unusedSimpArgs false
set_option linter.unusedVariables false
namespace Go.Proofs.YtnnephifjikkdaaGreatDoor
open Go.RowKit Go.IntWalk

theorem OwnI.far {w : World} {base : Nat} {v : Value} {l : List Int} (h : OwnI w base v l) {p : Addr} (hp : v.ownBlock ≠ some p.block) (u : Value) : OwnI (w.setCell p u) base v l := by
  refine ⟨h.1, ?_⟩
  rcases h.2 with h0 | ⟨g, cap, cur, hv, hg, hb, r⟩
  · exact .inl h0
  · refine .inr ⟨g, cap, cur, hv, hg, (Below.heap_setCell w p u g ?_).trans hb, r⟩
    intro e
    apply hp
    rw [hv, ← e]; rfl
theorem OwnI.past {w : World} {base : Nat} {v : Value} {l : List Int} (h : OwnI w base v l) {g : Nat} (hg : g < base) : v.ownBlock ≠ some g := by
  rcases h.2 with ⟨rfl, _⟩ | ⟨g', cap, cur, rfl, hb, _⟩
  · simp [Value.ownBlock]
  · intro e
    have : g' = g := by simpa [Value.ownBlock] using e
    omega
theorem OwnI.lower {w : World} {base base' : Nat} {v : Value} {l : List Int} (h : OwnI w base v l) (hb : base' ≤ base) : OwnI w base' v l := by
  refine ⟨h.1, ?_⟩
  rcases h.2 with h0 | ⟨g, cap, cur, hv, hg, r⟩
  · exact .inl h0
  · exact .inr ⟨g, cap, cur, hv, by omega, r⟩
/-- A result: a mind. -/
def RetMind (w : World) (c : Int) (q : List Int) (e : Ending) (w' : World) : Prop := ∃ A cq, e = .returned (.agg #[.int .i64 c, .slice A q.length cq]) ∧ q.length ≤ cq ∧ cq ≤ maxLen ∧ OwnI w' w.heap.size (.slice A q.length cq) q ∧ SlR w' w'.heap.size A q ∧ Below w.heap.size w w'
set_option maxRecDepth 100000 in
set_option maxHeartbeats 1000000 in
theorem clone_any (c0 : Int) (Aq : Option Addr) (cq : Nat) (q : List Int) (w : World) (hql : q.length ≤ 65536) (hq : SlR w w.heap.size Aq q) :
    Calls Tryz.prog 79 #[.agg #[.int .i64 c0, .slice Aq q.length cq]] w (RetMind w c0 q) := by
  have hb0 : Below w.heap.size w (w.alloc (Obj.cells #[.int .i64 c0, .slice Aq q.length cq] 48)) := by (repeat (first | exact Below.refl _ _ | assumption | refine below_drewN ?_ _ | refine Below.drew ?_ | refine Below.alloc ?_ (by (try simp); (try omega)) _ | refine Below.setCell ?_ (by (try simp); (try omega)) _))
  have hints := hid hq.ints
  go_enter Tryz.func79, Tryz.ntmps79
  go_wp2_with fail
  go_region_with (go_at_call 78; refine (sclone_own Aq cq q _ hql ?_).mono ?_; (exact (hq.below (by (repeat (first | exact Below.refl _ _ | assumption | refine below_drewN ?_ _ | refine Below.drew ?_ | refine Below.alloc ?_ (by (try simp); (try omega)) _ | refine Below.setCell ?_ (by (try simp); (try omega)) _)))).more (by simp; omega)); rintro e w1 ⟨_, rfl, hown, hB⟩; obtain ⟨A', c', rfl, h1, h2, _⟩ := hown.slr hints.out; have m0 := bcell hB w.heap.size 0 (by simp; omega); have z1 := hB.size; have f0 := bfrozen hB (w.heap.size+1) 0 (by simp); have f1 := bfrozen hB (w.heap.size+1) 1 (by simp); have r0 := bcell hB (w.heap.size+1) 0 (by simp); have r1 := bcell hB (w.heap.size+1) 1 (by simp); simp [go_sem] at m0 z1 f0 f1 r0 r1; have z2 : w.heap.size + 1 < w1.heap.size := by omega)
  all_goals
    go_wp2_with fail
    refine bodyPost_ret (v := .agg #[.int .i64 c0, .slice A' q.length c']) (by simp [results, Tryz.results79, go_sem, f0, f1, r0, r1, z2]) rfl ?_
    have hown2 := (hown.far (p := ⟨w.heap.size + 1, 0, none⟩) (hown.past (by simp)) (.int .i64 c0)).far (p := ⟨w.heap.size + 1, 1, none⟩) (hown.past (by simp)) (.slice A' q.length c')
    obtain ⟨A2, c2, e2, _, _, h3⟩ := hown2.slr hints.out
    injection e2 with e3 _ _
    subst e3
    have hb2 : Below w.heap.size w w1 := by
      refine (((Below.refl _ w).alloc (Nat.le_refl _) (Obj.cells #[.int .i64 c0, .slice Aq q.length cq] 48)).alloc (by simp) (Obj.cells #[.int .i64 0, .slice none 0 0] 48)).drew.trans (hB.mono ?_)
      simp; omega
    exact ⟨A', c', rfl, h1, h2, hown2.lower (by simp; omega), h3, (hb2.setCell (by simp) _).setCell (by simp) _⟩
end Go.Proofs.YtnnephifjikkdaaGreatDoor
