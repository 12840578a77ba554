
/- Game: Ranks: a range over the growing queue. -/
import Derived.Test.YtdjjhflhdhihcaaGamDa
import Derived.Test.YtdjjhflhdhihcaaGamR
import Derived.Shelf.Abstract
import Derived.Shelf.RegionOpen
import Derived.OwnWalkIn
import Derived.TacticsInMore
import Derived.LoopNIn
import Derived.LoopIn
set_option linter.unusedSimpArgs false
set_option linter.unusedVariables false
namespace Go.Proofs.Ytdjjhflhdhihcaa
open Go.RowKit Go.IntWalk Go.Shelf
attribute [local go_sem] Oper.semAt_some

theorem won_any (b : Nat) (w : World) : Calls Try.prog 31 #[.pointer (some ⟨b, 0, none⟩)] w fun e w' => e = .returned (.func (.func 43) #[] #[.pointer (some ⟨w.heap.size, 0, none⟩)]) ∧ w' = w.alloc (Obj.cells #[.pointer (some ⟨b, 0, none⟩)] 63) := by
  go_enter Try.func31, Try.ntmps31
  go_wp2_with fail
  go_ret
  exact ⟨rfl, rfl⟩
/-- Between two rounds: the solver, its two boxes. -/
def RkI (w0 : World) (b gi b3 bw : Nat) (vg vm : Value) (g : Gm) (k : Nat) (W : World) : Prop :=
  ∃ vR vO vL vQ vI, Sol W w0.heap.size b gi vg vm vR vO vL vQ vI (stB g k).R (ownL (flatF 0 g.2)) (stB g k).L ((stB g k).Q.map Int.ofNat) (ilist (flatF 0 g.2) [] g.1.length) ∧ Below w0.heap.size w0 W ∧ Blk W b3 63 #[.pointer (some ⟨b, 0, none⟩)] ∧ Blk W bw 63 #[.pointer (some ⟨b, 0, none⟩)]
theorem Blk.offc {W W' : World} {row : Option Nat} {g : Nat} {t : TypeId} {cs : Array Value} (h : Blk W g t cs) (hg : W.grownBy W' row) (hr : ∀ r, row = some r → ∃ o : Obj, W.heap[r]? = some o ∧ o.isCells = false) : Blk W' g t cs :=
  h.grown hg (fun e => by
    obtain ⟨o, ho, hc⟩ := hr g e.symm
    rw [show W.heap[g]? = _ from h] at ho
    injection ho with ho
    subst ho
    simp [Obj.isCells] at hc)
theorem RkI.own {w0 : World} {b gi b3 bw : Nat} {vg vm : Value} {g : Gm} {B : Nat} (hB : w0.heap.size ≤ B) : OwnFrom B (RkI w0 b gi b3 bw vg vm g) := by
  intro k W W' row h hg hr
  obtain ⟨vR, vO, vL, vQ, vI, S, hBl, x3, xw⟩ := h
  have hr' : ∀ r, row = some r → ∃ o : Obj, W.heap[r]? = some o ∧ o.isCells = false := fun r e => (hr r e).2
  refine ⟨vR, vO, vL, vQ, vI, ⟨S.sb.offc hg hr', S.ib.offc hg hr', ?_, S.lo⟩, ?_, x3.offc hg hr', xw.offc hg hr'⟩
  · refine S.fam.grown hg (fun i hi g hv e => ?_)
    obtain ⟨o, ho, hc⟩ := hr' g e
    have hown := S.fam.own i hi (by rw [← S.fam.len]; exact hi)
    rcases hown.2 with ⟨hv0, _⟩ | ⟨g', cap, cur, hv0, _, hh, _⟩
    · rw [hv0] at hv; simp [Value.ownBlock] at hv
    · have e2 : g' = g := by rw [hv0] at hv; simpa [Value.ownBlock] using hv
      subst e2
      rw [hh] at ho
      injection ho with ho
      subst ho
      simp [Obj.isCells] at hc
  · exact hBl.grown hg hBl.size (fun r e => Nat.le_trans hB (hr r e).1)
set_option maxRecDepth 100000 in
set_option maxHeartbeats 4000000 in
/-- The iterator: it hands out the queue, which may grow meanwhile. -/
theorem won1_any (n : Nat) (w0 : World) (b gi b3 bw : Nat) (vg vm : Value) (g : Gm) (hs : g.1.length ≤ 1000) (hl : g.1.length = g.2.length) (hf : FmOK g.1.length (flatF 0 g.2)) (l : Nat) (J : Nat → World → Prop) (W : World) (hJ : ∀ k W', J k W' → RkI w0 b gi b3 bw vg vm g k W') (h0 : J 0 W)
    (hY : ∀ k W1, J k W1 → k < (stB g k).Q.length → YieldAt Fence.wide (n - 1) Try.prog l #[.int .i64 ((stB g k).Q.getD k 0 : Nat)] W1 fun e W' => e = .returned (.bool true) ∧ J (k + 1) W') :
    CallsIn Fence.wide n Try.prog 43 #[.func (.yield l) #[] #[], .pointer (some ⟨bw, 0, none⟩)] W fun e W' => (∃ v, e = .returned v) ∧ ∃ k, ¬ k < (stB g k).Q.length ∧ J k W' := by
  refine callsIn_of_wp Try.func43 rfl trivial ?_ rfl
  simp only [Try.ntmps43, List.size_toArray, List.length_cons, List.length_nil, Nat.reduceAdd, Nat.reduceSub, Array.replicate_succ, Array.replicate_zero, List.push_toArray, List.append_toArray, List.nil_append, List.cons_append]
  gi_wp2
  gi_loopw [3] (fun i wr => ∃ k : Nat, k ≤ g.1.length ∧ i = .int .i64 k ∧ J k wr) (fun i _ => g.1.length - (intOf i).toNat)
  case atStart => exact ⟨0, by omega, rfl, h0⟩
  case round =>
    obtain ⟨k, hk, rfl, hJk⟩ := hrel
    have HJ := hid hJk
    obtain ⟨vR, vO, vL, vQ, vI, S, _, _, xw⟩ := hJ k wr hJk
    have hql : (stB g k).Q.length ≤ g.1.length := by
      obtain ⟨j, _, hB, _⟩ := stB_bk hl hf k (by omega)
      exact hB.len
    have hq := S.r.2.2.2.1
    have sb := S.sb
    obtain ⟨AQ, cQ, rfl, hA⟩ := hq.form
    have q6 := sb.cell 6; have qz := sb.lt; have x0 := xw.cell 0; have xz := xw.lt
    simp at q6 x0
    clear S hq sb xw hJk
    by_cases hlt : k < (stB g k).Q.length
    · have hlt' : (k : Int) < (stB g k).Q.length := by omega
      obtain ⟨gq, rfl, _, hgz, hc, _⟩ := hA (by intro e; simp at e; rw [e] at hlt; simp at hlt)
      have hck := hc k (by simpa using hlt)
      simp only [List.getElem_map] at hck
      obtain ⟨fn, tmps, assign, body, hy, hR⟩ := hY k wr HJ.out hlt
      have hx : (stB g k).Q.getD k 0 = (stB g k).Q[k] := by simp [List.getD, hlt]
      rw [hx] at hy
      generalize (stB g k).Q[k] = x at hck hy
      have hck : wr.cell? ⟨gq, k, none⟩ = some (.int .i64 (x : Int)) := hck
      have HR := hid hR
      clear hx hc hA hR
      gi_wp2
      refine ⟨fun h => absurd h (by simp [Fence.wide]), ?_⟩
      refine HR.out.mono ?_
      rintro e W3 ⟨rfl, hJ3⟩
      have HJ3 := hid hJ3
      clear HR hJ3
      gi_wp2
      go_roundw
      case rel => exact ⟨k + 1, by omega, by go_num, HJ3.out⟩
      case measure => simp [intOf]; omega
    · have hlt' : ¬ (k : Int) < (stB g k).Q.length := by omega
      clear hA
      gi_wp2
      go_end0
      exact ⟨⟨_, rfl⟩, k, by omega, HJ.out⟩
end Go.Proofs.Ytdjjhflhdhihcaa
