
/- Robots: Did, where the act was the first. -/
import Derived.Test.YtnnephifjikkdaaGreatDoorRobE
set_option linter.unusedSimpArgs false
set_option linter.unusedVariables false
namespace Go.Proofs.YtnnephifjikkdaaGreatDoor
open Go.RowKit Go.IntWalk

set_option maxRecDepth 100000 in
theorem slice1 (g c' : Nat) (x : Int) (q1 : List Int) (h1 : q1.length + 1 ≤ c') (h2 : c' ≤ maxLen) : ∃ A3 c3, (∀ W, (Instr.slice 22 (.slice (some ⟨g, 0, none⟩) (q1.length + 1) c') (some (.int .i64 1)) none none).run Tryz.prog W = .ok (.slice A3 q1.length c3) W) ∧ q1.length ≤ c3 ∧ c3 ≤ maxLen ∧ (∀ a, A3 = some a → a.block = g) ∧ ∀ w B, SlR w B (some ⟨g, 0, none⟩) (x :: q1) → SlR w B A3 q1 := by
  by_cases h : c' = 1
  · subst h
    have : q1 = [] := List.eq_nil_of_length_eq_zero (by omega)
    subst this
    exact ⟨some ⟨g, 0, none⟩, 0, fun W => by kernel_rfl, by simp, by simp, fun a ha => by injection ha with ha; subst ha; rfl, fun _ _ _ => SlR.nil⟩
  · refine ⟨some ⟨g, 1, none⟩, c' - 1, fun W => ?_, by omega, by omega, fun a ha => by injection ha with ha; subst ha; rfl, fun _ _ h => h.tail⟩
    have : ¬ c' - 1 = 0 := by omega
    rw [run_slice_l (ht := Tryz.underlying22) (h0 := by omega) (h1 := by omega)]
    simp [go_sem, sliced, this, Addr.add, h]
def didC (nx : Int → Int → Option Int) (c act : Int) : Int := if isMv act then (nx c (act - 1)).getD 0 else c
set_option maxRecDepth 100000 in
set_option maxHeartbeats 2000000 in
theorem did_hit (W H D : Int) (Ak Ao : Option Addr) (ck co : Nat) (kind out : List Int) (c0 : Int) (Aq : Option Addr) (cq : Nat) (q1 : List Int) (act : Int) (w : World) (h : RF W H D kind out) (hql : q1.length + 1 ≤ 65536) (hk : SlR w w.heap.size Ak kind) (ho : SlR w w.heap.size Ao out) (hq : SlR w w.heap.size Aq (act :: q1)) (ha : 0 ≤ act ∧ act < 10) :
    Calls Tryz.prog 47 #[.agg #[.int .i64 W, .int .i64 H, .int .i64 D, .slice Ak kind.length ck, .slice Ao out.length co], .agg #[.int .i64 c0, .slice Aq (q1.length + 1) cq], .int .i64 act, .bool true] w (RetMd w (didC (nextL W H D kind out) c0 act, q1)) := by
  have hI := hid h
  have hints := hid hq.ints
  clear h
  obtain ⟨bq, oq, rfl, _, g0, _⟩ := hq.int (k := 0) (by simp)
  simp only [List.getElem_cons_zero, Nat.add_zero] at g0
  have e1 : (act != act) = false := by simp
  have Ha := hid ha
  clear ha
  have l1 : (((q1.length + 1 : Nat):Int) == 0) = false := by simp; omega
  have l2 : ((q1.length : Int) + 1 == 0) = false := by simp; omega
  have l3 : (0:Int) < (q1.length + 1 : Nat) := by omega
  have l4 : (0:Int) < (q1.length : Int) + 1 := by omega
  have hb0 : Below w.heap.size w (((w.alloc (Obj.cells #[.int .i64 W, .int .i64 H, .int .i64 D, .slice Ak kind.length ck, .slice Ao out.length co] 24)).alloc (Obj.cells #[.int .i64 c0, .slice (some ⟨bq, oq, none⟩) (q1.length + 1) cq] 48)).alloc (Obj.cells #[.int .i64 0, .slice none 0 0] 48)) := by (repeat (first | exact Below.refl _ _ | assumption | refine below_drewN ?_ _ | refine Below.drew ?_ | refine Below.alloc ?_ (by (try simp); (try omega)) _ | refine Below.setCell ?_ (by (try simp); (try omega)) _))
  go_enter Tryz.func47, Tryz.ntmps47
  go_wp2_with fail
  refine (clone_any c0 (some ⟨bq, oq, none⟩) cq (act :: q1) _ hql ((hq.below hb0).more (by simp; omega))).mono ?_
  rintro e w1 ⟨A', c', rfl, h1, h2, hown, _, hB⟩
  have bx : Blk w1 w.heap.size 24 #[.int .i64 W, .int .i64 H, .int .i64 D, .slice Ak kind.length ck, .slice Ao out.length co] := (((Blk.new w _ _).alloc _).alloc _).below hB (by simp; omega)
  have bm : Blk w1 (w.heap.size + 1) 48 #[.int .i64 c0, .slice (some ⟨bq, oq, none⟩) (q1.length + 1) cq] := by simpa using ((Blk.new (w.alloc (Obj.cells #[.int .i64 W, .int .i64 H, .int .i64 D, .slice Ak kind.length ck, .slice Ao out.length co] 24)) 48 #[.int .i64 c0, .slice (some ⟨bq, oq, none⟩) (q1.length + 1) cq]).alloc (Obj.cells #[.int .i64 0, .slice none 0 0] 48)).below hB (by simp)
  have br : Blk w1 (w.heap.size + 1 + 1) 48 #[.int .i64 0, .slice none 0 0] := by simpa using (Blk.new ((w.alloc (Obj.cells #[.int .i64 W, .int .i64 H, .int .i64 D, .slice Ak kind.length ck, .slice Ao out.length co] 24)).alloc (Obj.cells #[.int .i64 c0, .slice (some ⟨bq, oq, none⟩) (q1.length + 1) cq] 48)) 48 #[.int .i64 0, .slice none 0 0]).below hB (by simp)
  have hb1 := hb0.trans (hB.mono (by simp; omega))
  simp only [World.size_alloc, List.length_cons] at hown h1
  have zq : bq < w1.heap.size := Nat.lt_of_lt_of_le (by assumption) hb1.size
  replace g0 := (hb1.cell (p := ⟨bq, oq, none⟩) (by assumption)).trans g0
  clear hB hb0
  obtain ⟨k0, k1, k2, k3, k4⟩ := blk5 bx
  obtain ⟨m0, m1⟩ := blk2 bm
  obtain ⟨r0, r1⟩ := blk2 br
  have z1 := bm.lt
  have z2 := br.lt
  have f0 := br.frozen 0
  have f1 := br.frozen 1
  obtain ⟨g, cc, hv, hg0, hg1, hcs, hnn, cur', hgb⟩ := own_at hown (by simp)
  injection hv with hv1 hv2 hv3
  subst hv1 hv3
  clear hcs hnn hv2 hgb
  obtain ⟨A3, c3, hsl, s1, s2, sF, s3⟩ := slice1 g c' act q1 h1 h2
  have hF3 : Fresh w.heap.size A3 := by
    intro a ha
    rw [sF a ha]
    (try simp at hg0); omega
  clear sF
  have S3 := hid s3
  clear s3
  go_wp2_with fail
  refine (move_any act _ Ha.out).mono ?_
  rintro e w' ⟨rfl, rfl⟩
  clear hsl
  cases hmv : isMv act with
  | false =>
    have hcase := hid (show (didC (nextL W H D kind out) c0 act, q1) = (c0, q1) by simp [didC, hmv])
    clear hmv
    go_wp2_with fail
    refine bodyPost_ret (v := .agg #[.int .i64 c0, .slice A3 q1.length c3]) (by simp [results, Tryz.results47, go_sem, f0, f1, r0, r1, z2]) rfl ?_
    have hown2 := (((hown.far (p := ⟨w.heap.size + 1 + 1, 0, none⟩) (hown.past (by simp)) (.int .i64 c0)).far (p := ⟨w.heap.size + 1 + 1, 1, none⟩) (hown.past (by simp)) (.slice A3 q1.length c3))).alloc (Obj.cells #[.int .i64 c0, .slice A3 q1.length c3] 48)
    obtain ⟨A2, c2, e2, _, _, h3⟩ := hown2.slr hints.out
    injection e2 with e3 _ _
    subst e3
    have hz := hb1.size
    exact retMd_of hcase.out rfl s1 s2 (S3.out _ _ h3) hF3 (((hb1.setCell (by simp; omega) _).setCell (by simp; omega) _).alloc (by simp; omega) _)
  | true =>
    have hbx : Below w.heap.size w (w1.alloc (Obj.cells #[.int .i64 c0, .slice A3 q1.length c3] 48)) := hb1.alloc hb1.size _
    have Hmv := hid hmv
    have z0 := bx.lt
    clear hmv
    go_wp2_with fail
    refine (next_any _ _ _ _ _ _ _ _ _ c0 (act - 1) _ hI.out ((hk.below hbx).more hbx.size) ((ho.below hbx).more hbx.size)).mono ?_
    rintro e w2 ⟨rfl, hB⟩
    have bt := (Blk.new w1 48 #[.int .i64 c0, .slice A3 q1.length c3]).below hB (by simp)
    have br2 := (br.alloc (Obj.cells #[.int .i64 c0, .slice A3 q1.length c3] 48)).below hB (by simp; omega)
    have hown1 := (hown.alloc (Obj.cells #[.int .i64 c0, .slice A3 q1.length c3] 48)).below hB
    have hb2 := hbx.trans (hB.mono hbx.size)
    have hgne : g ≠ w1.heap.size := by omega
    have hgne2 : g ≠ w.heap.size + 1 + 1 := by
      have := hown.past (g := w.heap.size + 1 + 1) (by omega)
      intro e; apply this; rw [e]; rfl
    have hz := hb1.size
    clear hown bx bm br k0 k1 k2 k3 k4 m0 m1 r0 r1 f0 f1 z1 z0 hB hbx
    have z3 := br2.lt
    have z4 := bt.lt
    obtain ⟨r0, r1⟩ := blk2 br2
    obtain ⟨t0, t1⟩ := blk2 bt
    have f0 := br2.frozen 0
    have f1 := br2.frozen 1
    have f2 := bt.frozen 0
    cases hnx : nextL W H D kind out c0 (act - 1) with
    | none =>
      have hcase := hid (show (didC (nextL W H D kind out) c0 act, q1) = (0, q1) by simp [didC, Hmv.out, hnx])
      clear hnx
      simp only [nextV]
      go_wp2_with fail
      refine bodyPost_ret (v := .agg #[.int .i64 0, .slice A3 q1.length c3]) (by simp [results, Tryz.results47, go_sem, f0, f1, r0, r1, z3]) rfl ?_
      have hown2 := (((hown1.far (p := ⟨w1.heap.size, 0, none⟩) (by simp [Value.ownBlock, hgne]) (.int .i64 0)).far (p := ⟨w.heap.size + 1 + 1, 0, none⟩) (by simp [Value.ownBlock, hgne2]) (.int .i64 0)).far (p := ⟨w.heap.size + 1 + 1, 1, none⟩) (by simp [Value.ownBlock, hgne2]) (.slice A3 q1.length c3))
      obtain ⟨A2, c2, e2, _, _, h3⟩ := hown2.slr hints.out
      injection e2 with e3 _ _
      subst e3
      exact retMd_of hcase.out rfl s1 s2 (S3.out _ _ h3) hF3 (((hb2.setCell (by simp; omega) _).setCell (by simp; omega) _).setCell (by simp; omega) _)
    | some nx =>
      have hcase := hid (show (didC (nextL W H D kind out) c0 act, q1) = (nx, q1) by simp [didC, Hmv.out, hnx])
      clear hnx
      simp only [nextV]
      go_wp2_with fail
      refine bodyPost_ret (v := .agg #[.int .i64 nx, .slice A3 q1.length c3]) (by simp [results, Tryz.results47, go_sem, f0, f1, r0, r1, z3]) rfl ?_
      have hown2 := (((hown1.far (p := ⟨w1.heap.size, 0, none⟩) (by simp [Value.ownBlock, hgne]) (.int .i64 nx)).far (p := ⟨w.heap.size + 1 + 1, 0, none⟩) (by simp [Value.ownBlock, hgne2]) (.int .i64 nx)).far (p := ⟨w.heap.size + 1 + 1, 1, none⟩) (by simp [Value.ownBlock, hgne2]) (.slice A3 q1.length c3))
      obtain ⟨A2, c2, e2, _, _, h3⟩ := hown2.slr hints.out
      injection e2 with e3 _ _
      subst e3
      exact retMd_of hcase.out rfl s1 s2 (S3.out _ _ h3) hF3 (((hb2.setCell (by simp; omega) _).setCell (by simp; omega) _).setCell (by simp; omega) _)
end Go.Proofs.YtnnephifjikkdaaGreatDoor
