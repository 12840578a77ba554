
/- Robots: Did. -/
import Derived.Test.YtnnephifjikkdaaGreatDoorRobD
set_option linter.unusedSimpArgs false
set_option linter.unusedVariables false
namespace Go.Proofs.YtnnephifjikkdaaGreatDoor
open Go.RowKit Go.IntWalk

theorem SlR.tail {w : World} {B b off : Nat} {x : Int} {l : List Int} (h : SlR w B (some ⟨b, off, none⟩) (x :: l)) : SlR w B (some ⟨b, off + 1, none⟩) l := by
  intro k y hy
  obtain ⟨b', off', es, hA, hb, hs, hc, hr⟩ := h (k+1) y (by simpa using hy)
  simp only [Option.some.injEq, Addr.mk.injEq] at hA
  obtain ⟨rfl, rfl, _⟩ := hA
  refine ⟨b, off + 1, es, rfl, hb, hs, fun j u hu => ?_, hr⟩
  have := hc j u hu
  rw [show off + 1 + k * Rep.size Int + j = off + (k + 1) * Rep.size Int + j by simp [Rep.size]; omega]
  exact this
/-- A result: a mind. -/
def RetMd (w : World) (r : Int × List Int) (e : Ending) (w' : World) : Prop := ∃ A cq, e = .returned (.agg #[.int .i64 r.1, .slice A r.2.length cq]) ∧ r.2.length ≤ cq ∧ cq ≤ maxLen ∧ SlR w' w'.heap.size A r.2 ∧ Fresh w.heap.size A ∧ Below w.heap.size w w'
def didL (nx : Int → Int → Option Int) (c : Int) (q : List Int) (act : Int) (done : Bool) : Int × List Int :=
  match q with
  | [] => (c, [])
  | a :: q' => if done = true ∧ a = act then (if isMv act then (nx c (act - 1)).getD 0 else c, q') else (c, a :: q')
theorem didL_off (nx : Int → Int → Option Int) (c : Int) (q : List Int) (act : Int) : didL nx c q act false = (c, q) := by
  cases q <;> simp [didL]

theorem retMd_of {w w' : World} {r : Int × List Int} {e : Ending} {c : Int} {q : List Int} {A : Option Addr} {cq : Nat} (hr : r = (c, q)) (he : e = .returned (.agg #[.int .i64 c, .slice A q.length cq])) (h1 : q.length ≤ cq) (h2 : cq ≤ maxLen) (h3 : SlR w' w'.heap.size A q) (hF : Fresh w.heap.size A) (h4 : Below w.heap.size w w') : RetMd w r e w' := by
  subst hr; exact ⟨A, cq, he, h1, h2, h3, hF, h4⟩

set_option maxRecDepth 100000 in
set_option maxHeartbeats 2000000 in
theorem did_off (W H D : Int) (Ak Ao : Option Addr) (ck co : Nat) (kind out : List Int) (c0 : Int) (Aq : Option Addr) (cq : Nat) (q : List Int) (act : Int) (w : World) (h : RF W H D kind out) (hql : q.length ≤ 65536) (hk : SlR w w.heap.size Ak kind) (ho : SlR w w.heap.size Ao out) (hq : SlR w w.heap.size Aq q) :
    Calls Tryz.prog 47 #[.agg #[.int .i64 W, .int .i64 H, .int .i64 D, .slice Ak kind.length ck, .slice Ao out.length co], .agg #[.int .i64 c0, .slice Aq q.length cq], .int .i64 act, .bool false] w (RetMd w (c0, q)) := by
  have hI := hid h
  have hints := hid hq.ints
  clear h
  have hb0 : Below w.heap.size w (((w.alloc (Obj.cells #[.int .i64 W, .int .i64 H, .int .i64 D, .slice Ak kind.length ck, .slice Ao out.length co] 24)).alloc (Obj.cells #[.int .i64 c0, .slice Aq q.length cq] 48)).alloc (Obj.cells #[.int .i64 0, .slice none 0 0] 48)) := by (repeat (first | exact Below.refl _ _ | assumption | refine below_drewN ?_ _ | refine Below.drew ?_ | refine Below.alloc ?_ (by (try simp); (try omega)) _ | refine Below.setCell ?_ (by (try simp); (try omega)) _))
  go_enter Tryz.func47, Tryz.ntmps47
  go_wp2_with fail
  refine (clone_any c0 Aq cq q _ hql ((hq.below hb0).more (by simp; omega))).mono ?_
  rintro e w1 ⟨A', c', rfl, h1, h2, hown, _, hB⟩
  have bx : Blk w1 w.heap.size 24 #[.int .i64 W, .int .i64 H, .int .i64 D, .slice Ak kind.length ck, .slice Ao out.length co] := (((Blk.new w _ _).alloc _).alloc _).below hB (by simp; omega)
  have bm : Blk w1 (w.heap.size + 1) 48 #[.int .i64 c0, .slice Aq q.length cq] := by simpa using ((Blk.new (w.alloc (Obj.cells #[.int .i64 W, .int .i64 H, .int .i64 D, .slice Ak kind.length ck, .slice Ao out.length co] 24)) 48 #[.int .i64 c0, .slice Aq q.length cq]).alloc (Obj.cells #[.int .i64 0, .slice none 0 0] 48)).below hB (by simp)
  have br : Blk w1 (w.heap.size + 1 + 1) 48 #[.int .i64 0, .slice none 0 0] := by simpa using (Blk.new ((w.alloc (Obj.cells #[.int .i64 W, .int .i64 H, .int .i64 D, .slice Ak kind.length ck, .slice Ao out.length co] 24)).alloc (Obj.cells #[.int .i64 c0, .slice Aq q.length cq] 48)) 48 #[.int .i64 0, .slice none 0 0]).below hB (by simp)
  have hb1 := hb0.trans (hB.mono (by simp; omega))
  simp only [World.size_alloc] at hown
  clear hB hb0
  obtain ⟨k0, k1, k2, k3, k4⟩ := blk5 bx
  obtain ⟨m0, m1⟩ := blk2 bm
  obtain ⟨r0, r1⟩ := blk2 br
  have z1 := bm.lt
  have z2 := br.lt
  have f0 := br.frozen 0
  have f1 := br.frozen 1
  · go_wp2_with fail
    refine bodyPost_ret (v := .agg #[.int .i64 c0, .slice A' q.length c']) (by simp [results, Tryz.results47, go_sem, f0, f1, r0, r1, z2]) rfl ?_
    have hown2 := (((hown.far (p := ⟨w.heap.size + 1 + 1, 0, none⟩) (hown.past (by simp)) (.int .i64 c0)).far (p := ⟨w.heap.size + 1 + 1, 1, none⟩) (hown.past (by simp)) (.slice A' q.length c'))).alloc (Obj.cells #[.int .i64 c0, .slice A' q.length c'] 48)
    obtain ⟨A2, c2, e2, _, _, h3⟩ := hown2.slr hints.out
    injection e2 with e3 _ _
    subst e3
    have hz := hb1.size
    exact retMd_of (by first | rfl | exact hcase) rfl h1 h2 h3 (hown.fresh_at.mono (by omega)) (((hb1.setCell (by simp; omega) _).setCell (by simp; omega) _).alloc (by simp; omega) _)

set_option maxRecDepth 100000 in
set_option maxHeartbeats 2000000 in
theorem did_nil (W H D : Int) (Ak Ao : Option Addr) (ck co : Nat) (kind out : List Int) (c0 : Int) (Aq : Option Addr) (cq : Nat) (act : Int) (w : World) (h : RF W H D kind out) (hk : SlR w w.heap.size Ak kind) (ho : SlR w w.heap.size Ao out) :
    Calls Tryz.prog 47 #[.agg #[.int .i64 W, .int .i64 H, .int .i64 D, .slice Ak kind.length ck, .slice Ao out.length co], .agg #[.int .i64 c0, .slice Aq 0 cq], .int .i64 act, .bool true] w (RetMd w (c0, [])) := by
  have hI := hid h
  have hints := hid (show ∀ x ∈ ([] : List Int), I64 x by simp)
  clear h
  have hb0 : Below w.heap.size w (((w.alloc (Obj.cells #[.int .i64 W, .int .i64 H, .int .i64 D, .slice Ak kind.length ck, .slice Ao out.length co] 24)).alloc (Obj.cells #[.int .i64 c0, .slice Aq 0 cq] 48)).alloc (Obj.cells #[.int .i64 0, .slice none 0 0] 48)) := by (repeat (first | exact Below.refl _ _ | assumption | refine below_drewN ?_ _ | refine Below.drew ?_ | refine Below.alloc ?_ (by (try simp); (try omega)) _ | refine Below.setCell ?_ (by (try simp); (try omega)) _))
  go_enter Tryz.func47, Tryz.ntmps47
  go_wp2_with fail
  refine (clone_any c0 Aq cq [] _ (by simp) SlR.nil).mono ?_
  rintro e w1 ⟨A', c', rfl, h1, h2, hown, _, hB⟩
  simp only [List.length_nil] at *
  have bx : Blk w1 w.heap.size 24 #[.int .i64 W, .int .i64 H, .int .i64 D, .slice Ak kind.length ck, .slice Ao out.length co] := (((Blk.new w _ _).alloc _).alloc _).below hB (by simp; omega)
  have bm : Blk w1 (w.heap.size + 1) 48 #[.int .i64 c0, .slice Aq 0 cq] := by simpa using ((Blk.new (w.alloc (Obj.cells #[.int .i64 W, .int .i64 H, .int .i64 D, .slice Ak kind.length ck, .slice Ao out.length co] 24)) 48 #[.int .i64 c0, .slice Aq 0 cq]).alloc (Obj.cells #[.int .i64 0, .slice none 0 0] 48)).below hB (by simp)
  have br : Blk w1 (w.heap.size + 1 + 1) 48 #[.int .i64 0, .slice none 0 0] := by simpa using (Blk.new ((w.alloc (Obj.cells #[.int .i64 W, .int .i64 H, .int .i64 D, .slice Ak kind.length ck, .slice Ao out.length co] 24)).alloc (Obj.cells #[.int .i64 c0, .slice Aq 0 cq] 48)) 48 #[.int .i64 0, .slice none 0 0]).below hB (by simp)
  have hb1 := hb0.trans (hB.mono (by simp; omega))
  simp only [World.size_alloc] at hown
  clear hB hb0
  obtain ⟨k0, k1, k2, k3, k4⟩ := blk5 bx
  obtain ⟨m0, m1⟩ := blk2 bm
  obtain ⟨r0, r1⟩ := blk2 br
  have z1 := bm.lt
  have z2 := br.lt
  have f0 := br.frozen 0
  have f1 := br.frozen 1
  · go_wp2_with fail
    refine bodyPost_ret (v := .agg #[.int .i64 c0, .slice A' 0 c']) (by simp [results, Tryz.results47, go_sem, f0, f1, r0, r1, z2]) rfl ?_
    have hown2 := (((hown.far (p := ⟨w.heap.size + 1 + 1, 0, none⟩) (hown.past (by simp)) (.int .i64 c0)).far (p := ⟨w.heap.size + 1 + 1, 1, none⟩) (hown.past (by simp)) (.slice A' 0 c'))).alloc (Obj.cells #[.int .i64 c0, .slice A' 0 c'] 48)
    obtain ⟨A2, c2, e2, _, _, h3⟩ := hown2.slr hints.out
    injection e2 with e3 _ _
    subst e3
    have hz := hb1.size
    exact retMd_of (by first | rfl | exact hcase) rfl h1 h2 h3 (hown.fresh_at.mono (by omega)) (((hb1.setCell (by simp; omega) _).setCell (by simp; omega) _).alloc (by simp; omega) _)

set_option maxRecDepth 100000 in
set_option maxHeartbeats 2000000 in
theorem did_ne (W H D : Int) (Ak Ao : Option Addr) (ck co : Nat) (kind out : List Int) (c0 : Int) (Aq : Option Addr) (cq : Nat) (a : Int) (q1 : List Int) (act : Int) (w : World) (h : RF W H D kind out) (hql : q1.length + 1 ≤ 65536) (hk : SlR w w.heap.size Ak kind) (ho : SlR w w.heap.size Ao out) (hq : SlR w w.heap.size Aq (a :: q1)) (hne : a ≠ act) :
    Calls Tryz.prog 47 #[.agg #[.int .i64 W, .int .i64 H, .int .i64 D, .slice Ak kind.length ck, .slice Ao out.length co], .agg #[.int .i64 c0, .slice Aq (q1.length + 1) cq], .int .i64 act, .bool true] w (RetMd w (c0, a :: q1)) := by
  have hI := hid h
  have hints := hid hq.ints
  clear h
  obtain ⟨bq, oq, rfl, _, g0, _⟩ := hq.int (k := 0) (by simp)
  simp only [List.getElem_cons_zero, Nat.add_zero] at g0
  have e1 : (a != act) = true := by simp [hne]
  clear hne
  have l1 : (((q1.length + 1 : Nat):Int) == 0) = false := by simp; omega
  have l2 : ((q1.length : Int) + 1 == 0) = false := by simp; omega
  have l3 : (0:Int) < (q1.length + 1 : Nat) := by omega
  have l4 : (0:Int) < (q1.length : Int) + 1 := by omega
  have hb0 : Below w.heap.size w (((w.alloc (Obj.cells #[.int .i64 W, .int .i64 H, .int .i64 D, .slice Ak kind.length ck, .slice Ao out.length co] 24)).alloc (Obj.cells #[.int .i64 c0, .slice (some ⟨bq, oq, none⟩) (q1.length + 1) cq] 48)).alloc (Obj.cells #[.int .i64 0, .slice none 0 0] 48)) := by (repeat (first | exact Below.refl _ _ | assumption | refine below_drewN ?_ _ | refine Below.drew ?_ | refine Below.alloc ?_ (by (try simp); (try omega)) _ | refine Below.setCell ?_ (by (try simp); (try omega)) _))
  go_enter Tryz.func47, Tryz.ntmps47
  go_wp2_with fail
  refine (clone_any c0 (some ⟨bq, oq, none⟩) cq (a :: q1) _ hql ((hq.below hb0).more (by simp; omega))).mono ?_
  rintro e w1 ⟨A', c', rfl, h1, h2, hown, _, hB⟩
  have bx : Blk w1 w.heap.size 24 #[.int .i64 W, .int .i64 H, .int .i64 D, .slice Ak kind.length ck, .slice Ao out.length co] := (((Blk.new w _ _).alloc _).alloc _).below hB (by simp; omega)
  have bm : Blk w1 (w.heap.size + 1) 48 #[.int .i64 c0, .slice (some ⟨bq, oq, none⟩) (q1.length + 1) cq] := by simpa using ((Blk.new (w.alloc (Obj.cells #[.int .i64 W, .int .i64 H, .int .i64 D, .slice Ak kind.length ck, .slice Ao out.length co] 24)) 48 #[.int .i64 c0, .slice (some ⟨bq, oq, none⟩) (q1.length + 1) cq]).alloc (Obj.cells #[.int .i64 0, .slice none 0 0] 48)).below hB (by simp)
  have br : Blk w1 (w.heap.size + 1 + 1) 48 #[.int .i64 0, .slice none 0 0] := by simpa using (Blk.new ((w.alloc (Obj.cells #[.int .i64 W, .int .i64 H, .int .i64 D, .slice Ak kind.length ck, .slice Ao out.length co] 24)).alloc (Obj.cells #[.int .i64 c0, .slice (some ⟨bq, oq, none⟩) (q1.length + 1) cq] 48)) 48 #[.int .i64 0, .slice none 0 0]).below hB (by simp)
  have hb1 := hb0.trans (hB.mono (by simp; omega))
  simp only [World.size_alloc, List.length_cons] at hown h1
  have zq : bq < w1.heap.size := Nat.lt_of_lt_of_le (by assumption) hb1.size
  replace g0 := (hb1.cell (p := ⟨bq, oq, none⟩) (by assumption)).trans g0
  clear hB hb0
  obtain ⟨k0, k1, k2, k3, k4⟩ := blk5 bx
  obtain ⟨m0, m1⟩ := blk2 bm
  obtain ⟨r0, r1⟩ := blk2 br
  have z1 := bm.lt
  have z2 := br.lt
  have f0 := br.frozen 0
  have f1 := br.frozen 1
  · go_wp2_with fail
    refine bodyPost_ret (v := .agg #[.int .i64 c0, .slice A' (q1.length + 1) c']) (by simp [results, Tryz.results47, go_sem, f0, f1, r0, r1, z2]) rfl ?_
    have hown2 := (((hown.far (p := ⟨w.heap.size + 1 + 1, 0, none⟩) (hown.past (by simp)) (.int .i64 c0)).far (p := ⟨w.heap.size + 1 + 1, 1, none⟩) (hown.past (by simp)) (.slice A' (q1.length + 1) c'))).alloc (Obj.cells #[.int .i64 c0, .slice A' (q1.length + 1) c'] 48)
    obtain ⟨A2, c2, e2, _, _, h3⟩ := hown2.slr hints.out
    injection e2 with e3 _ _
    subst e3
    have hz := hb1.size
    exact retMd_of (by first | rfl | exact hcase) rfl h1 h2 h3 (hown.fresh_at.mono (by omega)) (((hb1.setCell (by simp; omega) _).setCell (by simp; omega) _).alloc (by simp; omega) _)

end Go.Proofs.YtnnephifjikkdaaGreatDoor
