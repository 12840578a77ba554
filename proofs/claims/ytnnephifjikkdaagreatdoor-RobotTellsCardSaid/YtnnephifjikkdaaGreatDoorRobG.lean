
/- Robots: Did whole; Hear. -/
import Derived.Test.YtnnephifjikkdaaGreatDoorRobF
set_option linter.unusedSimpArgs false
set_option linter.unusedVariables false
namespace Go.Proofs.YtnnephifjikkdaaGreatDoor
open Go.RowKit Go.IntWalk

theorem did_any (W H D : Int) (Ak Ao : Option Addr) (ck co : Nat) (kind out : List Int) (c0 : Int) (Aq : Option Addr) (cq : Nat) (q : List Int) (act : Int) (done : Bool) (w : World) (h : RF W H D kind out) (hql : q.length ≤ 65536) (hk : SlR w w.heap.size Ak kind) (ho : SlR w w.heap.size Ao out) (hq : SlR w w.heap.size Aq q) (hkn : ∀ x ∈ q, 0 ≤ x ∧ x < 10) :
    Calls Tryz.prog 47 #[.agg #[.int .i64 W, .int .i64 H, .int .i64 D, .slice Ak kind.length ck, .slice Ao out.length co], .agg #[.int .i64 c0, .slice Aq q.length cq], .int .i64 act, .bool done] w (RetMd w (didL (nextL W H D kind out) c0 q act done)) := by
  cases done with
  | false => rw [didL_off]; exact did_off W H D Ak Ao ck co kind out c0 Aq cq q act w h hql hk ho hq
  | true =>
    cases q with
    | nil => exact did_nil W H D Ak Ao ck co kind out c0 Aq cq act w h hk ho
    | cons a q1 =>
      by_cases ha : a = act
      · subst ha
        have := did_hit W H D Ak Ao ck co kind out c0 Aq cq q1 a w h (by simpa using hql) hk ho hq (hkn a (by simp))
        simpa [didL, didC] using this
      · have := did_ne W H D Ak Ao ck co kind out c0 Aq cq a q1 act w h (by simpa using hql) hk ho hq ha
        simpa [didL, ha] using this

def hearL (W H D : Int) (kind out : List Int) (c : Int) (q acts : List Int) : (Int × List Int) × Int :=
  if 4 < acts.length then ((c, q), 6) else if knownL acts = false then ((c, q), 1) else if rightM W H D kind out c acts = false then ((c, q), 14) else ((c, acts), 0)
/-- A result: a mind and a number. -/
def RetHear (w : World) (r : (Int × List Int) × Int) (e : Ending) (w' : World) : Prop := ∃ A cq, e = .returned (.tuple #[.agg #[.int .i64 r.1.1, .slice A r.1.2.length cq], .int .i64 r.2]) ∧ OwnI w' w.heap.size (.slice A r.1.2.length cq) r.1.2 ∧ r.1.2.length ≤ cq ∧ cq ≤ maxLen ∧ SlR w' w'.heap.size A r.1.2 ∧ Below w.heap.size w w'
theorem retHear_of {w w' : World} {r : (Int × List Int) × Int} {e : Ending} {c n : Int} {q : List Int} {A : Option Addr} {cq : Nat} (hr : r = ((c, q), n)) (he : e = .returned (.tuple #[.agg #[.int .i64 c, .slice A q.length cq], .int .i64 n])) (ho : OwnI w' w.heap.size (.slice A q.length cq) q) (h1 : q.length ≤ cq) (h2 : cq ≤ maxLen) (h3 : SlR w' w'.heap.size A q) (h4 : Below w.heap.size w w') : RetHear w r e w' := by
  subst hr; exact ⟨A, cq, he, ho, h1, h2, h3, h4⟩

/-- The world behind Hear's first statement. -/
def HearW (W H D : Int) (Ak Ao : Option Addr) (ck co : Nat) (kind out : List Int) (c0 : Int) (Aq : Option Addr) (cq : Nat) (q acts : List Int) (w : World) (s : Value) (wx : World) : Prop :=
  ∃ b A' c', s = .pointer (some ⟨b, 0, none⟩) ∧ Below w.heap.size w wx ∧ Blk wx w.heap.size 24 #[.int .i64 W, .int .i64 H, .int .i64 D, .slice Ak kind.length ck, .slice Ao out.length co] ∧ Blk wx (w.heap.size + 1) 48 #[.int .i64 c0, .slice Aq q.length cq] ∧ Blk wx (w.heap.size + 1 + 1) 48 #[.int .i64 0, .slice none 0 0] ∧ Blk wx b 48 #[.int .i64 c0, .slice A' acts.length c'] ∧ w.heap.size + 1 + 1 < b ∧ acts.length ≤ c' ∧ c' ≤ maxLen ∧ OwnI wx (w.heap.size + 1 + 1 + 1) (.slice A' acts.length c') acts
theorem hearW_a (W H D : Int) (Ak Ao : Option Addr) (ck co : Nat) (kind out : List Int) {c0 : Int} {Aq : Option Addr} {cq : Nat} {q acts : List Int} {w w0 w1 : World} {A' : Option Addr} {c' : Nat} (hb0 : Below w.heap.size w w0) (bx : Blk w0 w.heap.size 24 #[.int .i64 W, .int .i64 H, .int .i64 D, .slice Ak kind.length ck, .slice Ao out.length co]) (bm : Blk w0 (w.heap.size + 1) 48 #[.int .i64 c0, .slice Aq q.length cq]) (br : Blk w0 (w.heap.size + 1 + 1) 48 #[.int .i64 0, .slice none 0 0])
    (hz : w0.heap.size = w.heap.size + 1 + 1 + 1) (hB : Below w0.heap.size w0 w1) (hown : OwnI w1 w0.heap.size (.slice A' acts.length c') acts) (h1 : acts.length ≤ c') (h2 : c' ≤ maxLen) :
    HearW W H D Ak Ao ck co kind out c0 Aq cq q acts w (.pointer (some ⟨w1.heap.size, 0, none⟩)) (w1.alloc (Obj.cells #[.int .i64 c0, .slice A' acts.length c'] 48)) := by
  have hs := hB.size
  refine ⟨w1.heap.size, A', c', rfl, (hb0.trans (hB.mono hb0.size)).alloc (by omega) _, (bx.below hB bx.lt).alloc _, (bm.below hB bm.lt).alloc _, (br.below hB br.lt).alloc _, Blk.new _ _ _, by omega, h1, h2, ?_⟩
  rw [hz] at hown
  exact hown.alloc _
theorem hearW_b (W H D : Int) (Ak Ao : Option Addr) (ck co : Nat) (kind out : List Int) {c0 : Int} {Aq : Option Addr} {cq : Nat} {q acts : List Int} {w w0 w1 : World} {A' : Option Addr} {c' : Nat} (hb0 : Below w.heap.size w w0) (bx : Blk w0 w.heap.size 24 #[.int .i64 W, .int .i64 H, .int .i64 D, .slice Ak kind.length ck, .slice Ao out.length co]) (bm : Blk w0 (w.heap.size + 1) 48 #[.int .i64 c0, .slice Aq q.length cq]) (br : Blk w0 (w.heap.size + 1 + 1) 48 #[.int .i64 0, .slice none 0 0])
    (hz : w0.heap.size = w.heap.size + 1 + 1 + 1) (hB : Below (w0.alloc (Obj.cells #[.int .i64 0, .slice none 0 0] 48)).heap.size (w0.alloc (Obj.cells #[.int .i64 0, .slice none 0 0] 48)) w1) (hown : OwnI w1 (w0.alloc (Obj.cells #[.int .i64 0, .slice none 0 0] 48)).heap.size (.slice A' acts.length c') acts) (h1 : acts.length ≤ c') (h2 : c' ≤ maxLen) :
    HearW W H D Ak Ao ck co kind out c0 Aq cq q acts w (.pointer (some ⟨w.heap.size + 1 + 1 + 1, 0, none⟩)) ((w1.setCell ⟨w.heap.size + 1 + 1 + 1, 0, none⟩ (.int .i64 c0)).setCell ⟨w.heap.size + 1 + 1 + 1, 1, none⟩ (.slice A' acts.length c')) := by
  have hs := hB.size
  have hb := hb0.alloc hb0.size (Obj.cells #[.int .i64 0, .slice none 0 0] 48)
  have bt : Blk w1 (w.heap.size + 1 + 1 + 1) 48 #[.int .i64 0, .slice none 0 0] := by rw [← hz]; exact (Blk.new w0 _ _).below hB (by simp)
  have bx := (bx.alloc (Obj.cells #[.int .i64 0, .slice none 0 0] 48))
  have bm := (bm.alloc (Obj.cells #[.int .i64 0, .slice none 0 0] 48))
  have br := (br.alloc (Obj.cells #[.int .i64 0, .slice none 0 0] 48))
  simp only [World.size_alloc, hz] at hown
  refine ⟨w.heap.size + 1 + 1 + 1, A', c', rfl, ((hb.trans (hB.mono hb.size)).setCell (by (try simp); (try omega)) _).setCell (by (try simp); (try omega)) _, ((bx.below hB bx.lt).far (by (try simp); (try omega)) _).far (by (try simp); (try omega)) _, ((bm.below hB bm.lt).far (by (try simp); (try omega)) _).far (by (try simp); (try omega)) _, ((br.below hB br.lt).far (by simp) _).far (by simp) _, by simpa using (bt.set_ 0 (.int .i64 c0)).set_ 1 (.slice A' acts.length c'), by omega, h1, h2, ?_⟩
  exact ((hown.far (hown.past (by simp)) _).far (hown.past (by simp)) _).lower (by omega)

set_option maxRecDepth 100000 in
set_option maxHeartbeats 4000000 in
theorem hear_any (W H D : Int) (Ak Ao : Option Addr) (ck co : Nat) (kind out : List Int) (c0 : Int) (Aq : Option Addr) (cq : Nat) (q : List Int) (Ac : Option Addr) (cc : Nat) (acts : List Int) (w : World) (h : RF W H D kind out) (hql : q.length ≤ 65536) (hal : acts.length ≤ 65536) (hk : SlR w w.heap.size Ak kind) (ho : SlR w w.heap.size Ao out) (hq : SlR w w.heap.size Aq q) (hac : SlR w w.heap.size Ac acts) :
    Calls Tryz.prog 38 #[.agg #[.int .i64 W, .int .i64 H, .int .i64 D, .slice Ak kind.length ck, .slice Ao out.length co], .agg #[.int .i64 c0, .slice Aq q.length cq], .slice Ac acts.length cc] w (RetHear w (hearL W H D kind out c0 q acts)) := by
  have hI := hid h
  have hints := hid hac.ints
  have hqi := hid hq.ints
  clear h
  have hb0 : Below w.heap.size w (((w.alloc (Obj.cells #[.int .i64 W, .int .i64 H, .int .i64 D, .slice Ak kind.length ck, .slice Ao out.length co] 24)).alloc (Obj.cells #[.int .i64 c0, .slice Aq q.length cq] 48)).alloc (Obj.cells #[.int .i64 0, .slice none 0 0] 48)) := by (repeat (first | exact Below.refl _ _ | assumption | refine below_drewN ?_ _ | refine Below.drew ?_ | refine Below.alloc ?_ (by (try simp); (try omega)) _ | refine Below.setCell ?_ (by (try simp); (try omega)) _))
  have bx : Blk (((w.alloc (Obj.cells #[.int .i64 W, .int .i64 H, .int .i64 D, .slice Ak kind.length ck, .slice Ao out.length co] 24)).alloc (Obj.cells #[.int .i64 c0, .slice Aq q.length cq] 48)).alloc (Obj.cells #[.int .i64 0, .slice none 0 0] 48)) w.heap.size 24 #[.int .i64 W, .int .i64 H, .int .i64 D, .slice Ak kind.length ck, .slice Ao out.length co] := ((Blk.new w _ _).alloc _).alloc _
  have bm : Blk (((w.alloc (Obj.cells #[.int .i64 W, .int .i64 H, .int .i64 D, .slice Ak kind.length ck, .slice Ao out.length co] 24)).alloc (Obj.cells #[.int .i64 c0, .slice Aq q.length cq] 48)).alloc (Obj.cells #[.int .i64 0, .slice none 0 0] 48)) (w.heap.size + 1) 48 #[.int .i64 c0, .slice Aq q.length cq] := (Blk.new_at (by simp)).alloc _
  have br : Blk (((w.alloc (Obj.cells #[.int .i64 W, .int .i64 H, .int .i64 D, .slice Ak kind.length ck, .slice Ao out.length co] 24)).alloc (Obj.cells #[.int .i64 c0, .slice Aq q.length cq] 48)).alloc (Obj.cells #[.int .i64 0, .slice none 0 0] 48)) (w.heap.size + 1 + 1) 48 #[.int .i64 0, .slice none 0 0] := Blk.new_at (by simp)
  have Hx := hid bx
  have Hm := hid bm
  have Hr := hid br
  clear bx bm br
  go_enter Tryz.func38, Tryz.ntmps38
  go_upto_region 1 with fail
  go_cut [8] (fun s wx => HearW W H D Ak Ao ck co kind out c0 Aq cq q acts w s wx)
  case first =>
    go_region_with (go_at_call 78; refine (sclone_own Ac cc acts _ hal ?_).mono ?_; (exact (hac.below (by (repeat (first | exact Below.refl _ _ | assumption | refine below_drewN ?_ _ | refine Below.drew ?_ | refine Below.alloc ?_ (by (try simp); (try omega)) _ | refine Below.setCell ?_ (by (try simp); (try omega)) _)))).more (by simp; omega)); rintro e w1 ⟨_, rfl, hown, hB⟩; obtain ⟨A', c', rfl, h1, h2, _⟩ := hown.slr hints.out; have m0 := bcell hB (w.heap.size+1) 0 (by (try simp); (try omega)); have z1 := hB.size; have f0 := bfrozen hB (w.heap.size+1+1+1) 0; have f1 := bfrozen hB (w.heap.size+1+1+1) 1; have r0 := bcell hB (w.heap.size+1+1+1) 0; have r1 := bcell hB (w.heap.size+1+1+1) 1; simp [go_sem] at m0 z1; (try simp [go_sem] at f0); (try simp [go_sem] at f1); (try simp [go_sem] at r0); (try simp [go_sem] at r1); have z2 : w.heap.size + 1 < w1.heap.size := by omega; (try have z3 : w.heap.size+1+1+1 < w1.heap.size := Nat.lt_of_succ_le z1))
    all_goals
      go_wp2_with fail
      go_meet
      first
        | exact hearW_a W H D Ak Ao ck co kind out hb0.drew Hx.out.drew Hm.out.drew Hr.out.drew (by simp) hB hown h1 h2
        | exact hearW_b W H D Ak Ao ck co kind out hb0.drew Hx.out.drew Hm.out.drew Hr.out.drew (by simp) hB hown h1 h2
  case rest =>
    obtain ⟨b, A', c', rfl, hb1, bx, bm, br, bt, hbn, h1, h2, hown⟩ := hcut
    clear Hx Hm Hr hb0
    have z0 := hb1.size
    have z1 := bm.lt
    have z2 := br.lt
    have hz2 := z2
    have z3 := bt.lt
    obtain ⟨m0, m1⟩ := blk2 bm
    obtain ⟨r0, r1⟩ := blk2 br
    obtain ⟨t0, t1⟩ := blk2 bt
    have f0 := br.frozen 0
    have f1 := br.frozen 1
    by_cases h4 : 4 < acts.length
    · have hcase := hid (show hearL W H D kind out c0 q acts = ((c0, q), 6) by simp [hearL, h4])
      have i4 : (4:Int) < acts.length := by omega
      go_wp2_with fail
      refine (clone_any c0 Aq cq q _ hql ((hq.below hb1).more hb1.size)).mono ?_
      rintro e w2 ⟨A2, c2, rfl, g1, g2, hown2, _, hB⟩
      have br := br.below hB br.lt
      have hown3 := hown2
      have z4 := br.lt
      have z5 := hb1.size
      obtain ⟨r0, r1⟩ := blk2 br
      have f0 := br.frozen 0
      have f1 := br.frozen 1
      have hb2 := hb1.trans (hB.mono hb1.size)
      clear hB
      go_wp2_with fail
      refine bodyPost_ret (v := .tuple #[.agg #[.int .i64 c0, .slice A2 q.length c2], .int .i64 6]) (by simp [results, Tryz.results38, go_sem, f0, f1, r0, r1, z4]) rfl ?_
      have hown4 := (hown3.far (p := ⟨w.heap.size + 1 + 1, 0, none⟩) (hown3.past (by simpa using hz2)) (.int .i64 c0)).far (p := ⟨w.heap.size + 1 + 1, 1, none⟩) (hown3.past (by simpa using hz2)) (.slice A2 q.length c2)
      obtain ⟨A5, c5, e5, _, _, h3⟩ := hown4.slr hqi.out
      injection e5 with e3 _ _
      subst e3
      exact retHear_of hcase.out rfl (hown4.lower (by omega)) g1 g2 h3 ((hb2.setCell (by simp; omega) _).setCell (by simp; omega) _)
    have i4 : ¬ (4:Int) < acts.length := by omega
    go_wp2_with fail
    refine (known_any Ac cc acts _ (by unfold maxLen; omega) ((hac.below hb1).more z0)).mono ?_
    rintro e w2 ⟨rfl, hB⟩
    have hz2' := hB.size
    replace bx := bx.below hB bx.lt
    replace bm := bm.below hB bm.lt
    replace br := br.below hB br.lt
    replace bt := bt.below hB bt.lt
    replace hown := hown.below hB
    replace hb1 := hb1.trans (hB.mono hb1.size)
    clear m0 m1 r0 r1 t0 t1 f0 f1 z0 z1 z2 z3 hB
    have z0 := hb1.size
    have z1 := bm.lt
    have z2 := br.lt
    have z3 := bt.lt
    obtain ⟨m0, m1⟩ := blk2 bm
    obtain ⟨r0, r1⟩ := blk2 br
    obtain ⟨t0, t1⟩ := blk2 bt
    have f0 := br.frozen 0
    have f1 := br.frozen 1
    have hz2 := z2
    cases h5 : knownL acts with
    | false =>
      have hcase := hid (show hearL W H D kind out c0 q acts = ((c0, q), 1) by simp [hearL, h4, h5])
      clear h5
      go_wp2_with fail
      refine (clone_any c0 Aq cq q _ hql ((hq.below hb1).more hb1.size)).mono ?_
      rintro e w2 ⟨A2, c2, rfl, g1, g2, hown2, _, hB⟩
      have br := br.below hB br.lt
      have hown3 := hown2
      have z4 := br.lt
      have z5 := hb1.size
      obtain ⟨r0, r1⟩ := blk2 br
      have f0 := br.frozen 0
      have f1 := br.frozen 1
      have hb2 := hb1.trans (hB.mono hb1.size)
      clear hB
      go_wp2_with fail
      refine bodyPost_ret (v := .tuple #[.agg #[.int .i64 c0, .slice A2 q.length c2], .int .i64 1]) (by simp [results, Tryz.results38, go_sem, f0, f1, r0, r1, z4]) rfl ?_
      have hown4 := (hown3.far (p := ⟨w.heap.size + 1 + 1, 0, none⟩) (hown3.past (by simpa using hz2)) (.int .i64 c0)).far (p := ⟨w.heap.size + 1 + 1, 1, none⟩) (hown3.past (by simpa using hz2)) (.slice A2 q.length c2)
      obtain ⟨A5, c5, e5, _, _, h3⟩ := hown4.slr hqi.out
      injection e5 with e3 _ _
      subst e3
      exact retHear_of hcase.out rfl (hown4.lower (by omega)) g1 g2 h3 ((hb2.setCell (by simp; omega) _).setCell (by simp; omega) _)
    | true =>
      have H5 := hid h5
      clear h5
      obtain ⟨k0, k1, k2, k3, k4⟩ := blk5 bx
      go_wp2_with fail
      refine (right_any _ _ _ _ _ _ _ _ _ c0 A' c' acts _ hI.out ((hk.below hb1).more z0) ((ho.below hb1).more z0) (by
        obtain ⟨A5, c5, e5, _, _, h3⟩ := hown.slr hints.out
        injection e5 with e3 _ _
        subst e3
        exact h3) (by unfold maxLen; omega)).mono ?_
      rintro e w3 ⟨rfl, hB⟩
      have hz2' := hB.size
      replace bm := bm.below hB bm.lt
      replace br := br.below hB br.lt
      replace bt := bt.below hB bt.lt
      replace hown := hown.below hB
      replace hb1 := hb1.trans (hB.mono hb1.size)
      clear k0 k1 k2 k3 k4 bx m0 m1 r0 r1 t0 t1 f0 f1 z0 z1 z2 z3 hB hz2 hz2'
      have z0 := hb1.size
      have z1 := bm.lt
      have z2 := br.lt
      have z3 := bt.lt
      obtain ⟨m0, m1⟩ := blk2 bm
      obtain ⟨r0, r1⟩ := blk2 br
      obtain ⟨t0, t1⟩ := blk2 bt
      have f0 := br.frozen 0
      have f1 := br.frozen 1
      have hz2 := z2
      cases h6 : rightM W H D kind out c0 acts with
      | false =>
        have hcase := hid (show hearL W H D kind out c0 q acts = ((c0, q), 14) by simp [hearL, h4, H5.out, h6])
        clear h6
        go_wp2_with fail
        refine (clone_any c0 Aq cq q _ hql ((hq.below hb1).more hb1.size)).mono ?_
        rintro e w2 ⟨A2, c2, rfl, g1, g2, hown2, _, hB⟩
        have br := br.below hB br.lt
        have hown3 := hown2
        have z4 := br.lt
        have z5 := hb1.size
        obtain ⟨r0, r1⟩ := blk2 br
        have f0 := br.frozen 0
        have f1 := br.frozen 1
        have hb2 := hb1.trans (hB.mono hb1.size)
        clear hB
        go_wp2_with fail
        refine bodyPost_ret (v := .tuple #[.agg #[.int .i64 c0, .slice A2 q.length c2], .int .i64 14]) (by simp [results, Tryz.results38, go_sem, f0, f1, r0, r1, z4]) rfl ?_
        have hown4 := (hown3.far (p := ⟨w.heap.size + 1 + 1, 0, none⟩) (hown3.past (by simpa using hz2)) (.int .i64 c0)).far (p := ⟨w.heap.size + 1 + 1, 1, none⟩) (hown3.past (by simpa using hz2)) (.slice A2 q.length c2)
        obtain ⟨A5, c5, e5, _, _, h3⟩ := hown4.slr hqi.out
        injection e5 with e3 _ _
        subst e3
        exact retHear_of hcase.out rfl (hown4.lower (by omega)) g1 g2 h3 ((hb2.setCell (by simp; omega) _).setCell (by simp; omega) _)
      | true =>
        have hcase := hid (show hearL W H D kind out c0 q acts = ((c0, acts), 0) by simp [hearL, h4, H5.out, h6])
        clear h6
        go_wp2_with fail
        refine bodyPost_ret (v := .tuple #[.agg #[.int .i64 c0, .slice A' acts.length c'], .int .i64 0]) (by simp [results, Tryz.results38, go_sem, f0, f1, r0, r1, z2]) rfl ?_
        have hown4 := (hown.far (p := ⟨w.heap.size + 1 + 1, 0, none⟩) (hown.past (by simp)) (.int .i64 c0)).far (p := ⟨w.heap.size + 1 + 1, 1, none⟩) (hown.past (by simp)) (.slice A' acts.length c')
        obtain ⟨A5, c5, e5, _, _, h3⟩ := hown4.slr hints.out
        injection e5 with e3 _ _
        subst e3
        exact retHear_of hcase.out rfl (hown4.lower (by omega)) h1 h2 h3 ((hb1.setCell (by simp; omega) _).setCell (by simp; omega) _)
end Go.Proofs.YtnnephifjikkdaaGreatDoor
