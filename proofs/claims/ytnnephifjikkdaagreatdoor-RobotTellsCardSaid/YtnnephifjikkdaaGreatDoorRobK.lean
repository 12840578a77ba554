
/- Robots: the documented examples. -/
import Derived.Test.YtnnephifjikkdaaGreatDoorRobJ
set_option linter.unusedSimpArgs false
set_option linter.unusedVariables false
namespace Go.Proofs.YtnnephifjikkdaaGreatDoor
open Go.RowKit Go.IntWalk

theorem RF5 : RF 5 1 1 [1, 1, 1, 1, 1] [5, 5, 5, 5, 5] := refR_iff.1 (by decide)
theorem h5a : hearL 5 1 1 [1, 1, 1, 1, 1] [5, 5, 5, 5, 5] 0 [] [1, 7, 1] = ((0, [1, 7, 1]), 0) := by decide
theorem h5b : hearL 5 1 1 [1, 1, 1, 1, 1] [5, 5, 5, 5, 5] 0 [1, 7, 1] [0, 0, 0, 0, 0] = ((0, [1, 7, 1]), 6) := by decide
theorem h5c : hearL 5 1 1 [1, 1, 1, 1, 1] [5, 5, 5, 5, 5] 0 [1, 7, 1] [3] = ((0, [1, 7, 1]), 14) := by decide
theorem w5 : wayL (nextL 5 1 1 [1, 1, 1, 1, 1] [5, 5, 5, 5, 5]) 0 [1, 7, 1] = some [0, 1, 2] := by decide
theorem d5a : didL (nextL 5 1 1 [1, 1, 1, 1, 1] [5, 5, 5, 5, 5]) 0 [1, 7, 1] 1 true = (1, [7, 1]) := by decide
theorem d5b : didL (nextL 5 1 1 [1, 1, 1, 1, 1] [5, 5, 5, 5, 5]) 1 [7, 1] 7 false = (1, [7, 1]) := by decide
theorem r5 : rightM 5 1 1 [1, 1, 1, 1, 1] [5, 5, 5, 5, 5] 1 [7, 1] = true := by decide
theorem slr_news {w : World} {g n : Nat} {l : List Int} (hg : g = w.heap.size) (hi : ∀ x ∈ l, I64 x) (hn : g < n) : SlR (w.alloc (Obj.cells (l.map (Value.int .i64)).toArray 3)) n (some ⟨g, 0, none⟩) l := by
  subst hg
  exact (Blk.new w _ _).ints hn hi
theorem retHear_get {w w' : World} {e : Ending} {c n : Int} {q : List Int} (h : RetHear w ((c, q), n) e w') : ∃ A cq, e = .returned (.tuple #[.agg #[.int .i64 c, .slice A q.length cq], .int .i64 n]) ∧ OwnI w' w.heap.size (.slice A q.length cq) q ∧ SlR w' w'.heap.size A q ∧ Below w.heap.size w w' := by
  obtain ⟨A, cq, he, ho, _, _, h3, hB⟩ := h
  exact ⟨A, cq, he, ho, h3, hB⟩
def SmallW (w w1 : World) (Ak : Option Addr) (ck : Nat) (Ao : Option Addr) (co : Nat) (s t : Value) (wx : World) : Prop :=
  ∃ b A c, s = .pointer (some ⟨b, 0, none⟩) ∧ t = .int .i64 0 ∧ Below w.heap.size w wx ∧ Below w1.heap.size w1 wx ∧ Blk wx w1.heap.size 24 #[.int .i64 5, .int .i64 1, .int .i64 1, .slice Ak 5 ck, .slice Ao 5 co] ∧ Blk wx b 48 #[.int .i64 0, .slice A 3 c] ∧ SlR wx wx.heap.size A ([1, 7, 1] : List Int)
theorem smallW_a {w w1 W w2 : World} {Ak Ao A : Option Addr} {ck co c : Nat} (hb0 : Below w.heap.size w W) (hb1 : Below w1.heap.size w1 W) (bx : Blk W w1.heap.size 24 #[.int .i64 5, .int .i64 1, .int .i64 1, .slice Ak 5 ck, .slice Ao 5 co]) (hB : Below W.heap.size W w2) (h3 : SlR w2 w2.heap.size A ([1, 7, 1] : List Int)) :
    SmallW w w1 Ak ck Ao co (.pointer (some ⟨w2.heap.size, 0, none⟩)) (.int .i64 0) (w2.alloc (Obj.cells #[.int .i64 0, .slice A 3 c] 48)) := by
  have z1 := hB.size
  have z2 := hb0.size
  have z3 := hb1.size
  exact ⟨w2.heap.size, A, c, rfl, rfl, (hb0.trans (hB.mono z2)).alloc (by omega) _, (hb1.trans (hB.mono z3)).alloc (by omega) _, (bx.below hB bx.lt).alloc _, Blk.new _ _ _, (h3.alloc (Nat.le_refl _) _).more (by simp)⟩
theorem smallW_b {w w1 W w2 : World} {Ak Ao A : Option Addr} {ck co c g : Nat} (hb0 : Below w.heap.size w W) (hb1 : Below w1.heap.size w1 W) (bx : Blk W w1.heap.size 24 #[.int .i64 5, .int .i64 1, .int .i64 1, .slice Ak 5 ck, .slice Ao 5 co]) (hB : Below W.heap.size W w2) (hown : OwnI w2 W.heap.size (.slice A 3 c) [1, 7, 1]) (hg : w1.heap.size < g) (hg2 : w.heap.size ≤ g) (bg : Blk W g 48 #[.int .i64 0, .slice none 0 0]) :
    SmallW w w1 Ak ck Ao co (.pointer (some ⟨g, 0, none⟩)) (.int .i64 0) ((w2.setCell ⟨g, 0, none⟩ (.int .i64 0)).setCell ⟨g, 1, none⟩ (.slice A 3 c)) := by
  have z1 := hB.size
  have z2 := hb0.size
  have z3 := hb1.size
  have z4 := bg.lt
  have hown2 := (hown.far (p := ⟨g, 0, none⟩) (hown.past (by simpa using z4)) (.int .i64 0)).far (p := ⟨g, 1, none⟩) (hown.past (by simpa using z4)) (.slice A 3 c)
  obtain ⟨B1, d1, e1, _, _, h3⟩ := hown2.slr (by simp [I64])
  injection e1 with e1 _ _
  subst e1
  exact ⟨g, A, c, rfl, rfl, ((hb0.trans (hB.mono z2)).setCell (by (try simp); (try omega)) _).setCell (by (try simp); (try omega)) _, ((hb1.trans (hB.mono z3)).setCell (by (try simp); (try omega)) _).setCell (by (try simp); (try omega)) _, ((bx.below hB bx.lt).far (by (try simp); (try omega)) _).far (by (try simp); (try omega)) _, by simpa using ((bg.below hB bg.lt).set_ 0 (.int .i64 0)).set_ 1 (.slice A 3 c), h3⟩
structure Sm (w w1 : World) (Ak : Option Addr) (ck : Nat) (Ao : Option Addr) (co : Nat) (b : Nat) (A : Option Addr) (c : Nat) (W : World) : Prop where
  hb : Below w.heap.size w W
  hb1 : Below w1.heap.size w1 W
  bf : Blk W w1.heap.size 24 #[.int .i64 5, .int .i64 1, .int .i64 1, .slice Ak 5 ck, .slice Ao 5 co]
  bm : Blk W b 48 #[.int .i64 0, .slice A 3 c]
  sk : SlR W W.heap.size Ak ([1, 1, 1, 1, 1] : List Int)
  so : SlR W W.heap.size Ao ([5, 5, 5, 5, 5] : List Int)
  sq : SlR W W.heap.size A ([1, 7, 1] : List Int)
theorem Sm.step {w w1 : World} {Ak : Option Addr} {ck : Nat} {Ao : Option Addr} {co : Nat} {b : Nat} {A : Option Addr} {c : Nat} {W W' : World} (h : Sm w w1 Ak ck Ao co b A c W) (hB : Below W.heap.size W W') : Sm w w1 Ak ck Ao co b A c W' :=
  ⟨h.hb.trans (hB.mono h.hb.size), h.hb1.trans (hB.mono h.hb1.size), h.bf.below hB h.bf.lt, h.bm.below hB h.bm.lt, (h.sk.below hB).more hB.size, (h.so.below hB).more hB.size, (h.sq.below hB).more hB.size⟩
set_option maxRecDepth 100000 in
set_option maxHeartbeats 4000000 in
theorem small_any (w : World) : Calls Tryz.prog 30 #[] w fun e w' => e = .returned (.bool true) ∧ Below w.heap.size w w' := by
  go_enter Tryz.func30, Tryz.ntmps30
  go_wp2_with fail
  refine (row_any _).mono ?_
  rintro e w1 ⟨Ak, ck, Ao, co, rfl, hk, ho, hB⟩
  simp only [List.length_cons, List.length_nil, Nat.zero_add, Nat.reduceAdd]
  go_upto_region 3 with fail
  have hb0 : Below w.heap.size w (w1.alloc (Obj.cells #[.int .i64 5, .int .i64 1, .int .i64 1, .slice Ak 5 ck, .slice Ao 5 co] 24)) := hB.alloc hB.size _
  have hb1 : Below w1.heap.size w1 (w1.alloc (Obj.cells #[.int .i64 5, .int .i64 1, .int .i64 1, .slice Ak 5 ck, .slice Ao 5 co] 24)) := by (repeat (first | exact Below.refl _ _ | assumption | refine below_drewN ?_ _ | refine Below.drew ?_ | refine Below.alloc ?_ (by (try simp); (try omega)) _ | refine Below.setCell ?_ (by (try simp); (try omega)) _))
  have bx : Hid (Blk (w1.alloc (Obj.cells #[.int .i64 5, .int .i64 1, .int .i64 1, .slice Ak 5 ck, .slice Ao 5 co] 24)) w1.heap.size 24 #[.int .i64 5, .int .i64 1, .int .i64 1, .slice Ak 5 ck, .slice Ao 5 co]) := Blk.new _ _ _
  have hbz := hB.size
  clear hB
  go_cut [3, 4] (fun s t wx => SmallW w w1 Ak ck Ao co s t wx)
  case first =>
    go_region_held3 (fun w' => w'.cell? ⟨w1.heap.size, 0, none⟩ = some (.int .i64 5) ∧ w'.cell? ⟨w1.heap.size, 1, none⟩ = some (.int .i64 1) ∧ w'.cell? ⟨w1.heap.size, 2, none⟩ = some (.int .i64 1) ∧ w'.cell? ⟨w1.heap.size, 3, none⟩ = some (.slice Ak 5 ck) ∧ w'.cell? ⟨w1.heap.size, 4, none⟩ = some (.slice Ao 5 co))
      (first | go_keep | (go_split_ands; refine ⟨?_, ?_, ?_, ?_, ?_⟩ <;> (rw [World.cell?_setCell_far _ _ _ _ (by (try simp); (try omega)), World.cell?_setCell_far _ _ _ _ (by (try simp); (try omega))]; assumption)))
      (first
      | (go_at_call 37; refine (new_any 0 _).mono ?_; rintro e w' ⟨rfl, rfl⟩)
      | (go_at_call 38; refine (hear_any 5 1 1 Ak Ao ck co [1, 1, 1, 1, 1] [5, 5, 5, 5, 5] 0 none 0 [] _ _ [1, 7, 1] _ RF5 (by simp) (by simp) ((hk.below (by (repeat (first | exact Below.refl _ _ | assumption | refine below_drewN ?_ _ | refine Below.drew ?_ | refine Below.alloc ?_ (by (try simp); (try omega)) _ | refine Below.setCell ?_ (by (try simp); (try omega)) _)))).more (by (try simp); (try omega))) ((ho.below (by (repeat (first | exact Below.refl _ _ | assumption | refine below_drewN ?_ _ | refine Below.drew ?_ | refine Below.alloc ?_ (by (try simp); (try omega)) _ | refine Below.setCell ?_ (by (try simp); (try omega)) _)))).more (by (try simp); (try omega))) SlR.nil ?_).mono ?_; (exact Blk.ints (l := [1, 7, 1]) (by first | exact (Blk.new_at (by simp)).drew | exact ((Blk.new_at (by simp)).alloc _).drew | exact (((Blk.new_at (by simp)).alloc _).alloc _).drew) (by simp) (by simp [I64])); rw [h5a]; rintro e w2 hRH; obtain ⟨A, c, rfl, hown, h3, hB⟩ := retHear_get hRH; clear hRH; simp only [List.length_cons, List.length_nil, Nat.zero_add, Nat.reduceAdd] at hown ⊢; have s0 := bcell hB w1.heap.size 0 (by (try simp); (try omega)); have s1 := bcell hB w1.heap.size 1 (by (try simp); (try omega)); have s2 := bcell hB w1.heap.size 2 (by (try simp); (try omega)); have s3 := bcell hB w1.heap.size 3 (by (try simp); (try omega)); have s4 := bcell hB w1.heap.size 4 (by (try simp); (try omega)); simp [go_sem] at s0 s1 s2 s3 s4; have z0 := hB.size; (try simp [go_sem] at z0); have z1 : w1.heap.size + 1 + 1 < w2.heap.size := (by omega); have z2 : w1.heap.size + 1 < w2.heap.size := (by omega); have z3 := Nat.lt_of_succ_le z0; have f0 := bfrozen hB (w1.heap.size + 1) 0; (try simp [go_sem] at f0); have r0 := bcell hB (w1.heap.size + 1) 0; (try simp [go_sem] at r0); have f1 := bfrozen hB (w1.heap.size + 1) 1; (try simp [go_sem] at f1); have r1 := bcell hB (w1.heap.size + 1) 1; (try simp [go_sem] at r1); have f2 := bfrozen hB (w1.heap.size + 1 + 1) 0; (try simp [go_sem] at f2); have r2 := bcell hB (w1.heap.size + 1 + 1) 0; (try simp [go_sem] at r2); have f3 := bfrozen hB (w1.heap.size + 1 + 1) 1; (try simp [go_sem] at f3); have r3 := bcell hB (w1.heap.size + 1 + 1) 1; (try simp [go_sem] at r3); have f4 := bfrozen hB (w1.heap.size + 1 + 1 + 1) 0; (try simp [go_sem] at f4); have r4 := bcell hB (w1.heap.size + 1 + 1 + 1) 0; (try simp [go_sem] at r4); have f5 := bfrozen hB (w1.heap.size + 1 + 1 + 1) 1; (try simp [go_sem] at f5); have r5 := bcell hB (w1.heap.size + 1 + 1 + 1) 1; (try simp [go_sem] at r5)))
    all_goals
      go_wp2_with fail
      go_meet
      first
        | (refine smallW_a ?_ ?_ ?_ hB h3
           · ((repeat (first | exact Below.refl _ _ | assumption | refine below_drewN ?_ _ | refine Below.drew ?_ | refine Below.alloc ?_ (by (try simp); (try omega)) _ | refine Below.setCell ?_ (by (try simp); (try omega)) _)))
           · ((repeat (first | exact Below.refl _ _ | assumption | refine below_drewN ?_ _ | refine Below.drew ?_ | refine Below.alloc ?_ (by (try simp); (try omega)) _ | refine Below.setCell ?_ (by (try simp); (try omega)) _)))
           · (first | exact bx.out.drew | exact (bx.out.alloc _).drew | exact ((bx.out.alloc _).alloc _).drew | exact (((bx.out.alloc _).alloc _).alloc _).drew))
        | (refine smallW_b (g := w1.heap.size + 1) ?_ ?_ ?_ hB hown ?_ ?_ ?_
           · ((repeat (first | exact Below.refl _ _ | assumption | refine below_drewN ?_ _ | refine Below.drew ?_ | refine Below.alloc ?_ (by (try simp); (try omega)) _ | refine Below.setCell ?_ (by (try simp); (try omega)) _)))
           · ((repeat (first | exact Below.refl _ _ | assumption | refine below_drewN ?_ _ | refine Below.drew ?_ | refine Below.alloc ?_ (by (try simp); (try omega)) _ | refine Below.setCell ?_ (by (try simp); (try omega)) _)))
           · (first | exact bx.out.drew | exact (bx.out.alloc _).drew | exact ((bx.out.alloc _).alloc _).drew | exact (((bx.out.alloc _).alloc _).alloc _).drew)
           · ((try simp); (try omega))
           · (have := hbz; omega)
           · (first | (refine (Blk.new_at ?_).drew; simp; done) | (refine ((Blk.new_at ?_).alloc _).drew; simp; done) | (refine (((Blk.new_at ?_).alloc _).alloc _).drew; simp; done)))
        | (refine smallW_b (g := w1.heap.size + 1 + 1) ?_ ?_ ?_ hB hown ?_ ?_ ?_
           · ((repeat (first | exact Below.refl _ _ | assumption | refine below_drewN ?_ _ | refine Below.drew ?_ | refine Below.alloc ?_ (by (try simp); (try omega)) _ | refine Below.setCell ?_ (by (try simp); (try omega)) _)))
           · ((repeat (first | exact Below.refl _ _ | assumption | refine below_drewN ?_ _ | refine Below.drew ?_ | refine Below.alloc ?_ (by (try simp); (try omega)) _ | refine Below.setCell ?_ (by (try simp); (try omega)) _)))
           · (first | exact bx.out.drew | exact (bx.out.alloc _).drew | exact ((bx.out.alloc _).alloc _).drew | exact (((bx.out.alloc _).alloc _).alloc _).drew)
           · ((try simp); (try omega))
           · (have := hbz; omega)
           · (first | (refine (Blk.new_at ?_).drew; simp; done) | (refine ((Blk.new_at ?_).alloc _).drew; simp; done) | (refine (((Blk.new_at ?_).alloc _).alloc _).drew; simp; done)))
        | (refine smallW_b (g := w1.heap.size + 1 + 1 + 1) ?_ ?_ ?_ hB hown ?_ ?_ ?_
           · ((repeat (first | exact Below.refl _ _ | assumption | refine below_drewN ?_ _ | refine Below.drew ?_ | refine Below.alloc ?_ (by (try simp); (try omega)) _ | refine Below.setCell ?_ (by (try simp); (try omega)) _)))
           · ((repeat (first | exact Below.refl _ _ | assumption | refine below_drewN ?_ _ | refine Below.drew ?_ | refine Below.alloc ?_ (by (try simp); (try omega)) _ | refine Below.setCell ?_ (by (try simp); (try omega)) _)))
           · (first | exact bx.out.drew | exact (bx.out.alloc _).drew | exact ((bx.out.alloc _).alloc _).drew | exact (((bx.out.alloc _).alloc _).alloc _).drew)
           · ((try simp); (try omega))
           · (have := hbz; omega)
           · (first | (refine (Blk.new_at ?_).drew; simp; done) | (refine ((Blk.new_at ?_).alloc _).drew; simp; done) | (refine (((Blk.new_at ?_).alloc _).alloc _).drew; simp; done)))
  case rest =>
    clear bx hb0 hb1
    obtain ⟨b, A, c, rfl, rfl, hb, hb1, bf, bm, h3⟩ := hcut
    have S0 : Hid (Sm w w1 Ak ck Ao co b A c wc) := ⟨hb, hb1, bf, bm, (hk.below hb1).more hb1.size, (ho.below hb1).more hb1.size, h3⟩
    clear hb hb1 bf bm h3 hk ho hbz
    obtain ⟨x0, x1, x2, x3, x4⟩ := blk5 S0.out.bf; obtain ⟨m0, m1⟩ := blk2 S0.out.bm
    go_wp2_with fail
    refine (wayF_any 5 1 1 Ak Ao ck co [1, 1, 1, 1, 1] [5, 5, 5, 5, 5] 0 A c [1, 7, 1] [0, 1, 2] _ RF5 S0.out.sk S0.out.so S0.out.sq (by simp) (by simp) (by simp [I64]) w5).mono ?_
    rintro e w2 ⟨_, rfl, A5, c5, rfl, _, _, s5, _, hB⟩
    simp only [List.length_cons, List.length_nil, Nat.zero_add, Nat.reduceAdd]
    have S2 := hid (S0.out.step hB)
    clear S0 hB
    clear x0 x1 x2 x3 x4 m0 m1
    obtain ⟨x0, x1, x2, x3, x4⟩ := blk5 S2.out.bf; obtain ⟨m0, m1⟩ := blk2 S2.out.bm
    go_wp2_with fail
    refine (did_any 5 1 1 Ak Ao ck co [1, 1, 1, 1, 1] [5, 5, 5, 5, 5] 0 A c [1, 7, 1] 1 true _ RF5 (by simp) S2.out.sk S2.out.so S2.out.sq (by simp)).mono ?_
    rw [d5a]
    rintro e w3 ⟨A6, c6, rfl, _, _, s6, _, hB⟩
    simp only [List.length_cons, List.length_nil, Nat.zero_add, Nat.reduceAdd]
    have hB3 : Below w2.heap.size w2 (w3.alloc (Obj.cells #[.int .i64 1, .slice A6 2 c6] 48)) := hB.alloc hB.size _
    have S3 := hid (S2.out.step hB3)
    have b6 := hid (Blk.new w3 48 #[.int .i64 1, .slice A6 2 c6])
    have s5' := (s5.below hB3).more hB3.size
    have s6' : SlR (w3.alloc (Obj.cells #[.int .i64 1, .slice A6 2 c6] 48)) (w3.alloc (Obj.cells #[.int .i64 1, .slice A6 2 c6] 48)).heap.size A6 ([7, 1] : List Int) := (s6.alloc (Nat.le_refl _) _).more (by simp)
    clear S2 hB hB3 s5 s6
    clear x0 x1 x2 x3 x4 m0 m1
    obtain ⟨x0, x1, x2, x3, x4⟩ := blk5 S3.out.bf; obtain ⟨m0, m1⟩ := blk2 S3.out.bm
    obtain ⟨n00, n01⟩ := blk2 b6.out
    go_wp2_with fail
    refine (did_any 5 1 1 Ak Ao ck co [1, 1, 1, 1, 1] [5, 5, 5, 5, 5] 1 A6 c6 [7, 1] 7 false _ RF5 (by simp) S3.out.sk S3.out.so s6' (by simp)).mono ?_
    rw [d5b]
    rintro e w4 ⟨A7, c7, rfl, _, _, s7, _, hB⟩
    simp only [List.length_cons, List.length_nil, Nat.zero_add, Nat.reduceAdd]
    have hB4 := hB.alloc hB.size (Obj.cells #[.int .i64 1, .slice A7 2 c7] 48)
    have S4 := hid (S3.out.step hB4)
    have b7 := hid (Blk.new w4 48 #[.int .i64 1, .slice A7 2 c7])
    have s5 := (s5'.below hB4).more hB4.size
    have s7' : SlR (w4.alloc (Obj.cells #[.int .i64 1, .slice A7 2 c7] 48)) (w4.alloc (Obj.cells #[.int .i64 1, .slice A7 2 c7] 48)).heap.size A7 ([7, 1] : List Int) := (s7.alloc (Nat.le_refl _) _).more (by simp)
    clear S3 hB hB4 s5' s6' s7 b6
    clear x0 x1 x2 x3 x4 m0 m1 n00 n01
    obtain ⟨x0, x1, x2, x3, x4⟩ := blk5 S4.out.bf; obtain ⟨m0, m1⟩ := blk2 S4.out.bm
    go_wp2_with fail
    refine (hear_any 5 1 1 Ak Ao ck co [1, 1, 1, 1, 1] [5, 5, 5, 5, 5] 0 A c [1, 7, 1] _ _ [0, 0, 0, 0, 0] _ RF5 (by simp) (by simp) ?_ ?_ ?_ ?_).mono ?_
    · exact (S4.out.sk.alloc (Nat.le_refl _) _).more (by simp)
    · exact (S4.out.so.alloc (Nat.le_refl _) _).more (by simp)
    · exact (S4.out.sq.alloc (Nat.le_refl _) _).more (by simp)
    · exact Blk.ints (l := [0, 0, 0, 0, 0]) (Blk.new_at (by simp)) (by simp) (by simp [I64])
    rw [h5b]
    rintro e w5 hRH
    obtain ⟨A8, c8, rfl, _, _, hB⟩ := retHear_get hRH
    simp only [List.length_cons, List.length_nil, Nat.zero_add, Nat.reduceAdd]
    have hB5 : Below (w4.alloc (Obj.cells #[.int .i64 1, .slice A7 2 c7] 48)).heap.size (w4.alloc (Obj.cells #[.int .i64 1, .slice A7 2 c7] 48)) (w5.alloc (Obj.cells #[.int .i64 0, .slice A8 3 c8] 48)) := by
      have z1 := hB.size
      simp at z1
      exact (((Below.refl _ _).alloc (Nat.le_refl _) _).trans (hB.mono (by simp))).alloc (by simp; omega) _
    have S5 := hid (S4.out.step hB5)
    have b7' := hid (b7.out.below hB5 b7.out.lt)
    have s5' := (s5.below hB5).more hB5.size
    have s7 := (s7'.below hB5).more hB5.size
    clear S4 hB hRH hB5 s7' s5 b7
    clear x0 x1 x2 x3 x4 m0 m1
    obtain ⟨x0, x1, x2, x3, x4⟩ := blk5 S5.out.bf; obtain ⟨m0, m1⟩ := blk2 S5.out.bm
    go_wp2_with fail
    refine (hear_any 5 1 1 Ak Ao ck co [1, 1, 1, 1, 1] [5, 5, 5, 5, 5] 0 A c [1, 7, 1] _ _ [3] _ RF5 (by simp) (by simp) ?_ ?_ ?_ ?_).mono ?_
    · exact (S5.out.sk.alloc (Nat.le_refl _) _).more (by simp)
    · exact (S5.out.so.alloc (Nat.le_refl _) _).more (by simp)
    · exact (S5.out.sq.alloc (Nat.le_refl _) _).more (by simp)
    · exact Blk.ints (l := [3]) (Blk.new_at (by simp)) (by simp) (by simp [I64])
    rw [h5c]
    rintro e w6 hRH
    obtain ⟨A9, c9, rfl, _, _, hB⟩ := retHear_get hRH
    simp only [List.length_cons, List.length_nil, Nat.zero_add, Nat.reduceAdd]
    have hB6 : Below (w5.alloc (Obj.cells #[.int .i64 0, .slice A8 3 c8] 48)).heap.size (w5.alloc (Obj.cells #[.int .i64 0, .slice A8 3 c8] 48)) (w6.alloc (Obj.cells #[.int .i64 0, .slice A9 3 c9] 48)) := by
      have z1 := hB.size
      simp at z1
      exact (((Below.refl _ _).alloc (Nat.le_refl _) _).trans (hB.mono (by simp))).alloc (by simp; omega) _
    have S6 := hid (S5.out.step hB6)
    have b7 := hid (b7'.out.below hB6 b7'.out.lt)
    have s5 := (s5'.below hB6).more hB6.size
    have s7' := (s7.below hB6).more hB6.size
    clear S5 hB hRH hB6 s7 s5' b7'
    clear x0 x1 x2 x3 x4 m0 m1
    obtain ⟨x0, x1, x2, x3, x4⟩ := blk5 S6.out.bf; obtain ⟨m0, m1⟩ := blk2 S6.out.bm
    obtain ⟨n00, n01⟩ := blk2 b7.out
    go_wp2_with fail
    refine (sameI_any _ _ _ _ [0, 1, 2] [0, 1, 2] _ (by simp [maxLen]) (by simp [maxLen]) ((s5.alloc (Nat.le_refl _) _).more (by simp)) (Blk.ints (l := [0, 1, 2]) (Blk.new_at (by simp)) (by simp) (by simp [I64]))).mono ?_
    rw [show decide (([0, 1, 2] : List Int) = [0, 1, 2]) = true from rfl]
    rintro e w7 ⟨rfl, hB⟩
    have z1 := hB.size
    have hB7 : Below (w6.alloc (Obj.cells #[.int .i64 0, .slice A9 3 c9] 48)).heap.size (w6.alloc (Obj.cells #[.int .i64 0, .slice A9 3 c9] 48)) w7 := ((Below.refl _ _).alloc (Nat.le_refl _) _).trans (hB.mono (by simp))
    have S7 := hid (S6.out.step hB7)
    have b7' := hid (b7.out.below hB7 b7.out.lt)
    have s7 := (s7'.below hB7).more hB7.size
    clear S6 hB hB7 s7' b7 z1 s5
    clear x0 x1 x2 x3 x4 m0 m1 n00 n01
    obtain ⟨x0, x1, x2, x3, x4⟩ := blk5 S7.out.bf; obtain ⟨m0, m1⟩ := blk2 S7.out.bm
    obtain ⟨n00, n01⟩ := blk2 b7'.out
    go_wp2_with fail
    refine (nextM_any 0 A c [1, 7, 1] _ (by simp [maxLen]) S7.out.sq).mono ?_
    rintro e w8 ⟨rfl, hB⟩
    simp only [List.headD_cons]
    have S8 := hid (S7.out.step hB)
    have b7 := hid (b7'.out.below hB b7'.out.lt)
    have s7' := (s7.below hB).more hB.size
    clear S7 hB s7 b7'
    clear x0 x1 x2 x3 x4 m0 m1 n00 n01
    obtain ⟨x0, x1, x2, x3, x4⟩ := blk5 S8.out.bf; obtain ⟨m0, m1⟩ := blk2 S8.out.bm
    obtain ⟨n00, n01⟩ := blk2 b7.out
    go_wp2_with fail
    refine (sameI_any _ _ _ _ [7, 1] [7, 1] _ (by simp [maxLen]) (by simp [maxLen]) ((s7'.alloc (Nat.le_refl _) _).more (by simp)) (Blk.ints (l := [7, 1]) (Blk.new_at (by simp)) (by simp) (by simp [I64]))).mono ?_
    rw [show decide (([7, 1] : List Int) = [7, 1]) = true from rfl]
    rintro e w9 ⟨rfl, hB⟩
    have hB9 : Below w8.heap.size w8 w9 := ((Below.refl _ _).alloc (Nat.le_refl _) _).trans (hB.mono (by simp))
    have S9 := hid (S8.out.step hB9)
    have b7' := hid (b7.out.below hB9 b7.out.lt)
    have s7 := (s7'.below hB9).more hB9.size
    clear S8 hB hB9 s7' b7
    clear x0 x1 x2 x3 x4 m0 m1 n00 n01
    obtain ⟨x0, x1, x2, x3, x4⟩ := blk5 S9.out.bf; obtain ⟨m0, m1⟩ := blk2 S9.out.bm
    obtain ⟨n00, n01⟩ := blk2 b7'.out
    go_wp2_with fail
    refine (right_any 5 1 1 Ak Ao ck co [1, 1, 1, 1, 1] [5, 5, 5, 5, 5] 1 A7 c7 [7, 1] _ RF5 S9.out.sk S9.out.so s7 (by simp [maxLen])).mono ?_
    rw [r5]
    rintro e w10 ⟨rfl, hB⟩
    have S10 := hid (S9.out.step hB)
    clear S9 hB
    clear x0 x1 x2 x3 x4 m0 m1 n00 n01
    go_wp2_with fail
    go_ret
    exact ⟨rfl, S10.out.hb⟩
end Go.Proofs.YtnnephifjikkdaaGreatDoor
