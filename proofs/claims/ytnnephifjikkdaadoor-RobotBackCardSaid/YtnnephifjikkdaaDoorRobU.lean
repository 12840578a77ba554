
/- Robots: RobotBack, the walk. -/
import Derived.Test.YtnnephifjikkdaaDoorRobT
import Derived.Test.YtnnephifjikkdaaDoorRobK
import Derived.Test.YtnnephifjikkdaaDoorRobH
set_option linter.unusedSimpArgs false
set_option linter.unusedVariables false
namespace Go.Proofs.YtnnephifjikkdaaDoor
open Go.RowKit Go.IntWalk

/-- The world of the law: the floor's box, the mind's box. -/
structure BW (w : World) (a b : Array Value) (wx : World) : Prop where
  below : Below w.heap.size w wx
  bf : Blk wx w.heap.size 34 a
  bm : Blk wx (w.heap.size + 1) 36 b
theorem BW.step {w wx wy : World} {a b : Array Value} (h : BW w a b wx) (hb : Below wx.heap.size wx wy) : BW w a b wy :=
  ⟨h.below.trans (hb.mono h.below.size), h.bf.below hb h.bf.lt, h.bm.below hb h.bm.lt⟩
theorem BW.alloc {w wx : World} {a b : Array Value} (h : BW w a b wx) (o : Obj) : BW w a b (wx.alloc o) := h.step (by (repeat (first | exact Below.refl _ _ | assumption | refine below_drewN ?_ _ | refine Below.drew ?_ | refine Below.alloc ?_ (by (try simp); (try omega)) _ | refine Below.setCell ?_ (by (try simp); (try omega)) _)))
theorem BW.drew {w wx : World} {a b : Array Value} (h : BW w a b wx) : BW w a b wx.drew := h.step (by (repeat (first | exact Below.refl _ _ | assumption | refine below_drewN ?_ _ | refine Below.drew ?_ | refine Below.alloc ?_ (by (try simp); (try omega)) _ | refine Below.setCell ?_ (by (try simp); (try omega)) _)))
theorem BW.far {w wx : World} {a b : Array Value} (h : BW w a b wx) {g : Nat} (hg : w.heap.size + 1 < g) (i : Nat) (u : Value) : BW w a b (wx.setCell ⟨g, i, none⟩ u) :=
  ⟨h.below.setCell (by simp; omega) _, h.bf.far (by simp; omega) _, h.bm.far (by simp; omega) _⟩
theorem bl_set {W : World} {g : Nat} {ty : TypeId} {x y u v : Value} (h : Blk W g ty #[x, y]) : Blk ((W.setCell ⟨g, 0, none⟩ u).setCell ⟨g, 1, none⟩ v) g ty #[u, v] := by
  have := (Blk.set_ h 0 u).set_ 1 v
  simpa using this
/-- What the second reading leaves. -/
def CutB (w : World) (a b : Array Value) (c0 : Int) (q : List Int) (v u : Value) (wx : World) : Prop :=
  ∃ g A c', v = .pointer (some ⟨g, 0, none⟩) ∧ u = .bool true ∧ BW w a b wx ∧ Blk wx g 36 #[.int .i64 c0, .slice A q.length c'] ∧ SlR wx wx.heap.size A q
theorem cutB_1 {w w3 : World} {a b : Array Value} {c0 : Int} {q : List Int} {A : Option Addr} {c' : Nat} (h : BW w a b w3) (hs : SlR w3 w3.heap.size A q) : CutB w a b c0 q (.pointer (some ⟨w3.heap.size, 0, none⟩)) (.bool true) (w3.alloc (Obj.cells #[.int .i64 c0, .slice A q.length c'] 36)) :=
  ⟨w3.heap.size, A, c', rfl, rfl, h.alloc _, Blk.new _ _ _, (hs.alloc (Nat.le_refl _) _).more (by simp)⟩
theorem cutB_2 {w w3 : World} {a b : Array Value} {c0 : Int} {q : List Int} {A : Option Addr} {c' base g : Nat} {x y : Value} (h : BW w a b w3) (ho : OwnI w3 base (.slice A q.length c') q) (hi : ∀ x ∈ q, I64 x) (hg : w.heap.size + 1 < g) (hgb : g < base) (hb : Blk w3 g 36 #[x, y]) :
    CutB w a b c0 q (.pointer (some ⟨g, 0, none⟩)) (.bool true) ((w3.setCell ⟨g, 0, none⟩ (.int .i64 c0)).setCell ⟨g, 1, none⟩ (.slice A q.length c')) := by
  have hO := ho.keptb (grown_trans (grown_set w3 g 0 (.int .i64 c0)) (grown_set _ g 1 (.slice A q.length c'))) hgb
  obtain ⟨A9, c9, h9, _, _, hsq⟩ := hO.slr hi
  simp only [Value.slice.injEq] at h9
  obtain ⟨rfl, _, rfl⟩ := h9
  exact ⟨g, A, c', rfl, rfl, (h.far hg _ _).far hg _ _, bl_set hb, hsq⟩
set_option maxRecDepth 100000 in
set_option maxHeartbeats 4000000 in
theorem rback_any (W H D : Int) (Ak Ao : Option Addr) (ck co : Nat) (kind out : List Int) (c0 : Int) (Aq : Option Addr) (cq : Nat) (q : List Int) (s : ByteArray) (w : World) (hkl : kind.length ≤ maxLen) (hol : out.length ≤ maxLen) (hql : q.length ≤ maxLen) (hc0 : I64 c0) (hk : SlR w w.heap.size Ak kind) (ho : SlR w w.heap.size Ao out) (hq : SlR w w.heap.size Aq q) (he : Env w) :
    Calls Tryd.prog 4 #[.agg #[.int .i64 W, .int .i64 H, .int .i64 D, .slice Ak kind.length ck, .slice Ao out.length co], .agg #[.int .i64 c0, .slice Aq q.length cq], .string s] w fun e w' => e = .returned (.bool true) ∧ Below w.heap.size w w' := by
  have hb0 := hid (show BW w #[.int .i64 W, .int .i64 H, .int .i64 D, .slice Ak kind.length ck, .slice Ao out.length co] #[.int .i64 c0, .slice Aq q.length cq] ((w.alloc (Obj.cells #[.int .i64 W, .int .i64 H, .int .i64 D, .slice Ak kind.length ck, .slice Ao out.length co] 34)).alloc (Obj.cells #[.int .i64 c0, .slice Aq q.length cq] 36)) from ⟨by (repeat (first | exact Below.refl _ _ | assumption | refine below_drewN ?_ _ | refine Below.drew ?_ | refine Below.alloc ?_ (by (try simp); (try omega)) _ | refine Below.setCell ?_ (by (try simp); (try omega)) _)), (Blk.new _ _ _).alloc _, Blk.new_at (by simp)⟩)
  go_enter Tryd.func4, Tryd.ntmps4
  go_wp2_with fail
  refine (small_any _).mono ?_
  rintro e w1 ⟨rfl, hB⟩
  have p1 := hid (hb0.out.step hB)
  clear hB hb0
  have f0 := p1.out.bf.cell 0; have f1 := p1.out.bf.cell 1; have f2 := p1.out.bf.cell 2; have f3 := p1.out.bf.cell 3; have f4 := p1.out.bf.cell 4; have m0 := p1.out.bm.cell 0; have m1 := p1.out.bm.cell 1; simp at f0 f1 f2 f3 f4 m0 m1
  go_wp2_with fail
  refine (few_any W H D Ak Ao ck co kind out c0 Aq cq q _ hkl hol hql ((hk.below p1.out.below).more p1.out.below.size) ((ho.below p1.out.below).more p1.out.below.size)).mono ?_
  rintro e w2 ⟨rfl, hB⟩
  have p2 := hid (p1.out.step hB)
  clear hB p1 f0 f1 f2 f3 f4 m0 m1
  cases hfew : fewL W H D kind out q with
  | false =>
    clear hfew
    go_wp2_with fail
    go_ret
    exact ⟨rfl, p2.out.below⟩
  | true =>
  obtain ⟨hk40, ho40, hq10, hRF⟩ := fewL_iff.1 hfew
  clear hfew
  have HRF := hid hRF
  clear hRF
  by_cases h300 : (300 : Int) < s.size
  case pos =>
    go_wp2_with fail
    go_ret
    exact ⟨rfl, p2.out.below⟩
  have f0 := p2.out.bf.cell 0; have f1 := p2.out.bf.cell 1; have f2 := p2.out.bf.cell 2; have f3 := p2.out.bf.cell 3; have f4 := p2.out.bf.cell 4; have m0 := p2.out.bm.cell 0; have m1 := p2.out.bm.cell 1; simp at f0 f1 f2 f3 f4 m0 m1
  have z0 := p2.out.bf.lt; have z1 := p2.out.bm.lt
  go_wp2_with fail
  refine (mread_any W H D Ak Ao ck co kind out s w2 HRF.out ((hk.below p2.out.below).more p2.out.below.size) ((ho.below p2.out.below).more p2.out.below.size) (by omega) (he.below p2.out.below)).mono ?_
  clear f0 f1 f2 f3 f4 m0 m1 z0 z1
  -- behind the first reading
  have hcutd : True := trivial
  cases hr : readMR W H D kind out s.data.toList with
  | none =>
    rintro e w3 ⟨rfl, hB⟩
    have p3 := hid (p2.out.step hB)
    clear hB p2 hr
    have f0 := p3.out.bf.cell 0; have f1 := p3.out.bf.cell 1; have f2 := p3.out.bf.cell 2; have f3 := p3.out.bf.cell 3; have f4 := p3.out.bf.cell 4; have m0 := p3.out.bm.cell 0; have m1 := p3.out.bm.cell 1; simp at f0 f1 f2 f3 f4 m0 m1
    have z0 := p3.out.bf.lt; have z1 := p3.out.bm.lt
    go_wp2_with fail
    have p4 := hid (p3.out.alloc (Obj.cells #[.int .i64 0, .slice none 0 0] 36))
    clear f0 f1 f2 f3 f4 m0 m1 z0 z1 p3
    refine (right_any W H D Ak Ao ck co kind out c0 Aq cq q _ HRF.out ((hk.below p4.out.below).more p4.out.below.size) ((ho.below p4.out.below).more p4.out.below.size) ((hq.below p4.out.below).more p4.out.below.size) hql).mono ?_
    cases hrt : rightM W H D kind out c0 q with
    | false =>
      clear hrt
      rintro e w8 ⟨rfl, hB⟩
      have p8 := hid (p4.out.step hB)
      clear hB p4
      go_wp2_with fail
      go_ret
      exact ⟨rfl, p8.out.below⟩
    | true =>
      have hrM := hid (readMR_enc hrt hc0 hq.ints (by omega))
      have hsM := hid (encM_len c0 q hc0 hq.ints 10 hq10 (by decide))
      clear hrt
      rintro e w8 ⟨rfl, hB⟩
      have p8 := p4.out.step hB
      clear hB p4
      have f0 := p8.bf.cell 0; have f1 := p8.bf.cell 1; have f2 := p8.bf.cell 2; have f3 := p8.bf.cell 3; have f4 := p8.bf.cell 4; have m0 := p8.bm.cell 0; have m1 := p8.bm.cell 1; simp at f0 f1 f2 f3 f4 m0 m1
      have z0 := p8.bf.lt; have z1 := p8.bm.lt
      have cB : Hid (∀ W', BW w #[.int .i64 W, .int .i64 H, .int .i64 D, .slice Ak kind.length ck, .slice Ao out.length co] #[.int .i64 c0, .slice Aq q.length cq] W' → Calls Tryd.prog 18 #[.agg #[.int .i64 c0, .slice Aq q.length cq]] W' fun e w' => e = .returned (.string (bs (encM c0 q))) ∧ BW w #[.int .i64 W, .int .i64 H, .int .i64 D, .slice Ak kind.length ck, .slice Ao out.length co] #[.int .i64 c0, .slice Aq q.length cq] w' ∧ (∀ g' t' cs', Blk W' g' t' cs' → Blk w' g' t' cs') ∧ W'.heap.size ≤ w'.heap.size) := hid (fun W' hW' =>
        (mbytes_any c0 Aq cq q W' hc0 (by omega) ((hq.below hW'.below).more hW'.below.size) (he.below hW'.below)).mono fun e w' ⟨h1, h2⟩ => ⟨h1, hW'.step h2, fun g' t' cs' hb => hb.below h2 hb.lt, h2.size⟩)
      have cR : Hid (∀ W', BW w #[.int .i64 W, .int .i64 H, .int .i64 D, .slice Ak kind.length ck, .slice Ao out.length co] #[.int .i64 c0, .slice Aq q.length cq] W' → Calls Tryd.prog 17 #[.agg #[.int .i64 W, .int .i64 H, .int .i64 D, .slice Ak kind.length ck, .slice Ao out.length co], .string (bs (encM c0 q))] W' fun e w' => ∃ A c', e = .returned (.tuple #[.agg #[.int .i64 c0, .slice A q.length c'], .bool true]) ∧ OwnI w' W'.heap.size (.slice A q.length c') q ∧ SlR w' w'.heap.size A q ∧ BW w #[.int .i64 W, .int .i64 H, .int .i64 D, .slice Ak kind.length ck, .slice Ao out.length co] #[.int .i64 c0, .slice Aq q.length cq] w' ∧ (∀ g' t' cs', Blk W' g' t' cs' → Blk w' g' t' cs')) := hid (fun W' hW' => by
        have h1 := mread_any W H D Ak Ao ck co kind out (bs (encM c0 q)) W' HRF.out ((hk.below hW'.below).more hW'.below.size) ((ho.below hW'.below).more hW'.below.size) (by rw [bs_size]; have := hsM.out; omega) (he.below hW'.below)
        rw [show (bs (encM c0 q)).data.toList = encM c0 q by simp [bs], hrM.out] at h1
        refine h1.mono ?_
        rintro e w' ⟨A, c', h2, _, _, h3, h4, h5⟩
        exact ⟨A, c', h2, h3, h4, hW'.step h5, fun g' t' cs' hb => hb.below h5 hb.lt⟩)
      have hqI := hid hq.ints
      go_upto_region 9 with fail
      go_cut [10, 11] (fun v u wx => CutB w #[.int .i64 W, .int .i64 H, .int .i64 D, .slice Ak kind.length ck, .slice Ao out.length co] #[.int .i64 c0, .slice Aq q.length cq] c0 q v u wx)
      case first =>
        go_region_held3 (fun w' => w'.cell? ⟨w.heap.size, 0, none⟩ = some (.int .i64 W) ∧ w'.cell? ⟨w.heap.size, 1, none⟩ = some (.int .i64 H) ∧ w'.cell? ⟨w.heap.size, 2, none⟩ = some (.int .i64 D) ∧ w'.cell? ⟨w.heap.size, 3, none⟩ = some (.slice Ak kind.length ck) ∧ w'.cell? ⟨w.heap.size, 4, none⟩ = some (.slice Ao out.length co) ∧ w'.cell? ⟨w.heap.size + 1, 0, none⟩ = some (.int .i64 c0) ∧ w'.cell? ⟨w.heap.size + 1, 1, none⟩ = some (.slice Aq q.length cq))
          (first | assumption | go_keep | (go_split_ands; refine ⟨?_, ?_, ?_, ?_, ?_, ?_, ?_⟩ <;> (rw [World.cell?_setCell_far _ _ _ _ (by (try simp); (try omega)), World.cell?_setCell_far _ _ _ _ (by (try simp); (try omega))]; assumption)))
          (first
          | (go_at_call 18; (with_reducible refine (cB.out _ ?_).mono ?_); (repeat (first | assumption | refine BW.drew ?_ | refine BW.alloc ?_ _)); rintro e wb ⟨rfl, pb, kb, zb⟩; have zz := pb.bm.lt; have fb0 := pb.bf.cell 0; have fb1 := pb.bf.cell 1; have fb2 := pb.bf.cell 2; have fb3 := pb.bf.cell 3; have fb4 := pb.bf.cell 4; have mb0 := pb.bm.cell 0; have mb1 := pb.bm.cell 1; simp at fb0 fb1 fb2 fb3 fb4 mb0 mb1; have qb := kb w8.heap.size 36 #[.int .i64 0, .slice none 0 0]; (first | (replace qb := qb (Blk.drew (Blk.new_at rfl))) | skip))
          | (go_at_call 17; (with_reducible refine (cR.out _ ?_).mono ?_); (repeat (first | assumption | refine BW.drew ?_ | refine BW.alloc ?_ _)); rintro e wc ⟨A, c', rfl, oc, sc, pc, kc⟩; have fc0 := pc.bf.cell 0; have fc1 := pc.bf.cell 1; have fc2 := pc.bf.cell 2; have fc3 := pc.bf.cell 3; have fc4 := pc.bf.cell 4; have mc0 := pc.bm.cell 0; have mc1 := pc.bm.cell 1; simp at fc0 fc1 fc2 fc3 fc4 mc0 mc1; have qc := kc w8.heap.size 36 #[.int .i64 0, .slice none 0 0]; (first | (replace qc := qc qb) | skip); have qd := kc wb.heap.size 36 #[.int .i64 0, .slice none 0 0]; (first | (replace qd := qd (Blk.new_at rfl)) | (replace qd := qd (Blk.drew (Blk.new_at rfl))) | skip); (try (have qc0 := qc.cell 0; have qc1 := qc.cell 1; have qcf0 := qc.frozen 0; have qcf1 := qc.frozen 1; have qcl := qc.lt; simp at qc0 qc1)); (try (have qd0 := qd.cell 0; have qd1 := qd.cell 1; have qdf0 := qd.frozen 0; have qdf1 := qd.frozen 1; have qdl := qd.lt; simp at qd0 qd1))))
        all_goals
          go_wp2_with fail
          go_meet
          first
            | exact cutB_1 pc sc
            | (refine cutB_2 pc oc hqI.out ?_ ?_ qc <;> (try simp) <;> (try simp at zb) <;> omega)
            | (refine cutB_2 pc oc hqI.out ?_ ?_ qd <;> (try simp) <;> (try simp at zb) <;> omega)
      case rest =>
        obtain ⟨g, A, c', rfl, rfl, pE, bE, sE⟩ := hcut
        clear f0 f1 f2 f3 f4 m0 m1 z0 z1 p8 cB cR
        have f0 := pE.bf.cell 0; have f1 := pE.bf.cell 1; have f2 := pE.bf.cell 2; have f3 := pE.bf.cell 3; have f4 := pE.bf.cell 4; have m0 := pE.bm.cell 0; have m1 := pE.bm.cell 1; simp at f0 f1 f2 f3 f4 m0 m1
        obtain ⟨e0, e1⟩ := blk2 bE
        have z0 := pE.bf.lt; have z1 := pE.bm.lt; have z2 := bE.lt
        go_wp2_with fail
        refine (sameM_any c0 c0 A Aq c' cq q q _ hql hql sE ((hq.below pE.below).more pE.below.size)).mono ?_
        rw [show sameM c0 c0 q q = true by simp [sameM]]
        rintro e w9 ⟨rfl, hB⟩
        go_wp2_with fail
        go_ret
        exact ⟨rfl, pE.below.trans (hB.mono pE.below.size)⟩
  | some cq1 =>
    obtain ⟨c1, q1⟩ := cq1
    obtain ⟨hr1, hr2⟩ := readMR_some hr
    rintro e w3 ⟨A1, k1, rfl, hk1, hk2, hown, hs1, hB⟩
    have p3 := hid (p2.out.step hB)
    clear hB p2 hr
    have f0 := p3.out.bf.cell 0; have f1 := p3.out.bf.cell 1; have f2 := p3.out.bf.cell 2; have f3 := p3.out.bf.cell 3; have f4 := p3.out.bf.cell 4; have m0 := p3.out.bm.cell 0; have m1 := p3.out.bm.cell 1; simp at f0 f1 f2 f3 f4 m0 m1
    have z0 := p3.out.bf.lt; have z1 := p3.out.bm.lt
    go_wp2_with fail
    have p4 := hid (p3.out.alloc (Obj.cells #[.int .i64 c1, .slice A1 q1.length k1] 36))
    have bx := hid (Blk.new w3 36 #[.int .i64 c1, .slice A1 q1.length k1])
    have hs4 := (hs1.alloc (Nat.le_refl _) (Obj.cells #[.int .i64 c1, .slice A1 q1.length k1] 36)).more (B' := (w3.alloc (Obj.cells #[.int .i64 c1, .slice A1 q1.length k1] 36)).heap.size) (by simp)
    have hI1 : I64 c1 := by
      have h9 := (rightM_iff.1 hr1).1
      exact ⟨by omega, by omega⟩
    have hq14 := (rightM_iff.1 hr1).2.2.1
    clear f0 f1 f2 f3 f4 m0 m1 z0 z1 p3
    refine (mbytes_any c1 A1 k1 q1 _ hI1 (by omega) hs4 (he.below p4.out.below)).mono ?_
    rintro e w5 ⟨rfl, hB⟩
    have p5 := hid (p4.out.step hB)
    have bx5 := hid (bx.out.below hB bx.out.lt)
    have hs5 := (hs4.below hB).more hB.size
    clear hB p4 bx hs4
    have f0 := p5.out.bf.cell 0; have f1 := p5.out.bf.cell 1; have f2 := p5.out.bf.cell 2; have f3 := p5.out.bf.cell 3; have f4 := p5.out.bf.cell 4; have m0 := p5.out.bm.cell 0; have m1 := p5.out.bm.cell 1; simp at f0 f1 f2 f3 f4 m0 m1
    obtain ⟨e0, e1⟩ := blk2 bx5.out
    have z0 := p5.out.bf.lt; have z1 := p5.out.bm.lt; have z2 := bx5.out.lt
    have heq : bs (encM c1 q1) = s := by rw [hr2, bs_of]
    have hc1 : ((bs (encM c1 q1)).toList == s.toList) = true := by rw [heq]; simp
    have hc2 : ((bs (encM c1 q1)).toList != s.toList) = false := by rw [heq]; simp
    clear heq
    have Hr1 := hid hr1
    clear hr1 hr2
    go_wp2_with fail
    refine (right_any W H D Ak Ao ck co kind out c1 A1 k1 q1 _ HRF.out ((hk.below p5.out.below).more p5.out.below.size) ((ho.below p5.out.below).more p5.out.below.size) hs5 (by unfold maxLen; omega)).mono ?_
    rw [Hr1.out]
    rintro e w6 ⟨rfl, hB⟩
    have p6 := hid (p5.out.step hB)
    clear hB p5 f0 f1 f2 f3 f4 m0 m1 e0 e1 z0 z1 z2 hc1 hc2 hs5 bx5
    have f0 := p6.out.bf.cell 0; have f1 := p6.out.bf.cell 1; have f2 := p6.out.bf.cell 2; have f3 := p6.out.bf.cell 3; have f4 := p6.out.bf.cell 4; have m0 := p6.out.bm.cell 0; have m1 := p6.out.bm.cell 1; simp at f0 f1 f2 f3 f4 m0 m1
    have z0 := p6.out.bf.lt; have z1 := p6.out.bm.lt
    go_wp2_with fail
    clear f0 f1 f2 f3 f4 m0 m1 z0 z1
    refine (right_any W H D Ak Ao ck co kind out c0 Aq cq q _ HRF.out ((hk.below p6.out.below).more p6.out.below.size) ((ho.below p6.out.below).more p6.out.below.size) ((hq.below p6.out.below).more p6.out.below.size) hql).mono ?_
    cases hrt : rightM W H D kind out c0 q with
    | false =>
      clear hrt
      rintro e w8 ⟨rfl, hB⟩
      have p8 := hid (p6.out.step hB)
      clear hB p6
      go_wp2_with fail
      go_ret
      exact ⟨rfl, p8.out.below⟩
    | true =>
      have hrM := hid (readMR_enc hrt hc0 hq.ints (by omega))
      have hsM := hid (encM_len c0 q hc0 hq.ints 10 hq10 (by decide))
      clear hrt
      rintro e w8 ⟨rfl, hB⟩
      have p8 := p6.out.step hB
      clear hB p6
      have f0 := p8.bf.cell 0; have f1 := p8.bf.cell 1; have f2 := p8.bf.cell 2; have f3 := p8.bf.cell 3; have f4 := p8.bf.cell 4; have m0 := p8.bm.cell 0; have m1 := p8.bm.cell 1; simp at f0 f1 f2 f3 f4 m0 m1
      have z0 := p8.bf.lt; have z1 := p8.bm.lt
      have cB : Hid (∀ W', BW w #[.int .i64 W, .int .i64 H, .int .i64 D, .slice Ak kind.length ck, .slice Ao out.length co] #[.int .i64 c0, .slice Aq q.length cq] W' → Calls Tryd.prog 18 #[.agg #[.int .i64 c0, .slice Aq q.length cq]] W' fun e w' => e = .returned (.string (bs (encM c0 q))) ∧ BW w #[.int .i64 W, .int .i64 H, .int .i64 D, .slice Ak kind.length ck, .slice Ao out.length co] #[.int .i64 c0, .slice Aq q.length cq] w' ∧ (∀ g' t' cs', Blk W' g' t' cs' → Blk w' g' t' cs') ∧ W'.heap.size ≤ w'.heap.size) := hid (fun W' hW' =>
        (mbytes_any c0 Aq cq q W' hc0 (by omega) ((hq.below hW'.below).more hW'.below.size) (he.below hW'.below)).mono fun e w' ⟨h1, h2⟩ => ⟨h1, hW'.step h2, fun g' t' cs' hb => hb.below h2 hb.lt, h2.size⟩)
      have cR : Hid (∀ W', BW w #[.int .i64 W, .int .i64 H, .int .i64 D, .slice Ak kind.length ck, .slice Ao out.length co] #[.int .i64 c0, .slice Aq q.length cq] W' → Calls Tryd.prog 17 #[.agg #[.int .i64 W, .int .i64 H, .int .i64 D, .slice Ak kind.length ck, .slice Ao out.length co], .string (bs (encM c0 q))] W' fun e w' => ∃ A c', e = .returned (.tuple #[.agg #[.int .i64 c0, .slice A q.length c'], .bool true]) ∧ OwnI w' W'.heap.size (.slice A q.length c') q ∧ SlR w' w'.heap.size A q ∧ BW w #[.int .i64 W, .int .i64 H, .int .i64 D, .slice Ak kind.length ck, .slice Ao out.length co] #[.int .i64 c0, .slice Aq q.length cq] w' ∧ (∀ g' t' cs', Blk W' g' t' cs' → Blk w' g' t' cs')) := hid (fun W' hW' => by
        have h1 := mread_any W H D Ak Ao ck co kind out (bs (encM c0 q)) W' HRF.out ((hk.below hW'.below).more hW'.below.size) ((ho.below hW'.below).more hW'.below.size) (by rw [bs_size]; have := hsM.out; omega) (he.below hW'.below)
        rw [show (bs (encM c0 q)).data.toList = encM c0 q by simp [bs], hrM.out] at h1
        refine h1.mono ?_
        rintro e w' ⟨A, c', h2, _, _, h3, h4, h5⟩
        exact ⟨A, c', h2, h3, h4, hW'.step h5, fun g' t' cs' hb => hb.below h5 hb.lt⟩)
      have hqI := hid hq.ints
      go_upto_region 9 with fail
      go_cut [10, 11] (fun v u wx => CutB w #[.int .i64 W, .int .i64 H, .int .i64 D, .slice Ak kind.length ck, .slice Ao out.length co] #[.int .i64 c0, .slice Aq q.length cq] c0 q v u wx)
      case first =>
        go_region_held3 (fun w' => w'.cell? ⟨w.heap.size, 0, none⟩ = some (.int .i64 W) ∧ w'.cell? ⟨w.heap.size, 1, none⟩ = some (.int .i64 H) ∧ w'.cell? ⟨w.heap.size, 2, none⟩ = some (.int .i64 D) ∧ w'.cell? ⟨w.heap.size, 3, none⟩ = some (.slice Ak kind.length ck) ∧ w'.cell? ⟨w.heap.size, 4, none⟩ = some (.slice Ao out.length co) ∧ w'.cell? ⟨w.heap.size + 1, 0, none⟩ = some (.int .i64 c0) ∧ w'.cell? ⟨w.heap.size + 1, 1, none⟩ = some (.slice Aq q.length cq))
          (first | assumption | go_keep | (go_split_ands; refine ⟨?_, ?_, ?_, ?_, ?_, ?_, ?_⟩ <;> (rw [World.cell?_setCell_far _ _ _ _ (by (try simp); (try omega)), World.cell?_setCell_far _ _ _ _ (by (try simp); (try omega))]; assumption)))
          (first
          | (go_at_call 18; (with_reducible refine (cB.out _ ?_).mono ?_); (repeat (first | assumption | refine BW.drew ?_ | refine BW.alloc ?_ _)); rintro e wb ⟨rfl, pb, kb, zb⟩; have zz := pb.bm.lt; have fb0 := pb.bf.cell 0; have fb1 := pb.bf.cell 1; have fb2 := pb.bf.cell 2; have fb3 := pb.bf.cell 3; have fb4 := pb.bf.cell 4; have mb0 := pb.bm.cell 0; have mb1 := pb.bm.cell 1; simp at fb0 fb1 fb2 fb3 fb4 mb0 mb1; have qb := kb w8.heap.size 36 #[.int .i64 0, .slice none 0 0]; (first | (replace qb := qb (Blk.drew (Blk.new_at rfl))) | skip))
          | (go_at_call 17; (with_reducible refine (cR.out _ ?_).mono ?_); (repeat (first | assumption | refine BW.drew ?_ | refine BW.alloc ?_ _)); rintro e wc ⟨A, c', rfl, oc, sc, pc, kc⟩; have fc0 := pc.bf.cell 0; have fc1 := pc.bf.cell 1; have fc2 := pc.bf.cell 2; have fc3 := pc.bf.cell 3; have fc4 := pc.bf.cell 4; have mc0 := pc.bm.cell 0; have mc1 := pc.bm.cell 1; simp at fc0 fc1 fc2 fc3 fc4 mc0 mc1; have qc := kc w8.heap.size 36 #[.int .i64 0, .slice none 0 0]; (first | (replace qc := qc qb) | skip); have qd := kc wb.heap.size 36 #[.int .i64 0, .slice none 0 0]; (first | (replace qd := qd (Blk.new_at rfl)) | (replace qd := qd (Blk.drew (Blk.new_at rfl))) | skip); (try (have qc0 := qc.cell 0; have qc1 := qc.cell 1; have qcf0 := qc.frozen 0; have qcf1 := qc.frozen 1; have qcl := qc.lt; simp at qc0 qc1)); (try (have qd0 := qd.cell 0; have qd1 := qd.cell 1; have qdf0 := qd.frozen 0; have qdf1 := qd.frozen 1; have qdl := qd.lt; simp at qd0 qd1))))
        all_goals
          go_wp2_with fail
          go_meet
          first
            | exact cutB_1 pc sc
            | (refine cutB_2 pc oc hqI.out ?_ ?_ qc <;> (try simp) <;> (try simp at zb) <;> omega)
            | (refine cutB_2 pc oc hqI.out ?_ ?_ qd <;> (try simp) <;> (try simp at zb) <;> omega)
      case rest =>
        obtain ⟨g, A, c', rfl, rfl, pE, bE, sE⟩ := hcut
        clear f0 f1 f2 f3 f4 m0 m1 z0 z1 p8 cB cR
        have f0 := pE.bf.cell 0; have f1 := pE.bf.cell 1; have f2 := pE.bf.cell 2; have f3 := pE.bf.cell 3; have f4 := pE.bf.cell 4; have m0 := pE.bm.cell 0; have m1 := pE.bm.cell 1; simp at f0 f1 f2 f3 f4 m0 m1
        obtain ⟨e0, e1⟩ := blk2 bE
        have z0 := pE.bf.lt; have z1 := pE.bm.lt; have z2 := bE.lt
        go_wp2_with fail
        refine (sameM_any c0 c0 A Aq c' cq q q _ hql hql sE ((hq.below pE.below).more pE.below.size)).mono ?_
        rw [show sameM c0 c0 q q = true by simp [sameM]]
        rintro e w9 ⟨rfl, hB⟩
        go_wp2_with fail
        go_ret
        exact ⟨rfl, pE.below.trans (hB.mono pE.below.size)⟩
end Go.Proofs.YtnnephifjikkdaaDoor
