
/- Robots: RobotTells, the walk. -/
import Derived.Test.YtnnephifjikkdaaGreatDoorRobWe
import Derived.Test.YtnnephifjikkdaaGreatDoorRobWg
import Derived.Test.YtnnephifjikkdaaGreatDoorRobK
set_option linter.unusedSimpArgs false
set_option linter.unusedVariables false
namespace Go.Proofs.YtnnephifjikkdaaGreatDoor
open Go.RowKit Go.IntWalk

/-- What both readings give. -/
def RdU (w : World) (c : Int) (q : List Int) (ok : Bool) (e : Ending) (w' : World) : Prop := ∃ A cq, e = .returned (.tuple #[.agg #[.int .i64 c, .slice A q.length cq], .bool ok]) ∧ SlR w' w'.heap.size A q ∧ Below w.heap.size w w'
theorem mdRes_u {w w' : World} {r : Option (Int × List Int)} {e : Ending} (h : MdRes w r e w') : RdU w (r.getD (0, [])).1 (r.getD (0, [])).2 r.isSome e w' := by
  cases r with
  | none => exact ⟨none, 0, h.1, SlR.nil, h.2⟩
  | some x =>
    obtain ⟨A, cq, h1, _, _, _, h2, h3⟩ := h
    exact ⟨A, cq, h1, h2, h3⟩
theorem mdRr_u {w w' : World} {r : Option (Int × List Int)} {e : Ending} (h : MdRr w r e w') : RdU w (r.getD (0, [])).1 (r.getD (0, [])).2 r.isSome e w' := by
  cases r with
  | none => exact ⟨none, 0, h.1, SlR.nil, h.2⟩
  | some x =>
    obtain ⟨A, cq, h1, h2, h3⟩ := h
    exact ⟨A, cq, h1, h2, h3⟩
/-- The boxes of the floor and the mind. -/
structure TW (w : World) (F M : Array Value) (wx : World) : Prop where
  below : Below w.heap.size w wx
  f : Blk wx w.heap.size 24 F
  m : Blk wx (w.heap.size + 1) 48 M
theorem TW.step {w wx wy : World} {F M : Array Value} (h : TW w F M wx) (hb : Below wx.heap.size wx wy) : TW w F M wy :=
  ⟨h.below.trans (hb.mono h.below.size), h.f.below hb h.f.lt, h.m.below hb h.m.lt⟩
theorem TW.alloc {w wx : World} {F M : Array Value} (h : TW w F M wx) (o : Obj) : TW w F M (wx.alloc o) := h.step (by (repeat (first | exact Below.refl _ _ | assumption | refine below_drewN ?_ _ | refine Below.drew ?_ | refine Below.alloc ?_ (by (try simp); (try omega)) _ | refine Below.setCell ?_ (by (try simp); (try omega)) _)))
/-- A world behind w1. -/
def GK (w1 wx : World) : Prop := Below w1.heap.size w1 wx
theorem GK.out {w1 wx : World} (h : GK w1 wx) : Below w1.heap.size w1 wx := h
theorem GK.drew {w1 wx : World} (h : GK w1 wx) : GK w1 wx.drew := Below.drew h
theorem GK.alloc {w1 wx : World} (h : GK w1 wx) (o : Obj) : GK w1 (wx.alloc o) := Below.alloc h h.out.size o
theorem GK.step {w1 wx wy : World} (h : GK w1 wx) (hb : Below wx.heap.size wx wy) : GK w1 wy := h.out.trans (hb.mono h.out.size)
theorem didL_len (nx : Int → Int → Option Int) (c : Int) (q : List Int) (act : Int) (done : Bool) : (didL nx c q act done).2.length ≤ q.length := by
  cases q with
  | nil => simp [didL]
  | cons a q =>
    simp only [didL]
    split <;> simp
theorem sameM_self (c : Int) (q : List Int) : sameM c c q q = true := by simp [sameM]
set_option maxRecDepth 100000 in
set_option maxHeartbeats 8000000 in
theorem rtells_any (W H D : Int) (Ak Ao : Option Addr) (ck co : Nat) (kind out : List Int) (c0 : Int) (Aq : Option Addr) (cq : Nat) (q : List Int) (Ac : Option Addr) (cc : Nat) (acts : List Int) (act : Int) (done : Bool) (s : ByteArray) (w : World) (hkl : kind.length ≤ maxLen) (hol : out.length ≤ maxLen) (hq1 : q.length ≤ cq) (hq2 : cq ≤ maxLen) (hal : acts.length ≤ maxLen) (hc0 : I64 c0) (hk : SlR w w.heap.size Ak kind) (ho : SlR w w.heap.size Ao out) (hq : SlR w w.heap.size Aq q) (hac : SlR w w.heap.size Ac acts) (he : Env w) :
    Calls Tryz.prog 4 #[.agg #[.int .i64 W, .int .i64 H, .int .i64 D, .slice Ak kind.length ck, .slice Ao out.length co], .agg #[.int .i64 c0, .slice Aq q.length cq], .slice Ac acts.length cc, .int .i64 act, .bool done, .string s] w fun e w' => e = .returned (.bool true) ∧ Below w.heap.size w w' := by
  have hql : q.length ≤ maxLen := Nat.le_trans hq1 hq2
  have hb0 := hid (show TW w #[.int .i64 W, .int .i64 H, .int .i64 D, .slice Ak kind.length ck, .slice Ao out.length co] #[.int .i64 c0, .slice Aq q.length cq] ((w.alloc (Obj.cells #[.int .i64 W, .int .i64 H, .int .i64 D, .slice Ak kind.length ck, .slice Ao out.length co] 24)).alloc (Obj.cells #[.int .i64 c0, .slice Aq q.length cq] 48)) from ⟨by (repeat (first | exact Below.refl _ _ | assumption | refine below_drewN ?_ _ | refine Below.drew ?_ | refine Below.alloc ?_ (by (try simp); (try omega)) _ | refine Below.setCell ?_ (by (try simp); (try omega)) _)), (Blk.new _ _ _).alloc _, Blk.new_at (by simp)⟩)
  go_enter Tryz.func4, Tryz.ntmps4
  go_wp2_with fail
  refine (small_any _).mono ?_
  rintro e w1 ⟨rfl, hB⟩
  have p1 := hid (hb0.out.step hB)
  clear hB hb0
  obtain ⟨k0, k1, k2, k3, k4⟩ := blk5 p1.out.f
  obtain ⟨m0, m1⟩ := blk2 p1.out.m
  have z1 := p1.out.m.lt
  go_wp2_with fail
  refine (few_any W H D Ak Ao ck co kind out c0 Aq cq q _ hkl hol hql ((hk.below p1.out.below).more p1.out.below.size) ((ho.below p1.out.below).more p1.out.below.size)).mono ?_
  rintro e w2 ⟨rfl, hB⟩
  have p2 := hid (p1.out.step hB)
  clear hB p1 k0 k1 k2 k3 k4 m0 m1 z1
  cases hfew : fewL W H D kind out q with
  | false =>
    clear hfew
    go_wp2_with fail
    go_ret
    exact ⟨rfl, p2.out.below⟩
  | true =>
  obtain ⟨hk40, ho40, hq10, hRF⟩ := fewL_iff.1 hfew
  clear hfew
  have HRF := hid hRF
  clear hRF
  by_cases h10 : (10 : Int) < acts.length
  · go_wp2_with fail
    go_ret
    exact ⟨rfl, p2.out.below⟩
  by_cases h300 : (300 : Int) < s.size
  · go_wp2_with fail
    go_ret
    exact ⟨rfl, p2.out.below⟩
  obtain ⟨k0, k1, k2, k3, k4⟩ := blk5 p2.out.f
  have z1 := p2.out.f.lt
  go_wp2_with fail
  clear k0 k1 k2 k3 k4 z1
  refine (mread_any W H D Ak Ao ck co kind out s w2 HRF.out ((hk.below p2.out.below).more p2.out.below.size) ((ho.below p2.out.below).more p2.out.below.size) (by omega) (he.below p2.out.below)).mono ?_
  intro e w3 hr1
  have hr1 := mdRes_u hr1
  have hqx4 : ((readMR W H D kind out s.data.toList).getD (0, [])).2.length ≤ 4 := by
    cases hrr : readMR W H D kind out s.data.toList with
    | none => simp
    | some x => exact (rightM_iff.1 (readMR_some (c := x.1) (q := x.2) hrr).1).2.2.1
  generalize hrc : (readMR W H D kind out s.data.toList).getD (0, []) = rc9 at hr1 hqx4
  generalize hro : (readMR W H D kind out s.data.toList).isSome = okr at hr1
  have Hrc := hid hrc
  have Hro := hid hro
  clear hrc hro
  obtain ⟨cx, qx⟩ := rc9
  simp only at hqx4
  obtain ⟨Ax, kx, rfl, sx, hB⟩ := hr1
  have p3 := hid (p2.out.step hB)
  clear hB p2
  obtain ⟨k0, k1, k2, k3, k4⟩ := blk5 p3.out.f
  have z1 := p3.out.f.lt
  go_wp2_with fail
  clear k0 k1 k2 k3 k4 z1
  have p4 := hid (p3.out.alloc (Obj.cells #[.int .i64 cx, .slice Ax qx.length kx] 48))
  have x4 := hid (Blk.new w3 48 #[.int .i64 cx, .slice Ax qx.length kx])
  have sx4 := hid ((sx.alloc (Nat.le_refl _) (Obj.cells #[.int .i64 cx, .slice Ax qx.length kx] 48)).more (B' := (w3.alloc (Obj.cells #[.int .i64 cx, .slice Ax qx.length kx] 48)).heap.size) (by simp))
  clear p3 sx
  refine (rfmread_any W H D Ak Ao ck co kind out s _ HRF.out ((hk.below p4.out.below).more p4.out.below.size) ((ho.below p4.out.below).more p4.out.below.size) (by omega)).mono ?_
  intro e w5 hr2
  have hr2 := mdRr_u hr2
  rw [Hrc.out, Hro.out] at hr2
  obtain ⟨Ay, ky, rfl, sy, hB⟩ := hr2
  have p5 := hid (p4.out.step hB)
  have x5 := hid (x4.out.below hB x4.out.lt)
  have sx5 := hid ((sx4.out.below hB).more hB.size)
  generalize w3.heap.size = gx at *
  clear hB p4 x4 sx4 Hrc Hro
  go_upto_region 6 with fail
  have p6 := hid (p5.out.alloc (Obj.cells #[.int .i64 cx, .slice Ay qx.length ky] 48))
  have x6 := hid (x5.out.alloc (Obj.cells #[.int .i64 cx, .slice Ay qx.length ky] 48))
  have y6 := hid (Blk.new w5 48 #[.int .i64 cx, .slice Ay qx.length ky])
  have sx6 := hid ((sx5.out.alloc (Nat.le_refl _) (Obj.cells #[.int .i64 cx, .slice Ay qx.length ky] 48)).more (B' := (w5.alloc (Obj.cells #[.int .i64 cx, .slice Ay qx.length ky] 48)).heap.size) (by simp))
  have sy6 := hid ((sy.alloc (Nat.le_refl _) (Obj.cells #[.int .i64 cx, .slice Ay qx.length ky] 48)).more (B' := (w5.alloc (Obj.cells #[.int .i64 cx, .slice Ay qx.length ky] 48)).heap.size) (by simp))
  clear p5 x5 sx5 sy
  generalize w5.heap.size = gy at *
  generalize w5.alloc (Obj.cells #[.int .i64 cx, .slice Ay qx.length ky] 48) = w6 at *
  have hqxm : qx.length ≤ maxLen := by unfold maxLen; omega
  obtain ⟨k0, k1, k2, k3, k4⟩ := blk5 p6.out.f
  obtain ⟨m0, m1⟩ := blk2 p6.out.m
  obtain ⟨x0, x1⟩ := blk2 x6.out
  obtain ⟨y0, y1⟩ := blk2 y6.out
  have zf := p6.out.f.lt; have zm := p6.out.m.lt; have zx := x6.out.lt; have zy := y6.out.lt
  have hx := fun x : Ext (GB w6) => GB.cell x
  have bt := hid (fun x : Ext (GB w6) => p6.out.below.trans (x.h.out.mono p6.out.below.size))
  have ca := hid fun x : Ext (GB w6) => GB.call (x := x) (v := .bool true) (by
    have := sameM_any cx cx Ax Ay kx ky qx qx x.w hqxm hqxm ((sx6.out.below x.h.out).more x.h.out.size) ((sy6.out.below x.h.out).more x.h.out.size)
    rw [sameM_self] at this
    exact this)
  generalize hrm : rightM W H D kind out c0 q = rm
  have cb := hid fun x : Ext (GB w6) => GB.call (x := x) (v := .bool rm) (by
    have := right_any W H D Ak Ao ck co kind out c0 Aq cq q x.w HRF.out ((hk.below (bt.out x)).more (bt.out x).size) ((ho.below (bt.out x)).more (bt.out x).size) ((hq.below (bt.out x)).more (bt.out x).size) hql
    rw [hrm] at this
    exact this)
  have cd := hid fun x : Ext (GB w6) => GB.call (x := x) (v := .bool rm) (by
    have := rfright_any W H D Ak Ao ck co kind out c0 Aq cq q x.w HRF.out ((hk.below (bt.out x)).more (bt.out x).size) ((ho.below (bt.out x)).more (bt.out x).size) ((hq.below (bt.out x)).more (bt.out x).size) hql
    rw [hrm] at this
    exact this)
  have ce := hid fun x : Ext (GB w6) => GB.call (x := x) (v := .agg #[.int .i64 act, .slice none 0 0]) ((new_any act x.w).mono fun e w' h => ⟨h.1, by rw [h.2]; exact (Below.refl _ _).alloc (Nat.le_refl _) _⟩)
  have cf := hid fun x : Ext (GB w6) => GB.call (x := x) (v := .bool true) (by
    have := sameM_any act act none none 0 0 [] [] x.w (by simp [maxLen]) (by simp [maxLen]) SlR.nil SlR.nil
    rw [sameM_self] at this
    simp only [List.length_nil] at this
    exact this)
  have Hrm := hid hrm
  clear hrm
  refine wp_region_ext (GB w6) (by kernel_rfl) (by kernel_rfl) (GB.refl _) ?_
  repeat (go_big_quiet_step (first | with_reducible exact ca.out _ | with_reducible exact cb.out _ | with_reducible exact cd.out _ | with_reducible exact ce.out _ | with_reducible exact cf.out _))
  refine wpQuiet_nil ?_
  intro w7 hG
  have p7 := hid (p6.out.step hG.out)
  clear hx ca cb cd ce cf hG k0 k1 k2 k3 k4 m0 m1 x0 x1 y0 y1 zf zm zx zy p6 x6 y6 sx6 sy6 bt
  obtain ⟨k0, k1, k2, k3, k4⟩ := blk5 p7.out.f
  obtain ⟨m0, m1⟩ := blk2 p7.out.m
  have zf := p7.out.f.lt; have zm := p7.out.m.lt
  go_wp2_with fail
  clear k0 k1 k2 k3 k4 m0 m1 zf zm
  have hc1 := rfright_any W H D Ak Ao ck co kind out c0 Aq cq q w7 HRF.out ((hk.below p7.out.below).more p7.out.below.size) ((ho.below p7.out.below).more p7.out.below.size) ((hq.below p7.out.below).more p7.out.below.size) hql
  rw [Hrm.out] at hc1
  refine hc1.mono ?_
  clear hc1
  rintro e w8 ⟨rfl, hB⟩
  have p8 := hid (p7.out.step hB)
  clear hB p7
  cases rm with
  | false =>
    go_wp2_with fail
    go_ret
    exact ⟨rfl, p8.out.below⟩
  | true =>
  obtain ⟨_, _, hq4, hkn, lw, hlw⟩ := rightM_iff.1 Hrm.out
  have HKN := hid (knownL_iff.1 hkn)
  have HLW := hid hlw
  clear hkn hlw
  obtain ⟨k0, k1, k2, k3, k4⟩ := blk5 p8.out.f
  obtain ⟨m0, m1⟩ := blk2 p8.out.m
  have zf := p8.out.f.lt; have zm := p8.out.m.lt
  go_wp2_with fail
  clear k0 k1 k2 k3 k4 m0 m1 zf zm
  have ha65 : acts.length ≤ 65536 := by omega
  have hcH := hear_any W H D Ak Ao ck co kind out c0 Aq cq q Ac cc acts w8 HRF.out (by omega) ha65 ((hk.below p8.out.below).more p8.out.below.size) ((ho.below p8.out.below).more p8.out.below.size) ((hq.below p8.out.below).more p8.out.below.size) ((hac.below p8.out.below).more p8.out.below.size)
  have hqh : (hearL W H D kind out c0 q acts).1.2.length ≤ 65536 := by
    unfold hearL
    split
    · simp; omega
    · split
      · simp; omega
      · split
        · simp; omega
        · simpa using ha65
  generalize hhr : hearL W H D kind out c0 q acts = hr9 at hcH hqh
  obtain ⟨⟨ch, qh⟩, eh⟩ := hr9
  simp only at hqh
  have Hhr := hid hhr
  clear hhr
  refine hcH.mono ?_
  clear hcH
  rintro e w9 ⟨Aa, ka, rfl, _, _, _, sa, hB⟩
  have p9 := hid (p8.out.step hB)
  clear hB p8
  obtain ⟨k0, k1, k2, k3, k4⟩ := blk5 p9.out.f
  obtain ⟨m0, m1⟩ := blk2 p9.out.m
  have zf := p9.out.f.lt; have zm := p9.out.m.lt
  go_wp2_with fail
  clear k0 k1 k2 k3 k4 m0 m1 zf zm
  have p10 := hid (p9.out.alloc (Obj.cells #[.int .i64 ch, .slice Aa qh.length ka] 48))
  have x10 := hid (Blk.new w9 48 #[.int .i64 ch, .slice Aa qh.length ka])
  have sa10 := hid ((sa.alloc (Nat.le_refl _) (Obj.cells #[.int .i64 ch, .slice Aa qh.length ka] 48)).more (B' := (w9.alloc (Obj.cells #[.int .i64 ch, .slice Aa qh.length ka] 48)).heap.size) (by simp))
  clear p9 sa
  have hcR := rfhear_any W H D Ak Ao ck co kind out c0 Aq cq q Ac cc acts _ HRF.out (by omega) ha65 ((hk.below p10.out.below).more p10.out.below.size) ((ho.below p10.out.below).more p10.out.below.size) ((hq.below p10.out.below).more p10.out.below.size) ((hac.below p10.out.below).more p10.out.below.size)
  rw [Hhr.out] at hcR
  refine hcR.mono ?_
  clear hcR
  rintro e w11 ⟨Ab, kb, rfl, sb, hB⟩
  have p11 := hid (p10.out.step hB)
  have x11 := hid (x10.out.below hB x10.out.lt)
  have sa11 := hid ((sa10.out.below hB).more hB.size)
  generalize w9.heap.size = ga at *
  clear hB p10 x10 sa10
  obtain ⟨k0, k1, k2, k3, k4⟩ := blk5 p11.out.f
  obtain ⟨m0, m1⟩ := blk2 p11.out.m
  have zf := p11.out.f.lt; have zm := p11.out.m.lt
  go_wp2_with fail
  clear k0 k1 k2 k3 k4 m0 m1 zf zm
  have p12 := hid (p11.out.alloc (Obj.cells #[.int .i64 ch, .slice Ab qh.length kb] 48))
  have x12 := hid (x11.out.alloc (Obj.cells #[.int .i64 ch, .slice Ab qh.length kb] 48))
  have y12 := hid (Blk.new w11 48 #[.int .i64 ch, .slice Ab qh.length kb])
  have sa12 := hid ((sa11.out.alloc (Nat.le_refl _) (Obj.cells #[.int .i64 ch, .slice Ab qh.length kb] 48)).more (B' := (w11.alloc (Obj.cells #[.int .i64 ch, .slice Ab qh.length kb] 48)).heap.size) (by simp))
  have sb12 := hid ((sb.alloc (Nat.le_refl _) (Obj.cells #[.int .i64 ch, .slice Ab qh.length kb] 48)).more (B' := (w11.alloc (Obj.cells #[.int .i64 ch, .slice Ab qh.length kb] 48)).heap.size) (by simp))
  clear p11 x11 sa11 sb
  generalize w11.heap.size = gb at *
  generalize w11.alloc (Obj.cells #[.int .i64 ch, .slice Ab qh.length kb] 48) = w12 at *
  have hcW := rfway_any W H D Ak Ao ck co kind out c0 Aq cq q w12 HRF.out ((hk.below p12.out.below).more p12.out.below.size) ((ho.below p12.out.below).more p12.out.below.size) ((hq.below p12.out.below).more p12.out.below.size) hq10 HKN.out hc0
  rw [HLW.out] at hcW
  refine hcW.mono ?_
  clear hcW
  rintro e w13 ⟨Aw, kw, rfl, hw1, hw2, sw, _, hB⟩
  have p13 := hid (p12.out.step hB)
  have x13 := hid (x12.out.below hB x12.out.lt)
  have y13 := hid (y12.out.below hB y12.out.lt)
  have sa13 := hid ((sa12.out.below hB).more hB.size)
  have sb13 := hid ((sb12.out.below hB).more hB.size)
  have sw13 := hid sw
  clear hB p12 x12 y12 sa12 sb12 sw
  have hlwm : lw.length ≤ maxLen := Nat.le_trans hw1 hw2
  have hqhm : qh.length ≤ maxLen := by unfold maxLen; omega
  have base : Hid (∀ W', GK w13 W' → Below w.heap.size w W') := hid (fun W' h => p13.out.below.trans (h.out.mono p13.out.below.size))
  have hx : Hid (∀ W', GK w13 W' → (W'.cell? ⟨w.heap.size, 0, none⟩ = some (.int .i64 W) ∧ W'.cell? ⟨w.heap.size, 1, none⟩ = some (.int .i64 H) ∧ W'.cell? ⟨w.heap.size, 2, none⟩ = some (.int .i64 D) ∧ W'.cell? ⟨w.heap.size, 3, none⟩ = some (.slice Ak kind.length ck) ∧ W'.cell? ⟨w.heap.size, 4, none⟩ = some (.slice Ao out.length co) ∧ W'.cell? ⟨w.heap.size + 1, 0, none⟩ = some (.int .i64 c0) ∧ W'.cell? ⟨w.heap.size + 1, 1, none⟩ = some (.slice Aq q.length cq) ∧ W'.cell? ⟨ga, 0, none⟩ = some (.int .i64 ch) ∧ W'.cell? ⟨ga, 1, none⟩ = some (.slice Aa qh.length ka) ∧ W'.cell? ⟨gb, 0, none⟩ = some (.int .i64 ch) ∧ W'.cell? ⟨gb, 1, none⟩ = some (.slice Ab qh.length kb))) := hid (fun W' h => by
    have f := p13.out.f.below h.out p13.out.f.lt
    have m := p13.out.m.below h.out p13.out.m.lt
    have a := x13.out.below h.out x13.out.lt
    have b := y13.out.below h.out y13.out.lt
    exact ⟨f.cell 0, f.cell 1, f.cell 2, f.cell 3, f.cell 4, m.cell 0, m.cell 1, a.cell 0, a.cell 1, b.cell 0, b.cell 1⟩)
  have kS : Hid (∀ W', GK w13 W' → Calls Tryz.prog 34 #[.agg #[.int .i64 ch, .slice Aa qh.length ka], .agg #[.int .i64 ch, .slice Ab qh.length kb]] W' fun e w' => e = .returned (.bool true) ∧ GK w13 w') := hid (fun W' h => by
    have := sameM_any ch ch Aa Ab ka kb qh qh W' hqhm hqhm ((sa13.out.below h.out).more h.out.size) ((sb13.out.below h.out).more h.out.size)
    rw [sameM_self] at this
    exact this.mono fun e w' ⟨h1, h2⟩ => ⟨h1, h.step h2⟩)
  have kW : Hid (∀ W', GK w13 W' → Calls Tryz.prog 42 #[.agg #[.int .i64 W, .int .i64 H, .int .i64 D, .slice Ak kind.length ck, .slice Ao out.length co], .agg #[.int .i64 c0, .slice Aq q.length cq]] W' fun e w' => ∃ A c, e = .returned (.slice A lw.length c) ∧ SlR w' w'.heap.size A lw ∧ GK w13 w') := hid (fun W' h =>
    (wayF_any W H D Ak Ao ck co kind out c0 Aq cq q lw W' HRF.out ((hk.below (base.out W' h)).more (base.out W' h).size) ((ho.below (base.out W' h)).more (base.out W' h).size) ((hq.below (base.out W' h)).more (base.out W' h).size) hq10 HKN.out hc0 HLW.out).mono fun e w' hh => by
      obtain ⟨v, rfl, A, c, rfl, _, _, h3, _, h5⟩ := hh
      exact ⟨A, c, rfl, h3, h.step h5⟩)
  have kI : Hid (∀ A c W', SlR W' W'.heap.size A lw → GK w13 W' → Calls Tryz.prog 41 #[.slice A lw.length c, .slice Aw lw.length kw] W' fun e w' => e = .returned (.bool true) ∧ GK w13 w') := hid (fun A c W' hA h => by
    have := sameI_any A Aw c kw lw lw W' hlwm hlwm hA ((sw13.out.below h.out).more h.out.size)
    rw [show decide (lw = lw) = true by simp] at this
    exact this.mono fun e w' ⟨h1, h2⟩ => ⟨h1, h.step h2⟩)
  have kN : Hid (∀ W', GK w13 W' → Calls Tryz.prog 43 #[.agg #[.int .i64 c0, .slice Aq q.length cq]] W' fun e w' => e = .returned (.int .i64 (q.headD 0)) ∧ GK w13 w') := hid (fun W' h =>
    (nextM_any c0 Aq cq q W' hql ((hq.below (base.out W' h)).more (base.out W' h).size)).mono fun e w' ⟨h1, h2⟩ => ⟨h1, h.step h2⟩)
  have kR : Hid (∀ W', GK w13 W' → Calls Tryz.prog 44 #[.agg #[.int .i64 c0, .slice Aq q.length cq]] W' fun e w' => e = .returned (.int .i64 (q.headD 0)) ∧ GK w13 w') := hid (fun W' h =>
    (rfnextM_any c0 Aq cq q W' hql ((hq.below (base.out W' h)).more (base.out W' h).size)).mono fun e w' ⟨h1, h2⟩ => ⟨h1, h.step h2⟩)
  have kB : Hid (∀ W', GK w13 W' → Calls Tryz.prog 45 #[.agg #[.int .i64 c0, .slice Aq q.length cq]] W' fun e w' => e = .returned (.string (bs (encM c0 q))) ∧ GK w13 w') := hid (fun W' h =>
    (mbytes_any c0 Aq cq q W' hc0 (by omega) ((hq.below (base.out W' h)).more (base.out W' h).size) (he.below (base.out W' h))).mono fun e w' ⟨h1, h2⟩ => ⟨h1, h.step h2⟩)
  have kC : Hid (∀ W', GK w13 W' → Calls Tryz.prog 46 #[.agg #[.int .i64 c0, .slice Aq q.length cq]] W' fun e w' => e = .returned (.string (bs (encM c0 q))) ∧ GK w13 w') := hid (fun W' h =>
    (rfmbytes_any c0 Aq cq q W' hc0 (by omega) ((hq.below (base.out W' h)).more (base.out W' h).size)).mono fun e w' ⟨h1, h2⟩ => ⟨h1, h.step h2⟩)
  generalize hhd : q.headD 0 = hd at *
  generalize bs (encM c0 q) = bm9 at *
  have gk0 : GK w13 w13 := Below.refl _ _
  have zf := p13.out.f.lt; have zm := p13.out.m.lt; have zx := x13.out.lt; have zy := y13.out.lt
  obtain ⟨f0, f1, f2, f3, f4, m0, m1, a0, a1, b0, b1⟩ := hx.out _ gk0
  go_upto_region 13 with fail
  go_region_held3 (fun W' => W'.cell? ⟨w.heap.size, 0, none⟩ = some (.int .i64 W) ∧ W'.cell? ⟨w.heap.size, 1, none⟩ = some (.int .i64 H) ∧ W'.cell? ⟨w.heap.size, 2, none⟩ = some (.int .i64 D) ∧ W'.cell? ⟨w.heap.size, 3, none⟩ = some (.slice Ak kind.length ck) ∧ W'.cell? ⟨w.heap.size, 4, none⟩ = some (.slice Ao out.length co) ∧ W'.cell? ⟨w.heap.size + 1, 0, none⟩ = some (.int .i64 c0) ∧ W'.cell? ⟨w.heap.size + 1, 1, none⟩ = some (.slice Aq q.length cq) ∧ W'.cell? ⟨ga, 0, none⟩ = some (.int .i64 ch) ∧ W'.cell? ⟨ga, 1, none⟩ = some (.slice Aa qh.length ka) ∧ W'.cell? ⟨gb, 0, none⟩ = some (.int .i64 ch) ∧ W'.cell? ⟨gb, 1, none⟩ = some (.slice Ab qh.length kb))
    (first | assumption | go_keep)
    (first
    | (go_at_call 34; (with_reducible refine (kS.out _ ?_).mono ?_); (repeat (first | assumption | refine GK.drew ?_ | refine GK.alloc ?_ _)); rintro e wb ⟨rfl, pb⟩; obtain ⟨fb0, fb1, fb2, fb3, fb4, mb0, mb1, ab0, ab1, bb0, bb1⟩ := hx.out _ pb)
    | (go_at_call 42; (with_reducible refine (kW.out _ ?_).mono ?_); (repeat (first | assumption | refine GK.drew ?_ | refine GK.alloc ?_ _)); rintro e wb ⟨A9, c9, rfl, s9, pb⟩; obtain ⟨fb0, fb1, fb2, fb3, fb4, mb0, mb1, ab0, ab1, bb0, bb1⟩ := hx.out _ pb)
    | (go_at_call 41; (with_reducible refine (kI.out _ _ _ ?_ ?_).mono ?_); (repeat (first | assumption | refine GK.drew ?_ | refine GK.alloc ?_ _)); rintro e wb ⟨rfl, pb⟩; obtain ⟨fb0, fb1, fb2, fb3, fb4, mb0, mb1, ab0, ab1, bb0, bb1⟩ := hx.out _ pb)
    | (go_at_call 43; (with_reducible refine (kN.out _ ?_).mono ?_); (repeat (first | assumption | refine GK.drew ?_ | refine GK.alloc ?_ _)); rintro e wb ⟨rfl, pb⟩; obtain ⟨fb0, fb1, fb2, fb3, fb4, mb0, mb1, ab0, ab1, bb0, bb1⟩ := hx.out _ pb)
    | (go_at_call 44; (with_reducible refine (kR.out _ ?_).mono ?_); (repeat (first | assumption | refine GK.drew ?_ | refine GK.alloc ?_ _)); rintro e wb ⟨rfl, pb⟩; obtain ⟨fb0, fb1, fb2, fb3, fb4, mb0, mb1, ab0, ab1, bb0, bb1⟩ := hx.out _ pb)
    | (go_at_call 45; (with_reducible refine (kB.out _ ?_).mono ?_); (repeat (first | assumption | refine GK.drew ?_ | refine GK.alloc ?_ _)); rintro e wb ⟨rfl, pb⟩; obtain ⟨fb0, fb1, fb2, fb3, fb4, mb0, mb1, ab0, ab1, bb0, bb1⟩ := hx.out _ pb)
    | (go_at_call 46; (with_reducible refine (kC.out _ ?_).mono ?_); (repeat (first | assumption | refine GK.drew ?_ | refine GK.alloc ?_ _)); rintro e wb ⟨rfl, pb⟩; obtain ⟨fb0, fb1, fb2, fb3, fb4, mb0, mb1, ab0, ab1, bb0, bb1⟩ := hx.out _ pb))
  all_goals
    have pz := hid pb
    have k1l := didL_len (nextL W H D kind out) c0 q act done
    have k2l := didL_len (nextL W H D kind out) c0 q hd done
    generalize hd1 : didL (nextL W H D kind out) c0 q act done = r1 at k1l
    generalize hd2 : didL (nextL W H D kind out) c0 q hd done = r2 at k2l
    obtain ⟨cd1, qd1⟩ := r1
    obtain ⟨cd2, qd2⟩ := r2
    simp only at k1l k2l
    have l1m : qd1.length ≤ maxLen := by unfold maxLen; omega
    have l2m : qd2.length ≤ maxLen := by unfold maxLen; omega
    have kD : Hid (∀ W', GK w13 W' → Calls Tryz.prog 47 #[.agg #[.int .i64 W, .int .i64 H, .int .i64 D, .slice Ak kind.length ck, .slice Ao out.length co], .agg #[.int .i64 c0, .slice Aq q.length cq], .int .i64 act, .bool done] W' fun e w' => ∃ A k, e = .returned (.agg #[.int .i64 cd1, .slice A qd1.length k]) ∧ SlR w' w'.heap.size A qd1 ∧ GK w13 w' ∧ Below W'.heap.size W' w') := hid (fun W' h => by
      have := did_any W H D Ak Ao ck co kind out c0 Aq cq q act done W' HRF.out (by omega) ((hk.below (base.out W' h)).more (base.out W' h).size) ((ho.below (base.out W' h)).more (base.out W' h).size) ((hq.below (base.out W' h)).more (base.out W' h).size) HKN.out
      rw [hd1] at this
      refine this.mono fun e w' hh => ?_
      obtain ⟨A, k, rfl, _, _, h3, _, h5⟩ := hh
      exact ⟨A, k, rfl, h3, h.step h5, h5⟩)
    have kE : Hid (∀ W', GK w13 W' → Calls Tryz.prog 48 #[.agg #[.int .i64 W, .int .i64 H, .int .i64 D, .slice Ak kind.length ck, .slice Ao out.length co], .agg #[.int .i64 c0, .slice Aq q.length cq], .int .i64 act, .bool done] W' fun e w' => ∃ A k, e = .returned (.agg #[.int .i64 cd1, .slice A qd1.length k]) ∧ SlR w' w'.heap.size A qd1 ∧ GK w13 w' ∧ Below W'.heap.size W' w') := hid (fun W' h => by
      have := rfdid_any W H D Ak Ao ck co kind out c0 Aq cq q act done W' HRF.out hq1 hq2 (by omega) ((hk.below (base.out W' h)).more (base.out W' h).size) ((ho.below (base.out W' h)).more (base.out W' h).size) ((hq.below (base.out W' h)).more (base.out W' h).size) HKN.out
      rw [hd1] at this
      refine this.mono fun e w' hh => ?_
      obtain ⟨A, k, rfl, h3, h5⟩ := hh
      exact ⟨A, k, rfl, h3, h.step h5, h5⟩)
    have kD2 : Hid (∀ W', GK w13 W' → Calls Tryz.prog 47 #[.agg #[.int .i64 W, .int .i64 H, .int .i64 D, .slice Ak kind.length ck, .slice Ao out.length co], .agg #[.int .i64 c0, .slice Aq q.length cq], .int .i64 hd, .bool done] W' fun e w' => ∃ A k, e = .returned (.agg #[.int .i64 cd2, .slice A qd2.length k]) ∧ SlR w' w'.heap.size A qd2 ∧ GK w13 w' ∧ Below W'.heap.size W' w') := hid (fun W' h => by
      have := did_any W H D Ak Ao ck co kind out c0 Aq cq q hd done W' HRF.out (by omega) ((hk.below (base.out W' h)).more (base.out W' h).size) ((ho.below (base.out W' h)).more (base.out W' h).size) ((hq.below (base.out W' h)).more (base.out W' h).size) HKN.out
      rw [hd2] at this
      refine this.mono fun e w' hh => ?_
      obtain ⟨A, k, rfl, _, _, h3, _, h5⟩ := hh
      exact ⟨A, k, rfl, h3, h.step h5, h5⟩)
    have kE2 : Hid (∀ W', GK w13 W' → Calls Tryz.prog 48 #[.agg #[.int .i64 W, .int .i64 H, .int .i64 D, .slice Ak kind.length ck, .slice Ao out.length co], .agg #[.int .i64 c0, .slice Aq q.length cq], .int .i64 hd, .bool done] W' fun e w' => ∃ A k, e = .returned (.agg #[.int .i64 cd2, .slice A qd2.length k]) ∧ SlR w' w'.heap.size A qd2 ∧ GK w13 w' ∧ Below W'.heap.size W' w') := hid (fun W' h => by
      have := rfdid_any W H D Ak Ao ck co kind out c0 Aq cq q hd done W' HRF.out hq1 hq2 (by omega) ((hk.below (base.out W' h)).more (base.out W' h).size) ((ho.below (base.out W' h)).more (base.out W' h).size) ((hq.below (base.out W' h)).more (base.out W' h).size) HKN.out
      rw [hd2] at this
      refine this.mono fun e w' hh => ?_
      obtain ⟨A, k, rfl, h3, h5⟩ := hh
      exact ⟨A, k, rfl, h3, h.step h5, h5⟩)
    have kT : Hid (∀ A k A' k' W', SlR W' W'.heap.size A qd1 → SlR W' W'.heap.size A' qd1 → GK w13 W' → Calls Tryz.prog 34 #[.agg #[.int .i64 cd1, .slice A qd1.length k], .agg #[.int .i64 cd1, .slice A' qd1.length k']] W' fun e w' => e = .returned (.bool true) ∧ GK w13 w') := hid (fun A k A' k' W' hA hA' h => by
      have := sameM_any cd1 cd1 A A' k k' qd1 qd1 W' l1m l1m hA hA'
      rw [sameM_self] at this
      exact this.mono fun e w' ⟨h1, h2⟩ => ⟨h1, h.step h2⟩)
    have kT2 : Hid (∀ A k A' k' W', SlR W' W'.heap.size A qd2 → SlR W' W'.heap.size A' qd2 → GK w13 W' → Calls Tryz.prog 34 #[.agg #[.int .i64 cd2, .slice A qd2.length k], .agg #[.int .i64 cd2, .slice A' qd2.length k']] W' fun e w' => e = .returned (.bool true) ∧ GK w13 w') := hid (fun A k A' k' W' hA hA' h => by
      have := sameM_any cd2 cd2 A A' k k' qd2 qd2 W' l2m l2m hA hA'
      rw [sameM_self] at this
      exact this.mono fun e w' ⟨h1, h2⟩ => ⟨h1, h.step h2⟩)
    have kN2 : Hid (∀ W', GK w13 W' → Calls Tryz.prog 43 #[.agg #[.int .i64 c0, .slice Aq q.length cq]] W' fun e w' => e = .returned (.int .i64 hd) ∧ GK w13 w' ∧ Below W'.heap.size W' w') := hid (fun W' h => by
      have := nextM_any c0 Aq cq q W' hql ((hq.below (base.out W' h)).more (base.out W' h).size)
      rw [hhd] at this
      exact this.mono fun e w' ⟨h1, h2⟩ => ⟨h1, h.step h2, h2⟩)
    have kR2 : Hid (∀ W', GK w13 W' → Calls Tryz.prog 44 #[.agg #[.int .i64 c0, .slice Aq q.length cq]] W' fun e w' => e = .returned (.int .i64 hd) ∧ GK w13 w' ∧ Below W'.heap.size W' w') := hid (fun W' h => by
      have := rfnextM_any c0 Aq cq q W' hql ((hq.below (base.out W' h)).more (base.out W' h).size)
      rw [hhd] at this
      exact this.mono fun e w' ⟨h1, h2⟩ => ⟨h1, h.step h2, h2⟩)
    have Hd12 := hid (And.intro hd1 hd2)
    clear hd1 hd2 kS kW kI kN kR kB kC
    go_upto_region 15 with fail
    go_region_held3 (fun W' => W'.cell? ⟨w.heap.size, 0, none⟩ = some (.int .i64 W) ∧ W'.cell? ⟨w.heap.size, 1, none⟩ = some (.int .i64 H) ∧ W'.cell? ⟨w.heap.size, 2, none⟩ = some (.int .i64 D) ∧ W'.cell? ⟨w.heap.size, 3, none⟩ = some (.slice Ak kind.length ck) ∧ W'.cell? ⟨w.heap.size, 4, none⟩ = some (.slice Ao out.length co) ∧ W'.cell? ⟨w.heap.size + 1, 0, none⟩ = some (.int .i64 c0) ∧ W'.cell? ⟨w.heap.size + 1, 1, none⟩ = some (.slice Aq q.length cq))
      (first | assumption | go_keep)
      (first
      | (go_at_call 47; (with_reducible refine (kD.out _ ?_).mono ?_); (repeat (first | assumption | refine GK.drew ?_ | refine GK.alloc ?_ _)); rintro e wb ⟨A8, k8, rfl, s8, pb, bb⟩; obtain ⟨fb0, fb1, fb2, fb3, fb4, mb0, mb1, ab0, ab1, bb0, bb1⟩ := hx.out _ pb)
      | (go_at_call 47; (with_reducible refine (kD2.out _ ?_).mono ?_); (repeat (first | assumption | refine GK.drew ?_ | refine GK.alloc ?_ _)); rintro e wb ⟨A8, k8, rfl, s8, pb, bb⟩; obtain ⟨fb0, fb1, fb2, fb3, fb4, mb0, mb1, ab0, ab1, bb0, bb1⟩ := hx.out _ pb)
      | (go_at_call 48; (with_reducible refine (kE.out _ ?_).mono ?_); (repeat (first | assumption | refine GK.drew ?_ | refine GK.alloc ?_ _)); rintro e wb ⟨A9, k9, rfl, s9, pb, bb⟩; (try (replace s8 := (s8.below bb).more bb.size)); obtain ⟨fb0, fb1, fb2, fb3, fb4, mb0, mb1, ab0, ab1, bb0, bb1⟩ := hx.out _ pb)
      | (go_at_call 48; (with_reducible refine (kE2.out _ ?_).mono ?_); (repeat (first | assumption | refine GK.drew ?_ | refine GK.alloc ?_ _)); rintro e wb ⟨A9, k9, rfl, s9, pb, bb⟩; (try (replace s8 := (s8.below bb).more bb.size)); obtain ⟨fb0, fb1, fb2, fb3, fb4, mb0, mb1, ab0, ab1, bb0, bb1⟩ := hx.out _ pb)
      | (go_at_call 34; (with_reducible refine (kT.out _ _ _ _ _ ?_ ?_ ?_).mono ?_); (repeat (first | assumption | refine GK.drew ?_ | refine GK.alloc ?_ _)); rintro e wb ⟨rfl, pb⟩; obtain ⟨fb0, fb1, fb2, fb3, fb4, mb0, mb1, ab0, ab1, bb0, bb1⟩ := hx.out _ pb)
      | (go_at_call 34; (with_reducible refine (kT2.out _ _ _ _ _ ?_ ?_ ?_).mono ?_); (repeat (first | assumption | refine GK.drew ?_ | refine GK.alloc ?_ _)); rintro e wb ⟨rfl, pb⟩; obtain ⟨fb0, fb1, fb2, fb3, fb4, mb0, mb1, ab0, ab1, bb0, bb1⟩ := hx.out _ pb)
      | (go_at_call 43; (with_reducible refine (kN2.out _ ?_).mono ?_); (repeat (first | assumption | refine GK.drew ?_ | refine GK.alloc ?_ _)); rintro e wb ⟨rfl, pb, bb⟩; (try (replace s8 := (s8.below bb).more bb.size)); obtain ⟨fb0, fb1, fb2, fb3, fb4, mb0, mb1, ab0, ab1, bb0, bb1⟩ := hx.out _ pb)
      | (go_at_call 44; (with_reducible refine (kR2.out _ ?_).mono ?_); (repeat (first | assumption | refine GK.drew ?_ | refine GK.alloc ?_ _)); rintro e wb ⟨rfl, pb, bb⟩; (try (replace s8 := (s8.below bb).more bb.size)); obtain ⟨fb0, fb1, fb2, fb3, fb4, mb0, mb1, ab0, ab1, bb0, bb1⟩ := hx.out _ pb))
    all_goals
      go_wp2_with fail
      go_ret
      exact ⟨rfl, base.out _ pb⟩
end Go.Proofs.YtnnephifjikkdaaGreatDoor
