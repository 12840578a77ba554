/- Robots: RobotStays, the walk. -/
import Derived.Test.YtaaiaehffoadfaaRobL
import Derived.Deep.DeepCutAuto
set_option linter.unusedSimpArgs false
set_option linter.unusedVariables false
namespace Go.Proofs.Ytaaiaehffoadfaa
open Go.RowKit Go.IntWalk

/-- What a world holds while the law runs: the floor and the mind in their boxes. -/
structure Rw (w : World) (W H D : Int) (Ak Ao : Option Addr) (ck co : Nat) (kind out : List Int) (c : Int) (q : List Int) (A : Option Addr) (cq : Nat) (wx : World) : Prop where
  hb : Below w.heap.size w wx
  bf : Blk wx w.heap.size 24 #[.int .i64 W, .int .i64 H, .int .i64 D, .slice Ak kind.length ck, .slice Ao out.length co]
  bm : Blk wx (w.heap.size + 1) 26 #[.int .i64 c, .slice A q.length cq]
  sq : SlX wx (w.heap.size + 1) A q
theorem Rw.step {w wx wy : World} {W H D : Int} {Ak Ao : Option Addr} {ck co : Nat} {kind out : List Int} {c : Int} {q : List Int} {A : Option Addr} {cq : Nat} (h : Rw w W H D Ak Ao ck co kind out c q A cq wx) (hB : Below wx.heap.size wx wy) : Rw w W H D Ak Ao ck co kind out c q A cq wy :=
  ⟨h.hb.trans (hB.mono h.hb.size), h.bf.below hB h.bf.lt, h.bm.below hB h.bm.lt, h.sq.step hB⟩

theorem Rw.store {w wx : World} {W H D : Int} {Ak Ao : Option Addr} {ck co : Nat} {kind out : List Int} {c : Int} {q : List Int} {A : Option Addr} {cq : Nat} (h : Rw w W H D Ak Ao ck co kind out c q A cq wx) {c2 : Int} {q2 : List Int} {A2 : Option Addr} {cq2 : Nat} (hs : SlX wx (w.heap.size + 1) A2 q2) :
    Rw w W H D Ak Ao ck co kind out c2 q2 A2 cq2 ((wx.setCell ⟨w.heap.size + 1, 0, none⟩ (.int .i64 c2)).setCell ⟨w.heap.size + 1, 1, none⟩ (.slice A2 q2.length cq2)) :=
  ⟨(h.hb.setCell (by simp) _).setCell (by simp) _, (h.bf.far (by simp) _).far (by simp) _, by simpa using (h.bm.set_ 0 (.int .i64 c2)).set_ 1 (.slice A2 q2.length cq2), (hs.set rfl _).set rfl _⟩

/-- The mind that Did returned lies in a box of its own. -/
def DidW (w0 : World) (r : Int × List Int) (s : Value) (wx : World) : Prop :=
  ∃ b A c, s = .pointer (some ⟨b, 0, none⟩) ∧ Below w0.heap.size w0 wx ∧ Blk wx b 26 #[.int .i64 r.1, .slice A r.2.length c] ∧ SlR wx wx.heap.size A r.2 ∧ Fresh w0.heap.size A ∧ w0.heap.size ≤ b
theorem didW_a {w0 wy w2 : World} {r : Int × List Int} {A : Option Addr} {c : Nat} (h0 : Below w0.heap.size w0 wy) (hB : Below wy.heap.size wy w2) (h3 : SlR w2 w2.heap.size A r.2) (hF : Fresh wy.heap.size A) :
    DidW w0 r (.pointer (some ⟨w2.heap.size, 0, none⟩)) (w2.alloc (Obj.cells #[.int .i64 r.1, .slice A r.2.length c] 26)) := by
  have z0 := h0.size
  have z1 := hB.size
  exact ⟨w2.heap.size, A, c, rfl, (h0.trans (hB.mono z0)).alloc (by omega) _, Blk.new _ _ _, (h3.alloc (Nat.le_refl _) _).more (by simp), hF.mono z0, by omega⟩
theorem didW_b {w0 wy w2 : World} {r : Int × List Int} {A : Option Addr} {c g : Nat} (h0 : Below w0.heap.size w0 wy) (hB : Below wy.heap.size wy w2) (h3 : SlR w2 w2.heap.size A r.2) (hF : Fresh wy.heap.size A) (hg : w0.heap.size ≤ g) (bg : Blk wy g 26 #[.int .i64 0, .slice none 0 0]) :
    DidW w0 r (.pointer (some ⟨g, 0, none⟩)) ((w2.setCell ⟨g, 0, none⟩ (.int .i64 r.1)).setCell ⟨g, 1, none⟩ (.slice A r.2.length c)) := by
  have z0 := h0.size
  have z1 := hB.size
  have z2 := bg.lt
  have hne : ∀ a, A = some a → a.block ≠ g := fun a ha => by have := hF a ha; omega
  exact ⟨g, A, c, rfl, ((h0.trans (hB.mono z0)).setCell (by simp; omega) _).setCell (by simp; omega) _, by simpa using ((bg.below hB z2).set_ 0 (.int .i64 r.1)).set_ 1 (.slice A r.2.length c), ((h3.far (p := ⟨g, 0, none⟩) hne _).far (p := ⟨g, 1, none⟩) hne _).more (by simp), hF.mono z0, hg⟩

/-- The loop's round. -/
structure Lp (w : World) (W H D : Int) (Ak Ao : Option Addr) (ck co : Nat) (kind out wy : List Int) (A8 : Option Addr) (c : Int) (q : List Int) (A : Option Addr) (cq p : Nat) (wx : World) : Prop where
  r : Rw w W H D Ak Ao ck co kind out c q A cq wx
  x : SlX wx (w.heap.size + 1) A8 wy
  s : St W H D kind out wy p c q
theorem Lp.step {w wx wz : World} {W H D : Int} {Ak Ao : Option Addr} {ck co : Nat} {kind out wy : List Int} {A8 : Option Addr} {c : Int} {q : List Int} {A : Option Addr} {cq p : Nat} (h : Lp w W H D Ak Ao ck co kind out wy A8 c q A cq p wx) (hB : Below wx.heap.size wx wz) : Lp w W H D Ak Ao ck co kind out wy A8 c q A cq p wz :=
  ⟨h.r.step hB, h.x.step hB, h.s⟩
set_option maxRecDepth 20000 in
set_option maxHeartbeats 4000000 in
theorem stays_any (W H D : Int) (Ak Ao : Option Addr) (ck co : Nat) (kind out : List Int) (c0 : Int) (Aq : Option Addr) (cq : Nat) (q : List Int) (Ac : Option Addr) (cc : Nat) (can : List Bool) (w : World) (hkl : kind.length ≤ maxLen) (hol : out.length ≤ maxLen) (hql : q.length ≤ maxLen) (hcl : can.length ≤ maxLen) (hk : SlR w w.heap.size Ak kind) (ho : SlR w w.heap.size Ao out) (hq : SlR w w.heap.size Aq q) (hc : SlR w w.heap.size Ac can) :
    Calls Try.prog 3 #[.agg #[.int .i64 W, .int .i64 H, .int .i64 D, .slice Ak kind.length ck, .slice Ao out.length co], .agg #[.int .i64 c0, .slice Aq q.length cq], .slice Ac can.length cc] w fun e w' => e = .returned (.bool true) ∧ Below w.heap.size w w' := by
  go_enter Try.func3, Try.ntmps3
  go_wp2_with fail
  refine (small_any _).mono ?_
  rintro e w1 ⟨rfl, hB⟩
  have hb0 : Below w.heap.size w ((w.alloc (Obj.cells #[.int .i64 W, .int .i64 H, .int .i64 D, .slice Ak kind.length ck, .slice Ao out.length co] 24)).alloc (Obj.cells #[.int .i64 c0, .slice Aq q.length cq] 26)) := by (repeat (first | exact Below.refl _ _ | assumption | refine below_drewN ?_ _ | refine Below.drew ?_ | refine Below.alloc ?_ (by (try simp); (try omega)) _ | refine Below.setCell ?_ (by (try simp); (try omega)) _))
  have R0 : Hid (Rw w W H D Ak Ao ck co kind out c0 q Aq cq w1) := by
    have hb1 := hb0.trans (hB.mono (by simp; omega))
    refine ⟨hb1, ((Blk.new w _ _).alloc _).below hB (by simp; omega), ?_, SlX.of_old hq (by omega) hb1 (Nat.le_refl _)⟩
    have := (Blk.new (w.alloc (Obj.cells #[.int .i64 W, .int .i64 H, .int .i64 D, .slice Ak kind.length ck, .slice Ao out.length co] 24)) 26 #[.int .i64 c0, .slice Aq q.length cq]).below hB (by simp)
    simpa using this
  clear hB hb0
  obtain ⟨x0, x1, x2, x3, x4⟩ := blk5 R0.out.bf; obtain ⟨m0, m1⟩ := blk2 R0.out.bm
  go_wp2_with fail
  have hz := R0.out.hb.size
  refine (few_any W H D Ak Ao ck co kind out c0 Aq cq q _ hkl hol hql ((hk.below R0.out.hb).more hz) ((ho.below R0.out.hb).more hz)).mono ?_
  clear hz
  rintro e w2 ⟨rfl, hB⟩
  have R1 := hid (R0.out.step hB)
  clear hB R0 x0 x1 x2 x3 x4 m0 m1
  cases hfew : fewL W H D kind out q with
  | false =>
    clear hfew
    go_wp2_with fail
    go_ret
    exact ⟨rfl, R1.out.hb⟩
  | true =>
  obtain ⟨hk40, ho40, hq10, hRF⟩ := fewL_iff.1 hfew
  clear hfew
  have HRF := hid hRF
  clear hRF
  by_cases h60 : (can.length : Int) ≤ 60
  case neg =>
    have l1 : (60 : Int) < can.length := by omega
    clear h60
    go_wp2_with fail
    go_ret
    exact ⟨rfl, R1.out.hb⟩
  obtain ⟨x0, x1, x2, x3, x4⟩ := blk5 R1.out.bf; obtain ⟨m0, m1⟩ := blk2 R1.out.bm
  go_wp2_with fail
  have hz := R1.out.hb.size
  refine (right_any W H D Ak Ao ck co kind out c0 Aq cq q _ HRF.out ((hk.below R1.out.hb).more hz) ((ho.below R1.out.hb).more hz) R1.out.sq.1 hql).mono ?_
  clear hz
  rintro e w3 ⟨rfl, hB⟩
  have R2 := hid (R1.out.step hB)
  clear hB R1 x0 x1 x2 x3 x4 m0 m1
  cases hr : rightM W H D kind out c0 q with
  | false =>
    clear hr
    go_wp2_with fail
    go_ret
    exact ⟨rfl, R2.out.hb⟩
  | true =>
  obtain ⟨wy, hwy, hSt⟩ := St.first hr
  have Hr := hid hr
  have HSt := hid hSt
  have Hwy := hid hwy
  clear hr hSt hwy
  obtain ⟨x0, x1, x2, x3, x4⟩ := blk5 R2.out.bf; obtain ⟨m0, m1⟩ := blk2 R2.out.bm
  go_wp2_with fail
  have hz := R2.out.hb.size
  have hkn := HSt.out.known
  have hcI : I64 c0 := by have := HSt.out.cell; unfold I64; omega
  refine (wayF_any W H D Ak Ao ck co kind out c0 Aq cq q wy _ HRF.out ((hk.below R2.out.hb).more hz) ((ho.below R2.out.hb).more hz) R2.out.sq.1 hq10 hkn hcI Hwy.out).mono ?_
  rintro e w4 ⟨_, rfl, A8, c8, rfl, hy8, hc8, s8, hF8, hB⟩
  have R3 := hid (R2.out.step hB)
  have Hz := R2.out.bm.lt
  have X8 := hid (SlX.of_fresh s8 hF8 Hz)
  clear hB R2 x0 x1 x2 x3 x4 m0 m1 hz hkn hcI s8 hF8 Hz Hwy hq10
  have hwl := HSt.out.lt
  have l2 : ((wy.length : Int) == 0) = false := by simp; intro h; subst h; simp at hwl
  clear hwl
  have hy8 : (wy.length : Int) ≤ 9223372036854775807 := by unfold maxLen at hc8; omega
  obtain ⟨b8, o8, rfl⟩ : ∃ b o, A8 = some ⟨b, o, none⟩ := by
    obtain ⟨b, o, h, _⟩ := X8.out.1.int (k := 0) HSt.out.lt
    exact ⟨b, o, h⟩
  have L0 : Hid (Lp w W H D Ak Ao ck co kind out wy (some ⟨b8, o8, none⟩) c0 q Aq cq 0 w4) := ⟨R3.out, X8.out, HSt.out⟩
  clear hc8 X8 HSt R3
  go_wp2_with fail
  go_loopw [9, 10, 11] (fun a d i wr => ∃ (k p dd : Nat) (c : Int) (q' : List Int) (A : Option Addr) (cq' : Nat), k ≤ can.length ∧ dd ≤ k ∧ a = .int .i64 p ∧ d = .int .i64 dd ∧ i = .int .i64 k ∧ Hid (Lp w W H D Ak Ao ck co kind out wy (some ⟨b8, o8, none⟩) c q' A cq' p wr)) (fun _ _ i _ => can.length - (intOf i).toNat)
  case atStart => exact ⟨0, 0, 0, c0, q, Aq, cq, by omega, by omega, rfl, rfl, rfl, L0⟩
  case round =>
    clear L0
    obtain ⟨k, p, dd, c, q', A, cq', hkc, hdk, rfl, rfl, rfl, L1⟩ := hrel
    have hb := L1.out.r.hb
    by_cases hlt : k < can.length
    · obtain ⟨b, off, rfl, hbc, g1⟩ := (hc.below hb).bool hlt
      have hbz : b < wr.heap.size := Nat.lt_of_lt_of_le hbc hb.size
      generalize can[k] = bb at *
      obtain ⟨x0, x1, x2, x3, x4⟩ := blk5 L1.out.r.bf; obtain ⟨m0, m1⟩ := blk2 L1.out.r.bm
      go_wp2_with fail
      have h4 := L1.out.s.len
      refine (nextM_any c A cq' q' _ (by unfold maxLen; omega) L1.out.r.sq.1).mono ?_
      rintro e w5 ⟨rfl, hB⟩
      generalize hact : q'.headD 0 = act
      have Hact := hid hact
      clear hact
      have L2 := hid (L1.out.step hB)
      have hb := L2.out.r.hb
      replace g1 := (hB.cell (p := ⟨b, off + k, none⟩) hbz).trans g1
      replace hbz := Nat.lt_of_lt_of_le hbz hB.size
      clear hB L1 x0 x1 x2 x3 x4 m0 m1
      obtain ⟨x0, x1, x2, x3, x4⟩ := blk5 L2.out.r.bf; obtain ⟨m0, m1⟩ := blk2 L2.out.r.bm
      go_upto_region 13 with fail
      go_cut [62] (fun s wx => s = .bool false ∧ w5 = wx)
      case first =>
        by_cases h1 : (q'.length : Int) ≤ dd
        · cases q' with
          | nil =>
            have e0 : act = 0 := Hact.out.symm
            subst e0
            simp only [List.length_nil] at *
            have e1 : (0 : Int) ≤ dd := by omega
            go_wp2_with fail
            go_meet
            exact ⟨rfl, rfl⟩
          | cons x q1 =>
            have e1 : (((x :: q1).length : Int) == 0) = false := by simp; omega
            go_wp2_with fail
            go_meet
            exact ⟨rfl, rfl⟩
        · go_wp2_with fail
          go_meet
          exact ⟨rfl, rfl⟩
      case rest =>
        obtain ⟨rfl, rfl⟩ := hcut
        go_upto_region 16 with fail
        obtain ⟨r, hr⟩ : ∃ r, didL (nextL W H D kind out) c q' act bb = r := ⟨_, rfl⟩
        have Hr := hid hr
        clear hr
        have Hkn := hid L2.out.s.known
        go_cut [14] (fun s wx => DidW w5 r s wx)
        case first =>
          have hz1 := L2.out.r.bf.lt
          have hz2 := L2.out.r.bm.lt
          go_region_held3 (fun w' => w'.cell? ⟨w.heap.size, 0, none⟩ = some (.int .i64 W) ∧ w'.cell? ⟨w.heap.size, 1, none⟩ = some (.int .i64 H) ∧ w'.cell? ⟨w.heap.size, 2, none⟩ = some (.int .i64 D) ∧ w'.cell? ⟨w.heap.size, 3, none⟩ = some (.slice Ak kind.length ck) ∧ w'.cell? ⟨w.heap.size, 4, none⟩ = some (.slice Ao out.length co) ∧ w'.cell? ⟨w.heap.size + 1, 0, none⟩ = some (.int .i64 c) ∧ w'.cell? ⟨w.heap.size + 1, 1, none⟩ = some (.slice A q'.length cq') ∧ w'.cell? ⟨b, off + k, none⟩ = some (.bool bb))
            (first | go_keep | (go_split_ands; refine ⟨?_, ?_, ?_, ?_, ?_, ?_, ?_, ?_⟩ <;> (rw [World.cell?_setCell_far _ _ _ _ (by (try simp); (try omega)), World.cell?_setCell_far _ _ _ _ (by (try simp); (try omega))]; assumption)))
            (first
            | (go_at_call 10; refine (did_any W H D Ak Ao ck co kind out c A cq' q' act bb _ HRF.out (by omega) ((hk.below (by (repeat (first | exact Below.refl _ _ | assumption | refine below_drewN ?_ _ | refine Below.drew ?_ | refine Below.alloc ?_ (by (try simp); (try omega)) _ | refine Below.setCell ?_ (by (try simp); (try omega)) _)))).more (by (try simp); (try omega))) ((ho.below (by (repeat (first | exact Below.refl _ _ | assumption | refine below_drewN ?_ _ | refine Below.drew ?_ | refine Below.alloc ?_ (by (try simp); (try omega)) _ | refine Below.setCell ?_ (by (try simp); (try omega)) _)))).more (by (try simp); (try omega))) ((L2.out.r.sq.1.below (by (repeat (first | exact Below.refl _ _ | assumption | refine below_drewN ?_ _ | refine Below.drew ?_ | refine Below.alloc ?_ (by (try simp); (try omega)) _ | refine Below.setCell ?_ (by (try simp); (try omega)) _)))).more (by (try simp); (try omega))) Hkn.out).mono ?_; rw [Hr.out]; rintro e w6 ⟨A14, c14, rfl, _, _, s14, F14, hB⟩; have s0 := bcell hB w.heap.size 0 (by (try simp); (try omega)); have s1 := bcell hB w.heap.size 1 (by (try simp); (try omega)); have s2 := bcell hB w.heap.size 2 (by (try simp); (try omega)); have s3 := bcell hB w.heap.size 3 (by (try simp); (try omega)); have s4 := bcell hB w.heap.size 4 (by (try simp); (try omega)); have s5 := bcell hB (w.heap.size + 1) 0 (by (try simp); (try omega)); have s6 := bcell hB (w.heap.size + 1) 1 (by (try simp); (try omega)); have s7 := bcell hB b (off + k) (by (try simp); (try omega)); simp [go_sem] at s0 s1 s2 s3 s4 s5 s6 s7; have z0 := hB.size; (try simp [go_sem] at z0); (try have z1 := Nat.lt_of_succ_le z0); have f0 := bfrozen hB (w5.heap.size) 0; (try simp [go_sem] at f0); have r0 := bcell hB (w5.heap.size) 0; (try simp [go_sem] at r0); have f1 := bfrozen hB (w5.heap.size) 1; (try simp [go_sem] at f1); have r1 := bcell hB (w5.heap.size) 1; (try simp [go_sem] at r1)))
          all_goals
            go_wp2_with fail
            go_meet
          · exact didW_a (by (repeat (first | exact Below.refl _ _ | assumption | refine below_drewN ?_ _ | refine Below.drew ?_ | refine Below.alloc ?_ (by (try simp); (try omega)) _ | refine Below.setCell ?_ (by (try simp); (try omega)) _))) hB s14 F14
          · exact didW_b (by (repeat (first | exact Below.refl _ _ | assumption | refine below_drewN ?_ _ | refine Below.drew ?_ | refine Below.alloc ?_ (by (try simp); (try omega)) _ | refine Below.setCell ?_ (by (try simp); (try omega)) _))) hB s14 F14 (Nat.le_refl _) (Blk.new_at (by simp))
        case rest =>
          obtain ⟨b14, A14, c14, rfl, hB6, bb14, s14, F14, hb14⟩ := hcut
          have L3 := hid (L2.out.step hB6)
          have hzz := L2.out.r.bm.lt
          have X14 := hid (SlX.of_fresh s14 F14 hzz)
          have B14 := hid bb14
          have Hd := hid (L2.out.s.did_st HRF.out Hact.out Hr.out)
          have Hcs := hid (L2.out.s.did HRF.out Hact.out Hr.out)
          replace g1 := (hB6.cell (p := ⟨b, off + k, none⟩) hbz).trans g1
          replace hbz := Nat.lt_of_lt_of_le hbz hB6.size
          clear L2 x0 x1 x2 x3 x4 m0 m1 hB6 bb14 F14 s14 hzz hb14 Hr Hact Hkn
          obtain ⟨x0, x1, x2, x3, x4⟩ := blk5 L3.out.r.bf; obtain ⟨m0, m1⟩ := blk2 L3.out.r.bm; obtain ⟨n0, n1⟩ := blk2 B14.out
          go_wp2_with fail
          refine (right_any W H D Ak Ao ck co kind out r.1 A14 c14 r.2 _ HRF.out ((hk.below L3.out.r.hb).more L3.out.r.hb.size) ((ho.below L3.out.r.hb).more L3.out.r.hb.size) X14.out.1 (Nat.le_trans Hd.out.2 (by decide))).mono ?_
          rw [Hd.out.1]
          rintro e w7 ⟨rfl, hB⟩
          have L4 := hid (L3.out.step hB)
          have X4 := hid (X14.out.step hB)
          have B4 := hid (B14.out.below hB B14.out.lt)
          replace g1 := (hB.cell (p := ⟨b, off + k, none⟩) hbz).trans g1
          replace hbz := Nat.lt_of_lt_of_le hbz hB.size
          clear L3 X14 B14 x0 x1 x2 x3 x4 m0 m1 n0 n1 hB Hd
          obtain ⟨x0, x1, x2, x3, x4⟩ := blk5 L4.out.r.bf; obtain ⟨m0, m1⟩ := blk2 L4.out.r.bm; obtain ⟨n0, n1⟩ := blk2 B4.out
          rcases Hcs.out with ⟨rfl, rfl⟩ | ⟨rfl, rfl, rfl⟩ | ⟨q1, n, rfl, rfl, ⟨ha1, ha2⟩, rfl, hn, hs⟩ | ⟨q1, rfl, rfl, ha1, rfl, hs⟩ | ⟨q1, rfl, rfl, ha1, rfl, hs⟩
          · have Hs := hid L4.out.s
            clear Hcs
            have hlt' := Hs.out.lt
            have e9 : ((p : Nat) : Int) < wy.length := by omega
            (try simp only at n0 n1)
            go_upto_region 32 with fail
            have g8 := L4.out.x.1.int_at hlt'
            rw [Hs.out.at] at g8
            go_quiet (fail)
            rename_i nq
            have f0 := L4.out.r.bm.frozen 0
            have f1 := L4.out.r.bm.frozen 1
            go_wp2_with fail
            have hd : Below w7.heap.size w7 (w7.drewN nq) := by (repeat (first | exact Below.refl _ _ | assumption | refine below_drewN ?_ _ | refine Below.drew ?_ | refine Below.alloc ?_ (by (try simp); (try omega)) _ | refine Below.setCell ?_ (by (try simp); (try omega)) _))
            have hL := L4.out.step hd
            have hX := X4.out.step hd
            go_roundw
            case rel => exact ⟨k + 1, p, dd, c, q', A14, c14, by omega, by omega, by go_num, by go_num, by go_num, ⟨hL.r.store hX, (hL.x.set rfl _).set rfl _, Hs.out⟩⟩
            case measure => simp [intOf]; omega
          · have Hs := hid L4.out.s
            clear Hcs
            simp only [List.length_nil] at *
            have hlt' := Hs.out.lt
            have e9 : ((p : Nat) : Int) < wy.length := by omega
            (try simp only at n0 n1)
            go_upto_region 32 with fail
            have g8 := L4.out.x.1.int_at hlt'
            rw [Hs.out.at] at g8
            go_quiet (fail)
            rename_i nq
            have f0 := L4.out.r.bm.frozen 0
            have f1 := L4.out.r.bm.frozen 1
            go_wp2_with fail
            have hd : Below w7.heap.size w7 (w7.drewN nq) := by (repeat (first | exact Below.refl _ _ | assumption | refine below_drewN ?_ _ | refine Below.drew ?_ | refine Below.alloc ?_ (by (try simp); (try omega)) _ | refine Below.setCell ?_ (by (try simp); (try omega)) _))
            have hL := L4.out.step hd
            have hX := X4.out.step hd
            go_roundw
            case rel => exact ⟨k + 1, p, dd, c, [], A14, c14, by omega, by omega, by go_num, by go_num, by go_num, ⟨hL.r.store hX, (hL.x.set rfl _).set rfl _, Hs.out⟩⟩
            case measure => simp [intOf]; omega
          · have Hs := hid hs
            clear Hcs
            simp only [List.length_cons] at *
            have e20 : (0 : Int) < (q1.length : Nat) + 1 := by omega
            have e21 : (0 : Int) < (q1.length + 1 : Nat) := by omega
            have e22 : (q1.length : Int) ≤ 4 := by have := Hs.out.len; omega
            have hlt' := Hs.out.lt
            have e9 : ((p + 1 : Nat) : Int) < wy.length := by omega
            have e10 : (p : Int) + 1 < wy.length := by omega
            (try simp only at n0 n1)
            have Hn := hid hn
            clear hn
            go_wp2_with fail
            refine (next_any W H D Ak Ao ck co kind out c (act - 1) _ HRF.out ((hk.below L4.out.r.hb).more L4.out.r.hb.size) ((ho.below L4.out.r.hb).more L4.out.r.hb.size)).mono ?_
            rw [Hn.out]
            simp only [nextV]
            rintro e w8 ⟨rfl, hB⟩
            have L5 := hid (L4.out.step hB)
            have X5 := hid (X4.out.step hB)
            have B5 := hid (B4.out.below hB B4.out.lt)
            clear L4 X4 B4 x0 x1 x2 x3 x4 m0 m1 n0 n1 hB g1 hbz
            obtain ⟨x0, x1, x2, x3, x4⟩ := blk5 L5.out.r.bf; obtain ⟨m0, m1⟩ := blk2 L5.out.r.bm; obtain ⟨n0, n1⟩ := blk2 B5.out
            go_upto_region 32 with fail
            have g8 := L5.out.x.1.int_at hlt'
            rw [Hs.out.at] at g8
            go_quiet (fail)
            rename_i nq
            have f0 := L5.out.r.bm.frozen 0
            have f1 := L5.out.r.bm.frozen 1
            go_wp2_with fail
            have hd : Below w8.heap.size w8 (w8.drewN nq) := by (repeat (first | exact Below.refl _ _ | assumption | refine below_drewN ?_ _ | refine Below.drew ?_ | refine Below.alloc ?_ (by (try simp); (try omega)) _ | refine Below.setCell ?_ (by (try simp); (try omega)) _))
            have hL := L5.out.step hd
            have hX := X5.out.step hd
            go_roundw
            case rel => exact ⟨k + 1, p + 1, dd + 1, n, q1, A14, c14, by omega, by omega, by go_num, by go_num, by go_num, ⟨hL.r.store hX, (hL.x.set rfl _).set rfl _, Hs.out⟩⟩
            case measure => simp [intOf]; omega
          · have Hs := hid hs
            clear Hcs
            simp only [List.length_cons] at *
            have e20 : (0 : Int) < (q1.length : Nat) + 1 := by omega
            have e21 : (0 : Int) < (q1.length + 1 : Nat) := by omega
            have e22 : (q1.length : Int) ≤ 4 := by have := Hs.out.len; omega
            have hlt' := Hs.out.lt
            have e9 : ((p : Nat) : Int) < wy.length := by omega
            (try simp only at n0 n1)
            go_upto_region 32 with fail
            have g8 := L4.out.x.1.int_at hlt'
            rw [Hs.out.at] at g8
            go_quiet (fail)
            rename_i nq
            have f0 := L4.out.r.bm.frozen 0
            have f1 := L4.out.r.bm.frozen 1
            go_wp2_with fail
            have hd : Below w7.heap.size w7 (w7.drewN nq) := by (repeat (first | exact Below.refl _ _ | assumption | refine below_drewN ?_ _ | refine Below.drew ?_ | refine Below.alloc ?_ (by (try simp); (try omega)) _ | refine Below.setCell ?_ (by (try simp); (try omega)) _))
            have hL := L4.out.step hd
            have hX := X4.out.step hd
            go_roundw
            case rel => exact ⟨k + 1, p, dd + 1, c, q1, A14, c14, by omega, by omega, by go_num, by go_num, by go_num, ⟨hL.r.store hX, (hL.x.set rfl _).set rfl _, Hs.out⟩⟩
            case measure => simp [intOf]; omega
          · have Hs := hid hs
            clear Hcs
            simp only [List.length_cons] at *
            have e20 : (0 : Int) < (q1.length : Nat) + 1 := by omega
            have e21 : (0 : Int) < (q1.length + 1 : Nat) := by omega
            have e22 : (q1.length : Int) ≤ 4 := by have := Hs.out.len; omega
            have hlt' := Hs.out.lt
            have e9 : ((p : Nat) : Int) < wy.length := by omega
            (try simp only at n0 n1)
            go_upto_region 32 with fail
            have g8 := L4.out.x.1.int_at hlt'
            rw [Hs.out.at] at g8
            go_quiet (fail)
            rename_i nq
            have f0 := L4.out.r.bm.frozen 0
            have f1 := L4.out.r.bm.frozen 1
            go_wp2_with fail
            have hd : Below w7.heap.size w7 (w7.drewN nq) := by (repeat (first | exact Below.refl _ _ | assumption | refine below_drewN ?_ _ | refine Below.drew ?_ | refine Below.alloc ?_ (by (try simp); (try omega)) _ | refine Below.setCell ?_ (by (try simp); (try omega)) _))
            have hL := L4.out.step hd
            have hX := X4.out.step hd
            go_roundw
            case rel => exact ⟨k + 1, p, dd + 1, c, q1, A14, c14, by omega, by omega, by go_num, by go_num, by go_num, ⟨hL.r.store hX, (hL.x.set rfl _).set rfl _, Hs.out⟩⟩
            case measure => simp [intOf]; omega
    · have hge : ¬ ((k : Int) < can.length) := by omega
      clear hlt
      have Hs := hid L1.out.s
      have hlt' := Hs.out.lt
      have R := hid L1.out.r
      cases q' with
      | cons x q1 =>
        have e1 : (0 : Int) < ((x :: q1).length : Nat) := by simp; try omega
        obtain ⟨m0, m1⟩ := blk2 R.out.bm
        clear L1 hlt'
        go_upto_region 35 with fail
        go_quiet (fail)
        rename_i nq
        go_wp2_with fail
        go_ret
        exact ⟨rfl, hb.trans (by (repeat (first | exact Below.refl _ _ | assumption | refine below_drewN ?_ _ | refine Below.drew ?_ | refine Below.alloc ?_ (by (try simp); (try omega)) _ | refine Below.setCell ?_ (by (try simp); (try omega)) _)))⟩
      | nil =>
        have g8 := L1.out.x.1.int_at hlt'
        rw [Hs.out.at] at g8
        have hL := Hs.out.last
        obtain ⟨m0, m1⟩ := blk2 R.out.bm
        have hz := R.out.bm.lt
        have hz8 : b8 < wr.heap.size := by
          obtain ⟨b, o, h1, h2, _⟩ := L1.out.x.1.int hlt'
          injection h1 with h1
          injection h1 with h1
          omega
        clear hlt' L1
        simp only [List.length_nil] at *
        have hx := fun x : Ext (GB wr) => GB.cell x
        have cs := hid fun x : Ext (GB wr) => GB.call (x := x) (v := .int .i64 0) (by
          have := nextM_any c A cq' [] x.w (by simp) SlR.nil
          exact this)
        have hp1 : (p : Int) + 1 ≤ 9223372036854775807 := by omega
        clear hy8 l2
        go_upto_region 35 with fail
        rw [hL]
        clear hL
        rw [show ((p + 1 : Nat) : Int) = (p : Int) + 1 from by omega]
        refine wp_region_ext (GB wr) (by kernel_rfl) (by kernel_rfl) (GB.refl _) ?_
        repeat (go_big_quiet_step (exact cs.out _))
        refine wpQuiet_nil ?_
        intro w2 hG2
        clear hx cs
        go_wp2_with fail
        go_ret
        exact ⟨rfl, hb.trans (hG2.out.mono hb.size)⟩
end Go.Proofs.Ytaaiaehffoadfaa
