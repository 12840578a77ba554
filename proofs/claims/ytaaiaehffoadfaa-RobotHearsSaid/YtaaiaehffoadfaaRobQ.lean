/- Robots: RobotHears, the walk. -/
import Derived.Test.YtaaiaehffoadfaaRobN
set_option linter.unusedSimpArgs false
set_option linter.unusedVariables false
namespace Go.Proofs.Ytaaiaehffoadfaa
open Go.RowKit Go.IntWalk

/-- What a world holds while the law runs: the floor and the mind in their boxes, the acts. -/
structure Hw (w : World) (W H D : Int) (Ak Ao : Option Addr) (ck co : Nat) (kind out : List Int) (c : Int) (q : List Int) (Aq : Option Addr) (cq : Nat) (Ac : Option Addr) (acts : List Int) (wx : World) : Prop where
  hb : Below w.heap.size w wx
  bf : Blk wx w.heap.size 24 #[.int .i64 W, .int .i64 H, .int .i64 D, .slice Ak kind.length ck, .slice Ao out.length co]
  bm : Blk wx (w.heap.size + 1) 26 #[.int .i64 c, .slice Aq q.length cq]
  sq : SlR wx wx.heap.size Aq q
  sc : SlR wx wx.heap.size Ac acts
theorem Hw.step {w wx wy : World} {W H D : Int} {Ak Ao : Option Addr} {ck co : Nat} {kind out : List Int} {c : Int} {q : List Int} {Aq : Option Addr} {cq : Nat} {Ac : Option Addr} {acts : List Int} (h : Hw w W H D Ak Ao ck co kind out c q Aq cq Ac acts wx) (hB : Below wx.heap.size wx wy) : Hw w W H D Ak Ao ck co kind out c q Aq cq Ac acts wy :=
  ⟨h.hb.trans (hB.mono h.hb.size), h.bf.below hB h.bf.lt, h.bm.below hB h.bm.lt, (h.sq.below hB).more hB.size, (h.sc.below hB).more hB.size⟩

/-- What Hear returned lies in a box of its own. -/
def HrW (w0 : World) (r : Int × List Int) (n : Int) (s t : Value) (wx : World) : Prop :=
  ∃ b A c, s = .pointer (some ⟨b, 0, none⟩) ∧ t = .int .i64 n ∧ Below w0.heap.size w0 wx ∧ Blk wx b 26 #[.int .i64 r.1, .slice A r.2.length c] ∧ SlR wx wx.heap.size A r.2
theorem hrW_a {w0 wy w2 : World} {r : Int × List Int} {n : Int} {A : Option Addr} {c : Nat} (h0 : Below w0.heap.size w0 wy) (hB : Below wy.heap.size wy w2) (h3 : SlR w2 w2.heap.size A r.2) :
    HrW w0 r n (.pointer (some ⟨w2.heap.size, 0, none⟩)) (.int .i64 n) (w2.alloc (Obj.cells #[.int .i64 r.1, .slice A r.2.length c] 26)) := by
  have z0 := h0.size
  have z1 := hB.size
  exact ⟨w2.heap.size, A, c, rfl, rfl, (h0.trans (hB.mono z0)).alloc (by omega) _, Blk.new _ _ _, (h3.alloc (Nat.le_refl _) _).more (by simp)⟩
theorem hrW_b {w0 wy w2 : World} {r : Int × List Int} {n : Int} {A : Option Addr} {c g : Nat} (h0 : Below w0.heap.size w0 wy) (hB : Below wy.heap.size wy w2) (h3 : SlR w2 w2.heap.size A r.2) (hF : Fresh wy.heap.size A) (hg : w0.heap.size ≤ g) (bg : Blk wy g 26 #[.int .i64 0, .slice none 0 0]) :
    HrW w0 r n (.pointer (some ⟨g, 0, none⟩)) (.int .i64 n) ((w2.setCell ⟨g, 0, none⟩ (.int .i64 r.1)).setCell ⟨g, 1, none⟩ (.slice A r.2.length c)) := by
  have z0 := h0.size
  have z1 := hB.size
  have z2 := bg.lt
  have hne : ∀ a, A = some a → a.block ≠ g := fun a ha => by have := hF a ha; omega
  exact ⟨g, A, c, rfl, rfl, ((h0.trans (hB.mono z0)).setCell (by simp; omega) _).setCell (by simp; omega) _, by simpa using ((bg.below hB z2).set_ 0 (.int .i64 r.1)).set_ 1 (.slice A r.2.length c), ((h3.far (p := ⟨g, 0, none⟩) hne _).far (p := ⟨g, 1, none⟩) hne _).more (by simp)⟩
theorem retHear_get2 {w w' : World} {e : Ending} {c n : Int} {q : List Int} (h : RetHear w ((c, q), n) e w') : ∃ A cq, e = .returned (.tuple #[.agg #[.int .i64 c, .slice A q.length cq], .int .i64 n]) ∧ Fresh w.heap.size A ∧ SlR w' w'.heap.size A q ∧ Below w.heap.size w w' := by
  obtain ⟨A, cq, he, ho, _, _, h3, hB⟩ := h
  exact ⟨A, cq, he, ho.fresh_at, h3, hB⟩

set_option maxRecDepth 20000 in
set_option maxHeartbeats 4000000 in
theorem hears_any (W H D : Int) (Ak Ao : Option Addr) (ck co : Nat) (kind out : List Int) (c0 : Int) (Aq : Option Addr) (cq : Nat) (q : List Int) (Ac : Option Addr) (cc : Nat) (acts : List Int) (w : World) (hkl : kind.length ≤ maxLen) (hol : out.length ≤ maxLen) (hql : q.length ≤ maxLen) (hal : acts.length ≤ cc) (hcc : cc ≤ maxLen) (hk : SlR w w.heap.size Ak kind) (ho : SlR w w.heap.size Ao out) (hq : SlR w w.heap.size Aq q) (hc : SlR w w.heap.size Ac acts) :
    Calls Try.prog 4 #[.agg #[.int .i64 W, .int .i64 H, .int .i64 D, .slice Ak kind.length ck, .slice Ao out.length co], .agg #[.int .i64 c0, .slice Aq q.length cq], .slice Ac acts.length cc] w fun e w' => e = .returned (.bool true) ∧ Below w.heap.size w w' := by
  go_enter Try.func4, Try.ntmps4
  go_wp2_with fail
  refine (small_any _).mono ?_
  rintro e w1 ⟨rfl, hB⟩
  have hb0 : Below w.heap.size w ((w.alloc (Obj.cells #[.int .i64 W, .int .i64 H, .int .i64 D, .slice Ak kind.length ck, .slice Ao out.length co] 24)).alloc (Obj.cells #[.int .i64 c0, .slice Aq q.length cq] 26)) := by (repeat (first | exact Below.refl _ _ | assumption | refine below_drewN ?_ _ | refine Below.drew ?_ | refine Below.alloc ?_ (by (try simp); (try omega)) _ | refine Below.setCell ?_ (by (try simp); (try omega)) _))
  have R0 : Hid (Hw w W H D Ak Ao ck co kind out c0 q Aq cq Ac acts w1) := by
    have hb1 := hb0.trans (hB.mono (by simp; omega))
    refine ⟨hb1, ((Blk.new w _ _).alloc _).below hB (by simp; omega), ?_, (hq.below hb1).more hb1.size, (hc.below hb1).more hb1.size⟩
    have := (Blk.new (w.alloc (Obj.cells #[.int .i64 W, .int .i64 H, .int .i64 D, .slice Ak kind.length ck, .slice Ao out.length co] 24)) 26 #[.int .i64 c0, .slice Aq q.length cq]).below hB (by simp)
    simpa using this
  clear hB hb0 hq hc
  obtain ⟨x0, x1, x2, x3, x4⟩ := blk5 R0.out.bf; obtain ⟨m0, m1⟩ := blk2 R0.out.bm
  go_wp2_with fail
  refine (few_any W H D Ak Ao ck co kind out c0 Aq cq q _ hkl hol hql ((hk.below R0.out.hb).more R0.out.hb.size) ((ho.below R0.out.hb).more R0.out.hb.size)).mono ?_
  rintro e w2 ⟨rfl, hB⟩
  have R1 := hid (R0.out.step hB)
  clear hB R0
  clear x0 x1 x2 x3 x4 m0 m1
  cases hfew : fewL W H D kind out q with
  | false =>
    clear hfew
    go_wp2_with fail
    go_ret
    exact ⟨rfl, R1.out.hb⟩
  | true =>
  obtain ⟨hk40, ho40, hq10, hRF⟩ := fewL_iff.1 hfew
  clear hfew
  have HRF := hid hRF
  clear hRF
  by_cases h60 : (acts.length : Int) ≤ 10
  case neg =>
    have l1 : (10 : Int) < acts.length := by omega
    clear h60
    go_wp2_with fail
    go_ret
    exact ⟨rfl, R1.out.hb⟩
  obtain ⟨x0, x1, x2, x3, x4⟩ := blk5 R1.out.bf; obtain ⟨m0, m1⟩ := blk2 R1.out.bm
  go_wp2_with fail
  refine (right_any W H D Ak Ao ck co kind out c0 Aq cq q _ HRF.out ((hk.below R1.out.hb).more R1.out.hb.size) ((ho.below R1.out.hb).more R1.out.hb.size) R1.out.sq hql).mono ?_
  rintro e w3 ⟨rfl, hB⟩
  have R2 := hid (R1.out.step hB)
  clear hB R1
  clear x0 x1 x2 x3 x4 m0 m1
  cases hr : rightM W H D kind out c0 q with
  | false =>
    clear hr
    go_wp2_with fail
    go_ret
    exact ⟨rfl, R2.out.hb⟩
  | true =>
  have HS := hid (St.first hr)
  clear hr
  obtain ⟨x0, x1, x2, x3, x4⟩ := blk5 R2.out.bf; obtain ⟨m0, m1⟩ := blk2 R2.out.bm
  go_wp2_with fail
  refine (hear_any W H D Ak Ao ck co kind out c0 Aq cq q Ac cc acts _ HRF.out (by omega) (by omega) ((hk.below R2.out.hb).more R2.out.hb.size) ((ho.below R2.out.hb).more R2.out.hb.size) R2.out.sq R2.out.sc).mono ?_
  cases hra : rightM W H D kind out c0 acts with
  | false =>
    obtain ⟨n, hn, hn0⟩ := hearL_no (q := q) hra
    have e0 : (n != 0) = true := by simp [hn0]
    rw [hn]
    clear hn hn0 hra
    rintro e w4 hRH
    obtain ⟨A8, c8, rfl, _, s8, hB⟩ := retHear_get2 hRH
    have hB4 := hB.alloc hB.size (Obj.cells #[.int .i64 c0, .slice A8 q.length c8] 26)
    have R3 := hid (R2.out.step hB4)
    have b8 := hid (Blk.new w4 26 #[.int .i64 c0, .slice A8 q.length c8])
    have s8' : SlR (w4.alloc (Obj.cells #[.int .i64 c0, .slice A8 q.length c8] 26)) (w4.alloc (Obj.cells #[.int .i64 c0, .slice A8 q.length c8] 26)).heap.size A8 q := (s8.alloc (Nat.le_refl _) _).more (by simp)
    clear R2 hB hB4 s8 hRH
    clear x0 x1 x2 x3 x4 m0 m1
    obtain ⟨x0, x1, x2, x3, x4⟩ := blk5 R3.out.bf; obtain ⟨m0, m1⟩ := blk2 R3.out.bm; obtain ⟨n00, n01⟩ := blk2 b8.out
    go_wp2_with fail
    refine (sameM_any c0 c0 A8 Aq c8 cq q q _ hql hql s8' R3.out.sq).mono ?_
    rw [show sameM c0 c0 q q = true by simp [sameM]]
    rintro e w5 ⟨rfl, hB⟩
    have R4 := hid (R3.out.step hB)
    clear hB R3
    go_wp2_with fail
    go_ret
    exact ⟨rfl, R4.out.hb⟩
  | true =>
    rw [hearL_ok hra]
    obtain ⟨wy, hwy, hSt⟩ := St.first hra
    have Hra := hid hra
    have HSt := hid hSt
    have Hwy := hid hwy
    clear hra hSt hwy
    rintro e w4 hRH
    obtain ⟨A8, c8, rfl, _, s8, hB⟩ := retHear_get2 hRH
    have hB4 := hB.alloc hB.size (Obj.cells #[.int .i64 c0, .slice A8 acts.length c8] 26)
    have R3 := hid (R2.out.step hB4)
    have b8 := hid (Blk.new w4 26 #[.int .i64 c0, .slice A8 acts.length c8])
    have s8' : SlR (w4.alloc (Obj.cells #[.int .i64 c0, .slice A8 acts.length c8] 26)) (w4.alloc (Obj.cells #[.int .i64 c0, .slice A8 acts.length c8] 26)).heap.size A8 acts := (s8.alloc (Nat.le_refl _) _).more (by simp)
    clear R2 hB hB4 s8 hRH
    clear x0 x1 x2 x3 x4 m0 m1
    obtain ⟨x0, x1, x2, x3, x4⟩ := blk5 R3.out.bf; obtain ⟨m0, m1⟩ := blk2 R3.out.bm; obtain ⟨n00, n01⟩ := blk2 b8.out
    have hkn := hid HSt.out.known
    have hcI : Hid (I64 c0) := by have := HSt.out.cell; unfold I64 Hid; omega
    have ha4 := HSt.out.len
    go_wp2_with fail
    refine (wayF_any W H D Ak Ao ck co kind out c0 A8 c8 acts wy _ HRF.out ((hk.below R3.out.hb).more R3.out.hb.size) ((ho.below R3.out.hb).more R3.out.hb.size) s8' (by omega) hkn.out hcI.out Hwy.out).mono ?_
    rintro e w5 ⟨_, rfl, A10, c10, rfl, hy8, hc8, s10, _, hB⟩
    have hy : (wy.length : Int) ≤ 9223372036854775807 := by unfold maxLen at hc8; omega
    have hwl := HSt.out.lt
    have hat := HSt.out.at
    have l2 : ((wy.length : Int) == 0) = false := by simp; intro h; subst h; simp at hwl
    have l3 : (0 : Int) < wy.length := by omega
    obtain ⟨y1, o1, rfl⟩ : ∃ b o, A10 = some ⟨b, o, none⟩ := by
      obtain ⟨b, o, h, _⟩ := s10.int (k := 0) hwl
      exact ⟨b, o, h⟩
    have Hat := hid hat
    have Hwl := hid hwl
    clear hat hwl
    have R4 := hid (R3.out.step hB)
    have b8' := hid (b8.out.below hB b8.out.lt)
    have s8 := (s8'.below hB).more hB.size
    clear R3 hB b8 s8' hc8
    clear x0 x1 x2 x3 x4 m0 m1 n00 n01
    obtain ⟨x0, x1, x2, x3, x4⟩ := blk5 R4.out.bf; obtain ⟨m0, m1⟩ := blk2 R4.out.bm; obtain ⟨n00, n01⟩ := blk2 b8'.out
    go_wp2_with fail
    refine (sameI_any A8 Ac c8 cc acts acts _ (by unfold maxLen; omega) (by unfold maxLen; omega) s8 R4.out.sc).mono ?_
    rw [show decide (acts = acts) = true by simp]
    rintro e w6 ⟨rfl, hB⟩
    have R5 := hid (R4.out.step hB)
    have b8 := hid (b8'.out.below hB b8'.out.lt)
    have s8' := (s8.below hB).more hB.size
    have s10' := (s10.below hB).more hB.size
    clear R4 hB b8' s8 s10
    clear x0 x1 x2 x3 x4 m0 m1 n00 n01
    obtain ⟨x0, x1, x2, x3, x4⟩ := blk5 R5.out.bf; obtain ⟨m0, m1⟩ := blk2 R5.out.bm; obtain ⟨n00, n01⟩ := blk2 b8.out
    go_wp2_with fail
    refine (right_any W H D Ak Ao ck co kind out c0 A8 c8 acts _ HRF.out ((hk.below R5.out.hb).more R5.out.hb.size) ((ho.below R5.out.hb).more R5.out.hb.size) s8' (by unfold maxLen; omega)).mono ?_
    rw [Hra.out]
    rintro e w7 ⟨rfl, hB⟩
    have R6 := hid (R5.out.step hB)
    have b8' := hid (b8.out.below hB b8.out.lt)
    have s8 := (s8'.below hB).more hB.size
    have s10 := (s10'.below hB).more hB.size
    clear R5 hB b8 s8' s10'
    clear x0 x1 x2 x3 x4 m0 m1 n00 n01
    obtain ⟨x0, x1, x2, x3, x4⟩ := blk5 R6.out.bf; obtain ⟨m0, m1⟩ := blk2 R6.out.bm; obtain ⟨n00, n01⟩ := blk2 b8'.out
    go_upto_region 10 with fail
    have g8 := s10.int_at Hwl.out
    rw [Hat.out, Nat.add_zero] at g8
    have l4 : 0 < wy.length := Hwl.out
    go_quiet (fail)
    rename_i nq
    have hd : Below w7.heap.size w7 (w7.drewN nq) := by (repeat (first | exact Below.refl _ _ | assumption | refine below_drewN ?_ _ | refine Below.drew ?_ | refine Below.alloc ?_ (by (try simp); (try omega)) _ | refine Below.setCell ?_ (by (try simp); (try omega)) _))
    have R7 := hid (R6.out.step hd)
    have b8 := hid (b8'.out.below hd b8'.out.lt)
    have s8' := (s8.below hd).more hd.size
    have s10' := (s10.below hd).more hd.size
    have hz7 : w7.heap.size = (w7.drewN nq).heap.size := rfl
    clear R6 b8' s8 s10 g8 hd hz7
    generalize w7.drewN nq = w8 at *
    clear x0 x1 x2 x3 x4 m0 m1 n00 n01
    obtain ⟨x0, x1, x2, x3, x4⟩ := blk5 R7.out.bf; obtain ⟨m0, m1⟩ := blk2 R7.out.bm; obtain ⟨n00, n01⟩ := blk2 b8.out
    go_wp2_with fail
    refine (hear_any W H D Ak Ao ck co kind out c0 A8 c8 acts none 0 [] _ HRF.out (by omega) (by simp) ((hk.below R7.out.hb).more R7.out.hb.size) ((ho.below R7.out.hb).more R7.out.hb.size) s8' SlR.nil).mono ?_
    rw [hearL_ok (by simpa using rightM_take Hra.out 0)]
    rintro e w9 hRH
    obtain ⟨A11, c11, rfl, _, s11, hB⟩ := retHear_get2 hRH
    simp only [List.length_nil]
    have hB9 := hB.alloc hB.size (Obj.cells #[.int .i64 c0, .slice A11 0 c11] 26)
    have R8 := hid (R7.out.step hB9)
    have b8' := hid (b8.out.below hB9 b8.out.lt)
    have b11 := hid (Blk.new w9 26 #[.int .i64 c0, .slice A11 0 c11])
    have s8 := (s8'.below hB9).more hB9.size
    have s10 := (s10'.below hB9).more hB9.size
    clear R7 hB hB9 b8 s8' s10' hRH s11
    clear x0 x1 x2 x3 x4 m0 m1 n00 n01
    obtain ⟨x0, x1, x2, x3, x4⟩ := blk5 R8.out.bf; obtain ⟨m0, m1⟩ := blk2 R8.out.bm; obtain ⟨n00, n01⟩ := blk2 b8'.out
    go_upto_region 13 with fail
    generalize (w9.alloc (Obj.cells #[.int .i64 c0, .slice A11 0 c11] 26)) = wz at *
    obtain ⟨nh, hnh⟩ : ∃ n, n = acts.length / 2 := ⟨_, rfl⟩
    obtain ⟨tk, htk⟩ : ∃ l, l = acts.take nh := ⟨_, rfl⟩
    have hq2 : (acts.length : Int).tdiv 2 = (nh : Int) := by rw [hnh]; rfl
    have hq3 : (acts.length : Int) / 2 = (nh : Int) := by omega
    have hq4 : (nh : Int) ≤ cc := by omega
    have hwr : IntKind.i64.wrap (nh : Int) = nh := by rw [IntKind.wrap_i64]; omega
    have hadd : ∀ x : Addr, x.add 0 = x := by intro x; simp [Addr.add]
    obtain ⟨wh, hwh, hpre⟩ := wayL_take nh Hwy.out
    have CH : Hid (∀ W', Below wz.heap.size wz W' → Calls Try.prog 12 #[.agg #[.int .i64 W, .int .i64 H, .int .i64 D, .slice Ak kind.length ck, .slice Ao out.length co], .agg #[.int .i64 c0, .slice A8 acts.length c8], .slice Ac nh cc] W' (RetHear W' ((c0, tk), 0))) := by
      intro W' hB
      have hS := R8.out.step hB
      have h1 := hear_any W H D Ak Ao ck co kind out c0 A8 c8 acts Ac cc tk W' HRF.out (by omega) (by rw [htk]; simp; omega) ((hk.below hS.hb).more hS.hb.size) ((ho.below hS.hb).more hS.hb.size) ((s8.below hB).more hB.size) (by rw [htk]; exact hS.sc.take nh)
      rw [hearL_ok (by rw [htk]; exact rightM_take Hra.out nh)] at h1
      have h2 : tk.length = nh := by rw [htk]; simp; omega
      rw [h2] at h1
      exact h1
    have Htk := hid (show rightM W H D kind out c0 tk = true by rw [htk]; exact rightM_take Hra.out nh)
    have Hwh := hid (show wayL (nextL W H D kind out) c0 tk = some wh by rw [htk]; exact hwh)
    have Hpre := hid hpre
    have hz1 := R8.out.bf.lt
    have hz2 := b8'.out.lt
    clear hpre hwh htk hnh
    go_cut [13, 14] (fun s t wx => HrW wz (c0, tk) 0 s t wx)
    case first =>
      clear m0 m1 R8 hk ho
      have hc0 : cc = 0 ∨ ¬ cc = 0 := by omega
      rcases hc0 with rfl | hc0
      · obtain rfl : nh = 0 := by omega
        obtain rfl : acts = [] := List.eq_nil_of_length_eq_zero (by omega)
        simp only [List.length_nil] at *
        clear hq2 hq3 hq4 hwr hal ha4 h60
        have hw0 : IntKind.i64.wrap 0 = 0 := by decide
        go_region_held3 (fun w' => w'.cell? ⟨w.heap.size, 0, none⟩ = some (.int .i64 W) ∧ w'.cell? ⟨w.heap.size, 1, none⟩ = some (.int .i64 H) ∧ w'.cell? ⟨w.heap.size, 2, none⟩ = some (.int .i64 D) ∧ w'.cell? ⟨w.heap.size, 3, none⟩ = some (.slice Ak kind.length ck) ∧ w'.cell? ⟨w.heap.size, 4, none⟩ = some (.slice Ao out.length co) ∧ w'.cell? ⟨w4.heap.size, 0, none⟩ = some (.int .i64 c0) ∧ w'.cell? ⟨w4.heap.size, 1, none⟩ = some (.slice A8 0 c8))
          (first | go_keep | (go_split_ands; refine ⟨?_, ?_, ?_, ?_, ?_, ?_, ?_⟩ <;> (rw [World.cell?_setCell_far _ _ _ _ (by (try simp); (try omega)), World.cell?_setCell_far _ _ _ _ (by (try simp); (try omega))]; assumption)))
          (first
          | (go_at_call 12; refine (CH.out _ (by (repeat (first | exact Below.refl _ _ | assumption | refine below_drewN ?_ _ | refine Below.drew ?_ | refine Below.alloc ?_ (by (try simp); (try omega)) _ | refine Below.setCell ?_ (by (try simp); (try omega)) _)))).mono ?_; rintro e w6 hRH; obtain ⟨A13, c13, rfl, F13, s13, hB⟩ := retHear_get2 hRH; clear hRH; have s0 := bcell hB w.heap.size 0 (by (try simp); (try omega)); have s1 := bcell hB w.heap.size 1 (by (try simp); (try omega)); have s2 := bcell hB w.heap.size 2 (by (try simp); (try omega)); have s3 := bcell hB w.heap.size 3 (by (try simp); (try omega)); have s4 := bcell hB w.heap.size 4 (by (try simp); (try omega)); have s5 := bcell hB w4.heap.size 0 (by (try simp); (try omega)); have s6 := bcell hB w4.heap.size 1 (by (try simp); (try omega)); simp [go_sem] at s0 s1 s2 s3 s4 s5 s6; have z0 := hB.size; (try simp [go_sem] at z0); (try have z1 := Nat.lt_of_succ_le z0); have f0 := bfrozen hB (wz.heap.size) 0; (try simp [go_sem] at f0); have r0 := bcell hB (wz.heap.size) 0; (try simp [go_sem] at r0); have f1 := bfrozen hB (wz.heap.size) 1; (try simp [go_sem] at f1); have r1 := bcell hB (wz.heap.size) 1; (try simp [go_sem] at r1)))
        all_goals
          go_wp2_with fail
          go_meet
          first
            | (refine hrW_a (r := (c0, tk)) ?_ hB s13
               · ((repeat (first | exact Below.refl _ _ | assumption | refine below_drewN ?_ _ | refine Below.drew ?_ | refine Below.alloc ?_ (by (try simp); (try omega)) _ | refine Below.setCell ?_ (by (try simp); (try omega)) _))))
            | (refine hrW_b (r := (c0, tk)) ?_ hB s13 F13 (Nat.le_refl _) ?_
               · ((repeat (first | exact Below.refl _ _ | assumption | refine below_drewN ?_ _ | refine Below.drew ?_ | refine Below.alloc ?_ (by (try simp); (try omega)) _ | refine Below.setCell ?_ (by (try simp); (try omega)) _)))
               · exact Blk.new_at (by simp))
      · go_region_held3 (fun w' => w'.cell? ⟨w.heap.size, 0, none⟩ = some (.int .i64 W) ∧ w'.cell? ⟨w.heap.size, 1, none⟩ = some (.int .i64 H) ∧ w'.cell? ⟨w.heap.size, 2, none⟩ = some (.int .i64 D) ∧ w'.cell? ⟨w.heap.size, 3, none⟩ = some (.slice Ak kind.length ck) ∧ w'.cell? ⟨w.heap.size, 4, none⟩ = some (.slice Ao out.length co) ∧ w'.cell? ⟨w4.heap.size, 0, none⟩ = some (.int .i64 c0) ∧ w'.cell? ⟨w4.heap.size, 1, none⟩ = some (.slice A8 acts.length c8))
          (first | go_keep | (go_split_ands; refine ⟨?_, ?_, ?_, ?_, ?_, ?_, ?_⟩ <;> (rw [World.cell?_setCell_far _ _ _ _ (by (try simp); (try omega)), World.cell?_setCell_far _ _ _ _ (by (try simp); (try omega))]; assumption)))
          (first
          | (go_at_call 12; refine (CH.out _ (by (repeat (first | exact Below.refl _ _ | assumption | refine below_drewN ?_ _ | refine Below.drew ?_ | refine Below.alloc ?_ (by (try simp); (try omega)) _ | refine Below.setCell ?_ (by (try simp); (try omega)) _)))).mono ?_; rintro e w6 hRH; obtain ⟨A13, c13, rfl, F13, s13, hB⟩ := retHear_get2 hRH; clear hRH; have s0 := bcell hB w.heap.size 0 (by (try simp); (try omega)); have s1 := bcell hB w.heap.size 1 (by (try simp); (try omega)); have s2 := bcell hB w.heap.size 2 (by (try simp); (try omega)); have s3 := bcell hB w.heap.size 3 (by (try simp); (try omega)); have s4 := bcell hB w.heap.size 4 (by (try simp); (try omega)); have s5 := bcell hB w4.heap.size 0 (by (try simp); (try omega)); have s6 := bcell hB w4.heap.size 1 (by (try simp); (try omega)); simp [go_sem] at s0 s1 s2 s3 s4 s5 s6; have z0 := hB.size; (try simp [go_sem] at z0); (try have z1 := Nat.lt_of_succ_le z0); have f0 := bfrozen hB (wz.heap.size) 0; (try simp [go_sem] at f0); have r0 := bcell hB (wz.heap.size) 0; (try simp [go_sem] at r0); have f1 := bfrozen hB (wz.heap.size) 1; (try simp [go_sem] at f1); have r1 := bcell hB (wz.heap.size) 1; (try simp [go_sem] at r1)))
        all_goals
          go_wp2_with fail
          go_meet
          first
            | (refine hrW_a (r := (c0, tk)) ?_ hB s13
               · ((repeat (first | exact Below.refl _ _ | assumption | refine below_drewN ?_ _ | refine Below.drew ?_ | refine Below.alloc ?_ (by (try simp); (try omega)) _ | refine Below.setCell ?_ (by (try simp); (try omega)) _))))
            | (refine hrW_b (r := (c0, tk)) ?_ hB s13 F13 (Nat.le_refl _) ?_
               · ((repeat (first | exact Below.refl _ _ | assumption | refine below_drewN ?_ _ | refine Below.drew ?_ | refine Below.alloc ?_ (by (try simp); (try omega)) _ | refine Below.setCell ?_ (by (try simp); (try omega)) _)))
               · exact Blk.new_at (by simp))
    case rest =>
      obtain ⟨b13, A13, c13, rfl, rfl, hB, bb13, s13⟩ := hcut
      simp only at bb13 s13
      have R9 := hid (R8.out.step hB)
      have b11' := hid (b11.out.below hB b11.out.lt)
      have b13' := hid bb13
      have s10' := (s10.below hB).more hB.size
      clear R8 b8' b11 bb13 s8 s10 hB CH hz1 hz2 hadd hq2 hq3 hq4 hwr
      clear x0 x1 x2 x3 x4 m0 m1 n00 n01
      obtain ⟨x0, x1, x2, x3, x4⟩ := blk5 R9.out.bf; obtain ⟨m0, m1⟩ := blk2 R9.out.bm; obtain ⟨n00, n01⟩ := blk2 b11'.out; obtain ⟨n10, n11⟩ := blk2 b13'.out
      go_wp2_with fail
      refine (nextM_any c0 A11 c11 [] _ (by simp) SlR.nil).mono ?_
      simp only [List.headD_nil]
      rintro e wa ⟨rfl, hB⟩
      have R8 := hid (R9.out.step hB)
      have b13 := hid (b13'.out.below hB b13'.out.lt)
      have s13' := (s13.below hB).more hB.size
      have s10 := (s10'.below hB).more hB.size
      clear R9 b11' b13' s13 s10' hB
      clear x0 x1 x2 x3 x4 m0 m1 n00 n01 n10 n11
      obtain ⟨x0, x1, x2, x3, x4⟩ := blk5 R8.out.bf; obtain ⟨m0, m1⟩ := blk2 R8.out.bm; obtain ⟨n00, n01⟩ := blk2 b13.out
      have hkt := hid (knownL_iff.1 (rightM_iff.1 Htk.out).2.2.2.1)
      have hlt4 := (rightM_iff.1 Htk.out).2.2.1
      go_wp2_with fail
      refine (wayF_any W H D Ak Ao ck co kind out c0 A13 c13 tk wh _ HRF.out ((hk.below R8.out.hb).more R8.out.hb.size) ((ho.below R8.out.hb).more R8.out.hb.size) s13' (by omega) hkt.out hcI.out Hwh.out).mono ?_
      rintro e wb ⟨_, rfl, A15, c15, rfl, hy15, hc15, s15, _, hB⟩
      have R9 := hid (R8.out.step hB)
      have s10' := (s10.below hB).more hB.size
      clear R8 b13 s13' s10 hB
      clear x0 x1 x2 x3 x4 m0 m1 n00 n01
      have hwl1 : (wh.length : Int) ≤ wy.length := by have := Hpre.out.length_le; omega
      have hadd : ∀ x : Addr, x.add 0 = x := by intro x; simp [Addr.add]
      have hc10 : ¬ c10 = 0 := by have := Hwl.out; omega
      have hw10 : (wh.length : Int) ≤ c10 := by omega
      have CS : Hid (Calls Try.prog 14 #[.slice A15 wh.length c15, .slice (some ⟨y1, o1, none⟩) wh.length c10] wb fun e w' => e = .returned (.bool true) ∧ Below wb.heap.size wb w') := by
        have h1 := sameI_any A15 (some ⟨y1, o1, none⟩) c15 c10 wh (wy.take wh.length) wb (by unfold maxLen; omega) (by unfold maxLen; simp; omega) s15 (s10'.take _)
        have h2 : (wy.take wh.length).length = wh.length := by simp; omega
        rw [h2, decide_eq_true (List.prefix_iff_eq_take.1 Hpre.out)] at h1
        exact h1
      clear hy15 hc15
      go_wp2_with fail
      refine CS.out.mono ?_
      rintro e wc ⟨rfl, hB⟩
      have R8 := hid (R9.out.step hB)
      go_wp2_with fail
      go_ret
      exact ⟨rfl, R8.out.hb⟩
end Go.Proofs.Ytaaiaehffoadfaa
