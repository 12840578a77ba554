
/- Seam: an act, and what is kept. -/
import Derived.Test.YtfofmbmmighdiaaDoorSeamNi
import Derived.Test.YtfofmbmmighdiaaDoorSeamKg
import Derived.Deep.DeepCutAuto
set_option linter.unusedSimpArgs false
set_option linter.unusedVariables false
namespace Go.Proofs.YtfofmbmmighdiaaDoor
open Go.RowKit Go.IntWalk

/-- Behind a pair: two desks and a network whose packets' slice is vn. -/
def PairV (w0 : World) (px : Nat) (vn : Value) (ra rb : List Rob) (F : List Pk) (sp : Int) (wx : World) : Prop := ∃ gd nn na nb xa xb xn va vb, Pr w0 px gd nn na nb xa xb xn va vb vn ra rb F sp wx
def ActK (w0 : World) (px : Nat) (M : Int) (n : Nat) (ra rb : List Rob) (vn : Value) (wx : World) (e : Ending) (w' : World) : Prop :=
  e = .returned (.bool true) ∧ ∃ ra' rb' F' sp' vn', PairV w0 px vn' ra' rb' F' sp' w' ∧ Nxt M n ra rb ra' rb' F' sp' ∧ Keep wx vn w' vn'
theorem Keep.desk {w w' : World} {v : Value} {g : Nat} {t : TypeId} {cs : Array Value} (hb : Blk w g t cs) (ht : t ≠ 76) (hg : w.grownBy w' (some g)) : Keep w v w' v := by
  intro xs vs S a b
  refine ⟨(Chg.of_grown hg (S := fun k => k = g) (fun k e => by injection e)).row a (fun j hj e => ?_), b⟩
  subst e
  exact own_blk_ne a hb (fun e => ht e.symm) hj
theorem hearL_zeroK {x x' : List Rob} {m a : Pas} {t : Bool} {en : Int} (h : hearL x m t = (x', a, false, en)) : a = (0, 0, 0) := by
  unfold hearL at h
  split at h
  · simp only [Prod.mk.injEq] at h; exact h.2.1.symm
  · split at h
    · simp only [Prod.mk.injEq] at h
      obtain ⟨_, h2, h3, _⟩ := h
      have h3 : ¬ (0 ≤ (offeredL (getR x m.2.1) m.2.2 t).2.1) := by simpa using h3
      rw [if_pos (by omega)] at h2
      exact h2.symm
    · split at h
      · simp only [Prod.mk.injEq] at h; exact h.2.1.symm
      · split at h
        · simp only [Prod.mk.injEq] at h; exact h.2.1.symm
        · simp only [Prod.mk.injEq] at h; exact h.2.1.symm
set_option maxRecDepth 100000 in
set_option maxHeartbeats 1000000 in
/-- What an arrival leaves, in any case. -/
theorem arrive_relK {M : Int} {n : Nat} {w0 wx : World} {px gd nn na nb xa xb xn : Nat} {va vb vn : Value} {ra rb : List Rob} {F : List Pk} {sp : Int} (hM0 : 0 ≤ M) (hM1 : M ≤ 1000) (hn : n ≤ 100) (he : Env w0) (h : Pr w0 px gd nn na nb xa xb xn va vb vn ra rb F sp wx) (hI : Inv M n ra rb F sp) (i : Int) (take : Bool) :
    Calls Tryd.prog 37 #[.pointer (some ⟨px, 0, none⟩), .int .i64 i, .bool take] wx (ActK w0 px M n ra rb vn wx) := by
  have hE : ∀ p ∈ F, Ends p.1 p.2.1 := fun p hp => (hI.f p hp).ends
  by_cases hi : ¬ (0 ≤ i ∧ i < F.length) ∨ sp = 1
  · refine (parriveK_none h hI.s hI.l hE i hi take _ rfl).mono ?_
    rintro e w' ⟨rfl, vn', P', K'⟩
    exact ⟨rfl, ra, rb, _, sp, vn', ⟨_, _, _, _, _, _, _, _, _, P'⟩, (nxt_same hI).less (fun p hp => dropN_mem hp) (dropN_len hI.l) hI.s, K'⟩
  · have hsp : sp = 0 := by have := hI.s; omega
    subst hsp
    obtain ⟨k, rfl⟩ : ∃ k : Nat, i = k := ⟨i.toNat, by omega⟩
    have hk : k < F.length := by omega
    obtain ⟨⟨pk, pi, pn⟩, hb, hto⟩ := hI.f _ (List.getElem_mem hk)
    have hdl : ∀ p ∈ F.eraseIdx k, p ∈ F := fun p hp => List.mem_of_mem_eraseIdx hp
    have hdn : (F.eraseIdx k).length ≤ 500 := by rw [List.length_eraseIdx_of_lt hk]; have := hI.l; omega
    rcases hto with ⟨e1, e2, ht⟩ | ⟨e1, e2, ht⟩
    · have hp : F[k] = (1, 0, bs (encP (pk, pi, pn))) := by rw [← hb, ← e1, ← e2]
      obtain ⟨i1, i2, i3⟩ := ht.i64 hM0 (by omega) (by omega) hI.t
      obtain ⟨s1, s2, s3⟩ := side_hear hM0 hI.t ht take
      have s2' : Stp (M + 1) ra rb (hearL ra (pk, pi, pn) take).1 n := ⟨s2.len, fun r hr => (s2.ok r hr).mono (by omega), s2.sh, s2.tx, s2.fy⟩
      generalize hq : hearL ra (pk, pi, pn) take = q at s1 s2 s2' s3
      obtain ⟨ra', ⟨aa, ab, ac⟩, is, en⟩ := q
      simp only at s1 s2 s2' s3
      subst s1
      have N0 := (nxt_a hI s2').less hdl hdn (.inl rfl)
      have hI64 : I64 aa ∧ I64 ab ∧ I64 ac := by
        cases is with
        | true => exact (s3 rfl).i64 hM0 (by omega) (by omega) (s2.two hI.t (Int.le_refl _)).symm
        | false =>
          have := hearL_zeroK hq
          simp only [Prod.mk.injEq] at this
          obtain ⟨rfl, rfl, rfl⟩ := this
          simp [I64]
      refine (parriveK_0 h hI.l hE he k hk pk pi pn i1 i2 i3 hp take _ rfl ra' aa ab ac is hI64.1 hI64.2.1 hI64.2.2 hq).mono ?_
      rintro e w' ⟨rfl, vn', P', K'⟩
      refine ⟨rfl, ra', rb, _, 0, vn', ⟨_, _, _, _, _, _, _, _, _, P'⟩, ?_, K'⟩
      cases is with
      | true => exact N0.send (pk_ab (s3 rfl))
      | false => exact N0
    · have hp : F[k] = (0, 1, bs (encP (pk, pi, pn))) := by rw [← hb, ← e1, ← e2]
      obtain ⟨i1, i2, i3⟩ := ht.i64 hM0 (by omega) (by omega) hI.t.symm
      obtain ⟨s1, s2, s3⟩ := side_hear hM0 hI.t.symm ht take
      have s2' : Stp (M + 1) rb ra (hearL rb (pk, pi, pn) take).1 n := ⟨s2.len, fun r hr => (s2.ok r hr).mono (by omega), s2.sh, s2.tx, s2.fy⟩
      generalize hq : hearL rb (pk, pi, pn) take = q at s1 s2 s2' s3
      obtain ⟨rb', ⟨aa, ab, ac⟩, is, en⟩ := q
      simp only at s1 s2 s2' s3
      subst s1
      have N0 := (nxt_b hI s2').less hdl hdn (.inl rfl)
      have hI64 : I64 aa ∧ I64 ab ∧ I64 ac := by
        cases is with
        | true => exact (s3 rfl).i64 hM0 (by omega) (by omega) (s2.two hI.t.symm (Int.le_refl _)).symm
        | false =>
          have := hearL_zeroK hq
          simp only [Prod.mk.injEq] at this
          obtain ⟨rfl, rfl, rfl⟩ := this
          simp [I64]
      refine (parriveK_1 h hI.l hE he k hk pk pi pn i1 i2 i3 hp take _ rfl rb' aa ab ac is hI64.1 hI64.2.1 hI64.2.2 hq).mono ?_
      rintro e w' ⟨rfl, vn', P', K'⟩
      refine ⟨rfl, ra, rb', _, 0, vn', ⟨_, _, _, _, _, _, _, _, _, P'⟩, ?_, K'⟩
      cases is with
      | true => exact N0.send (pk_ba (s3 rfl))
      | false => exact N0
set_option maxRecDepth 100000 in
set_option maxHeartbeats 8000000 in
theorem actK_0 {M : Int} {n : Nat} {w0 wx : World} {px : Nat} {vn : Value} {ra rb : List Rob} {F : List Pk} {sp : Int} (hM0 : 0 ≤ M) (hM1 : M ≤ 1000) (hn : n ≤ 100) (hn1 : 1 ≤ n) (he : Env w0) (hP : PairV w0 px vn ra rb F sp wx) (hI : Inv M n ra rb F sp) (dd ww rr ii : Int) (hw : bits .and .i64 ww 1 = 0) :
    Calls Tryd.prog 32 #[.pointer (some ⟨px, 0, none⟩), .agg #[.int .i64 dd, .int .i64 ww, .int .i64 rr, .int .i64 ii]] wx (ActK w0 px M n ra rb vn wx) := by
  obtain ⟨gd, nn, na, nb, xa, xb, xn, va, vb, h⟩ := hP
  have HI := hid hI
  have P1 := hid (h.alloc (Obj.cells #[.int .i64 dd, .int .i64 ww, .int .i64 rr, .int .i64 ii] 62))
  have A1 := hid (Blk.new wx 62 #[.int .i64 dd, .int .i64 ww, .int .i64 rr, .int .i64 ii])
  have K1 := hid (Keep.below (v := vn) (show Below wx.heap.size wx (wx.alloc (Obj.cells #[.int .i64 dd, .int .i64 ww, .int .i64 rr, .int .i64 ii] 62)) by (repeat (first | exact Below.refl _ _ | assumption | refine below_drewN ?_ _ | refine Below.drew ?_ | refine Below.alloc ?_ (by (try simp); (try omega)) _ | refine Below.setCell ?_ (by (try simp); (try omega)) _))))
  have hlr := hid (show ra.length ≤ 1000 by rw [hI.t.lx]; omega)
  have hR := modI_in (n := rr) (m := ra.length) (by rw [hI.t.lx]; omega)
  rw [hI.t.lx] at hR
  have HRR := hid hR
  have hla := hid hI.t.lx
  clear h hI hR
  go_enter Tryd.func32, Tryd.ntmps32
  go_upto_region 2 with fail
  generalize hw2 : wx.alloc (Obj.cells #[.int .i64 dd, .int .i64 ww, .int .i64 rr, .int .i64 ii] 62) = w2 at P1 A1 K1 ⊢
  clear hw2
  generalize wx.heap.size = ga at A1 ⊢
  obtain ⟨p0, p1, e0, e1⟩ := P1.out.c
  have zp := P1.out.bp.lt; have zd := P1.out.bd.lt
  have q0 := A1.out.cell 0; have q1 := A1.out.cell 1; have q2 := A1.out.cell 2; have q3 := A1.out.cell 3; have zq := A1.out.lt
  simp at q0 q1 q2 q3
  have hx := fun x : Ext (GB w2) => GB.cell x
  have ca := hid fun x : Ext (GB w2) => GB.call (x := x) ((robots_any (P1.out.step x.h.out).da).mono fun _ _ h => ⟨h.1, h.2 ▸ Below.refl _ _⟩)
  have cb := hid fun x : Ext (GB w2) => GB.call (x := x) ((mod_any rr ra.length (by have := hlr.out; omega) x.w).mono fun _ _ h => ⟨h.1, h.2 ▸ Below.refl _ _⟩)
  refine wp_region_ext (GB w2) (by kernel_rfl) (by kernel_rfl) (GB.refl _) ?_
  repeat (go_big_quiet_step (first | with_reducible exact ca.out _ | with_reducible exact cb.out _))
  refine wpQuiet_nil ?_
  intro w3 hG
  have P3 := hid (P1.out.step hG.out)
  have A3 := hid (A1.out.below hG.out A1.out.lt)
  have K3 := hid (K1.out.trans (Keep.below hG.out))
  clear hx ca cb hG P1 A1 K1
  clear p0 p1 e0 e1 zp zd q0 q1 q2 q3 zq
  have HRa := hid (show 0 ≤ modI rr ra.length ∧ modI rr ra.length < n by rw [hla.out]; exact HRR.out)
  generalize modI rr ra.length = R at *
  go_upto_region 3 with fail
  obtain ⟨p0, p1, e0, e1⟩ := P3.out.c
  have zp := P3.out.bp.lt; have zd := P3.out.bd.lt
  have q0 := A3.out.cell 0; have q1 := A3.out.cell 1; have q2 := A3.out.cell 2; have q3 := A3.out.cell 3; have zq := A3.out.lt
  simp at q0 q1 q2 q3
  have hx := fun x : Ext (GB w3) => GB.cell x
  have ca := hid fun x : Ext (GB w3) => GB.call (x := x) ((count_any (P3.out.step x.h.out).nt).mono fun _ _ h => ⟨h.1, h.2 ▸ Below.refl _ _⟩)
  have cb := hid fun x : Ext (GB w3) => GB.call (x := x) ((mod_any ii F.length (by have := HI.out.l; omega) x.w).mono fun _ _ h => ⟨h.1, h.2 ▸ Below.refl _ _⟩)
  refine wp_region_ext (GB w3) (by kernel_rfl) (by kernel_rfl) (GB.refl _) ?_
  repeat (go_big_quiet_step (first | with_reducible exact ca.out _ | with_reducible exact cb.out _))
  refine wpQuiet_nil ?_
  intro w4 hG
  have P4 := hid (P3.out.step hG.out)
  have A4 := hid (A3.out.below hG.out A3.out.lt)
  have K4 := hid (K3.out.trans (Keep.below hG.out))
  clear hx ca cb hG P3 A3 K3 HRR hlr hla
  clear p0 p1 e0 e1 zp zd q0 q1 q2 q3 zq
  generalize modI ii F.length = I at *
  obtain ⟨p0, p1, e0, e1⟩ := P4.out.c
  have zp := P4.out.bp.lt; have zd := P4.out.bd.lt
  have q0 := A4.out.cell 0; have q1 := A4.out.cell 1; have q2 := A4.out.cell 2; have q3 := A4.out.cell 3; have zq := A4.out.lt
  simp at q0 q1 q2 q3
  go_upto_region 6 with fail
  generalize bits .and .i64 dd 15 = o15
  have hIn : ((R : Int)) < n := HRa.out.2
  have hR64 : I64 R := by have := HRa.out; unfold I64; omega
  by_cases h1 : o15 = 0 ∨ o15 = 1 ∨ o15 = 2
  · as_aux_lemma =>
      have hof := hid (side_offer hM0 HI.out.t R)
      have hc := hid (offer_any P4.out.da R (fun r hr => by have := (HI.out.t.ox r hr).n; omega))
      generalize hrr : offerL ra R = q at hof hc
      obtain ⟨x', ⟨k, i, m⟩, en⟩ := q
      clear hrr
      have hof1 := hid hof.out.1
      have hof2 := hid hof.out.2
      clear hof
      rcases h1 with rfl | rfl | rfl
      all_goals
        go_wp2_with fail
        refine hc.out.mono ?_
        rintro e w8 ⟨rfl, D8, G8⟩
        have P8 := hid ((P4.out.a D8 G8).alloc (Obj.cells (pasv (k, i, m)) 27))
        have X8 := hid (Blk.new w8 27 (pasv (k, i, m)))
        have K8 := hid (keep_cut1 (Obj.cells (pasv (k, i, m)) 27) (K4.out.trans (Keep.row P4.out.da.r (by decide) G8)))
        clear D8 G8 hc
        clear p0 p1 e0 e1 zp zd q0 q1 q2 q3 zq
        obtain ⟨p0, p1, e0, e1⟩ := P8.out.c
        have zp := P8.out.bp.lt
        have x0 := X8.out.cell 0; have x1 := X8.out.cell 1; have x2 := X8.out.cell 2; have zx := X8.out.lt
        simp at x0 x1 x2
        by_cases hen : en = 0
        · subst hen
          have hm := hof2.out rfl
          obtain ⟨i1, i2, i3⟩ := hm.i64 (by omega) (by omega) (by omega) (hof1.out.two HI.out.t (by omega)).symm
          have hs := HI.out.s; have hl := HI.out.l
          have cS := hid (psendK_any P8.out hs hl he 0 (by simp) k i m i1 i2 i3)
          clear hs hl i1 i2 i3
          go_wp2_with fail
          refine cS.out.mono ?_
          rintro e w9 ⟨rfl, vn9, P9, k9⟩
          have p9 := hid P9
          have K9 := hid (K8.out.trans k9)
          clear P9 cS k9
          go_wp2_with fail
          go_ret
          exact ⟨rfl, x', rb, _, sp, _, ⟨_, _, _, _, _, _, _, _, _, p9.out⟩, (nxt_a HI.out hof1.out).send (pk_ab hm), K9.out⟩
        · have hen' : (en == 0) = false := by simpa using hen
          have cS := hid (psendK_no P8.out 0 k i m en hen')
          go_wp2_with fail
          refine cS.out.mono ?_
          rintro e w9 ⟨rfl, vn9, P9, k9⟩
          have p9 := hid P9
          have K9 := hid (K8.out.trans k9)
          clear P9 cS k9
          go_wp2_with fail
          go_ret
          exact ⟨rfl, x', rb, _, sp, _, ⟨_, _, _, _, _, _, _, _, _, p9.out⟩, nxt_a HI.out hof1.out, K9.out⟩
  by_cases h2 : o15 = 3 ∨ o15 = 4
  · as_aux_lemma =>
      have hof := hid (side_again hM0 HI.out.t R)
      have hc := hid (again_any P4.out.da R)
      generalize hrr : againL ra R = q at hof hc
      obtain ⟨⟨k, i, m⟩, en⟩ := q
      clear hrr
      rcases h2 with rfl | rfl
      all_goals
        go_wp2_with fail
        refine hc.out.mono ?_
        rintro e w8 ⟨rfl, hB8⟩
        have P8 := hid ((P4.out.step hB8).alloc (Obj.cells (pasv (k, i, m)) 27))
        have X8 := hid (Blk.new w8 27 (pasv (k, i, m)))
        have K8 := hid (keep_cut1 (Obj.cells (pasv (k, i, m)) 27) (K4.out.trans (Keep.below hB8)))
        clear hB8 hc
        clear p0 p1 e0 e1 zp zd q0 q1 q2 q3 zq
        obtain ⟨p0, p1, e0, e1⟩ := P8.out.c
        have zp := P8.out.bp.lt
        have x0 := X8.out.cell 0; have x1 := X8.out.cell 1; have x2 := X8.out.cell 2; have zx := X8.out.lt
        simp at x0 x1 x2
        by_cases hen : en = 0
        · subst hen
          have hm := hof.out rfl
          obtain ⟨i1, i2, i3⟩ := hm.i64 (by omega) (by omega) (by omega) (HI.out.t).symm
          have hs := HI.out.s; have hl := HI.out.l
          have cS := hid (psendK_any P8.out hs hl he 0 (by simp) k i m i1 i2 i3)
          clear hs hl i1 i2 i3
          go_wp2_with fail
          refine cS.out.mono ?_
          rintro e w9 ⟨rfl, vn9, P9, k9⟩
          have p9 := hid P9
          have K9 := hid (K8.out.trans k9)
          clear P9 cS k9
          go_wp2_with fail
          go_ret
          exact ⟨rfl, ra, rb, _, sp, _, ⟨_, _, _, _, _, _, _, _, _, p9.out⟩, (nxt_same HI.out).send (pk_ab hm), K9.out⟩
        · have hen' : (en == 0) = false := by simpa using hen
          have cS := hid (psendK_no P8.out 0 k i m en hen')
          go_wp2_with fail
          refine cS.out.mono ?_
          rintro e w9 ⟨rfl, vn9, P9, k9⟩
          have p9 := hid P9
          have K9 := hid (K8.out.trans k9)
          clear P9 cS k9
          go_wp2_with fail
          go_ret
          exact ⟨rfl, ra, rb, _, sp, _, ⟨_, _, _, _, _, _, _, _, _, p9.out⟩, nxt_same HI.out, K9.out⟩
  by_cases h3 : o15 = 10
  · as_aux_lemma =>
      subst h3
      have hc := hid (ndrop_any P4.out.nt HI.out.l I)
      go_wp2_with fail
      refine hc.out.mono ?_
      rintro e w8 ⟨x9, v9, rfl, hy, N8, C8, V8⟩
      have P8 := hid (P4.out.net N8 C8)
      have K8 := hid (K4.out.trans (Keep.net P4.out.nt C8 V8))
      clear N8 C8 V8 hc hy
      clear p0 p1 e0 e1 zp zd q0 q1 q2 q3 zq
      go_wp2_with fail
      go_ret
      exact ⟨rfl, ra, rb, dropN F I, sp, _, ⟨_, _, _, _, _, _, _, _, _, P8.out⟩, (nxt_same HI.out).less (fun p hp => dropN_mem hp) (dropN_len HI.out.l) HI.out.s, K8.out⟩
  by_cases h4 : o15 = 11
  · as_aux_lemma =>
      subst h4
      have hc := hid (ndouble_any P4.out.nt P4.out.hn I)
      go_wp2_with fail
      refine hc.out.mono ?_
      rintro e w8 ⟨x9, v9, rfl, hy, N8, C8, V8⟩
      have P8 := hid (P4.out.net N8 C8)
      have K8 := hid (K4.out.trans (Keep.net P4.out.nt C8 V8))
      clear N8 C8 V8 hc hy
      clear p0 p1 e0 e1 zp zd q0 q1 q2 q3 zq
      go_wp2_with fail
      go_ret
      exact ⟨rfl, ra, rb, dblN F I, sp, _, ⟨_, _, _, _, _, _, _, _, _, P8.out⟩, (nxt_same HI.out).less (fun p hp => dblN_mem hp) (dblN_len HI.out.l) HI.out.s, K8.out⟩
  by_cases h5 : o15 = 12
  · as_aux_lemma =>
      subst h5
      have hc := hid (nsplit_any P4.out.nt)
      go_wp2_with fail
      refine hc.out.mono ?_
      rintro e w8 ⟨x9, v9, rfl, hy, N8, C8, V8⟩
      have P8 := hid (P4.out.net N8 C8)
      have K8 := hid (K4.out.trans (Keep.net P4.out.nt C8 V8))
      clear N8 C8 V8 hc hy
      clear p0 p1 e0 e1 zp zd q0 q1 q2 q3 zq
      go_wp2_with fail
      go_ret
      exact ⟨rfl, ra, rb, F, 1, _, ⟨_, _, _, _, _, _, _, _, _, P8.out⟩, (nxt_same HI.out).less (fun p hp => hp) HI.out.l (.inr rfl), K8.out⟩
  by_cases h6 : o15 = 13
  · as_aux_lemma =>
      subst h6
      have hc := hid (nheal_any P4.out.nt)
      go_wp2_with fail
      refine hc.out.mono ?_
      rintro e w8 ⟨x9, v9, rfl, hy, N8, C8, V8⟩
      have P8 := hid (P4.out.net N8 C8)
      have K8 := hid (K4.out.trans (Keep.net P4.out.nt C8 V8))
      clear N8 C8 V8 hc hy
      clear p0 p1 e0 e1 zp zd q0 q1 q2 q3 zq
      go_wp2_with fail
      go_ret
      exact ⟨rfl, ra, rb, F, 0, _, ⟨_, _, _, _, _, _, _, _, _, P8.out⟩, (nxt_same HI.out).less (fun p hp => hp) HI.out.l (.inl rfl), K8.out⟩
  by_cases h7 : o15 = 14 ∨ o15 = 15
  · as_aux_lemma =>
      have hok := HI.out.t.ox
      have hln := HI.out.t.lx
      have hc := hid (dbytes_any P4.out.da (by simp [I64]) (fun r hr => ⟨⟨by have := (hok r hr).p; omega, by have := (hok r hr).p; omega⟩, ⟨by have := (hok r hr).n; omega, by have := (hok r hr).n; omega⟩⟩) (by omega) (he.below P4.out.below))
      have HK := hid (show ∀ r ∈ ra, RobOK 2199023255552 r from fun r hr => (hok r hr).mono (by omega))
      have HL := hid (show (ra).length ≤ 200 by omega)
      clear hok hln
      rcases h7 with rfl | rfl
      all_goals
        go_wp2_with fail
        refine hc.out.mono ?_
        rintro e w8 ⟨rfl, hB8⟩
        have P8 := hid (P4.out.step hB8)
        have K8 := hid (K4.out.trans (Keep.below hB8))
        have z8 := hid (Nat.lt_of_lt_of_le P4.out.bd.lt hB8.size)
        clear hB8 hc
        go_wp2_with fail
        refine (rdesk_any 0 ra w8 (.inl rfl) HK.out HL.out (he.below P8.out.below)).mono ?_
        rintro e w9 ⟨nc, vc, rfl, hnc, D9, hB9⟩
        have P9 := hid (P8.out.swapA hB9 D9)
        have K9 := hid ((K8.out.trans (Keep.below hB9)).trans (Keep.desk (P8.out.step hB9).bd (by decide) (grown_s w9 gd 0 (.pointer (some ⟨nc, 0, none⟩)))))
        obtain ⟨u0, u1, u2, u3⟩ := (P8.out.step hB9).c
        have uf := (P8.out.step hB9).bd.frozen 0
        have uz := (P8.out.step hB9).bd.lt; have up := (P8.out.step hB9).bp.lt
        clear hB9 D9 hnc P8
        clear p0 p1 e0 e1 zp zd q0 q1 q2 q3 zq
        go_wp2_with fail
        go_ret
        exact ⟨rfl, ra, rb, F, sp, _, ⟨_, _, _, _, _, _, _, _, _, P9.out⟩, nxt_same HI.out, K9.out⟩
  as_aux_lemma =>
    have f0 : (o15 == 0) = false := by simp; omega
    have f1 : (o15 == 1) = false := by simp; omega
    have f2 : (o15 == 2) = false := by simp; omega
    have f3 : (o15 == 3) = false := by simp; omega
    have f4 : (o15 == 4) = false := by simp; omega
    have f10 : (o15 == 10) = false := by simp; omega
    have f11 : (o15 == 11) = false := by simp; omega
    have f12 : (o15 == 12) = false := by simp; omega
    have f13 : (o15 == 13) = false := by simp; omega
    have f14 : (o15 == 14) = false := by simp; omega
    have f15 : (o15 == 15) = false := by simp; omega
    clear h1 h2 h3 h4 h5 h6 h7
    have hc := hid (fun tk => arrive_relK (M := M) (n := n) hM0 hM1 hn he P4.out HI.out I tk)
    go_wp2_with fail
    refine (hc.out _).mono ?_
    rintro e w8 ⟨rfl, H8⟩
    have h8 := hid H8
    clear H8 hc
    clear p0 p1 e0 e1 zp zd q0 q1 q2 q3 zq
    go_wp2_with fail
    go_ret
    obtain ⟨r1, r2, r3, r4, r5, r6, r7, r8⟩ := h8.out
    exact ⟨rfl, r1, r2, r3, r4, r5, r6, r7, K4.out.trans r8⟩
set_option maxRecDepth 100000 in
set_option maxHeartbeats 8000000 in
theorem actK_1 {M : Int} {n : Nat} {w0 wx : World} {px : Nat} {vn : Value} {ra rb : List Rob} {F : List Pk} {sp : Int} (hM0 : 0 ≤ M) (hM1 : M ≤ 1000) (hn : n ≤ 100) (hn1 : 1 ≤ n) (he : Env w0) (hP : PairV w0 px vn ra rb F sp wx) (hI : Inv M n ra rb F sp) (dd ww rr ii : Int) (hw : bits .and .i64 ww 1 = 1) :
    Calls Tryd.prog 32 #[.pointer (some ⟨px, 0, none⟩), .agg #[.int .i64 dd, .int .i64 ww, .int .i64 rr, .int .i64 ii]] wx (ActK w0 px M n ra rb vn wx) := by
  obtain ⟨gd, nn, na, nb, xa, xb, xn, va, vb, h⟩ := hP
  have HI := hid hI
  have P1 := hid (h.alloc (Obj.cells #[.int .i64 dd, .int .i64 ww, .int .i64 rr, .int .i64 ii] 62))
  have A1 := hid (Blk.new wx 62 #[.int .i64 dd, .int .i64 ww, .int .i64 rr, .int .i64 ii])
  have K1 := hid (Keep.below (v := vn) (show Below wx.heap.size wx (wx.alloc (Obj.cells #[.int .i64 dd, .int .i64 ww, .int .i64 rr, .int .i64 ii] 62)) by (repeat (first | exact Below.refl _ _ | assumption | refine below_drewN ?_ _ | refine Below.drew ?_ | refine Below.alloc ?_ (by (try simp); (try omega)) _ | refine Below.setCell ?_ (by (try simp); (try omega)) _))))
  have hlr := hid (show ra.length ≤ 1000 by rw [hI.t.lx]; omega)
  have hR := modI_in (n := rr) (m := ra.length) (by rw [hI.t.lx]; omega)
  rw [hI.t.lx] at hR
  have HRR := hid hR
  have hla := hid hI.t.lx
  clear h hI hR
  go_enter Tryd.func32, Tryd.ntmps32
  go_upto_region 2 with fail
  generalize hw2 : wx.alloc (Obj.cells #[.int .i64 dd, .int .i64 ww, .int .i64 rr, .int .i64 ii] 62) = w2 at P1 A1 K1 ⊢
  clear hw2
  generalize wx.heap.size = ga at A1 ⊢
  obtain ⟨p0, p1, e0, e1⟩ := P1.out.c
  have zp := P1.out.bp.lt; have zd := P1.out.bd.lt
  have q0 := A1.out.cell 0; have q1 := A1.out.cell 1; have q2 := A1.out.cell 2; have q3 := A1.out.cell 3; have zq := A1.out.lt
  simp at q0 q1 q2 q3
  have hx := fun x : Ext (GB w2) => GB.cell x
  have ca := hid fun x : Ext (GB w2) => GB.call (x := x) ((robots_any (P1.out.step x.h.out).da).mono fun _ _ h => ⟨h.1, h.2 ▸ Below.refl _ _⟩)
  have cb := hid fun x : Ext (GB w2) => GB.call (x := x) ((mod_any rr ra.length (by have := hlr.out; omega) x.w).mono fun _ _ h => ⟨h.1, h.2 ▸ Below.refl _ _⟩)
  refine wp_region_ext (GB w2) (by kernel_rfl) (by kernel_rfl) (GB.refl _) ?_
  repeat (go_big_quiet_step (first | with_reducible exact ca.out _ | with_reducible exact cb.out _))
  refine wpQuiet_nil ?_
  intro w3 hG
  have P3 := hid (P1.out.step hG.out)
  have A3 := hid (A1.out.below hG.out A1.out.lt)
  have K3 := hid (K1.out.trans (Keep.below hG.out))
  clear hx ca cb hG P1 A1 K1
  clear p0 p1 e0 e1 zp zd q0 q1 q2 q3 zq
  have HRa := hid (show 0 ≤ modI rr ra.length ∧ modI rr ra.length < n by rw [hla.out]; exact HRR.out)
  generalize modI rr ra.length = R at *
  go_upto_region 3 with fail
  obtain ⟨p0, p1, e0, e1⟩ := P3.out.c
  have zp := P3.out.bp.lt; have zd := P3.out.bd.lt
  have q0 := A3.out.cell 0; have q1 := A3.out.cell 1; have q2 := A3.out.cell 2; have q3 := A3.out.cell 3; have zq := A3.out.lt
  simp at q0 q1 q2 q3
  have hx := fun x : Ext (GB w3) => GB.cell x
  have ca := hid fun x : Ext (GB w3) => GB.call (x := x) ((count_any (P3.out.step x.h.out).nt).mono fun _ _ h => ⟨h.1, h.2 ▸ Below.refl _ _⟩)
  have cb := hid fun x : Ext (GB w3) => GB.call (x := x) ((mod_any ii F.length (by have := HI.out.l; omega) x.w).mono fun _ _ h => ⟨h.1, h.2 ▸ Below.refl _ _⟩)
  refine wp_region_ext (GB w3) (by kernel_rfl) (by kernel_rfl) (GB.refl _) ?_
  repeat (go_big_quiet_step (first | with_reducible exact ca.out _ | with_reducible exact cb.out _))
  refine wpQuiet_nil ?_
  intro w4 hG
  have P4 := hid (P3.out.step hG.out)
  have A4 := hid (A3.out.below hG.out A3.out.lt)
  have K4 := hid (K3.out.trans (Keep.below hG.out))
  clear hx ca cb hG P3 A3 K3 HRR hlr hla
  clear p0 p1 e0 e1 zp zd q0 q1 q2 q3 zq
  generalize modI ii F.length = I at *
  obtain ⟨p0, p1, e0, e1⟩ := P4.out.c
  have zp := P4.out.bp.lt; have zd := P4.out.bd.lt
  have q0 := A4.out.cell 0; have q1 := A4.out.cell 1; have q2 := A4.out.cell 2; have q3 := A4.out.cell 3; have zq := A4.out.lt
  simp at q0 q1 q2 q3
  go_upto_region 6 with fail
  generalize bits .and .i64 dd 15 = o15
  have hIn : ((R : Int)) < n := HRa.out.2
  have hR64 : I64 R := by have := HRa.out; unfold I64; omega
  by_cases h1 : o15 = 0 ∨ o15 = 1 ∨ o15 = 2
  · as_aux_lemma =>
      have hof := hid (side_offer hM0 HI.out.t.symm R)
      have hc := hid (offer_any P4.out.db R (fun r hr => by have := (HI.out.t.oy r hr).n; omega))
      generalize hrr : offerL rb R = q at hof hc
      obtain ⟨x', ⟨k, i, m⟩, en⟩ := q
      clear hrr
      have hof1 := hid hof.out.1
      have hof2 := hid hof.out.2
      clear hof
      rcases h1 with rfl | rfl | rfl
      all_goals
        go_wp2_with fail
        refine hc.out.mono ?_
        rintro e w8 ⟨rfl, D8, G8⟩
        have P8 := hid ((P4.out.b D8 G8).alloc (Obj.cells (pasv (k, i, m)) 27))
        have X8 := hid (Blk.new w8 27 (pasv (k, i, m)))
        have K8 := hid (keep_cut1 (Obj.cells (pasv (k, i, m)) 27) (K4.out.trans (Keep.row P4.out.db.r (by decide) G8)))
        clear D8 G8 hc
        clear p0 p1 e0 e1 zp zd q0 q1 q2 q3 zq
        obtain ⟨p0, p1, e0, e1⟩ := P8.out.c
        have zp := P8.out.bp.lt
        have x0 := X8.out.cell 0; have x1 := X8.out.cell 1; have x2 := X8.out.cell 2; have zx := X8.out.lt
        simp at x0 x1 x2
        by_cases hen : en = 0
        · subst hen
          have hm := hof2.out rfl
          obtain ⟨i1, i2, i3⟩ := hm.i64 (by omega) (by omega) (by omega) (hof1.out.two HI.out.t.symm (by omega)).symm
          have hs := HI.out.s; have hl := HI.out.l
          have cS := hid (psendK_any P8.out hs hl he 1 (by simp) k i m i1 i2 i3)
          clear hs hl i1 i2 i3
          go_wp2_with fail
          refine cS.out.mono ?_
          rintro e w9 ⟨rfl, vn9, P9, k9⟩
          have p9 := hid P9
          have K9 := hid (K8.out.trans k9)
          clear P9 cS k9
          go_wp2_with fail
          go_ret
          exact ⟨rfl, ra, x', _, sp, _, ⟨_, _, _, _, _, _, _, _, _, p9.out⟩, (nxt_b HI.out hof1.out).send (pk_ba hm), K9.out⟩
        · have hen' : (en == 0) = false := by simpa using hen
          have cS := hid (psendK_no P8.out 1 k i m en hen')
          go_wp2_with fail
          refine cS.out.mono ?_
          rintro e w9 ⟨rfl, vn9, P9, k9⟩
          have p9 := hid P9
          have K9 := hid (K8.out.trans k9)
          clear P9 cS k9
          go_wp2_with fail
          go_ret
          exact ⟨rfl, ra, x', _, sp, _, ⟨_, _, _, _, _, _, _, _, _, p9.out⟩, nxt_b HI.out hof1.out, K9.out⟩
  by_cases h2 : o15 = 3 ∨ o15 = 4
  · as_aux_lemma =>
      have hof := hid (side_again hM0 HI.out.t.symm R)
      have hc := hid (again_any P4.out.db R)
      generalize hrr : againL rb R = q at hof hc
      obtain ⟨⟨k, i, m⟩, en⟩ := q
      clear hrr
      rcases h2 with rfl | rfl
      all_goals
        go_wp2_with fail
        refine hc.out.mono ?_
        rintro e w8 ⟨rfl, hB8⟩
        have P8 := hid ((P4.out.step hB8).alloc (Obj.cells (pasv (k, i, m)) 27))
        have X8 := hid (Blk.new w8 27 (pasv (k, i, m)))
        have K8 := hid (keep_cut1 (Obj.cells (pasv (k, i, m)) 27) (K4.out.trans (Keep.below hB8)))
        clear hB8 hc
        clear p0 p1 e0 e1 zp zd q0 q1 q2 q3 zq
        obtain ⟨p0, p1, e0, e1⟩ := P8.out.c
        have zp := P8.out.bp.lt
        have x0 := X8.out.cell 0; have x1 := X8.out.cell 1; have x2 := X8.out.cell 2; have zx := X8.out.lt
        simp at x0 x1 x2
        by_cases hen : en = 0
        · subst hen
          have hm := hof.out rfl
          obtain ⟨i1, i2, i3⟩ := hm.i64 (by omega) (by omega) (by omega) (HI.out.t.symm).symm
          have hs := HI.out.s; have hl := HI.out.l
          have cS := hid (psendK_any P8.out hs hl he 1 (by simp) k i m i1 i2 i3)
          clear hs hl i1 i2 i3
          go_wp2_with fail
          refine cS.out.mono ?_
          rintro e w9 ⟨rfl, vn9, P9, k9⟩
          have p9 := hid P9
          have K9 := hid (K8.out.trans k9)
          clear P9 cS k9
          go_wp2_with fail
          go_ret
          exact ⟨rfl, ra, rb, _, sp, _, ⟨_, _, _, _, _, _, _, _, _, p9.out⟩, (nxt_same HI.out).send (pk_ba hm), K9.out⟩
        · have hen' : (en == 0) = false := by simpa using hen
          have cS := hid (psendK_no P8.out 1 k i m en hen')
          go_wp2_with fail
          refine cS.out.mono ?_
          rintro e w9 ⟨rfl, vn9, P9, k9⟩
          have p9 := hid P9
          have K9 := hid (K8.out.trans k9)
          clear P9 cS k9
          go_wp2_with fail
          go_ret
          exact ⟨rfl, ra, rb, _, sp, _, ⟨_, _, _, _, _, _, _, _, _, p9.out⟩, nxt_same HI.out, K9.out⟩
  by_cases h3 : o15 = 10
  · as_aux_lemma =>
      subst h3
      have hc := hid (ndrop_any P4.out.nt HI.out.l I)
      go_wp2_with fail
      refine hc.out.mono ?_
      rintro e w8 ⟨x9, v9, rfl, hy, N8, C8, V8⟩
      have P8 := hid (P4.out.net N8 C8)
      have K8 := hid (K4.out.trans (Keep.net P4.out.nt C8 V8))
      clear N8 C8 V8 hc hy
      clear p0 p1 e0 e1 zp zd q0 q1 q2 q3 zq
      go_wp2_with fail
      go_ret
      exact ⟨rfl, ra, rb, dropN F I, sp, _, ⟨_, _, _, _, _, _, _, _, _, P8.out⟩, (nxt_same HI.out).less (fun p hp => dropN_mem hp) (dropN_len HI.out.l) HI.out.s, K8.out⟩
  by_cases h4 : o15 = 11
  · as_aux_lemma =>
      subst h4
      have hc := hid (ndouble_any P4.out.nt P4.out.hn I)
      go_wp2_with fail
      refine hc.out.mono ?_
      rintro e w8 ⟨x9, v9, rfl, hy, N8, C8, V8⟩
      have P8 := hid (P4.out.net N8 C8)
      have K8 := hid (K4.out.trans (Keep.net P4.out.nt C8 V8))
      clear N8 C8 V8 hc hy
      clear p0 p1 e0 e1 zp zd q0 q1 q2 q3 zq
      go_wp2_with fail
      go_ret
      exact ⟨rfl, ra, rb, dblN F I, sp, _, ⟨_, _, _, _, _, _, _, _, _, P8.out⟩, (nxt_same HI.out).less (fun p hp => dblN_mem hp) (dblN_len HI.out.l) HI.out.s, K8.out⟩
  by_cases h5 : o15 = 12
  · as_aux_lemma =>
      subst h5
      have hc := hid (nsplit_any P4.out.nt)
      go_wp2_with fail
      refine hc.out.mono ?_
      rintro e w8 ⟨x9, v9, rfl, hy, N8, C8, V8⟩
      have P8 := hid (P4.out.net N8 C8)
      have K8 := hid (K4.out.trans (Keep.net P4.out.nt C8 V8))
      clear N8 C8 V8 hc hy
      clear p0 p1 e0 e1 zp zd q0 q1 q2 q3 zq
      go_wp2_with fail
      go_ret
      exact ⟨rfl, ra, rb, F, 1, _, ⟨_, _, _, _, _, _, _, _, _, P8.out⟩, (nxt_same HI.out).less (fun p hp => hp) HI.out.l (.inr rfl), K8.out⟩
  by_cases h6 : o15 = 13
  · as_aux_lemma =>
      subst h6
      have hc := hid (nheal_any P4.out.nt)
      go_wp2_with fail
      refine hc.out.mono ?_
      rintro e w8 ⟨x9, v9, rfl, hy, N8, C8, V8⟩
      have P8 := hid (P4.out.net N8 C8)
      have K8 := hid (K4.out.trans (Keep.net P4.out.nt C8 V8))
      clear N8 C8 V8 hc hy
      clear p0 p1 e0 e1 zp zd q0 q1 q2 q3 zq
      go_wp2_with fail
      go_ret
      exact ⟨rfl, ra, rb, F, 0, _, ⟨_, _, _, _, _, _, _, _, _, P8.out⟩, (nxt_same HI.out).less (fun p hp => hp) HI.out.l (.inl rfl), K8.out⟩
  by_cases h7 : o15 = 14 ∨ o15 = 15
  · as_aux_lemma =>
      have hok := HI.out.t.symm.ox
      have hln := HI.out.t.symm.lx
      have hc := hid (dbytes_any P4.out.db (by simp [I64]) (fun r hr => ⟨⟨by have := (hok r hr).p; omega, by have := (hok r hr).p; omega⟩, ⟨by have := (hok r hr).n; omega, by have := (hok r hr).n; omega⟩⟩) (by omega) (he.below P4.out.below))
      have HK := hid (show ∀ r ∈ rb, RobOK 2199023255552 r from fun r hr => (hok r hr).mono (by omega))
      have HL := hid (show (rb).length ≤ 200 by omega)
      clear hok hln
      rcases h7 with rfl | rfl
      all_goals
        go_wp2_with fail
        refine hc.out.mono ?_
        rintro e w8 ⟨rfl, hB8⟩
        have P8 := hid (P4.out.step hB8)
        have K8 := hid (K4.out.trans (Keep.below hB8))
        have z8 := hid (Nat.lt_of_lt_of_le P4.out.bd.lt hB8.size)
        clear hB8 hc
        go_wp2_with fail
        refine (rdesk_any 1 rb w8 (.inr rfl) HK.out HL.out (he.below P8.out.below)).mono ?_
        rintro e w9 ⟨nc, vc, rfl, hnc, D9, hB9⟩
        have P9 := hid (P8.out.swapB hB9 D9)
        have K9 := hid ((K8.out.trans (Keep.below hB9)).trans (Keep.desk (P8.out.step hB9).bd (by decide) (grown_s w9 gd 1 (.pointer (some ⟨nc, 0, none⟩)))))
        obtain ⟨u0, u1, u2, u3⟩ := (P8.out.step hB9).c
        have uf := (P8.out.step hB9).bd.frozen 1
        have uz := (P8.out.step hB9).bd.lt; have up := (P8.out.step hB9).bp.lt
        clear hB9 D9 hnc P8
        clear p0 p1 e0 e1 zp zd q0 q1 q2 q3 zq
        go_wp2_with fail
        go_ret
        exact ⟨rfl, ra, rb, F, sp, _, ⟨_, _, _, _, _, _, _, _, _, P9.out⟩, nxt_same HI.out, K9.out⟩
  as_aux_lemma =>
    have f0 : (o15 == 0) = false := by simp; omega
    have f1 : (o15 == 1) = false := by simp; omega
    have f2 : (o15 == 2) = false := by simp; omega
    have f3 : (o15 == 3) = false := by simp; omega
    have f4 : (o15 == 4) = false := by simp; omega
    have f10 : (o15 == 10) = false := by simp; omega
    have f11 : (o15 == 11) = false := by simp; omega
    have f12 : (o15 == 12) = false := by simp; omega
    have f13 : (o15 == 13) = false := by simp; omega
    have f14 : (o15 == 14) = false := by simp; omega
    have f15 : (o15 == 15) = false := by simp; omega
    clear h1 h2 h3 h4 h5 h6 h7
    have hc := hid (fun tk => arrive_relK (M := M) (n := n) hM0 hM1 hn he P4.out HI.out I tk)
    go_wp2_with fail
    refine (hc.out _).mono ?_
    rintro e w8 ⟨rfl, H8⟩
    have h8 := hid H8
    clear H8 hc
    clear p0 p1 e0 e1 zp zd q0 q1 q2 q3 zq
    go_wp2_with fail
    go_ret
    obtain ⟨r1, r2, r3, r4, r5, r6, r7, r8⟩ := h8.out
    exact ⟨rfl, r1, r2, r3, r4, r5, r6, r7, K4.out.trans r8⟩
end Go.Proofs.YtfofmbmmighdiaaDoor
