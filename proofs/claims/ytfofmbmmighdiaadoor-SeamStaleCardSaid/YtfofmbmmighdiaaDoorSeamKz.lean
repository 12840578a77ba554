
/- THE LAW: any of the passes that were sent meanwhile, however old, heard once more by the controller to which it was sent, is no error, and not both command a robot then; heard again in a row it changes nothing more, and has the same answer, whether offers are taken or not: SeamStale returns true for every input. Condition: the listed package-level variables of Go's library hold what its text lays; the card ties them. -/
import Derived.Test.YtfofmbmmighdiaaDoorSeamKj
import Derived.Test.YtfofmbmmighdiaaDoorSeamNk
import Derived.Deep.CutBlock
import Derived.Deep.DeepCutAuto
import Derived.Test.YtfofmbmmighdiaaDoorSeamOv
set_option linter.unusedSimpArgs false
set_option linter.unusedVariables false
namespace Go.Proofs.YtfofmbmmighdiaaDoor
open Go.RowKit Go.IntWalk

theorem PairR.vn {w0 wx : World} {px : Nat} {ra rb : List Rob} {F : List Pk} {sp : Int} (h : PairR w0 px ra rb F sp wx) : ∃ vn, PairV w0 px vn ra rb F sp wx := by
  obtain ⟨gd, nn, na, nb, xa, xb, xn, va, vb, vn, P⟩ := h
  exact ⟨vn, gd, nn, na, nb, xa, xb, xn, va, vb, P⟩
theorem actK_any {M : Int} {n : Nat} {w0 wx : World} {px : Nat} {vn : Value} {ra rb : List Rob} {F : List Pk} {sp : Int} (hM0 : 0 ≤ M) (hM1 : M ≤ 1000) (hn : n ≤ 100) (hn1 : 1 ≤ n) (he : Env w0) (hP : PairV w0 px vn ra rb F sp wx) (hI : Inv M n ra rb F sp) (dd ww rr ii : Int) :
    Calls Tryd.prog 32 #[.pointer (some ⟨px, 0, none⟩), .agg #[.int .i64 dd, .int .i64 ww, .int .i64 rr, .int .i64 ii]] wx (ActK w0 px M n ra rb vn wx) := by
  rcases and_one ww with h | h
  · exact actK_0 hM0 hM1 hn hn1 he hP hI dd ww rr ii h
  · exact actK_1 hM0 hM1 hn hn1 he hP hI dd ww rr ii h
/-- What was sent: a row of the law's own, apart from the network's. -/
structure Sent (w0 : World) (vs : Value) (S : List Pk) (vn : Value) (ra rb : List Rob) (n : Nat) (wx : World) : Prop where
  r : wx.ownsRow w0.heap.size 76 3 vs S.length (pc S)
  a : ∀ g, vs.ownBlock = some g → vn.ownBlock ≠ some g
  k : ∀ p ∈ S, PkOK ra rb n p
theorem Sent.keep {w0 wx wy : World} {vs vn vn' : Value} {S : List Pk} {ra rb ra' rb' : List Rob} {n : Nat} (h : Sent w0 vs S vn ra rb n wx) (K : Keep wx vn wy vn') (hk : ∀ p, PkOK ra rb n p → PkOK ra' rb' n p) : Sent w0 vs S vn' ra' rb' n wy := by
  obtain ⟨a, b⟩ := K _ _ _ h.r h.a
  exact ⟨a, b, fun p hp => hk p (h.k p hp)⟩
end Go.Proofs.YtfofmbmmighdiaaDoor
namespace Go.Proofs.YtfofmbmmighdiaaDoor
open Go.RowKit Go.IntWalk

theorem setR_twice (rs : List Rob) (i : Int) (r q : Rob) : setR (setR rs i r) i q = setR rs i q := by
  unfold setR; split <;> simp
theorem hear_again {M : Int} {x y : List Rob} {n : Nat} (h : Two M x y n) {m : Pas} (hm : PkTo x y n m) (take t1 t2 : Bool) :
    hearL (hearL x m take).1 m t1 = hearL (hearL x m take).1 m t2 ∧ (hearL (hearL x m take).1 m t1).1 = (hearL x m take).1 := by
  have hk := hm.kind
  obtain ⟨h0, h1, h2, h3⟩ := hm
  have hx : m.2.1 < x.length := by rw [h.lx]; exact h1
  have e := hear_twice (h.sh _ h0 h1) h3 take
  rw [hearL_eq h0 hx hk]
  simp only
  generalize (hear1 (getR x m.2.1) m.1 m.2.2 take).1 = r at e ⊢
  have hx' : m.2.1 < (setR x m.2.1 r).length := by rw [setR_len]; exact hx
  rw [hearL_eq h0 hx' hk, hearL_eq h0 hx' hk]
  have eg : getR (setR x m.2.1 r) m.2.1 = r := by rw [getR_set _ h0 hx, if_pos rfl]
  rw [eg]
  simp only [setR_twice]
  rw [(e t1 t2).1]
  refine ⟨rfl, ?_⟩
  rw [(e t2 t2).2]
theorem hear_thrice {M : Int} {x y : List Rob} {n : Nat} (hM : 0 ≤ M) (h : Two M x y n) {m : Pas} (hm : PkTo x y n m) (take : Bool) :
    ∃ x1 a1 a2 a3 is1 b1 b2 b3 is2, hearL x m take = (x1, (a1, a2, a3), is1, 0) ∧ (∀ t, hearL x1 m t = (x1, (b1, b2, b3), is2, 0)) ∧ Two M x1 y n := by
  obtain ⟨s1, s2, _⟩ := side_hear hM h hm take
  have t2 := s2.two h (Int.le_refl _)
  have hg := hear_again h hm take
  have s3 := fun t => (side_hear hM t2 (s2.tx m hm) t).1
  generalize hearL x m take = q at *
  obtain ⟨x1, ⟨a1, a2, a3⟩, is1, e1⟩ := q
  simp only at s1 hg s3 t2
  subst s1
  have h4 := hg true true
  have h5 := s3 true
  have h6 := fun t => (hg t true).1
  generalize hearL x1 m true = q at *
  obtain ⟨x2, ⟨b1, b2, b3⟩, is2, e2⟩ := q
  simp only at h4 h5
  obtain ⟨_, rfl⟩ := h4
  subst h5
  exact ⟨x2, a1, a2, a3, is1, b1, b2, b3, is2, rfl, h6, t2⟩
/-- A row of packets that is apart from the network's own may grow. -/
theorem Pr.sent {w0 wx wy : World} {px gd nn na nb xa xb xn : Nat} {va vb vn vs : Value} {ra rb : List Rob} {F S : List Pk} {sp : Int} (h : Pr w0 px gd nn na nb xa xb xn va vb vn ra rb F sp wx) (hr : wx.ownsRow w0.heap.size 76 3 vs S.length (pc S))
    (ha : ∀ g, vs.ownBlock = some g → vn.ownBlock ≠ some g) (hg : wx.grownBy wy vs.ownBlock) : Pr w0 px gd nn na nb xa xb xn va vb vn ra rb F sp wy := by
  have C : Chg wx wy (fun k => vs.ownBlock = some k) := Chg.of_grown hg (fun k e => e.symm)
  have ne : ∀ {b : Nat} {t : TypeId} {cs' : Array Value}, Blk wx b t cs' → t ≠ 76 → ¬ (vs.ownBlock = some b) := fun h1 h2 e => own_blk_ne hr h1 (fun e => h2 e.symm) e
  have rn : ∀ {base n s : Nat} {e : TypeId} {v : Value} {xs : List Value}, wx.ownsRow base e s v n xs → e ≠ 76 → ∀ j, v.ownBlock = some j → ¬ (vs.ownBlock = some j) := fun h1 h2 j hj e => rows_ne h1 hr h2 j hj e
  exact ⟨C.low h.below (fun k hk => (hr.lt k hk).1), h.lo, Nat.le_trans h.hn C.size, C.blk h.bp (ne h.bp (by decide)), C.blk h.bd (ne h.bd (by decide)), h.da.chg C (ne h.da.d (by decide)) (rn h.da.r (by decide)), h.db.chg C (ne h.db.d (by decide)) (rn h.db.r (by decide)), h.sab, h.sba,
    h.nt.chg C (ne h.nt.d (by decide)) (fun j hj e => ha j e hj)⟩
theorem Sent.app {w0 wx wy : World} {px gd nn na nb xa xb xn : Nat} {va vb vn vs v1 : Value} {ra rb : List Rob} {F S : List Pk} {sp : Int} {n : Nat} {p : Pk} (h : Sent w0 vs S vn ra rb n wx) (hP : Pr w0 px gd nn na nb xa xb xn va vb vn ra rb F sp wx) (hp : PkOK ra rb n p)
    (ho : wy.ownsRow w0.heap.size 76 3 v1 (S ++ [p]).length (pc (S ++ [p]))) (hat : v1.ownBlock = vs.ownBlock ∨ v1.ownBlock = some wx.heap.size) : Sent w0 v1 (S ++ [p]) vn ra rb n wy := by
  refine ⟨ho, fun g hg e => ?_, fun q hq => ?_⟩
  · rcases hat with h1 | h1
    · exact h.a g (h1 ▸ hg) e
    · rw [h1] at hg
      injection hg with hg
      have := (hP.nt.r.lt g e).2
      omega
  · rcases List.mem_append.1 hq with hq | hq
    · exact h.k q hq
    · simp only [List.mem_cons, List.not_mem_nil, or_false] at hq
      rw [hq]; exact hp
theorem Sent.below {w0 wx wy : World} {vn vs : Value} {ra rb : List Rob} {S : List Pk} {n : Nat} (h : Sent w0 vs S vn ra rb n wx) (hb : Below wx.heap.size wx wy) : Sent w0 vs S vn ra rb n wy := h.keep (Keep.below hb) (fun _ h => h)
/-- One desk (d), and the other one (o). -/
structure Sd (w0 : World) (d xd : Nat) (vd : Value) (me : Int) (x : List Rob) (o xo : Nat) (vo : Value) (mo : Int) (y : List Rob) (wx : World) : Prop where
  below : Below w0.heap.size w0 wx
  lo : w0.heap.size ≤ xd
  dd : Dk wx xd d vd me x
  dn : Dk wx xo o vo mo y
  sep : vo.ownBlock = none ∨ vo.ownBlock ≠ vd.ownBlock
theorem Sd.step {w0 wx wy : World} {d xd : Nat} {vd : Value} {me : Int} {x : List Rob} {o xo : Nat} {vo : Value} {mo : Int} {y : List Rob} (h : Sd w0 d xd vd me x o xo vo mo y wx) (hb : Below wx.heap.size wx wy) : Sd w0 d xd vd me x o xo vo mo y wy :=
  ⟨h.below.trans (hb.mono h.below.size), h.lo, h.dd.below hb, h.dn.below hb, h.sep⟩
theorem Sd.hear {w0 wx wy : World} {d xd : Nat} {vd : Value} {me : Int} {x x' : List Rob} {o xo : Nat} {vo : Value} {mo : Int} {y : List Rob} (h : Sd w0 d xd vd me x o xo vo mo y wx) (D : Dk wy xd d vd me x') (hg : wx.grownBy wy vd.ownBlock) : Sd w0 d xd vd me x' o xo vo mo y wy :=
  ⟨h.dd.low h.below h.lo hg, h.lo, D, h.dn.beside h.dd hg h.sep, h.sep⟩
theorem Sd.drewN {w0 wx : World} {d xd : Nat} {vd : Value} {me : Int} {x : List Rob} {o xo : Nat} {vo : Value} {mo : Int} {y : List Rob} (h : Sd w0 d xd vd me x o xo vo mo y wx) (n : Nat) : Sd w0 d xd vd me x o xo vo mo y (wx.drewN n) := h.step (below_drewN (Below.refl _ _) n)
theorem hear_to {w : World} {base b : Nat} {v : Value} {me : Int} {rs x1 : List Rob} {k i no : Int} {take : Bool} {a1 a2 a3 : Int} {is1 : Bool} (h : Dk w base b v me rs) (e : hearL rs (k, i, no) take = (x1, (a1, a2, a3), is1, 0)) :
    Calls Tryd.prog 22 #[.pointer (some ⟨b, 0, none⟩), .agg #[.int .i64 k, .int .i64 i, .int .i64 no], .bool take] w (fun e w' => e = .returned (.tuple #[.agg #[.int .i64 a1, .int .i64 a2, .int .i64 a3], .bool is1, .int .i64 0]) ∧ Dk w' base b v me x1 ∧ w.grownBy w' v.ownBlock) := by
  have h1 := hear_any h k i no take
  rw [e] at h1
  exact h1
/-- To which desk a packet goes. -/
theorem side_of {M : Int} {w0 wx : World} {px gd nn na nb xa xb xn : Nat} {va vb vn : Value} {ra rb : List Rob} {F : List Pk} {sp : Int} {n : Nat} {p : Pk} (h : Pr w0 px gd nn na nb xa xb xn va vb vn ra rb F sp wx) (hI : Inv M n ra rb F sp) (hp : PkOK ra rb n p) :
    ∃ (T U : Nat) (d xd : Nat) (vd : Value) (me : Int) (x : List Rob) (o xo : Nat) (vo : Value) (mo : Int) (y : List Rob) (m : Pas), p = ((U : Int), (T : Int), bs (encP m)) ∧ T < 2 ∧ U < 2 ∧ (1 : Int) - (T : Int) = (U : Int) ∧ (me = 0 ∨ me = 1) ∧
      (#[.pointer (some ⟨na, 0, none⟩), .pointer (some ⟨nb, 0, none⟩)] : Array Value)[T]? = some (.pointer (some ⟨d, 0, none⟩)) ∧ (#[.pointer (some ⟨na, 0, none⟩), .pointer (some ⟨nb, 0, none⟩)] : Array Value)[U]? = some (.pointer (some ⟨o, 0, none⟩)) ∧ Sd w0 d xd vd me x o xo vo mo y wx ∧ Two M x y n ∧ PkTo x y n m := by
  obtain ⟨pa, pb, ps⟩ := p
  obtain ⟨m, e, ⟨e1, e2, ht⟩ | ⟨e1, e2, ht⟩⟩ := hp
  · simp only at e e1 e2
    subst e e1 e2
    exact ⟨0, 1, na, xa, va, 0, ra, nb, xb, vb, 1, rb, m, rfl, by omega, by omega, by simp, .inl rfl, rfl, rfl, ⟨h.below, h.lo.2.2.2.1, h.da, h.db, h.sba⟩, hI.t, ht⟩
  · simp only at e e1 e2
    subst e e1 e2
    exact ⟨1, 0, nb, xb, vb, 1, rb, na, xa, va, 0, ra, m, rfl, by omega, by omega, by simp, .inr rfl, rfl, rfl, ⟨h.below, h.lo.2.2.2.2.1, h.db, h.da, h.sab⟩, hI.t.symm, ht⟩
end Go.Proofs.YtfofmbmmighdiaaDoor
namespace Go.Proofs.YtfofmbmmighdiaaDoor
open Go.RowKit Go.IntWalk

theorem PairR.moved_ {w w1 w2 : World} {px : Nat} {ra rb : List Rob} {F : List Pk} {sp : Int} (h : PairR w1 px ra rb F sp w2) (hB : Below w.heap.size w w1) : PairR w px ra rb F sp w2 := by
  obtain ⟨gd, nn, na, nb, xa, xb, xn, va, vb, vn, P⟩ := h
  exact ⟨gd, nn, na, nb, xa, xb, xn, va, vb, vn, ⟨hB.trans (P.below.mono hB.size), ⟨Nat.le_trans hB.size P.lo.1, Nat.le_trans hB.size P.lo.2.1, Nat.le_trans hB.size P.lo.2.2.1, Nat.le_trans hB.size P.lo.2.2.2.1, Nat.le_trans hB.size P.lo.2.2.2.2.1, Nat.le_trans hB.size P.lo.2.2.2.2.2⟩, P.hn, P.bp, P.bd, P.da, P.db, P.sab, P.sba, P.nt⟩⟩
theorem encP_66 (p : Pas) (h1 : I64 p.1) (h2 : I64 p.2.1) (h3 : I64 p.2.2) : (bs (encP p)).size ≤ 66 := by
  have a := encI_le p.1 h1; have b := encI_le p.2.1 h2; have c := encI_le p.2.2 h3
  rw [bs_size, encP, List.length_append, List.length_append]; omega
theorem robs_i_ {M : Int} {rs : List Rob} (hM : M ≤ 4611686018427387904) (h : ∀ r ∈ rs, RobOK M r) : ∀ r ∈ rs, RobI r :=
  fun r hr => ⟨⟨by have := (h r hr).p; omega, by have := (h r hr).p; omega⟩, ⟨by have := (h r hr).n; omega, by have := (h r hr).n; omega⟩⟩
set_option maxRecDepth 100000 in
set_option maxHeartbeats 8000000 in
theorem sstale_any (Am : Option Addr) (cm : Nat) (mine : List Bool) (Al : Option Addr) (cl : Nat) (l : List Ac) (which : Int) (take : Bool) (w : World) (hml : mine.length ≤ maxLen) (hll : l.length ≤ maxLen)
    (hm : SlR w w.heap.size Am mine) (hs : SlR w w.heap.size Al l) (he : Env w) :
    Calls Tryd.prog 6 #[.slice Am mine.length cm, .slice Al l.length cl, .int .i64 which, .bool take] w fun e w' => e = .returned (.bool true) ∧ Below w.heap.size w w' := by
  unfold maxLen at hml hll
  go_enter Tryd.func6, Tryd.ntmps6
  go_wp2_with fail
  refine (dsmall_any _).mono ?_
  rintro e w1 ⟨rfl, hB1⟩
  have B1 := hid hB1
  clear hB1
  by_cases h1 : (mine.length : Int) < 1
  · go_wp2_with fail
    go_ret
    exact ⟨rfl, B1.out⟩
  by_cases h6 : (4 : Int) < mine.length
  · go_wp2_with fail
    go_ret
    exact ⟨rfl, B1.out⟩
  by_cases h150 : (100 : Int) < l.length
  · go_wp2_with fail
    go_ret
    exact ⟨rfl, B1.out⟩
  go_wp2_with fail
  refine (begin_any Am cm mine _ (by omega) ((hm.below B1.out).more B1.out.size)).mono ?_
  rintro e w2 ⟨px, rfl, P⟩
  have P2 := hid ((P.moved_ B1.out).vn)
  have I2 := hid (inv_begin mine)
  clear P B1
  go_upto_block 0 with fail
  go_cut [11] (fun vs wx => ∃ ra rb F sp vn S, PairV w px vn ra rb F sp wx ∧ Inv (l.length : Int) mine.length ra rb F sp ∧ Sent w vs S vn ra rb mine.length wx ∧ S.length ≤ l.length)
  case first =>
    as_aux_lemma =>
      go_wp2_with fail
      go_loopw [11, 12] (fun vs i wr => ∃ (k : Nat) (ra rb : List Rob) (F : List Pk) (sp : Int) (vn : Value) (S : List Pk), k ≤ l.length ∧ i = .int .i64 k ∧ PairV w px vn ra rb F sp wr ∧ Inv k mine.length ra rb F sp ∧ Sent w vs S vn ra rb mine.length wr ∧ S.length ≤ k) (fun _ i _ => l.length - (intOf i).toNat)
      case atStart =>
        obtain ⟨vn, P⟩ := P2.out
        exact ⟨0, _, _, _, _, vn, [], by omega, rfl, P, I2.out, ⟨⟨rfl, .inl ⟨rfl, rfl⟩⟩, fun g h => by simp [Value.ownBlock] at h, fun p hp => by simp at hp⟩, by simp⟩
      case round =>
        clear P2 I2
        obtain ⟨k, ra, rb, F, sp, vn, S, hk, rfl, hP, hI, hS, hSk⟩ := hrel
        by_cases hlt : k < l.length
        · have hac := hs.ac hlt
          generalize l[k] = o at *
          obtain ⟨dd, ww, rr, ii⟩ := o
          obtain ⟨b, off, rfl, hbB, g1, g2, g3, g4⟩ := hac
          simp only at g1 g2 g3 g4
          have hBB : Below w.heap.size w wr := by obtain ⟨gd, nn, na, nb, xa, xb, xn, va, vb, P⟩ := hP; exact P.below
          replace g1 := (bcell hBB b _ hbB).trans g1
          replace g2 := (bcell hBB b _ hbB).trans g2
          replace g3 := (bcell hBB b _ hbB).trans g3
          replace g4 := (bcell hBB b _ hbB).trans g4
          have hbz : b < wr.heap.size := by have := hBB.size; omega
          have hlt' : (k : Int) < l.length := by omega
          have hc := hid (actK_any (M := (k : Int)) (by omega) (by omega) (by omega) (by omega) he hP hI dd ww rr ii)
          have HS := hid hS
          have HSk := hid hSk
          clear hP hI hBB hS hSk
          go_wp2_with fail
          refine hc.out.mono ?_
          rintro e w3 ⟨rfl, ra', rb', F', sp', vn', P3, N3, K3⟩
          have I3 := hid N3.i
          have S3 := hid (HS.out.keep K3 N3.k)
          obtain ⟨gd, nn, na, nb, xa, xb, xn, va, vb, p3⟩ := P3
          have P3 := hid p3
          obtain ⟨p0, p1, _, _⟩ := p3.c
          have zp := p3.bp.lt
          have hcl := hid (nlist_any p3.nt I3.out.l)
          clear hc p3 N3 K3 HS g1 g2 g3 g4 hbz
          go_wp2_with fail
          refine hcl.out.mono ?_
          rintro e w4 ⟨v', rfl, ho, hB4⟩
          obtain ⟨A', c', rfl, hc1, hc2, hrow⟩ := pk_row ho
          have P4 := hid (P3.out.step hB4)
          have S4 := hid (S3.out.below hB4)
          clear hcl P3 S3 p0 p1 zp ho hB4 hc1 hc2
          by_cases hF : F' = []
          · subst hF
            clear hrow
            as_aux_lemma =>
              go_wp2_with fail
              go_roundw
              case rel => exact ⟨k + 1, ra', rb', [], sp', vn', S, by omega, by go_num, ⟨_, _, _, _, _, _, _, _, _, P4.out⟩, by simpa using I3.out, S4.out, by have := HSk.out; omega⟩
              case measure => simp [intOf]; omega
          · obtain ⟨g, cur, rfl, _, hg2, hb, _, ht⟩ := hrow hF
            obtain ⟨m, hm1⟩ : ∃ m, F'.length = m + 1 := ⟨F'.length - 1, by have : F'.length ≠ 0 := fun h => hF (List.eq_nil_of_length_eq_zero h); omega⟩
            obtain ⟨k0, k1, k2⟩ := pk_cell hb ht (i := m) (by omega)
            have hpk := hid (I3.out.f F'[m] (List.getElem_mem (by omega)))
            obtain ⟨pp, hpp⟩ : ∃ pp, F'[m] = pp := ⟨_, rfl⟩
            rw [hpp] at hpk k0 k1 k2
            clear hpp
            obtain ⟨pa, pb, ps⟩ := pp
            simp only at k0 k1 k2
            have hml' := hid hm1
            have hFl : (F'.length : Int) = (m : Int) + 1 := by omega
            have hmB : m < 500 := by have := I3.out.l; omega
            have hF0 : (0 : Int) < (m : Int) + 1 := by omega
            have hF2 : (m : Int) < (m : Int) + 1 := by omega
            have P5 := hid (P4.out.alloc (Obj.cells #[.int .i64 pa, .int .i64 pb, .string ps] 76))
            have S5 := hid (S4.out.below (show Below w4.heap.size w4 (w4.alloc (Obj.cells #[.int .i64 pa, .int .i64 pb, .string ps] 76)) by (repeat (first | exact Below.refl _ _ | assumption | refine below_drewN ?_ _ | refine Below.drew ?_ | refine Below.alloc ?_ (by (try simp); (try omega)) _ | refine Below.setCell ?_ (by (try simp); (try omega)) _))))
            have hnw := hid (pk_news (p := (pa, pb, ps)) (Blk.new w4 76 #[.int .i64 pa, .int .i64 pb, .string ps]))
            have hbz := hid (show w.heap.size ≤ (w4.alloc (Obj.cells #[.int .i64 pa, .int .i64 pb, .string ps] 76)).heap.size from P5.out.below.size)
            have hlen := hid (show S.length + 1 ≤ 1000000 by have := HSk.out; omega)
            clear hb ht hm1 hF P4 S4
            rw [hml'.out]
            as_aux_lemma =>
              go_wp2_with (at_builtin; refine wp_appPk _ rfl (.tmp 70) (.tmp 77) rfl w.heap.size _ S rfl S5.out.r ⟨w4.heap.size, 0, none⟩ 1 [(pa, pb, ps)] rfl hnw.out hlen.out hbz.out ?_; intro v1 w6 ho1 hg1 hat1; have P6 := hid (P5.out.sent S5.out.r S5.out.a hg1); have S6 := hid (S5.out.app P5.out hpk.out ho1 hat1); clear ho1 hg1 hat1)
              go_wp2_with fail
              go_roundw
              case rel => exact ⟨k + 1, ra', rb', F', sp', vn', S ++ [(pa, pb, ps)], by omega, by go_num, ⟨_, _, _, _, _, _, _, _, _, P6.out⟩, by simpa using I3.out, S6.out, by have := HSk.out; simp; omega⟩
              case measure => simp [intOf]; omega
        · obtain rfl : k = l.length := by omega
          have hp := hid hP
          have hi := hid hI
          have hss := hid hS
          have hsk := hid hSk
          clear hP hI hS hSk
          go_wp2_with fail
          go_meet
          exact ⟨ra, rb, F, sp, vn, S, hp.out, hi.out, hss.out, hsk.out⟩
  case rest =>
    obtain ⟨ra, rb, F, sp, vn, S, hP, hI, hS, hSl⟩ := hcut
    obtain ⟨gd, nn, na, nb, xa, xb, xn, va, vb, P⟩ := hP
    obtain ⟨A, c, rfl, _, _, hrow⟩ := pk_row hS.r
    have p3 := hid P
    clear P2 I2 hs
    by_cases hSn : S = []
    · subst hSn
      clear P hI hS hrow
      as_aux_lemma =>
        go_wp2_with fail
        go_ret
        exact ⟨rfl, p3.out.below⟩
    · have hl0 : S.length ≠ 0 := fun h => hSn (List.eq_nil_of_length_eq_zero h)
      obtain ⟨g, cur, rfl, _, hg2, hb, _, ht⟩ := hrow hSn
      have hne : ¬ ((S.length : Int) = 0) := by omega
      have hR := modI_in (n := which) (m := S.length) (by omega)
      have hmd := mod_any which S.length (by omega) wc
      obtain ⟨R, hRe⟩ : ∃ R : Nat, modI which S.length = R := ⟨(modI which S.length).toNat, by omega⟩
      rw [hRe] at hR hmd
      have hRl : R < S.length := by omega
      obtain ⟨k0, k1, k2⟩ := pk_cell hb ht (i := R) hRl
      have hpk := hS.k S[R] (List.getElem_mem hRl)
      obtain ⟨T, U, d, xd, vd, me, x, o, xo, vo, mo, y, ⟨pk, pi, pn⟩, hp, hT, hU, hTU, hme, cT, cU, hSd, hTwo, hto⟩ := side_of P hI hpk
      rw [hp] at k0 k1 k2
      simp only at k0 k1 k2
      obtain ⟨i1, i2, i3⟩ := hto.i64 (by omega) (by omega) (by omega) hTwo
      obtain ⟨x1, a1, a2, a3, is1, b1, b2, b3, is2, e1, e2, hTw1⟩ := hear_thrice (by omega) hTwo hto take
      have E1 := hid e1
      have E2 := hid e2
      have TW := hid hTw1
      have HMD := hid hmd
      have hRl' : (R : Int) < S.length := by omega
      have hRB : R < 100 := by omega
      have hT0 : decide ((T : Int) < 0) = false := by simp
      have hT1 : decide ((1 : Int) < T) = false := by simp; omega
      have hT2 : (T : Int) < 2 := by omega
      have hU2 : (U : Int) < 2 := by omega
      have HM := hid (And.intro hme (And.intro i1 (And.intro i2 i3)))
      have D14 := hid (hSd.step (show Below wc.heap.size wc (wc.alloc (Obj.cells #[.int .i64 U, .int .i64 T, .string (bs (encP (pk, pi, pn)))] 76)) by (repeat (first | exact Below.refl _ _ | assumption | refine below_drewN ?_ _ | refine Below.drew ?_ | refine Below.alloc ?_ (by (try simp); (try omega)) _ | refine Below.setCell ?_ (by (try simp); (try omega)) _))))
      have P14 := hid (P.alloc (Obj.cells #[.int .i64 U, .int .i64 T, .string (bs (encP (pk, pi, pn)))] 76))
      have X14 := hid (Blk.new wc 76 #[.int .i64 U, .int .i64 T, .string (bs (encP (pk, pi, pn)))])
      have CT := hid cT
      have CU := hid cU
      clear hb ht hp hSn hrow hS hI P e1 e2 hTw1 hTwo hto hmd hRe hR hSd cT cU hpk hme i1 i2 i3 p3
      go_wp2_with fail
      refine HMD.out.mono ?_
      rintro e w5 ⟨rfl, rfl⟩
      clear HMD
      have hr := rpass_any (bs (encP (pk, pi, pn))) (wc.alloc (Obj.cells #[.int .i64 U, .int .i64 T, .string (bs (encP (pk, pi, pn)))] 76)) (by have := encP_66 (pk, pi, pn) HM.out.2.1 HM.out.2.2.1 HM.out.2.2.2; omega) (he.below D14.out.below)
      rw [show (bs (encP (pk, pi, pn))).data.toList = encP (pk, pi, pn) by simp [bs], rp_encPn (pk, pi, pn) HM.out.2.1 HM.out.2.2.1 HM.out.2.2.2] at hr
      have HR := hid hr
      clear hr
      go_wp2_with fail
      refine HR.out.mono ?_
      rintro e w6 ⟨rfl, hB6⟩
      clear HR k0 k1 k2 hg2
      have P15 := hid ((P14.out.step hB6).alloc (Obj.cells (pasv (pk, pi, pn)) 27))
      have D15 := hid ((D14.out.step hB6).step (show Below w6.heap.size w6 (w6.alloc (Obj.cells (pasv (pk, pi, pn)) 27)) by (repeat (first | exact Below.refl _ _ | assumption | refine below_drewN ?_ _ | refine Below.drew ?_ | refine Below.alloc ?_ (by (try simp); (try omega)) _ | refine Below.setCell ?_ (by (try simp); (try omega)) _))))
      have X15 := hid ((X14.out.below hB6 X14.out.lt).alloc (Obj.cells (pasv (pk, pi, pn)) 27))
      have Y15 := hid (Blk.new w6 27 (pasv (pk, pi, pn)))
      clear hB6 P14 D14 X14
      obtain ⟨w7, hw7⟩ : ∃ w7, w6.alloc (Obj.cells (pasv (pk, pi, pn)) 27) = w7 := ⟨_, rfl⟩
      rw [hw7] at P15 D15 X15 Y15
      generalize wc.heap.size = g14 at *
      obtain ⟨p0, _, _, _⟩ := P15.out.c
      have zp := P15.out.bp.lt; have zd := P15.out.bd.lt; have z14 := X15.out.lt
      have t1 := X15.out.cell 1
      have q0 := (P15.out.bd.cell T).trans CT.out
      have q1 := (P15.out.bd.cell U).trans CU.out
      simp at t1
      simp only [pasv] at hw7
      go_upto_region 22 with fail
      (try simp only [hw7])
      clear hw7
      generalize w6.heap.size = g15 at *
      have y0 := Y15.out.cell 0; have y1 := Y15.out.cell 1; have y2 := Y15.out.cell 2; have yz := Y15.out.lt
      simp at y0 y1 y2
      go_quiet (fail)
      go_wp2_with fail
      go_quiet (fail)
      go_wp2_with fail
      refine (hear_to (D15.out.drewN _).dd E1.out).mono ?_
      rintro e w9 ⟨rfl, hD9, hG9⟩
      have D9 := hid ((D15.out.drewN _).hear hD9 hG9)
      have Y9 := hid (Blk.grown (Y15.out.drewN _) hG9 (fun e => own_blk_ne D15.out.dd.r Y15.out (by decide) e.symm))
      clear hD9 hG9 y0 y1 y2 yz q0 q1 t1 p0 zp zd z14 P15 D15 X15 Y15 E1
      have D10 := hid (D9.out.step (show Below w9.heap.size w9 (w9.alloc (Obj.cells (pasv (a1, a2, a3)) 27)) by (repeat (first | exact Below.refl _ _ | assumption | refine below_drewN ?_ _ | refine Below.drew ?_ | refine Below.alloc ?_ (by (try simp); (try omega)) _ | refine Below.setCell ?_ (by (try simp); (try omega)) _))))
      have Y10 := hid (Y9.out.alloc (Obj.cells (pasv (a1, a2, a3)) 27))
      clear D9 Y9
      obtain ⟨w10, hw10⟩ : ∃ w10, w9.alloc (Obj.cells (pasv (a1, a2, a3)) 27) = w10 := ⟨_, rfl⟩
      rw [hw10] at D10 Y10
      simp only [pasv] at hw10
      go_wp2_with fail
      (try rw [hw10])
      clear hw10
      generalize w9.heap.size = g19 at *
      go_loopw [22] (fun j wq => ∃ t : Nat, t ≤ mine.length ∧ j = .int .i64 t ∧ w10 = wq) (fun j _ => mine.length - (intOf j).toNat)
      case atStart => exact ⟨0, by omega, rfl, rfl⟩
      case round =>
        obtain ⟨t, ht, rfl, rfl⟩ := hrel
        by_cases hlt2 : t < mine.length
        · have hlt2' : (t : Int) < mine.length := by omega
          have hone := (shape_one (TW.out.sh t (by omega) (by omega))).1
          have hpa := phase_any D10.out.dd t
          have hpb := phase_any D10.out.dn t
          generalize (getR x1 t).1 = xp at *
          generalize (getR y t).1 = yp at *
          have HA := hid hpa
          have HB := hid hpb
          clear hpa hpb
          by_cases hx1 : xp = 1
          · subst hx1
            have hy1 : ¬ yp = 1 := fun h => hone ⟨rfl, h⟩
            have hy2 : (yp == 1) = false := by simpa using hy1
            clear hone
            as_aux_lemma =>
              go_wp2_with fail
              refine HA.out.mono ?_
              rintro e w11 ⟨rfl, rfl⟩
              go_wp2_with fail
              refine HB.out.mono ?_
              rintro e w11 ⟨rfl, rfl⟩
              clear HA HB
              go_wp2_with fail
              go_roundw
              case rel => exact ⟨t + 1, by omega, by go_num, by first | trivial | rfl⟩
              case measure => simp [intOf]; omega
          · have hx2 : (xp == 1) = false := by simpa using hx1
            clear hone
            as_aux_lemma =>
              go_wp2_with fail
              refine HA.out.mono ?_
              rintro e w11 ⟨rfl, rfl⟩
              clear HA HB
              go_wp2_with fail
              go_roundw
              case rel => exact ⟨t + 1, by omega, by go_num, by first | trivial | rfl⟩
              case measure => simp [intOf]; omega
        · obtain rfl : t = mine.length := by omega
          have hme : I64 me := by have := HM.out.1; unfold I64; omega
          have hro := robs_i_ (M := (l.length : Int)) (by omega) TW.out.ox
          have hrl : x1.length ≤ 10000 := by rw [TW.out.lx]; omega
          have HQ := hid (And.intro hme (And.intro hro hrl))
          have HB := hid (dbytes_any D10.out.dd hme hro hrl (he.below D10.out.below))
          clear hme hro hrl ht hlt2
          as_aux_lemma =>
            go_wp2_with fail
            refine HB.out.mono ?_
            rintro e w11 ⟨rfl, hB11⟩
            have D11 := hid (D10.out.step hB11)
            have Y11 := hid (Y10.out.below hB11 Y10.out.lt)
            clear hB11 D10 Y10 HB
            have y0 := Y11.out.cell 0; have y1 := Y11.out.cell 1; have y2 := Y11.out.cell 2; have yz := Y11.out.lt
            simp at y0 y1 y2
            go_wp2_with fail
            refine (hear_to D11.out.dd (E2.out (!take))).mono ?_
            rintro e w12 ⟨rfl, hD12, hG12⟩
            have D12 := hid ((D11.out.hear hD12 hG12).step (show Below w12.heap.size w12 (w12.alloc (Obj.cells (pasv (b1, b2, b3)) 27)) by (repeat (first | exact Below.refl _ _ | assumption | refine below_drewN ?_ _ | refine Below.drew ?_ | refine Below.alloc ?_ (by (try simp); (try omega)) _ | refine Below.setCell ?_ (by (try simp); (try omega)) _))))
            have Y12 := hid ((Blk.grown Y11.out hG12 (fun e => own_blk_ne D11.out.dd.r Y11.out (by decide) e.symm)).alloc (Obj.cells (pasv (b1, b2, b3)) 27))
            have Z12 := hid (Blk.new w12 27 (pasv (b1, b2, b3)))
            clear hD12 hG12 D11 Y11 y0 y1 y2 yz
            obtain ⟨w13, hw13⟩ : ∃ w13, w12.alloc (Obj.cells (pasv (b1, b2, b3)) 27) = w13 := ⟨_, rfl⟩
            rw [hw13] at D12 Y12 Z12
            simp only [pasv] at hw13
            have y0 := Y12.out.cell 0; have y1 := Y12.out.cell 1; have y2 := Y12.out.cell 2; have yz := Y12.out.lt
            simp at y0 y1 y2
            go_upto_region 34 with fail
            (try rw [hw13])
            clear hw13
            generalize w12.heap.size = g24 at *
            go_wp2_with fail
            refine (hear_to D12.out.dd (E2.out take)).mono ?_
            rintro e w14 ⟨rfl, hD14, hG14⟩
            have D14 := hid ((D12.out.hear hD14 hG14).step (show Below w14.heap.size w14 (w14.alloc (Obj.cells (pasv (b1, b2, b3)) 27)) by (repeat (first | exact Below.refl _ _ | assumption | refine below_drewN ?_ _ | refine Below.drew ?_ | refine Below.alloc ?_ (by (try simp); (try omega)) _ | refine Below.setCell ?_ (by (try simp); (try omega)) _))))
            have Z14 := hid ((Blk.grown Z12.out hG14 (fun e => own_blk_ne D12.out.dd.r Z12.out (by decide) e.symm)).alloc (Obj.cells (pasv (b1, b2, b3)) 27))
            have V14 := hid (Blk.new w14 27 (pasv (b1, b2, b3)))
            clear hD14 hG14 D12 Y12 Z12 y0 y1 y2 yz
            obtain ⟨w15, hw15⟩ : ∃ w15, w14.alloc (Obj.cells (pasv (b1, b2, b3)) 27) = w15 := ⟨_, rfl⟩
            rw [hw15] at D14 Z14 V14
            simp only [pasv] at hw15
            have y0 := Z14.out.cell 0; have y1 := Z14.out.cell 1; have y2 := Z14.out.cell 2; have yz := Z14.out.lt
            have v0 := V14.out.cell 0; have v1 := V14.out.cell 1; have v2 := V14.out.cell 2; have vz := V14.out.lt
            simp at y0 y1 y2 v0 v1 v2
            go_upto_region 35 with fail
            (try rw [hw15])
            clear hw15
            generalize w14.heap.size = g27 at *
            go_wp2_with fail
            refine (dbytes_any D14.out.dd HQ.out.1 HQ.out.2.1 HQ.out.2.2 (he.below D14.out.below)).mono ?_
            rintro e w16 ⟨rfl, hB16⟩
            have B16 := hid ((D14.out.step hB16).below)
            clear hB16
            go_wp2_with fail
            go_ret
            exact ⟨rfl, B16.out⟩
end Go.Proofs.YtfofmbmmighdiaaDoor
namespace Go.Proofs.YtfofmbmmighdiaaDoor
open Go.RowKit Go.IntWalk Go.ChangeShapes Go.WideShapes Go.ChangeAt Go.WideElems

theorem seamStale_read : ∀ t ∈ Tryd.f6.params.toList, Tryd.prog.readableRec t = true ∧ t < Tryd.prog.types.size := by
  intro t ht
  have : t = 22 ∨ t = 57 ∨ t = 3 ∨ t = 4 := by
    rw [Tryd.params6] at ht; simpa using ht
  rcases this with rfl | rfl | rfl | rfl
  · exact ⟨by kernel_rfl, of_decide_eq_true (by kernel_rfl)⟩
  · exact ⟨by kernel_rfl, of_decide_eq_true (by kernel_rfl)⟩
  · exact ⟨by kernel_rfl, of_decide_eq_true (by kernel_rfl)⟩
  · exact ⟨by kernel_rfl, of_decide_eq_true (by kernel_rfl)⟩

set_option maxRecDepth 100000 in
theorem seamStale_lifted (os : Os) (started : os.Started) (H : Type) (enc : TypeId × Value → H) :
    ReturnsInHanded {} Tryd.checked os 6 .any (fun w args => (Rows.seamStaleSpec.pre enc Tryd.prog Tryd.f6 [] false w args ∧ laidMetH Tryd.prog laid5 w) ∧ sizedMet enc Tryd.prog Tryd.f6 (OpenSpec.ofChange Rows.seamStaleSpec) false w args)
      (Rows.seamStaleSpec.post enc Tryd.prog Tryd.f6 false true false false) := by
  refine returnsInHanded_of_change_and (C := Tryd.checked) (X := fun w _ => laidMetH Tryd.prog laid5 w) (fun w w' args hh h => met_heap (w := w) (w' := w') hh h) own started (by kernel_rfl) Tryd.func6
    (ChangeSpec.witness_shaped (enc := enc) (C := Tryd.checked) (os := os) (X := fun w _ => laidMetH Tryd.prog laid5 w) false (World.doorLaid Tryd.prog 62 os) #[.slice none 0 0, .slice none 0 0, .int .i64 0, .bool false] 8 rfl (World.shaped_of_RefB (by kernel_rfl) (by kernel_rfl)) (by kernel_rfl) (by kernel_rfl) (by kernel_rfl) (door_met os _)) ?_
  intro W base args ds gs before hval0 hW _ _ hL _
  refine post_law (C := Tryd.checked) (f := 6) (fn := Tryd.f6) (s := Rows.seamStaleSpec) (tb := 4) H enc laidOut rfl Tryd.underlying4 rfl seamStale_read (by
      intro ds hd
      match ds, hd with
      | [d0, d1, d2, d3], _ => rfl) hW ?_
  intro p hA
  have hval : ∀ (j : Nat) t v, Tryd.f6.params[j]? = some t → args[j]? = some v → Value.okWide Tryd.prog W .any base t v := hval0
  have hA : DataW.TrodAll enc Tryd.prog W 0 (fun _ => true) true Tryd.f6.params.toList args.toList ds p := hA
  rw [Tryd.params6] at hA hval
  obtain ⟨v0, v1, v2, v3, d0, d1, d2, d3, p0_, p1_, p2_, p3_, rfl, rfl, rfl, h0, h1, h2, h3⟩ := trodAll_four hA
  obtain ⟨A0, c0, l0, rfl, p01, p02, p03⟩ := arg_slice Tryd.underlying22 opBools (hval 0 _ _ rfl rfl) h0
  obtain ⟨A1, c1, l1, rfl, p11, p12, p13⟩ := arg_slice Tryd.underlying57 opActs (hval 1 _ _ rfl rfl) h1
  obtain ⟨n2, rfl, p2⟩ := arg_int Tryd.underlying3 (hval 2 _ _ rfl rfl) h2
  obtain ⟨b3, rfl⟩ := arg_bool Tryd.underlying4 (hval 3 _ _ rfl rfl)
  exact sstale_any A0 c0 l0 A1 c1 l1 n2 b3 W (Nat.le_trans p01 p02) (Nat.le_trans p11 p12) p03 p13 (env_of hL)

theorem seamStale_said : Rows.SeamStaleSaid :=
  OpenClaim.holds_of_wide 6 Tryd.f6 rfl rfl rfl rfl rfl rfl rfl ⟨rfl, rfl, rfl, rfl, rfl⟩ rfl rfl rfl rfl rfl (by kernel_rfl) Tryd.func6 (by kernel_rfl)
    (of_decide_eq_true (by kernel_rfl)) (by unfold Func.isWrapper; first | (rw [if_pos (by decide +kernel)]; kernel_rfl) | (rw [if_neg (by decide +kernel)]; exact ⟨rfl, rfl⟩))
    (fun os started H enc _ => seamStale_lifted os started H enc)
theorem seamStale_plain (f : FuncId) (fn : Func) (hf : Tryd.pinned.checked.prog.funcNamed "taquin/taquinlaw45.SeamStale" = some f) (hfn : Tryd.pinned.checked.prog.funcs[f]? = some fn) :
    true = Tryd.pinned.checked.prog.looks [] ∧ ∀ (j : Nat) t, fn.params[j]? = some t → Tryd.pinned.checked.prog.wantsStandIn t = false := by
  obtain rfl : f = 6 := Option.some.inj ((show Tryd.prog.funcNamed "taquin/taquinlaw45.SeamStale" = some 6 by kernel_rfl).symm.trans hf) |>.symm
  obtain rfl : fn = Tryd.f6 := (Option.some.inj (Tryd.func6.symm.trans hfn)).symm
  refine ⟨by kernel_rfl, fun j t ht => ?_⟩
  rw [Tryd.params6] at ht
  have this : t = 22 ∨ t = 57 ∨ t = 3 ∨ t = 4 := by simpa using Array.mem_of_getElem? ht
  rcases this with rfl | rfl | rfl | rfl
  · exact (show Tryd.prog.wantsStandIn 22 = false by kernel_rfl)
  · exact (show Tryd.prog.wantsStandIn 57 = false by kernel_rfl)
  · exact (show Tryd.prog.wantsStandIn 3 = false by kernel_rfl)
  · exact (show Tryd.prog.wantsStandIn 4 = false by kernel_rfl)
theorem seamStale_holds : Rows.SeamStaleCardSaid :=
  Claim7.holds_tied_plain_at .later [] _ _ _ _ seamStale_said (fun _ h => by cases h) (by kernel_rfl) (fun _ h => by cases h) seamStale_row_tie rfl ⟨rfl, rfl⟩ (by kernel_rfl) rfl seamStale_plain (by kernel_rfl)
#print axioms seamStale_holds
end Go.Proofs.YtfofmbmmighdiaaDoor
