
/- Seam: SeamOne, the walk. -/
import Derived.Test.YtfofmbmmighdiaaDoorSeamNj
import Derived.Test.YtfofmbmmighdiaaDoorSeamT
set_option linter.unusedSimpArgs false
set_option linter.unusedVariables false
namespace Go.Proofs.YtfofmbmmighdiaaDoor
open Go.RowKit Go.IntWalk

abbrev Ac := Int × Int × Int × Int
theorem ac_rep {w : World} {B : Nat} {es : List Value} {o : Ac} (h : Rep.rep w B es o) : es = [.int .i64 o.1, .int .i64 o.2.1, .int .i64 o.2.2.1, .int .i64 o.2.2.2] := by
  obtain ⟨e1, e2, rfl, _, _, ⟨rfl, h1⟩, e3, e4, rfl, _, _, ⟨rfl, h2⟩, e5, e6, rfl, _, _, ⟨rfl, h3⟩, rfl, h4⟩ := h
  rfl
theorem SlR.ac {w : World} {B : Nat} {A : Option Addr} {l : List Ac} (h : SlR w B A l) {k : Nat} (hk : k < l.length) : ∃ b off, A = some ⟨b, off, none⟩ ∧ b < B ∧
    w.cell? ⟨b, off + k * 4, none⟩ = some (.int .i64 l[k].1) ∧ w.cell? ⟨b, off + k * 4 + 1, none⟩ = some (.int .i64 l[k].2.1) ∧ w.cell? ⟨b, off + k * 4 + 2, none⟩ = some (.int .i64 l[k].2.2.1) ∧ w.cell? ⟨b, off + k * 4 + 3, none⟩ = some (.int .i64 l[k].2.2.2) := by
  obtain ⟨b, off, es, hA, hb, hs, hc, hr⟩ := h k _ (List.getElem?_eq_getElem hk)
  have hr := ac_rep hr
  subst hr
  have h4 : Rep.size Ac = 4 := rfl
  rw [h4] at hc
  exact ⟨b, off, hA, hb, by simpa using hc 0 _ rfl, by simpa using hc 1 _ rfl, by simpa using hc 2 _ rfl, by simpa using hc 3 _ rfl⟩
theorem act_any {M : Int} {n : Nat} {w0 wx : World} {px : Nat} {ra rb : List Rob} {F : List Pk} {sp : Int} (hM0 : 0 ≤ M) (hM1 : M ≤ 1000) (hn : n ≤ 100) (hn1 : 1 ≤ n) (he : Env w0) (hP : PairR w0 px ra rb F sp wx) (hI : Inv M n ra rb F sp) (dd ww rr ii : Int) :
    Calls Tryd.prog 32 #[.pointer (some ⟨px, 0, none⟩), .agg #[.int .i64 dd, .int .i64 ww, .int .i64 rr, .int .i64 ii]] wx (ActRes w0 px M n ra rb) := by
  rcases and_one ww with h | h
  · exact act_0 hM0 hM1 hn hn1 he hP hI dd ww rr ii h
  · exact act_1 hM0 hM1 hn hn1 he hP hI dd ww rr ii h
set_option maxRecDepth 100000 in
set_option maxHeartbeats 8000000 in
theorem sone_any (Am : Option Addr) (cm : Nat) (mine : List Bool) (Al : Option Addr) (cl : Nat) (l : List Ac) (w : World) (hml : mine.length ≤ maxLen) (hll : l.length ≤ maxLen)
    (hm : SlR w w.heap.size Am mine) (hs : SlR w w.heap.size Al l) (he : Env w) :
    Calls Tryd.prog 5 #[.slice Am mine.length cm, .slice Al l.length cl] w fun e w' => e = .returned (.bool true) ∧ Below w.heap.size w w' := by
  unfold maxLen at hml hll
  go_enter Tryd.func5, Tryd.ntmps5
  go_wp2_with fail
  refine (dsmall_any _).mono ?_
  rintro e w1 ⟨rfl, hB1⟩
  have B1 := hid hB1
  clear hB1
  by_cases h1 : (mine.length : Int) < 1
  · go_wp2_with fail
    go_ret
    exact ⟨rfl, B1.out⟩
  by_cases h6 : (6 : Int) < mine.length
  · go_wp2_with fail
    go_ret
    exact ⟨rfl, B1.out⟩
  by_cases h150 : (150 : Int) < l.length
  · go_wp2_with fail
    go_ret
    exact ⟨rfl, B1.out⟩
  go_wp2_with fail
  refine (begin_any Am cm mine _ (by omega) ((hm.below B1.out).more B1.out.size)).mono ?_
  rintro e w2 ⟨px, rfl, gd, nn, na, nb, xa, xb, xn, va, vb, vn, P⟩
  have P2 := hid (show PairR w px (rowA mine) (rowB mine) [] 0 w2 from ⟨gd, nn, na, nb, xa, xb, xn, va, vb, vn, ⟨B1.out.trans (P.below.mono B1.out.size), ⟨Nat.le_trans B1.out.size P.lo.1, Nat.le_trans B1.out.size P.lo.2.1, Nat.le_trans B1.out.size P.lo.2.2.1, Nat.le_trans B1.out.size P.lo.2.2.2.1, Nat.le_trans B1.out.size P.lo.2.2.2.2.1, Nat.le_trans B1.out.size P.lo.2.2.2.2.2⟩, P.hn, P.bp, P.bd, P.da, P.db, P.sab, P.sba, P.nt⟩⟩)
  have I2 := hid (inv_begin mine)
  clear P B1 gd nn na nb xa xb xn va vb vn
  go_wp2_with fail
  go_loopw [7] (fun i wr => ∃ (k : Nat) (ra rb : List Rob) (F : List Pk) (sp : Int), k ≤ l.length ∧ i = .int .i64 k ∧ PairR w px ra rb F sp wr ∧ Inv k mine.length ra rb F sp) (fun i _ => l.length - (intOf i).toNat)
  case atStart => exact ⟨0, _, _, _, _, by omega, rfl, P2.out, I2.out⟩
  case round =>
    clear P2 I2
    obtain ⟨k, ra, rb, F, sp, hk, rfl, hP, hI⟩ := hrel
    by_cases hlt : k < l.length
    · have hac := hs.ac hlt
      generalize l[k] = o at *
      obtain ⟨dd, ww, rr, ii⟩ := o
      obtain ⟨b, off, rfl, hbB, g1, g2, g3, g4⟩ := hac
      simp only at g1 g2 g3 g4
      have hBB : Below w.heap.size w wr := by obtain ⟨gd, nn, na, nb, xa, xb, xn, va, vb, vn, P⟩ := hP; exact P.below
      replace g1 := (bcell hBB b _ hbB).trans g1
      replace g2 := (bcell hBB b _ hbB).trans g2
      replace g3 := (bcell hBB b _ hbB).trans g3
      replace g4 := (bcell hBB b _ hbB).trans g4
      have hbz : b < wr.heap.size := by have := hBB.size; omega
      have hlt' : (k : Int) < l.length := by omega
      have hc := hid (act_any (M := (k : Int)) (by omega) (by omega) (by omega) (by omega) he hP hI dd ww rr ii)
      clear hP hI hBB
      go_wp2_with fail
      refine hc.out.mono ?_
      rintro e w3 ⟨rfl, ra', rb', F', sp', P3, N3⟩
      have I3 := hid N3.i
      obtain ⟨gd, nn, na, nb, xa, xb, xn, va, vb, vn, P⟩ := P3
      have p3 := hid P
      clear hc P N3 g1 g2 g3 g4 hbz
      go_wp2_with fail
      go_loopw [8] (fun j wq => ∃ t : Nat, t ≤ mine.length ∧ j = .int .i64 t ∧ w3 = wq) (fun j _ => mine.length - (intOf j).toNat)
      case atStart => exact ⟨0, by omega, rfl, rfl⟩
      case round =>
        obtain ⟨t, ht, rfl, rfl⟩ := hrel
        by_cases hlt2 : t < mine.length
        · have hlt2' : (t : Int) < mine.length := by omega
          have hsh := I3.out.t.sh t (by omega) (by omega)
          have hone := shape_one hsh
          clear hsh
          have hda := hid (fun i => phase_any p3.out.da i)
          have hdb := hid (fun i => phase_any p3.out.db i)
          have hna := hid (fun i => no_any p3.out.da i)
          have hnb := hid (fun i => no_any p3.out.db i)
          have ba := (getR_ok (M := (k : Int) + 1) (by omega) I3.out.t.ox t).n
          have hpxa := (getR_ok (M := (k : Int) + 1) (by omega) I3.out.t.ox t).p
          have hpyb := (getR_ok (M := (k : Int) + 1) (by omega) I3.out.t.oy t).p
          have bb := (getR_ok (M := (k : Int) + 1) (by omega) I3.out.t.oy t).n
          obtain ⟨p0, p1, e0, e1⟩ := p3.out.c
          have zp := p3.out.bp.lt; have zd := p3.out.bd.lt
          obtain ⟨xp, xm, xf, hxe⟩ : ∃ xp xm xf, getR ra' t = (xp, xm, xf) := ⟨_, _, _, rfl⟩
          obtain ⟨yp, ym, yf, hye⟩ : ∃ yp ym yf, getR rb' t = (yp, ym, yf) := ⟨_, _, _, rfl⟩
          have hpa := hid (by have := hda.out t; rw [hxe] at this; exact this)
          have hpb := hid (by have := hdb.out t; rw [hye] at this; exact this)
          have hqa := hid (by have := hna.out t; rw [hxe] at this; exact this)
          have hqb := hid (by have := hnb.out t; rw [hye] at this; exact this)
          rw [hxe] at hone ba hpxa
          rw [hye] at hone bb hpyb
          simp only at hone ba bb hpxa hpyb
          clear hxe hye hda hdb hna hnb
          have ha1 : ¬ (xp = 1 ∧ yp = 1) := hone.1
          have ha2 : ¬ (xp = 0 ∧ yp = 0) := hone.2.1
          have ha3 : ¬ (1 : Int) < xm - ym := by omega
          have ha4 : ¬ (1 : Int) < ym - xm := by omega
          have ha5 : ¬ (xp = 1 ∧ xm < ym) := hone.2.2.2.2.1
          have ha6 : ¬ (yp = 1 ∧ ym < xm) := hone.2.2.2.2.2
          have hz := hid (And.intro hpxa (And.intro hpyb (And.intro ha1 (And.intro ha2 (And.intro ha5 ha6)))))
          clear hone ha1 ha2 ha5 ha6 hpxa hpyb
          go_wp2_with fail
          refine hpa.out.mono ?_
          rintro e w9 ⟨rfl, rfl⟩
          go_wp2_with fail
          refine hpb.out.mono ?_
          rintro e w9 ⟨rfl, rfl⟩
          clear hpa hpb
          go_upto_region 17 with fail
          by_cases hc01 : xp = 0 ∧ yp = 1
          · obtain ⟨rfl, rfl⟩ := hc01
            have k1 : ¬ ym < xm := by have := hz.out; omega
            have k2 : decide (ym < xm) = false := by simpa using k1
            as_aux_lemma =>
              go_wp2_with fail
              refine hqa.out.mono ?_
              rintro e w9 ⟨rfl, rfl⟩
              go_wp2_with fail
              refine hqb.out.mono ?_
              rintro e w9 ⟨rfl, rfl⟩
              clear hqa hqb
              go_wp2_with fail
              go_roundw
              case rel => exact ⟨t + 1, by omega, by go_num, by first | trivial | rfl⟩
              case measure => simp [intOf]; omega
          by_cases hc02 : xp = 0 ∧ yp = 2
          · obtain ⟨rfl, rfl⟩ := hc02
            as_aux_lemma =>
              go_wp2_with fail
              refine hqa.out.mono ?_
              rintro e w9 ⟨rfl, rfl⟩
              go_wp2_with fail
              refine hqb.out.mono ?_
              rintro e w9 ⟨rfl, rfl⟩
              clear hqa hqb
              go_wp2_with fail
              go_roundw
              case rel => exact ⟨t + 1, by omega, by go_num, by first | trivial | rfl⟩
              case measure => simp [intOf]; omega
          by_cases hc10 : xp = 1 ∧ yp = 0
          · obtain ⟨rfl, rfl⟩ := hc10
            have k1 : ¬ xm < ym := by have := hz.out; omega
            have k2 : decide (xm < ym) = false := by simpa using k1
            as_aux_lemma =>
              go_wp2_with fail
              refine hqa.out.mono ?_
              rintro e w9 ⟨rfl, rfl⟩
              go_wp2_with fail
              refine hqb.out.mono ?_
              rintro e w9 ⟨rfl, rfl⟩
              clear hqa hqb
              go_wp2_with fail
              go_roundw
              case rel => exact ⟨t + 1, by omega, by go_num, by first | trivial | rfl⟩
              case measure => simp [intOf]; omega
          by_cases hc12 : xp = 1 ∧ yp = 2
          · obtain ⟨rfl, rfl⟩ := hc12
            have k1 : ¬ xm < ym := by have := hz.out; omega
            have k2 : decide (xm < ym) = false := by simpa using k1
            as_aux_lemma =>
              go_wp2_with fail
              refine hqa.out.mono ?_
              rintro e w9 ⟨rfl, rfl⟩
              go_wp2_with fail
              refine hqb.out.mono ?_
              rintro e w9 ⟨rfl, rfl⟩
              clear hqa hqb
              go_wp2_with fail
              go_roundw
              case rel => exact ⟨t + 1, by omega, by go_num, by first | trivial | rfl⟩
              case measure => simp [intOf]; omega
          by_cases hc20 : xp = 2 ∧ yp = 0
          · obtain ⟨rfl, rfl⟩ := hc20
            as_aux_lemma =>
              go_wp2_with fail
              refine hqa.out.mono ?_
              rintro e w9 ⟨rfl, rfl⟩
              go_wp2_with fail
              refine hqb.out.mono ?_
              rintro e w9 ⟨rfl, rfl⟩
              clear hqa hqb
              go_wp2_with fail
              go_roundw
              case rel => exact ⟨t + 1, by omega, by go_num, by first | trivial | rfl⟩
              case measure => simp [intOf]; omega
          by_cases hc21 : xp = 2 ∧ yp = 1
          · obtain ⟨rfl, rfl⟩ := hc21
            have k1 : ¬ ym < xm := by have := hz.out; omega
            have k2 : decide (ym < xm) = false := by simpa using k1
            as_aux_lemma =>
              go_wp2_with fail
              refine hqa.out.mono ?_
              rintro e w9 ⟨rfl, rfl⟩
              go_wp2_with fail
              refine hqb.out.mono ?_
              rintro e w9 ⟨rfl, rfl⟩
              clear hqa hqb
              go_wp2_with fail
              go_roundw
              case rel => exact ⟨t + 1, by omega, by go_num, by first | trivial | rfl⟩
              case measure => simp [intOf]; omega
          by_cases hc22 : xp = 2 ∧ yp = 2
          · obtain ⟨rfl, rfl⟩ := hc22
            as_aux_lemma =>
              go_wp2_with fail
              refine hqa.out.mono ?_
              rintro e w9 ⟨rfl, rfl⟩
              go_wp2_with fail
              refine hqb.out.mono ?_
              rintro e w9 ⟨rfl, rfl⟩
              clear hqa hqb
              go_wp2_with fail
              go_roundw
              case rel => exact ⟨t + 1, by omega, by go_num, by first | trivial | rfl⟩
              case measure => simp [intOf]; omega
          exfalso
          have := hz.out; omega
        · obtain rfl : t = mine.length := by omega
          go_wp2_with fail
          go_roundw
          case rel => exact ⟨k + 1, ra', rb', F', sp', by omega, by go_num, ⟨_, _, _, _, _, _, _, _, _, _, p3.out⟩, by simpa using I3.out⟩
          case measure => simp [intOf]; omega
    · obtain rfl : k = l.length := by omega
      obtain ⟨gd, nn, na, nb, xa, xb, xn, va, vb, vn, P⟩ := hP
      have hB := hid P.below
      clear P hI
      go_wp2_with fail
      go_ret
      exact ⟨rfl, hB.out⟩
end Go.Proofs.YtfofmbmmighdiaaDoor
