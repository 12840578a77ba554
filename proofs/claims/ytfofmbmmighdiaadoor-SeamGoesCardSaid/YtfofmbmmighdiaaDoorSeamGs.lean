
/- Seam: SeamGoes, the walk. -/
import Derived.Test.YtfofmbmmighdiaaDoorSeamGr
import Derived.Test.YtfofmbmmighdiaaDoorSeamNk
import Derived.Deep.CutBlock
set_option linter.unusedSimpArgs false
set_option linter.unusedVariables false
namespace Go.Proofs.YtfofmbmmighdiaaDoor
open Go.RowKit Go.IntWalk

theorem PairR.moved {w w1 w2 : World} {px : Nat} {ra rb : List Rob} {F : List Pk} {sp : Int} (h : PairR w1 px ra rb F sp w2) (hB : Below w.heap.size w w1) : PairR w px ra rb F sp w2 := by
  obtain ⟨gd, nn, na, nb, xa, xb, xn, va, vb, vn, P⟩ := h
  exact ⟨gd, nn, na, nb, xa, xb, xn, va, vb, vn, ⟨hB.trans (P.below.mono hB.size), ⟨Nat.le_trans hB.size P.lo.1, Nat.le_trans hB.size P.lo.2.1, Nat.le_trans hB.size P.lo.2.2.1, Nat.le_trans hB.size P.lo.2.2.2.1, Nat.le_trans hB.size P.lo.2.2.2.2.1, Nat.le_trans hB.size P.lo.2.2.2.2.2⟩, P.hn, P.bp, P.bd, P.da, P.db, P.sab, P.sba, P.nt⟩⟩
set_option maxRecDepth 100000 in
set_option maxHeartbeats 8000000 in
theorem sgoes_any (Am : Option Addr) (cm : Nat) (mine : List Bool) (Al : Option Addr) (cl : Nat) (l : List Ac) (robot : Int) (take : Bool) (w : World) (hml : mine.length ≤ maxLen) (hll : l.length ≤ maxLen)
    (hm : SlR w w.heap.size Am mine) (hs : SlR w w.heap.size Al l) (he : Env w) :
    Calls Tryd.prog 4 #[.slice Am mine.length cm, .slice Al l.length cl, .int .i64 robot, .bool take] w fun e w' => e = .returned (.bool true) ∧ Below w.heap.size w w' := by
  unfold maxLen at hml hll
  go_enter Tryd.func4, Tryd.ntmps4
  go_wp2_with fail
  refine (dsmall_any _).mono ?_
  rintro e w1 ⟨rfl, hB1⟩
  have B1 := hid hB1
  clear hB1
  by_cases h1 : (mine.length : Int) < 1
  · go_wp2_with fail
    go_ret
    exact ⟨rfl, B1.out⟩
  by_cases h6 : (4 : Int) < mine.length
  · go_wp2_with fail
    go_ret
    exact ⟨rfl, B1.out⟩
  by_cases h150 : (80 : Int) < l.length
  · go_wp2_with fail
    go_ret
    exact ⟨rfl, B1.out⟩
  go_wp2_with fail
  refine (begin_any Am cm mine _ (by omega) ((hm.below B1.out).more B1.out.size)).mono ?_
  rintro e w2 ⟨px, rfl, P⟩
  have P2 := hid (P.moved B1.out)
  have I2 := hid (inv_begin mine)
  clear P B1
  go_upto_block 0 with fail
  go_cut [11] (fun _ wx => ∃ ra rb F sp, PairR w px ra rb F sp wx ∧ Inv (l.length : Int) mine.length ra rb F sp)
  case first =>
    as_aux_lemma =>
      go_wp2_with fail
      go_loopw [11] (fun i wr => ∃ (k : Nat) (ra rb : List Rob) (F : List Pk) (sp : Int), k ≤ l.length ∧ i = .int .i64 k ∧ PairR w px ra rb F sp wr ∧ Inv k mine.length ra rb F sp) (fun i _ => l.length - (intOf i).toNat)
      case atStart => exact ⟨0, _, _, _, _, by omega, rfl, P2.out, I2.out⟩
      case round =>
        clear P2 I2
        obtain ⟨k, ra, rb, F, sp, hk, rfl, hP, hI⟩ := hrel
        by_cases hlt : k < l.length
        · have hac := hs.ac hlt
          generalize l[k] = o at *
          obtain ⟨dd, ww, rr, ii⟩ := o
          obtain ⟨b, off, rfl, hbB, g1, g2, g3, g4⟩ := hac
          simp only at g1 g2 g3 g4
          have hBB : Below w.heap.size w wr := by obtain ⟨gd, nn, na, nb, xa, xb, xn, va, vb, vn, P⟩ := hP; exact P.below
          replace g1 := (bcell hBB b _ hbB).trans g1
          replace g2 := (bcell hBB b _ hbB).trans g2
          replace g3 := (bcell hBB b _ hbB).trans g3
          replace g4 := (bcell hBB b _ hbB).trans g4
          have hbz : b < wr.heap.size := by have := hBB.size; omega
          have hlt' : (k : Int) < l.length := by omega
          have hc := hid (act_any (M := (k : Int)) (by omega) (by omega) (by omega) (by omega) he hP hI dd ww rr ii)
          clear hP hI hBB
          go_wp2_with fail
          refine hc.out.mono ?_
          rintro e w3 ⟨rfl, ra', rb', F', sp', P3, N3⟩
          have I3 := hid N3.i
          have p3 := hid P3
          clear hc P3 N3 g1 g2 g3 g4 hbz
          go_wp2_with fail
          go_roundw
          case rel => exact ⟨k + 1, ra', rb', F', sp', by omega, by go_num, p3.out, by simpa using I3.out⟩
          case measure => simp [intOf]; omega
        · obtain rfl : k = l.length := by omega
          have hp := hid hP
          have hi := hid hI
          clear hP hI
          go_wp2_with fail
          go_meet
          exact ⟨ra, rb, F, sp, hp.out, hi.out⟩
  case rest =>
    obtain ⟨ra, rb, F, sp, hP, hI⟩ := hcut
    obtain ⟨gd, nn, na, nb, xa, xb, xn, va, vb, vn, P⟩ := hP
    have hi := hid hI
    have hp := hid P
    obtain ⟨p0, p1, _, _⟩ := P.c
    have zp := P.bp.lt
    clear P2 I2 P hI hs
    go_wp2_with fail
    refine (nheal_any hp.out.nt).mono ?_
    rintro e w3 ⟨x9, v9, rfl, hy, N3, C3, _⟩
    have P3 := hid (show PairR w px ra rb F 0 w3 from ⟨_, _, _, _, _, _, _, _, _, _, hp.out.net N3 C3⟩)
    have I3 := hid (show Inv (l.length : Int) mine.length ra rb F 0 from ⟨hi.out.t, hi.out.f, hi.out.l, .inl rfl⟩)
    have hn4 : mine.length ≤ 4 := by omega
    have hn1 : 1 ≤ mine.length := by omega
    have hM80 : (l.length : Int) ≤ 80 := by omega
    have hM0 : 0 ≤ (l.length : Int) ∧ (l.length : Int) ≤ 80 := by omega
    clear N3 C3 hy hp hi p0 p1 zp hll hM80 h150
    generalize (l.length : Int) = M at *
    go_upto_block 2 with fail
    go_cut [12] (fun _ wx => PairR w px ra rb [] 0 wx ∧ Inv M mine.length ra rb [] 0)
    case first =>
      as_aux_lemma =>
        go_wp2_with fail
        go_loopw [12] (fun i wr => ∃ (k : Nat) (F : List Pk), k + F.length ≤ 500 ∧ i = .int .i64 k ∧ PairR w px ra rb F 0 wr ∧ Inv M mine.length ra rb F 0) (fun i _ => 500 - (intOf i).toNat)
        case atStart => exact ⟨0, F, by have := I3.out.l; omega, rfl, P3.out, I3.out⟩
        case round =>
          clear P3 I3
          obtain ⟨k, F, hk, rfl, hP, hI⟩ := hrel
          obtain ⟨gd, nn, na, nb, xa, xb, xn, va, vb, vn, P⟩ := hP
          have hp := hid P
          have hi := hid hI
          obtain ⟨p0, p1, _, _⟩ := P.c
          have zp := P.bp.lt
          have hc := hid (count_any P.nt)
          clear P hI
          by_cases hF : F.length = 0
          · have hF' := wt_nil hF
            subst hF'
            by_cases hk5 : (k : Int) < 500
            · go_wp2_with fail
              refine hc.out.mono ?_
              rintro e w9 ⟨rfl, rfl⟩
              go_wp2_with fail
              go_meet
              exact ⟨⟨_, _, _, _, _, _, _, _, _, _, hp.out⟩, hi.out⟩
            · go_wp2_with fail
              go_meet
              exact ⟨⟨_, _, _, _, _, _, _, _, _, _, hp.out⟩, hi.out⟩
          · have hk5 : (k : Int) < 500 := by omega
            have hF1 : (0 : Int) < F.length := by omega
            go_wp2_with fail
            refine hc.out.mono ?_
            rintro e w9 ⟨rfl, rfl⟩
            go_wp2_with fail
            refine (ndrop_any hp.out.nt hi.out.l 0).mono ?_
            rintro e w9 ⟨x9, v9, rfl, hy, N9, C9, _⟩
            have P9 := hid (show PairR w px ra rb (dropN F 0) 0 w9 from ⟨_, _, _, _, _, _, _, _, _, _, hp.out.net N9 C9⟩)
            have hl9 := hid (show k + 1 + (dropN F 0).length ≤ 500 by
              have e : dropN F 0 = F.eraseIdx 0 := by unfold dropN; rw [if_pos ⟨by omega, by omega⟩]; rfl
              rw [e, List.length_eraseIdx_of_lt (by omega)]; omega)
            clear N9 C9 hy hc p0 p1 zp
            go_wp2_with fail
            go_roundw
            case rel => exact ⟨k + 1, dropN F 0, hl9.out, by go_num, P9.out, ⟨hi.out.t, fun p hp => hi.out.f p (dropN_mem hp), dropN_len hi.out.l, .inl rfl⟩⟩
            case measure => simp [intOf]; omega
    case rest =>
      obtain ⟨hP, hI⟩ := hcut
      have p4 := hid hP
      have i4 := hid hI
      clear P3 I3 hP hI
      go_upto_block 4 with fail
      go_cut [13] (fun _ wx => ∃ ra rb, PairR w px ra rb [] 0 wx ∧ Inv M mine.length ra rb [] 0 ∧ Set1 mine.length ra rb)
      case first =>
        as_aux_lemma =>
          go_wp2_with fail
          go_loopw [13] (fun i wr => ∃ (k : Nat) (ra rb : List Rob), k ≤ 2 ∧ i = .int .i64 k ∧ PairR w px ra rb [] 0 wr ∧ Inv M mine.length ra rb [] 0 ∧ (1 ≤ k → Set1 mine.length ra rb)) (fun i _ => 2 - (intOf i).toNat)
          case atStart => exact ⟨0, ra, rb, by omega, rfl, p4.out, i4.out, fun h => by omega⟩
          case round =>
            clear p4 i4
            obtain ⟨k, ra, rb, hk, rfl, hP, hI, hS⟩ := hrel
            have p5 := hid hP
            have i5 := hid hI
            have s5 := hid hS
            clear hP hI hS
            by_cases hk2 : k < 2
            · have hk2' : (k : Int) < 2 := by omega
              go_upto_block 6 with fail
              go_cut [14] (fun _ wx => ∃ F, PairR w px ra rb F 0 wx ∧ Gl M mine.length ra rb F ∧ wtF F ≤ 16)
              case first =>
                as_aux_lemma =>
                  go_wp2_with fail
                  go_loopw [14] (fun j wr => ∃ (t : Nat) (F : List Pk), t ≤ 2 ∧ j = .int .i64 t ∧ PairR w px ra rb F 0 wr ∧ Inv M mine.length ra rb F 0 ∧ wtF F ≤ 8 * t ∧ (1 ≤ t → Off ra F 1 mine.length) ∧ (2 ≤ t → Off rb F 0 mine.length)) (fun j _ => 2 - (intOf j).toNat)
                  case atStart => exact ⟨0, [], by omega, rfl, p5.out, i5.out, by simp [wtF], fun h => by omega, fun h => by omega⟩
                  case round =>
                    clear p5 i5 s5
                    obtain ⟨t, F, ht, rfl, hP, hI, hW, ho1, ho2⟩ := hrel
                    by_cases ht0 : t = 0
                    · subst ht0
                      go_wp2_with fail
                      go_loopw [15] (fun j wr => ∃ (u : Nat) (F : List Pk), u ≤ mine.length ∧ j = .int .i64 u ∧ PairR w px ra rb F 0 wr ∧ Inv M mine.length ra rb F 0 ∧ wtF F ≤ 2 * u ∧ Off ra F 1 u) (fun j _ => mine.length - (intOf j).toNat)
                      case atStart => exact ⟨0, F, by omega, rfl, hP, hI, by omega, Off.zero _ _ _⟩
                      case round =>
                        clear hP hI hW ho1 ho2
                        obtain ⟨u, F, hu, rfl, hP, hI, hW, ho⟩ := hrel
                        obtain ⟨gd, nn, na, nb, xa, xb, xn, va, vb, vn, P⟩ := hP
                        have hp := hid P
                        have hi := hid hI
                        clear P hI
                        by_cases hlt : u < mine.length
                        · have hlt' : (u : Int) < mine.length := by omega
                          have hof := hid (side_again hM0.1 hi.out.t u)
                          have hc := hid (again_any hp.out.da u)
                          obtain ⟨⟨⟨k9, i9, m9⟩, en⟩, hrr⟩ : ∃ q, againL ra u = q := ⟨_, rfl⟩
                          have HRR := hid hrr
                          rw [hrr] at hof hc
                          have HO := hid ho
                          have HO1 := hid (ho)
                          clear hrr ho
                          have hFl := hid (wtF_len F)
                          obtain ⟨p0, p1, e0, e1⟩ := hp.out.c
                          have zp := hp.out.bp.lt; have zd := hp.out.bd.lt
                          go_wp2_with fail
                          refine hc.out.mono ?_
                          rintro e w8 ⟨rfl, hB8⟩
                          have P8 := hid ((hp.out.step hB8).alloc (Obj.cells (pasv (k9, i9, m9)) 27))
                          have X8 := hid (Blk.new w8 27 (pasv (k9, i9, m9)))
                          clear hB8 hc p0 p1 e0 e1 zp zd
                          obtain ⟨p0, p1, e0, e1⟩ := P8.out.c
                          have zp := P8.out.bp.lt
                          have x0 := X8.out.cell 0; have x1 := X8.out.cell 1; have x2 := X8.out.cell 2; have zx := X8.out.lt
                          simp at x0 x1 x2
                          by_cases hen : en = 0
                          · subst hen
                            have hm9 := hof.out rfl
                            obtain ⟨i1, i2, i3⟩ := hm9.i64 hM0.1 (by omega) (by omega) (hi.out.t).symm
                            have cS := hid (psend_any P8.out (.inl rfl) hi.out.l he 0 (by simp) k9 i9 m9 i1 i2 i3)
                            rw [sendN_all (by have := hFl.out; omega)] at cS
                            have hK := hid (pk_ab hm9)
                            have hst := hid (HO.out.step_yes (from_ := 0) (by rw [HRR.out]) (by unfold I64; omega) (by have := (getR_ok hM0.1 (hi.out.t).ox u).n; unfold I64; omega))
                            rw [HRR.out] at hst
                            clear i1 i2 i3 hm9
                            go_wp2_with fail
                            refine cS.out.mono ?_
                            rintro e w9 ⟨rfl, vn9, P9⟩
                            have p9 := hid P9
                            clear P9 cS p0 p1 e0 e1 zp x0 x1 x2 zx
                            go_wp2_with fail
                            go_roundw
                            case rel =>
                              (repeat apply Exists.intro)
                              refine ⟨⟨u + 1, _, by omega, by go_num, ⟨_, _, _, _, _, _, _, _, _, _, p9.out⟩, ⟨hi.out.t, ?_, ?_, .inl rfl⟩, ?_, hst.out⟩, rfl⟩
                              · intro q hq
                                rcases List.mem_append.1 hq with hq | hq
                                · exact hi.out.f q hq
                                · simp only [List.mem_cons, List.not_mem_nil, or_false] at hq
                                  rw [hq]; exact hK.out
                              · have := hFl.out; simp; omega
                              · have := wt_le (0, 1 - 0, bs (encP (k9, i9, m9))) F; omega
                            case measure => simp [intOf]; omega
                          · have hen' : (en == 0) = false := by simpa using hen
                            have cS := hid (psend_no P8.out 0 k9 i9 m9 en hen')
                            have hst := hid (HO.out.step_no (by rw [(hi.out.t).lx]; exact hlt) (by rw [HRR.out]; exact hen))
                            go_wp2_with fail
                            refine cS.out.mono ?_
                            rintro e w9 ⟨rfl, vn9, P9⟩
                            have p9 := hid P9
                            clear P9 cS p0 p1 e0 e1 zp x0 x1 x2 zx
                            go_wp2_with fail
                            go_roundw
                            case rel =>
                              (repeat apply Exists.intro)
                              exact ⟨⟨u + 1, F, by omega, by go_num, ⟨_, _, _, _, _, _, _, _, _, _, p9.out⟩, hi.out, by omega, hst.out⟩, rfl⟩
                            case measure => simp [intOf]; omega
                        · obtain rfl : u = mine.length := by omega
                          have hp' : PairR w px ra rb F 0 wr := ⟨_, _, _, _, _, _, _, _, _, _, hp.out⟩
                          have hq := hid hp'
                          have HO := hid ho
                          have HO1 := hid ho
                          clear hp hp' ho
                          go_wp2_with fail
                          go_roundw
                          case rel => exact ⟨1, F, by omega, by go_num, hq.out, hi.out, by omega, fun _ => HO.out, fun h => by omega⟩
                          case measure => simp [intOf]
                    by_cases ht1 : t = 1
                    · subst ht1
                      go_wp2_with fail
                      go_loopw [15] (fun j wr => ∃ (u : Nat) (F : List Pk), u ≤ mine.length ∧ j = .int .i64 u ∧ PairR w px ra rb F 0 wr ∧ Inv M mine.length ra rb F 0 ∧ wtF F ≤ 8 + 2 * u ∧ Off rb F 0 u ∧ Off ra F 1 mine.length) (fun j _ => mine.length - (intOf j).toNat)
                      case atStart => exact ⟨0, F, by omega, rfl, hP, hI, by omega, Off.zero _ _ _, ho1 (by omega)⟩
                      case round =>
                        clear hP hI hW ho1 ho2
                        obtain ⟨u, F, hu, rfl, hP, hI, hW, ho, ho1⟩ := hrel
                        obtain ⟨gd, nn, na, nb, xa, xb, xn, va, vb, vn, P⟩ := hP
                        have hp := hid P
                        have hi := hid hI
                        clear P hI
                        by_cases hlt : u < mine.length
                        · have hlt' : (u : Int) < mine.length := by omega
                          have hof := hid (side_again hM0.1 hi.out.t.symm u)
                          have hc := hid (again_any hp.out.db u)
                          obtain ⟨⟨⟨k9, i9, m9⟩, en⟩, hrr⟩ : ∃ q, againL rb u = q := ⟨_, rfl⟩
                          have HRR := hid hrr
                          rw [hrr] at hof hc
                          have HO := hid ho
                          have HO1 := hid (ho1)
                          clear hrr ho ho1
                          have hFl := hid (wtF_len F)
                          obtain ⟨p0, p1, e0, e1⟩ := hp.out.c
                          have zp := hp.out.bp.lt; have zd := hp.out.bd.lt
                          go_wp2_with fail
                          refine hc.out.mono ?_
                          rintro e w8 ⟨rfl, hB8⟩
                          have P8 := hid ((hp.out.step hB8).alloc (Obj.cells (pasv (k9, i9, m9)) 27))
                          have X8 := hid (Blk.new w8 27 (pasv (k9, i9, m9)))
                          clear hB8 hc p0 p1 e0 e1 zp zd
                          obtain ⟨p0, p1, e0, e1⟩ := P8.out.c
                          have zp := P8.out.bp.lt
                          have x0 := X8.out.cell 0; have x1 := X8.out.cell 1; have x2 := X8.out.cell 2; have zx := X8.out.lt
                          simp at x0 x1 x2
                          by_cases hen : en = 0
                          · subst hen
                            have hm9 := hof.out rfl
                            obtain ⟨i1, i2, i3⟩ := hm9.i64 hM0.1 (by omega) (by omega) (hi.out.t.symm).symm
                            have cS := hid (psend_any P8.out (.inl rfl) hi.out.l he 1 (by simp) k9 i9 m9 i1 i2 i3)
                            rw [sendN_all (by have := hFl.out; omega)] at cS
                            have hK := hid (pk_ba hm9)
                            have hst := hid (HO.out.step_yes (from_ := 1) (by rw [HRR.out]) (by unfold I64; omega) (by have := (getR_ok hM0.1 (hi.out.t.symm).ox u).n; unfold I64; omega))
                            rw [HRR.out] at hst
                            clear i1 i2 i3 hm9
                            go_wp2_with fail
                            refine cS.out.mono ?_
                            rintro e w9 ⟨rfl, vn9, P9⟩
                            have p9 := hid P9
                            clear P9 cS p0 p1 e0 e1 zp x0 x1 x2 zx
                            go_wp2_with fail
                            go_roundw
                            case rel =>
                              (repeat apply Exists.intro)
                              refine ⟨⟨u + 1, _, by omega, by go_num, ⟨_, _, _, _, _, _, _, _, _, _, p9.out⟩, ⟨hi.out.t, ?_, ?_, .inl rfl⟩, ?_, hst.out, HO1.out.app _⟩, rfl⟩
                              · intro q hq
                                rcases List.mem_append.1 hq with hq | hq
                                · exact hi.out.f q hq
                                · simp only [List.mem_cons, List.not_mem_nil, or_false] at hq
                                  rw [hq]; exact hK.out
                              · have := hFl.out; simp; omega
                              · have := wt_le (1, 1 - 1, bs (encP (k9, i9, m9))) F; omega
                            case measure => simp [intOf]; omega
                          · have hen' : (en == 0) = false := by simpa using hen
                            have cS := hid (psend_no P8.out 1 k9 i9 m9 en hen')
                            have hst := hid (HO.out.step_no (by rw [(hi.out.t.symm).lx]; exact hlt) (by rw [HRR.out]; exact hen))
                            go_wp2_with fail
                            refine cS.out.mono ?_
                            rintro e w9 ⟨rfl, vn9, P9⟩
                            have p9 := hid P9
                            clear P9 cS p0 p1 e0 e1 zp x0 x1 x2 zx
                            go_wp2_with fail
                            go_roundw
                            case rel =>
                              (repeat apply Exists.intro)
                              exact ⟨⟨u + 1, F, by omega, by go_num, ⟨_, _, _, _, _, _, _, _, _, _, p9.out⟩, hi.out, by omega, hst.out, HO1.out⟩, rfl⟩
                            case measure => simp [intOf]; omega
                        · obtain rfl : u = mine.length := by omega
                          have hp' : PairR w px ra rb F 0 wr := ⟨_, _, _, _, _, _, _, _, _, _, hp.out⟩
                          have hq := hid hp'
                          have HO := hid ho
                          have HO1 := hid ho1
                          clear hp hp' ho ho1
                          go_wp2_with fail
                          go_roundw
                          case rel => exact ⟨2, F, by omega, by go_num, hq.out, hi.out, by omega, fun _ => HO1.out, fun _ => HO.out⟩
                          case measure => simp [intOf]
                    obtain rfl : t = 2 := by omega
                    have hG := hid (live_of_off hI (ho1 (by omega)) (ho2 (by omega)))
                    have hp := hid hP
                    clear hP hI ho1 ho2
                    go_wp2_with fail
                    go_meet
                    exact ⟨F, hp.out, hG.out, by omega⟩
              case rest =>
                obtain ⟨F, hP, hG, hW⟩ := hcut
                have p6 := hid hP
                have g6 := hid hG
                clear hP hG
                as_aux_lemma =>
                  go_wp2_with fail
                  go_loopw [18] (fun j wr => ∃ (u : Nat) (ra rb : List Rob) (F : List Pk), j = .int .i64 u ∧ PairR w px ra rb F 0 wr ∧ Gl M mine.length ra rb F ∧ u + wtF F ≤ 16) (fun j _ => 50 - (intOf j).toNat)
                  case atStart => exact ⟨0, ra, rb, F, rfl, p6.out, g6.out, by omega⟩
                  case round =>
                    clear p6 g6 hW p5 i5 s5
                    obtain ⟨u, ra, rb, F, rfl, hP, hG, hW⟩ := hrel
                    have hq := hid hP
                    obtain ⟨gd, nn, na, nb, xa, xb, xn, va, vb, vn, P⟩ := hP
                    have hp := hid P
                    have hc := hid (count_any P.nt)
                    have hg := hid hG
                    clear P hG
                    have hu : (u : Int) < 50 := by omega
                    obtain ⟨p0, p1, e0, e1⟩ := hp.out.c
                    have zp := hp.out.bp.lt; have zd := hp.out.bd.lt
                    cases F with
                    | nil =>
                      go_wp2_with fail
                      refine hc.out.mono ?_
                      rintro e w9 ⟨rfl, rfl⟩
                      go_wp2_with fail
                      go_roundw
                      case rel => exact ⟨k + 1, ra, rb, by omega, by go_num, hq.out, hg.out.i, fun _ => set_of_live hg.out⟩
                      case measure => simp [intOf]; omega
                    | cons p T =>
                      have hlp : (0 : Int) < (p :: T).length := by simp only [List.length_cons]; omega
                      have hTl : T.length < 500 := by have := wtF_len (p :: T); simp at this; omega
                      have hca := hid (arrive_live hM0.1 (by omega) (by omega) he hq.out hg.out hTl)
                      go_wp2_with fail
                      refine hc.out.mono ?_
                      rintro e w9 ⟨rfl, rfl⟩
                      clear hc p0 p1 e0 e1 zp zd
                      go_wp2_with fail
                      refine hca.out.mono ?_
                      rintro e w9 ⟨rfl, ra', rb', F', P9, G9, W9⟩
                      have p9 := hid P9
                      have g9 := hid G9
                      clear P9 G9 hca
                      go_wp2_with fail
                      go_roundw
                      case rel => exact ⟨u + 1, ra', rb', F', by go_num, p9.out, g9.out, by omega⟩
                      case measure => simp [intOf]; omega
            · obtain rfl : k = 2 := by omega
              go_wp2_with fail
              go_meet
              exact ⟨ra, rb, p5.out, i5.out, s5.out (by omega)⟩
      case rest =>
        obtain ⟨ra, rb, hP, hI, hS⟩ := hcut
        have p8 := hid hP
        have i8 := hid hI
        have s8 := hid hS
        clear hP hI hS p4 i4
        go_upto_block 12 with fail
        go_cut [19] (fun _ wx => PairR w px ra rb [] 0 wx)
        case first =>
          as_aux_lemma =>
            go_wp2_with fail
            go_loopw [19] (fun j wq => ∃ t : Nat, t ≤ mine.length ∧ j = .int .i64 t ∧ PairR w px ra rb [] 0 wq) (fun j _ => mine.length - (intOf j).toNat)
            case atStart => exact ⟨0, by omega, rfl, p8.out⟩
            case round =>
              clear p8
              obtain ⟨t, ht, rfl, hP⟩ := hrel
              by_cases hlt : t < mine.length
              · have hlt' : (t : Int) < mine.length := by omega
                have hsh := s8.out t (by omega) hlt'
                obtain ⟨gd, nn, na, nb, xa, xb, xn, va, vb, vn, P⟩ := hP
                have hp := hid P
                clear P
                obtain ⟨p0, p1, e0, e1⟩ := hp.out.c
                have zp := hp.out.bp.lt; have zd := hp.out.bd.lt
                have hx := fun x : Ext (GB wr) => GB.cell x
                have hd := hsh.2
                clear hsh
                rcases hd with ⟨a1, _, a2⟩ | ⟨a2, _, a1⟩
                all_goals
                  have ca := hid fun x : Ext (GB wr) => GB.call (x := x) (v := .int .i64 (getR ra t).1) ((phase_any (hp.out.step x.h.out).da t).mono fun _ _ h => ⟨h.1, h.2 ▸ Below.refl _ _⟩)
                  have cb := hid fun x : Ext (GB wr) => GB.call (x := x) (v := .int .i64 (getR rb t).1) ((phase_any (hp.out.step x.h.out).db t).mono fun _ _ h => ⟨h.1, h.2 ▸ Below.refl _ _⟩)
                  rw [a1] at ca
                  rw [a2] at cb
                  clear a1 a2
                  go_upto_region 36 with fail
                  refine wp_region_ext (GB wr) (by kernel_rfl) (by kernel_rfl) (GB.refl _) ?_
                  repeat (go_big_quiet_step (first | with_reducible exact ca.out _ | with_reducible exact cb.out _))
                  refine wpQuiet_nil ?_
                  intro w7 hG
                  have P7 := hid (show PairR w px ra rb [] 0 w7 from ⟨_, _, _, _, _, _, _, _, _, _, hp.out.step hG.out⟩)
                  clear hx ca cb hG p0 p1 e0 e1 zp zd
                  go_wp2_with fail
                  go_roundw
                  case rel => exact ⟨t + 1, by omega, by go_num, P7.out⟩
                  case measure => simp [intOf]; omega
              · obtain rfl : t = mine.length := by omega
                have hp := hid hP
                clear hP
                go_wp2_with fail
                go_meet
                exact hp.out
        case rest =>
          have hP : PairR w px ra rb [] 0 wc := hcut
          clear p8 hcut
          obtain ⟨gd, nn, na, nb, xa, xb, xn, va, vb, vn, P⟩ := hP
          have hp := hid P
          clear P
          have hmd := hid (mod_any robot mine.length (by omega) wc)
          have hR := modI_in (n := robot) (m := mine.length) (by omega)
          go_wp2_with fail
          refine hmd.out.mono ?_
          rintro e w9 ⟨rfl, rfl⟩
          clear hmd
          have hS := s8.out _ hR.1 hR.2
          generalize modI robot mine.length = R at *
          obtain ⟨hxy, ⟨hx, _, hy⟩ | ⟨hx, _, hy⟩⟩ := hS
          · cases take with
            | true =>
              as_aux_lemma =>
                obtain ⟨k, e1_, k0, kM, e2_, e3_⟩ := last_offer hM0.1 i8.out.t hR.1 hR.2 hx hy hxy true
                have hlx : R < (ra).length := by rw [(i8.out.t).lx]; exact hR.2
                have hly : R < (rb).length := by rw [(i8.out.t).ly]; exact hR.2
                simp only [Bool.false_eq_true, if_true, if_false] at e2_ e3_
                have E2 := hid e2_
                have E3 := hid e3_
                have fx : (getR (setR (setR ra R (2, k + 1, (getR ra R).2.2)) R (0, k + 1, false)) R).1 = 0 := by rw [getR_set _ hR.1 (by rw [setR_len]; exact hlx), if_pos rfl]
                have fy : (getR (setR rb R (1, k + 1, false)) R).1 = 1 := by rw [getR_set _ hR.1 hly, if_pos rfl]
                have FX := hid fx
                have FY := hid fy
                have hc := hid (offer_any hp.out.da R (fun r hr => by have := ((i8.out.t).ox r hr).n; omega))
                rw [e1_] at hc
                have hph := hid (phase_any hp.out.db R)
                rw [show (getR rb R).1 = 0 from hy] at hph
                have iR : I64 R := by unfold I64; omega
                have iK : I64 (k + 1) := by unfold I64; omega
                clear e1_ e2_ e3_ fx fy
                generalize setR ra R (2, k + 1, (getR ra R).2.2) = x1 at *
                generalize setR x1 R (0, k + 1, false) = x2 at *
                generalize setR rb R (1, k + 1, false) = y1 at *
                obtain ⟨p0, p1, e0, e1⟩ := hp.out.c
                have zp := hp.out.bp.lt; have zd := hp.out.bd.lt
                go_wp2_with fail
                refine hph.out.mono ?_
                rintro e w9 ⟨rfl, rfl⟩
                go_wp2_with fail
                refine hc.out.mono ?_
                rintro e w8 ⟨rfl, D8, G8⟩
                have P8 := hid ((hp.out.a D8 G8).alloc (Obj.cells (pasv (0, R, k + 1)) 27))
                have X8 := hid (Blk.new w8 27 (pasv (0, R, k + 1)))
                clear D8 G8 hc hph p0 p1 e0 e1 zp zd
                have x0 := X8.out.cell 0; have x1_ := X8.out.cell 1; have x2_ := X8.out.cell 2; have zx := X8.out.lt
                simp at x0 x1_ x2_
                have cS := hid (psend_any P8.out (.inl rfl) (by simp) he 0 (by simp) 0 R (k + 1) (by simp [I64]) iR iK)
                rw [sendN_all (by simp)] at cS
                go_wp2_with fail
                refine cS.out.mono ?_
                rintro e w9 ⟨rfl, vn9, P9⟩
                have p9 := hid P9
                clear P9 cS x0 x1_ x2_ zx P8 X8
                have cA := hid (parrive_1 p9.out (by simp) (by intro p hp'; simp at hp'; subst hp'; exact .inl ⟨rfl, rfl⟩) he 0 (by simp) 0 R (k + 1) (by simp [I64]) iR iK rfl true [] rfl y1 1 R (k + 1) true (by simp [I64]) iR iK E2.out)
                rw [if_pos rfl, sendN_all (by simp)] at cA
                go_wp2_with fail
                refine cA.out.mono ?_
                rintro e w10 ⟨rfl, vn10, P10⟩
                have p10 := hid P10
                clear P10 cA
                have cB := hid (parrive_0 p10.out (by simp) (by intro p hp'; simp at hp'; subst hp'; exact .inr ⟨rfl, rfl⟩) he 0 (by simp) 1 R (k + 1) (by simp [I64]) iR iK rfl true [] rfl x2 0 0 0 false (by simp [I64]) (by simp [I64]) (by simp [I64]) E3.out)
                rw [if_neg (by decide)] at cB
                go_wp2_with fail
                refine cB.out.mono ?_
                rintro e w11 ⟨rfl, vn11, P11⟩
                have p11 := hid P11
                clear P11 cB
                obtain ⟨p0, p1, e0, e1⟩ := p11.out.c
                have zp := p11.out.bp.lt; have zd := p11.out.bd.lt
                have q1 := hid (phase_any p11.out.da R)
                have q2 := hid (phase_any p11.out.db R)
                rw [FX.out] at q1
                rw [FY.out] at q2
                go_wp2_with fail
                refine q2.out.mono ?_
                rintro e w12 ⟨rfl, rfl⟩
                go_wp2_with fail
                refine q1.out.mono ?_
                rintro e w12 ⟨rfl, rfl⟩
                go_wp2_with fail
                go_ret
                exact ⟨rfl, p11.out.below⟩
            | false =>
              as_aux_lemma =>
                obtain ⟨k, e1_, k0, kM, e2_, e3_⟩ := last_offer hM0.1 i8.out.t hR.1 hR.2 hx hy hxy false
                have hlx : R < (ra).length := by rw [(i8.out.t).lx]; exact hR.2
                have hly : R < (rb).length := by rw [(i8.out.t).ly]; exact hR.2
                simp only [Bool.false_eq_true, if_true, if_false] at e2_ e3_
                have E2 := hid e2_
                have E3 := hid e3_
                have fx : (getR (setR (setR ra R (2, k + 1, (getR ra R).2.2)) R (1, k + 1, (getR ra R).2.2)) R).1 = 1 := by rw [getR_set _ hR.1 (by rw [setR_len]; exact hlx), if_pos rfl]
                have fy : (getR (setR rb R (0, k + 1, true)) R).1 = 0 := by rw [getR_set _ hR.1 hly, if_pos rfl]
                have FX := hid fx
                have FY := hid fy
                have hc := hid (offer_any hp.out.da R (fun r hr => by have := ((i8.out.t).ox r hr).n; omega))
                rw [e1_] at hc
                have hph := hid (phase_any hp.out.db R)
                rw [show (getR rb R).1 = 0 from hy] at hph
                have iR : I64 R := by unfold I64; omega
                have iK : I64 (k + 1) := by unfold I64; omega
                clear e1_ e2_ e3_ fx fy
                generalize setR ra R (2, k + 1, (getR ra R).2.2) = x1 at *
                generalize setR x1 R (1, k + 1, (getR ra R).2.2) = x2 at *
                generalize setR rb R (0, k + 1, true) = y1 at *
                obtain ⟨p0, p1, e0, e1⟩ := hp.out.c
                have zp := hp.out.bp.lt; have zd := hp.out.bd.lt
                go_wp2_with fail
                refine hph.out.mono ?_
                rintro e w9 ⟨rfl, rfl⟩
                go_wp2_with fail
                refine hc.out.mono ?_
                rintro e w8 ⟨rfl, D8, G8⟩
                have P8 := hid ((hp.out.a D8 G8).alloc (Obj.cells (pasv (0, R, k + 1)) 27))
                have X8 := hid (Blk.new w8 27 (pasv (0, R, k + 1)))
                clear D8 G8 hc hph p0 p1 e0 e1 zp zd
                have x0 := X8.out.cell 0; have x1_ := X8.out.cell 1; have x2_ := X8.out.cell 2; have zx := X8.out.lt
                simp at x0 x1_ x2_
                have cS := hid (psend_any P8.out (.inl rfl) (by simp) he 0 (by simp) 0 R (k + 1) (by simp [I64]) iR iK)
                rw [sendN_all (by simp)] at cS
                go_wp2_with fail
                refine cS.out.mono ?_
                rintro e w9 ⟨rfl, vn9, P9⟩
                have p9 := hid P9
                clear P9 cS x0 x1_ x2_ zx P8 X8
                have cA := hid (parrive_1 p9.out (by simp) (by intro p hp'; simp at hp'; subst hp'; exact .inl ⟨rfl, rfl⟩) he 0 (by simp) 0 R (k + 1) (by simp [I64]) iR iK rfl false [] rfl y1 2 R (k + 1) true (by simp [I64]) iR iK E2.out)
                rw [if_pos rfl, sendN_all (by simp)] at cA
                go_wp2_with fail
                refine cA.out.mono ?_
                rintro e w10 ⟨rfl, vn10, P10⟩
                have p10 := hid P10
                clear P10 cA
                have cB := hid (parrive_0 p10.out (by simp) (by intro p hp'; simp at hp'; subst hp'; exact .inr ⟨rfl, rfl⟩) he 0 (by simp) 2 R (k + 1) (by simp [I64]) iR iK rfl false [] rfl x2 0 0 0 false (by simp [I64]) (by simp [I64]) (by simp [I64]) E3.out)
                rw [if_neg (by decide)] at cB
                go_wp2_with fail
                refine cB.out.mono ?_
                rintro e w11 ⟨rfl, vn11, P11⟩
                have p11 := hid P11
                clear P11 cB
                obtain ⟨p0, p1, e0, e1⟩ := p11.out.c
                have zp := p11.out.bp.lt; have zd := p11.out.bd.lt
                have q1 := hid (phase_any p11.out.da R)
                have q2 := hid (phase_any p11.out.db R)
                rw [FX.out] at q1
                rw [FY.out] at q2
                go_wp2_with fail
                refine q1.out.mono ?_
                rintro e w12 ⟨rfl, rfl⟩
                go_wp2_with fail
                refine q2.out.mono ?_
                rintro e w12 ⟨rfl, rfl⟩
                go_wp2_with fail
                go_ret
                exact ⟨rfl, p11.out.below⟩
          · have hxy := hxy.symm
            cases take with
            | true =>
              as_aux_lemma =>
                obtain ⟨k, e1_, k0, kM, e2_, e3_⟩ := last_offer hM0.1 i8.out.t.symm hR.1 hR.2 hx hy hxy true
                have hlx : R < (rb).length := by rw [(i8.out.t.symm).lx]; exact hR.2
                have hly : R < (ra).length := by rw [(i8.out.t.symm).ly]; exact hR.2
                simp only [Bool.false_eq_true, if_true, if_false] at e2_ e3_
                have E2 := hid e2_
                have E3 := hid e3_
                have fx : (getR (setR (setR rb R (2, k + 1, (getR rb R).2.2)) R (0, k + 1, false)) R).1 = 0 := by rw [getR_set _ hR.1 (by rw [setR_len]; exact hlx), if_pos rfl]
                have fy : (getR (setR ra R (1, k + 1, false)) R).1 = 1 := by rw [getR_set _ hR.1 hly, if_pos rfl]
                have FX := hid fx
                have FY := hid fy
                have hc := hid (offer_any hp.out.db R (fun r hr => by have := ((i8.out.t.symm).ox r hr).n; omega))
                rw [e1_] at hc
                have hph := hid (phase_any hp.out.db R)
                rw [show (getR rb R).1 = 1 from hx] at hph
                have iR : I64 R := by unfold I64; omega
                have iK : I64 (k + 1) := by unfold I64; omega
                clear e1_ e2_ e3_ fx fy
                generalize setR rb R (2, k + 1, (getR rb R).2.2) = x1 at *
                generalize setR x1 R (0, k + 1, false) = x2 at *
                generalize setR ra R (1, k + 1, false) = y1 at *
                obtain ⟨p0, p1, e0, e1⟩ := hp.out.c
                have zp := hp.out.bp.lt; have zd := hp.out.bd.lt
                go_wp2_with fail
                refine hph.out.mono ?_
                rintro e w9 ⟨rfl, rfl⟩
                go_wp2_with fail
                refine hc.out.mono ?_
                rintro e w8 ⟨rfl, D8, G8⟩
                have P8 := hid ((hp.out.b D8 G8).alloc (Obj.cells (pasv (0, R, k + 1)) 27))
                have X8 := hid (Blk.new w8 27 (pasv (0, R, k + 1)))
                clear D8 G8 hc hph p0 p1 e0 e1 zp zd
                have x0 := X8.out.cell 0; have x1_ := X8.out.cell 1; have x2_ := X8.out.cell 2; have zx := X8.out.lt
                simp at x0 x1_ x2_
                have cS := hid (psend_any P8.out (.inl rfl) (by simp) he 1 (by simp) 0 R (k + 1) (by simp [I64]) iR iK)
                rw [sendN_all (by simp)] at cS
                go_wp2_with fail
                refine cS.out.mono ?_
                rintro e w9 ⟨rfl, vn9, P9⟩
                have p9 := hid P9
                clear P9 cS x0 x1_ x2_ zx P8 X8
                have cA := hid (parrive_0 p9.out (by simp) (by intro p hp'; simp at hp'; subst hp'; exact .inr ⟨rfl, rfl⟩) he 0 (by simp) 0 R (k + 1) (by simp [I64]) iR iK rfl true [] rfl y1 1 R (k + 1) true (by simp [I64]) iR iK E2.out)
                rw [if_pos rfl, sendN_all (by simp)] at cA
                go_wp2_with fail
                refine cA.out.mono ?_
                rintro e w10 ⟨rfl, vn10, P10⟩
                have p10 := hid P10
                clear P10 cA
                have cB := hid (parrive_1 p10.out (by simp) (by intro p hp'; simp at hp'; subst hp'; exact .inl ⟨rfl, rfl⟩) he 0 (by simp) 1 R (k + 1) (by simp [I64]) iR iK rfl true [] rfl x2 0 0 0 false (by simp [I64]) (by simp [I64]) (by simp [I64]) E3.out)
                rw [if_neg (by decide)] at cB
                go_wp2_with fail
                refine cB.out.mono ?_
                rintro e w11 ⟨rfl, vn11, P11⟩
                have p11 := hid P11
                clear P11 cB
                obtain ⟨p0, p1, e0, e1⟩ := p11.out.c
                have zp := p11.out.bp.lt; have zd := p11.out.bd.lt
                have q1 := hid (phase_any p11.out.db R)
                have q2 := hid (phase_any p11.out.da R)
                rw [FX.out] at q1
                rw [FY.out] at q2
                go_wp2_with fail
                refine q2.out.mono ?_
                rintro e w12 ⟨rfl, rfl⟩
                go_wp2_with fail
                refine q1.out.mono ?_
                rintro e w12 ⟨rfl, rfl⟩
                go_wp2_with fail
                go_ret
                exact ⟨rfl, p11.out.below⟩
            | false =>
              as_aux_lemma =>
                obtain ⟨k, e1_, k0, kM, e2_, e3_⟩ := last_offer hM0.1 i8.out.t.symm hR.1 hR.2 hx hy hxy false
                have hlx : R < (rb).length := by rw [(i8.out.t.symm).lx]; exact hR.2
                have hly : R < (ra).length := by rw [(i8.out.t.symm).ly]; exact hR.2
                simp only [Bool.false_eq_true, if_true, if_false] at e2_ e3_
                have E2 := hid e2_
                have E3 := hid e3_
                have fx : (getR (setR (setR rb R (2, k + 1, (getR rb R).2.2)) R (1, k + 1, (getR rb R).2.2)) R).1 = 1 := by rw [getR_set _ hR.1 (by rw [setR_len]; exact hlx), if_pos rfl]
                have fy : (getR (setR ra R (0, k + 1, true)) R).1 = 0 := by rw [getR_set _ hR.1 hly, if_pos rfl]
                have FX := hid fx
                have FY := hid fy
                have hc := hid (offer_any hp.out.db R (fun r hr => by have := ((i8.out.t.symm).ox r hr).n; omega))
                rw [e1_] at hc
                have hph := hid (phase_any hp.out.db R)
                rw [show (getR rb R).1 = 1 from hx] at hph
                have iR : I64 R := by unfold I64; omega
                have iK : I64 (k + 1) := by unfold I64; omega
                clear e1_ e2_ e3_ fx fy
                generalize setR rb R (2, k + 1, (getR rb R).2.2) = x1 at *
                generalize setR x1 R (1, k + 1, (getR rb R).2.2) = x2 at *
                generalize setR ra R (0, k + 1, true) = y1 at *
                obtain ⟨p0, p1, e0, e1⟩ := hp.out.c
                have zp := hp.out.bp.lt; have zd := hp.out.bd.lt
                go_wp2_with fail
                refine hph.out.mono ?_
                rintro e w9 ⟨rfl, rfl⟩
                go_wp2_with fail
                refine hc.out.mono ?_
                rintro e w8 ⟨rfl, D8, G8⟩
                have P8 := hid ((hp.out.b D8 G8).alloc (Obj.cells (pasv (0, R, k + 1)) 27))
                have X8 := hid (Blk.new w8 27 (pasv (0, R, k + 1)))
                clear D8 G8 hc hph p0 p1 e0 e1 zp zd
                have x0 := X8.out.cell 0; have x1_ := X8.out.cell 1; have x2_ := X8.out.cell 2; have zx := X8.out.lt
                simp at x0 x1_ x2_
                have cS := hid (psend_any P8.out (.inl rfl) (by simp) he 1 (by simp) 0 R (k + 1) (by simp [I64]) iR iK)
                rw [sendN_all (by simp)] at cS
                go_wp2_with fail
                refine cS.out.mono ?_
                rintro e w9 ⟨rfl, vn9, P9⟩
                have p9 := hid P9
                clear P9 cS x0 x1_ x2_ zx P8 X8
                have cA := hid (parrive_0 p9.out (by simp) (by intro p hp'; simp at hp'; subst hp'; exact .inr ⟨rfl, rfl⟩) he 0 (by simp) 0 R (k + 1) (by simp [I64]) iR iK rfl false [] rfl y1 2 R (k + 1) true (by simp [I64]) iR iK E2.out)
                rw [if_pos rfl, sendN_all (by simp)] at cA
                go_wp2_with fail
                refine cA.out.mono ?_
                rintro e w10 ⟨rfl, vn10, P10⟩
                have p10 := hid P10
                clear P10 cA
                have cB := hid (parrive_1 p10.out (by simp) (by intro p hp'; simp at hp'; subst hp'; exact .inl ⟨rfl, rfl⟩) he 0 (by simp) 2 R (k + 1) (by simp [I64]) iR iK rfl false [] rfl x2 0 0 0 false (by simp [I64]) (by simp [I64]) (by simp [I64]) E3.out)
                rw [if_neg (by decide)] at cB
                go_wp2_with fail
                refine cB.out.mono ?_
                rintro e w11 ⟨rfl, vn11, P11⟩
                have p11 := hid P11
                clear P11 cB
                obtain ⟨p0, p1, e0, e1⟩ := p11.out.c
                have zp := p11.out.bp.lt; have zd := p11.out.bd.lt
                have q1 := hid (phase_any p11.out.db R)
                have q2 := hid (phase_any p11.out.da R)
                rw [FX.out] at q1
                rw [FY.out] at q2
                go_wp2_with fail
                refine q1.out.mono ?_
                rintro e w12 ⟨rfl, rfl⟩
                go_wp2_with fail
                refine q2.out.mono ?_
                rintro e w12 ⟨rfl, rfl⟩
                go_wp2_with fail
                go_ret
                exact ⟨rfl, p11.out.below⟩
end Go.Proofs.YtfofmbmmighdiaaDoor
