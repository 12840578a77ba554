
/- Table: Needs. -/
import Derived.Test.YtdjjhflhdhihcaaTabQ
import Derived.Test.YtdjjhflhdhihcaaTabF
import Derived.Test.YtdjjhflhdhihcaaMapB
import Derived.Shelf.SlSortCmp.NoneTotal
set_option linter.unusedSimpArgs false
set_option linter.unusedVariables false
namespace Go.Proofs.Ytdjjhflhdhihcaa
open Go.RowKit Go.IntWalk Go.Shelf Go.Maps Go.WideMaps

def lenV : Value → Nat
  | .slice _ n _ => n
  | _ => 0
theorem sortnil_any (w : World) : Calls Try.prog 25 #[.slice none 0 0, .func (.func 26) #[] #[]] w fun e w' => e = .returned (.tuple #[]) ∧ w' = w :=
  AnyF.slices_SortFunc_none laysSort none 0 (.func (.func 26) #[] #[]) w
set_option maxRecDepth 100000 in
set_option maxHeartbeats 8000000 in
theorem needs_any (Ag Am B : Option Addr) (cg cm c : Nat) (g : Gm) (rows : List Row) (pos : Int) (w : World) (h : GmR w w.heap.size Ag Am g) (hr : rightL g = true) (hg : GmOK g) (hl : rows.length ≤ 1000) (ha : Asc kP rows) (h1 : SlR w w.heap.size B rows) (hpos : I64 pos) :
    Calls Try.prog 12 #[.agg #[.slice Ag g.1.length cg, .slice Am g.2.length cm], .slice B rows.length c, .int .i64 pos] w fun e w' => ∃ v l, e = .returned v ∧ rwRK.Own w' w.heap.size v l ∧ NdR g rows pos l ∧ Below w.heap.size w w' := by
  have hmm := @run_makeMap Try.prog
  obtain ⟨w1, hw1⟩ : ∃ w1, w1 = w.alloc (Obj.cells #[.slice Ag g.1.length cg, .slice Am g.2.length cm] 25) := ⟨_, rfl⟩
  have B1 := hid (show Below w.heap.size w w1 by rw [hw1]; (repeat (first | exact Below.refl _ _ | assumption | refine below_drewN ?_ _ | refine Below.drew ?_ | refine Below.alloc ?_ (by (try simp); (try omega)) _ | refine Below.setCell ?_ (by (try simp); (try omega)) _)))
  have X1 := hid (show Blk w1 w.heap.size 25 #[.slice Ag g.1.length cg, .slice Am g.2.length cm] by rw [hw1]; exact Blk.new w _ _)
  have HR := hid h1
  have HROK := hid (rwRK.oks h1)
  have HMV := hid (fun (q a : Int) (W : World) (hW : Below w.heap.size w W) => tmove_any Ag Am cg cm g q a W (h.to hW) hr hg)
  have HRW := hid (fun (t : Int) (W : World) (hW : Below w.heap.size w W) => trow_any B c rows t W (by omega) ha ((h1.below hW).more hW.size))
  have HNE := hid (fun (p : Nat) (m : Mv) (hm : m ∈ g.2.getD p []) => mvs_ne hr hm)
  have HML := hid (show ∀ (p : Int) (a : Int) (m : Mv), tMove g p a = some m → m.2.length ≤ 1000 from fun p a m hm => by
    obtain ⟨hp, hmm, -⟩ := tMove_mem hm
    have hp := isP_iff.1 hp
    have hpn : p.toNat < g.2.length := by have := hg.n; omega
    rw [show g.2.getD p.toNat [] = g.2[p.toNat] by simp [hpn]] at hmm
    exact (hg.m _ (List.getElem_mem hpn) m hmm).1)
  have HGL := hid hg.s
  clear h h1 hr hg ha
  go_enter Try.func12, Try.ntmps12
  go_upto_region 1 with fail
  rw [← hw1]
  clear hw1
  have M2 := hid (show (w1.alloc (Obj.map #[] 0)).ownsMap Try.prog 3 (plainElem Try.prog 4) w1.heap.size 0 (setI []) from World.ownsMap_made _ _ _ _)
  have M3 := hid (M2.out.alloc (Obj.cells #[.int .i64 pos] 3))
  have Q3 := hid ((QR.one (w1.alloc (Obj.map #[] 0)) pos).base_ (show w.heap.size ≤ _ by have := B1.out.size; simp; omega))
  have B3 := hid ((B1.out.alloc B1.out.size (Obj.map #[] 0)).alloc (by have := B1.out.size; simp; omega) (Obj.cells #[.int .i64 pos] 3))
  have X3 := hid ((X1.out.alloc (Obj.map #[] 0)).alloc (Obj.cells #[.int .i64 pos] 3))
  have hmz := hid (B1.out.size)
  go_upto_region 4 with fail
  rw [show (w1.alloc (Obj.map #[] 0)).heap.size = w1.heap.size + 1 by simp] at Q3
  generalize ((w1.alloc (Obj.map #[] 0)).alloc (Obj.cells #[.int .i64 pos] 3)) = w3 at *
  generalize w1.heap.size = bm at *
  clear M2 B1 X1 hmm
  go_loopw [8, 9, 10, 11, 12, 13, 14] (fun ov qv _ _ _ _ _ wr => ∃ (O : List Row) (Q : List Int) (gq : Nat), rwRK.Own wr w.heap.size ov O ∧ QR wr w.heap.size gq qv Q ∧ wr.ownsMap Try.prog 3 (plainElem Try.prog 4) bm O.length (setI (O.map kP)) ∧ NInv g rows pos O Q ∧ Below w.heap.size w wr ∧ Blk wr w.heap.size 25 #[.slice Ag g.1.length cg, .slice Am g.2.length cm] ∧ Q.length ≤ 1 + 1000 * O.length ∧ ∀ t ∈ Q, I64 t) (fun ov qv _ _ _ _ _ _ => (rows.length - lenV ov) * 2000 + lenV qv)
  case atStart => exact ⟨[], [pos], bm + 1, RK.Own.nil, Q3.out, M3.out, NInv.start g rows pos, B3.out, X3.out, by simp, fun t ht => by simp at ht; subst ht; exact hpos⟩
  case round =>
    clear M3 Q3 B3 X3
    obtain ⟨O, Q, gq, ho, hq, hm, hinv, hB, hX, hql, hqi⟩ := hrel
    have HO := hid ho; have HQ := hid hq; have HM := hid hm; have HI := hid hinv; have BR := hid hB; have XR := hid hX; have HQI := hid hqi
    clear ho hq hm hinv hB hX hqi
    cases Q with
    | nil =>
      obtain ⟨o, qc, cur, rfl, -⟩ := HQ.out
      have hsub := HI.out.sub
      rcases HO.out.2 with ⟨hv, h0⟩ | ⟨gO, cO, cur2, hv, -⟩
      · have hO0 : O = [] := List.eq_nil_of_length_eq_zero h0
        subst hO0
        have hv' : u8 = .slice none 0 0 := hv
        clear hv
        subst hv'
        have hnd := hid (HI.out.done (List.Perm.refl _) List.Pairwise.nil)
        have HSN := hid (sortnil_any wr)
        clear HI hsub
        as_aux_lemma =>
          go_wp2_with fail
          refine HSN.out.mono ?_
          rintro e w5 ⟨rfl, rfl⟩
          go_wp2_with fail
          go_ret
          exact ⟨_, [], rfl, HO.out, hnd.out, BR.out⟩
      · have hv' : u8 = .slice (some ⟨gO, 0, none⟩) O.length cO := hv
        clear hv
        subst hv'
        have HS := hid (sortr_any w.heap.size gO cO O wr (by omega) HO.out)
        have HBL := hid (own_blk HO.out gO rfl)
        have HDN := hid (fun (l : List Row) (h1 : l.Perm O) (h2 : l.Pairwise (fun a b => a.1 ≤ b.1)) => HI.out.done h1 h2)
        clear HI hsub HO
        as_aux_lemma =>
          go_wp2_with fail
          refine HS.out.mono ?_
          rintro e w5 ⟨rfl, l, h1, h2, h3, h4⟩
          have H3 := hid h3
          have H12 := hid (HDN.out l h1 h2)
          have B5 := hid (BR.out.grown h4 BR.out.size (fun q e => by injection e with e; subst e; exact HBL.out.1))
          clear h1 h2 h3 h4
          go_wp2_with fail
          go_ret
          exact ⟨_, l, rfl, H3.out, H12.out, B5.out⟩
    | cons p Q =>
    obtain ⟨o, qc, rfl, hc1, hc2, hgz, hcell, ht1, ht2⟩ := HQ.out.tail
    have HT1 := hid ht1; have HT2 := hid ht2
    have hqlI : (0 : Int) < (Q.length : Int) + 1 := by omega
    clear ht1 ht2
    go_upto_region 7 with fail
    have HQ2 := hid (show QR wr w.heap.size gq (.slice (if qc = 1 then some ⟨gq, o, none⟩ else some ⟨gq, o + 1, none⟩) Q.length (qc - 1)) Q by
      by_cases e : qc = 1
      · obtain ⟨e2, h2⟩ := HT2.out e
        subst e2
        simp only [e, if_true]
        exact h2
      · simp only [e, if_false]
        exact HT1.out (by omega))
    have hqn := hid (show qc - 1 ≤ maxLen by omega)
    clear HT1 HT2 HQ hcell hqlI hc1 hc2 hgz
    generalize (if qc = 1 then some (⟨gq, o, none⟩ : Addr) else some ⟨gq, o + 1, none⟩) = aq at *
    generalize qc - 1 = qd at *
    have hpi := HQI.out p (List.mem_cons_self ..)
    have hqi2 := hid (fun t (ht : t ∈ Q) => HQI.out t (List.mem_cons_of_mem _ ht))
    have hql2 : Q.length ≤ 1000 * O.length := by simp at hql; omega
    have HKE := hid (show keyOf Try.prog 3 (.int .i64 p) = some (.int .i64 p) from keyOf_int_mk Try.underlying3 (by show (decide ((-9223372036854775808 : Int) ≤ p) && decide (p ≤ (9223372036854775807 : Int))) = true; simp only [Bool.and_eq_true, decide_eq_true_eq]; exact hpi))
    have hOl := HI.out.sub
    have HC := hid (HRW.out p wr BR.out)
    clear hql HQI
    go_wp2_with fail
    refine HC.out.mono ?_
    rintro e w5 ⟨hrr, hB⟩
    have B5 := hid (BR.out.trans (hB.mono BR.out.size))
    have X5 := hid (XR.out.below hB XR.out.lt)
    have O5 := hid (show rwRK.Own w5 w.heap.size _ O from HO.out.below hB)
    have Q5 := hid (HQ2.out.below hB)
    have M5 := hid (HM.out.kept (gr_below hB none) (by simp))
    clear hB HC BR XR HO HQ2 HM
    rcases hrr with ⟨x, hx, hxm, rfl⟩ | ⟨hx, rfl⟩
    case inr =>
      have hI2 := hid (HI.out.skip (.inl hx))
      have b6 := hid (show Below w5.heap.size w5 (w5.alloc (Obj.cells #[.int .i64 0, .int .i64 0, .int .i64 0] 33)) by (repeat (first | exact Below.refl _ _ | assumption | refine below_drewN ?_ _ | refine Below.drew ?_ | refine Below.alloc ?_ (by (try simp); (try omega)) _ | refine Below.setCell ?_ (by (try simp); (try omega)) _)))
      have O6 := hid (show rwRK.Own _ w.heap.size _ O from O5.out.below b6.out)
      have Q6 := hid (Q5.out.below b6.out)
      have M6 := hid (M5.out.alloc (Obj.cells #[.int .i64 0, .int .i64 0, .int .i64 0] 33))
      have X6 := hid (X5.out.below b6.out X5.out.lt)
      have B6 := hid (B5.out.trans (b6.out.mono B5.out.size))
      clear hx HI O5 Q5 M5 X5 B5 b6
      as_aux_lemma =>
        go_wp2_with fail
        go_roundw
        case rel => exact ⟨O, Q, gq, O6.out, Q6.out, M6.out, hI2.out, B6.out, X6.out, by omega, hqi2.out⟩
        case measure => simp [lenV]
    have hxok := HROK.out x hxm
    have hxp := (look_mem hx).2
    obtain ⟨x0, x1, x2⟩ := x
    simp only [kP] at hxp
    subst hxp
    have HX := hid hx
    have HXO := hid (show RowI (x0, x1, x2) from hxok)
    clear hx hxm hxok
    obtain ⟨w6, hw6⟩ : ∃ w6, w6 = w5.alloc (Obj.cells #[.int .i64 x0, .int .i64 x1, .int .i64 x2] 33) := ⟨_, rfl⟩
    have b6 := hid (show Below w5.heap.size w5 w6 by rw [hw6]; (repeat (first | exact Below.refl _ _ | assumption | refine below_drewN ?_ _ | refine Below.drew ?_ | refine Below.alloc ?_ (by (try simp); (try omega)) _ | refine Below.setCell ?_ (by (try simp); (try omega)) _)))
    have Y6 := hid (show Blk w6 w5.heap.size 33 #[.int .i64 x0, .int .i64 x1, .int .i64 x2] by rw [hw6]; exact Blk.new w5 _ _)
    have O6 := hid (show rwRK.Own w6 w.heap.size _ O from O5.out.below b6.out)
    have Q6 := hid (Q5.out.below b6.out)
    have M6 := hid (M5.out.kept (gr_below b6.out none) (by simp))
    have X6 := hid (X5.out.below b6.out X5.out.lt)
    have B6 := hid (B5.out.trans (b6.out.mono B5.out.size))
    obtain ⟨cc, hrun, hat⟩ := look_bool M6.out lawInt Try.underlying56 Try.underlying4 (zeroBool _) HKE.out
    rw [setI_at] at hat
    have hcc := hid (show (O.map kP).any (fun y => decide (x0 = y)) = cc by injection hat with hat; injection hat)
    have HLV := hid (show lenV u8 = O.length by obtain ⟨A', c', e⟩ := O5.out.form; rw [e]; rfl)
    have HOL := hid (fun q (e : u8.ownBlock = some q) => show q ≠ w5.heap.size from by obtain ⟨-, cs, hb⟩ := own_blk O5.out q e; exact Nat.ne_of_lt hb.lt)
    clear hat O5 Q5 M5 X5 B5 b6
    go_upto_region 8 with fail
    rw [← hw6]
    clear hw6
    cases cc with
    | true =>
      have hI2 := hid (HI.out.skip (.inr (by
        have := hcc.out
        rw [List.any_eq_true] at this
        obtain ⟨y, hy, e⟩ := this
        obtain ⟨z, hz, rfl⟩ := List.mem_map.1 hy
        simp only [decide_eq_true_eq] at e
        exact ⟨z, hz, e.symm⟩)))
      clear HI hcc
      as_aux_lemma =>
        go_wp2_with fail
        go_roundw
        case rel => exact ⟨O, Q, gq, O6.out, Q6.out, M6.out, hI2.out, B6.out, X6.out, by omega, hqi2.out⟩
        case measure => simp [lenV]
    | false =>
    have hnew := hid (show ∀ y ∈ O, y.1 ≠ x0 from fun y hy e => by
      have := hcc.out
      rw [List.any_eq_false] at this
      exact this _ (List.mem_map.2 ⟨y, hy, rfl⟩) (by simp only [kP]; exact decide_eq_true e.symm))
    have hkm := hid (show O.length < maxLen by unfold maxLen; omega)
    clear hcc
    go_upto_region 9 with fail
    go_upto_region 10 with (at_mapUpdate; refine wpList_mapUpdate_own _ rfl _ _ _ 56 rfl 3 4 lawInt Try.underlying56 _ bm O.length _ rfl M6.out hkm.out _ _ _ rfl rfl HKE.out _ [] (plainElem_bool Try.underlying4 true) ?_; intro w7 hM7 hg7; have M7 := hid hM7; have G7 := hid hg7; clear hM7 hg7)
    have O7 := hid (show rwRK.Own w7 w.heap.size u8 O from own_kept O6.out (fun q cs hv hb => hb.grown G7.out (fun e => by injection e with e; exact map_ne_blk M6.out hb e.symm)))
    have Q7 := hid (Q6.out.grown G7.out (fun e => by injection e with e; obtain ⟨-, cs, hb⟩ := Q6.out.blk; exact map_ne_blk M6.out hb e.symm))
    have X7 := hid (X6.out.grown G7.out (fun e => by injection e with e; exact map_ne_blk M6.out X6.out e.symm))
    have Y7 := hid (Y6.out.grown G7.out (fun e => by injection e with e; exact map_ne_blk M6.out Y6.out e.symm))
    have B7 := hid (B6.out.grown G7.out B6.out.size (fun q e => by injection e with e; subst e; exact hmz.out))
    rw [← setI_snoc] at M7
    clear O6 Q6 M6 X6 Y6 B6 G7 hrun
    have y0 := Y7.out.cell 0; have y1 := Y7.out.cell 1; have y2 := Y7.out.cell 2; have yz := Y7.out.lt
    simp at y0 y1 y2
    have b8 := hid (show Below w7.heap.size w7 (w7.alloc (Obj.cells #[.int .i64 x0, .int .i64 x1, .int .i64 x2] 33)) by (repeat (first | exact Below.refl _ _ | assumption | refine below_drewN ?_ _ | refine Below.drew ?_ | refine Below.alloc ?_ (by (try simp); (try omega)) _ | refine Below.setCell ?_ (by (try simp); (try omega)) _)))
    have O8 := hid (show rwRK.Own (w7.alloc (Obj.cells #[.int .i64 x0, .int .i64 x1, .int .i64 x2] 33)) w.heap.size u8 O from O7.out.below b8.out)
    have S8 := hid (show SlR (w7.alloc (Obj.cells #[.int .i64 x0, .int .i64 x1, .int .i64 x2] 33)) (w7.alloc (Obj.cells #[.int .i64 x0, .int .i64 x1, .int .i64 x2] 33)).heap.size (some ⟨w7.heap.size, 0, none⟩) [(x0, x1, x2)] from rwRK.blk (show Blk _ w7.heap.size rwRK.e (rwRK.all [(x0, x1, x2)]).toArray from Blk.new w7 _ _) (by intro x hx; rw [List.mem_singleton.1 hx]; exact HXO.out))
    have B8 := hid (B7.out.trans (b8.out.mono B7.out.size))
    have hlen8 := hid (show O.length + [(x0, x1, x2)].length ≤ 100000000 by simp; omega)
    go_upto_region 11 with (at_builtin; refine rwRK.appL _ rfl (.tmp 41) (.tmp 43) rfl rfl O8.out (ys := [(x0, x1, x2)]) (c := 1) rfl S8.out hlen8.out B8.out.size ?_; intro A9 c9 w9 ho9 hg9; have O9 := hid ho9; have G9 := hid hg9; clear ho9 hg9)
    have Q9 := hid ((Q7.out.below b8.out).grown G9.out (fun e => by obtain ⟨-, cs, hb⟩ := (Q7.out.below b8.out).blk; exact own_blk_ne O8.out hb (by decide) e.symm))
    have M9 := hid ((M7.out.alloc (Obj.cells #[.int .i64 x0, .int .i64 x1, .int .i64 x2] 33)).kept G9.out (fun e => by obtain ⟨-, cs, hb⟩ := own_blk O8.out bm e.symm; exact map_ne_blk (M7.out.alloc (Obj.cells #[.int .i64 x0, .int .i64 x1, .int .i64 x2] 33)) hb rfl))
    have X9 := hid ((X7.out.below b8.out X7.out.lt).grown G9.out (fun e => own_blk_ne O8.out (X7.out.below b8.out X7.out.lt) (by decide) e.symm))
    have Y9 := hid ((Y7.out.below b8.out Y7.out.lt).grown G9.out (fun e => HOL.out _ e.symm rfl))
    have B9 := hid (B8.out.grown G9.out B8.out.size (fun q e => (own_blk O8.out q e).1))
    clear O8 S8 B8 G9 b8 O7 Q7 M7 X7 Y7 B7 y0 y1 y2 yz
    have y0 := Y9.out.cell 0; have y1 := Y9.out.cell 1; have y2 := Y9.out.cell 2; have yz := Y9.out.lt
    have x0' := X9.out.cell 0; have x1' := X9.out.cell 1; have xz := X9.out.lt
    simp at y0 y1 y2 x0' x1'
    have hO9 : (O ++ [(x0, x1, x2)]).length = O.length + 1 := by simp
    have HO9 := hid hO9
    clear hO9
    generalize w5.heap.size = yb at *
    have HC := hid (HMV.out x0 x1 w9 B9.out)
    have hOM := hid (show (O ++ [(x0, x1, x2)]).map kP = O.map kP ++ [x0] by simp [kP])
    have hO8v : lenV u8 = O.length := HLV.out
    clear HLV
    go_wp2_with fail
    refine HC.out.mono ?_
    rintro e wa ⟨hrr, hB⟩
    have Oa := hid (show rwRK.Own wa w.heap.size (.slice A9 (O.length + 1) c9) (O ++ [(x0, x1, x2)]) from O9.out.below hB)
    have Qa := hid (Q9.out.below hB)
    have Ma := hid (M9.out.kept (gr_below hB none) (by simp))
    have Xa := hid (X9.out.below hB X9.out.lt)
    have Ba := hid (B9.out.trans (hB.mono B9.out.size))
    clear HC O9 Q9 M9 X9 B9 Y9 y0 y1 y2 yz x0' x1' xz hkm hlen8 HOL HKE
    rcases hrr with ⟨m, Am2, cm2, hmv, rfl, hs, hml⟩ | ⟨hmv, rfl⟩
    case inr =>
      have hI2 := hid (show NInv g rows pos (O ++ [(x0, x1, x2)]) Q by
        have := HI.out.add HX.out hnew.out (ys := []) (fun t => ⟨fun hh => (by obtain ⟨m, h1, h2⟩ := hh; simp only at h1; rw [hmv] at h1; cases h1), fun h => (by cases h)⟩)
        rwa [List.append_nil] at this)
      have hsub := hI2.out.sub
      rw [HO9.out] at hsub
      have b6 := hid (show Below wa.heap.size wa (wa.alloc (Obj.cells #[.int .i64 0, .slice none 0 0] 49)) by (repeat (first | exact Below.refl _ _ | assumption | refine below_drewN ?_ _ | refine Below.drew ?_ | refine Below.alloc ?_ (by (try simp); (try omega)) _ | refine Below.setCell ?_ (by (try simp); (try omega)) _)))
      have Ob := hid (show rwRK.Own _ w.heap.size (.slice A9 (O.length + 1) c9) (O ++ [(x0, x1, x2)]) from Oa.out.below b6.out)
      have Qb := hid (Qa.out.below b6.out)
      have Mb := hid (Ma.out.alloc (Obj.cells #[.int .i64 0, .slice none 0 0] 49))
      have Xb := hid (Xa.out.below b6.out Xa.out.lt)
      have Bb := hid (Ba.out.trans (b6.out.mono Ba.out.size))
      clear hmv HI Oa Qa Ma Xa Ba b6 hB
      as_aux_lemma =>
        go_wp2_with fail
        go_roundw
        case rel => exact ⟨O ++ [(x0, x1, x2)], Q, gq, Ob.out, Qb.out, by rw [HO9.out, hOM.out]; exact Mb.out, hI2.out, Bb.out, Xb.out, by rw [HO9.out]; omega, hqi2.out⟩
        case measure => rw [hO8v]; simp only [lenV]; omega
    obtain ⟨hne, hrg⟩ := HNE.out _ _ (tMove_mem hmv).2.1
    have hmle := HML.out _ _ _ hmv
    have hgl := hid (show g.1.length ≤ 1000 from HGL.out)
    obtain ⟨m0, m1⟩ := m
    simp only at hs hml hne hrg hmle
    have hnl := hid (List.length_pos_iff.2 hne)
    have hI2 := hid (show NInv g rows pos (O ++ [(x0, x1, x2)]) (Q ++ m1) from HI.out.add HX.out hnew.out (ys := m1) (fun t => ⟨fun hh => (by obtain ⟨m, h1, h2⟩ := hh; simp only at h1; rw [hmv] at h1; injection h1 with h1; subst h1; exact h2), fun h => ⟨_, hmv, h⟩⟩))
    have hsub := hI2.out.sub
    rw [HO9.out] at hsub
    have hqi3 := hid (show ∀ t ∈ Q ++ m1, I64 t from fun t ht => by
      rcases List.mem_append.1 ht with ht | ht
      · exact hqi2.out t ht
      · have := hrg t ht; have := hgl.out; unfold I64; omega)
    have b6 := hid (show Below wa.heap.size wa (wa.alloc (Obj.cells #[.int .i64 m0, .slice Am2 m1.length cm2] 49)) by (repeat (first | exact Below.refl _ _ | assumption | refine below_drewN ?_ _ | refine Below.drew ?_ | refine Below.alloc ?_ (by (try simp); (try omega)) _ | refine Below.setCell ?_ (by (try simp); (try omega)) _)))
    have Ob := hid (show rwRK.Own (wa.alloc (Obj.cells #[.int .i64 m0, .slice Am2 m1.length cm2] 49)) w.heap.size (.slice A9 (O.length + 1) c9) (O ++ [(x0, x1, x2)]) from Oa.out.below b6.out)
    have Qb := hid (Qa.out.below b6.out)
    have Mb := hid (Ma.out.alloc (Obj.cells #[.int .i64 m0, .slice Am2 m1.length cm2] 49))
    have Xb := hid (Xa.out.below b6.out Xa.out.lt)
    have Bb := hid (Ba.out.trans (b6.out.mono Ba.out.size))
    have Sb := hid ((((hs.below hB).more hB.size).below b6.out).more b6.out.size)
    have hlq := hid (show Q.length + m1.length ≤ 10000000 by omega)
    have hlap : (Q ++ m1).length = Q.length + m1.length := List.length_append
    have HLA := hid hlap
    clear hmv HI Oa Qa Ma Xa Ba b6 hB hs hml hrg hlap
    go_wp2_with (at_builtin; refine wp_appQ _ rfl (.tmp 54) (.tmp 56) rfl w.heap.size gq _ Q rfl Qb.out _ cm2 Am2 m1 rfl Sb.out hnl.out hlq.out Bb.out.size ?_; intro gq2 Aq2 cq2 wb hq2 hg2; have Q2 := hid hq2; have G2 := hid hg2; clear hq2 hg2)
    have O2 := hid (show rwRK.Own wb w.heap.size (.slice A9 (O.length + 1) c9) (O ++ [(x0, x1, x2)]) from own_kept Ob.out (fun q cs hv hb => hb.grown G2.out (fun e => by obtain ⟨-, cs2, hb2⟩ := Qb.out.blk; injection e with e; exact Blk.ne_ hb hb2 (by decide) e)))
    have M2 := hid (Mb.out.kept G2.out (fun e => by obtain ⟨-, cs2, hb2⟩ := Qb.out.blk; injection e with e; exact map_ne_blk Mb.out hb2 e))
    have X2 := hid (Xb.out.grown G2.out (fun e => by obtain ⟨-, cs2, hb2⟩ := Qb.out.blk; injection e with e; exact Blk.ne_ Xb.out hb2 (by decide) e))
    have B2 := hid (Bb.out.grown G2.out Bb.out.size (fun q e => by injection e with e; subst e; exact Qb.out.blk.1))
    rw [HLA.out] at Q2
    clear Ob Qb Mb Xb Bb Sb G2
    as_aux_lemma =>
      go_roundw
      case rel => exact ⟨O ++ [(x0, x1, x2)], Q ++ m1, gq2, O2.out, Q2.out, by rw [HO9.out, hOM.out]; exact M2.out, hI2.out, B2.out, X2.out, by rw [HO9.out, HLA.out]; omega, hqi3.out⟩
      case measure => rw [hO8v]; simp only [lenV]; omega
end Go.Proofs.Ytdjjhflhdhihcaa
