
/- Lease: the reference's Read. -/
import Derived.Test.YtappgjdnfllblaaDoorLrB
import Derived.Test.YtappgjdnfllblaaDoorLrC
import Derived.Deep.DeepCutAuto
set_option linter.unusedSimpArgs false
set_option linter.unusedVariables false
namespace Go.Proofs.YtappgjdnfllblaaDoor
open Go.RowKit Go.IntWalk Go.Maps Go.WideMaps
/-- While a zone is read: the desk, its row, the reader, the zone's box. -/
structure RdS (w0 w : World) (base b bb q : Nat) (sl : Value) (me : Int) (l : List Zn) (x : Zn) (s : RS) : Prop where
  D : Blk w bb 52 #[.int .i64 me, sl]
  O : znRK.Own w base sl l
  R : Rr w b s.1 s.2
  X : Blk w q 90 (znRK.cs x).toArray
  B : Below w0.heap.size w0 w
  qn : ∀ g, sl.ownBlock = some g → g ≠ q
  hb : w0.heap.size ≤ b
  hq : w0.heap.size ≤ q
section
variable {w0 w w' : World} {base b bb q : Nat} {sl : Value} {me : Int} {l : List Zn} {x y : Zn} {s s' : RS}
theorem RdS.rd (h : RdS w0 w base b bb q sl me l x s) (hR : Rr w' b s'.1 s'.2) (hg : w.grownBy w' (some b)) : RdS w0 w' base b bb q sl me l x s' :=
  ⟨h.D.grown hg (fun e => by injection e with e; exact Blk.ne_ h.D h.R (by decide) e), own_kept h.O (fun g cs hv hb => hb.grown hg (fun e => by injection e with e; exact Blk.ne_ hb h.R (by decide) e)), hR,
    h.X.grown hg (fun e => by injection e with e; exact Blk.ne_ h.X h.R (by decide) e), bg h.B hg h.hb, h.qn, h.hb, h.hq⟩
theorem RdS.st (h : RdS w0 w base b bb q sl me l x s) (j : Nat) (u : Value) (hx : (znRK.cs x).toArray.setIfInBounds j u = (znRK.cs y).toArray) : RdS w0 (w.setCell ⟨q, j, none⟩ u) base b bb q sl me l y s :=
  ⟨h.D.far (p := ⟨q, j, none⟩) (fun e => Blk.ne_ h.D h.X (by decide) e) u, own_kept h.O (fun g cs hv hb => hb.far (p := ⟨q, j, none⟩) (h.qn g hv) u), Blk.far h.R (p := ⟨q, j, none⟩) (fun e => Blk.ne_ h.X h.R (by decide) e.symm) u,
    by rw [← hx]; exact h.X.set_ j u, h.B.setCell (p := ⟨q, j, none⟩) h.hq u, h.qn, h.hb, h.hq⟩
theorem RdS.below (h : RdS w0 w base b bb q sl me l x s) (hb : Below w.heap.size w w') : RdS w0 w' base b bb q sl me l x s :=
  ⟨h.D.below hb h.D.lt, h.O.below hb, Blk.below h.R hb (Blk.lt h.R), h.X.below hb h.X.lt, h.B.trans (hb.mono h.B.size), h.qn, h.hb, h.hq⟩
theorem RdS.xs (h : RdS w0 w base b bb q sl me l x s) : w.cell? ⟨q, 0, none⟩ = some (.int .i64 x.1) ∧ w.cell? ⟨q, 1, none⟩ = some (.int .i64 x.2.1) ∧ w.cell? ⟨q, 2, none⟩ = some (.int .i64 x.2.2.1) ∧ w.cell? ⟨q, 3, none⟩ = some (.bool x.2.2.2.1) ∧ w.cell? ⟨q, 4, none⟩ = some (.int .i64 x.2.2.2.2.1) ∧ w.cell? ⟨q, 5, none⟩ = some (.int .i64 x.2.2.2.2.2.1) ∧ w.cell? ⟨q, 6, none⟩ = some (.int .i64 x.2.2.2.2.2.2) ∧ (∀ o, w.frozen? ⟨q, o, none⟩ = false) ∧ q < w.heap.size :=
  ⟨h.X.cell 0, h.X.cell 1, h.X.cell 2, h.X.cell 3, h.X.cell 4, h.X.cell 5, h.X.cell 6, h.X.frozen, h.X.lt⟩
end
set_option maxRecDepth 100000 in
set_option maxHeartbeats 400000 in
theorem rsmall_any (n : Int) (w : World) : Calls Tryd.prog 59 #[.int .i64 n] w fun e w' => e = .returned (.bool (decide (NumB n))) ∧ w = w' := by
  by_cases h0 : 0 ≤ n
  · by_cases h1 : n ≤ 2199023255552
    · have HR := hid (show decide (NumB n) = true by rw [decide_eq_true_eq]; exact ⟨h0, h1⟩)
      go_enter Tryd.func59, Tryd.ntmps59
      go_wp2_with fail
      go_ret
      exact ⟨ret_bool (by rw [HR.out] <;> simp <;> omega), rfl⟩
    · have HR := hid (show decide (NumB n) = false by rw [decide_eq_false_iff_not]; exact fun h => h1 h.2)
      have h2 : 2199023255552 < n := by omega
      go_enter Tryd.func59, Tryd.ntmps59
      go_wp2_with fail
      go_ret
      exact ⟨ret_bool (by rw [HR.out] <;> simp <;> omega), rfl⟩
  · have HR := hid (show decide (NumB n) = false by rw [decide_eq_false_iff_not]; exact fun h => h0 h.1)
    have h2 : n < 0 := by omega
    go_enter Tryd.func59, Tryd.ntmps59
    go_wp2_with fail
    go_ret
    exact ⟨ret_bool (by rw [HR.out] <;> simp <;> omega), rfl⟩
set_option maxRecDepth 100000 in
set_option maxHeartbeats 16000000 in
theorem rread_any (s : ByteArray) (w : World) (hs : s.size ≤ 90000) :
    Calls Tryd.prog 13 #[.string s] w fun e w' => ∃ p, e = .returned (.tuple #[p, .bool (readDk s.data.toList).isSome]) ∧ Below w.heap.size w w' := by
  have hl0 : s.data.toList.length ≤ 90000 := by rw [← size_list]; exact hs
  obtain ⟨me, s1, e1⟩ : ∃ x s', rI (s.data.toList, false) = (x, s') := ⟨_, _, rfl⟩
  obtain ⟨home, s2, e2⟩ : ∃ x s', rNs s1 = (x, s') := ⟨_, _, rfl⟩
  have hT := hid (readDk_some e1 e2)
  have k1 := rI_ok (s := (s.data.toList, false)) (by intro h; cases h)
  have l1 := rI_le (s.data.toList, false)
  have i1 := rI_bd (s.data.toList, false)
  have c1 := rrInt_f (s.data.toList, false) (by simp only; omega)
  rw [e1] at k1 l1 i1 c1
  simp only at k1 l1 i1 c1
  have l2 := rNs_le s1 k1 (by omega)
  have c2 := rrNs_f s1 k1 (by omega)
  rw [e2] at l2 c2
  simp only at l2 c2
  have Z2 : s2.1.length ≤ 90000 := by omega
  have C1 := hid c1
  have C2 := hid c2
  have I1 := hid i1
  clear c1 c2 k1 i1 e1 e2 l1 l2
  generalize (readDk s.data.toList).isSome = res at *
  go_enter Tryd.func13, Tryd.ntmps13
  go_wp2_with fail
  refine (openR_any s w).mono ?_
  rintro e w1 ⟨rfl, hR, hB⟩
  have hbl := Blk.lt hR
  generalize hbq : w.heap.size = b at hR hbl
  have HBb := hid (show w.heap.size ≤ b by omega)
  clear hbq
  have B1 := hid hB
  have R1 := hid hR
  clear hB hR
  go_wp2_with fail
  refine (C1.out b _ R1.out).mono ?_
  rintro e w2 ⟨rfl, hR, hg⟩
  have B2 := hid (bg B1.out hg HBb.out)
  have R2 := hid hR
  clear hR hg R1 B1 C1 hbl
  go_wp2_with fail
  refine (C2.out b _ R2.out).mono ?_
  rintro e w3 ⟨A, c, rfl, hc1, hc2, hsl, hR, hg⟩
  have B3 := hid (bg B2.out hg HBb.out)
  have R3 := hid hR
  have HNew := hid (rnew_any me A c home w3 I1.out hc1 hc2 hsl)
  clear hR hg R2 B2 C2 hc1 hc2 hsl
  cases hn : newDk me home with
  | none =>
    as_aux_lemma =>
      rw [hn] at HNew
      have hr := hid (show res = false by rw [hT.out, hn])
      clear hT hn
      go_wp2_with fail
      refine HNew.out.mono ?_
      rintro e w4 ⟨rfl, hB⟩
      have B4 := hid (B3.out.trans (hB.mono B3.out.size))
      clear hB
      go_wp2_with fail
      refine bodyPost_ret (v := .tuple #[.pointer none, .bool false]) (by simp [results, Tryd.results13, go_sem]) rfl ?_
      rw [hr.out]
      exact ⟨_, rfl, B4.out⟩
  | some d0 =>
    rw [hn] at HNew
    obtain ⟨e0, ok0⟩ := newDk_some hn
    have hT2 := hid (show res = ((!(runQ home me s2 home.length).2.2 && (runQ home me s2 home.length).2.1.isEmpty) && (runQ home me s2 home.length).1) by rw [hT.out, hn])
    have hlen : home.length ≤ 64 := by have := ok0.len; rw [e0] at this; exact this
    have hzn := hid (show zonesL d0 = home.map zn0 by rw [e0]; exact zonesL_new me home)
    have hmd := hid (show d0.me = me by rw [e0]; rfl)
    clear hT hn e0 ok0
    go_wp2_with fail
    refine HNew.out.mono ?_
    rintro e w4 ⟨bb, V, rfl, hL, hB⟩
    have B4 := hid (B3.out.trans (hB.mono B3.out.size))
    have R4 := hid (show Rr w4 b s2.1 s2.2 from Blk.below R3.out hB (Blk.lt R3.out))
    have HBS := hid (show w.heap.size ≤ w3.heap.size from B3.out.size)
    have D4 := hid hL.k
    have O4 := hid hL.r
    rw [hmd.out] at D4
    rw [hzn.out] at O4
    obtain ⟨Av, cv, rfl⟩ := O4.out.form
    rw [List.length_map] at O4 D4
    clear hB hL R3 B3 HNew hzn hmd
    generalize w3.heap.size = base at *
    have HQ0 := hid (show runQ home me s2 0 = (true, s2) from rfl)
    have HQS := hid (fun k => show runQ home me s2 (k + 1) = ((runQ home me s2 k).1 && (stepQ home me k (runQ home me s2 k).2).1, (stepQ home me k (runQ home me s2 k).2).2) from rfl)
    generalize runQ home me s2 = Q at *
    have d0c := D4.out.cell 0; have d1c := D4.out.cell 1
    simp at d0c d1c
    go_wp2_with fail
    clear d0c d1c
    go_loopw [7, 8] (fun gv iv wr => ∃ (k : Nat) (l : List Zn), k ≤ home.length ∧ iv = .int .i64 (k : Nat) ∧ gv = .bool (Q k).1 ∧ Blk wr bb 52 #[.int .i64 me, .slice Av home.length cv] ∧ znRK.Own wr base (.slice Av home.length cv) l ∧ l.length = home.length ∧ (∀ j, k ≤ j → j < home.length → l[j]? = some (zn0 (home.getD j 0))) ∧ Rr wr b (Q k).2.1 (Q k).2.2 ∧ (Q k).2.1.length ≤ 90000 ∧ Below w.heap.size w wr) (fun _ iv _ => home.length - (intOf iv).toNat)
    case atStart =>
      refine ⟨0, home.map zn0, by omega, rfl, by rw [HQ0.out], D4.out, O4.out, by simp, fun j _ hj => ?_, by rw [HQ0.out]; exact R4.out, by rw [HQ0.out]; exact Z2, B4.out⟩
      simp [List.getD, List.getElem?_eq_getElem hj]
    case round =>
      clear D4 O4 R4 Z2 B4 HQ0
      obtain ⟨k, l, hk, rfl, rfl, hD, hO, hll, hlz, hR, hsz, hB⟩ := hrel
      have HLL := hid hll
      have HLZ := hid hlz
      have DD := hid hD
      have OO := hid hO
      have RR := hid hR
      have BB := hid hB
      have hQS := hid (HQS.out k)
      have hQk := hid (show k = home.length → res = ((!(Q k).2.2 && (Q k).2.1.isEmpty) && (Q k).1) by rintro rfl; exact hT2.out)
      clear hll hlz hD hO hR hB
      generalize Q k = qk at *
      obtain ⟨gd, t⟩ := qk
      simp only at hQS hsz RR ⊢
      have d1c := DD.out.cell 1
      simp at d1c
      by_cases hkn : k < home.length
      · have hkn' : (k : Int) < home.length := by omega
        have hk1 : wrap64 ((k : Int) + 1) = ((k + 1 : Nat) : Int) := by rw [wrap64_in _ (by omega)]; simp
        have hlk := hid (show k < l.length by rw [HLL.out]; exact hkn)
        obtain ⟨gg, cap, cur, hv, hg1, hg2, _, _, _⟩ := own_cell OO.out (by rw [HLL.out]; omega)
        injection hv with hv hvn hvc
        clear hvn hvc
        subst hv
        have GB := hid hg2
        clear hg1 hg2
        obtain ⟨h1, h2, h3, h4⟩ := RK.Own.at_ (R := znRK) OO.out hlk.out
        have hz : l[k]'hlk.out = zn0 (home.getD k 0) := by
          have := HLZ.out k (Nat.le_refl _) hkn
          rw [List.getElem?_eq_getElem hlk.out] at this
          injection this
        rw [hz] at h3
        have r0 := h3 0 (by decide); have r1 := h3 1 (by decide); have r2 := h3 2 (by decide); have r3 := h3 3 (by decide); have r4 := h3 4 (by decide); have r5 := h3 5 (by decide); have r6 := h3 6 (by decide)
        clear h1 h2 h3 hz
        have hqe : stepQ home me k t = _ := rfl
        conv at hqe => rhs; unfold stepQ
        rw [hqe] at hQS
        clear hqe
        generalize home.getD k 0 = hx at *
        simp [znRK, zn0] at r0 r1 r2 r3 r4 r5 r6
        have hw : ∃ q, q = wr.heap.size := ⟨_, rfl⟩
        obtain ⟨q, hq⟩ := hw
        have ba : Below wr.heap.size wr (wr.alloc (Obj.cells #[.int .i64 hx, .int .i64 0, .int .i64 0, .bool false, .int .i64 0, .int .i64 0, .int .i64 0] 90)) := by (repeat (first | exact Below.refl _ _ | assumption | refine below_drewN ?_ _ | refine Below.drew ?_ | refine Below.alloc ?_ (by (try simp); (try omega)) _ | refine Below.setCell ?_ (by (try simp); (try omega)) _))
        have S0 := hid (show RdS w (wr.alloc (Obj.cells #[.int .i64 hx, .int .i64 0, .int .i64 0, .bool false, .int .i64 0, .int .i64 0, .int .i64 0] 90)) base b bb q (.slice (some ⟨gg, 0, none⟩) home.length cv) me l (hx, 0, 0, false, 0, 0, 0) t from
          ⟨DD.out.below ba DD.out.lt, OO.out.below ba, Blk.below RR.out ba (Blk.lt RR.out), by rw [hq]; exact Blk.new wr _ _, BB.out.trans (ba.mono BB.out.size), fun g hg e => by
            have : g = gg := by injection hg with hg; exact hg.symm
            have := GB.out.lt; omega, HBb.out, by have := BB.out.size; omega⟩)
        go_upto_region 11 with fail
        clear r0 r1 r2 r3 r4 r5 r6 h4 d1c ba DD OO RR BB
        rw [← hq]
        generalize (wr.alloc (Obj.cells #[.int .i64 hx, .int .i64 0, .int .i64 0, .bool false, .int .i64 0, .int .i64 0, .int .i64 0] 90)) = v0 at *
        clear hq GB
        obtain ⟨x1, t1, e1⟩ : ∃ x s', rI t = (x, s') := ⟨_, _, rfl⟩
        have l1 := rI_le t
        have c1 := rrInt_f t (by omega)
        rw [e1] at l1 c1
        simp only at l1 c1
        obtain ⟨x2, t2, e2⟩ : ∃ x s', rI t1 = (x, s') := ⟨_, _, rfl⟩
        have l2 := rI_le t1
        have c2 := rrInt_f t1 (by omega)
        rw [e2] at l2 c2
        simp only at l2 c2
        obtain ⟨x3, t3, e3⟩ : ∃ x s', rI t2 = (x, s') := ⟨_, _, rfl⟩
        have l3 := rI_le t2
        have c3 := rrInt_f t2 (by omega)
        rw [e3] at l3 c3
        simp only at l3 c3
        have hr3 := hid (show r3 t = ((x1, x2, x3), t3) by unfold r3; rw [e1]; simp only [e2, e3])
        obtain ⟨x4, t4, e4⟩ : ∃ x s', rI t3 = (x, s') := ⟨_, _, rfl⟩
        have l4 := rI_le t3
        have c4 := rrInt_f t3 (by omega)
        rw [e4] at l4 c4
        simp only at l4 c4
        have hr4 := hid (show r4 t = ((x1, x2, x3, x4), t4) by unfold r4; rw [e1]; simp only [e2, e3, e4])
        have Z3 := hid (show t3.1.length ≤ 90000 by omega)
        have Z4 := hid (show t4.1.length ≤ 90000 by omega)
        have C1 := hid c1; have C2 := hid c2; have C3 := hid c3; have C4 := hid c4
        clear c1 c2 c3 c4 e1 e2 e3 e4 l1 l2 l3 l4 hsz
        go_wp2_with fail
        refine (C1.out b _ S0.out.R).mono ?_
        rintro e v1 ⟨rfl, hR, hg⟩
        have S1 := hid (S0.out.rd hR hg)
        clear hR hg S0 C1
        obtain ⟨y0, y1, y2, y3, y4, y5, y6, fz, lt⟩ := S1.out.xs
        go_upto_region 12 with fail
        have S2 := hid (S1.out.st (y := (hx, x1, 0, false, 0, 0, 0)) 1 (.int .i64 x1) rfl)
        clear S1 y0 y1 y2 y3 y4 y5 y6 fz lt
        generalize v1.setCell ⟨q, 1, none⟩ (.int .i64 x1) = v2 at *
        have S3 := hid (S2.out.below (show Below v2.heap.size v2 v2.drew by (repeat (first | exact Below.refl _ _ | assumption | refine below_drewN ?_ _ | refine Below.drew ?_ | refine Below.alloc ?_ (by (try simp); (try omega)) _ | refine Below.setCell ?_ (by (try simp); (try omega)) _))))
        clear S2
        have HSF := hid (fun (wq : World) (hq : wq.cell? ⟨q, 0, none⟩ = some (.int .i64 hx) ∧ wq.cell? ⟨bb, 0, none⟩ = some (.int .i64 me)) => hq)
        refine wpIn_wide.1 (wpIn_region_S (n := 0) (fun wq => wq.cell? ⟨q, 0, none⟩ = some (.int .i64 hx) ∧ wq.cell? ⟨bb, 0, none⟩ = some (.int .i64 me)) [] (by kernel_rfl) ⟨S3.out.X.cell 0, S3.out.D.cell 0⟩ (fun hHeld => ?_))
        generalize v2.drew = v3 at *
        refine wpAnyS_pure 0 (v := ?_) (fun _ => trivial) (by simp only [List.getElem?_toArray, List.getElem?_cons_succ, List.getElem?_cons_zero]; rfl) (by kernel_rfl) (fun _ _ _ _ _ h => h) ⟨rfl, (by intro c h; cases h), ?_⟩ hHeld ?_
        rotate_left
        focus (intro wS hSw; (try replace hSw := HSF.out wS hSw); (try dsimp only at hSw); go_simp; (try with_reducible rfl))
        (try simp only [Act.put, List.setIfInBounds_toArray, List.set_cons_zero, List.set_cons_succ])
        refine wpAnyS_take 1 (v := ?_) (fun _ => trivial) (by simp only [List.getElem?_toArray, List.getElem?_cons_succ, List.getElem?_cons_zero]; rfl) (by kernel_rfl) (fun _ _ _ _ _ h => h) ⟨rfl, (by intro c h; cases h), ?_⟩ hHeld ?_
        rotate_left
        focus (intro wS hSw; (try replace hSw := HSF.out wS hSw); (try dsimp only at hSw); go_simp; (try with_reducible rfl))
        (try simp only [Act.put, List.setIfInBounds_toArray, List.set_cons_zero, List.set_cons_succ])
        refine wpAnyS_pure 2 (v := ?_) (fun _ => trivial) (by simp only [List.getElem?_toArray, List.getElem?_cons_succ, List.getElem?_cons_zero]; rfl) (by kernel_rfl) (fun _ _ _ _ _ h => h) ⟨rfl, (by intro c h; cases h), ?_⟩ hHeld ?_
        rotate_left
        focus (intro wS hSw; (try replace hSw := HSF.out wS hSw); (try dsimp only at hSw); go_simp; (try with_reducible rfl))
        (try simp only [Act.put, List.setIfInBounds_toArray, List.set_cons_zero, List.set_cons_succ])
        refine wpAnyS_pure 3 (v := ?_) (fun _ => trivial) (by simp only [List.getElem?_toArray, List.getElem?_cons_succ, List.getElem?_cons_zero]; rfl) (by kernel_rfl) (fun _ _ _ _ _ h => h) ⟨rfl, (by intro c h; cases h), ?_⟩ hHeld ?_
        rotate_left
        focus (intro wS hSw; (try replace hSw := HSF.out wS hSw); (try dsimp only at hSw); go_simp; (try with_reducible rfl))
        (try simp only [Act.put, List.setIfInBounds_toArray, List.set_cons_zero, List.set_cons_succ])
        refine wpAnyS_pure 4 (v := ?_) (fun _ => trivial) (by simp only [List.getElem?_toArray, List.getElem?_cons_succ, List.getElem?_cons_zero]; rfl) (by kernel_rfl) (fun _ _ _ _ _ h => h) ⟨rfl, (by intro c h; cases h), ?_⟩ hHeld ?_
        rotate_left
        focus (intro wS hSw; (try replace hSw := HSF.out wS hSw); (try dsimp only at hSw); go_simp; (try with_reducible rfl))
        (try simp only [Act.put, List.setIfInBounds_toArray, List.set_cons_zero, List.set_cons_succ])
        refine wpAnyS_take 5 (v := ?_) (fun _ => trivial) (by simp only [List.getElem?_toArray, List.getElem?_cons_succ, List.getElem?_cons_zero]; rfl) (by kernel_rfl) (fun _ _ _ _ _ h => h) ⟨rfl, (by intro c h; cases h), ?_⟩ hHeld ?_
        rotate_left
        focus (intro wS hSw; (try replace hSw := HSF.out wS hSw); (try dsimp only at hSw); go_simp; (try with_reducible rfl))
        (try simp only [Act.put, List.setIfInBounds_toArray, List.set_cons_zero, List.set_cons_succ])
        refine wpAnyS_pure 6 (v := ?_) (fun _ => trivial) (by simp only [List.getElem?_toArray, List.getElem?_cons_succ, List.getElem?_cons_zero]; rfl) (by kernel_rfl) (fun _ _ _ _ _ h => h) ⟨rfl, (by intro c h; cases h), ?_⟩ hHeld ?_
        rotate_left
        focus (intro wS hSw; (try replace hSw := HSF.out wS hSw); (try dsimp only at hSw); go_simp; (try with_reducible rfl))
        (try simp only [Act.put, List.setIfInBounds_toArray, List.set_cons_zero, List.set_cons_succ])
        refine wpAnyS_done (by kernel_rfl) ?_
        clear hHeld HSF
        have hlenl := hid HLL.out
        by_cases hxm : hx = me
        · as_aux_lemma =>
          subst hxm
          have HQ := hid (show Q (k + 1) = (gd && decide ((x3 = 0 ∨ x3 = 1) ∧ NumB x1 ∧ NumB x2), t3) by
            rw [hQS.out, if_pos rfl, hr3.out])
          clear hQS hr3 hr4
          go_wp2_with fail
          refine (C2.out b _ S3.out.R).mono ?_
          rintro e v4 ⟨rfl, hR, hg⟩
          have S3r := hid (S3.out.rd hR hg)
          clear hR hg S3 C2
          obtain ⟨y0, y1, y2, y3, y4, y5, y6, fz, lt⟩ := S3r.out.xs
          go_upto_region 14 with fail
          have S4 := hid (S3r.out.st (y := (hx, x1, x2, false, 0, 0, 0)) 2 (.int .i64 x2) rfl)
          clear S3r y0 y1 y2 y3 y4 y5 y6 fz lt
          generalize v4.setCell ⟨q, 2, none⟩ (.int .i64 x2) = v4s at *
          go_wp2_with fail
          refine (C3.out b _ S4.out.R).mono ?_
          rintro e v5 ⟨rfl, hR, hg⟩
          have S5 := hid (S4.out.rd hR hg)
          clear hR hg S4 C3
          obtain ⟨y0, y1, y2, y3, y4, y5, y6, fz, lt⟩ := S5.out.xs
          go_upto_region 16 with fail
          have S6 := hid (S5.out.st (y := (hx, x1, x2, x3 == 1, 0, 0, 0)) 3 (.bool (x3 == 1)) rfl)
          clear S5 y0 y1 y2 y3 y4 y5 y6 fz lt
          generalize v5.setCell ⟨q, 3, none⟩ (.bool (x3 == 1)) = v6 at *
          go_cut [7] (fun gv wx => gv = .bool (gd && decide (x3 = 0 ∨ x3 = 1)) ∧ v6 = wx)
          case first =>
            cases gd with
            | false =>
              go_wp2_with fail
              go_meet
              exact ⟨rfl, rfl⟩
            | true =>
              by_cases h0 : x3 = 0
              · subst h0
                go_wp2_with fail
                go_meet
                exact ⟨rfl, rfl⟩
              · have h00 : (x3 == 0) = false := by simpa using h0
                have h01 := hid (show (true && decide (x3 = 0 ∨ x3 = 1)) = (x3 == 1) by by_cases h1 : x3 = 1 <;> simp [h0, h1])
                go_wp2_with fail
                go_meet
                exact ⟨by rw [h01.out], rfl⟩
          obtain ⟨rfl, rfl⟩ := hcut
          have HQ2 := hid (show Q (k + 1) = ((gd && decide (x3 = 0 ∨ x3 = 1)) && decide (NumB x1 ∧ NumB x2), t3) by
            rw [HQ.out, Bool.and_assoc]; congr 2; by_cases ha : x3 = 0 ∨ x3 = 1 <;> by_cases hb : NumB x1 ∧ NumB x2 <;> simp [ha, hb])
          clear HQ
          generalize hg1 : (gd && decide (x3 = 0 ∨ x3 = 1)) = g1 at *
          clear hg1
          go_upto_region 20 with fail
          obtain ⟨y0, y1, y2, y3, y4, y5, y6, fz, lt⟩ := S6.out.xs
          have m1 := hid (rsmall_any (x1) v6); have m2 := hid (rsmall_any (x2) v6); have m3 := hid (rsmall_any (0) v6); have m4 := hid (rsmall_any (0) v6); have m5 := hid (rsmall_any (0) v6)
          go_cut [7] (fun gv wx => gv = .bool (g1 && decide (NumB x1 ∧ NumB x2)) ∧ v6 = wx)
          case first =>
           as_aux_lemma =>
            have z0 : decide (NumB 0) = true := by decide
            (try rw [z0] at m2); (try rw [z0] at m3); (try rw [z0] at m4); (try rw [z0] at m5)
            cases g1 with
            | false =>
              go_wp2_with fail
              go_meet
              exact ⟨rfl, rfl⟩
            | true =>
              by_cases b0 : NumB x1
              · rw [decide_eq_true b0] at m1
                by_cases b1 : NumB x2
                · rw [decide_eq_true b1] at m2
                  have hR := hid (show (true && decide (NumB x1 ∧ NumB x2)) = true by
                    rw [Bool.true_and, decide_eq_true_eq]; exact ⟨b0, b1⟩)
                  clear b0 b1
                  go_wp2_with fail
                  refine m1.out.mono ?_
                  rintro e wz ⟨rfl, rfl⟩
                  go_wp2_with fail
                  refine m2.out.mono ?_
                  rintro e wz ⟨rfl, rfl⟩
                  go_wp2_with fail
                  refine m3.out.mono ?_
                  rintro e wz ⟨rfl, rfl⟩
                  go_wp2_with fail
                  refine m4.out.mono ?_
                  rintro e wz ⟨rfl, rfl⟩
                  go_wp2_with fail
                  refine m5.out.mono ?_
                  rintro e wz ⟨rfl, rfl⟩
                  go_wp2_with fail
                  go_meet
                  exact ⟨by rw [hR.out] <;> rfl, rfl⟩
                · rw [decide_eq_false b1] at m2
                  have hR := hid (show (true && decide (NumB x1 ∧ NumB x2)) = false by
                    rw [Bool.true_and, decide_eq_false_iff_not]; intro h; exact b1 (by first | exact h.1 | exact h.2 | exact h.2.1 | exact h.2.2.1 | exact h.2.2.2))
                  clear b0 b1
                  go_wp2_with fail
                  refine m1.out.mono ?_
                  rintro e wz ⟨rfl, rfl⟩
                  go_wp2_with fail
                  refine m2.out.mono ?_
                  rintro e wz ⟨rfl, rfl⟩
                  go_wp2_with fail
                  go_meet
                  exact ⟨by rw [hR.out] <;> rfl, rfl⟩
              · rw [decide_eq_false b0] at m1
                have hR := hid (show (true && decide (NumB x1 ∧ NumB x2)) = false by
                  rw [Bool.true_and, decide_eq_false_iff_not]; intro h; exact b0 (by first | exact h.1 | exact h.2 | exact h.2.1 | exact h.2.2.1 | exact h.2.2.2))
                clear b0
                go_wp2_with fail
                refine m1.out.mono ?_
                rintro e wz ⟨rfl, rfl⟩
                go_wp2_with fail
                go_meet
                exact ⟨by rw [hR.out] <;> rfl, rfl⟩
          obtain ⟨rfl, rfl⟩ := hcut
          clear y0 y1 y2 y3 y4 y5 y6 fz lt m1 m2 m3 m4 m5
          go_upto_region 21 with fail
          have SD := hid (S6.out.below (show Below v6.heap.size v6 v6.drew by (repeat (first | exact Below.refl _ _ | assumption | refine below_drewN ?_ _ | refine Below.drew ?_ | refine Below.alloc ?_ (by (try simp); (try omega)) _ | refine Below.setCell ?_ (by (try simp); (try omega)) _))))
          clear S6
          have HSF := hid (fun (wq : World) (hq : wq = v6.drew) => show wq.cell? ⟨bb, 1, none⟩ = some (.slice (some ⟨gg, 0, none⟩) home.length cv) ∧ wq.cell? ⟨q, 0, none⟩ = some (.int .i64 hx) ∧ wq.cell? ⟨q, 1, none⟩ = some (.int .i64 x1) ∧ wq.cell? ⟨q, 2, none⟩ = some (.int .i64 x2) ∧ wq.cell? ⟨q, 3, none⟩ = some (.bool (x3 == 1)) ∧ wq.cell? ⟨q, 4, none⟩ = some (.int .i64 0) ∧ wq.cell? ⟨q, 5, none⟩ = some (.int .i64 0) ∧ wq.cell? ⟨q, 6, none⟩ = some (.int .i64 0) by
            subst hq
            obtain ⟨y0, y1, y2, y3, y4, y5, y6, -, -⟩ := SD.out.xs
            exact ⟨SD.out.D.cell 1, y0, y1, y2, y3, y4, y5, y6⟩)
          refine wpIn_wide.1 (wpIn_region_S (n := 0) (fun wq => wq = v6.drew) [7] (by kernel_rfl) rfl (fun hHeld => ?_))
          refine wpAnyS_pure 0 (v := ?_) (fun _ => trivial) (by simp only [List.getElem?_toArray, List.getElem?_cons_succ, List.getElem?_cons_zero]; rfl) (by kernel_rfl) (fun _ _ _ _ _ h => h) ⟨rfl, (by intro c h; cases h), ?_⟩ hHeld ?_
          rotate_left
          focus (intro wS hSw; (try replace hSw := HSF.out wS hSw); (try dsimp only at hSw); go_simp; (try with_reducible rfl))
          (try simp only [Act.put, List.setIfInBounds_toArray, List.set_cons_zero, List.set_cons_succ])
          refine wpAnyS_pure 1 (v := ?_) (fun _ => trivial) (by simp only [List.getElem?_toArray, List.getElem?_cons_succ, List.getElem?_cons_zero]; rfl) (by kernel_rfl) (fun _ _ _ _ _ h => h) ⟨rfl, (by intro c h; cases h), ?_⟩ hHeld ?_
          rotate_left
          focus (intro wS hSw; (try replace hSw := HSF.out wS hSw); (try dsimp only at hSw); go_simp; (try with_reducible rfl))
          (try simp only [Act.put, List.setIfInBounds_toArray, List.set_cons_zero, List.set_cons_succ])
          refine wpAnyS_pure 2 (v := ?_) (fun _ => trivial) (by simp only [List.getElem?_toArray, List.getElem?_cons_succ, List.getElem?_cons_zero]; rfl) (by kernel_rfl) (fun _ _ _ _ _ h => h) ⟨rfl, (by intro c h; cases h), ?_⟩ hHeld ?_
          rotate_left
          focus (intro wS hSw; (try replace hSw := HSF.out wS hSw); (try dsimp only at hSw); go_simp; (try with_reducible rfl))
          (try simp only [Act.put, List.setIfInBounds_toArray, List.set_cons_zero, List.set_cons_succ])
          refine wpAnyS_take 3 (v := ?_) (fun _ => trivial) (by simp only [List.getElem?_toArray, List.getElem?_cons_succ, List.getElem?_cons_zero]; rfl) (by kernel_rfl) (fun _ _ _ _ _ h => h) ⟨rfl, (by intro c h; cases h), ?_⟩ hHeld ?_
          rotate_left
          focus (intro wS hSw; (try replace hSw := HSF.out wS hSw); (try dsimp only at hSw); go_simp; (try with_reducible rfl))
          (try simp only [Act.put, List.setIfInBounds_toArray, List.set_cons_zero, List.set_cons_succ])
          refine wpAnyS_pure 4 (v := ?_) (fun _ => trivial) (by simp only [List.getElem?_toArray, List.getElem?_cons_succ, List.getElem?_cons_zero]; rfl) (by kernel_rfl) (fun _ _ _ _ _ h => h) ⟨rfl, (by intro c h; cases h), ?_⟩ hHeld ?_
          rotate_left
          focus (intro wS hSw; (try replace hSw := HSF.out wS hSw); (try dsimp only at hSw); go_simp; (try with_reducible rfl))
          (try simp only [Act.put, List.setIfInBounds_toArray, List.set_cons_zero, List.set_cons_succ])
          refine wpAnyS_take 5 (v := ?_) (fun _ => trivial) (by simp only [List.getElem?_toArray, List.getElem?_cons_succ, List.getElem?_cons_zero]; rfl) (by kernel_rfl) (fun _ _ _ _ _ h => h) ⟨rfl, (by intro c h; cases h), ?_⟩ hHeld ?_
          rotate_left
          focus (intro wS hSw; (try replace hSw := HSF.out wS hSw); (try dsimp only at hSw); go_simp; (try with_reducible rfl))
          (try simp only [Act.put, List.setIfInBounds_toArray, List.set_cons_zero, List.set_cons_succ])
          refine wpAnyS_pure 6 (v := ?_) (fun _ => trivial) (by simp only [List.getElem?_toArray, List.getElem?_cons_succ, List.getElem?_cons_zero]; rfl) (by kernel_rfl) (fun _ _ _ _ _ h => h) ⟨rfl, (by intro c h; cases h), ?_⟩ hHeld ?_
          rotate_left
          focus (intro wS hSw; (try replace hSw := HSF.out wS hSw); (try dsimp only at hSw); go_simp; (try with_reducible rfl))
          (try simp only [Act.put, List.setIfInBounds_toArray, List.set_cons_zero, List.set_cons_succ])
          generalize v6.drew = wd at *
          refine wpAnyS_ready [7] (by kernel_rfl) (by simp) (AllReadyS.consL (by simp only [List.getElem?_toArray, List.getElem?_cons_succ, List.getElem?_cons_zero]; rfl) rfl (by kernel_rfl) (fun K hK => ?_) AllReadyS.nil)
          refine storeZS (fun _ => trivial) (.tmp 105) (.tmp 104) rfl (z := (hx, x1, x2, (x3 == 1), 0, 0, 0)) rfl rfl SD.out.O hlk.out ?_
          intro w9 o9 g9
          have O9 := hid o9
          have G9 := hid g9
          refine hK.out _ _ ?_
          (try simp only [Act.put, List.setIfInBounds_toArray, List.set_cons_zero, List.set_cons_succ])
          clear hK K hHeld HSF o9 g9
          have gne := hid (own_blk SD.out.O gg rfl)
          have D9 := hid (SD.out.D.grown G9.out (fun e => by injection e with e; obtain ⟨-, cs, hb⟩ := gne.out; exact Blk.ne_ hb SD.out.D (by decide) e.symm))
          have R9 := hid (show Rr w9 b t3.1 t3.2 from Blk.grown SD.out.R G9.out (fun e => by injection e with e; obtain ⟨-, cs, hb⟩ := gne.out; exact Blk.ne_ hb SD.out.R (by decide) e.symm))
          have B9 := hid (SD.out.B.grown G9.out SD.out.B.size (fun p e => by injection e with e; have := gne.out.1; have := HBS.out; omega))

          refine wpAnyS_done (by kernel_rfl) ?_
          go_wp2_with fail
          go_roundw
          case rel =>
            exact ⟨k + 1, l.set k (hx, x1, x2, (x3 == 1), 0, 0, 0), by omega, by first | exact congrArg (Value.int .i64) hk1 | rfl | (simp [hk1]; done), by rw [HQ2.out], D9.out, O9.out, by rw [List.length_set]; exact HLL.out, fun j hj hj2 => by rw [List.getElem?_set_ne (by omega)]; exact HLZ.out j (by omega) hj2, by rw [HQ2.out]; exact R9.out, by rw [HQ2.out]; exact Z3.out, B9.out⟩
          case measure => simp [intOf, hk1]; omega
        · as_aux_lemma =>
          have HQ := hid (show Q (k + 1) = (gd && decide (NumB x1 ∧ NumB x2 ∧ NumB x3 ∧ NumB x4), t4) by
            rw [hQS.out, if_neg hxm, hr4.out])
          clear hQS hr3 hr4
          go_wp2_with fail
          refine (C2.out b _ S3.out.R).mono ?_
          rintro e v4 ⟨rfl, hR, hg⟩
          have S3r := hid (S3.out.rd hR hg)
          clear hR hg S3 C2
          obtain ⟨y0, y1, y2, y3, y4, y5, y6, fz, lt⟩ := S3r.out.xs
          go_upto_region 18 with fail
          have S4 := hid (S3r.out.st (y := (hx, x1, 0, false, x2, 0, 0)) 4 (.int .i64 x2) rfl)
          clear S3r y0 y1 y2 y3 y4 y5 y6 fz lt
          generalize v4.setCell ⟨q, 4, none⟩ (.int .i64 x2) = v4s at *
          go_wp2_with fail
          refine (C3.out b _ S4.out.R).mono ?_
          rintro e v5 ⟨rfl, hR, hg⟩
          have S4r := hid (S4.out.rd hR hg)
          clear hR hg S4 C3
          obtain ⟨y0, y1, y2, y3, y4, y5, y6, fz, lt⟩ := S4r.out.xs
          go_upto_region 19 with fail
          have S5 := hid (S4r.out.st (y := (hx, x1, 0, false, x2, x3, 0)) 5 (.int .i64 x3) rfl)
          clear S4r y0 y1 y2 y3 y4 y5 y6 fz lt
          generalize v5.setCell ⟨q, 5, none⟩ (.int .i64 x3) = v5s at *
          go_wp2_with fail
          refine (C4.out b _ S5.out.R).mono ?_
          rintro e v6 ⟨rfl, hR, hg⟩
          have S5r := hid (S5.out.rd hR hg)
          clear hR hg S5 C4
          obtain ⟨y0, y1, y2, y3, y4, y5, y6, fz, lt⟩ := S5r.out.xs
          go_upto_region 20 with fail
          have S6 := hid (S5r.out.st (y := (hx, x1, 0, false, x2, x3, x4)) 6 (.int .i64 x4) rfl)
          clear S5r y0 y1 y2 y3 y4 y5 y6 fz lt
          generalize v6.setCell ⟨q, 6, none⟩ (.int .i64 x4) = v6s at *
          have HQ2 := HQ
          clear HQ
          generalize gd = g1 at *
          obtain ⟨y0, y1, y2, y3, y4, y5, y6, fz, lt⟩ := S6.out.xs
          have m1 := hid (rsmall_any (x1) v6s); have m2 := hid (rsmall_any (0) v6s); have m3 := hid (rsmall_any (x2) v6s); have m4 := hid (rsmall_any (x3) v6s); have m5 := hid (rsmall_any (x4) v6s)
          go_cut [7] (fun gv wx => gv = .bool (g1 && decide (NumB x1 ∧ NumB x2 ∧ NumB x3 ∧ NumB x4)) ∧ v6s = wx)
          case first =>
           as_aux_lemma =>
            have z0 : decide (NumB 0) = true := by decide
            (try rw [z0] at m2); (try rw [z0] at m3); (try rw [z0] at m4); (try rw [z0] at m5)
            cases g1 with
            | false =>
              go_wp2_with fail
              go_meet
              exact ⟨rfl, rfl⟩
            | true =>
              by_cases b0 : NumB x1
              · rw [decide_eq_true b0] at m1
                by_cases b1 : NumB x2
                · rw [decide_eq_true b1] at m3
                  by_cases b2 : NumB x3
                  · rw [decide_eq_true b2] at m4
                    by_cases b3 : NumB x4
                    · rw [decide_eq_true b3] at m5
                      have hR := hid (show (true && decide (NumB x1 ∧ NumB x2 ∧ NumB x3 ∧ NumB x4)) = true by
                        rw [Bool.true_and, decide_eq_true_eq]; exact ⟨b0, b1, b2, b3⟩)
                      clear b0 b1 b2 b3
                      go_wp2_with fail
                      refine m1.out.mono ?_
                      rintro e wz ⟨rfl, rfl⟩
                      go_wp2_with fail
                      refine m2.out.mono ?_
                      rintro e wz ⟨rfl, rfl⟩
                      go_wp2_with fail
                      refine m3.out.mono ?_
                      rintro e wz ⟨rfl, rfl⟩
                      go_wp2_with fail
                      refine m4.out.mono ?_
                      rintro e wz ⟨rfl, rfl⟩
                      go_wp2_with fail
                      refine m5.out.mono ?_
                      rintro e wz ⟨rfl, rfl⟩
                      go_wp2_with fail
                      go_meet
                      exact ⟨by rw [hR.out] <;> rfl, rfl⟩
                    · rw [decide_eq_false b3] at m5
                      have hR := hid (show (true && decide (NumB x1 ∧ NumB x2 ∧ NumB x3 ∧ NumB x4)) = false by
                        rw [Bool.true_and, decide_eq_false_iff_not]; intro h; exact b3 (by first | exact h.1 | exact h.2 | exact h.2.1 | exact h.2.2.1 | exact h.2.2.2))
                      clear b0 b1 b2 b3
                      go_wp2_with fail
                      refine m1.out.mono ?_
                      rintro e wz ⟨rfl, rfl⟩
                      go_wp2_with fail
                      refine m2.out.mono ?_
                      rintro e wz ⟨rfl, rfl⟩
                      go_wp2_with fail
                      refine m3.out.mono ?_
                      rintro e wz ⟨rfl, rfl⟩
                      go_wp2_with fail
                      refine m4.out.mono ?_
                      rintro e wz ⟨rfl, rfl⟩
                      go_wp2_with fail
                      refine m5.out.mono ?_
                      rintro e wz ⟨rfl, rfl⟩
                      go_wp2_with fail
                      go_meet
                      exact ⟨by rw [hR.out] <;> rfl, rfl⟩
                  · rw [decide_eq_false b2] at m4
                    have hR := hid (show (true && decide (NumB x1 ∧ NumB x2 ∧ NumB x3 ∧ NumB x4)) = false by
                      rw [Bool.true_and, decide_eq_false_iff_not]; intro h; exact b2 (by first | exact h.1 | exact h.2 | exact h.2.1 | exact h.2.2.1 | exact h.2.2.2))
                    clear b0 b1 b2
                    go_wp2_with fail
                    refine m1.out.mono ?_
                    rintro e wz ⟨rfl, rfl⟩
                    go_wp2_with fail
                    refine m2.out.mono ?_
                    rintro e wz ⟨rfl, rfl⟩
                    go_wp2_with fail
                    refine m3.out.mono ?_
                    rintro e wz ⟨rfl, rfl⟩
                    go_wp2_with fail
                    refine m4.out.mono ?_
                    rintro e wz ⟨rfl, rfl⟩
                    go_wp2_with fail
                    go_meet
                    exact ⟨by rw [hR.out] <;> rfl, rfl⟩
                · rw [decide_eq_false b1] at m3
                  have hR := hid (show (true && decide (NumB x1 ∧ NumB x2 ∧ NumB x3 ∧ NumB x4)) = false by
                    rw [Bool.true_and, decide_eq_false_iff_not]; intro h; exact b1 (by first | exact h.1 | exact h.2 | exact h.2.1 | exact h.2.2.1 | exact h.2.2.2))
                  clear b0 b1
                  go_wp2_with fail
                  refine m1.out.mono ?_
                  rintro e wz ⟨rfl, rfl⟩
                  go_wp2_with fail
                  refine m2.out.mono ?_
                  rintro e wz ⟨rfl, rfl⟩
                  go_wp2_with fail
                  refine m3.out.mono ?_
                  rintro e wz ⟨rfl, rfl⟩
                  go_wp2_with fail
                  go_meet
                  exact ⟨by rw [hR.out] <;> rfl, rfl⟩
              · rw [decide_eq_false b0] at m1
                have hR := hid (show (true && decide (NumB x1 ∧ NumB x2 ∧ NumB x3 ∧ NumB x4)) = false by
                  rw [Bool.true_and, decide_eq_false_iff_not]; intro h; exact b0 (by first | exact h.1 | exact h.2 | exact h.2.1 | exact h.2.2.1 | exact h.2.2.2))
                clear b0
                go_wp2_with fail
                refine m1.out.mono ?_
                rintro e wz ⟨rfl, rfl⟩
                go_wp2_with fail
                go_meet
                exact ⟨by rw [hR.out] <;> rfl, rfl⟩
          obtain ⟨rfl, rfl⟩ := hcut
          clear y0 y1 y2 y3 y4 y5 y6 fz lt m1 m2 m3 m4 m5
          go_upto_region 21 with fail
          have SD := hid (S6.out.below (show Below v6s.heap.size v6s v6s.drew by (repeat (first | exact Below.refl _ _ | assumption | refine below_drewN ?_ _ | refine Below.drew ?_ | refine Below.alloc ?_ (by (try simp); (try omega)) _ | refine Below.setCell ?_ (by (try simp); (try omega)) _))))
          clear S6
          have HSF := hid (fun (wq : World) (hq : wq = v6s.drew) => show wq.cell? ⟨bb, 1, none⟩ = some (.slice (some ⟨gg, 0, none⟩) home.length cv) ∧ wq.cell? ⟨q, 0, none⟩ = some (.int .i64 hx) ∧ wq.cell? ⟨q, 1, none⟩ = some (.int .i64 x1) ∧ wq.cell? ⟨q, 2, none⟩ = some (.int .i64 0) ∧ wq.cell? ⟨q, 3, none⟩ = some (.bool false) ∧ wq.cell? ⟨q, 4, none⟩ = some (.int .i64 x2) ∧ wq.cell? ⟨q, 5, none⟩ = some (.int .i64 x3) ∧ wq.cell? ⟨q, 6, none⟩ = some (.int .i64 x4) by
            subst hq
            obtain ⟨y0, y1, y2, y3, y4, y5, y6, -, -⟩ := SD.out.xs
            exact ⟨SD.out.D.cell 1, y0, y1, y2, y3, y4, y5, y6⟩)
          refine wpIn_wide.1 (wpIn_region_S (n := 0) (fun wq => wq = v6s.drew) [7] (by kernel_rfl) rfl (fun hHeld => ?_))
          refine wpAnyS_pure 0 (v := ?_) (fun _ => trivial) (by simp only [List.getElem?_toArray, List.getElem?_cons_succ, List.getElem?_cons_zero]; rfl) (by kernel_rfl) (fun _ _ _ _ _ h => h) ⟨rfl, (by intro c h; cases h), ?_⟩ hHeld ?_
          rotate_left
          focus (intro wS hSw; (try replace hSw := HSF.out wS hSw); (try dsimp only at hSw); go_simp; (try with_reducible rfl))
          (try simp only [Act.put, List.setIfInBounds_toArray, List.set_cons_zero, List.set_cons_succ])
          refine wpAnyS_pure 1 (v := ?_) (fun _ => trivial) (by simp only [List.getElem?_toArray, List.getElem?_cons_succ, List.getElem?_cons_zero]; rfl) (by kernel_rfl) (fun _ _ _ _ _ h => h) ⟨rfl, (by intro c h; cases h), ?_⟩ hHeld ?_
          rotate_left
          focus (intro wS hSw; (try replace hSw := HSF.out wS hSw); (try dsimp only at hSw); go_simp; (try with_reducible rfl))
          (try simp only [Act.put, List.setIfInBounds_toArray, List.set_cons_zero, List.set_cons_succ])
          refine wpAnyS_pure 2 (v := ?_) (fun _ => trivial) (by simp only [List.getElem?_toArray, List.getElem?_cons_succ, List.getElem?_cons_zero]; rfl) (by kernel_rfl) (fun _ _ _ _ _ h => h) ⟨rfl, (by intro c h; cases h), ?_⟩ hHeld ?_
          rotate_left
          focus (intro wS hSw; (try replace hSw := HSF.out wS hSw); (try dsimp only at hSw); go_simp; (try with_reducible rfl))
          (try simp only [Act.put, List.setIfInBounds_toArray, List.set_cons_zero, List.set_cons_succ])
          refine wpAnyS_take 3 (v := ?_) (fun _ => trivial) (by simp only [List.getElem?_toArray, List.getElem?_cons_succ, List.getElem?_cons_zero]; rfl) (by kernel_rfl) (fun _ _ _ _ _ h => h) ⟨rfl, (by intro c h; cases h), ?_⟩ hHeld ?_
          rotate_left
          focus (intro wS hSw; (try replace hSw := HSF.out wS hSw); (try dsimp only at hSw); go_simp; (try with_reducible rfl))
          (try simp only [Act.put, List.setIfInBounds_toArray, List.set_cons_zero, List.set_cons_succ])
          refine wpAnyS_pure 4 (v := ?_) (fun _ => trivial) (by simp only [List.getElem?_toArray, List.getElem?_cons_succ, List.getElem?_cons_zero]; rfl) (by kernel_rfl) (fun _ _ _ _ _ h => h) ⟨rfl, (by intro c h; cases h), ?_⟩ hHeld ?_
          rotate_left
          focus (intro wS hSw; (try replace hSw := HSF.out wS hSw); (try dsimp only at hSw); go_simp; (try with_reducible rfl))
          (try simp only [Act.put, List.setIfInBounds_toArray, List.set_cons_zero, List.set_cons_succ])
          refine wpAnyS_take 5 (v := ?_) (fun _ => trivial) (by simp only [List.getElem?_toArray, List.getElem?_cons_succ, List.getElem?_cons_zero]; rfl) (by kernel_rfl) (fun _ _ _ _ _ h => h) ⟨rfl, (by intro c h; cases h), ?_⟩ hHeld ?_
          rotate_left
          focus (intro wS hSw; (try replace hSw := HSF.out wS hSw); (try dsimp only at hSw); go_simp; (try with_reducible rfl))
          (try simp only [Act.put, List.setIfInBounds_toArray, List.set_cons_zero, List.set_cons_succ])
          refine wpAnyS_pure 6 (v := ?_) (fun _ => trivial) (by simp only [List.getElem?_toArray, List.getElem?_cons_succ, List.getElem?_cons_zero]; rfl) (by kernel_rfl) (fun _ _ _ _ _ h => h) ⟨rfl, (by intro c h; cases h), ?_⟩ hHeld ?_
          rotate_left
          focus (intro wS hSw; (try replace hSw := HSF.out wS hSw); (try dsimp only at hSw); go_simp; (try with_reducible rfl))
          (try simp only [Act.put, List.setIfInBounds_toArray, List.set_cons_zero, List.set_cons_succ])
          generalize v6s.drew = wd at *
          refine wpAnyS_ready [7] (by kernel_rfl) (by simp) (AllReadyS.consL (by simp only [List.getElem?_toArray, List.getElem?_cons_succ, List.getElem?_cons_zero]; rfl) rfl (by kernel_rfl) (fun K hK => ?_) AllReadyS.nil)
          refine storeZS (fun _ => trivial) (.tmp 105) (.tmp 104) rfl (z := (hx, x1, 0, false, x2, x3, x4)) rfl rfl SD.out.O hlk.out ?_
          intro w9 o9 g9
          have O9 := hid o9
          have G9 := hid g9
          refine hK.out _ _ ?_
          (try simp only [Act.put, List.setIfInBounds_toArray, List.set_cons_zero, List.set_cons_succ])
          clear hK K hHeld HSF o9 g9
          have gne := hid (own_blk SD.out.O gg rfl)
          have D9 := hid (SD.out.D.grown G9.out (fun e => by injection e with e; obtain ⟨-, cs, hb⟩ := gne.out; exact Blk.ne_ hb SD.out.D (by decide) e.symm))
          have R9 := hid (show Rr w9 b t4.1 t4.2 from Blk.grown SD.out.R G9.out (fun e => by injection e with e; obtain ⟨-, cs, hb⟩ := gne.out; exact Blk.ne_ hb SD.out.R (by decide) e.symm))
          have B9 := hid (SD.out.B.grown G9.out SD.out.B.size (fun p e => by injection e with e; have := gne.out.1; have := HBS.out; omega))

          refine wpAnyS_done (by kernel_rfl) ?_
          go_wp2_with fail
          go_roundw
          case rel =>
            exact ⟨k + 1, l.set k (hx, x1, 0, false, x2, x3, x4), by omega, by first | exact congrArg (Value.int .i64) hk1 | rfl | (simp [hk1]; done), by rw [HQ2.out], D9.out, O9.out, by rw [List.length_set]; exact HLL.out, fun j hj hj2 => by rw [List.getElem?_set_ne (by omega)]; exact HLZ.out j (by omega) hj2, by rw [HQ2.out]; exact R9.out, by rw [HQ2.out]; exact Z4.out, B9.out⟩
          case measure => simp [intOf, hk1]; omega
      · obtain rfl : k = home.length := by omega
        as_aux_lemma =>
          have hd := doneR_any b t.1 t.2 wr RR.out
          have Hd := hid hd
          have hT3 := hid (show res = ((!t.2 && t.1.isEmpty) && gd) from hQk.out rfl)
          clear hd hT2 hQS HQS hQk
          generalize (!t.2 && t.1.isEmpty) = dn at *
          cases dn with
          | false =>
            have hr := hid (show res = false by rw [hT3.out]; rfl)
            clear hT3
            go_wp2_with fail
            refine Hd.out.mono ?_
            rintro e w6 ⟨rfl, hB6⟩
            have B6 := hid (BB.out.trans (hB6.mono BB.out.size))
            clear hB6 Hd
            go_wp2_with fail
            refine bodyPost_ret (v := .tuple #[.pointer none, .bool false]) (by simp [results, Tryd.results13, go_sem]) rfl ?_
            rw [hr.out]
            exact ⟨_, rfl, B6.out⟩
          | true =>
            have hr := hid (show res = gd by rw [hT3.out]; simp)
            clear hT3
            cases gd with
            | false =>
              go_wp2_with fail
              refine Hd.out.mono ?_
              rintro e w6 ⟨rfl, hB6⟩
              have B6 := hid (BB.out.trans (hB6.mono BB.out.size))
              clear hB6 Hd
              go_wp2_with fail
              refine bodyPost_ret (v := .tuple #[.pointer none, .bool false]) (by simp [results, Tryd.results13, go_sem]) rfl ?_
              rw [hr.out]
              exact ⟨_, rfl, B6.out⟩
            | true =>
              go_wp2_with fail
              refine Hd.out.mono ?_
              rintro e w6 ⟨rfl, hB6⟩
              have B6 := hid (BB.out.trans (hB6.mono BB.out.size))
              clear hB6 Hd
              go_wp2_with fail
              refine bodyPost_ret (v := .tuple #[.pointer (some ⟨bb, 0, none⟩), .bool true]) (by simp [results, Tryd.results13, go_sem]) rfl ?_
              rw [hr.out]
              exact ⟨_, rfl, B6.out⟩
end Go.Proofs.YtappgjdnfllblaaDoor
