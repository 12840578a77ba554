
/- Lease: Read. -/
import Derived.Test.YtappgjdnfllblaaDoorLeaV
import Derived.Test.YtappgjdnfllblaaDoorLzA
set_option linter.unusedSimpArgs false
set_option linter.unusedVariables false
namespace Go.Proofs.YtappgjdnfllblaaDoor
open Go.RowKit Go.IntWalk Go.Maps Go.WideMaps
def outB (x : Int) : Bool := decide (x < 0) || decide (2199023255552 < x)
theorem outB_no {x : Int} : outB x = false ↔ NumB x := by
  unfold outB NumB
  simp only [Bool.or_eq_false_iff, decide_eq_false_iff_not]
  omega
set_option maxRecDepth 100000 in
set_option maxHeartbeats 400000 in
theorem outB_any (x : Int) (w : World) : Calls Tryd.prog 57 #[.int .i64 x] w fun e w' => e = .returned (.bool (outB x)) ∧ w = w' := by
  by_cases h : x < 0
  · have hr := hid (show outB x = true by simp [outB, h])
    go_enter Tryd.func57, Tryd.ntmps57
    go_wp2
    go_ret
    exact ⟨ret_bool hr.out.symm, rfl⟩
  · by_cases h2 : 2199023255552 < x
    · have hr := hid (show outB x = true by simp [outB, h2])
      go_enter Tryd.func57, Tryd.ntmps57
      go_wp2
      go_ret
      exact ⟨ret_bool (by rw [hr.out]), rfl⟩
    · have hr := hid (show outB x = false by simp [outB, h, h2])
      go_enter Tryd.func57, Tryd.ntmps57
      go_wp2
      go_ret
      exact ⟨ret_bool (by rw [hr.out]; (try simp); try omega), rfl⟩
theorem rNs_f (s : RS) (hok : RSok s) (hl : s.1.length ≤ 1000000000000) (b : Nat) (w0 W : World) (h : Rd W b s.1 s.2) (he : Env w0) (hb : w0.heap.size ≤ b) (hB : Below w0.heap.size w0 W) :
    Calls Tryd.prog 54 #[.pointer (some ⟨b, 0, none⟩)] W fun e w' => ∃ A c, e = .returned (.slice A (rNs s).1.length c) ∧ (rNs s).1.length ≤ c ∧ c ≤ maxLen ∧ SlR w' w'.heap.size A (rNs s).1 ∧ Rd w' b (rNs s).2.1 (rNs s).2.2 ∧ W.grownBy w' (some b) := by
  obtain ⟨xs, l', bad', _, _, _, hc, hor⟩ := nums_uni s.1 s.2 hl hok
  have e : rNs s = (xs, l', bad') := by
    unfold rNs
    rcases hor with ⟨h1, rfl⟩ | ⟨h1, rfl, rfl, rfl⟩ <;> rw [h1]
  rw [e]
  refine (hc b w0 W h he hb hB).mono ?_
  rintro e w' ⟨A, c, rfl, h1, h2, _, h4, h5, h6⟩
  exact ⟨A, c, rfl, h1, h2, h4, h5, h6⟩
theorem rNs_le (s : RS) (hok : RSok s) (hl : s.1.length ≤ 1000000000000) : (rNs s).2.1.length ≤ s.1.length := by
  obtain ⟨xs, l', bad', _, _, h3, _, hor⟩ := nums_uni s.1 s.2 hl hok
  unfold rNs
  rcases hor with ⟨h1, rfl⟩ | ⟨h1, rfl, rfl, rfl⟩ <;> rw [h1] <;> exact h3
theorem runR_none {d : LDk} {s : RS} {k : Nat} (h : runR d s k = none) : ∀ n, k ≤ n → runR d s n = none := by
  intro n hn
  induction n with
  | zero => have : k = 0 := by omega
            subst this; exact h
  | succ n ih =>
    by_cases e : k = n + 1
    · subst e; exact h
    · have := ih (by omega)
      unfold runR
      rw [this]
def RdL (w : World) (r : Option LDk) (e : Ending) (w' : World) : Prop :=
  match r with
  | some d => ∃ b v mh mg, e = .returned (.tuple #[.pointer (some ⟨b, 0, none⟩), .bool true]) ∧ Ld w' w.heap.size b v mh mg d ∧ Below w.heap.size w w'
  | none => e = .returned (.tuple #[.pointer none, .bool false]) ∧ Below w.heap.size w w'
section
variable {w w' : World} {base b : Nat} {v : Value} {mh mg : Nat} {d : LDk}
theorem Ld.lower (h : Ld w base b v mh mg d) {base' : Nat} (hb : base' ≤ base) : Ld w base' b v mh mg d :=
  ⟨h.k, own_base h.r hb, h.h, h.g, Nat.le_trans hb h.ha, Nat.le_trans hb h.ga, Nat.le_trans hb h.ba, h.ne⟩
theorem Ld.drw (h : Ld w base b v mh mg d) : Ld w.drew base b v mh mg d := h.below (by (repeat (first | exact Below.refl _ _ | assumption | refine below_drewN ?_ _ | refine Below.drew ?_ | refine Below.alloc ?_ (by (try simp); (try omega)) _ | refine Below.setCell ?_ (by (try simp); (try omega)) _)))
theorem Ld.reader (h : Ld w base b v mh mg d) {b0 : Nat} (hb : b0 < base) (hg : w.grownBy w' (some b0)) : Ld w' base b v mh mg d :=
  h.kept hg (by have := h.ba; omega) (by have := h.ha; omega) (by have := h.ga; omega) (fun k hk => by have := (h.r.lt k hk).1; omega)
theorem numsH (x : Ho) (k : Nat) (hp : d.hp k = true) : numsL (d.setH k x) k = [x.1, x.2.1, if x.2.2 then 1 else 0] := by
  have e1 : (d.setH k x).hp k = true := hp
  have e2 : (d.setH k x).hs k = x := by show (if (k : Int) = (k : Int) then x else d.hs k) = x; rw [if_pos rfl]
  unfold numsL
  rw [e1, e2]; simp
theorem numsG (x : Gu) (k : Nat) (hp : d.hp k = false) : numsL (d.setG k x) k = [x.1, x.2.1, x.2.2.1, x.2.2.2] := by
  have e1 : (d.setG k x).hp k = false := hp
  have e2 : (d.setG k x).gs k = x := by show (if (k : Int) = (k : Int) then x else d.gs k) = x; rw [if_pos rfl]
  unfold numsL
  rw [e1, e2]; simp
theorem fzB (f : Bool) : outB (if f then 1 else 0) = false := by cases f <;> decide
end
set_option maxRecDepth 100000 in
set_option maxHeartbeats 16000000 in
theorem lread_any (s : ByteArray) (w : World) (hs : s.size ≤ 90000) (he : Env w) :
    Calls Tryd.prog 12 #[.string s] w (RdL w (readDk s.data.toList)) := by
  have hl0 : s.data.toList.length ≤ 90000 := by rw [← size_list]; exact hs
  obtain ⟨me, s1, e1⟩ : ∃ x s', rI (s.data.toList, false) = (x, s') := ⟨_, _, rfl⟩
  obtain ⟨home, s2, e2⟩ : ∃ x s', rNs s1 = (x, s') := ⟨_, _, rfl⟩
  have k1 := rI_ok (s := (s.data.toList, false)) (by intro h; cases h)
  have l1 := rI_le (s.data.toList, false)
  have i1 := rI_bd (s.data.toList, false)
  have c1 := rInt_f (s.data.toList, false) (by simp only; omega)
  rw [e1] at k1 l1 i1 c1
  simp only at k1 l1 i1 c1
  have k2 := rNs_ok k1
  have l2 := rNs_le s1 k1 (by omega)
  have c2 := rNs_f s1 k1 (by omega)
  rw [e2] at k2 l2 c2
  simp only at k2 l2 c2
  have hT := hid (show readDk s.data.toList = match newDk me home with
    | none => none
    | some d => match runR d s2 d.home.length with
      | none => none
      | some x => if x.2 = ([], false) then some x.1 else none by
    unfold readDk
    rw [e1]; simp only [e2]; rfl)
  have Z2 : s2.1.length ≤ 90000 := by omega
  have C1 := hid c1
  have C2 := hid c2
  have K2 := hid k2
  have I1 := hid i1
  clear c1 c2 k1 k2 i1 e1 e2 l1 l2
  generalize readDk s.data.toList = res at *
  go_enter Tryd.func12, Tryd.ntmps12
  go_wp2_with fail
  refine (open_any s w).mono ?_
  rintro e w1 ⟨rfl, hR, hB⟩
  have hbl := hR.lt
  generalize hbq : w.heap.size = b at hR hbl
  have HBb := hid (show w.heap.size ≤ b by omega)
  clear hbq
  have B1 := hid hB
  have R1 := hid hR
  clear hB hR
  go_wp2_with fail
  refine (C1.out b _ R1.out (he.below B1.out)).mono ?_
  rintro e w2 ⟨rfl, hR, hg⟩
  have B2 := hid (bg B1.out hg HBb.out)
  have R2 := hid hR
  clear hR hg R1 B1 C1 hbl
  go_wp2_with fail
  refine (C2.out b w _ R2.out he HBb.out B2.out).mono ?_
  rintro e w3 ⟨A, c, rfl, hc1, hc2, hsl, hR, hg⟩
  have B3 := hid (bg B2.out hg HBb.out)
  have R3 := hid hR
  have HNew := hid (lnew_any me A c home w3 I1.out hc1 hc2 hsl)
  clear hR hg R2 B2 C2 hc1 hc2 hsl
  cases hn : newDk me home with
  | none =>
    as_aux_lemma =>
      rw [hn] at HNew
      have hr := hid (show res = none by rw [hT.out, hn])
      clear hT hn
      go_wp2_with fail
      refine HNew.out.mono ?_
      rintro e w4 ⟨rfl, hB⟩
      have B4 := hid (B3.out.trans (hB.mono B3.out.size))
      clear hB
      go_wp2_with fail
      refine bodyPost_ret (v := .tuple #[.pointer none, .bool false]) (by simp [results, Tryd.results12, go_sem]) rfl ?_
      rw [hr.out]
      exact ⟨rfl, B4.out⟩
  | some d0 =>
    rw [hn] at HNew
    obtain ⟨e0, ok0⟩ := newDk_some hn
    have OK0 := hid ok0
    have IN0 := hid (show d0.In 2199023255552 by rw [e0]; exact newD_in _ _ _ (by omega))
    have hme := hid (show d0.me = me by rw [e0]; rfl)
    have hho := hid (show d0.home = home by rw [e0]; rfl)
    have hT2 := hid (show res = match runR d0 s2 home.length with
      | none => none
      | some x => if x.2 = ([], false) then some x.1 else none by rw [hT.out, hn]; simp only [hho.out])
    have hlen : home.length ≤ 64 := by rw [← hho.out]; exact OK0.out.len
    have HI := hid (show ∀ x ∈ home, I64 x by rw [← hho.out]; exact (ok_I64 OK0.out).2)
    clear hT hn e0 ok0
    go_wp2_with fail
    refine HNew.out.mono ?_
    rintro e w4 ⟨bb, V, mh, mg, rfl, hL, hB⟩
    have B4 := hid (B3.out.trans (hB.mono B3.out.size))
    have R4 := hid (show Rd w4 b s2.1 s2.2 from Blk.below R3.out hB R3.out.lt)
    have L4 := hid hL
    have Hbs := hid R3.out.lt
    have HBS := hid (show w.heap.size ≤ w3.heap.size from B3.out.size)
    clear hB hL R3 B3 HNew
    generalize w3.heap.size = base at *
    obtain ⟨d0c, d1c, d2c, d3c⟩ := L4.out.at_
    obtain ⟨Av, cv, eV, hAv⟩ := L4.out.r.form
    rw [hho.out] at eV hAv
    subst eV
    go_wp2_with fail
    clear d0c d1c d2c d3c
    go_loopw [26] (fun i wr => ∃ (k : Nat) (d : LDk) (t : RS), i = .int .i64 k ∧ k ≤ home.length ∧ Hid (runR d0 s2 k = some (d, t)) ∧ Ld wr base bb (.slice Av home.length cv) mh mg d ∧ Rd wr b t.1 t.2 ∧ RSok t ∧ t.1.length ≤ 90000 ∧ Below w.heap.size w wr) (fun i _ => home.length - (intOf i).toNat)
    case atStart => exact ⟨0, d0, s2, rfl, by omega, hid rfl, L4.out, R4.out, K2.out, Z2, B4.out⟩
    case round =>
      clear L4 R4 K2 Z2 B4 hAv
      obtain ⟨k, d, t, rfl, hk, hrun, hL, hR, hst, hsz, hB⟩ := hrel
      obtain ⟨okd, ind, med, hod⟩ := runR_ok OK0.out IN0.out s2 k d t (by rw [hho.out]; exact hk) hrun.out
      rw [hme.out] at med
      rw [hho.out] at hod
      have LL := hid hL
      have RR := hid hR
      have BB := hid hB
      have ST := hid hst
      have OKD := hid okd
      have IND := hid ind
      have MED := hid med
      have HOD := hid hod
      clear hL hR hB hst okd ind med hod
      by_cases hkn : k < home.length
      · have hk1 : wrap64 ((k : Int) + 1) = ((k + 1 : Nat) : Int) := by rw [wrap64_in _ (by omega)]; simp
        have hlenD := hid (show d.home.length ≤ 64 by rw [HOD.out]; exact hlen)
        have hI64k := hid (show I64 (k : Int) by constructor <;> omega)
        have hgd := hid (show d.home.getD k 0 = home[k] by rw [HOD.out]; simp [List.getD, List.getElem?_eq_getElem hkn])
        obtain ⟨Ax, cx, eX, hX⟩ := LL.out.r.form
        injection eX with eX1 eX2 eX3
        rw [HOD.out] at hX
        obtain ⟨g, hAg, _, _, hcell, _⟩ := hX (by intro e; rw [e] at hkn; simp at hkn)
        subst eX1
        subst hAg
        replace hcell := hcell k hkn
        clear hX eX2 eX3
        have hpk := hid (show d.hp k = decide (home[k] = me) by rw [hp_lt (by rw [HOD.out]; exact hkn), hgd.out, MED.out])
        have hgk := hid (show d.gp k = !decide (home[k] = me) by rw [gp_lt (by rw [HOD.out]; exact hkn), hgd.out, MED.out])
        have hsn := hid (show runR d0 s2 (k + 1) = stepR d k t by
          show (match runR d0 s2 k with | none => none | some x => stepR x.1 k x.2) = _
          rw [hrun.out])
        have hnone := hid (show runR d0 s2 (k + 1) = none → res = none by
          intro h
          rw [hT2.out, runR_none h home.length (by omega)])
        have hcond := hid (show (d.home.getD k 0 = d.me) = (home[k] = me) by rw [hgd.out, MED.out])
        generalize home[k] = hx at *
        by_cases hxm : hx = me
        · as_aux_lemma =>
            subst hxm
            have hp := hid (show d.hp k = true by rw [hpk.out]; simp)
            obtain ⟨x1, t1, e1⟩ : ∃ x s', rI t = (x, s') := ⟨_, _, rfl⟩
            have l1 := rI_le t
            have i1 := rI_bd t
            have k1 := rI_ok ST.out
            have c1 := rInt_f t (by omega)
            rw [e1] at l1 i1 k1 c1
            simp only at l1 i1 k1 c1
            obtain ⟨x2, t2, e2⟩ : ∃ x s', rI t1 = (x, s') := ⟨_, _, rfl⟩
            have l2 := rI_le t1
            have i2 := rI_bd t1
            have k2 := rI_ok k1
            have c2 := rInt_f t1 (by omega)
            rw [e2] at l2 i2 k2 c2
            simp only at l2 i2 k2 c2
            obtain ⟨x3, t3, e3⟩ : ∃ x s', rI t2 = (x, s') := ⟨_, _, rfl⟩
            have l3 := rI_le t2
            have i3 := rI_bd t2
            have k3 := rI_ok k2
            have c3 := rInt_f t2 (by omega)
            rw [e3] at l3 i3 k3 c3
            simp only at l3 i3 k3 c3
            have hr := hid (show r3 t = ((x1, x2, x3), t3) by unfold r3; rw [e1]; simp only [e2, e3])
            have KT := hid k3
            have ZT := hid (show t3.1.length ≤ 90000 by omega)
            have C1 := hid c1; have J1 := hid i1
            have C2 := hid c2; have J2 := hid i2
            have C3 := hid c3; have J3 := hid i3
            clear c1 e1 l1 i1 k1 c2 e2 l2 i2 k2 c3 e3 l3 i3 k3 ST hsz
            have B0 := BB; have R0 := RR; have LD0 := LL
            clear BB RR LL
            have HSTEP := hid (show stepR d k t = if (x3 = 0 ∨ x3 = 1) ∧ NumB x1 ∧ NumB x2 then some (d.setH k (x1, x2, decide (x3 = 1)), t3) else none by
              unfold stepR
              rw [if_pos (hcond.out.mpr rfl), hr.out])
            clear hr hcond hpk hgk hgd
            go_wp2_with fail
            refine (C1.out b _ R0.out (he.below B0.out)).mono ?_
            rintro e v1 ⟨rfl, hR, hg⟩
            have B1 := hid (bg B0.out hg HBb.out)
            have R1 := hid hR
            have LD1 := hid (LD0.out.reader Hbs.out hg)
            clear hR hg C1 B0 R0 LD0
            go_wp2_with fail
            refine (C2.out b _ R1.out (he.below B1.out)).mono ?_
            rintro e v2 ⟨rfl, hR, hg⟩
            have B2 := hid (bg B1.out hg HBb.out)
            have R2 := hid hR
            have LD2 := hid (LD1.out.reader Hbs.out hg)
            clear hR hg C2 B1 R1 LD1
            have LT := hid (And.intro LD2.out.k.lt (And.intro LD2.out.h.lt (And.intro LD2.out.g.lt (And.intro R2.out.lt (And.intro B2.out.size (fun k (hk : Value.ownBlock (.slice (some ⟨g, 0, none⟩) home.length cv) = some k) => (LD2.out.r.lt k hk).2))))))
            have bA : Below v2.heap.size v2 (v2.alloc (Obj.cells #[.int .i64 x1, .int .i64 x2, .bool false] 85)) := by (repeat (first | exact Below.refl _ _ | assumption | refine below_drewN ?_ _ | refine Below.drew ?_ | refine Below.alloc ?_ (by (try simp); (try omega)) _ | refine Below.setCell ?_ (by (try simp); (try omega)) _))
            have LDa := hid (LD2.out.below bA)
            have Ra := hid (show Rd (v2.alloc (Obj.cells #[.int .i64 x1, .int .i64 x2, .bool false] 85)) b t2.1 t2.2 from Blk.alloc R2.out _)
            have Ba := hid (B2.out.trans (bA.mono B2.out.size))
            have XB := hid (Blk.new v2 85 #[.int .i64 x1, .int .i64 x2, .bool false])
            clear LD2 R2 B2 bA
            go_wp2_with fail
            generalize (v2.alloc (Obj.cells #[.int .i64 x1, .int .i64 x2, .bool false] 85)) = va at *
            generalize v2.heap.size = q at *
            refine (C3.out b _ Ra.out (he.below Ba.out)).mono ?_
            rintro e v3 ⟨rfl, hR, hg⟩
            have B3 := hid (bg Ba.out hg HBb.out)
            have R3 := hid hR
            have LD3 := hid (LDa.out.reader Hbs.out hg)
            have XB3 := hid (XB.out.grown hg (by have := LT.out.2.2.2.1; simp; omega))
            clear hR hg C3 Ba Ra LDa XB
            have y0 := XB3.out.cell 0; have y1 := XB3.out.cell 1; have y2 := XB3.out.cell 2; have fz := XB3.out.frozen
            simp at y0 y1 y2
            by_cases h31 : x3 = 1
            · subst h31
              as_aux_lemma =>
                go_upto_region 13 with fail
                obtain ⟨q1, q2, q3, q4, q5, q6⟩ := LT.out
                have LDs := hid (LD3.out.kept (gr_set v3 q 2 (.bool true)) (by omega) (by omega) (by omega) (fun k hk => by have := q6 k hk; omega))
                have Rs := hid (show Rd (v3.setCell ⟨q, 2, none⟩ (.bool true)) b t3.1 t3.2 from Blk.far R3.out (by simp; omega) _)
                have Bs := hid (B3.out.setCell (p := ⟨q, 2, none⟩) q5 (.bool true))
                have XBs := hid (XB3.out.set_ 2 (.bool true))
                simp at XBs
                clear y0 y1 y2 fz q1 q2 q3 q4 q5 q6 LD3 R3 B3 XB3 LT
                generalize v3.setCell ⟨q, 2, none⟩ (.bool true) = v4 at *
                have HSF := hid (fun (wq : World) (hq : Below v4.heap.size v4 wq) => And.intro (LDs.out.below hq).at_.2.2.1 (And.intro ((XBs.out.below hq XBs.out.lt).cell 0) (And.intro ((XBs.out.below hq XBs.out.lt).cell 1) ((XBs.out.below hq XBs.out.lt).cell 2))))
                have BD := hid ((Below.refl v4.heap.size v4).drew)
                refine wpIn_wide.1 (wpIn_region_S (n := 0) (fun wq => Below v4.heap.size v4 wq) [6] (by kernel_rfl) BD.out (fun hHeld => ?_))
                generalize v4.drew = v5 at *
                refine wpAnyS_pure 0 (v := ?_) (fun _ => trivial) (by simp only [List.getElem?_toArray, List.getElem?_cons_succ, List.getElem?_cons_zero]; rfl) (by kernel_rfl) (fun _ _ _ _ _ h => h) ⟨rfl, (by intro c h; cases h), ?_⟩ hHeld ?_
                rotate_left
                focus (intro wS hSw; (try replace hSw := HSF.out wS hSw); (try dsimp only at hSw); go_simp; (try with_reducible rfl))
                (try simp only [Act.put, List.setIfInBounds_toArray, List.set_cons_zero, List.set_cons_succ])
                refine wpAnyS_pure 1 (v := ?_) (fun _ => trivial) (by simp only [List.getElem?_toArray, List.getElem?_cons_succ, List.getElem?_cons_zero]; rfl) (by kernel_rfl) (fun _ _ _ _ _ h => h) ⟨rfl, (by intro c h; cases h), ?_⟩ hHeld ?_
                rotate_left
                focus (intro wS hSw; (try replace hSw := HSF.out wS hSw); (try dsimp only at hSw); go_simp; (try with_reducible rfl))
                (try simp only [Act.put, List.setIfInBounds_toArray, List.set_cons_zero, List.set_cons_succ])
                refine wpAnyS_pure 2 (v := ?_) (fun _ => trivial) (by simp only [List.getElem?_toArray, List.getElem?_cons_succ, List.getElem?_cons_zero]; rfl) (by kernel_rfl) (fun _ _ _ _ _ h => h) ⟨rfl, (by intro c h; cases h), ?_⟩ hHeld ?_
                rotate_left
                focus (intro wS hSw; (try replace hSw := HSF.out wS hSw); (try dsimp only at hSw); go_simp; (try with_reducible rfl))
                (try simp only [Act.put, List.setIfInBounds_toArray, List.set_cons_zero, List.set_cons_succ])
                refine wpAnyS_take 3 (v := ?_) (fun _ => trivial) (by simp only [List.getElem?_toArray, List.getElem?_cons_succ, List.getElem?_cons_zero]; rfl) (by kernel_rfl) (fun _ _ _ _ _ h => h) ⟨rfl, (by intro c h; cases h), ?_⟩ hHeld ?_
                rotate_left
                focus (intro wS hSw; (try replace hSw := HSF.out wS hSw); (try dsimp only at hSw); go_simp; (try with_reducible rfl))
                (try simp only [Act.put, List.setIfInBounds_toArray, List.set_cons_zero, List.set_cons_succ])
                refine wpAnyS_pure 4 (v := ?_) (fun _ => trivial) (by simp only [List.getElem?_toArray, List.getElem?_cons_succ, List.getElem?_cons_zero]; rfl) (by kernel_rfl) (fun _ _ _ _ _ h => h) ⟨rfl, (by intro c h; cases h), ?_⟩ hHeld ?_
                rotate_left
                focus (intro wS hSw; (try replace hSw := HSF.out wS hSw); (try dsimp only at hSw); go_simp; (try with_reducible rfl))
                (try simp only [Act.put, List.setIfInBounds_toArray, List.set_cons_zero, List.set_cons_succ])
                refine wpAnyS_take 5 (v := ?_) (fun _ => trivial) (by simp only [List.getElem?_toArray, List.getElem?_cons_succ, List.getElem?_cons_zero]; rfl) (by kernel_rfl) (fun _ _ _ _ _ h => h) ⟨rfl, (by intro c h; cases h), ?_⟩ hHeld ?_
                rotate_left
                focus (intro wS hSw; (try replace hSw := HSF.out wS hSw); (try dsimp only at hSw); go_simp; (try with_reducible rfl))
                (try simp only [Act.put, List.setIfInBounds_toArray, List.set_cons_zero, List.set_cons_succ])
                obtain ⟨w9, r1, r2, r3⟩ := (LDs.out.below BD.out).putH hI64k.out hp.out hlenD.out (x1, x2, true)
                have LD9 := hid r2
                have R9 := hid (show Rd w9 b t3.1 t3.2 from Blk.grown (Blk.below Rs.out BD.out Rs.out.lt) r3 (by have := LDs.out.ha; have := Hbs.out; simp; omega))
                have B9 := hid ((Bs.out.trans (BD.out.mono Bs.out.size)).grown r3 (Bs.out.trans (BD.out.mono Bs.out.size)).size (fun k e => by injection e with e; have := LDs.out.ha; have := HBS.out; omega))
                clear r2 r3
                refine wpAnyS_ready [6] (by kernel_rfl) (by simp) (AllReadyS.consL (by simp only [List.getElem?_toArray, List.getElem?_cons_succ, List.getElem?_cons_zero]; rfl) rfl (by kernel_rfl) (fun K hK => ?_) AllReadyS.nil)
                go_simp
                refine hK.out _ _ ?_
                (try simp only [Act.put, List.setIfInBounds_toArray, List.set_cons_zero, List.set_cons_succ])
                refine wpAnyS_done (by kernel_rfl) ?_
                clear hK HSF hHeld r1 BD Rs Bs XBs LDs K
                obtain ⟨L, hLd⟩ : ∃ L, L = numsL (d.setH k (x1, x2, true)) k := ⟨_, rfl⟩
                have hLe := hid (show L = [x1, x2, if true then 1 else 0] by rw [hLd, numsH _ _ hp.out])
                have HN := hid (numbers_any LD9.out hI64k.out)
                rw [← hLd] at HN
                have hLI := hid (show ∀ x ∈ L, I64 x by
                  rw [hLe.out]
                  intro x hx
                  simp only [List.mem_cons, List.not_mem_nil, or_false] at hx
                  rcases hx with rfl | rfl | rfl
                  · exact J1.out
                  · exact J2.out
                  · simp [I64])
                have hLn : L.length ≤ 4 := by rw [hLe.out]; simp
                have hany0 := hid (show L.any outB = false ↔ (NumB x1 ∧ NumB x2) by
                  rw [hLe.out]
                  simp only [List.any_cons, List.any_nil, Bool.or_false, Bool.or_eq_false_iff, outB_no, fzB]
                  (try simp [NumB]))
                have HBAD := hid (show L.any outB = true → res = none by
                  intro h
                  apply hnone.out
                  rw [hsn.out, HSTEP.out, if_neg]
                  rintro ⟨_, h2⟩
                  rw [hany0.out.mpr h2] at h
                  cases h)
                have HGOOD := hid (show L.any outB = false → Hid (runR d0 s2 (k + 1) = some (d.setH k (x1, x2, true), t3)) by
                  intro h
                  refine hid ?_
                  rw [hsn.out, HSTEP.out, if_pos ⟨by simp, hany0.out.mp h⟩]
                  (try rfl))
                clear hLd hLe hany0 hnone hsn HSTEP J1 J2 J3 hp
                go_wp2_with fail
                refine HN.out.mono ?_
                rintro e va ⟨A7, c7, rfl, ho, hBa⟩
                obtain ⟨A8, c8, e8, h81, h82, h83⟩ := ho.slr hLI.out
                injection e8 with e81 e82 e83
                subst e81 e83
                have BA := hid (B9.out.trans (hBa.mono B9.out.size))
                have RA := hid (show Rd va b t3.1 t3.2 from Blk.below R9.out hBa R9.out.lt)
                have LA := hid (LD9.out.below hBa)
                have HCt := hid (contains_any 57 outB outB_any A7 c7 L va (by unfold maxLen; omega) h83 (by intro x W; simp [go_sem]))
                clear hBa ho e82 h81 h82 h83 HN B9 R9 LD9
                cases hany : L.any outB with
                | true =>
                  rw [hany] at HCt
                  have hres := hid (HBAD.out hany)
                  clear hany HBAD HGOOD
                  go_wp2_with fail
                  refine HCt.out.mono ?_
                  rintro e vb ⟨rfl, hBb⟩
                  have BZ := hid (BA.out.trans (hBb.mono BA.out.size))
                  clear hBb BA RA LA
                  go_wp2_with fail
                  refine bodyPost_ret (v := .tuple #[.pointer none, .bool false]) (by simp [results, Tryd.results12, go_sem]) rfl ?_
                  rw [hres.out]
                  exact ⟨rfl, BZ.out⟩
                | false =>
                  rw [hany] at HCt
                  have hgo := hid (HGOOD.out hany)
                  clear hany HBAD HGOOD
                  go_wp2_with fail
                  refine HCt.out.mono ?_
                  rintro e vb ⟨rfl, hBb⟩
                  have BZ := hid (BA.out.trans (hBb.mono BA.out.size))
                  have RZ := hid (show Rd vb b t3.1 t3.2 from Blk.below RA.out hBb RA.out.lt)
                  have LZ := hid (LA.out.below hBb)
                  clear hBb BA RA LA
                  go_wp2_with fail
                  go_roundw
                  case rel => exact ⟨k + 1, (d.setH k (x1, x2, true)), t3, by simp [hk1], hkn, hgo, LZ.out, RZ.out, KT.out, ZT.out, BZ.out⟩
                  case measure => simp [intOf, hk1]; omega
            by_cases h30 : x3 = 0
            · subst h30
              as_aux_lemma =>
                go_upto_region 13 with fail
                obtain ⟨q1, q2, q3, q4, q5, q6⟩ := LT.out
                have LDs := hid (LD3.out.kept (gr_set v3 q 2 (.bool false)) (by omega) (by omega) (by omega) (fun k hk => by have := q6 k hk; omega))
                have Rs := hid (show Rd (v3.setCell ⟨q, 2, none⟩ (.bool false)) b t3.1 t3.2 from Blk.far R3.out (by simp; omega) _)
                have Bs := hid (B3.out.setCell (p := ⟨q, 2, none⟩) q5 (.bool false))
                have XBs := hid (XB3.out.set_ 2 (.bool false))
                simp at XBs
                clear y0 y1 y2 fz q1 q2 q3 q4 q5 q6 LD3 R3 B3 XB3 LT
                generalize v3.setCell ⟨q, 2, none⟩ (.bool false) = v4 at *
                have HSF := hid (fun (wq : World) (hq : Below v4.heap.size v4 wq) => And.intro (LDs.out.below hq).at_.2.2.1 (And.intro ((XBs.out.below hq XBs.out.lt).cell 0) (And.intro ((XBs.out.below hq XBs.out.lt).cell 1) ((XBs.out.below hq XBs.out.lt).cell 2))))
                have BD := hid ((Below.refl v4.heap.size v4).drew)
                refine wpIn_wide.1 (wpIn_region_S (n := 0) (fun wq => Below v4.heap.size v4 wq) [6] (by kernel_rfl) BD.out (fun hHeld => ?_))
                generalize v4.drew = v5 at *
                refine wpAnyS_pure 0 (v := ?_) (fun _ => trivial) (by simp only [List.getElem?_toArray, List.getElem?_cons_succ, List.getElem?_cons_zero]; rfl) (by kernel_rfl) (fun _ _ _ _ _ h => h) ⟨rfl, (by intro c h; cases h), ?_⟩ hHeld ?_
                rotate_left
                focus (intro wS hSw; (try replace hSw := HSF.out wS hSw); (try dsimp only at hSw); go_simp; (try with_reducible rfl))
                (try simp only [Act.put, List.setIfInBounds_toArray, List.set_cons_zero, List.set_cons_succ])
                refine wpAnyS_pure 1 (v := ?_) (fun _ => trivial) (by simp only [List.getElem?_toArray, List.getElem?_cons_succ, List.getElem?_cons_zero]; rfl) (by kernel_rfl) (fun _ _ _ _ _ h => h) ⟨rfl, (by intro c h; cases h), ?_⟩ hHeld ?_
                rotate_left
                focus (intro wS hSw; (try replace hSw := HSF.out wS hSw); (try dsimp only at hSw); go_simp; (try with_reducible rfl))
                (try simp only [Act.put, List.setIfInBounds_toArray, List.set_cons_zero, List.set_cons_succ])
                refine wpAnyS_pure 2 (v := ?_) (fun _ => trivial) (by simp only [List.getElem?_toArray, List.getElem?_cons_succ, List.getElem?_cons_zero]; rfl) (by kernel_rfl) (fun _ _ _ _ _ h => h) ⟨rfl, (by intro c h; cases h), ?_⟩ hHeld ?_
                rotate_left
                focus (intro wS hSw; (try replace hSw := HSF.out wS hSw); (try dsimp only at hSw); go_simp; (try with_reducible rfl))
                (try simp only [Act.put, List.setIfInBounds_toArray, List.set_cons_zero, List.set_cons_succ])
                refine wpAnyS_take 3 (v := ?_) (fun _ => trivial) (by simp only [List.getElem?_toArray, List.getElem?_cons_succ, List.getElem?_cons_zero]; rfl) (by kernel_rfl) (fun _ _ _ _ _ h => h) ⟨rfl, (by intro c h; cases h), ?_⟩ hHeld ?_
                rotate_left
                focus (intro wS hSw; (try replace hSw := HSF.out wS hSw); (try dsimp only at hSw); go_simp; (try with_reducible rfl))
                (try simp only [Act.put, List.setIfInBounds_toArray, List.set_cons_zero, List.set_cons_succ])
                refine wpAnyS_pure 4 (v := ?_) (fun _ => trivial) (by simp only [List.getElem?_toArray, List.getElem?_cons_succ, List.getElem?_cons_zero]; rfl) (by kernel_rfl) (fun _ _ _ _ _ h => h) ⟨rfl, (by intro c h; cases h), ?_⟩ hHeld ?_
                rotate_left
                focus (intro wS hSw; (try replace hSw := HSF.out wS hSw); (try dsimp only at hSw); go_simp; (try with_reducible rfl))
                (try simp only [Act.put, List.setIfInBounds_toArray, List.set_cons_zero, List.set_cons_succ])
                refine wpAnyS_take 5 (v := ?_) (fun _ => trivial) (by simp only [List.getElem?_toArray, List.getElem?_cons_succ, List.getElem?_cons_zero]; rfl) (by kernel_rfl) (fun _ _ _ _ _ h => h) ⟨rfl, (by intro c h; cases h), ?_⟩ hHeld ?_
                rotate_left
                focus (intro wS hSw; (try replace hSw := HSF.out wS hSw); (try dsimp only at hSw); go_simp; (try with_reducible rfl))
                (try simp only [Act.put, List.setIfInBounds_toArray, List.set_cons_zero, List.set_cons_succ])
                obtain ⟨w9, r1, r2, r3⟩ := (LDs.out.below BD.out).putH hI64k.out hp.out hlenD.out (x1, x2, false)
                have LD9 := hid r2
                have R9 := hid (show Rd w9 b t3.1 t3.2 from Blk.grown (Blk.below Rs.out BD.out Rs.out.lt) r3 (by have := LDs.out.ha; have := Hbs.out; simp; omega))
                have B9 := hid ((Bs.out.trans (BD.out.mono Bs.out.size)).grown r3 (Bs.out.trans (BD.out.mono Bs.out.size)).size (fun k e => by injection e with e; have := LDs.out.ha; have := HBS.out; omega))
                clear r2 r3
                refine wpAnyS_ready [6] (by kernel_rfl) (by simp) (AllReadyS.consL (by simp only [List.getElem?_toArray, List.getElem?_cons_succ, List.getElem?_cons_zero]; rfl) rfl (by kernel_rfl) (fun K hK => ?_) AllReadyS.nil)
                go_simp
                refine hK.out _ _ ?_
                (try simp only [Act.put, List.setIfInBounds_toArray, List.set_cons_zero, List.set_cons_succ])
                refine wpAnyS_done (by kernel_rfl) ?_
                clear hK HSF hHeld r1 BD Rs Bs XBs LDs K
                obtain ⟨L, hLd⟩ : ∃ L, L = numsL (d.setH k (x1, x2, false)) k := ⟨_, rfl⟩
                have hLe := hid (show L = [x1, x2, if false then 1 else 0] by rw [hLd, numsH _ _ hp.out])
                have HN := hid (numbers_any LD9.out hI64k.out)
                rw [← hLd] at HN
                have hLI := hid (show ∀ x ∈ L, I64 x by
                  rw [hLe.out]
                  intro x hx
                  simp only [List.mem_cons, List.not_mem_nil, or_false] at hx
                  rcases hx with rfl | rfl | rfl
                  · exact J1.out
                  · exact J2.out
                  · simp [I64])
                have hLn : L.length ≤ 4 := by rw [hLe.out]; simp
                have hany0 := hid (show L.any outB = false ↔ (NumB x1 ∧ NumB x2) by
                  rw [hLe.out]
                  simp only [List.any_cons, List.any_nil, Bool.or_false, Bool.or_eq_false_iff, outB_no, fzB]
                  (try simp [NumB]))
                have HBAD := hid (show L.any outB = true → res = none by
                  intro h
                  apply hnone.out
                  rw [hsn.out, HSTEP.out, if_neg]
                  rintro ⟨_, h2⟩
                  rw [hany0.out.mpr h2] at h
                  cases h)
                have HGOOD := hid (show L.any outB = false → Hid (runR d0 s2 (k + 1) = some (d.setH k (x1, x2, false), t3)) by
                  intro h
                  refine hid ?_
                  rw [hsn.out, HSTEP.out, if_pos ⟨by simp, hany0.out.mp h⟩]
                  (try rfl))
                clear hLd hLe hany0 hnone hsn HSTEP J1 J2 J3 hp
                go_wp2_with fail
                refine HN.out.mono ?_
                rintro e va ⟨A7, c7, rfl, ho, hBa⟩
                obtain ⟨A8, c8, e8, h81, h82, h83⟩ := ho.slr hLI.out
                injection e8 with e81 e82 e83
                subst e81 e83
                have BA := hid (B9.out.trans (hBa.mono B9.out.size))
                have RA := hid (show Rd va b t3.1 t3.2 from Blk.below R9.out hBa R9.out.lt)
                have LA := hid (LD9.out.below hBa)
                have HCt := hid (contains_any 57 outB outB_any A7 c7 L va (by unfold maxLen; omega) h83 (by intro x W; simp [go_sem]))
                clear hBa ho e82 h81 h82 h83 HN B9 R9 LD9
                cases hany : L.any outB with
                | true =>
                  rw [hany] at HCt
                  have hres := hid (HBAD.out hany)
                  clear hany HBAD HGOOD
                  go_wp2_with fail
                  refine HCt.out.mono ?_
                  rintro e vb ⟨rfl, hBb⟩
                  have BZ := hid (BA.out.trans (hBb.mono BA.out.size))
                  clear hBb BA RA LA
                  go_wp2_with fail
                  refine bodyPost_ret (v := .tuple #[.pointer none, .bool false]) (by simp [results, Tryd.results12, go_sem]) rfl ?_
                  rw [hres.out]
                  exact ⟨rfl, BZ.out⟩
                | false =>
                  rw [hany] at HCt
                  have hgo := hid (HGOOD.out hany)
                  clear hany HBAD HGOOD
                  go_wp2_with fail
                  refine HCt.out.mono ?_
                  rintro e vb ⟨rfl, hBb⟩
                  have BZ := hid (BA.out.trans (hBb.mono BA.out.size))
                  have RZ := hid (show Rd vb b t3.1 t3.2 from Blk.below RA.out hBb RA.out.lt)
                  have LZ := hid (LA.out.below hBb)
                  clear hBb BA RA LA
                  go_wp2_with fail
                  go_roundw
                  case rel => exact ⟨k + 1, (d.setH k (x1, x2, false)), t3, by simp [hk1], hkn, hgo, LZ.out, RZ.out, KT.out, ZT.out, BZ.out⟩
                  case measure => simp [intOf, hk1]; omega
            as_aux_lemma =>
              have h31b : (x3 == 1) = false := by simpa using h31
              have h30b : (x3 == 0) = false := by simpa using h30
              have h31c : (x3 != 1) = true := by simpa using h31
              have h30c : (x3 != 0) = true := by simpa using h30
              go_upto_region 13 with fail
              obtain ⟨q1, q2, q3, q4, q5, q6⟩ := LT.out
              have LDs := hid (LD3.out.kept (gr_set v3 q 2 (.bool false)) (by omega) (by omega) (by omega) (fun k hk => by have := q6 k hk; omega))
              have Rs := hid (show Rd (v3.setCell ⟨q, 2, none⟩ (.bool false)) b t3.1 t3.2 from Blk.far R3.out (by simp; omega) _)
              have Bs := hid (B3.out.setCell (p := ⟨q, 2, none⟩) q5 (.bool false))
              have XBs := hid (XB3.out.set_ 2 (.bool false))
              simp at XBs
              clear y0 y1 y2 fz q1 q2 q3 q4 q5 q6 LD3 R3 B3 XB3 LT
              generalize v3.setCell ⟨q, 2, none⟩ (.bool false) = v4 at *
              have HSF := hid (fun (wq : World) (hq : Below v4.heap.size v4 wq) => And.intro (LDs.out.below hq).at_.2.2.1 (And.intro ((XBs.out.below hq XBs.out.lt).cell 0) (And.intro ((XBs.out.below hq XBs.out.lt).cell 1) ((XBs.out.below hq XBs.out.lt).cell 2))))
              have BD := hid ((Below.refl v4.heap.size v4).drew)
              refine wpIn_wide.1 (wpIn_region_S (n := 0) (fun wq => Below v4.heap.size v4 wq) [6] (by kernel_rfl) BD.out (fun hHeld => ?_))
              generalize v4.drew = v5 at *
              refine wpAnyS_pure 0 (v := ?_) (fun _ => trivial) (by simp only [List.getElem?_toArray, List.getElem?_cons_succ, List.getElem?_cons_zero]; rfl) (by kernel_rfl) (fun _ _ _ _ _ h => h) ⟨rfl, (by intro c h; cases h), ?_⟩ hHeld ?_
              rotate_left
              focus (intro wS hSw; (try replace hSw := HSF.out wS hSw); (try dsimp only at hSw); go_simp; (try with_reducible rfl))
              (try simp only [Act.put, List.setIfInBounds_toArray, List.set_cons_zero, List.set_cons_succ])
              refine wpAnyS_pure 1 (v := ?_) (fun _ => trivial) (by simp only [List.getElem?_toArray, List.getElem?_cons_succ, List.getElem?_cons_zero]; rfl) (by kernel_rfl) (fun _ _ _ _ _ h => h) ⟨rfl, (by intro c h; cases h), ?_⟩ hHeld ?_
              rotate_left
              focus (intro wS hSw; (try replace hSw := HSF.out wS hSw); (try dsimp only at hSw); go_simp; (try with_reducible rfl))
              (try simp only [Act.put, List.setIfInBounds_toArray, List.set_cons_zero, List.set_cons_succ])
              refine wpAnyS_pure 2 (v := ?_) (fun _ => trivial) (by simp only [List.getElem?_toArray, List.getElem?_cons_succ, List.getElem?_cons_zero]; rfl) (by kernel_rfl) (fun _ _ _ _ _ h => h) ⟨rfl, (by intro c h; cases h), ?_⟩ hHeld ?_
              rotate_left
              focus (intro wS hSw; (try replace hSw := HSF.out wS hSw); (try dsimp only at hSw); go_simp; (try with_reducible rfl))
              (try simp only [Act.put, List.setIfInBounds_toArray, List.set_cons_zero, List.set_cons_succ])
              refine wpAnyS_take 3 (v := ?_) (fun _ => trivial) (by simp only [List.getElem?_toArray, List.getElem?_cons_succ, List.getElem?_cons_zero]; rfl) (by kernel_rfl) (fun _ _ _ _ _ h => h) ⟨rfl, (by intro c h; cases h), ?_⟩ hHeld ?_
              rotate_left
              focus (intro wS hSw; (try replace hSw := HSF.out wS hSw); (try dsimp only at hSw); go_simp; (try with_reducible rfl))
              (try simp only [Act.put, List.setIfInBounds_toArray, List.set_cons_zero, List.set_cons_succ])
              refine wpAnyS_pure 4 (v := ?_) (fun _ => trivial) (by simp only [List.getElem?_toArray, List.getElem?_cons_succ, List.getElem?_cons_zero]; rfl) (by kernel_rfl) (fun _ _ _ _ _ h => h) ⟨rfl, (by intro c h; cases h), ?_⟩ hHeld ?_
              rotate_left
              focus (intro wS hSw; (try replace hSw := HSF.out wS hSw); (try dsimp only at hSw); go_simp; (try with_reducible rfl))
              (try simp only [Act.put, List.setIfInBounds_toArray, List.set_cons_zero, List.set_cons_succ])
              refine wpAnyS_take 5 (v := ?_) (fun _ => trivial) (by simp only [List.getElem?_toArray, List.getElem?_cons_succ, List.getElem?_cons_zero]; rfl) (by kernel_rfl) (fun _ _ _ _ _ h => h) ⟨rfl, (by intro c h; cases h), ?_⟩ hHeld ?_
              rotate_left
              focus (intro wS hSw; (try replace hSw := HSF.out wS hSw); (try dsimp only at hSw); go_simp; (try with_reducible rfl))
              (try simp only [Act.put, List.setIfInBounds_toArray, List.set_cons_zero, List.set_cons_succ])
              obtain ⟨w9, r1, r2, r3⟩ := (LDs.out.below BD.out).putH hI64k.out hp.out hlenD.out (x1, x2, false)
              have LD9 := hid r2
              have R9 := hid (show Rd w9 b t3.1 t3.2 from Blk.grown (Blk.below Rs.out BD.out Rs.out.lt) r3 (by have := LDs.out.ha; have := Hbs.out; simp; omega))
              have B9 := hid ((Bs.out.trans (BD.out.mono Bs.out.size)).grown r3 (Bs.out.trans (BD.out.mono Bs.out.size)).size (fun k e => by injection e with e; have := LDs.out.ha; have := HBS.out; omega))
              clear r2 r3
              refine wpAnyS_ready [6] (by kernel_rfl) (by simp) (AllReadyS.consL (by simp only [List.getElem?_toArray, List.getElem?_cons_succ, List.getElem?_cons_zero]; rfl) rfl (by kernel_rfl) (fun K hK => ?_) AllReadyS.nil)
              go_simp
              refine hK.out _ _ ?_
              (try simp only [Act.put, List.setIfInBounds_toArray, List.set_cons_zero, List.set_cons_succ])
              refine wpAnyS_done (by kernel_rfl) ?_
              clear hK HSF hHeld r1 BD Rs Bs XBs LDs K
              have hres := hid (show res = none by
                apply hnone.out
                rw [hsn.out, HSTEP.out, if_neg]
                rintro ⟨h, _⟩
                omega)
              clear hnone hsn HSTEP J1 J2 J3 hp
              go_wp2_with fail
              refine bodyPost_ret (v := .tuple #[.pointer none, .bool false]) (by simp [results, Tryd.results12, go_sem]) rfl ?_
              rw [hres.out]
              exact ⟨rfl, B9.out⟩
        · as_aux_lemma =>
            have hne : ¬ hx = me := hxm
            have hneb : (hx == me) = false := by simpa using hxm
            have hp := hid (show d.hp k = false by rw [hpk.out]; simpa using hxm)
            have hgp := hid (show d.gp k = true by rw [hgk.out]; simpa using hxm)
            obtain ⟨x1, t1, e1⟩ : ∃ x s', rI t = (x, s') := ⟨_, _, rfl⟩
            have l1 := rI_le t
            have i1 := rI_bd t
            have k1 := rI_ok ST.out
            have c1 := rInt_f t (by omega)
            rw [e1] at l1 i1 k1 c1
            simp only at l1 i1 k1 c1
            obtain ⟨x2, t2, e2⟩ : ∃ x s', rI t1 = (x, s') := ⟨_, _, rfl⟩
            have l2 := rI_le t1
            have i2 := rI_bd t1
            have k2 := rI_ok k1
            have c2 := rInt_f t1 (by omega)
            rw [e2] at l2 i2 k2 c2
            simp only at l2 i2 k2 c2
            obtain ⟨x3, t3, e3⟩ : ∃ x s', rI t2 = (x, s') := ⟨_, _, rfl⟩
            have l3 := rI_le t2
            have i3 := rI_bd t2
            have k3 := rI_ok k2
            have c3 := rInt_f t2 (by omega)
            rw [e3] at l3 i3 k3 c3
            simp only at l3 i3 k3 c3
            obtain ⟨x4, t4, e4⟩ : ∃ x s', rI t3 = (x, s') := ⟨_, _, rfl⟩
            have l4 := rI_le t3
            have i4 := rI_bd t3
            have k4 := rI_ok k3
            have c4 := rInt_f t3 (by omega)
            rw [e4] at l4 i4 k4 c4
            simp only at l4 i4 k4 c4
            have hr := hid (show r4 t = ((x1, x2, x3, x4), t4) by unfold r4; rw [e1]; simp only [e2, e3, e4])
            have KT := hid k4
            have ZT := hid (show t4.1.length ≤ 90000 by omega)
            have C1 := hid c1; have J1 := hid i1
            have C2 := hid c2; have J2 := hid i2
            have C3 := hid c3; have J3 := hid i3
            have C4 := hid c4; have J4 := hid i4
            clear c1 e1 l1 i1 k1 c2 e2 l2 i2 k2 c3 e3 l3 i3 k3 c4 e4 l4 i4 k4 ST hsz
            have B0 := BB; have R0 := RR; have LD0 := LL
            clear BB RR LL
            have HSTEP := hid (show stepR d k t = if NumB x1 ∧ NumB x2 ∧ NumB x3 ∧ NumB x4 then some (d.setG k (x1, x2, x3, x4), t4) else none by
              unfold stepR
              rw [if_neg (by rw [hcond.out]; exact hxm), hr.out])
            clear hr hcond hpk hgk hgd hxm
            go_upto_region 16 with fail
            have hc3 := LD0.out.drw.at_.2.2.2
            refine wpIn_wide.1 (wpIn_region_S (n := 0) (fun wq => wq.cell? ⟨bb, 3, none⟩ = some (.map (some mg))) [14] (by kernel_rfl) hc3 (fun hHeld => ?_))
            have HSF := hid (fun (wq : World) (hq : wq.cell? ⟨bb, 3, none⟩ = some (.map (some mg))) => hq)
            replace LD0 := hid (LD0.out.drw)
            replace R0 := hid (show Rd wr.drew b t.1 t.2 from Blk.drew R0.out)
            replace B0 := hid (B0.out.drew)
            clear hc3 hne hneb
            generalize wr.drew = wd at *
            refine wpAnyS_pure 0 (v := ?_) (fun _ => trivial) (by simp only [List.getElem?_toArray, List.getElem?_cons_succ, List.getElem?_cons_zero]; rfl) (by kernel_rfl) (fun _ _ _ _ _ h => h) ⟨rfl, (by intro c h; cases h), ?_⟩ hHeld ?_
            rotate_left
            focus (intro wS hSw; (try replace hSw := HSF.out wS hSw); (try dsimp only at hSw); go_simp; (try with_reducible rfl))
            (try simp only [Act.put, List.setIfInBounds_toArray, List.set_cons_zero, List.set_cons_succ])
            refine wpAnyS_pure 1 (v := ?_) (fun _ => trivial) (by simp only [List.getElem?_toArray, List.getElem?_cons_succ, List.getElem?_cons_zero]; rfl) (by kernel_rfl) (fun _ _ _ _ _ h => h) ⟨rfl, (by intro c h; cases h), ?_⟩ hHeld ?_
            rotate_left
            focus (intro wS hSw; (try replace hSw := HSF.out wS hSw); (try dsimp only at hSw); go_simp; (try with_reducible rfl))
            (try simp only [Act.put, List.setIfInBounds_toArray, List.set_cons_zero, List.set_cons_succ])
            refine wpAnyS_pure 2 (v := ?_) (fun _ => trivial) (by simp only [List.getElem?_toArray, List.getElem?_cons_succ, List.getElem?_cons_zero]; rfl) (by kernel_rfl) (fun _ _ _ _ _ h => h) ⟨rfl, (by intro c h; cases h), ?_⟩ hHeld ?_
            rotate_left
            focus (intro wS hSw; (try replace hSw := HSF.out wS hSw); (try dsimp only at hSw); go_simp; (try with_reducible rfl))
            (try simp only [Act.put, List.setIfInBounds_toArray, List.set_cons_zero, List.set_cons_succ])
            refine wpAnyS_take 3 (v := ?_) (fun _ => trivial) (by simp only [List.getElem?_toArray, List.getElem?_cons_succ, List.getElem?_cons_zero]; rfl) (by kernel_rfl) (fun _ _ _ _ _ h => h) ⟨rfl, (by intro c h; cases h), ?_⟩ hHeld ?_
            rotate_left
            focus (intro wS hSw; (try replace hSw := HSF.out wS hSw); (try dsimp only at hSw); go_simp; (try with_reducible rfl))
            (try simp only [Act.put, List.setIfInBounds_toArray, List.set_cons_zero, List.set_cons_succ])
            refine wpAnyS_pure 4 (v := ?_) (fun _ => trivial) (by simp only [List.getElem?_toArray, List.getElem?_cons_succ, List.getElem?_cons_zero]; rfl) (by kernel_rfl) (fun _ _ _ _ _ h => h) ⟨rfl, (by intro c h; cases h), ?_⟩ hHeld ?_
            rotate_left
            focus (intro wS hSw; (try replace hSw := HSF.out wS hSw); (try dsimp only at hSw); go_simp; (try with_reducible rfl))
            (try simp only [Act.put, List.setIfInBounds_toArray, List.set_cons_zero, List.set_cons_succ])
            refine wpAnyS_pure 5 (v := ?_) (fun _ => trivial) (by simp only [List.getElem?_toArray, List.getElem?_cons_succ, List.getElem?_cons_zero]; rfl) (by kernel_rfl) (fun _ _ _ _ _ h => h) ⟨rfl, (by intro c h; cases h), ?_⟩ hHeld ?_
            rotate_left
            focus (intro wS hSw; (try replace hSw := HSF.out wS hSw); (try dsimp only at hSw); go_simp; (try with_reducible rfl))
            (try simp only [Act.put, List.setIfInBounds_toArray, List.set_cons_zero, List.set_cons_succ])
            refine wpAnyS_pure 7 (v := ?_) (fun _ => trivial) (by simp only [List.getElem?_toArray, List.getElem?_cons_succ, List.getElem?_cons_zero]; rfl) (by kernel_rfl) (fun _ _ _ _ _ h => h) ⟨rfl, (by intro c h; cases h), ?_⟩ hHeld ?_
            rotate_left
            focus (intro wS hSw; (try replace hSw := HSF.out wS hSw); (try dsimp only at hSw); go_simp; (try with_reducible rfl))
            (try simp only [Act.put, List.setIfInBounds_toArray, List.set_cons_zero, List.set_cons_succ])
            refine wpAnyS_pure 9 (v := ?_) (fun _ => trivial) (by simp only [List.getElem?_toArray, List.getElem?_cons_succ, List.getElem?_cons_zero]; rfl) (by kernel_rfl) (fun _ _ _ _ _ h => h) ⟨rfl, (by intro c h; cases h), ?_⟩ hHeld ?_
            rotate_left
            focus (intro wS hSw; (try replace hSw := HSF.out wS hSw); (try dsimp only at hSw); go_simp; (try with_reducible rfl))
            (try simp only [Act.put, List.setIfInBounds_toArray, List.set_cons_zero, List.set_cons_succ])
            refine wpAnyS_pure 11 (v := ?_) (fun _ => trivial) (by simp only [List.getElem?_toArray, List.getElem?_cons_succ, List.getElem?_cons_zero]; rfl) (by kernel_rfl) (fun _ _ _ _ _ h => h) ⟨rfl, (by intro c h; cases h), ?_⟩ hHeld ?_
            rotate_left
            focus (intro wS hSw; (try replace hSw := HSF.out wS hSw); (try dsimp only at hSw); go_simp; (try with_reducible rfl))
            (try simp only [Act.put, List.setIfInBounds_toArray, List.set_cons_zero, List.set_cons_succ])
            refine wpAnyS_ready [6] (by kernel_rfl) (by simp) (AllReadyS.cons (by simp only [List.getElem?_toArray, List.getElem?_cons_succ, List.getElem?_cons_zero]; rfl) rfl (fun K hK => ?_) AllReadyS.nil)
            refine callS (by intro c h; cases h) (by go_simp; try with_reducible rfl) (C1.out b _ R0.out (he.below B0.out)) ?_
            intro v1 hq
            obtain ⟨hR, hg⟩ := hq
            have B1 := hid (bg B0.out hg HBb.out)
            have R1 := hid hR
            have LD1 := hid (LD0.out.reader Hbs.out hg)
            have hS1 := LD1.out.at_.2.2.2
            refine hK.out _ _ hS1 ?_
            (try simp only [Act.put, List.setIfInBounds_toArray, List.set_cons_zero, List.set_cons_succ])
            clear hK K hR hg C1 B0 R0 LD0 hHeld
            have hHeld := hS1
            clear hS1
            refine wpAnyS_ready [8] (by kernel_rfl) (by simp) (AllReadyS.cons (by simp only [List.getElem?_toArray, List.getElem?_cons_succ, List.getElem?_cons_zero]; rfl) rfl (fun K hK => ?_) AllReadyS.nil)
            refine callS (by intro c h; cases h) (by go_simp; try with_reducible rfl) (C2.out b _ R1.out (he.below B1.out)) ?_
            intro v2 hq
            obtain ⟨hR, hg⟩ := hq
            have B2 := hid (bg B1.out hg HBb.out)
            have R2 := hid hR
            have LD2 := hid (LD1.out.reader Hbs.out hg)
            have hS2 := LD2.out.at_.2.2.2
            refine hK.out _ _ hS2 ?_
            (try simp only [Act.put, List.setIfInBounds_toArray, List.set_cons_zero, List.set_cons_succ])
            clear hK K hR hg C2 B1 R1 LD1 hHeld
            have hHeld := hS2
            clear hS2
            refine wpAnyS_ready [10] (by kernel_rfl) (by simp) (AllReadyS.cons (by simp only [List.getElem?_toArray, List.getElem?_cons_succ, List.getElem?_cons_zero]; rfl) rfl (fun K hK => ?_) AllReadyS.nil)
            refine callS (by intro c h; cases h) (by go_simp; try with_reducible rfl) (C3.out b _ R2.out (he.below B2.out)) ?_
            intro v3 hq
            obtain ⟨hR, hg⟩ := hq
            have B3 := hid (bg B2.out hg HBb.out)
            have R3 := hid hR
            have LD3 := hid (LD2.out.reader Hbs.out hg)
            have hS3 := LD3.out.at_.2.2.2
            refine hK.out _ _ hS3 ?_
            (try simp only [Act.put, List.setIfInBounds_toArray, List.set_cons_zero, List.set_cons_succ])
            clear hK K hR hg C3 B2 R2 LD2 hHeld
            have hHeld := hS3
            clear hS3
            refine wpAnyS_ready [12] (by kernel_rfl) (by simp) (AllReadyS.cons (by simp only [List.getElem?_toArray, List.getElem?_cons_succ, List.getElem?_cons_zero]; rfl) rfl (fun K hK => ?_) AllReadyS.nil)
            refine callS (by intro c h; cases h) (by go_simp; try with_reducible rfl) (C4.out b _ R3.out (he.below B3.out)) ?_
            intro v4 hq
            obtain ⟨hR, hg⟩ := hq
            have B4 := hid (bg B3.out hg HBb.out)
            have R4 := hid hR
            have LD4 := hid (LD3.out.reader Hbs.out hg)
            have hS4 := LD4.out.at_.2.2.2
            refine hK.out _ _ hS4 ?_
            (try simp only [Act.put, List.setIfInBounds_toArray, List.set_cons_zero, List.set_cons_succ])
            clear hK K hR hg C4 B3 R3 LD3 hHeld
            have hHeld := hS4
            clear hS4
            refine wpAnyS_pure 13 (v := ?_) (fun _ => trivial) (by simp only [List.getElem?_toArray, List.getElem?_cons_succ, List.getElem?_cons_zero]; rfl) (by kernel_rfl) (fun _ _ _ _ _ h => h) ⟨rfl, (by intro c h; cases h), ?_⟩ hHeld ?_
            rotate_left
            focus (intro wS hSw; (try replace hSw := HSF.out wS hSw); (try dsimp only at hSw); go_simp; (try with_reducible rfl))
            (try simp only [Act.put, List.setIfInBounds_toArray, List.set_cons_zero, List.set_cons_succ])
            obtain ⟨w9, r1, r2, r3⟩ := LD4.out.putG hI64k.out hgp.out hlenD.out (x1, x2, x3, x4)
            have LD9 := hid r2
            have R9 := hid (show Rd w9 b t4.1 t4.2 from Blk.grown R4.out r3 (by have := LD4.out.ga; have := Hbs.out; simp; omega))
            have B9 := hid (B4.out.grown r3 B4.out.size (fun k e => by injection e with e; have := LD4.out.ga; have := HBS.out; omega))
            clear r2 r3
            refine wpAnyS_ready [14] (by kernel_rfl) (by simp) (AllReadyS.consL (by simp only [List.getElem?_toArray, List.getElem?_cons_succ, List.getElem?_cons_zero]; rfl) rfl (by kernel_rfl) (fun K hK => ?_) AllReadyS.nil)
            go_simp
            refine hK.out _ _ ?_
            (try simp only [Act.put, List.setIfInBounds_toArray, List.set_cons_zero, List.set_cons_succ])
            refine wpAnyS_done (by kernel_rfl) ?_
            clear hK HSF hHeld r1 R4 B4 LD4 K
            obtain ⟨L, hLd⟩ : ∃ L, L = numsL (d.setG k (x1, x2, x3, x4)) k := ⟨_, rfl⟩
            have hLe := hid (show L = [x1, x2, x3, x4] by rw [hLd, numsG _ _ hp.out])
            have HN := hid (numbers_any LD9.out hI64k.out)
            rw [← hLd] at HN
            have hLI := hid (show ∀ x ∈ L, I64 x by
              rw [hLe.out]
              intro x hx
              simp only [List.mem_cons, List.not_mem_nil, or_false] at hx
              rcases hx with rfl | rfl | rfl | rfl
              · exact J1.out
              · exact J2.out
              · exact J3.out
              · exact J4.out)
            have hLn : L.length ≤ 4 := by rw [hLe.out]; simp
            have hany0 := hid (show L.any outB = false ↔ (NumB x1 ∧ NumB x2 ∧ NumB x3 ∧ NumB x4) by
              rw [hLe.out]
              simp only [List.any_cons, List.any_nil, Bool.or_false, Bool.or_eq_false_iff, outB_no])
            have HBAD := hid (show L.any outB = true → res = none by
              intro h
              apply hnone.out
              rw [hsn.out, HSTEP.out, if_neg]
              intro h2
              rw [hany0.out.mpr h2] at h
              cases h)
            have HGOOD := hid (show L.any outB = false → Hid (runR d0 s2 (k + 1) = some (d.setG k (x1, x2, x3, x4), t4)) by
              intro h
              refine hid ?_
              rw [hsn.out, HSTEP.out, if_pos (hany0.out.mp h)])
            clear hLd hLe hany0 hnone hsn HSTEP J1 J2 J3 J4 hp hgp
            go_wp2_with fail
            refine HN.out.mono ?_
            rintro e va ⟨A7, c7, rfl, ho, hBa⟩
            obtain ⟨A8, c8, e8, h81, h82, h83⟩ := ho.slr hLI.out
            injection e8 with e81 e82 e83
            subst e81 e83
            have BA := hid (B9.out.trans (hBa.mono B9.out.size))
            have RA := hid (show Rd va b t4.1 t4.2 from Blk.below R9.out hBa R9.out.lt)
            have LA := hid (LD9.out.below hBa)
            have HCt := hid (contains_any 57 outB outB_any A7 c7 L va (by unfold maxLen; omega) h83 (by intro x W; simp [go_sem]))
            clear hBa ho e82 h81 h82 h83 HN B9 R9 LD9
            cases hany : L.any outB with
            | true =>
              rw [hany] at HCt
              have hres := hid (HBAD.out hany)
              clear hany HBAD HGOOD
              go_wp2_with fail
              refine HCt.out.mono ?_
              rintro e vb ⟨rfl, hBb⟩
              have BZ := hid (BA.out.trans (hBb.mono BA.out.size))
              clear hBb BA RA LA
              go_wp2_with fail
              refine bodyPost_ret (v := .tuple #[.pointer none, .bool false]) (by simp [results, Tryd.results12, go_sem]) rfl ?_
              rw [hres.out]
              exact ⟨rfl, BZ.out⟩
            | false =>
              rw [hany] at HCt
              have hgo := hid (HGOOD.out hany)
              clear hany HBAD HGOOD
              go_wp2_with fail
              refine HCt.out.mono ?_
              rintro e vb ⟨rfl, hBb⟩
              have BZ := hid (BA.out.trans (hBb.mono BA.out.size))
              have RZ := hid (show Rd vb b t4.1 t4.2 from Blk.below RA.out hBb RA.out.lt)
              have LZ := hid (LA.out.below hBb)
              clear hBb BA RA LA
              go_wp2_with fail
              go_roundw
              case rel => exact ⟨k + 1, (d.setG k (x1, x2, x3, x4)), t4, by simp [hk1], hkn, hgo, LZ.out, RZ.out, KT.out, ZT.out, BZ.out⟩
              case measure => simp [intOf, hk1]; omega
      · as_aux_lemma =>
          have hkN : k = home.length := by omega
          subst hkN
          have hT3 := hid (show res = if t = ([], false) then some d else none by rw [hT2.out, hrun.out])
          have hdn := done_any b t.1 t.2 wr RR.out
          cases hd : (!t.2 && t.1.isEmpty) with
          | false =>
            have hr := hid (show res = none by
              rw [hT3.out, if_neg]
              intro h
              rw [h] at hd
              simp at hd)
            rw [hd] at hdn
            have Hd := hid hdn
            clear hdn hd hT3
            go_wp2_with fail
            refine Hd.out.mono ?_
            rintro e w7 ⟨rfl, hB7⟩
            have B7 := hid (BB.out.trans (hB7.mono BB.out.size))
            clear hB7
            go_wp2_with fail
            refine bodyPost_ret (v := .tuple #[.pointer none, .bool false]) (by simp [results, Tryd.results12, go_sem]) rfl ?_
            rw [hr.out]
            exact ⟨rfl, B7.out⟩
          | true =>
            have hr := hid (show res = some d by
              rw [hT3.out, if_pos]
              obtain ⟨l, bd⟩ := t
              simp only at hd
              cases bd <;> simp_all)
            rw [hd] at hdn
            have Hd := hid hdn
            clear hdn hd hT3
            go_wp2_with fail
            refine Hd.out.mono ?_
            rintro e w7 ⟨rfl, hB7⟩
            have B7 := hid (BB.out.trans (hB7.mono BB.out.size))
            have L7 := hid ((LL.out.below hB7).lower HBS.out)
            clear hB7 LL
            go_wp2_with fail
            refine bodyPost_ret (v := .tuple #[.pointer (some ⟨bb, 0, none⟩), .bool true]) (by simp [results, Tryd.results12, go_sem]) rfl ?_
            rw [hr.out]
            exact ⟨bb, _, mh, mg, rfl, L7.out, B7.out⟩
end Go.Proofs.YtappgjdnfllblaaDoor
