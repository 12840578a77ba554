
/- Seam: Read of a string that is no desk's encoding (printed by gen_seamrj.py). -/
import Derived.Test.YtfofmbmmighdiaaDoorSeamR
import Derived.Test.YtfofmbmmighdiaaDoorWireUni
set_option linter.unusedSimpArgs false
set_option linter.unusedVariables false
namespace Go.Proofs.YtfofmbmmighdiaaDoor
open Go.RowKit Go.IntWalk

theorem wrapk (j : Nat) (h : j ≤ 9223372036854775807) : wrap64 (j : Int) = j := by
  unfold wrap64; omega
theorem robs_snoc {M : Int} {rs : List Rob} {r : Rob} (h : ∀ x ∈ rs, RobOK M x) (hr : RobOK M r) : ∀ x ∈ rs ++ [r], RobOK M x := by
  intro x hx
  rw [List.mem_append] at hx
  rcases hx with hx | hx
  · exact h x hx
  · rw [List.mem_singleton] at hx; subst hx; exact hr
theorem data_toList (s : ByteArray) : s.toList = s.data.toList := ByteArray.toList_eq s
theorem Dk.rdrb {w w' : World} {base b g : Nat} {v : Value} {me : Int} {rs : List Rob} {l : List UInt8} {bad : Bool} (h : Dk w base b v me rs) (hR : Rd w g l bad) (hg : w.grownBy w' (some g)) : Dk w' base b v me rs :=
  h.grown hg (.inr (own_blk_ne h.r hR (by decide))) (fun e => by
    injection e with e
    subst e
    exact Blk.ne_ h.d hR (by decide) rfl)
def NoDesk (s : ByteArray) : Prop := ∀ (me : Int) (rs : List Rob), me = 0 ∨ me = 1 → (∀ r ∈ rs, RobOK 2199023255552 r) → rs.length ≤ 200 → s.data.toList ≠ encD me rs
theorem fI_short {l l' : List UInt8} {v : Int} (h : fI l = some (v, l')) : l'.length < l.length := by
  have := congrArg List.length (numL_split h)
  simp only [List.length_append, List.length_cons] at this
  omega
set_option maxRecDepth 100000 in
set_option maxHeartbeats 8000000 in
theorem rdesk_no (s : ByteArray) (w : World) (hs : s.size ≤ 20000) (hno0 : NoDesk s) (he : Env w) :
    Calls Tryd.prog 11 #[.string s] w fun e w' => e = .returned (.tuple #[.pointer none, .bool false]) ∧ Below w.heap.size w w' := by
  have hno := hid hno0
  clear hno0
  have hl0 : s.data.toList.length ≤ 20000 := by rw [← size_list]; exact hs
  obtain ⟨me, l1, b1, hmI, hl1, cI, r1⟩ := int_uni s.data.toList false (by omega)
  obtain ⟨n0, l2, b2, hn0, hnI, hl2, cN, r2⟩ := num_uni l1 b1 (by omega)
  clear r1 r2
  have CI := hid cI
  have CN := hid cN
  clear cI cN
  obtain ⟨m0, rfl⟩ : ∃ m : Nat, n0 = m := ⟨n0.toNat, by omega⟩
  have hm0 : m0 ≤ 9223372036854775807 := by have := hnI.2; omega
  go_enter Tryd.func11, Tryd.ntmps11
  go_wp2_with fail
  refine (open_any s w).mono ?_
  rintro e w1 ⟨rfl, hR, hB⟩
  have hB1 := hid hB
  clear hB
  go_wp2_with fail
  refine (CI.out _ _ hR (he.below hB1.out)).mono ?_
  rintro e w2 ⟨rfl, hR2, hg⟩
  have hB2 := hid (bg hB1.out hg (Nat.le_refl _))
  have hz2 := hR2.lt
  clear hR hB1 hg CI
  have hD3 : Hid (Dk (w2.alloc (Obj.cells #[.int .i64 me, .slice none 0 0] 83)) w.heap.size w2.heap.size (.slice none 0 0) me []) := hid ⟨Blk.new _ _ _, ⟨rfl, .inl ⟨rfl, rfl⟩⟩⟩
  have hR3 : Rd (w2.alloc (Obj.cells #[.int .i64 me, .slice none 0 0] 83)) w.heap.size l1 b1 := Blk.alloc hR2 _
  have hB3 := hid (hB2.out.alloc hB2.out.size (Obj.cells #[.int .i64 me, .slice none 0 0] 83))
  have hw2 := hid hB2.out.size
  clear hR2 hB2
  go_wp2_with fail
  refine (CN.out _ _ hR3 (he.below hB3.out)).mono ?_
  rintro e w4 ⟨rfl, hR4, hg⟩
  have hB4 := hid (bg hB3.out hg (Nat.le_refl _))
  have hD4 := hid (hD3.out.rdrb hR3 hg)
  clear hR3 hB3 hD3 hg CN
  generalize w2.heap.size = bd at *
  go_wp2_with fail
  go_loopw [6] (fun i wr => ∃ (m : Nat) (rs : List Rob) (v : Value) (l : List UInt8) (bad : Bool), i = .int .i64 (m : Int) ∧ m ≤ 9223372036854775807 ∧ Dk wr w.heap.size bd v me rs ∧ Rd wr w.heap.size l bad ∧ Hid (∀ r ∈ rs, RobOK 2199023255552 r) ∧ rs.length + l.length ≤ 20000 ∧ Below w.heap.size w wr) (fun i _ => (intOf i).toNat)
  case atStart => exact ⟨m0, [], _, l2, b2, rfl, hm0, hD4.out, hR4, hid (by simp), by simp; omega, hB4.out⟩
  case round =>
    clear hR4 hB4 hD4 hm0 hn0 hnI
    obtain ⟨m, rs, v, l, bad, rfl, hm, hD, hR, HOK, hlen, hB⟩ := hrel
    cases m with
    | zero =>

      have HD := hid hD
      have HB := hid hB
      clear hD hB
      go_wp2_with fail
      have hdn9 := done_any _ _ _ _ hR
      cases hdn : (!bad && l.isEmpty) with
      | false =>
        rw [hdn] at hdn9
        refine hdn9.mono ?_
        rintro e w4 ⟨rfl, hB4⟩
        have B4 := hid (HB.out.trans (hB4.mono HB.out.size))
        clear hB4 HB HD hdn9 hdn hR
        go_wp2_with fail
        go_ret2
        exact ⟨rfl, B4.out⟩
      | true =>
        rw [hdn] at hdn9
        refine hdn9.mono ?_
        rintro e w4 ⟨rfl, hB4⟩
        have H4 := hid (HD.out.below hB4)
        have B4 := hid (HB.out.trans (hB4.mono HB.out.size))
        clear hB4 HB HD hdn9 hdn hR
        obtain ⟨A, c, rfl, _, _, _⟩ := H4.out.row
        obtain ⟨d0, d1⟩ := dk2 H4.out
        have hz4 := H4.out.d.lt
        by_cases hme : me = 0 ∨ me = 1
        · by_cases h200 : 200 < rs.length
          · have h200' : (200 : Int) < rs.length := by omega
            rcases hme with rfl | rfl
            all_goals
              go_wp2_with fail
              go_ret2
              exact ⟨rfl, B4.out⟩
          · have h200' : ¬ (200 : Int) < rs.length := by omega
            have hne : ((bs (encD me rs)).toList != s.toList) = true := by
              rw [bne_iff_ne]
              intro e9
              exact hno.out me rs hme HOK.out (by omega) (by rw [← data_toList s, ← e9]; simp [bs])
            have hne1 : ((bs (encD me rs)).toList == s.toList) = false := by
              rw [beq_eq_false_iff_ne]
              rw [bne_iff_ne] at hne
              exact hne
            have hmI' : I64 me := hmI
            have HRI := hid (robs_i (by omega) HOK.out).2
            rcases hme with rfl | rfl
            all_goals
              go_wp2_with fail
              refine (dbytes_any H4.out hmI' HRI.out (by omega) (he.below B4.out)).mono ?_
              rintro e w5 ⟨rfl, hB5⟩
              go_wp2_with fail
              go_ret2
              exact ⟨rfl, B4.out.trans (hB5.mono B4.out.size)⟩
        · have m0 : (me == 0) = false := by rw [beq_eq_false_iff_ne]; omega
          have m1 : (me == 1) = false := by rw [beq_eq_false_iff_ne]; omega
          have m0' : (me != 0) = true := by rw [bne_iff_ne]; omega
          have m1' : (me != 1) = true := by rw [bne_iff_ne]; omega
          clear hme
          go_wp2_with fail
          go_ret2
          exact ⟨rfl, B4.out⟩

    | succ j =>
      have hjp : (0 : Int) < ((j + 1 : Nat) : Int) := by omega
      by_cases hl : l = []
      · subst hl

        have HD := hid hD
        have HB := hid hB
        clear hD hB
        go_wp2_with fail
        refine (left_any _ _ _ _ hR).mono ?_
        rintro e w9 ⟨rfl, hB9⟩
        have hR := Blk.below hR hB9 hR.lt
        have HB := hid (HB.out.trans (hB9.mono HB.out.size))
        have HD := hid (HD.out.below hB9)
        clear hB9
        go_wp2_with fail
        have hdn9 := done_any _ _ _ _ hR
        cases hdn : (!bad && ([] : List UInt8).isEmpty) with
        | false =>
          rw [hdn] at hdn9
          refine hdn9.mono ?_
          rintro e w4 ⟨rfl, hB4⟩
          have B4 := hid (HB.out.trans (hB4.mono HB.out.size))
          clear hB4 HB HD hdn9 hdn hR
          go_wp2_with fail
          go_ret2
          exact ⟨rfl, B4.out⟩
        | true =>
          rw [hdn] at hdn9
          refine hdn9.mono ?_
          rintro e w4 ⟨rfl, hB4⟩
          have H4 := hid (HD.out.below hB4)
          have B4 := hid (HB.out.trans (hB4.mono HB.out.size))
          clear hB4 HB HD hdn9 hdn hR
          obtain ⟨A, c, rfl, _, _, _⟩ := H4.out.row
          obtain ⟨d0, d1⟩ := dk2 H4.out
          have hz4 := H4.out.d.lt
          by_cases hme : me = 0 ∨ me = 1
          · by_cases h200 : 200 < rs.length
            · have h200' : (200 : Int) < rs.length := by omega
              rcases hme with rfl | rfl
              all_goals
                go_wp2_with fail
                go_ret2
                exact ⟨rfl, B4.out⟩
            · have h200' : ¬ (200 : Int) < rs.length := by omega
              have hne : ((bs (encD me rs)).toList != s.toList) = true := by
                rw [bne_iff_ne]
                intro e9
                exact hno.out me rs hme HOK.out (by omega) (by rw [← data_toList s, ← e9]; simp [bs])
              have hne1 : ((bs (encD me rs)).toList == s.toList) = false := by
                rw [beq_eq_false_iff_ne]
                rw [bne_iff_ne] at hne
                exact hne
              have hmI' : I64 me := hmI
              have HRI := hid (robs_i (by omega) HOK.out).2
              rcases hme with rfl | rfl
              all_goals
                go_wp2_with fail
                refine (dbytes_any H4.out hmI' HRI.out (by omega) (he.below B4.out)).mono ?_
                rintro e w5 ⟨rfl, hB5⟩
                go_wp2_with fail
                go_ret2
                exact ⟨rfl, B4.out.trans (hB5.mono B4.out.size)⟩
          · have m0 : (me == 0) = false := by rw [beq_eq_false_iff_ne]; omega
            have m1 : (me == 1) = false := by rw [beq_eq_false_iff_ne]; omega
            have m0' : (me != 0) = true := by rw [bne_iff_ne]; omega
            have m1' : (me != 1) = true := by rw [bne_iff_ne]; omega
            clear hme
            go_wp2_with fail
            go_ret2
            exact ⟨rfl, B4.out⟩

      · have hlp : 0 < l.length := List.length_pos_iff.2 hl
        have hlp' : (0 : Int) < (l.length : Int) := by omega
        obtain ⟨p, l1', b1', hpI, hq1, c1, s1⟩ := int_uni l bad (by omega)
        obtain ⟨n, l2', b2', hnI', hq2, c2, s2⟩ := int_uni l1' b1' (by omega)
        obtain ⟨q, l3, b3, hqI, hq3, c3, s3⟩ := int_uni l2' b2' (by omega)
        have hl3 : rs.length + 1 + l3.length ≤ 20000 := by
          rcases s1 with ⟨s1, _⟩ | ⟨_, _, s1, _⟩
          · have := fI_short s1; omega
          · rw [s1] at hq2; simp only [List.length_nil] at hq2; omega
        clear s1 s2 s3 hq1 hq2 hq3
        have C1 := hid c1
        have C2 := hid c2
        have C3 := hid c3
        clear c1 c2 c3 hl
        have HD := hid hD
        have HB := hid hB
        clear hD hB
        go_wp2_with fail
        refine (left_any _ _ _ _ hR).mono ?_
        rintro e w4 ⟨rfl, hB4⟩
        have R4 : Rd w4 w.heap.size l bad := Blk.below hR hB4 hR.lt
        have B4 := hid (HB.out.trans (hB4.mono HB.out.size))
        have H4 := hid (HD.out.below hB4)
        clear hR hB4 HD HB
        go_wp2_with fail
        refine (C1.out _ _ R4 (he.below B4.out)).mono ?_
        rintro e w5 ⟨rfl, R5, hg⟩
        have B5 := hid (bg B4.out hg (Nat.le_refl _))
        have H5 := hid (H4.out.rdrb R4 hg)
        clear R4 B4 H4 hg C1
        go_wp2_with fail
        refine (C2.out _ _ R5 (he.below B5.out)).mono ?_
        rintro e w6 ⟨rfl, R6, hg⟩
        have B6 := hid (bg B5.out hg (Nat.le_refl _))
        have H6 := hid (H5.out.rdrb R5 hg)
        clear R5 B5 H5 hg C2
        go_wp2_with fail
        refine (C3.out _ _ R6 (he.below B6.out)).mono ?_
        rintro e w7 ⟨rfl, R7, hg⟩
        have B7 := hid (bg B6.out hg (Nat.le_refl _))
        have H7 := hid (H6.out.rdrb R6 hg)
        clear R6 B6 H6 hg C3
        obtain ⟨d0, d1⟩ := dk2 H7.out
        have e0 := H7.out.d.frozen 0; have e1 := H7.out.d.frozen 1
        have hzd := H7.out.d.lt
        have hbB := hid B7.out
        by_cases p0 : p < 0
        · go_wp2_with fail
          go_ret2
          exact ⟨rfl, by have := B7.out; have := B7.out.size; (repeat (first | exact Below.refl _ _ | assumption | refine below_drewN ?_ _ | refine Below.drew ?_ | refine Below.alloc ?_ (by (try simp); (try omega)) _ | refine Below.setCell ?_ (by (try simp); (try omega)) _))⟩
        by_cases p3 : 3 ≤ p
        · go_wp2_with fail
          go_ret2
          exact ⟨rfl, by have := B7.out; have := B7.out.size; (repeat (first | exact Below.refl _ _ | assumption | refine below_drewN ?_ _ | refine Below.drew ?_ | refine Below.alloc ?_ (by (try simp); (try omega)) _ | refine Below.setCell ?_ (by (try simp); (try omega)) _))⟩
        by_cases n0 : n < 0
        · go_wp2_with fail
          go_ret2
          exact ⟨rfl, by have := B7.out; have := B7.out.size; (repeat (first | exact Below.refl _ _ | assumption | refine below_drewN ?_ _ | refine Below.drew ?_ | refine Below.alloc ?_ (by (try simp); (try omega)) _ | refine Below.setCell ?_ (by (try simp); (try omega)) _))⟩
        by_cases n1 : 2199023255552 < n
        · go_wp2_with fail
          go_ret2
          exact ⟨rfl, by have := B7.out; have := B7.out.size; (repeat (first | exact Below.refl _ _ | assumption | refine below_drewN ?_ _ | refine Below.drew ?_ | refine Below.alloc ?_ (by (try simp); (try omega)) _ | refine Below.setCell ?_ (by (try simp); (try omega)) _))⟩
        by_cases q1 : q = 1
        · subst q1
          by_cases pz : p = 0
          · subst pz
            have HD2 := hid (((H7.out.alloc (Obj.cells #[.int .i64 0, .int .i64 n, .bool true] 85)).alloc (Obj.cells #[.int .i64 0, .int .i64 n, .bool true] 85)).drew)
            have hBq : Below w.heap.size w (((w7.alloc (Obj.cells #[.int .i64 0, .int .i64 n, .bool true] 85)).alloc (Obj.cells #[.int .i64 0, .int .i64 n, .bool true] 85)).drew) := by
              have := B7.out.size
              have := B7.out
              (repeat (first | exact Below.refl _ _ | assumption | refine below_drewN ?_ _ | refine Below.drew ?_ | refine Below.alloc ?_ (by (try simp); (try omega)) _ | refine Below.setCell ?_ (by (try simp); (try omega)) _))
            have hRq : Rd (((w7.alloc (Obj.cells #[.int .i64 0, .int .i64 n, .bool true] 85)).alloc (Obj.cells #[.int .i64 0, .int .i64 n, .bool true] 85)).drew) w.heap.size l3 b3 := Blk.drew (Blk.alloc (Blk.alloc R7 _) _)
            have hbz := B7.out.size
            go_upto_region 9 with fail
            go_region_law (first | (refine step_appR _ (by rfl) (.tmp 64) (.tmp 66) (by rfl) w.heap.size v _ (by rfl) HD2.out.r (w7.heap.size + 1) (0, n, true) (by rfl) ?_ ?_ ?_ ?_; (exact (blk_new2F _ _ _ _).drew); (focus (first | omega | (simp; omega))); (focus (first | omega | (simp; omega))); intro g cap w8 ho1 hgr hat hlt1; have hd1 := Blk.grown HD2.out.d hgr (fun e => HD2.out.dn e.symm); have d10 := hd1.cell 0; have d11 := hd1.cell 1; have d1f := hd1.frozen 1; have d1l := hd1.lt; simp at d10 d11))
            all_goals
              have HF := hid (dk_app HD2.out ho1 hgr hat)
              have hB8 := hBq.grown hgr hBq.size (fun j hj => (HD2.out.r.lt j hj).1)
              have hR8 : Rd (w8.setCell ⟨bd, 1, none⟩ (.slice (some ⟨g, 0, none⟩) (rs.length + 1) cap)) w.heap.size l3 b3 := Blk.far (Blk.grown hRq hgr (fun e => own_blk_ne HD2.out.r hRq (by decide) e.symm)) (by simp; omega) _
              clear ho1 hgr hat hd1 hBq hRq
              go_wp2_with fail
              go_roundw
              case rel =>
                refine ⟨j, rs ++ [(0, n, true)], .slice (some ⟨g, 0, none⟩) (rs.length + 1) cap, l3, b3, ?_, by omega, ?_, ?_, ?_, ?_, ?_⟩
                · first | rfl | rw [wrapk j (by omega)]
                · with_reducible exact HF.out
                · with_reducible exact hR8
                · exact hid (robs_snoc HOK.out (.mk (by simp only; omega) (by simp only; omega) (by simp)))
                · rw [List.length_append, List.length_singleton]; omega
                · with_reducible exact hB8.setCell hw2.out _
              case measure => first | exact meas_g _ j rfl | exact meas_g _ j (wrapk j (by omega))
          · have pz1 : (p != 0) = true := by rw [bne_iff_ne]; exact pz
            have pz2 : (p == 0) = false := by rw [beq_eq_false_iff_ne]; exact pz
            clear pz
            go_wp2_with fail
            go_ret2
            exact ⟨rfl, by have := B7.out; have := B7.out.size; (repeat (first | exact Below.refl _ _ | assumption | refine below_drewN ?_ _ | refine Below.drew ?_ | refine Below.alloc ?_ (by (try simp); (try omega)) _ | refine Below.setCell ?_ (by (try simp); (try omega)) _))⟩
        · have q2 : (q == 1) = false := by rw [beq_eq_false_iff_ne]; exact q1
          have q3 : decide (q = 1) = false := by simpa using q1
          have HD2 := hid (((H7.out.alloc (Obj.cells #[.int .i64 p, .int .i64 n, .bool false] 85)).alloc (Obj.cells #[.int .i64 p, .int .i64 n, .bool false] 85)).drew)
          have hBq : Below w.heap.size w (((w7.alloc (Obj.cells #[.int .i64 p, .int .i64 n, .bool false] 85)).alloc (Obj.cells #[.int .i64 p, .int .i64 n, .bool false] 85)).drew) := by
            have := B7.out.size
            have := B7.out
            (repeat (first | exact Below.refl _ _ | assumption | refine below_drewN ?_ _ | refine Below.drew ?_ | refine Below.alloc ?_ (by (try simp); (try omega)) _ | refine Below.setCell ?_ (by (try simp); (try omega)) _))
          have hRq : Rd (((w7.alloc (Obj.cells #[.int .i64 p, .int .i64 n, .bool false] 85)).alloc (Obj.cells #[.int .i64 p, .int .i64 n, .bool false] 85)).drew) w.heap.size l3 b3 := Blk.drew (Blk.alloc (Blk.alloc R7 _) _)
          have hbz := B7.out.size
          go_upto_region 9 with fail
          go_region_law (first | (refine step_appR _ (by rfl) (.tmp 64) (.tmp 66) (by rfl) w.heap.size v _ (by rfl) HD2.out.r (w7.heap.size + 1) (p, n, false) (by rfl) ?_ ?_ ?_ ?_; (exact (blk_new2F _ _ _ _).drew); (focus (first | omega | (simp; omega))); (focus (first | omega | (simp; omega))); intro g cap w8 ho1 hgr hat hlt1; have hd1 := Blk.grown HD2.out.d hgr (fun e => HD2.out.dn e.symm); have d10 := hd1.cell 0; have d11 := hd1.cell 1; have d1f := hd1.frozen 1; have d1l := hd1.lt; simp at d10 d11))
          all_goals
            have HF := hid (dk_app HD2.out ho1 hgr hat)
            have hB8 := hBq.grown hgr hBq.size (fun j hj => (HD2.out.r.lt j hj).1)
            have hR8 : Rd (w8.setCell ⟨bd, 1, none⟩ (.slice (some ⟨g, 0, none⟩) (rs.length + 1) cap)) w.heap.size l3 b3 := Blk.far (Blk.grown hRq hgr (fun e => own_blk_ne HD2.out.r hRq (by decide) e.symm)) (by simp; omega) _
            clear ho1 hgr hat hd1 hBq hRq
            go_wp2_with fail
            go_roundw
            case rel =>
              refine ⟨j, rs ++ [(p, n, false)], .slice (some ⟨g, 0, none⟩) (rs.length + 1) cap, l3, b3, ?_, by omega, ?_, ?_, ?_, ?_, ?_⟩
              · first | rfl | rw [wrapk j (by omega)]
              · with_reducible exact HF.out
              · with_reducible exact hR8
              · exact hid (robs_snoc HOK.out (.mk (by simp only; omega) (by simp only; omega) (by simp)))
              · rw [List.length_append, List.length_singleton]; omega
              · with_reducible exact hB8.setCell hw2.out _
            case measure => first | exact meas_g _ j rfl | exact meas_g _ j (wrapk j (by omega))
end Go.Proofs.YtfofmbmmighdiaaDoor
