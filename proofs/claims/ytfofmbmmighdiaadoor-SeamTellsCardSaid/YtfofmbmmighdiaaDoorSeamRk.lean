
/- Seam: the reference's Read of a string that is no desk's encoding (printed by gen_seamrk.py). -/
import Derived.Test.YtfofmbmmighdiaaDoorSeamRi
import Derived.Test.YtfofmbmmighdiaaDoorSeamRj
set_option linter.unusedSimpArgs false
set_option linter.unusedVariables false
namespace Go.Proofs.YtfofmbmmighdiaaDoor
open Go.RowKit Go.IntWalk

theorem fI_split2 {l l' : List UInt8} {v : Int} (h : fI l = some (v, l')) : l = encI v ++ l' := by
  rw [numL_split h]; simp [encI]
set_option maxRecDepth 100000 in
set_option maxHeartbeats 8000000 in
theorem rrdesk_no (s : ByteArray) (w : World) (hs : s.size ≤ 20000) (hno0 : NoDesk s) :
    Calls Tryd.prog 12 #[.string s] w fun e w' => e = .returned (.tuple #[.pointer none, .bool false]) ∧ Below w.heap.size w w' := by
  have hno := hid hno0
  clear hno0
  have hl0 : s.data.toList.length ≤ 20000 := by rw [← size_list]; exact hs
  obtain ⟨me, l1, b1, hmI, hl1, cI, r1⟩ := int_ur s.data.toList false (by omega)
  obtain ⟨n0, l2, b2, hn0, hnI, hl2, cN, r2⟩ := num_ur l1 b1 (by omega)
  obtain ⟨m0, rfl⟩ : ∃ m : Nat, n0 = m := ⟨n0.toNat, by omega⟩
  have hst := hid (show b2 = false → s.data.toList = encI me ++ encI m0 ++ l2 from fun h => by
    rcases r1 with ⟨r1, rfl⟩ | ⟨_, _, _, rfl⟩
    · rcases r2 with ⟨r2, rfl⟩ | ⟨_, _, _, rfl⟩
      · rw [fI_split2 r1, numL_split r2]; simp [encI]
      · cases h
    · rcases r2 with ⟨r2, rfl⟩ | ⟨_, _, _, rfl⟩
      · cases h
      · cases h)
  have hbd := hid (show b2 = true → l2 = [] from fun h => by
    rcases r1 with ⟨r1, rfl⟩ | ⟨_, _, rfl, rfl⟩
    · rcases r2 with ⟨r2, rfl⟩ | ⟨_, _, rfl, _⟩
      · cases h
      · rfl
    · rcases r2 with ⟨r2, rfl⟩ | ⟨_, _, rfl, _⟩
      · have := List.length_eq_zero_iff.1 (Nat.le_zero.1 hl2); exact this
      · rfl)
  clear r1 r2
  have CI := hid cI
  have CN := hid cN
  clear cI cN
  have hm0 : m0 ≤ 9223372036854775807 := by have := hnI.2; omega
  go_enter Tryd.func12, Tryd.ntmps12
  go_wp2_with fail
  refine (openR_any s w).mono ?_
  rintro e w1 ⟨rfl, hR, hB⟩
  have hB1 := hid hB
  clear hB
  go_wp2_with fail
  refine (CI.out _ _ hR).mono ?_
  rintro e w2 ⟨rfl, hR2, hg⟩
  have hB2 := hid (bg hB1.out hg (Nat.le_refl _))
  have hz2 := hR2.lt
  clear hR hB1 hg CI
  have hD3 : Hid (Dr (w2.alloc (Obj.cells #[.int .i64 me, .slice none 0 0] 53)) w.heap.size w2.heap.size (.slice none 0 0) me []) := hid ⟨Blk.new _ _ _, ⟨rfl, .inl ⟨rfl, rfl⟩⟩⟩
  have hR3 : Rr (w2.alloc (Obj.cells #[.int .i64 me, .slice none 0 0] 53)) w.heap.size l1 b1 := Blk.alloc hR2 _
  have hB3 := hid (hB2.out.alloc hB2.out.size (Obj.cells #[.int .i64 me, .slice none 0 0] 53))
  have hw2 := hid hB2.out.size
  clear hR2 hB2
  go_wp2_with fail
  refine (CN.out _ _ hR3).mono ?_
  rintro e w4 ⟨rfl, hR4, hg⟩
  have hB4 := hid (bg hB3.out hg (Nat.le_refl _))
  have hD4 := hid (hD3.out.rdr hR3 hg)
  clear hR3 hB3 hD3 hg CN
  generalize w2.heap.size = bd at *
  go_wp2_with fail
  go_loopw [7] (fun i wr => ∃ (rs : List Rob) (v : Value) (l : List UInt8) (bad : Bool), i = .int .i64 (rs.length : Int) ∧ Dr wr w.heap.size bd v me rs ∧ Rr wr w.heap.size l bad ∧ Hid (∀ r ∈ rs, RobOK 2199023255552 r) ∧ rs.length + l.length ≤ 20000 ∧ Hid (bad = false → s.data.toList = encI me ++ encI m0 ++ (rs.map encRb).flatten ++ l) ∧ Hid (bad = true → l = []) ∧ Below w.heap.size w wr) (fun i _ => m0 - (intOf i).toNat)
  case atStart => exact ⟨[], _, l2, b2, rfl, hD4.out, hR4, hid (by simp), by simp; omega, hid (by simpa using hst.out), hbd, hB4.out⟩
  case round =>
    clear hR4 hB4 hD4 hn0 hnI hst hbd
    obtain ⟨rs, v, l, bad, rfl, hD, hR, HOK, hlen, hinv, hbad, hB⟩ := hrel
    by_cases hlm0 : m0 ≤ rs.length
    · have hge : (m0 : Int) ≤ rs.length := by omega
      have HD := hid hD
      have HB := hid hB
      clear hD hB
      go_wp2_with fail
      have hdn9 := doneR_any _ _ _ _ hR
      cases hdn : (!bad && l.isEmpty) with
      | false =>
        rw [hdn] at hdn9
        refine hdn9.mono ?_
        rintro e w4 ⟨rfl, hB4⟩
        have B4 := hid (HB.out.trans (hB4.mono HB.out.size))
        clear hB4 HB HD hdn9 hdn hR
        go_wp2_with fail
        go_ret2
        exact ⟨rfl, B4.out⟩
      | true =>
        have hfin := hid (show s.data.toList = encI me ++ encI m0 ++ (rs.map encRb).flatten by
          have e1 : bad = false := by cases bad <;> simp_all
          have e2 : l = [] := by cases bad <;> simp_all
          have := hinv.out e1
          rw [this]
          first | (rw [e2, List.append_nil]) | simp)
        rw [hdn] at hdn9
        refine hdn9.mono ?_
        rintro e w4 ⟨rfl, hB4⟩
        have H4 := hid (HD.out.below hB4)
        have B4 := hid (HB.out.trans (hB4.mono HB.out.size))
        clear hB4 HB HD hdn9 hdn hR
        obtain ⟨A, c, rfl, _, _, _⟩ := H4.out.row
        obtain ⟨d0, d1⟩ := dr2 H4.out
        have hz4 := H4.out.d.lt
        by_cases mlo : me < 0
        · go_wp2_with fail
          go_ret2
          exact ⟨rfl, B4.out⟩
        by_cases mhi : 1 < me
        · go_wp2_with fail
          go_ret2
          exact ⟨rfl, B4.out⟩
        by_cases hlm : rs.length = m0
        · by_cases h200 : (200 : Int) < m0
          · have e9 : ((rs.length : Int) != (m0 : Int)) = false := by rw [bne_eq_false_iff_eq]; omega
            go_wp2_with fail
            go_ret2
            exact ⟨rfl, B4.out⟩
          · exact absurd (show s.data.toList = encD me rs by rw [hfin.out, ← hlm]; simp [encD, encDh]) (hno.out me rs (by omega) HOK.out (by omega))
        · have e9 : ((rs.length : Int) != (m0 : Int)) = true := by rw [bne_iff_ne]; omega
          go_wp2_with fail
          go_ret2
          exact ⟨rfl, B4.out⟩
    · have hlt : (rs.length : Int) < m0 := by omega
      by_cases hl : l = []
      · subst hl
        have HD := hid hD
        have HB := hid hB
        clear hD hB
        go_wp2_with fail
        refine (leftR_any _ _ _ _ hR).mono ?_
        rintro e w9 ⟨rfl, hB9⟩
        have hR := Blk.below hR hB9 hR.lt
        have HB := hid (HB.out.trans (hB9.mono HB.out.size))
        have HD := hid (HD.out.below hB9)
        clear hB9
        go_wp2_with fail
        have hdn9 := doneR_any _ _ _ _ hR
        cases hdn : (!bad && ([] : List UInt8).isEmpty) with
        | false =>
          rw [hdn] at hdn9
          refine hdn9.mono ?_
          rintro e w4 ⟨rfl, hB4⟩
          have B4 := hid (HB.out.trans (hB4.mono HB.out.size))
          clear hB4 HB HD hdn9 hdn hR
          go_wp2_with fail
          go_ret2
          exact ⟨rfl, B4.out⟩
        | true =>
          have hfin := hid (show s.data.toList = encI me ++ encI m0 ++ (rs.map encRb).flatten by
            have e1 : bad = false := by cases bad <;> simp_all
            have e2 : ([] : List UInt8) = [] := by cases bad <;> simp_all
            have := hinv.out e1
            rw [this]
            first | (rw [e2, List.append_nil]) | simp)
          rw [hdn] at hdn9
          refine hdn9.mono ?_
          rintro e w4 ⟨rfl, hB4⟩
          have H4 := hid (HD.out.below hB4)
          have B4 := hid (HB.out.trans (hB4.mono HB.out.size))
          clear hB4 HB HD hdn9 hdn hR
          obtain ⟨A, c, rfl, _, _, _⟩ := H4.out.row
          obtain ⟨d0, d1⟩ := dr2 H4.out
          have hz4 := H4.out.d.lt
          by_cases mlo : me < 0
          · go_wp2_with fail
            go_ret2
            exact ⟨rfl, B4.out⟩
          by_cases mhi : 1 < me
          · go_wp2_with fail
            go_ret2
            exact ⟨rfl, B4.out⟩
          have e9 : ((rs.length : Int) != (m0 : Int)) = true := by rw [bne_iff_ne]; omega
          go_wp2_with fail
          go_ret2
          exact ⟨rfl, B4.out⟩
      · have hlp : 0 < l.length := List.length_pos_iff.2 hl
        have hlp' : (0 : Int) < (l.length : Int) := by omega
        have hbf : bad = false := by
          cases bad with
          | false => rfl
          | true => exact absurd (hbad.out rfl) hl
        subst hbf
        obtain ⟨p, l1', b1', hpI, hq1, c1, s1⟩ := int_ur l false (by omega)
        obtain ⟨n, l2', b2', hnI', hq2, c2, s2⟩ := int_ur l1' b1' (by omega)
        obtain ⟨q, l3, b3, hqI, hq3, c3, s3⟩ := int_ur l2' b2' (by omega)
        have hl3 : rs.length + 1 + l3.length ≤ 20000 := by
          rcases s1 with ⟨s1, _⟩ | ⟨_, _, s1, _⟩
          · have := fI_short s1; omega
          · rw [s1] at hq2; simp only [List.length_nil] at hq2; omega
        have hinv3 := hid (show b3 = false → s.data.toList = encI me ++ encI m0 ++ (rs.map encRb).flatten ++ (encI p ++ (encI n ++ (encI q ++ l3))) from fun h => by
          rw [hinv.out rfl]
          rcases s1 with ⟨s1, rfl⟩ | ⟨_, _, _, rfl⟩
          · rcases s2 with ⟨s2, rfl⟩ | ⟨_, _, _, rfl⟩
            · rcases s3 with ⟨s3, rfl⟩ | ⟨_, _, _, rfl⟩
              · rw [fI_split2 s1, fI_split2 s2, fI_split2 s3]
              · cases h
            · rcases s3 with ⟨s3, rfl⟩ | ⟨_, _, _, rfl⟩ <;> cases h
          · rcases s2 with ⟨s2, rfl⟩ | ⟨_, _, _, rfl⟩ <;> rcases s3 with ⟨s3, rfl⟩ | ⟨_, _, _, rfl⟩ <;> cases h)
        have hbad3 := hid (show b3 = true → l3 = [] from fun h => by
          rcases s3 with ⟨s3, e3⟩ | ⟨_, _, e3, _⟩
          · rcases s2 with ⟨s2, e2⟩ | ⟨_, _, e2, _⟩
            · rcases s1 with ⟨s1, e1⟩ | ⟨_, _, e1, _⟩
              · rw [e3, e2, e1] at h; cases h
              · rw [e1] at hq2; simp only [List.length_nil] at hq2; exact List.length_eq_zero_iff.1 (by omega)
            · rw [e2] at hq3; simp only [List.length_nil] at hq3; exact List.length_eq_zero_iff.1 (by omega)
          · exact e3)
        clear s1 s2 s3 hq1 hq2 hq3 hinv hbad
        have C1 := hid c1
        have C2 := hid c2
        have C3 := hid c3
        clear c1 c2 c3 hl
        have HD := hid hD
        have HB := hid hB
        clear hD hB
        go_wp2_with fail
        refine (leftR_any _ _ _ _ hR).mono ?_
        rintro e w4 ⟨rfl, hB4⟩
        have R4 : Rr w4 w.heap.size l false := Blk.below hR hB4 hR.lt
        have B4 := hid (HB.out.trans (hB4.mono HB.out.size))
        have H4 := hid (HD.out.below hB4)
        clear hR hB4 HD HB
        go_wp2_with fail
        refine (C1.out _ _ R4).mono ?_
        rintro e w5 ⟨rfl, R5, hg⟩
        have B5 := hid ((bg B4.out hg (Nat.le_refl _)).alloc (bg B4.out hg (Nat.le_refl _)).size (Obj.cells #[.int .i64 p, .int .i64 0, .bool false] 48))
        have H5 := hid ((H4.out.rdr R4 hg).alloc (Obj.cells #[.int .i64 p, .int .i64 0, .bool false] 48))
        have X5 := hid (Blk.new w5 48 #[.int .i64 p, .int .i64 0, .bool false])
        have R5' : Rr (w5.alloc (Obj.cells #[.int .i64 p, .int .i64 0, .bool false] 48)) w.heap.size l1' b1' := Blk.alloc R5 _
        have NX := hid (fun j (hj : v.ownBlock = some j) => ((H4.out.rdr R4 hg).r.lt j hj).2)
        have hbx : bd < w5.heap.size := (H4.out.rdr R4 hg).d.lt
        have hwx : w.heap.size < w5.heap.size := R5.lt
        clear R4 B4 H4 hg R5 C1
        go_wp2_with fail
        refine (C2.out _ _ R5').mono ?_
        rintro e w6 ⟨rfl, R6, hg⟩
        have B6 := hid (bg B5.out hg (Nat.le_refl _))
        have H6 := hid (H5.out.rdr R5' hg)
        have X6 := hid (X5.out.rdr R5' (by decide) hg)
        clear R5' B5 H5 X5 hg C2
        generalize w5.heap.size = gx at *
        have t1 := X6.out.cell 1; have tf1 := X6.out.frozen 1; have tl := X6.out.lt
        simp at t1
        go_wp2_with fail
        have R6' : Rr (w6.setCell ⟨gx, 1, none⟩ (.int .i64 n)) w.heap.size l2' b2' := Blk.far R6 (by simp; omega) _
        have B6' := hid (B6.out.setCell (p := ⟨gx, 1, none⟩) (by simp; omega) (.int .i64 n))
        have H6' := hid (H6.out.far (g := gx) (by omega) (fun j hj => by have := NX.out j hj; omega) 1 (.int .i64 n))
        have X6' := hid (show Blk (w6.setCell ⟨gx, 1, none⟩ (.int .i64 n)) gx 48 #[.int .i64 p, .int .i64 n, .bool false] by simpa using X6.out.set_ 1 (.int .i64 n))
        clear R6 B6 H6 X6 t1 tf1 tl
        refine (C3.out _ _ R6').mono ?_
        rintro e w7 ⟨rfl, R7, hg⟩
        have B7 := hid (bg B6'.out hg (Nat.le_refl _))
        have H7 := hid (H6'.out.rdr R6' hg)
        have X7 := hid (X6'.out.rdr R6' (by decide) hg)
        clear R6' B6' H6' X6' hg C3
        obtain ⟨d0, d1⟩ := dr2 H7.out
        have e0 := H7.out.d.frozen 0; have e1 := H7.out.d.frozen 1
        have hzd := H7.out.d.lt
        obtain ⟨x0, x1, x2⟩ := box3 X7.out
        have y0 := X7.out.frozen 0; have y1 := X7.out.frozen 1; have y2 := X7.out.frozen 2
        have hzx := X7.out.lt
        have hgb1 : ¬ gx = bd := by omega
        have hgb2 : ¬ bd = gx := by omega
        have hbz := B7.out.size
        by_cases p0 : p < 0
        · go_wp2_with fail
          go_ret2
          exact ⟨rfl, by have := B7.out; have := B7.out.size; (repeat (first | exact Below.refl _ _ | assumption | refine below_drewN ?_ _ | refine Below.drew ?_ | refine Below.alloc ?_ (by (try simp); (try omega)) _ | refine Below.setCell ?_ (by (try simp); (try omega)) _))⟩
        by_cases p3 : 2 < p
        · go_wp2_with fail
          go_ret2
          exact ⟨rfl, by have := B7.out; have := B7.out.size; (repeat (first | exact Below.refl _ _ | assumption | refine below_drewN ?_ _ | refine Below.drew ?_ | refine Below.alloc ?_ (by (try simp); (try omega)) _ | refine Below.setCell ?_ (by (try simp); (try omega)) _))⟩
        by_cases n0 : n < 0
        · go_wp2_with fail
          go_ret2
          exact ⟨rfl, by have := B7.out; have := B7.out.size; (repeat (first | exact Below.refl _ _ | assumption | refine below_drewN ?_ _ | refine Below.drew ?_ | refine Below.alloc ?_ (by (try simp); (try omega)) _ | refine Below.setCell ?_ (by (try simp); (try omega)) _))⟩
        by_cases n1 : 2199023255552 < n
        · go_wp2_with fail
          go_ret2
          exact ⟨rfl, by have := B7.out; have := B7.out.size; (repeat (first | exact Below.refl _ _ | assumption | refine below_drewN ?_ _ | refine Below.drew ?_ | refine Below.alloc ?_ (by (try simp); (try omega)) _ | refine Below.setCell ?_ (by (try simp); (try omega)) _))⟩
        by_cases q0 : q < 0
        · go_wp2_with fail
          go_ret2
          exact ⟨rfl, by have := B7.out; have := B7.out.size; (repeat (first | exact Below.refl _ _ | assumption | refine below_drewN ?_ _ | refine Below.drew ?_ | refine Below.alloc ?_ (by (try simp); (try omega)) _ | refine Below.setCell ?_ (by (try simp); (try omega)) _))⟩
        by_cases q9 : 1 < q
        · go_wp2_with fail
          go_ret2
          exact ⟨rfl, by have := B7.out; have := B7.out.size; (repeat (first | exact Below.refl _ _ | assumption | refine below_drewN ?_ _ | refine Below.drew ?_ | refine Below.alloc ?_ (by (try simp); (try omega)) _ | refine Below.setCell ?_ (by (try simp); (try omega)) _))⟩
        by_cases q1 : q = 1
        · subst q1
          by_cases pz : p = 0
          · subst pz
            have HF7 := hid (H7.out.far (g := gx) (by omega) (fun j hj => by have := NX.out j hj; omega) 2 (.bool true))
            have HD2 := hid ((HF7.out.alloc (Obj.cells #[.int .i64 0, .int .i64 n, .bool true] 48)).drew)
            have hBq : Below w.heap.size w (((w7.setCell ⟨gx, 2, none⟩ (.bool true)).alloc (Obj.cells #[.int .i64 0, .int .i64 n, .bool true] 48)).drew) := by
              have := B7.out.size
              have := B7.out
              (repeat (first | exact Below.refl _ _ | assumption | refine below_drewN ?_ _ | refine Below.drew ?_ | refine Below.alloc ?_ (by (try simp); (try omega)) _ | refine Below.setCell ?_ (by (try simp); (try omega)) _))
            have hRq : Rr (((w7.setCell ⟨gx, 2, none⟩ (.bool true)).alloc (Obj.cells #[.int .i64 0, .int .i64 n, .bool true] 48)).drew) w.heap.size l3 b3 := Blk.drew (Blk.alloc (Blk.far R7 (by simp; omega) _) _)
            have hinv2 := hid (show b3 = false → s.data.toList = encI me ++ encI m0 ++ ((rs ++ [(0, n, true)]).map encRb).flatten ++ l3 from fun h => by
              rw [hinv3.out h]
              simp [encRb, fb])
            go_wp2_with fail
            go_region_law (first | (refine step_appRr _ (by rfl) (.tmp 78) (.tmp 80) (by rfl) w.heap.size v _ (by rfl) HD2.out.r w7.heap.size (0, n, true) (by rfl) ?_ ?_ ?_ ?_; (exact (Blk.new_at (by simp)).drew); (focus (first | omega | (simp; omega))); (focus (first | omega | (simp; omega))); intro g cap w8 ho1 hgr hat hlt1; have hd1 := Blk.grown HD2.out.d hgr (fun e => HD2.out.dn e.symm); have d10 := hd1.cell 0; have d11 := hd1.cell 1; have d1f := hd1.frozen 1; have d1l := hd1.lt; simp at d10 d11))
            all_goals
              have HF := hid (dr_app HD2.out ho1 hgr hat)
              have hB8 := hBq.grown hgr hBq.size (fun j hj => (HD2.out.r.lt j hj).1)
              have hR8 : Rr (w8.setCell ⟨bd, 1, none⟩ (.slice (some ⟨g, 0, none⟩) (rs.length + 1) cap)) w.heap.size l3 b3 := Blk.far (Blk.grown hRq hgr (fun e => own_blk_ne HD2.out.r hRq (by decide) e.symm)) (by simp; omega) _
              clear ho1 hgr hat hd1 hBq hRq
              go_wp2_with fail
              go_roundw
              case rel =>
                refine ⟨rs ++ [(0, n, true)], .slice (some ⟨g, 0, none⟩) (rs.length + 1) cap, l3, b3, ?_, ?_, ?_, ?_, ?_, hinv2, hbad3, ?_⟩
                · rw [List.length_append, List.length_singleton]; go_num
                · with_reducible exact HF.out
                · with_reducible exact hR8
                · exact hid (robs_snoc HOK.out (.mk (by simp only; omega) (by simp only; omega) (by simp)))
                · rw [List.length_append, List.length_singleton]; omega
                · with_reducible exact hB8.setCell hw2.out _
              case measure => simp [intOf]; omega
          · have pz1 : (p != 0) = true := by rw [bne_iff_ne]; exact pz
            have pz2 : (p == 0) = false := by rw [beq_eq_false_iff_ne]; exact pz
            clear pz
            go_wp2_with fail
            go_ret2
            exact ⟨rfl, by have := B7.out; have := B7.out.size; (repeat (first | exact Below.refl _ _ | assumption | refine below_drewN ?_ _ | refine Below.drew ?_ | refine Below.alloc ?_ (by (try simp); (try omega)) _ | refine Below.setCell ?_ (by (try simp); (try omega)) _))⟩
        · obtain rfl : q = 0 := by omega
          clear q1
          have HF7 := hid (H7.out.far (g := gx) (by omega) (fun j hj => by have := NX.out j hj; omega) 2 (.bool false))
          have HD2 := hid ((HF7.out.alloc (Obj.cells #[.int .i64 p, .int .i64 n, .bool false] 48)).drew)
          have hBq : Below w.heap.size w (((w7.setCell ⟨gx, 2, none⟩ (.bool false)).alloc (Obj.cells #[.int .i64 p, .int .i64 n, .bool false] 48)).drew) := by
            have := B7.out.size
            have := B7.out
            (repeat (first | exact Below.refl _ _ | assumption | refine below_drewN ?_ _ | refine Below.drew ?_ | refine Below.alloc ?_ (by (try simp); (try omega)) _ | refine Below.setCell ?_ (by (try simp); (try omega)) _))
          have hRq : Rr (((w7.setCell ⟨gx, 2, none⟩ (.bool false)).alloc (Obj.cells #[.int .i64 p, .int .i64 n, .bool false] 48)).drew) w.heap.size l3 b3 := Blk.drew (Blk.alloc (Blk.far R7 (by simp; omega) _) _)
          have hinv2 := hid (show b3 = false → s.data.toList = encI me ++ encI m0 ++ ((rs ++ [(p, n, false)]).map encRb).flatten ++ l3 from fun h => by
            rw [hinv3.out h]
            simp [encRb, fb])
          go_wp2_with fail
          go_region_law (first | (refine step_appRr _ (by rfl) (.tmp 78) (.tmp 80) (by rfl) w.heap.size v _ (by rfl) HD2.out.r w7.heap.size (p, n, false) (by rfl) ?_ ?_ ?_ ?_; (exact (Blk.new_at (by simp)).drew); (focus (first | omega | (simp; omega))); (focus (first | omega | (simp; omega))); intro g cap w8 ho1 hgr hat hlt1; have hd1 := Blk.grown HD2.out.d hgr (fun e => HD2.out.dn e.symm); have d10 := hd1.cell 0; have d11 := hd1.cell 1; have d1f := hd1.frozen 1; have d1l := hd1.lt; simp at d10 d11))
          all_goals
            have HF := hid (dr_app HD2.out ho1 hgr hat)
            have hB8 := hBq.grown hgr hBq.size (fun j hj => (HD2.out.r.lt j hj).1)
            have hR8 : Rr (w8.setCell ⟨bd, 1, none⟩ (.slice (some ⟨g, 0, none⟩) (rs.length + 1) cap)) w.heap.size l3 b3 := Blk.far (Blk.grown hRq hgr (fun e => own_blk_ne HD2.out.r hRq (by decide) e.symm)) (by simp; omega) _
            clear ho1 hgr hat hd1 hBq hRq
            go_wp2_with fail
            go_roundw
            case rel =>
              refine ⟨rs ++ [(p, n, false)], .slice (some ⟨g, 0, none⟩) (rs.length + 1) cap, l3, b3, ?_, ?_, ?_, ?_, ?_, hinv2, hbad3, ?_⟩
              · rw [List.length_append, List.length_singleton]; go_num
              · with_reducible exact HF.out
              · with_reducible exact hR8
              · exact hid (robs_snoc HOK.out (.mk (by simp only; omega) (by simp only; omega) (by simp)))
              · rw [List.length_append, List.length_singleton]; omega
              · with_reducible exact hB8.setCell hw2.out _
            case measure => simp [intOf]; omega
end Go.Proofs.YtfofmbmmighdiaaDoor
