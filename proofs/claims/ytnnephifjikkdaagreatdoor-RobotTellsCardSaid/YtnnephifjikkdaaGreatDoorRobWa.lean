
/- Robots: the reference's Way, Right, Next (chapter 22). -/
import Derived.Test.YtnnephifjikkdaaGreatDoorRobC
import Derived.Test.YtnnephifjikkdaaGreatDoorRobF
import Derived.Test.YtnnephifjikkdaaGreatDoorFloH
set_option linter.unusedSimpArgs false
set_option linter.unusedVariables false
namespace Go.Proofs.YtnnephifjikkdaaGreatDoor
open Go.RowKit Go.IntWalk

set_option maxRecDepth 100000 in
set_option maxHeartbeats 2000000 in
theorem rfway_any (W H D : Int) (Ak Ao : Option Addr) (ck co : Nat) (kind out : List Int) (c0 : Int) (Aq : Option Addr) (cq : Nat) (q : List Int) (w : World) (h : RF W H D kind out) (hk : SlR w w.heap.size Ak kind) (ho : SlR w w.heap.size Ao out) (hq : SlR w w.heap.size Aq q) (hl : q.length ≤ 10) (hkn : ∀ x ∈ q, 0 ≤ x ∧ x < 10) (hc : I64 c0) :
    Calls Tryz.prog 40 #[.agg #[.int .i64 W, .int .i64 H, .int .i64 D, .slice Ak kind.length ck, .slice Ao out.length co], .agg #[.int .i64 c0, .slice Aq q.length cq]] w (WayRes w (wayL (nextL W H D kind out) c0 q)) := by
  have hI := hid h
  have hkn' := hid hkn
  have hcI := hid hc
  clear h hkn hc
  have hkI := hid hk.ints
  have hqI := hid hq.ints
  go_enter Tryz.func40, Tryz.ntmps40
  go_wp2_with fail
  have hB0 : Below w.heap.size w (((w.alloc (Obj.cells #[.int .i64 W, .int .i64 H, .int .i64 D, .slice Ak kind.length ck, .slice Ao out.length co] 24)).alloc (Obj.cells #[.int .i64 c0, .slice Aq q.length cq] 48)).alloc (Obj.cells #[Value.int IntKind.i64 c0] 3)) := by (repeat (first | exact Below.refl _ _ | assumption | refine below_drewN ?_ _ | refine Below.drew ?_ | refine Below.alloc ?_ (by (try simp); (try omega)) _ | refine Below.setCell ?_ (by (try simp); (try omega)) _))
  have hO0 : Hid (OwnI (((w.alloc (Obj.cells #[.int .i64 W, .int .i64 H, .int .i64 D, .slice Ak kind.length ck, .slice Ao out.length co] 24)).alloc (Obj.cells #[.int .i64 c0, .slice Aq q.length cq] 48)).alloc (Obj.cells #[Value.int IntKind.i64 c0] 3)) w.heap.size (.slice (some ⟨w.heap.size + 1 + 1, 0, none⟩) 1 1) [c0]) := by
    have := OwnI.fresh (base := w.heap.size) (l := [c0]) (Blk.new ((w.alloc (Obj.cells #[.int .i64 W, .int .i64 H, .int .i64 D, .slice Ak kind.length ck, .slice Ao out.length co] 24)).alloc (Obj.cells #[.int .i64 c0, .slice Aq q.length cq] 48)) 3 #[.int .i64 c0]) (by simp; omega) (by simp [maxLen])
    unfold Hid
    simpa using this
  have hbl0 : Blk (((w.alloc (Obj.cells #[.int .i64 W, .int .i64 H, .int .i64 D, .slice Ak kind.length ck, .slice Ao out.length co] 24)).alloc (Obj.cells #[.int .i64 c0, .slice Aq q.length cq] 48)).alloc (Obj.cells #[Value.int IntKind.i64 c0] 3)) w.heap.size 24 #[.int .i64 W, .int .i64 H, .int .i64 D, .slice Ak kind.length ck, .slice Ao out.length co] := ((Blk.new w _ _).alloc _).alloc _
  have hbm0 : Hid (Blk (((w.alloc (Obj.cells #[.int .i64 W, .int .i64 H, .int .i64 D, .slice Ak kind.length ck, .slice Ao out.length co] 24)).alloc (Obj.cells #[.int .i64 c0, .slice Aq q.length cq] 48)).alloc (Obj.cells #[Value.int IntKind.i64 c0] 3)) (w.heap.size + 1) 48 #[.int .i64 c0, .slice Aq q.length cq]) := by
    have := (Blk.new (w.alloc (Obj.cells #[.int .i64 W, .int .i64 H, .int .i64 D, .slice Ak kind.length ck, .slice Ao out.length co] 24)) 48 #[.int .i64 c0, .slice Aq q.length cq]).alloc (Obj.cells #[Value.int IntKind.i64 c0] 3)
    unfold Hid
    simpa using this
  have R0 : Hid (wayL (nextL W H D kind out) c0 q = (wayL (nextL W H D kind out) c0 (q.drop 0)).map ([] ++ ·)) := by simp [Hid]
  go_loopw [6, 7, 8] (fun v cu i wr => ∃ (k : Nat) (init : List Int) (cur : Int), k ≤ q.length ∧ init.length ≤ k ∧ cu = .int .i64 cur ∧ i = .int .i64 k ∧ OwnI wr w.heap.size v (init ++ [cur]) ∧ Below w.heap.size w wr ∧ Blk wr w.heap.size 24 #[.int .i64 W, .int .i64 H, .int .i64 D, .slice Ak kind.length ck, .slice Ao out.length co] ∧ Blk wr (w.heap.size + 1) 48 #[.int .i64 c0, .slice Aq q.length cq] ∧ Hid (∀ x ∈ init ++ [cur], I64 x) ∧ Hid (wayL (nextL W H D kind out) c0 q = (wayL (nextL W H D kind out) cur (q.drop k)).map (init ++ ·))) (fun _ _ i _ => q.length - (intOf i).toNat)
  case atStart => exact ⟨0, [], c0, by omega, by simp, rfl, rfl, hO0.out, hB0, hbl0, hbm0.out, by simpa [Hid] using hcI.out, R0⟩
  case round =>
    clear R0 hO0 hbl0 hB0 hbm0
    obtain ⟨k, init, cur, hkq, hik, rfl, rfl, hown, hB, hbl, hbm, hIs, hres⟩ := hrel
    obtain ⟨k0, k1, k2, k3, k4⟩ := blk5 hbl
    obtain ⟨m0, m1⟩ := blk2 hbm
    have hzm := hbm.lt
    by_cases hlt : k < q.length
    · obtain ⟨b, off, rfl, hb, g1, _⟩ := (hq.below hB).int hlt
      obtain ⟨ha0, ha1⟩ := hkn'.out q[k] (List.getElem_mem hlt)
      have hst : Hid (wayL (nextL W H D kind out) cur (q.drop k) = wayL (nextL W H D kind out) cur (q[k] :: q.drop (k+1))) := by rw [Hid, List.drop_eq_getElem_cons hlt]
      generalize q[k] = a at *
      have hlt' : (k : Int) < q.length := by omega
      by_cases hlo : a < 1
      · have hst2 : Hid (wayL (nextL W H D kind out) c0 q = (wayL (nextL W H D kind out) cur (q.drop (k+1))).map (init ++ ·)) := by rw [Hid, hres.out, hst.out]; simp [wayL, isMv, show ¬ (1 ≤ a ∧ a < 7) by omega]
        go_wp2_with fail
        go_roundw
        case rel => exact ⟨k+1, init, cur, by omega, by omega, rfl, by go_num, hown, hB, hbl, hbm, hIs, hst2⟩
        case measure => simp [intOf]; omega
      by_cases hhi : 6 < a
      · have hst2 : Hid (wayL (nextL W H D kind out) c0 q = (wayL (nextL W H D kind out) cur (q.drop (k+1))).map (init ++ ·)) := by rw [Hid, hres.out, hst.out]; simp [wayL, isMv, show ¬ (1 ≤ a ∧ a < 7) by omega]
        go_wp2_with fail
        go_roundw
        case rel => exact ⟨k+1, init, cur, by omega, by omega, rfl, by go_num, hown, hB, hbl, hbm, hIs, hst2⟩
        case measure => simp [intOf]; omega
      have Hmv := hid (show isMv a = true by simp [isMv]; omega)
      have HB := hid hB
      have HO := hid hown
      have HBL := hid hbl
      have HBM := hid hbm
      clear hB hown hbl hbm
      go_wp2_with fail
      refine (rfnext_any W H D Ak Ao ck co kind out cur (a - 1) _ hI.out ((hk.below HB.out).more HB.out.size) ((ho.below HB.out).more HB.out.size)).mono ?_
      clear k0 k1 k2 k3 k4 m0 m1 g1
      cases hnx : nextL W H D kind out cur (a - 1) with
      | none =>
        have hst2 : Hid (wayL (nextL W H D kind out) c0 q = none) := by rw [Hid, hres.out, hst.out]; simp [wayL, Hmv.out, hnx]
        clear hnx
        rintro e w2 ⟨he2, hB2⟩
        simp only [nextV] at he2
        subst he2
        go_wp2_with fail
        go_ret2
        exact wayRes_none hst2.out rfl (HB.out.trans (hB2.mono HB.out.size))
      | some nx =>
        have hst2 : Hid (wayL (nextL W H D kind out) c0 q = (wayL (nextL W H D kind out) nx (q.drop (k+1))).map ((init ++ [cur]) ++ ·)) := by
          rw [Hid, hres.out, hst.out]
          simp only [wayL, Hmv.out, hnx, if_true, Option.map_map]
          congr 1
          funext l
          simp
        obtain ⟨hnx0, hnx1, _⟩ := nextL_in hI.out hnx
        have hIx : I64 nx := by have := hI.out.s.n; exact ⟨by omega, by omega⟩
        have hIs2 : Hid (∀ x ∈ (init ++ [cur]) ++ [nx], I64 x) := by
          intro x hx
          rw [List.mem_append] at hx
          rcases hx with h | h
          · exact hIs.out x h
          · simp at h; subst h; exact hIx
        clear hnx hIx hnx0 hnx1
        rintro e w2 ⟨he2, hB2⟩
        simp only [nextV] at he2
        subst he2
        have hb2 := HB.out.trans (hB2.mono HB.out.size)
        have hbl2 := HBL.out.below hB2 HBL.out.lt
        have hbm2 := HBM.out.below hB2 HBM.out.lt
        have hown2 := hid (HO.out.below hB2)
        have hsz2 := hb2.size
        have hcell : Hid (∀ (j : Nat) (u : Value), ([nx].map (Value.int .i64))[j]? = some u → (w2.alloc (Obj.cells #[Value.int .i64 nx] 3)).cell? ((⟨w2.heap.size, 0, none⟩ : Addr).add j) = some u) := by
          intro j u hu
          match j, hu with
          | 0, hu => simp at hu; subst hu; simp [Addr.add, go_sem]
          | j+1, hu => simp at hu
        clear HB HO HBL HBM hB2
        obtain ⟨g, cc, rfl, hg0, hg1, _⟩ := own_at hown2.out (by simp)
        have hlen : (init ++ [cur]).length = init.length + 1 := by simp
        rw [hlen] at hown2 ⊢
        clear hlen
        go_wp2_with (at_builtin; refine wp_appI _ rfl (.tmp 46) (.tmp 48) rfl w.heap.size (.slice (some ⟨g, 0, none⟩) (init.length + 1) cc) (init ++ [cur]) rfl (hown2.out.alloc _) _ _ [nx] rfl hcell.out (by simp; omega) (by simp; omega) ?_; intro v1 w3 ho1 hg1 hat1)
        have hbl3 : Blk w3 w.heap.size 24 #[.int .i64 W, .int .i64 H, .int .i64 D, .slice Ak kind.length ck, .slice Ao out.length co] := (hbl2.alloc _).grown hg1 (own_ne hown2.out hbl2 (by decide))
        have hbm3 : Blk w3 (w.heap.size + 1) 48 #[.int .i64 c0, .slice (some ⟨b, off, none⟩) q.length cq] := (hbm2.alloc _).grown hg1 (own_ne hown2.out hbm2 (by decide))
        have hb3 : Below w.heap.size w w3 := by
          refine (hb2.alloc (by omega) _).grown hg1 (by simp; omega) ?_
          intro k' hk'
          have hk2 : some g = some k' := hk'
          injection hk2 with e
          omega
        clear hown2 hcell hbl2 hbm2 hb2 hg1 hat1
        go_wp2_with fail
        go_roundw
        case rel => exact ⟨k+1, init ++ [cur], nx, by omega, by simp; omega, rfl, by go_num, ho1, hb3, hbl3, hbm3, hIs2, hst2⟩
        case measure => simp [intOf]; omega
    · have hst : Hid (wayL (nextL W H D kind out) c0 q = some (init ++ [cur])) := by
        rw [Hid, hres.out, List.drop_eq_nil_of_le (by omega)]; simp [wayL]
      go_wp2_with fail
      go_ret2
      obtain ⟨A', c', rfl, h1, h2, h3⟩ := hown.slr hIs.out
      rw [hst.out]
      exact ⟨A', c', rfl, h1, h2, h3, hown.fresh_at, hB⟩
set_option maxRecDepth 100000 in
set_option maxHeartbeats 2000000 in
theorem rfright_any (W H D : Int) (Ak Ao : Option Addr) (ck co : Nat) (kind out : List Int) (c0 : Int) (Aq : Option Addr) (cq : Nat) (q : List Int) (w : World) (h : RF W H D kind out) (hk : SlR w w.heap.size Ak kind) (ho : SlR w w.heap.size Ao out) (hq : SlR w w.heap.size Aq q) (hql : q.length ≤ maxLen) :
    Calls Tryz.prog 36 #[.agg #[.int .i64 W, .int .i64 H, .int .i64 D, .slice Ak kind.length ck, .slice Ao out.length co], .agg #[.int .i64 c0, .slice Aq q.length cq]] w fun e w' => e = .returned (.bool (rightM W H D kind out c0 q)) ∧ Below w.heap.size w w' := by
  unfold maxLen at hql
  have hI := hid h
  have hkl : (kind.length : Int) ≤ 4096 := by have := h.k; have := h.s.n; omega
  have hkm : kind.length ≤ maxLen := by unfold maxLen; omega
  have hom : out.length ≤ maxLen := by unfold maxLen; have := h.k; have := h.o; omega
  have hrf := hid (refR_iff.2 h)
  clear h
  have hb0 : Below w.heap.size w ((w.alloc (Obj.cells #[.int .i64 W, .int .i64 H, .int .i64 D, .slice Ak kind.length ck, .slice Ao out.length co] 24)).alloc (Obj.cells #[.int .i64 c0, .slice Aq q.length cq] 48)) := by (repeat (first | exact Below.refl _ _ | assumption | refine below_drewN ?_ _ | refine Below.drew ?_ | refine Below.alloc ?_ (by (try simp); (try omega)) _ | refine Below.setCell ?_ (by (try simp); (try omega)) _))
  go_enter Tryz.func36, Tryz.ntmps36
  go_wp2_with fail
  refine (refRight_any _ _ _ _ _ _ _ _ _ _ hkm hom ((hk.below hb0).more (by simp; omega)) ((ho.below hb0).more (by simp; omega))).mono ?_
  rw [hrf.out]
  rintro e w1 ⟨rfl, hB⟩
  have bx : Blk w1 w.heap.size 24 #[.int .i64 W, .int .i64 H, .int .i64 D, .slice Ak kind.length ck, .slice Ao out.length co] := ((Blk.new w _ _).alloc _).below hB (by simp; omega)
  have bm : Blk w1 (w.heap.size + 1) 48 #[.int .i64 c0, .slice Aq q.length cq] := by simpa using (Blk.new (w.alloc (Obj.cells #[.int .i64 W, .int .i64 H, .int .i64 D, .slice Ak kind.length ck, .slice Ao out.length co] 24)) 48 #[.int .i64 c0, .slice Aq q.length cq]).below hB (by simp)
  have hb1 := hb0.trans (hB.mono (by simp; omega))
  clear hB hb0 hkm hom
  obtain ⟨k0, k1, k2, k3, k4⟩ := blk5 bx
  obtain ⟨m0, m1⟩ := blk2 bm
  have z1 := bm.lt
  by_cases h1 : c0 < 0
  · have hr := hid (show rightM W H D kind out c0 q = false by simp [rightM]; omega)
    go_wp2_with fail
    go_ret
    exact ⟨ret_bool hr.out.symm, hb1⟩
  by_cases h2 : (kind.length : Int) ≤ c0
  · have hr := hid (show rightM W H D kind out c0 q = false by simp [rightM]; omega)
    go_wp2_with fail
    go_ret
    exact ⟨ret_bool hr.out.symm, hb1⟩
  obtain ⟨m, rfl⟩ := Int.eq_ofNat_of_zero_le (show 0 ≤ c0 by omega)
  have hm : m < kind.length := by omega
  by_cases h4 : 4 < q.length
  · have hr := hid (show rightM W H D kind out m q = false by simp [rightM]; intros; omega)
    have i4 : (4:Int) < q.length := by omega
    go_wp2_with fail
    go_ret
    exact ⟨ret_bool hr.out.symm, hb1⟩
  have i4 : ¬ (4:Int) < q.length := by omega
  go_wp2_with fail
  go_loop [5] (fun i => ∃ k : Nat, k ≤ q.length ∧ i = .int .i64 k ∧ Hid (∀ x ∈ q.take k, 0 ≤ x ∧ x < 10)) (fun i => q.length - (intOf i).toNat)
  case atStart => exact ⟨0, by omega, rfl, by simp [Hid]⟩
  case round =>
    obtain ⟨k, hkq, rfl, hall⟩ := hrel
    by_cases hlt : k < q.length
    · obtain ⟨b, off, rfl, hb, g1, _⟩ := (hq.below hb1).int hlt
      have hst := hid (show (0 ≤ q[k] ∧ q[k] < 10) → ∀ x ∈ q.take (k + 1), 0 ≤ x ∧ x < 10 from fun h x hx => by
        rw [List.take_add_one, List.getElem?_eq_getElem hlt, List.mem_append] at hx
        rcases hx with hx | hx
        · exact hall.out x hx
        · simp at hx; subst hx; exact h)
      have hno := hid (show ¬ (0 ≤ q[k] ∧ q[k] < 10) → rightM W H D kind out m q = false from fun h => by
        have : knownL q = false := by
          cases hq9 : knownL q with
          | false => rfl
          | true => exact absurd (knownL_iff.1 hq9 _ (List.getElem_mem hlt)) h
        simp [rightM, this])
      have hlt' : (k : Int) < q.length := by omega
      generalize q[k] = a at *
      by_cases a1 : a < 0
      · have hr := hid (hno.out (by omega))
        go_wp2_with fail
        go_ret
        exact ⟨ret_bool hr.out.symm, hb1⟩
      · by_cases a2 : 10 ≤ a
        · have hr := hid (hno.out (by omega))
          go_wp2_with fail
          go_ret
          exact ⟨ret_bool hr.out.symm, hb1⟩
        · have hr := hid (hst.out (by omega))
          go_wp2_with fail
          go_round
          case rel => exact ⟨k + 1, by omega, by go_num, hr⟩
          case measure => simp [intOf]; omega
    · obtain rfl : k = q.length := by omega
      rw [List.take_length] at hall
      have H5 := hid (knownL_iff.2 hall.out)
      go_wp2_with fail
      refine (rfway_any W H D Ak Ao ck co kind out m Aq cq q _ hI.out ((hk.below hb1).more hb1.size) ((ho.below hb1).more hb1.size) ((hq.below hb1).more hb1.size) (by omega) hall.out ⟨by omega, by omega⟩).mono ?_
      rintro e w3 hw
      cases h6 : wayL (nextL W H D kind out) m q with
      | none =>
        have hr := hid (show rightM W H D kind out m q = false by simp [rightM, h6])
        rw [h6] at hw
        obtain ⟨rfl, hB⟩ := hw
        have hb2 := hb1.trans (hB.mono hb1.size)
        clear h6
        go_wp2_with fail
        go_ret
        exact ⟨ret_bool hr.out.symm, hb2⟩
      | some l =>
        have hr := hid (show rightM W H D kind out m q = decide (kind[m] ≠ 0) by
          have : rightM W H D kind out m q = true ↔ kind[m] ≠ 0 := by
            rw [rightM_iff]
            constructor
            · intro h; have := h.2.1; simpa [hm] using this
            · intro h; exact ⟨⟨by omega, by omega⟩, by simpa [hm] using h, by omega, H5.out, l, h6⟩
          by_cases hh : kind[m] ≠ 0
          · rw [this.2 hh]; simp [hh]
          · have h9 : ¬ rightM W H D kind out m q = true := fun h => hh (this.1 h)
            rw [Bool.eq_false_iff.2 h9]; simp [hh])
        rw [h6] at hw
        obtain ⟨A', c', rfl, _, _, _, _, hB⟩ := hw
        replace bx := bx.below hB bx.lt
        replace bm := bm.below hB bm.lt
        have hb2 := hb1.trans (hB.mono hb1.size)
        clear h6 k0 k1 k2 k3 k4 m0 m1 z1 hB hb1
        obtain ⟨k0, k1, k2, k3, k4⟩ := blk5 bx
        obtain ⟨m0, m1⟩ := blk2 bm
        have z1 := bm.lt
        obtain ⟨bk, ok, rfl, hbk, gk, _⟩ := (hk.below hb2).int hm
        have him : (m : Int) < kind.length := by omega
        generalize kind[m] = km at *
        by_cases hz : km = 0
        · subst hz
          go_wp2_with fail
          go_ret
          exact ⟨ret_bool hr.out.symm, hb2⟩
        · have e1 : (km != 0) = true := by simp [hz]
          have hr2 := hid (show rightM W H D (kind) out m q = true by rw [hr.out]; simp [hz])
          clear hz hr
          go_wp2_with fail
          go_ret
          exact ⟨ret_bool hr2.out.symm, hb2⟩
end Go.Proofs.YtnnephifjikkdaaGreatDoor
