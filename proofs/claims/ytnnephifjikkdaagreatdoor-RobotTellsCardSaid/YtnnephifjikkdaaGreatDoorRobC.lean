
/- Robots: minds that are right; Way, Next, clone. -/
import Derived.Test.YtnnephifjikkdaaGreatDoorRobB
set_option linter.unusedSimpArgs false
set_option linter.unusedVariables false
namespace Go.Proofs.YtnnephifjikkdaaGreatDoor
open Go.RowKit Go.IntWalk

theorem blk2 {w : World} {g : Nat} {t : TypeId} {a b : Value} (h : Blk w g t #[a, b]) : w.cell? ⟨g, 0, none⟩ = some a ∧ w.cell? ⟨g, 1, none⟩ = some b := ⟨h.cell 0, h.cell 1⟩
def rightM (W H D : Int) (kind out : List Int) (c : Int) (q : List Int) : Bool :=
  decide (0 ≤ c ∧ c < kind.length) && (decide (kind.getD c.toNat 0 ≠ 0) && (decide (q.length ≤ 4) && (knownL q && (wayL (nextL W H D kind out) c q).isSome)))
theorem rightM_iff {W H D : Int} {kind out : List Int} {c : Int} {q : List Int} : rightM W H D kind out c q = true ↔ (0 ≤ c ∧ c < kind.length) ∧ kind.getD c.toNat 0 ≠ 0 ∧ q.length ≤ 4 ∧ knownL q = true ∧ ∃ l, wayL (nextL W H D kind out) c q = some l := by
  simp [rightM, Option.isSome_iff_exists]

set_option maxRecDepth 100000 in
set_option maxHeartbeats 2000000 in
theorem right_any (W H D : Int) (Ak Ao : Option Addr) (ck co : Nat) (kind out : List Int) (c0 : Int) (Aq : Option Addr) (cq : Nat) (q : List Int) (w : World) (h : RF W H D kind out) (hk : SlR w w.heap.size Ak kind) (ho : SlR w w.heap.size Ao out) (hq : SlR w w.heap.size Aq q) (hql : q.length ≤ maxLen) :
    Calls Tryz.prog 35 #[.agg #[.int .i64 W, .int .i64 H, .int .i64 D, .slice Ak kind.length ck, .slice Ao out.length co], .agg #[.int .i64 c0, .slice Aq q.length cq]] w fun e w' => e = .returned (.bool (rightM W H D kind out c0 q)) ∧ Below w.heap.size w w' := by
  unfold maxLen at hql
  have hI := hid h
  have hkl : (kind.length : Int) ≤ 4096 := by have := h.k; have := h.s.n; omega
  clear h
  have hb0 : Below w.heap.size w ((w.alloc (Obj.cells #[.int .i64 W, .int .i64 H, .int .i64 D, .slice Ak kind.length ck, .slice Ao out.length co] 24)).alloc (Obj.cells #[.int .i64 c0, .slice Aq q.length cq] 48)) := by (repeat (first | exact Below.refl _ _ | assumption | refine below_drewN ?_ _ | refine Below.drew ?_ | refine Below.alloc ?_ (by (try simp); (try omega)) _ | refine Below.setCell ?_ (by (try simp); (try omega)) _))
  go_enter Tryz.func35, Tryz.ntmps35
  go_wp2_with fail
  refine (floorRight_any _ _ _ _ _ _ _ _ _ _ hI.out ((hk.below hb0).more (by simp; omega)) ((ho.below hb0).more (by simp; omega))).mono ?_
  rintro e w1 ⟨rfl, hB⟩
  have bx : Blk w1 w.heap.size 24 #[.int .i64 W, .int .i64 H, .int .i64 D, .slice Ak kind.length ck, .slice Ao out.length co] := ((Blk.new w _ _).alloc _).below hB (by simp; omega)
  have bm : Blk w1 (w.heap.size + 1) 48 #[.int .i64 c0, .slice Aq q.length cq] := by simpa using (Blk.new (w.alloc (Obj.cells #[.int .i64 W, .int .i64 H, .int .i64 D, .slice Ak kind.length ck, .slice Ao out.length co] 24)) 48 #[.int .i64 c0, .slice Aq q.length cq]).below hB (by simp)
  have hb1 := hb0.trans (hB.mono (by simp; omega))
  clear hB hb0
  obtain ⟨k0, k1, k2, k3, k4⟩ := blk5 bx
  obtain ⟨m0, m1⟩ := blk2 bm
  have z1 := bm.lt
  by_cases h1 : c0 < 0
  · have hr := hid (show rightM W H D kind out c0 q = false by simp [rightM]; omega)
    go_wp2_with fail
    go_ret
    exact ⟨ret_bool hr.out.symm, hb1⟩
  by_cases h2 : (kind.length : Int) ≤ c0
  · have hr := hid (show rightM W H D kind out c0 q = false by simp [rightM]; omega)
    go_wp2_with fail
    go_ret
    exact ⟨ret_bool hr.out.symm, hb1⟩
  obtain ⟨m, rfl⟩ := Int.eq_ofNat_of_zero_le (show 0 ≤ c0 by omega)
  have hm : m < kind.length := by omega
  have hkd : kind.getD m 0 = kind[m] := by simp [hm]
  obtain ⟨bk, ok, rfl, hbk, gk, _⟩ := (hk.below hb1).int hm
  by_cases h3 : kind[m] = 0
  · have hr := hid (show rightM W H D kind out m q = false by simp [rightM, hm, h3])
    have e1 : (kind[m] == 0) = true := by simp [h3]
    clear h3
    go_wp2_with fail
    go_ret
    exact ⟨ret_bool hr.out.symm, hb1⟩
  have H3 := hid h3
  have e1 : (kind[m] == 0) = false := by simp [h3]
  clear h3
  by_cases h4 : 4 < q.length
  · have hr := hid (show rightM W H D kind out m q = false by simp [rightM]; intros; omega)
    have i4 : (4:Int) < q.length := by omega
    go_wp2_with fail
    go_ret
    exact ⟨ret_bool hr.out.symm, hb1⟩
  have i4 : ¬ (4:Int) < q.length := by omega
  go_wp2_with fail
  refine (known_any Aq cq q _ (by unfold maxLen; omega) ((hq.below hb1).more hb1.size)).mono ?_
  rintro e w2 ⟨rfl, hB⟩
  replace bx := bx.below hB bx.lt
  replace bm := bm.below hB bm.lt
  replace hb1 := hb1.trans (hB.mono hb1.size)
  clear k0 k1 k2 k3 k4 m0 m1 z1 gk hB
  obtain ⟨k0, k1, k2, k3, k4⟩ := blk5 bx
  obtain ⟨m0, m1⟩ := blk2 bm
  have z1 := bm.lt
  cases h5 : knownL q with
  | false =>
    have hr := hid (show rightM W H D kind out m q = false by simp [rightM, h5])
    clear h5
    go_wp2_with fail
    go_ret
    exact ⟨ret_bool hr.out.symm, hb1⟩
  | true =>
    have H5 := hid h5
    have hkn := hid (knownL_iff.1 h5)
    clear h5
    go_wp2_with fail
    refine (way_any _ _ _ _ _ _ _ _ _ m Aq cq q _ hI.out ((hk.below hb1).more hb1.size) ((ho.below hb1).more hb1.size) ((hq.below hb1).more hb1.size) (by omega) hkn.out ⟨by omega, by omega⟩).mono ?_
    rintro e w3 hw
    cases h6 : wayL (nextL W H D kind out) m q with
    | none =>
      have hr := hid (show rightM W H D kind out m q = false by simp [rightM, h6])
      rw [h6] at hw
      obtain ⟨rfl, hB⟩ := hw
      have hb2 := hb1.trans (hB.mono hb1.size)
      clear h6
      go_wp2_with fail
      go_ret
      exact ⟨ret_bool hr.out.symm, hb2⟩
    | some l =>
      have hr := hid (show rightM W H D kind out m q = true by
        rw [rightM_iff]
        exact ⟨⟨by omega, by omega⟩, by have := H3.out; simpa [hm] using this, by omega, H5.out, l, h6⟩)
      rw [h6] at hw
      obtain ⟨A', c', rfl, _, _, _, _, hB⟩ := hw
      have hb2 := hb1.trans (hB.mono hb1.size)
      clear h6
      go_wp2_with fail
      go_ret
      exact ⟨ret_bool hr.out.symm, hb2⟩

set_option maxRecDepth 100000 in
set_option maxHeartbeats 2000000 in
/-- Way of a right mind. -/
theorem wayF_any (W H D : Int) (Ak Ao : Option Addr) (ck co : Nat) (kind out : List Int) (c0 : Int) (Aq : Option Addr) (cq : Nat) (q l : List Int) (w : World) (h : RF W H D kind out) (hk : SlR w w.heap.size Ak kind) (ho : SlR w w.heap.size Ao out) (hq : SlR w w.heap.size Aq q) (hl : q.length ≤ 10) (hkn : ∀ x ∈ q, 0 ≤ x ∧ x < 10) (hc : I64 c0) (hw : wayL (nextL W H D kind out) c0 q = some l) :
    Calls Tryz.prog 42 #[.agg #[.int .i64 W, .int .i64 H, .int .i64 D, .slice Ak kind.length ck, .slice Ao out.length co], .agg #[.int .i64 c0, .slice Aq q.length cq]] w (RetInts w l) := by
  have hI := hid h
  have Hkn := hid hkn
  have Hc := hid hc
  have Hw := hid hw
  clear h hkn hc hw
  have hb0 : Below w.heap.size w ((w.alloc (Obj.cells #[.int .i64 W, .int .i64 H, .int .i64 D, .slice Ak kind.length ck, .slice Ao out.length co] 24)).alloc (Obj.cells #[.int .i64 c0, .slice Aq q.length cq] 48)) := by (repeat (first | exact Below.refl _ _ | assumption | refine below_drewN ?_ _ | refine Below.drew ?_ | refine Below.alloc ?_ (by (try simp); (try omega)) _ | refine Below.setCell ?_ (by (try simp); (try omega)) _))
  go_enter Tryz.func42, Tryz.ntmps42
  go_wp2_with fail
  refine (way_any W H D Ak Ao ck co kind out c0 Aq cq q _ hI.out ((hk.below hb0).more (by simp; omega)) ((ho.below hb0).more (by simp; omega)) ((hq.below hb0).more (by simp; omega)) hl Hkn.out Hc.out).mono ?_
  rintro e w1 hw
  rw [Hw.out] at hw
  obtain ⟨A', c', rfl, h1, h2, h3, hF, hB⟩ := hw
  have hb1 := hb0.trans (hB.mono (by simp; omega))
  go_wp2_with fail
  go_ret
  exact ⟨_, rfl, A', c', rfl, h1, h2, h3, hF.mono hb0.size, hb1⟩

set_option maxRecDepth 100000 in
set_option maxHeartbeats 1000000 in
theorem nextM_any (c0 : Int) (Aq : Option Addr) (cq : Nat) (q : List Int) (w : World) (hql : q.length ≤ maxLen) (hq : SlR w w.heap.size Aq q) :
    Calls Tryz.prog 43 #[.agg #[.int .i64 c0, .slice Aq q.length cq]] w fun e w' => e = .returned (.int .i64 (q.headD 0)) ∧ Below w.heap.size w w' := by
  unfold maxLen at hql
  have hb0 : Below w.heap.size w (w.alloc (Obj.cells #[.int .i64 c0, .slice Aq q.length cq] 48)) := by (repeat (first | exact Below.refl _ _ | assumption | refine below_drewN ?_ _ | refine Below.drew ?_ | refine Below.alloc ?_ (by (try simp); (try omega)) _ | refine Below.setCell ?_ (by (try simp); (try omega)) _))
  cases q with
  | nil =>
    simp only [List.length_nil] at *
    go_enter Tryz.func43, Tryz.ntmps43
    go_wp2_with fail
    go_ret
    exact ⟨rfl, hb0⟩
  | cons x q =>
    obtain ⟨b, off, rfl, hb, g1, _⟩ := (hq.below hb0).int (k := 0) (by simp)
    have e1 : (((q.length + 1 : Nat):Int) == 0) = false := by simp; omega
    have i1 : (0:Int) < (q.length + 1 : Nat) := by omega
    simp only [List.length_cons, List.getElem_cons_zero, Nat.add_zero] at *
    go_enter Tryz.func43, Tryz.ntmps43
    go_wp2_with fail
    go_ret
    exact ⟨rfl, hb0⟩

end Go.Proofs.YtnnephifjikkdaaGreatDoor
