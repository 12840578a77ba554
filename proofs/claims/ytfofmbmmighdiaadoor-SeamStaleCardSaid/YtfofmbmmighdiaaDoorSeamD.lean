
/- Seam: Hear. -/
import Derived.Test.YtfofmbmmighdiaaDoorSeamC
set_option linter.unusedSimpArgs false
set_option linter.unusedVariables false
namespace Go.Proofs.YtfofmbmmighdiaaDoor
open Go.RowKit Go.IntWalk

def hearL (rs : List Rob) (p : Pas) (take : Bool) : List Rob × Pas × Bool × Int :=
  if p.2.1 < 0 ∨ (rs.length : Int) ≤ p.2.1 then (rs, (0, 0, 0), false, 4) else
  if p.1 = 0 then (setR rs p.2.1 (offeredL (getR rs p.2.1) p.2.2 take).1, if (offeredL (getR rs p.2.1) p.2.2 take).2.1 < 0 then (0, 0, 0) else ((offeredL (getR rs p.2.1) p.2.2 take).2.1, p.2.1, p.2.2), decide (0 ≤ (offeredL (getR rs p.2.1) p.2.2 take).2.1), (offeredL (getR rs p.2.1) p.2.2 take).2.2) else
  if p.1 = 1 then (setR rs p.2.1 (takenL (getR rs p.2.1) p.2.2), (0, 0, 0), false, 0) else
  if p.1 = 2 then (setR rs p.2.1 (keptL (getR rs p.2.1) p.2.2), (0, 0, 0), false, 0) else (rs, (0, 0, 0), false, 4)
def HearRes (w : World) (base b : Nat) (v : Value) (me : Int) (r : List Rob × Pas × Bool × Int) (e : Ending) (w' : World) : Prop :=
  e = .returned (.tuple #[.agg #[.int .i64 r.2.1.1, .int .i64 r.2.1.2.1, .int .i64 r.2.1.2.2], .bool r.2.2.1, .int .i64 r.2.2.2]) ∧ Dk w' base b v me r.1 ∧ w.grownBy w' v.ownBlock
theorem offeredL_ans (r : Rob) (no : Int) (take : Bool) : (offeredL r no take).2.1 = -1 ∨ (offeredL r no take).2.1 = 1 ∨ (offeredL r no take).2.1 = 2 := by
  unfold offeredL
  split
  · simp
  · split
    · split
      · simp
      · split <;> simp
    · split
      · simp
      · split <;> simp
theorem hear_end {w w0 w1 : World} {base b g c : Nat} {me : Int} {rs rs' : List Rob} {r : List Rob × Pas × Bool × Int} {x y z : Value} {e : Ending}
    (h : Dk w1 base b (.slice (some ⟨g, 0, none⟩) rs.length c) me rs') (h0 : w.grownBy w1 (some g)) (hg : g < w.heap.size) (hb : b < w.heap.size) (hr : r.1 = rs')
    (he : e = .returned (.tuple #[.agg #[.int .i64 r.2.1.1, .int .i64 r.2.1.2.1, .int .i64 r.2.1.2.2], .bool r.2.2.1, .int .i64 r.2.2.2])) :
    HearRes w base b (.slice (some ⟨g, 0, none⟩) rs.length c) me r e (((w1.setCell ⟨w.heap.size + 1, 0, none⟩ x).setCell ⟨w.heap.size + 1, 1, none⟩ y).setCell ⟨w.heap.size + 1, 2, none⟩ z) := by
  subst hr
  have gs := grown_tr (grown_tr (grown_s w1 (w.heap.size + 1) 0 x) (grown_s _ (w.heap.size + 1) 1 y)) (grown_s _ (w.heap.size + 1) 2 z)
  refine ⟨he, h.grown gs (.inr ?_) ?_, grown_fr h0 gs (fun j e => by injection e with e; omega)⟩
  · simp [Value.ownBlock]; omega
  · intro e; injection e with e; omega
set_option maxRecDepth 100000 in
set_option maxHeartbeats 1000000 in
theorem hear_none {w : World} {base b : Nat} {v : Value} {me : Int} {rs : List Rob} (h : Dk w base b v me rs) (k i no : Int) (take : Bool) (hi : i < 0 ∨ (rs.length : Int) ≤ i) :
    Calls Tryd.prog 22 #[.pointer (some ⟨b, 0, none⟩), .agg #[.int .i64 k, .int .i64 i, .int .i64 no], .bool take] w (HearRes w base b v me (hearL rs (k, i, no) take)) := by
  have hr := hid (show hearL rs (k, i, no) take = (rs, (0, 0, 0), false, 4) by rw [hearL, if_pos hi])
  have hB := hid (show Below w.heap.size w ((w.alloc (Obj.cells #[.int .i64 k, .int .i64 i, .int .i64 no] 27)).alloc (Obj.cells #[.int .i64 0, .int .i64 0, .int .i64 0] 27)) by (repeat (first | exact Below.refl _ _ | assumption | refine below_drewN ?_ _ | refine Below.drew ?_ | refine Below.alloc ?_ (by (try simp); (try omega)) _ | refine Below.setCell ?_ (by (try simp); (try omega)) _)))
  have h1 := h.below hB.out
  go_enter Tryd.func22, Tryd.ntmps22
  go_wp2_with fail
  refine (find_no h1 i hi).mono ?_
  clear hi
  rintro e w' ⟨rfl, rfl⟩
  go_wp2_with fail
  refine bodyPost_ret (v := .tuple #[.agg #[.int .i64 0, .int .i64 0, .int .i64 0], .bool false, .int .i64 4]) (by simp [results, Tryd.results22, go_sem]) rfl ?_
  rw [hr.out]
  exact ⟨rfl, h1, grown_b0 hB.out⟩
set_option maxRecDepth 100000 in
set_option maxHeartbeats 2000000 in
theorem hear_offer {w : World} {base b g c : Nat} {me : Int} {rs : List Rob} (h : Dk w base b (.slice (some ⟨g, 0, none⟩) rs.length c) me rs) (i : Nat) (hi : i < rs.length) (no : Int) (take : Bool)  :
    Calls Tryd.prog 22 #[.pointer (some ⟨b, 0, none⟩), .agg #[.int .i64 0, .int .i64 (i : Int), .int .i64 no], .bool take] w (HearRes w base b (.slice (some ⟨g, 0, none⟩) rs.length c) me (hearL rs (0, (i : Int), no) take)) := by
  have hout : ¬ ((i : Int) < 0 ∨ (rs.length : Int) ≤ i) := by omega
  have hr := hid (show hearL rs (0, (i : Int), no) take = (rs.set i (offeredL rs[i] no take).1, if (offeredL rs[i] no take).2.1 < 0 then (0, 0, 0) else ((offeredL rs[i] no take).2.1, (i : Int), no), decide (0 ≤ (offeredL rs[i] no take).2.1), (offeredL rs[i] no take).2.2) by
    rw [hearL, if_neg hout, if_pos rfl, getR_yes hi, setR_nat])
  clear hout
  have hB := hid (show Below w.heap.size w ((w.alloc (Obj.cells #[.int .i64 0, .int .i64 (i : Int), .int .i64 no] 27)).alloc (Obj.cells #[.int .i64 0, .int .i64 0, .int .i64 0] 27)) by (repeat (first | exact Below.refl _ _ | assumption | refine below_drewN ?_ _ | refine Below.drew ?_ | refine Below.alloc ?_ (by (try simp); (try omega)) _ | refine Below.setCell ?_ (by (try simp); (try omega)) _)))
  have bp := hid ((Blk.new w 27 #[.int .i64 0, .int .i64 (i : Int), .int .i64 no]).alloc (Obj.cells #[.int .i64 0, .int .i64 0, .int .i64 0] 27))
  have bz := hid (show Blk ((w.alloc (Obj.cells #[.int .i64 0, .int .i64 (i : Int), .int .i64 no] 27)).alloc (Obj.cells #[.int .i64 0, .int .i64 0, .int .i64 0] 27)) (w.heap.size + 1) 27 #[.int .i64 0, .int .i64 0, .int .i64 0] from Blk.new_at (by simp))
  have h1 := h.below hB.out
  have hgw := (h.gne (by omega)).2.2
  have hbw := h.d.lt
  go_enter Tryd.func22, Tryd.ntmps22
  go_wp2_with fail
  refine (find_yes h1 i hi).mono ?_
  rintro e w' ⟨rfl, rfl⟩
  go_wp2_with fail
  refine (offered_any h1 i hi no take).mono ?_
  have hans := hid (offeredL_ans rs[i] no take)
  generalize offeredL rs[i] no take = x at *
  obtain ⟨x1, x2, x3⟩ := x
  simp only at hans hr
  rintro e w1 ⟨rfl, H1, g1⟩
  have gA := hid (grown_tr (grown_b0 (r := some g) hB.out) g1)
  have bz1 := bz.out.grown g1 (fun e => by injection e with e; omega)
  have bp1 := bp.out.grown g1 (fun e => by injection e with e; omega)
  have r0 := bz1.cell 0; have r1 := bz1.cell 1; have r2 := bz1.cell 2
  have q0 := bz1.frozen 0; have q1 := bz1.frozen 1; have q2 := bz1.frozen 2
  have p0 := bp1.cell 0; have p1 := bp1.cell 1; have p2 := bp1.cell 2
  have lz := bz1.lt
  simp at r0 r1 r2 p0 p1 p2
  have HH := hid H1
  clear bz1 bp1 H1 g1 bz bp hB h1
  rcases hans.out with hx | hx | hx
  · subst hx
    go_wp2_with fail
    refine bodyPost_ret (v := .tuple #[.agg #[.int .i64 0, .int .i64 0, .int .i64 0], .bool false, .int .i64 x3]) (by simp [results, Tryd.results22, go_sem, r0, r1, r2, q0, q1, q2, lz]) rfl ?_
    rw [hr.out]
    exact hear_end (w0 := w) HH.out gA.out hgw hbw rfl rfl
  · subst hx
    go_wp2_with fail
    refine bodyPost_ret (v := .tuple #[.agg #[.int .i64 1, .int .i64 i, .int .i64 no], .bool true, .int .i64 x3]) (by simp [results, Tryd.results22, go_sem, r0, r1, r2, q0, q1, q2, lz]) rfl ?_
    rw [hr.out]
    exact hear_end (w0 := w) HH.out gA.out hgw hbw rfl rfl
  · subst hx
    go_wp2_with fail
    refine bodyPost_ret (v := .tuple #[.agg #[.int .i64 2, .int .i64 i, .int .i64 no], .bool true, .int .i64 x3]) (by simp [results, Tryd.results22, go_sem, r0, r1, r2, q0, q1, q2, lz]) rfl ?_
    rw [hr.out]
    exact hear_end (w0 := w) HH.out gA.out hgw hbw rfl rfl
set_option maxRecDepth 100000 in
set_option maxHeartbeats 2000000 in
theorem hear_take {w : World} {base b g c : Nat} {me : Int} {rs : List Rob} (h : Dk w base b (.slice (some ⟨g, 0, none⟩) rs.length c) me rs) (i : Nat) (hi : i < rs.length) (no : Int) (take : Bool)  :
    Calls Tryd.prog 22 #[.pointer (some ⟨b, 0, none⟩), .agg #[.int .i64 1, .int .i64 (i : Int), .int .i64 no], .bool take] w (HearRes w base b (.slice (some ⟨g, 0, none⟩) rs.length c) me (hearL rs (1, (i : Int), no) take)) := by
  have hout : ¬ ((i : Int) < 0 ∨ (rs.length : Int) ≤ i) := by omega
  have hr := hid (show hearL rs (1, (i : Int), no) take = (rs.set i (takenL rs[i] no), (0, 0, 0), false, 0) by
    rw [hearL, if_neg hout]; simp [getR_yes hi, setR_nat])
  clear hout
  have hB := hid (show Below w.heap.size w ((w.alloc (Obj.cells #[.int .i64 1, .int .i64 (i : Int), .int .i64 no] 27)).alloc (Obj.cells #[.int .i64 0, .int .i64 0, .int .i64 0] 27)) by (repeat (first | exact Below.refl _ _ | assumption | refine below_drewN ?_ _ | refine Below.drew ?_ | refine Below.alloc ?_ (by (try simp); (try omega)) _ | refine Below.setCell ?_ (by (try simp); (try omega)) _)))
  have bp := hid ((Blk.new w 27 #[.int .i64 1, .int .i64 (i : Int), .int .i64 no]).alloc (Obj.cells #[.int .i64 0, .int .i64 0, .int .i64 0] 27))
  have bz := hid (show Blk ((w.alloc (Obj.cells #[.int .i64 1, .int .i64 (i : Int), .int .i64 no] 27)).alloc (Obj.cells #[.int .i64 0, .int .i64 0, .int .i64 0] 27)) (w.heap.size + 1) 27 #[.int .i64 0, .int .i64 0, .int .i64 0] from Blk.new_at (by simp))
  have h1 := h.below hB.out
  have hgw := (h.gne (by omega)).2.2
  have hbw := h.d.lt
  go_enter Tryd.func22, Tryd.ntmps22
  go_wp2_with fail
  refine (find_yes h1 i hi).mono ?_
  rintro e w' ⟨rfl, rfl⟩
  go_wp2_with fail
  refine (taken_any h1 i hi no take).mono ?_
  generalize takenL rs[i] no = x at *
  rintro e w1 ⟨rfl, H1, g1⟩
  have gA := hid (grown_tr (grown_b0 (r := some g) hB.out) g1)
  have bz1 := bz.out.grown g1 (fun e => by injection e with e; omega)
  have bp1 := bp.out.grown g1 (fun e => by injection e with e; omega)
  have r0 := bz1.cell 0; have r1 := bz1.cell 1; have r2 := bz1.cell 2
  have q0 := bz1.frozen 0; have q1 := bz1.frozen 1; have q2 := bz1.frozen 2
  have p0 := bp1.cell 0; have p1 := bp1.cell 1; have p2 := bp1.cell 2
  have lz := bz1.lt
  simp at r0 r1 r2 p0 p1 p2
  have HH := hid H1
  clear bz1 bp1 H1 g1 bz bp hB h1
  go_wp2_with fail
  refine bodyPost_ret (v := .tuple #[.agg #[.int .i64 0, .int .i64 0, .int .i64 0], .bool false, .int .i64 0]) (by simp [results, Tryd.results22, go_sem, r0, r1, r2, q0, q1, q2, lz]) rfl ?_
  rw [hr.out]
  exact hear_end (w0 := w) HH.out gA.out hgw hbw rfl rfl
set_option maxRecDepth 100000 in
set_option maxHeartbeats 2000000 in
theorem hear_no {w : World} {base b g c : Nat} {me : Int} {rs : List Rob} (h : Dk w base b (.slice (some ⟨g, 0, none⟩) rs.length c) me rs) (i : Nat) (hi : i < rs.length) (no : Int) (take : Bool)  :
    Calls Tryd.prog 22 #[.pointer (some ⟨b, 0, none⟩), .agg #[.int .i64 2, .int .i64 (i : Int), .int .i64 no], .bool take] w (HearRes w base b (.slice (some ⟨g, 0, none⟩) rs.length c) me (hearL rs (2, (i : Int), no) take)) := by
  have hout : ¬ ((i : Int) < 0 ∨ (rs.length : Int) ≤ i) := by omega
  have hr := hid (show hearL rs (2, (i : Int), no) take = (rs.set i (keptL rs[i] no), (0, 0, 0), false, 0) by
    rw [hearL, if_neg hout]; simp [getR_yes hi, setR_nat])
  clear hout
  have hB := hid (show Below w.heap.size w ((w.alloc (Obj.cells #[.int .i64 2, .int .i64 (i : Int), .int .i64 no] 27)).alloc (Obj.cells #[.int .i64 0, .int .i64 0, .int .i64 0] 27)) by (repeat (first | exact Below.refl _ _ | assumption | refine below_drewN ?_ _ | refine Below.drew ?_ | refine Below.alloc ?_ (by (try simp); (try omega)) _ | refine Below.setCell ?_ (by (try simp); (try omega)) _)))
  have bp := hid ((Blk.new w 27 #[.int .i64 2, .int .i64 (i : Int), .int .i64 no]).alloc (Obj.cells #[.int .i64 0, .int .i64 0, .int .i64 0] 27))
  have bz := hid (show Blk ((w.alloc (Obj.cells #[.int .i64 2, .int .i64 (i : Int), .int .i64 no] 27)).alloc (Obj.cells #[.int .i64 0, .int .i64 0, .int .i64 0] 27)) (w.heap.size + 1) 27 #[.int .i64 0, .int .i64 0, .int .i64 0] from Blk.new_at (by simp))
  have h1 := h.below hB.out
  have hgw := (h.gne (by omega)).2.2
  have hbw := h.d.lt
  go_enter Tryd.func22, Tryd.ntmps22
  go_wp2_with fail
  refine (find_yes h1 i hi).mono ?_
  rintro e w' ⟨rfl, rfl⟩
  go_wp2_with fail
  refine (kept_any h1 i hi no take).mono ?_
  generalize keptL rs[i] no = x at *
  rintro e w1 ⟨rfl, H1, g1⟩
  have gA := hid (grown_tr (grown_b0 (r := some g) hB.out) g1)
  have bz1 := bz.out.grown g1 (fun e => by injection e with e; omega)
  have bp1 := bp.out.grown g1 (fun e => by injection e with e; omega)
  have r0 := bz1.cell 0; have r1 := bz1.cell 1; have r2 := bz1.cell 2
  have q0 := bz1.frozen 0; have q1 := bz1.frozen 1; have q2 := bz1.frozen 2
  have p0 := bp1.cell 0; have p1 := bp1.cell 1; have p2 := bp1.cell 2
  have lz := bz1.lt
  simp at r0 r1 r2 p0 p1 p2
  have HH := hid H1
  clear bz1 bp1 H1 g1 bz bp hB h1
  go_wp2_with fail
  refine bodyPost_ret (v := .tuple #[.agg #[.int .i64 0, .int .i64 0, .int .i64 0], .bool false, .int .i64 0]) (by simp [results, Tryd.results22, go_sem, r0, r1, r2, q0, q1, q2, lz]) rfl ?_
  rw [hr.out]
  exact hear_end (w0 := w) HH.out gA.out hgw hbw rfl rfl
set_option maxRecDepth 100000 in
set_option maxHeartbeats 2000000 in
theorem hear_other {w : World} {base b g c : Nat} {me : Int} {rs : List Rob} (h : Dk w base b (.slice (some ⟨g, 0, none⟩) rs.length c) me rs) (i : Nat) (hi : i < rs.length) (k : Int) (no : Int) (take : Bool) (hk : k ≠ 0 ∧ k ≠ 1 ∧ k ≠ 2) :
    Calls Tryd.prog 22 #[.pointer (some ⟨b, 0, none⟩), .agg #[.int .i64 k, .int .i64 (i : Int), .int .i64 no], .bool take] w (HearRes w base b (.slice (some ⟨g, 0, none⟩) rs.length c) me (hearL rs (k, (i : Int), no) take)) := by
  have hout : ¬ ((i : Int) < 0 ∨ (rs.length : Int) ≤ i) := by omega
  have hr := hid (show hearL rs (k, (i : Int), no) take = (rs, (0, 0, 0), false, 4) by
    rw [hearL, if_neg hout]; simp [hk.1, hk.2.1, hk.2.2])
  have k0 : (k == 0) = false := by simpa using hk.1
  have k1 : (k == 1) = false := by simpa using hk.2.1
  have k2 : (k == 2) = false := by simpa using hk.2.2
  clear hk
  clear hout
  have hB := hid (show Below w.heap.size w ((w.alloc (Obj.cells #[.int .i64 k, .int .i64 (i : Int), .int .i64 no] 27)).alloc (Obj.cells #[.int .i64 0, .int .i64 0, .int .i64 0] 27)) by (repeat (first | exact Below.refl _ _ | assumption | refine below_drewN ?_ _ | refine Below.drew ?_ | refine Below.alloc ?_ (by (try simp); (try omega)) _ | refine Below.setCell ?_ (by (try simp); (try omega)) _)))
  have bp := hid ((Blk.new w 27 #[.int .i64 k, .int .i64 (i : Int), .int .i64 no]).alloc (Obj.cells #[.int .i64 0, .int .i64 0, .int .i64 0] 27))
  have bz := hid (show Blk ((w.alloc (Obj.cells #[.int .i64 k, .int .i64 (i : Int), .int .i64 no] 27)).alloc (Obj.cells #[.int .i64 0, .int .i64 0, .int .i64 0] 27)) (w.heap.size + 1) 27 #[.int .i64 0, .int .i64 0, .int .i64 0] from Blk.new_at (by simp))
  have h1 := h.below hB.out
  have hgw := (h.gne (by omega)).2.2
  have hbw := h.d.lt
  go_enter Tryd.func22, Tryd.ntmps22
  go_wp2_with fail
  refine (find_yes h1 i hi).mono ?_
  rintro e w' ⟨rfl, rfl⟩
  go_wp2_with fail
  refine bodyPost_ret (v := .tuple #[.agg #[.int .i64 0, .int .i64 0, .int .i64 0], .bool false, .int .i64 4]) (by simp [results, Tryd.results22, go_sem]) rfl ?_
  rw [hr.out]
  exact ⟨rfl, h1, grown_b0 hB.out⟩
theorem hear_any {w : World} {base b : Nat} {v : Value} {me : Int} {rs : List Rob} (h : Dk w base b v me rs) (k i no : Int) (take : Bool) :
    Calls Tryd.prog 22 #[.pointer (some ⟨b, 0, none⟩), .agg #[.int .i64 k, .int .i64 i, .int .i64 no], .bool take] w (HearRes w base b v me (hearL rs (k, i, no) take)) := by
  by_cases hi : i < 0 ∨ (rs.length : Int) ≤ i
  · exact hear_none h k i no take hi
  · obtain ⟨n, rfl⟩ : ∃ n : Nat, i = n := ⟨i.toNat, by omega⟩
    have hn : n < rs.length := by omega
    obtain ⟨A, c, rfl, _, _, hg⟩ := h.row
    obtain ⟨g, rfl, _, _, _⟩ := hg (by intro hh; simp [hh] at hn)
    by_cases h0 : k = 0
    · subst h0; exact hear_offer h n hn no take
    by_cases h1 : k = 1
    · subst h1; exact hear_take h n hn no take
    by_cases h2 : k = 2
    · subst h2; exact hear_no h n hn no take
    exact hear_other h n hn k no take ⟨h0, h1, h2⟩
end Go.Proofs.YtfofmbmmighdiaaDoor
