
/- Seam: the reference's Hear (printed by gen_seamrc.py). -/
import Derived.Test.YtfofmbmmighdiaaDoorSeamRb
set_option linter.unusedSimpArgs false
set_option linter.unusedVariables false
namespace Go.Proofs.YtfofmbmmighdiaaDoor
open Go.RowKit Go.IntWalk

/-- What the reference's Hear makes of a desk. -/
def hearR1 (r : Rob) (p : Pas) (take : Bool) : Rob × Pas × Bool × Int :=
  if p.1 = 0 ∧ r.2.1 < p.2.2 then
    (if r.1 = 1 then (r, (0, 0, 0), false, 7) else if take then ((1, p.2.2, false), (1, p.2.1, p.2.2), true, 0) else ((0, p.2.2, true), (2, p.2.1, p.2.2), true, 0))
  else if p.2.2 ≠ r.2.1 then (r, (0, 0, 0), false, 0)
  else if p.1 = 0 ∧ r.1 = 1 then (r, (1, p.2.1, p.2.2), true, 0)
  else if p.1 = 0 ∧ r.1 = 0 ∧ r.2.2 = true then (r, (2, p.2.1, p.2.2), true, 0)
  else if p.1 = 1 ∧ r.1 = 2 then ((0, r.2.1, false), (0, 0, 0), false, 0)
  else if p.1 = 2 ∧ r.1 = 2 then ((1, r.2.1, false), (0, 0, 0), false, 0)
  else (r, (0, 0, 0), false, 0)
def hearR (rs : List Rob) (p : Pas) (take : Bool) : List Rob × Pas × Bool × Int :=
  if p.2.1 < 0 ∨ (rs.length : Int) ≤ p.2.1 ∨ p.1 < 0 ∨ 3 ≤ p.1 then (rs, (0, 0, 0), false, 4) else
  (setR rs p.2.1 (hearR1 (getR rs p.2.1) p take).1, (hearR1 (getR rs p.2.1) p take).2)
def RHearRes (w : World) (base b : Nat) (v : Value) (me : Int) (r : List Rob × Pas × Bool × Int) (e : Ending) (w' : World) : Prop :=
  e = .returned (.tuple #[.agg #[.int .i64 r.2.1.1, .int .i64 r.2.1.2.1, .int .i64 r.2.1.2.2], .bool r.2.2.1, .int .i64 r.2.2.2]) ∧ Dr w' base b v me r.1 ∧ w.grownBy w' v.ownBlock
/-- Nothing of the desk was written. -/
theorem rhear_same {w w' : World} {base b g c : Nat} {me : Int} {rs : List Rob} {r : List Rob × Pas × Bool × Int} {x y z t : Int} {u : Bool} (h : Dr w base b (.slice (some ⟨g, 0, none⟩) rs.length c) me rs) (hb : Below w.heap.size w w') (hr : r = (rs, (x, y, z), u, t)) :
    RHearRes w base b (.slice (some ⟨g, 0, none⟩) rs.length c) me r (.returned (.tuple #[.agg #[.int .i64 x, .int .i64 y, .int .i64 z], .bool u, .int .i64 t])) w' := by
  subst hr; exact ⟨rfl, h.below hb, grown_b0 hb⟩
theorem rhear_set {w w2 w' : World} {base b g c : Nat} {me : Int} {rs rs' : List Rob} {r : List Rob × Pas × Bool × Int} {x y z t : Int} {u : Bool} (hd : Dr w2 base b (.slice (some ⟨g, 0, none⟩) rs.length c) me rs') (hg : w.grownBy w2 (some g)) (hb : Below w2.heap.size w2 w') (hr : r = (rs', (x, y, z), u, t)) :
    RHearRes w base b (.slice (some ⟨g, 0, none⟩) rs.length c) me r (.returned (.tuple #[.agg #[.int .i64 x, .int .i64 y, .int .i64 z], .bool u, .int .i64 t])) w' := by
  subst hr; exact ⟨rfl, hd.below hb, grown_tr hg (grown_b0 hb)⟩
set_option maxRecDepth 100000 in
set_option maxHeartbeats 1000000 in
theorem rhear_none {w : World} {base b : Nat} {v : Value} {me : Int} {rs : List Rob} (h : Dr w base b v me rs) (k i no : Int) (take : Bool) (hi : i < 0 ∨ (rs.length : Int) ≤ i ∨ k < 0 ∨ 3 ≤ k) :
    Calls Tryd.prog 23 #[.pointer (some ⟨b, 0, none⟩), .agg #[.int .i64 k, .int .i64 i, .int .i64 no], .bool take] w (RHearRes w base b v me (hearR rs (k, i, no) take)) := by
  have hr := hid (show hearR rs (k, i, no) take = (rs, (0, 0, 0), false, 4) by rw [hearR]; simp only; rw [if_pos hi])
  have hB0 := hid (show Below w.heap.size w (((w.alloc (Obj.cells #[.int .i64 k, .int .i64 i, .int .i64 no] 27)).alloc (Obj.cells #[.int .i64 0, .int .i64 0, .int .i64 0] 27)).alloc (Obj.cells #[.int .i64 0, .int .i64 0, .int .i64 0] 27)) by (repeat (first | exact Below.refl _ _ | assumption | refine below_drewN ?_ _ | refine Below.drew ?_ | refine Below.alloc ?_ (by (try simp); (try omega)) _ | refine Below.setCell ?_ (by (try simp); (try omega)) _)))
  have h1 := h.below hB0.out
  cases his : isR rs i with
  | false =>
    have His := hid his
    clear his hi
    go_enter Tryd.func23, Tryd.ntmps23
    go_wp2_with fail
    refine (ris_any h1 i).mono ?_
    rw [His.out]
    rintro e w' ⟨rfl, rfl⟩
    go_wp2_with fail
    refine bodyPost_ret (v := .tuple #[.agg #[.int .i64 0, .int .i64 0, .int .i64 0], .bool false, .int .i64 4]) (by simp [results, Tryd.results23, go_sem]) rfl ?_
    rw [hr.out]
    exact ⟨rfl, h.below (by (repeat (first | exact Below.refl _ _ | assumption | refine below_drewN ?_ _ | refine Below.drew ?_ | refine Below.alloc ?_ (by (try simp); (try omega)) _ | refine Below.setCell ?_ (by (try simp); (try omega)) _))), grown_b0 (by (repeat (first | exact Below.refl _ _ | assumption | refine below_drewN ?_ _ | refine Below.drew ?_ | refine Below.alloc ?_ (by (try simp); (try omega)) _ | refine Below.setCell ?_ (by (try simp); (try omega)) _)))⟩
  | true =>
    have His := hid his
    have hk : k < 0 ∨ 3 ≤ k := by
      simp [isR] at his
      omega
    clear his hi
    rcases hk with hk | hk
    · go_enter Tryd.func23, Tryd.ntmps23
      go_wp2_with fail
      refine (ris_any h1 i).mono ?_
      rw [His.out]
      rintro e w' ⟨rfl, rfl⟩
      go_wp2_with fail
      refine bodyPost_ret (v := .tuple #[.agg #[.int .i64 0, .int .i64 0, .int .i64 0], .bool false, .int .i64 4]) (by simp [results, Tryd.results23, go_sem]) rfl ?_
      rw [hr.out]
      exact ⟨rfl, h.below (by (repeat (first | exact Below.refl _ _ | assumption | refine below_drewN ?_ _ | refine Below.drew ?_ | refine Below.alloc ?_ (by (try simp); (try omega)) _ | refine Below.setCell ?_ (by (try simp); (try omega)) _))), grown_b0 (by (repeat (first | exact Below.refl _ _ | assumption | refine below_drewN ?_ _ | refine Below.drew ?_ | refine Below.alloc ?_ (by (try simp); (try omega)) _ | refine Below.setCell ?_ (by (try simp); (try omega)) _)))⟩
    · go_enter Tryd.func23, Tryd.ntmps23
      go_wp2_with fail
      refine (ris_any h1 i).mono ?_
      rw [His.out]
      rintro e w' ⟨rfl, rfl⟩
      go_wp2_with fail
      refine bodyPost_ret (v := .tuple #[.agg #[.int .i64 0, .int .i64 0, .int .i64 0], .bool false, .int .i64 4]) (by simp [results, Tryd.results23, go_sem]) rfl ?_
      rw [hr.out]
      exact ⟨rfl, h.below (by (repeat (first | exact Below.refl _ _ | assumption | refine below_drewN ?_ _ | refine Below.drew ?_ | refine Below.alloc ?_ (by (try simp); (try omega)) _ | refine Below.setCell ?_ (by (try simp); (try omega)) _))), grown_b0 (by (repeat (first | exact Below.refl _ _ | assumption | refine below_drewN ?_ _ | refine Below.drew ?_ | refine Below.alloc ?_ (by (try simp); (try omega)) _ | refine Below.setCell ?_ (by (try simp); (try omega)) _)))⟩
end Go.Proofs.YtfofmbmmighdiaaDoor
