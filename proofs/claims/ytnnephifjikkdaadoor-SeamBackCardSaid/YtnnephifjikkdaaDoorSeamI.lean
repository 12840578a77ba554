
/- Seam: the law's 'do'. -/
import Derived.Test.YtnnephifjikkdaaDoorSeamD
set_option linter.unusedSimpArgs false
set_option linter.unusedVariables false
namespace Go.Proofs.YtnnephifjikkdaaDoor
open Go.RowKit Go.IntWalk

/-- A call of a desk: what it does, the pass, whether it is taken. -/
abbrev Opp := Int × Pas × Bool
def opK (d : Int) : Int := bits .and .i64 d 7
def doL (rs : List Rob) (o : Opp) : List Rob :=
  if opK o.1 = 0 ∨ opK o.1 = 1 then (offerL rs o.2.1.2.1).1 else
  if opK o.1 = 5 ∨ opK o.1 = 6 ∨ opK o.1 = 7 then (hearL rs o.2.1 o.2.2).1 else rs
def DoRes (w : World) (base b : Nat) (v : Value) (me : Int) (rs : List Rob) (e : Ending) (w' : World) : Prop :=
  e = .returned (.tuple #[]) ∧ Dk w' base b v me rs ∧ w.grownBy w' v.ownBlock

set_option maxRecDepth 100000 in
set_option maxHeartbeats 1000000 in
theorem do_0 {w : World} {base b : Nat} {v : Value} {me : Int} {rs : List Rob} (h : Dk w base b v me rs) (d k i n : Int) (take : Bool) (hno : ∀ r ∈ rs, -4611686018427387904 ≤ r.2.1 ∧ r.2.1 ≤ 4611686018427387904) (hx : opK d = 0) :
    Calls Tryd.prog 26 #[.pointer (some ⟨b, 0, none⟩), .agg #[.int .i64 d, .int .i64 k, .int .i64 i, .int .i64 n, .bool take]] w (DoRes w base b v me (doL rs (d, (k, i, n), take))) := by
  have hr := hid (show doL rs (d, (k, i, n), take) = (offerL rs i).1 by rw [doL]; simp [hx])
  have hB := hid (show Below w.heap.size w (w.alloc (Obj.cells #[.int .i64 d, .int .i64 k, .int .i64 i, .int .i64 n, .bool take] 53)) by (repeat (first | exact Below.refl _ _ | assumption | refine below_drewN ?_ _ | refine Below.drew ?_ | refine Below.alloc ?_ (by (try simp); (try omega)) _ | refine Below.setCell ?_ (by (try simp); (try omega)) _)))
  have h1 := h.below hB.out
  have e9 : bits .and .i64 d 7 = 0 := hx
  clear hx
  go_enter Tryd.func26, Tryd.ntmps26
  go_wp2_with fail
  refine (offer_any h1 i hno).mono ?_
  rintro e w1 ⟨rfl, H1, g1⟩
  go_wp2_with fail
  go_end0
  rw [hr.out]
  exact ⟨rfl, H1, grown_tr (grown_b0 hB.out) g1⟩
set_option maxRecDepth 100000 in
set_option maxHeartbeats 1000000 in
theorem do_1 {w : World} {base b : Nat} {v : Value} {me : Int} {rs : List Rob} (h : Dk w base b v me rs) (d k i n : Int) (take : Bool) (hno : ∀ r ∈ rs, -4611686018427387904 ≤ r.2.1 ∧ r.2.1 ≤ 4611686018427387904) (hx : opK d = 1) :
    Calls Tryd.prog 26 #[.pointer (some ⟨b, 0, none⟩), .agg #[.int .i64 d, .int .i64 k, .int .i64 i, .int .i64 n, .bool take]] w (DoRes w base b v me (doL rs (d, (k, i, n), take))) := by
  have hr := hid (show doL rs (d, (k, i, n), take) = (offerL rs i).1 by rw [doL]; simp [hx])
  have hB := hid (show Below w.heap.size w (w.alloc (Obj.cells #[.int .i64 d, .int .i64 k, .int .i64 i, .int .i64 n, .bool take] 53)) by (repeat (first | exact Below.refl _ _ | assumption | refine below_drewN ?_ _ | refine Below.drew ?_ | refine Below.alloc ?_ (by (try simp); (try omega)) _ | refine Below.setCell ?_ (by (try simp); (try omega)) _)))
  have h1 := h.below hB.out
  have e9 : bits .and .i64 d 7 = 1 := hx
  clear hx
  go_enter Tryd.func26, Tryd.ntmps26
  go_wp2_with fail
  refine (offer_any h1 i hno).mono ?_
  rintro e w1 ⟨rfl, H1, g1⟩
  go_wp2_with fail
  go_end0
  rw [hr.out]
  exact ⟨rfl, H1, grown_tr (grown_b0 hB.out) g1⟩
set_option maxRecDepth 100000 in
set_option maxHeartbeats 1000000 in
theorem do_2 {w : World} {base b : Nat} {v : Value} {me : Int} {rs : List Rob} (h : Dk w base b v me rs) (d k i n : Int) (take : Bool) (hno : ∀ r ∈ rs, -4611686018427387904 ≤ r.2.1 ∧ r.2.1 ≤ 4611686018427387904) (hx : opK d = 2) :
    Calls Tryd.prog 26 #[.pointer (some ⟨b, 0, none⟩), .agg #[.int .i64 d, .int .i64 k, .int .i64 i, .int .i64 n, .bool take]] w (DoRes w base b v me (doL rs (d, (k, i, n), take))) := by
  have hr := hid (show doL rs (d, (k, i, n), take) = rs by rw [doL]; simp [hx])
  have hB := hid (show Below w.heap.size w (w.alloc (Obj.cells #[.int .i64 d, .int .i64 k, .int .i64 i, .int .i64 n, .bool take] 53)) by (repeat (first | exact Below.refl _ _ | assumption | refine below_drewN ?_ _ | refine Below.drew ?_ | refine Below.alloc ?_ (by (try simp); (try omega)) _ | refine Below.setCell ?_ (by (try simp); (try omega)) _)))
  have h1 := h.below hB.out
  have e9 : bits .and .i64 d 7 = 2 := hx
  clear hx
  go_enter Tryd.func26, Tryd.ntmps26
  go_wp2_with fail
  refine (again_any h1 i).mono ?_
  rintro e w1 ⟨rfl, hB1⟩
  go_wp2_with fail
  go_end0
  rw [hr.out]
  exact ⟨rfl, h1.below hB1, grown_tr (grown_b0 hB.out) (grown_b0 hB1)⟩
set_option maxRecDepth 100000 in
set_option maxHeartbeats 1000000 in
theorem do_5 {w : World} {base b : Nat} {v : Value} {me : Int} {rs : List Rob} (h : Dk w base b v me rs) (d k i n : Int) (take : Bool) (hno : ∀ r ∈ rs, -4611686018427387904 ≤ r.2.1 ∧ r.2.1 ≤ 4611686018427387904) (hx : opK d = 5) :
    Calls Tryd.prog 26 #[.pointer (some ⟨b, 0, none⟩), .agg #[.int .i64 d, .int .i64 k, .int .i64 i, .int .i64 n, .bool take]] w (DoRes w base b v me (doL rs (d, (k, i, n), take))) := by
  have hr := hid (show doL rs (d, (k, i, n), take) = (hearL rs (k, i, n) take).1 by rw [doL]; simp [hx])
  have hB := hid (show Below w.heap.size w (w.alloc (Obj.cells #[.int .i64 d, .int .i64 k, .int .i64 i, .int .i64 n, .bool take] 53)) by (repeat (first | exact Below.refl _ _ | assumption | refine below_drewN ?_ _ | refine Below.drew ?_ | refine Below.alloc ?_ (by (try simp); (try omega)) _ | refine Below.setCell ?_ (by (try simp); (try omega)) _)))
  have h1 := h.below hB.out
  have e9 : bits .and .i64 d 7 = 5 := hx
  clear hx
  go_enter Tryd.func26, Tryd.ntmps26
  go_wp2_with fail
  refine (hear_any h1 k i n take).mono ?_
  rintro e w1 ⟨rfl, H1, g1⟩
  go_wp2_with fail
  go_end0
  rw [hr.out]
  exact ⟨rfl, H1, grown_tr (grown_b0 hB.out) g1⟩
set_option maxRecDepth 100000 in
set_option maxHeartbeats 1000000 in
theorem do_6 {w : World} {base b : Nat} {v : Value} {me : Int} {rs : List Rob} (h : Dk w base b v me rs) (d k i n : Int) (take : Bool) (hno : ∀ r ∈ rs, -4611686018427387904 ≤ r.2.1 ∧ r.2.1 ≤ 4611686018427387904) (hx : opK d = 6) :
    Calls Tryd.prog 26 #[.pointer (some ⟨b, 0, none⟩), .agg #[.int .i64 d, .int .i64 k, .int .i64 i, .int .i64 n, .bool take]] w (DoRes w base b v me (doL rs (d, (k, i, n), take))) := by
  have hr := hid (show doL rs (d, (k, i, n), take) = (hearL rs (k, i, n) take).1 by rw [doL]; simp [hx])
  have hB := hid (show Below w.heap.size w (w.alloc (Obj.cells #[.int .i64 d, .int .i64 k, .int .i64 i, .int .i64 n, .bool take] 53)) by (repeat (first | exact Below.refl _ _ | assumption | refine below_drewN ?_ _ | refine Below.drew ?_ | refine Below.alloc ?_ (by (try simp); (try omega)) _ | refine Below.setCell ?_ (by (try simp); (try omega)) _)))
  have h1 := h.below hB.out
  have e9 : bits .and .i64 d 7 = 6 := hx
  clear hx
  go_enter Tryd.func26, Tryd.ntmps26
  go_wp2_with fail
  refine (hear_any h1 k i n take).mono ?_
  rintro e w1 ⟨rfl, H1, g1⟩
  go_wp2_with fail
  go_end0
  rw [hr.out]
  exact ⟨rfl, H1, grown_tr (grown_b0 hB.out) g1⟩
set_option maxRecDepth 100000 in
set_option maxHeartbeats 1000000 in
theorem do_7 {w : World} {base b : Nat} {v : Value} {me : Int} {rs : List Rob} (h : Dk w base b v me rs) (d k i n : Int) (take : Bool) (hno : ∀ r ∈ rs, -4611686018427387904 ≤ r.2.1 ∧ r.2.1 ≤ 4611686018427387904) (hx : opK d = 7) :
    Calls Tryd.prog 26 #[.pointer (some ⟨b, 0, none⟩), .agg #[.int .i64 d, .int .i64 k, .int .i64 i, .int .i64 n, .bool take]] w (DoRes w base b v me (doL rs (d, (k, i, n), take))) := by
  have hr := hid (show doL rs (d, (k, i, n), take) = (hearL rs (k, i, n) take).1 by rw [doL]; simp [hx])
  have hB := hid (show Below w.heap.size w (w.alloc (Obj.cells #[.int .i64 d, .int .i64 k, .int .i64 i, .int .i64 n, .bool take] 53)) by (repeat (first | exact Below.refl _ _ | assumption | refine below_drewN ?_ _ | refine Below.drew ?_ | refine Below.alloc ?_ (by (try simp); (try omega)) _ | refine Below.setCell ?_ (by (try simp); (try omega)) _)))
  have h1 := h.below hB.out
  have e9 : bits .and .i64 d 7 = 7 := hx
  clear hx
  go_enter Tryd.func26, Tryd.ntmps26
  go_wp2_with fail
  refine (hear_any h1 k i n take).mono ?_
  rintro e w1 ⟨rfl, H1, g1⟩
  go_wp2_with fail
  go_end0
  rw [hr.out]
  exact ⟨rfl, H1, grown_tr (grown_b0 hB.out) g1⟩
set_option maxRecDepth 100000 in
set_option maxHeartbeats 1000000 in
theorem do_x {w : World} {base b : Nat} {v : Value} {me : Int} {rs : List Rob} (h : Dk w base b v me rs) (d k i n : Int) (take : Bool) (hno : ∀ r ∈ rs, -4611686018427387904 ≤ r.2.1 ∧ r.2.1 ≤ 4611686018427387904) (hx : opK d ≠ 0 ∧ opK d ≠ 1 ∧ opK d ≠ 2 ∧ opK d ≠ 5 ∧ opK d ≠ 6 ∧ opK d ≠ 7) :
    Calls Tryd.prog 26 #[.pointer (some ⟨b, 0, none⟩), .agg #[.int .i64 d, .int .i64 k, .int .i64 i, .int .i64 n, .bool take]] w (DoRes w base b v me (doL rs (d, (k, i, n), take))) := by
  have hr := hid (show doL rs (d, (k, i, n), take) = rs by rw [doL]; simp [hx.1, hx.2.1, hx.2.2.2.1, hx.2.2.2.2.1, hx.2.2.2.2.2])
  have hB := hid (show Below w.heap.size w (w.alloc (Obj.cells #[.int .i64 d, .int .i64 k, .int .i64 i, .int .i64 n, .bool take] 53)) by (repeat (first | exact Below.refl _ _ | assumption | refine below_drewN ?_ _ | refine Below.drew ?_ | refine Below.alloc ?_ (by (try simp); (try omega)) _ | refine Below.setCell ?_ (by (try simp); (try omega)) _)))
  have h1 := h.below hB.out
  have f0 : (bits .and .i64 d 7 == 0) = false := by simpa [opK] using hx.1
  have f1 : (bits .and .i64 d 7 == 1) = false := by simpa [opK] using hx.2.1
  have f2 : (bits .and .i64 d 7 == 2) = false := by simpa [opK] using hx.2.2.1
  have f5 : (bits .and .i64 d 7 == 5) = false := by simpa [opK] using hx.2.2.2.1
  have f6 : (bits .and .i64 d 7 == 6) = false := by simpa [opK] using hx.2.2.2.2.1
  have f7 : (bits .and .i64 d 7 == 7) = false := by simpa [opK] using hx.2.2.2.2.2
  clear hx
  go_enter Tryd.func26, Tryd.ntmps26
  go_wp2_with fail
  go_end0
  rw [hr.out]
  exact ⟨rfl, h1, grown_b0 hB.out⟩
theorem do_any {w : World} {base b : Nat} {v : Value} {me : Int} {rs : List Rob} (h : Dk w base b v me rs) (d k i n : Int) (take : Bool) (hno : ∀ r ∈ rs, -4611686018427387904 ≤ r.2.1 ∧ r.2.1 ≤ 4611686018427387904) :
    Calls Tryd.prog 26 #[.pointer (some ⟨b, 0, none⟩), .agg #[.int .i64 d, .int .i64 k, .int .i64 i, .int .i64 n, .bool take]] w (DoRes w base b v me (doL rs (d, (k, i, n), take))) := by
  by_cases h0 : opK d = 0
  · exact do_0 h d k i n take hno h0
  by_cases h1 : opK d = 1
  · exact do_1 h d k i n take hno h1
  by_cases h2 : opK d = 2
  · exact do_2 h d k i n take hno h2
  by_cases h5 : opK d = 5
  · exact do_5 h d k i n take hno h5
  by_cases h6 : opK d = 6
  · exact do_6 h d k i n take hno h6
  by_cases h7 : opK d = 7
  · exact do_7 h d k i n take hno h7
  exact do_x h d k i n take hno ⟨h0, h1, h2, h5, h6, h7⟩
end Go.Proofs.YtnnephifjikkdaaDoor
