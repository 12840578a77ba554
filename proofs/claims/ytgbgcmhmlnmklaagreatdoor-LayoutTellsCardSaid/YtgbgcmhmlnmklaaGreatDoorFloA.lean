
/- Floors: the number of cells, cells and places, neighbours. Each contract is for right floors, or says so. -/
import Derived.Test.YtgbgcmhmlnmklaaGreatDoorBase
set_option linter.unusedSimpArgs false
set_option linter.unusedVariables false
namespace Go.Proofs.YtgbgcmhmlnmklaaGreatDoor
open Go.RowKit Go.IntWalk

/-- The sizes of a right floor. -/
structure RS (W H D : Int) : Prop where
  w1 : 1 ≤ W
  w2 : W ≤ 4096
  h1 : 1 ≤ H
  h2 : H ≤ 4096
  d1 : 1 ≤ D
  d2 : D ≤ 4
  n : W * H * D ≤ 4096
theorem RS.wh {W H D : Int} (h : RS W H D) : 1 ≤ W * H ∧ W * H ≤ 16777216 := by
  constructor
  · have := Int.mul_le_mul h.w1 h.h1 (by decide) (by have := h.w1; omega); simpa using this
  · have := Int.mul_le_mul h.w2 h.h2 (by have := h.h1; omega) (by decide); simpa using this
theorem RS.whd {W H D : Int} (h : RS W H D) : 1 ≤ W * H * D := by
  have := Int.mul_le_mul h.wh.1 h.d1 (by decide) (by have := h.wh.1; omega); simpa using this

def stepX (d : Int) : Int := if d = 0 then 1 else if d = 2 then -1 else 0
def stepY (d : Int) : Int := if d = 1 then 1 else if d = 3 then -1 else 0
def stepZ (d : Int) : Int := if d = 4 then 1 else if d = 5 then -1 else 0
def cellL (W H D x y z : Int) : Int := if 0 ≤ x ∧ 0 ≤ y ∧ 0 ≤ z ∧ x < W ∧ y < H ∧ z < D then (z * H + y) * W + x else -1
def besideL (W H D c d : Int) : Int := if 0 ≤ c ∧ c < W * H * D ∧ 0 ≤ d ∧ d < 6 then cellL W H D (c % W + stepX d) (c / W % H + stepY d) (c / (W * H) + stepZ d) else -1

theorem blk5 {w : World} {g : Nat} {t : TypeId} {a b c d e : Value} (h : Blk w g t #[a, b, c, d, e]) :
    w.cell? ⟨g, 0, none⟩ = some a ∧ w.cell? ⟨g, 1, none⟩ = some b ∧ w.cell? ⟨g, 2, none⟩ = some c ∧ w.cell? ⟨g, 3, none⟩ = some d ∧ w.cell? ⟨g, 4, none⟩ = some e :=
  ⟨h.cell 0, h.cell 1, h.cell 2, h.cell 3, h.cell 4⟩
set_option maxRecDepth 100000 in
set_option maxHeartbeats 400000 in
theorem size_any (W H D : Int) (Ak Ao : Option Addr) (ck co : Nat) (kind out : List Int) (w : World) (h : RS W H D) :
    Calls Tryz.prog 62 #[.agg #[.int .i64 W, .int .i64 H, .int .i64 D, .slice Ak kind.length ck, .slice Ao out.length co]] w fun e w' => e = .returned (.int .i64 (W * H * D)) ∧ Below w.heap.size w w' := by
  obtain ⟨a1, a2⟩ := h.wh
  have a3 := h.whd
  have a4 := h.n
  go_enter Tryz.func62, Tryz.ntmps62
  go_wp2
  go_ret
  exact ⟨rfl, by (repeat (first | exact Below.refl _ _ | assumption | refine below_drewN ?_ _ | refine Below.drew ?_ | refine Below.alloc ?_ (by (try simp); (try omega)) _ | refine Below.setCell ?_ (by (try simp); (try omega)) _))⟩

def isL (N c : Int) : Bool := decide (0 ≤ c ∧ c < N)
set_option maxRecDepth 100000 in
set_option maxHeartbeats 400000 in
theorem is_any (W H D : Int) (Ak Ao : Option Addr) (ck co : Nat) (kind out : List Int) (c : Int) (w : World) (h : RS W H D) :
    Calls Tryz.prog 91 #[.agg #[.int .i64 W, .int .i64 H, .int .i64 D, .slice Ak kind.length ck, .slice Ao out.length co], .int .i64 c] w fun e w' => e = .returned (.bool (isL (W * H * D) c)) ∧ Below w.heap.size w w' := by
  by_cases hc : 0 ≤ c
  · have hr := hid (show isL (W * H * D) c = decide (c < W * H * D) by simp [isL, hc])
    go_enter Tryz.func91, Tryz.ntmps91
    go_wp2_with fail
    refine (size_any _ _ _ _ _ _ _ _ _ _ h).mono ?_
    rintro e w1 ⟨rfl, hB⟩
    go_wp2
    go_ret
    exact ⟨ret_bool hr.out.symm, (Below.alloc (Below.refl _ _) (Nat.le_refl _) _).trans (hB.mono (by simp))⟩
  · have hr := hid (show isL (W * H * D) c = false by simp [isL, hc])
    go_enter Tryz.func91, Tryz.ntmps91
    go_wp2
    go_ret
    exact ⟨ret_bool hr.out.symm, by (repeat (first | exact Below.refl _ _ | assumption | refine below_drewN ?_ _ | refine Below.drew ?_ | refine Below.alloc ?_ (by (try simp); (try omega)) _ | refine Below.setCell ?_ (by (try simp); (try omega)) _))⟩

set_option maxRecDepth 100000 in
set_option maxHeartbeats 400000 in
set_option maxRecDepth 100000 in
/-- The place of a cell. -/
theorem at_any (W H D : Int) (Ak Ao : Option Addr) (ck co : Nat) (kind out : List Int) (c : Int) (w : World) (h : RS W H D) (h0 : 0 ≤ c) (h1 : c < W * H * D) :
    Calls Tryz.prog 92 #[.agg #[.int .i64 W, .int .i64 H, .int .i64 D, .slice Ak kind.length ck, .slice Ao out.length co], .int .i64 c] w fun e w' => e = .returned (.tuple #[.int .i64 (c % W), .int .i64 (c / W % H), .int .i64 (c / (W * H))]) ∧ Below w.heap.size w w' := by
  obtain ⟨a1, a2⟩ := h.wh
  obtain ⟨w1, w2, q1, q2, d1, d2, hn⟩ := h
  have hi := hid (show isL (W * H * D) c = true by simp [isL, h0, h1])
  have hh : RS W H D := ⟨w1, w2, q1, q2, d1, d2, hn⟩
  have e1 : 0 ≤ c / W := Int.ediv_nonneg h0 (by omega)
  have e2 : c / W ≤ c := Int.ediv_le_self _ h0
  have e3 : 0 ≤ c / (W * H) := Int.ediv_nonneg h0 (by omega)
  have e4 : c / (W * H) ≤ c := Int.ediv_le_self _ h0
  go_enter Tryz.func92, Tryz.ntmps92
  go_wp2_with fail
  refine (is_any _ _ _ _ _ _ _ _ _ c _ hh).mono ?_
  rintro e wA ⟨rfl, hB⟩
  rw [hi.out]
  obtain ⟨c0, c1, c2, c3, c4⟩ := blk5 ((Blk.new w _ _).below hB (by simp))
  have hz := hB.size
  simp only [World.size_alloc] at hz
  have hbB := ((Below.refl _ w).alloc (Nat.le_refl _) (Obj.cells #[Value.int .i64 W, Value.int .i64 H, Value.int .i64 D, Value.slice Ak kind.length ck, Value.slice Ao out.length co] 24)).trans (hB.mono (by simp))
  clear hB
  have f1 : IntKind.i64.wrap (c.tmod W) = c % W := by rw [Int.tmod_eq_emod_of_nonneg h0]; have := Int.emod_lt_of_pos c (show 0 < W by omega); have := Int.emod_nonneg c (show W ≠ 0 by omega); exact i64_in _ (by omega)
  have f2 : IntKind.i64.wrap (c.tdiv W) = c / W := by rw [Int.tdiv_eq_ediv_of_nonneg h0]; exact i64_in _ (by omega)
  have f3 : IntKind.i64.wrap ((c / W).tmod H) = c / W % H := by rw [Int.tmod_eq_emod_of_nonneg e1]; have := Int.emod_lt_of_pos (c / W) (show 0 < H by omega); have := Int.emod_nonneg (c / W) (show H ≠ 0 by omega); exact i64_in _ (by omega)
  have f4 : IntKind.i64.wrap (W * H) = W * H := i64_in _ (by omega)
  have f5 : IntKind.i64.wrap (c.tdiv (W * H)) = c / (W * H) := by rw [Int.tdiv_eq_ediv_of_nonneg h0]; exact i64_in _ (by omega)
  have g1 : (W == 0) = false := by simp; omega
  have g2 : (H == 0) = false := by simp; omega
  have g3 : (W * H == 0) = false := by simp only [beq_eq_false_iff_ne]; omega
  have g4 : ¬ W = 0 := by omega
  have g5 : ¬ H = 0 := by omega
  have g6 : ¬ W * H = 0 := by omega
  go_wp2_with fail
  go_quiet (fail)
  go_wp2
  go_ret3
  exact ⟨rfl, below_drewN hbB _⟩
end Go.Proofs.YtgbgcmhmlnmklaaGreatDoor
