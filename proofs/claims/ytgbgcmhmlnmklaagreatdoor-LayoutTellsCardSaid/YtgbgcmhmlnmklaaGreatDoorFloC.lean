
/- Floors: the ways to the neighbours. -/
import Derived.Test.YtgbgcmhmlnmklaaGreatDoorFloA
set_option linter.unusedSimpArgs false
set_option linter.unusedVariables false
namespace Go.Proofs.YtgbgcmhmlnmklaaGreatDoor
open Go.RowKit Go.IntWalk

theorem zeroSteps (w : World) : (zeroValue 110).run Tryz.prog w = .ok (.agg #[.int .i64 0, .int .i64 0, .int .i64 0, .int .i64 0, .int .i64 0, .int .i64 0, .int .i64 0, .int .i64 0, .int .i64 0, .int .i64 0, .int .i64 0, .int .i64 0, .int .i64 0, .int .i64 0, .int .i64 0, .int .i64 0, .int .i64 0, .int .i64 0]) w := by kernel_rfl
theorem zeroStep (w : World) : (zeroValue 109).run Tryz.prog w = .ok (.agg #[.int .i64 0, .int .i64 0, .int .i64 0]) w := by kernel_rfl
set_option maxRecDepth 100000 in
set_option maxHeartbeats 400000 in
theorem steps_any (w : World) :
    Calls Tryz.prog 93 #[] w fun e w' => e = .returned (.agg #[.int .i64 1, .int .i64 0, .int .i64 0, .int .i64 0, .int .i64 1, .int .i64 0, .int .i64 (-1), .int .i64 0, .int .i64 0, .int .i64 0, .int .i64 (-1), .int .i64 0, .int .i64 0, .int .i64 0, .int .i64 1, .int .i64 0, .int .i64 0, .int .i64 (-1)]) ∧ Below w.heap.size w w' := by
  have z1 := zeroSteps
  have z2 := zeroStep
  go_enter Tryz.func93, Tryz.ntmps93
  go_wp2
  exact bodyPost_ret (results_cell_row rfl _ _ w.heap.size 110 _ (0, 0) _ rfl (heap_alloc_new w _) Tryz.underlying110 rfl (by kernel_rfl)) rfl ⟨rfl, by (repeat (first | exact Below.refl _ _ | assumption | refine below_drewN ?_ _ | refine Below.drew ?_ | refine Below.alloc ?_ (by (try simp); (try omega)) _ | refine Below.setCell ?_ (by (try simp); (try omega)) _))⟩


end Go.Proofs.YtgbgcmhmlnmklaaGreatDoor
