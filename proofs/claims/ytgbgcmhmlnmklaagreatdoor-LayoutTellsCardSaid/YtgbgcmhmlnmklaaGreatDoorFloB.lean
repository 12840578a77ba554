
/- Floors: the cell at a place. -/
import Derived.Test.YtgbgcmhmlnmklaaGreatDoorFloA
set_option linter.unusedSimpArgs false
set_option linter.unusedVariables false
namespace Go.Proofs.YtgbgcmhmlnmklaaGreatDoor
open Go.RowKit Go.IntWalk

set_option maxRecDepth 100000 in
set_option maxHeartbeats 3000000 in
theorem cell_any (W H D : Int) (Ak Ao : Option Addr) (ck co : Nat) (kind out : List Int) (x y z : Int) (w : World) (h : RS W H D) :
    Calls Tryz.prog 94 #[.agg #[.int .i64 W, .int .i64 H, .int .i64 D, .slice Ak kind.length ck, .slice Ao out.length co], .int .i64 x, .int .i64 y, .int .i64 z] w fun e w' => e = .returned (.int .i64 (cellL W H D x y z)) ∧ Below w.heap.size w w' := by
  obtain ⟨w1, w2, h1, h2, d1, d2, hn⟩ := h
  by_cases hx : 0 ≤ x ∧ 0 ≤ y ∧ 0 ≤ z
  · obtain ⟨x0, y0, z0⟩ := hx
    by_cases hx : x < W
    · by_cases hy : y < H
      · by_cases hz : z < D
        · have hr := hid (show cellL W H D x y z = (z * H + y) * W + x by rw [cellL, if_pos ⟨x0, y0, z0, hx, hy, hz⟩])
          have b1 : 0 ≤ z * H := Int.mul_nonneg z0 (by omega)
          have b2 : z * H ≤ 4 * 4096 := Int.mul_le_mul (by omega) h2 (by omega) (by omega)
          have b3 : 0 ≤ (z * H + y) * W := Int.mul_nonneg (by omega) (by omega)
          have b4 : (z * H + y) * W ≤ 20480 * 4096 := Int.mul_le_mul (by omega) w2 (by omega) (by omega)
          go_enter Tryz.func94, Tryz.ntmps94
          go_wp2
          all_goals
            go_ret
            exact ⟨ret_int hr.out.symm, by (repeat (first | exact Below.refl _ _ | assumption | refine below_drewN ?_ _ | refine Below.drew ?_ | refine Below.alloc ?_ (by (try simp); (try omega)) _ | refine Below.setCell ?_ (by (try simp); (try omega)) _))⟩
        · have hr := hid (show cellL W H D x y z = -1 by rw [cellL, if_neg (by omega)])
          go_enter Tryz.func94, Tryz.ntmps94
          go_wp2
          all_goals
            go_ret
            exact ⟨ret_int hr.out.symm, by (repeat (first | exact Below.refl _ _ | assumption | refine below_drewN ?_ _ | refine Below.drew ?_ | refine Below.alloc ?_ (by (try simp); (try omega)) _ | refine Below.setCell ?_ (by (try simp); (try omega)) _))⟩
      · have hr := hid (show cellL W H D x y z = -1 by rw [cellL, if_neg (by omega)])
        go_enter Tryz.func94, Tryz.ntmps94
        go_wp2
        all_goals
          go_ret
          exact ⟨ret_int hr.out.symm, by (repeat (first | exact Below.refl _ _ | assumption | refine below_drewN ?_ _ | refine Below.drew ?_ | refine Below.alloc ?_ (by (try simp); (try omega)) _ | refine Below.setCell ?_ (by (try simp); (try omega)) _))⟩
    · have hr := hid (show cellL W H D x y z = -1 by rw [cellL, if_neg (by omega)])
      go_enter Tryz.func94, Tryz.ntmps94
      go_wp2
      all_goals
        go_ret
        exact ⟨ret_int hr.out.symm, by (repeat (first | exact Below.refl _ _ | assumption | refine below_drewN ?_ _ | refine Below.drew ?_ | refine Below.alloc ?_ (by (try simp); (try omega)) _ | refine Below.setCell ?_ (by (try simp); (try omega)) _))⟩
  · have hr := hid (show cellL W H D x y z = -1 by rw [cellL, if_neg (by omega)])
    go_enter Tryz.func94, Tryz.ntmps94
    go_wp2
    all_goals
      go_ret
      exact ⟨ret_int hr.out.symm, by (repeat (first | exact Below.refl _ _ | assumption | refine below_drewN ?_ _ | refine Below.drew ?_ | refine Below.alloc ?_ (by (try simp); (try omega)) _ | refine Below.setCell ?_ (by (try simp); (try omega)) _))⟩

end Go.Proofs.YtgbgcmhmlnmklaaGreatDoor
