
/- Floors: the neighbour in a direction, and where one gets in it. -/
import Derived.Test.YtgbgcmhmlnmklaaGreatDoorFloB
import Derived.Test.YtgbgcmhmlnmklaaGreatDoorFloC
set_option linter.unusedSimpArgs false
set_option linter.unusedVariables false
namespace Go.Proofs.YtgbgcmhmlnmklaaGreatDoor
open Go.RowKit Go.IntWalk

theorem idx_step0 (w : World) : (Instr.index 110 (.agg #[.int .i64 1, .int .i64 0, .int .i64 0, .int .i64 0, .int .i64 1, .int .i64 0, .int .i64 (-1), .int .i64 0, .int .i64 0, .int .i64 0, .int .i64 (-1), .int .i64 0, .int .i64 0, .int .i64 0, .int .i64 1, .int .i64 0, .int .i64 0, .int .i64 (-1)]) (.int .i64 0)).run Tryz.prog w = .ok (.agg #[.int .i64 1, .int .i64 0, .int .i64 0]) w := by kernel_rfl
theorem idx_step1 (w : World) : (Instr.index 110 (.agg #[.int .i64 1, .int .i64 0, .int .i64 0, .int .i64 0, .int .i64 1, .int .i64 0, .int .i64 (-1), .int .i64 0, .int .i64 0, .int .i64 0, .int .i64 (-1), .int .i64 0, .int .i64 0, .int .i64 0, .int .i64 1, .int .i64 0, .int .i64 0, .int .i64 (-1)]) (.int .i64 1)).run Tryz.prog w = .ok (.agg #[.int .i64 0, .int .i64 1, .int .i64 0]) w := by kernel_rfl
theorem idx_step2 (w : World) : (Instr.index 110 (.agg #[.int .i64 1, .int .i64 0, .int .i64 0, .int .i64 0, .int .i64 1, .int .i64 0, .int .i64 (-1), .int .i64 0, .int .i64 0, .int .i64 0, .int .i64 (-1), .int .i64 0, .int .i64 0, .int .i64 0, .int .i64 1, .int .i64 0, .int .i64 0, .int .i64 (-1)]) (.int .i64 2)).run Tryz.prog w = .ok (.agg #[.int .i64 (-1), .int .i64 0, .int .i64 0]) w := by kernel_rfl
theorem idx_step3 (w : World) : (Instr.index 110 (.agg #[.int .i64 1, .int .i64 0, .int .i64 0, .int .i64 0, .int .i64 1, .int .i64 0, .int .i64 (-1), .int .i64 0, .int .i64 0, .int .i64 0, .int .i64 (-1), .int .i64 0, .int .i64 0, .int .i64 0, .int .i64 1, .int .i64 0, .int .i64 0, .int .i64 (-1)]) (.int .i64 3)).run Tryz.prog w = .ok (.agg #[.int .i64 0, .int .i64 (-1), .int .i64 0]) w := by kernel_rfl
theorem idx_step4 (w : World) : (Instr.index 110 (.agg #[.int .i64 1, .int .i64 0, .int .i64 0, .int .i64 0, .int .i64 1, .int .i64 0, .int .i64 (-1), .int .i64 0, .int .i64 0, .int .i64 0, .int .i64 (-1), .int .i64 0, .int .i64 0, .int .i64 0, .int .i64 1, .int .i64 0, .int .i64 0, .int .i64 (-1)]) (.int .i64 4)).run Tryz.prog w = .ok (.agg #[.int .i64 0, .int .i64 0, .int .i64 1]) w := by kernel_rfl
theorem idx_step5 (w : World) : (Instr.index 110 (.agg #[.int .i64 1, .int .i64 0, .int .i64 0, .int .i64 0, .int .i64 1, .int .i64 0, .int .i64 (-1), .int .i64 0, .int .i64 0, .int .i64 0, .int .i64 (-1), .int .i64 0, .int .i64 0, .int .i64 0, .int .i64 1, .int .i64 0, .int .i64 0, .int .i64 (-1)]) (.int .i64 5)).run Tryz.prog w = .ok (.agg #[.int .i64 0, .int .i64 0, .int .i64 (-1)]) w := by kernel_rfl
theorem idx_step (d : Int) (h0 : 0 ≤ d) (h6 : d < 6) (w : World) : (Instr.index 110 (.agg #[.int .i64 1, .int .i64 0, .int .i64 0, .int .i64 0, .int .i64 1, .int .i64 0, .int .i64 (-1), .int .i64 0, .int .i64 0, .int .i64 0, .int .i64 (-1), .int .i64 0, .int .i64 0, .int .i64 0, .int .i64 1, .int .i64 0, .int .i64 0, .int .i64 (-1)]) (.int .i64 d)).run Tryz.prog w = .ok (.agg #[.int .i64 (stepX d), .int .i64 (stepY d), .int .i64 (stepZ d)]) w := by
  have h : d = 0 ∨ d = 1 ∨ d = 2 ∨ d = 3 ∨ d = 4 ∨ d = 5 := by omega
  rcases h with rfl | rfl | rfl | rfl | rfl | rfl
  · exact idx_step0 w
  · exact idx_step1 w
  · exact idx_step2 w
  · exact idx_step3 w
  · exact idx_step4 w
  · exact idx_step5 w
theorem step_bd (d : Int) : (-1 ≤ stepX d ∧ stepX d ≤ 1) ∧ (-1 ≤ stepY d ∧ stepY d ≤ 1) ∧ (-1 ≤ stepZ d ∧ stepZ d ≤ 1) := by
  refine ⟨?_, ?_, ?_⟩
  · unfold stepX; split <;> (try split) <;> omega
  · unfold stepY; split <;> (try split) <;> omega
  · unfold stepZ; split <;> (try split) <;> omega
set_option maxRecDepth 100000 in
set_option maxHeartbeats 1000000 in
theorem beside_any (W H D : Int) (Ak Ao : Option Addr) (ck co : Nat) (kind out : List Int) (c d : Int) (w : World) (h : RS W H D) :
    Calls Tryz.prog 79 #[.agg #[.int .i64 W, .int .i64 H, .int .i64 D, .slice Ak kind.length ck, .slice Ao out.length co], .int .i64 c, .int .i64 d] w fun e w' => e = .returned (.int .i64 (besideL W H D c d)) ∧ Below w.heap.size w w' := by
  have hb0 : Below w.heap.size w (w.alloc (Obj.cells #[Value.int .i64 W, Value.int .i64 H, Value.int .i64 D, Value.slice Ak kind.length ck, Value.slice Ao out.length co] 24)) := (Below.refl _ w).alloc (Nat.le_refl _) _
  by_cases hc : 0 ≤ c ∧ c < W * H * D
  · have hi := hid (show isL (W * H * D) c = true by simp [isL, hc])
    by_cases hd : 0 ≤ d
    · by_cases hd6 : d < 6
      · have hr := hid (show besideL W H D c d = cellL W H D (c % W + stepX d) (c / W % H + stepY d) (c / (W * H) + stepZ d) by rw [besideL, if_pos ⟨hc.1, hc.2, hd, hd6⟩])
        have hw := h.w1
        have hh := h.h1
        have hw2 := h.w2
        have hh2 := h.h2
        have hn := h.n
        have hwh := h.wh
        have b1 := Int.emod_nonneg c (show W ≠ 0 by omega)
        have b2 := Int.emod_lt_of_pos c (show 0 < W by omega)
        have b3 := Int.emod_nonneg (c / W) (show H ≠ 0 by omega)
        have b4 := Int.emod_lt_of_pos (c / W) (show 0 < H by omega)
        have b5 : 0 ≤ c / (W * H) := Int.ediv_nonneg hc.1 (by omega)
        have b6 : c / (W * H) ≤ c := Int.ediv_le_self _ hc.1
        obtain ⟨⟨s1, s2⟩, ⟨s3, s4⟩, s5, s6⟩ := step_bd d
        obtain ⟨c0, c1⟩ := hc
        have ix := idx_step d hd hd6
        have zs := zeroStep
        go_enter Tryz.func79, Tryz.ntmps79
        go_wp2_with fail
        refine (is_any _ _ _ _ _ _ _ _ _ c _ h).mono ?_
        rintro e w1 ⟨rfl, hB⟩
        rw [hi.out]
        have bx := (Blk.new w _ _).below hB (by simp)
        have hb1 := hb0.trans (hB.mono (by simp))
        obtain ⟨k0, k1, k2, k3, k4⟩ := blk5 bx
        have z1 := bx.lt
        go_wp2_with fail
        refine (at_any _ _ _ _ _ _ _ _ _ c _ h c0 c1).mono ?_
        rintro e w2 ⟨rfl, hB⟩
        replace bx := bx.below hB bx.lt
        replace hb1 := hb1.trans (hB.mono hb1.size)
        clear k0 k1 k2 k3 k4 z1
        obtain ⟨k0, k1, k2, k3, k4⟩ := blk5 bx
        have z1 := bx.lt
        go_wp2_with fail
        refine (steps_any _).mono ?_
        rintro e w3 ⟨rfl, hB⟩
        replace bx := bx.below hB bx.lt
        replace hb1 := hb1.trans (hB.mono hb1.size)
        clear k0 k1 k2 k3 k4 z1
        obtain ⟨k0, k1, k2, k3, k4⟩ := blk5 bx
        have z1 := bx.lt
        go_wp2_with fail
        refine (cell_any _ _ _ _ _ _ _ _ _ _ _ _ _ h).mono ?_
        rintro e w4 ⟨rfl, hB⟩
        go_wp2
        go_ret
        exact ⟨ret_int hr.out.symm, (hb1.alloc hb1.size _).trans (hB.mono (by simp; have := hb1.size; omega))⟩
      · have hr := hid (show besideL W H D c d = -1 by rw [besideL, if_neg (by omega)])
        go_enter Tryz.func79, Tryz.ntmps79
        go_wp2_with fail
        refine (is_any _ _ _ _ _ _ _ _ _ c _ h).mono ?_
        rintro e w1 ⟨rfl, hB⟩
        rw [hi.out]
        have hb1 := hb0.trans (hB.mono (by simp))
        go_wp2
        go_ret
        exact ⟨ret_int hr.out.symm, hb1⟩
    · have hr := hid (show besideL W H D c d = -1 by rw [besideL, if_neg (by omega)])
      go_enter Tryz.func79, Tryz.ntmps79
      go_wp2_with fail
      refine (is_any _ _ _ _ _ _ _ _ _ c _ h).mono ?_
      rintro e w1 ⟨rfl, hB⟩
      rw [hi.out]
      have hb1 := hb0.trans (hB.mono (by simp))
      go_wp2
      go_ret
      exact ⟨ret_int hr.out.symm, hb1⟩
  · have hi := hid (show isL (W * H * D) c = false by simp [isL]; omega)
    have hr := hid (show besideL W H D c d = -1 by rw [besideL, if_neg (by omega)])
    go_enter Tryz.func79, Tryz.ntmps79
    go_wp2_with fail
    refine (is_any _ _ _ _ _ _ _ _ _ c _ h).mono ?_
    rintro e w1 ⟨rfl, hB⟩
    rw [hi.out]
    have hb1 := hb0.trans (hB.mono (by simp))
    go_wp2
    go_ret
    exact ⟨ret_int hr.out.symm, hb1⟩

theorem cellL_lt {W H D x y z : Int} (h : RS W H D) : cellL W H D x y z < W * H * D := by
  obtain ⟨w1, w2, h1, h2, d1, d2, hn⟩ := h
  unfold cellL
  split
  · rename_i hc
    obtain ⟨x0, y0, z0, hx, hy, hz⟩ := hc
    have e1 : z * H + y + 1 ≤ D * H := by
      have : (z + 1) * H ≤ D * H := Int.mul_le_mul_of_nonneg_right (by omega) (by omega)
      rw [Int.add_mul, Int.one_mul] at this; omega
    have e2 : (z * H + y + 1) * W ≤ D * H * W := Int.mul_le_mul_of_nonneg_right e1 (by omega)
    rw [Int.add_mul, Int.one_mul] at e2
    have e3 : D * H * W = W * H * D := by rw [Int.mul_comm D H, Int.mul_comm (H * D) W, Int.mul_assoc]
    omega
  · have := RS.whd ⟨w1, w2, h1, h2, d1, d2, hn⟩; omega
theorem besideL_in {W H D c d : Int} (h : RS W H D) (hb : 0 ≤ besideL W H D c d) : besideL W H D c d < W * H * D ∧ 0 ≤ c ∧ c < W * H * D ∧ 0 ≤ d ∧ d < 6 := by
  unfold besideL at hb ⊢
  split at hb
  · rename_i hc
    rw [if_pos hc]
    exact ⟨cellL_lt h, hc⟩
  · omega
/-- A right floor. -/
structure RF (W H D : Int) (kind out : List Int) : Prop where
  s : RS W H D
  k : (kind.length : Int) = W * H * D
  o : (out.length : Int) = W * H * D
  kr : ∀ x ∈ kind, 0 ≤ x ∧ x < 7
  orr : ∀ x ∈ out, 0 ≤ x ∧ x ≤ 63
def nextL (W H D : Int) (kind out : List Int) (c d : Int) : Option Int :=
  if besideL W H D c d < 0 then none
  else if kind.getD c.toNat 0 = 0 then none
  else if kind.getD (besideL W H D c d).toNat 0 = 0 then none
  else if out.getD c.toNat 0 / 2^d.toNat % 2 = 0 then none
  else if (d = 4 ∨ d = 5) ∧ (kind.getD c.toNat 0 ≠ 6 ∨ kind.getD (besideL W H D c d).toNat 0 ≠ 6) then none
  else some (besideL W H D c d)
theorem nextL_in {W H D : Int} {kind out : List Int} {c d n : Int} (h : RF W H D kind out) (hn : nextL W H D kind out c d = some n) : 0 ≤ n ∧ n < W * H * D ∧ kind.getD n.toNat 0 ≠ 0 := by
  unfold nextL at hn
  split at hn
  · cases hn
  · rename_i h1
    split at hn
    · cases hn
    · split at hn
      · cases hn
      · rename_i h3
        split at hn
        · cases hn
        · split at hn
          · cases hn
          · simp only [Option.some.injEq] at hn
            subst hn
            exact ⟨by omega, (besideL_in h.s (by omega)).1, h3⟩
def nextV (r : Option Int) : Value := match r with
  | some n => .tuple #[.int .i64 n, .bool true]
  | none => .tuple #[.int .i64 0, .bool false]
theorem ret_next {a : Option Int} {v : Value} (h : nextV a = v) : Ending.returned v = .returned (nextV a) := by rw [h]

end Go.Proofs.YtgbgcmhmlnmklaaGreatDoor
