
/- Floors: the reference's Size, Is, Cell, At, Beside, Next (chapter 7). Each contract is for right floors, or says so. -/
import Derived.Test.YtgbgcmhmlnmklaaGreatDoorFloE
set_option linter.unusedSimpArgs false
set_option linter.unusedVariables false
namespace Go.Proofs.YtgbgcmhmlnmklaaGreatDoor
open Go.RowKit Go.IntWalk

set_option maxRecDepth 100000 in
set_option maxHeartbeats 400000 in
theorem rfsize_any (W H D : Int) (Ak Ao : Option Addr) (ck co : Nat) (kind out : List Int) (w : World) (h : RS W H D) :
    Calls Tryz.prog 136 #[.agg #[.int .i64 W, .int .i64 H, .int .i64 D, .slice Ak kind.length ck, .slice Ao out.length co]] w fun e w' => e = .returned (.int .i64 (W * H * D)) ∧ Below w.heap.size w w' := by
  obtain ⟨a1, a2⟩ := h.wh
  have a3 := h.whd
  have a4 := h.n
  go_enter Tryz.func136, Tryz.ntmps136
  go_wp2
  go_ret
  exact ⟨rfl, by (repeat (first | exact Below.refl _ _ | assumption | refine below_drewN ?_ _ | refine Below.drew ?_ | refine Below.alloc ?_ (by (try simp); (try omega)) _ | refine Below.setCell ?_ (by (try simp); (try omega)) _))⟩

set_option maxRecDepth 100000 in
set_option maxHeartbeats 400000 in
theorem rfis_any (W H D : Int) (Ak Ao : Option Addr) (ck co : Nat) (kind out : List Int) (c : Int) (w : World) (h : RS W H D) :
    Calls Tryz.prog 124 #[.agg #[.int .i64 W, .int .i64 H, .int .i64 D, .slice Ak kind.length ck, .slice Ao out.length co], .int .i64 c] w fun e w' => e = .returned (.bool (isL (W * H * D) c)) ∧ Below w.heap.size w w' := by
  by_cases hc : 0 ≤ c
  · have hr := hid (show isL (W * H * D) c = decide (c < W * H * D) by simp [isL, hc])
    go_enter Tryz.func124, Tryz.ntmps124
    go_wp2_with fail
    refine (rfsize_any _ _ _ _ _ _ _ _ _ _ h).mono ?_
    rintro e w1 ⟨rfl, hB⟩
    go_wp2
    go_ret
    exact ⟨ret_bool hr.out.symm, (Below.alloc (Below.refl _ _) (Nat.le_refl _) _).trans (hB.mono (by simp))⟩
  · have hr := hid (show isL (W * H * D) c = false by simp [isL, hc])
    go_enter Tryz.func124, Tryz.ntmps124
    go_wp2
    go_ret
    exact ⟨ret_bool hr.out.symm, by (repeat (first | exact Below.refl _ _ | assumption | refine below_drewN ?_ _ | refine Below.drew ?_ | refine Below.alloc ?_ (by (try simp); (try omega)) _ | refine Below.setCell ?_ (by (try simp); (try omega)) _))⟩

set_option maxRecDepth 100000 in
set_option maxHeartbeats 400000 in
set_option maxRecDepth 100000 in
/-- The place of a cell. -/
theorem rfat_any (W H D : Int) (Ak Ao : Option Addr) (ck co : Nat) (kind out : List Int) (c : Int) (w : World) (h : RS W H D) (h0 : 0 ≤ c) (h1 : c < W * H * D) :
    Calls Tryz.prog 125 #[.agg #[.int .i64 W, .int .i64 H, .int .i64 D, .slice Ak kind.length ck, .slice Ao out.length co], .int .i64 c] w fun e w' => e = .returned (.tuple #[.int .i64 (c % W), .int .i64 (c / W % H), .int .i64 (c / (W * H))]) ∧ Below w.heap.size w w' := by
  obtain ⟨a1, a2⟩ := h.wh
  obtain ⟨w1, w2, q1, q2, d1, d2, hn⟩ := h
  have hi := hid (show isL (W * H * D) c = true by simp [isL, h0, h1])
  have hh : RS W H D := ⟨w1, w2, q1, q2, d1, d2, hn⟩
  have e1 : 0 ≤ c / W := Int.ediv_nonneg h0 (by omega)
  have e2 : c / W ≤ c := Int.ediv_le_self _ h0
  have e3 : 0 ≤ c / (W * H) := Int.ediv_nonneg h0 (by omega)
  have e4 : c / (W * H) ≤ c := Int.ediv_le_self _ h0
  go_enter Tryz.func125, Tryz.ntmps125
  go_wp2_with fail
  refine (rfis_any _ _ _ _ _ _ _ _ _ c _ hh).mono ?_
  rintro e wA ⟨rfl, hB⟩
  rw [hi.out]
  obtain ⟨c0, c1, c2, c3, c4⟩ := blk5 ((Blk.new w _ _).below hB (by simp))
  have hz := hB.size
  simp only [World.size_alloc] at hz
  have hbB := ((Below.refl _ w).alloc (Nat.le_refl _) (Obj.cells #[Value.int .i64 W, Value.int .i64 H, Value.int .i64 D, Value.slice Ak kind.length ck, Value.slice Ao out.length co] 24)).trans (hB.mono (by simp))
  clear hB
  have f1 : IntKind.i64.wrap (c.tmod W) = c % W := by rw [Int.tmod_eq_emod_of_nonneg h0]; have := Int.emod_lt_of_pos c (show 0 < W by omega); have := Int.emod_nonneg c (show W ≠ 0 by omega); exact i64_in _ (by omega)
  have f2 : IntKind.i64.wrap (c.tdiv W) = c / W := by rw [Int.tdiv_eq_ediv_of_nonneg h0]; exact i64_in _ (by omega)
  have f3 : IntKind.i64.wrap ((c / W).tmod H) = c / W % H := by rw [Int.tmod_eq_emod_of_nonneg e1]; have := Int.emod_lt_of_pos (c / W) (show 0 < H by omega); have := Int.emod_nonneg (c / W) (show H ≠ 0 by omega); exact i64_in _ (by omega)
  have f4 : IntKind.i64.wrap (W * H) = W * H := i64_in _ (by omega)
  have e5 : 0 ≤ c / W / H := Int.ediv_nonneg e1 (by omega)
  have e6 : c / W / H ≤ c / W := Int.ediv_le_self _ e1
  have e7 : c / W / H = c / (W * H) := Int.ediv_ediv_of_nonneg (by omega)
  have f5 : IntKind.i64.wrap ((c / W).tdiv H) = c / (W * H) := by rw [Int.tdiv_eq_ediv_of_nonneg e1, e7]; exact i64_in _ (by omega)
  clear e7 e5 e6
  have g1 : (W == 0) = false := by simp; omega
  have g2 : (H == 0) = false := by simp; omega
  have g3 : (W * H == 0) = false := by simp only [beq_eq_false_iff_ne]; omega
  have g4 : ¬ W = 0 := by omega
  have g5 : ¬ H = 0 := by omega
  have g6 : ¬ W * H = 0 := by omega
  go_wp2_with fail
  go_quiet (fail)
  go_wp2
  go_ret3
  exact ⟨rfl, below_drewN hbB _⟩
set_option maxRecDepth 100000 in
set_option maxHeartbeats 3000000 in
theorem rfcell_any (W H D : Int) (Ak Ao : Option Addr) (ck co : Nat) (kind out : List Int) (x y z : Int) (w : World) (h : RS W H D) :
    Calls Tryz.prog 126 #[.agg #[.int .i64 W, .int .i64 H, .int .i64 D, .slice Ak kind.length ck, .slice Ao out.length co], .int .i64 x, .int .i64 y, .int .i64 z] w fun e w' => e = .returned (.int .i64 (cellL W H D x y z)) ∧ Below w.heap.size w w' := by
  obtain ⟨w1, w2, h1, h2, d1, d2, hn⟩ := h
  by_cases hx : 0 ≤ x ∧ 0 ≤ y ∧ 0 ≤ z
  · obtain ⟨x0, y0, z0⟩ := hx
    by_cases hx : x < W
    · by_cases hy : y < H
      · by_cases hz : z < D
        · have hr := hid (show cellL W H D x y z = (z * H + y) * W + x by rw [cellL, if_pos ⟨x0, y0, z0, hx, hy, hz⟩])
          have b1 : 0 ≤ z * H := Int.mul_nonneg z0 (by omega)
          have b2 : z * H ≤ 4 * 4096 := Int.mul_le_mul (by omega) h2 (by omega) (by omega)
          have b3 : 0 ≤ (z * H + y) * W := Int.mul_nonneg (by omega) (by omega)
          have b4 : (z * H + y) * W ≤ 20480 * 4096 := Int.mul_le_mul (by omega) w2 (by omega) (by omega)
          go_enter Tryz.func126, Tryz.ntmps126
          go_wp2
          all_goals
            go_ret
            exact ⟨ret_int hr.out.symm, by (repeat (first | exact Below.refl _ _ | assumption | refine below_drewN ?_ _ | refine Below.drew ?_ | refine Below.alloc ?_ (by (try simp); (try omega)) _ | refine Below.setCell ?_ (by (try simp); (try omega)) _))⟩
        · have hr := hid (show cellL W H D x y z = -1 by rw [cellL, if_neg (by omega)])
          go_enter Tryz.func126, Tryz.ntmps126
          go_wp2
          all_goals
            go_ret
            exact ⟨ret_int hr.out.symm, by (repeat (first | exact Below.refl _ _ | assumption | refine below_drewN ?_ _ | refine Below.drew ?_ | refine Below.alloc ?_ (by (try simp); (try omega)) _ | refine Below.setCell ?_ (by (try simp); (try omega)) _))⟩
      · have hr := hid (show cellL W H D x y z = -1 by rw [cellL, if_neg (by omega)])
        go_enter Tryz.func126, Tryz.ntmps126
        go_wp2
        all_goals
          go_ret
          exact ⟨ret_int hr.out.symm, by (repeat (first | exact Below.refl _ _ | assumption | refine below_drewN ?_ _ | refine Below.drew ?_ | refine Below.alloc ?_ (by (try simp); (try omega)) _ | refine Below.setCell ?_ (by (try simp); (try omega)) _))⟩
    · have hr := hid (show cellL W H D x y z = -1 by rw [cellL, if_neg (by omega)])
      go_enter Tryz.func126, Tryz.ntmps126
      go_wp2
      all_goals
        go_ret
        exact ⟨ret_int hr.out.symm, by (repeat (first | exact Below.refl _ _ | assumption | refine below_drewN ?_ _ | refine Below.drew ?_ | refine Below.alloc ?_ (by (try simp); (try omega)) _ | refine Below.setCell ?_ (by (try simp); (try omega)) _))⟩
  · have hr := hid (show cellL W H D x y z = -1 by rw [cellL, if_neg (by omega)])
    go_enter Tryz.func126, Tryz.ntmps126
    go_wp2
    all_goals
      go_ret
      exact ⟨ret_int hr.out.symm, by (repeat (first | exact Below.refl _ _ | assumption | refine below_drewN ?_ _ | refine Below.drew ?_ | refine Below.alloc ?_ (by (try simp); (try omega)) _ | refine Below.setCell ?_ (by (try simp); (try omega)) _))⟩

set_option maxRecDepth 100000 in
set_option maxHeartbeats 1000000 in
theorem rfbeside_0 (W H D : Int) (Ak Ao : Option Addr) (ck co : Nat) (kind out : List Int) (c : Int) (w : World) (h : RS W H D) (hc : 0 ≤ c ∧ c < W * H * D) :
    Calls Tryz.prog 106 #[.agg #[.int .i64 W, .int .i64 H, .int .i64 D, .slice Ak kind.length ck, .slice Ao out.length co], .int .i64 c, .int .i64 0] w fun e w' => e = .returned (.int .i64 (besideL W H D c 0)) ∧ Below w.heap.size w w' := by
  have hb0 : Below w.heap.size w (w.alloc (Obj.cells #[Value.int .i64 W, Value.int .i64 H, Value.int .i64 D, Value.slice Ak kind.length ck, Value.slice Ao out.length co] 24)) := (Below.refl _ w).alloc (Nat.le_refl _) _
  have hi := hid (show isL (W * H * D) c = true by simp [isL, hc])
  have hr := hid (show besideL W H D c 0 = cellL W H D (c % W + 1) (c / W % H) (c / (W * H)) by rw [besideL, if_pos ⟨hc.1, hc.2, by decide, by decide⟩]; simp [stepX, stepY, stepZ, Int.sub_eq_add_neg])
  have hw := h.w1
  have hh := h.h1
  have hw2 := h.w2
  have hh2 := h.h2
  have hn := h.n
  have hwh := h.wh
  have b1 := Int.emod_nonneg c (show W ≠ 0 by omega)
  have b2 := Int.emod_lt_of_pos c (show 0 < W by omega)
  have b3 := Int.emod_nonneg (c / W) (show H ≠ 0 by omega)
  have b4 := Int.emod_lt_of_pos (c / W) (show 0 < H by omega)
  have b5 : 0 ≤ c / (W * H) := Int.ediv_nonneg hc.1 (by omega)
  have b6 : c / (W * H) ≤ c := Int.ediv_le_self _ hc.1
  obtain ⟨c0, c1⟩ := hc
  go_enter Tryz.func106, Tryz.ntmps106
  go_wp2_with fail
  refine (rfis_any _ _ _ _ _ _ _ _ _ c _ h).mono ?_
  rintro e w1 ⟨rfl, hB⟩
  rw [hi.out]
  have bx := (Blk.new w _ _).below hB (by simp)
  have hb1 := hb0.trans (hB.mono (by simp))
  obtain ⟨k0, k1, k2, k3, k4⟩ := blk5 bx
  have z1 := bx.lt
  go_wp2_with fail
  refine (rfat_any _ _ _ _ _ _ _ _ _ c _ h c0 c1).mono ?_
  rintro e w2 ⟨rfl, hB⟩
  replace bx := bx.below hB bx.lt
  replace hb1 := hb1.trans (hB.mono hb1.size)
  clear k0 k1 k2 k3 k4 z1
  obtain ⟨k0, k1, k2, k3, k4⟩ := blk5 bx
  have z1 := bx.lt
  go_wp2_with fail
  refine (rfcell_any _ _ _ _ _ _ _ _ _ _ _ _ _ h).mono ?_
  rintro e w4 ⟨rfl, hB⟩
  go_wp2
  go_ret
  exact ⟨ret_int hr.out.symm, hb1.trans (hB.mono hb1.size)⟩
set_option maxRecDepth 100000 in
set_option maxHeartbeats 1000000 in
theorem rfbeside_1 (W H D : Int) (Ak Ao : Option Addr) (ck co : Nat) (kind out : List Int) (c : Int) (w : World) (h : RS W H D) (hc : 0 ≤ c ∧ c < W * H * D) :
    Calls Tryz.prog 106 #[.agg #[.int .i64 W, .int .i64 H, .int .i64 D, .slice Ak kind.length ck, .slice Ao out.length co], .int .i64 c, .int .i64 1] w fun e w' => e = .returned (.int .i64 (besideL W H D c 1)) ∧ Below w.heap.size w w' := by
  have hb0 : Below w.heap.size w (w.alloc (Obj.cells #[Value.int .i64 W, Value.int .i64 H, Value.int .i64 D, Value.slice Ak kind.length ck, Value.slice Ao out.length co] 24)) := (Below.refl _ w).alloc (Nat.le_refl _) _
  have hi := hid (show isL (W * H * D) c = true by simp [isL, hc])
  have hr := hid (show besideL W H D c 1 = cellL W H D (c % W) (c / W % H + 1) (c / (W * H)) by rw [besideL, if_pos ⟨hc.1, hc.2, by decide, by decide⟩]; simp [stepX, stepY, stepZ, Int.sub_eq_add_neg])
  have hw := h.w1
  have hh := h.h1
  have hw2 := h.w2
  have hh2 := h.h2
  have hn := h.n
  have hwh := h.wh
  have b1 := Int.emod_nonneg c (show W ≠ 0 by omega)
  have b2 := Int.emod_lt_of_pos c (show 0 < W by omega)
  have b3 := Int.emod_nonneg (c / W) (show H ≠ 0 by omega)
  have b4 := Int.emod_lt_of_pos (c / W) (show 0 < H by omega)
  have b5 : 0 ≤ c / (W * H) := Int.ediv_nonneg hc.1 (by omega)
  have b6 : c / (W * H) ≤ c := Int.ediv_le_self _ hc.1
  obtain ⟨c0, c1⟩ := hc
  go_enter Tryz.func106, Tryz.ntmps106
  go_wp2_with fail
  refine (rfis_any _ _ _ _ _ _ _ _ _ c _ h).mono ?_
  rintro e w1 ⟨rfl, hB⟩
  rw [hi.out]
  have bx := (Blk.new w _ _).below hB (by simp)
  have hb1 := hb0.trans (hB.mono (by simp))
  obtain ⟨k0, k1, k2, k3, k4⟩ := blk5 bx
  have z1 := bx.lt
  go_wp2_with fail
  refine (rfat_any _ _ _ _ _ _ _ _ _ c _ h c0 c1).mono ?_
  rintro e w2 ⟨rfl, hB⟩
  replace bx := bx.below hB bx.lt
  replace hb1 := hb1.trans (hB.mono hb1.size)
  clear k0 k1 k2 k3 k4 z1
  obtain ⟨k0, k1, k2, k3, k4⟩ := blk5 bx
  have z1 := bx.lt
  go_wp2_with fail
  refine (rfcell_any _ _ _ _ _ _ _ _ _ _ _ _ _ h).mono ?_
  rintro e w4 ⟨rfl, hB⟩
  go_wp2
  go_ret
  exact ⟨ret_int hr.out.symm, hb1.trans (hB.mono hb1.size)⟩
set_option maxRecDepth 100000 in
set_option maxHeartbeats 1000000 in
theorem rfbeside_2 (W H D : Int) (Ak Ao : Option Addr) (ck co : Nat) (kind out : List Int) (c : Int) (w : World) (h : RS W H D) (hc : 0 ≤ c ∧ c < W * H * D) :
    Calls Tryz.prog 106 #[.agg #[.int .i64 W, .int .i64 H, .int .i64 D, .slice Ak kind.length ck, .slice Ao out.length co], .int .i64 c, .int .i64 2] w fun e w' => e = .returned (.int .i64 (besideL W H D c 2)) ∧ Below w.heap.size w w' := by
  have hb0 : Below w.heap.size w (w.alloc (Obj.cells #[Value.int .i64 W, Value.int .i64 H, Value.int .i64 D, Value.slice Ak kind.length ck, Value.slice Ao out.length co] 24)) := (Below.refl _ w).alloc (Nat.le_refl _) _
  have hi := hid (show isL (W * H * D) c = true by simp [isL, hc])
  have hr := hid (show besideL W H D c 2 = cellL W H D (c % W - 1) (c / W % H) (c / (W * H)) by rw [besideL, if_pos ⟨hc.1, hc.2, by decide, by decide⟩]; simp [stepX, stepY, stepZ, Int.sub_eq_add_neg])
  have hw := h.w1
  have hh := h.h1
  have hw2 := h.w2
  have hh2 := h.h2
  have hn := h.n
  have hwh := h.wh
  have b1 := Int.emod_nonneg c (show W ≠ 0 by omega)
  have b2 := Int.emod_lt_of_pos c (show 0 < W by omega)
  have b3 := Int.emod_nonneg (c / W) (show H ≠ 0 by omega)
  have b4 := Int.emod_lt_of_pos (c / W) (show 0 < H by omega)
  have b5 : 0 ≤ c / (W * H) := Int.ediv_nonneg hc.1 (by omega)
  have b6 : c / (W * H) ≤ c := Int.ediv_le_self _ hc.1
  obtain ⟨c0, c1⟩ := hc
  go_enter Tryz.func106, Tryz.ntmps106
  go_wp2_with fail
  refine (rfis_any _ _ _ _ _ _ _ _ _ c _ h).mono ?_
  rintro e w1 ⟨rfl, hB⟩
  rw [hi.out]
  have bx := (Blk.new w _ _).below hB (by simp)
  have hb1 := hb0.trans (hB.mono (by simp))
  obtain ⟨k0, k1, k2, k3, k4⟩ := blk5 bx
  have z1 := bx.lt
  go_wp2_with fail
  refine (rfat_any _ _ _ _ _ _ _ _ _ c _ h c0 c1).mono ?_
  rintro e w2 ⟨rfl, hB⟩
  replace bx := bx.below hB bx.lt
  replace hb1 := hb1.trans (hB.mono hb1.size)
  clear k0 k1 k2 k3 k4 z1
  obtain ⟨k0, k1, k2, k3, k4⟩ := blk5 bx
  have z1 := bx.lt
  go_wp2_with fail
  refine (rfcell_any _ _ _ _ _ _ _ _ _ _ _ _ _ h).mono ?_
  rintro e w4 ⟨rfl, hB⟩
  go_wp2
  go_ret
  exact ⟨ret_int hr.out.symm, hb1.trans (hB.mono hb1.size)⟩
set_option maxRecDepth 100000 in
set_option maxHeartbeats 1000000 in
theorem rfbeside_3 (W H D : Int) (Ak Ao : Option Addr) (ck co : Nat) (kind out : List Int) (c : Int) (w : World) (h : RS W H D) (hc : 0 ≤ c ∧ c < W * H * D) :
    Calls Tryz.prog 106 #[.agg #[.int .i64 W, .int .i64 H, .int .i64 D, .slice Ak kind.length ck, .slice Ao out.length co], .int .i64 c, .int .i64 3] w fun e w' => e = .returned (.int .i64 (besideL W H D c 3)) ∧ Below w.heap.size w w' := by
  have hb0 : Below w.heap.size w (w.alloc (Obj.cells #[Value.int .i64 W, Value.int .i64 H, Value.int .i64 D, Value.slice Ak kind.length ck, Value.slice Ao out.length co] 24)) := (Below.refl _ w).alloc (Nat.le_refl _) _
  have hi := hid (show isL (W * H * D) c = true by simp [isL, hc])
  have hr := hid (show besideL W H D c 3 = cellL W H D (c % W) (c / W % H - 1) (c / (W * H)) by rw [besideL, if_pos ⟨hc.1, hc.2, by decide, by decide⟩]; simp [stepX, stepY, stepZ, Int.sub_eq_add_neg])
  have hw := h.w1
  have hh := h.h1
  have hw2 := h.w2
  have hh2 := h.h2
  have hn := h.n
  have hwh := h.wh
  have b1 := Int.emod_nonneg c (show W ≠ 0 by omega)
  have b2 := Int.emod_lt_of_pos c (show 0 < W by omega)
  have b3 := Int.emod_nonneg (c / W) (show H ≠ 0 by omega)
  have b4 := Int.emod_lt_of_pos (c / W) (show 0 < H by omega)
  have b5 : 0 ≤ c / (W * H) := Int.ediv_nonneg hc.1 (by omega)
  have b6 : c / (W * H) ≤ c := Int.ediv_le_self _ hc.1
  obtain ⟨c0, c1⟩ := hc
  go_enter Tryz.func106, Tryz.ntmps106
  go_wp2_with fail
  refine (rfis_any _ _ _ _ _ _ _ _ _ c _ h).mono ?_
  rintro e w1 ⟨rfl, hB⟩
  rw [hi.out]
  have bx := (Blk.new w _ _).below hB (by simp)
  have hb1 := hb0.trans (hB.mono (by simp))
  obtain ⟨k0, k1, k2, k3, k4⟩ := blk5 bx
  have z1 := bx.lt
  go_wp2_with fail
  refine (rfat_any _ _ _ _ _ _ _ _ _ c _ h c0 c1).mono ?_
  rintro e w2 ⟨rfl, hB⟩
  replace bx := bx.below hB bx.lt
  replace hb1 := hb1.trans (hB.mono hb1.size)
  clear k0 k1 k2 k3 k4 z1
  obtain ⟨k0, k1, k2, k3, k4⟩ := blk5 bx
  have z1 := bx.lt
  go_wp2_with fail
  refine (rfcell_any _ _ _ _ _ _ _ _ _ _ _ _ _ h).mono ?_
  rintro e w4 ⟨rfl, hB⟩
  go_wp2
  go_ret
  exact ⟨ret_int hr.out.symm, hb1.trans (hB.mono hb1.size)⟩
set_option maxRecDepth 100000 in
set_option maxHeartbeats 1000000 in
theorem rfbeside_4 (W H D : Int) (Ak Ao : Option Addr) (ck co : Nat) (kind out : List Int) (c : Int) (w : World) (h : RS W H D) (hc : 0 ≤ c ∧ c < W * H * D) :
    Calls Tryz.prog 106 #[.agg #[.int .i64 W, .int .i64 H, .int .i64 D, .slice Ak kind.length ck, .slice Ao out.length co], .int .i64 c, .int .i64 4] w fun e w' => e = .returned (.int .i64 (besideL W H D c 4)) ∧ Below w.heap.size w w' := by
  have hb0 : Below w.heap.size w (w.alloc (Obj.cells #[Value.int .i64 W, Value.int .i64 H, Value.int .i64 D, Value.slice Ak kind.length ck, Value.slice Ao out.length co] 24)) := (Below.refl _ w).alloc (Nat.le_refl _) _
  have hi := hid (show isL (W * H * D) c = true by simp [isL, hc])
  have hr := hid (show besideL W H D c 4 = cellL W H D (c % W) (c / W % H) (c / (W * H) + 1) by rw [besideL, if_pos ⟨hc.1, hc.2, by decide, by decide⟩]; simp [stepX, stepY, stepZ, Int.sub_eq_add_neg])
  have hw := h.w1
  have hh := h.h1
  have hw2 := h.w2
  have hh2 := h.h2
  have hn := h.n
  have hwh := h.wh
  have b1 := Int.emod_nonneg c (show W ≠ 0 by omega)
  have b2 := Int.emod_lt_of_pos c (show 0 < W by omega)
  have b3 := Int.emod_nonneg (c / W) (show H ≠ 0 by omega)
  have b4 := Int.emod_lt_of_pos (c / W) (show 0 < H by omega)
  have b5 : 0 ≤ c / (W * H) := Int.ediv_nonneg hc.1 (by omega)
  have b6 : c / (W * H) ≤ c := Int.ediv_le_self _ hc.1
  obtain ⟨c0, c1⟩ := hc
  go_enter Tryz.func106, Tryz.ntmps106
  go_wp2_with fail
  refine (rfis_any _ _ _ _ _ _ _ _ _ c _ h).mono ?_
  rintro e w1 ⟨rfl, hB⟩
  rw [hi.out]
  have bx := (Blk.new w _ _).below hB (by simp)
  have hb1 := hb0.trans (hB.mono (by simp))
  obtain ⟨k0, k1, k2, k3, k4⟩ := blk5 bx
  have z1 := bx.lt
  go_wp2_with fail
  refine (rfat_any _ _ _ _ _ _ _ _ _ c _ h c0 c1).mono ?_
  rintro e w2 ⟨rfl, hB⟩
  replace bx := bx.below hB bx.lt
  replace hb1 := hb1.trans (hB.mono hb1.size)
  clear k0 k1 k2 k3 k4 z1
  obtain ⟨k0, k1, k2, k3, k4⟩ := blk5 bx
  have z1 := bx.lt
  go_wp2_with fail
  refine (rfcell_any _ _ _ _ _ _ _ _ _ _ _ _ _ h).mono ?_
  rintro e w4 ⟨rfl, hB⟩
  go_wp2
  go_ret
  exact ⟨ret_int hr.out.symm, hb1.trans (hB.mono hb1.size)⟩
set_option maxRecDepth 100000 in
set_option maxHeartbeats 1000000 in
theorem rfbeside_5 (W H D : Int) (Ak Ao : Option Addr) (ck co : Nat) (kind out : List Int) (c : Int) (w : World) (h : RS W H D) (hc : 0 ≤ c ∧ c < W * H * D) :
    Calls Tryz.prog 106 #[.agg #[.int .i64 W, .int .i64 H, .int .i64 D, .slice Ak kind.length ck, .slice Ao out.length co], .int .i64 c, .int .i64 5] w fun e w' => e = .returned (.int .i64 (besideL W H D c 5)) ∧ Below w.heap.size w w' := by
  have hb0 : Below w.heap.size w (w.alloc (Obj.cells #[Value.int .i64 W, Value.int .i64 H, Value.int .i64 D, Value.slice Ak kind.length ck, Value.slice Ao out.length co] 24)) := (Below.refl _ w).alloc (Nat.le_refl _) _
  have hi := hid (show isL (W * H * D) c = true by simp [isL, hc])
  have hr := hid (show besideL W H D c 5 = cellL W H D (c % W) (c / W % H) (c / (W * H) - 1) by rw [besideL, if_pos ⟨hc.1, hc.2, by decide, by decide⟩]; simp [stepX, stepY, stepZ, Int.sub_eq_add_neg])
  have hw := h.w1
  have hh := h.h1
  have hw2 := h.w2
  have hh2 := h.h2
  have hn := h.n
  have hwh := h.wh
  have b1 := Int.emod_nonneg c (show W ≠ 0 by omega)
  have b2 := Int.emod_lt_of_pos c (show 0 < W by omega)
  have b3 := Int.emod_nonneg (c / W) (show H ≠ 0 by omega)
  have b4 := Int.emod_lt_of_pos (c / W) (show 0 < H by omega)
  have b5 : 0 ≤ c / (W * H) := Int.ediv_nonneg hc.1 (by omega)
  have b6 : c / (W * H) ≤ c := Int.ediv_le_self _ hc.1
  obtain ⟨c0, c1⟩ := hc
  go_enter Tryz.func106, Tryz.ntmps106
  go_wp2_with fail
  refine (rfis_any _ _ _ _ _ _ _ _ _ c _ h).mono ?_
  rintro e w1 ⟨rfl, hB⟩
  rw [hi.out]
  have bx := (Blk.new w _ _).below hB (by simp)
  have hb1 := hb0.trans (hB.mono (by simp))
  obtain ⟨k0, k1, k2, k3, k4⟩ := blk5 bx
  have z1 := bx.lt
  go_wp2_with fail
  refine (rfat_any _ _ _ _ _ _ _ _ _ c _ h c0 c1).mono ?_
  rintro e w2 ⟨rfl, hB⟩
  replace bx := bx.below hB bx.lt
  replace hb1 := hb1.trans (hB.mono hb1.size)
  clear k0 k1 k2 k3 k4 z1
  obtain ⟨k0, k1, k2, k3, k4⟩ := blk5 bx
  have z1 := bx.lt
  go_wp2_with fail
  refine (rfcell_any _ _ _ _ _ _ _ _ _ _ _ _ _ h).mono ?_
  rintro e w4 ⟨rfl, hB⟩
  go_wp2
  go_ret
  exact ⟨ret_int hr.out.symm, hb1.trans (hB.mono hb1.size)⟩
set_option maxRecDepth 100000 in
set_option maxHeartbeats 1000000 in
theorem rfbeside_any (W H D : Int) (Ak Ao : Option Addr) (ck co : Nat) (kind out : List Int) (c d : Int) (w : World) (h : RS W H D) :
    Calls Tryz.prog 106 #[.agg #[.int .i64 W, .int .i64 H, .int .i64 D, .slice Ak kind.length ck, .slice Ao out.length co], .int .i64 c, .int .i64 d] w fun e w' => e = .returned (.int .i64 (besideL W H D c d)) ∧ Below w.heap.size w w' := by
  have hb0 : Below w.heap.size w (w.alloc (Obj.cells #[Value.int .i64 W, Value.int .i64 H, Value.int .i64 D, Value.slice Ak kind.length ck, Value.slice Ao out.length co] 24)) := (Below.refl _ w).alloc (Nat.le_refl _) _
  by_cases hc : 0 ≤ c ∧ c < W * H * D
  · by_cases d0 : d = 0
    · subst d0; exact rfbeside_0 _ _ _ _ _ _ _ _ _ c w h hc
    by_cases d1 : d = 1
    · subst d1; exact rfbeside_1 _ _ _ _ _ _ _ _ _ c w h hc
    by_cases d2 : d = 2
    · subst d2; exact rfbeside_2 _ _ _ _ _ _ _ _ _ c w h hc
    by_cases d3 : d = 3
    · subst d3; exact rfbeside_3 _ _ _ _ _ _ _ _ _ c w h hc
    by_cases d4 : d = 4
    · subst d4; exact rfbeside_4 _ _ _ _ _ _ _ _ _ c w h hc
    by_cases d5 : d = 5
    · subst d5; exact rfbeside_5 _ _ _ _ _ _ _ _ _ c w h hc
    have hi := hid (show isL (W * H * D) c = true by simp [isL, hc])
    have hr := hid (show besideL W H D c d = -1 by rw [besideL, if_neg (by omega)])
    have e0 : (d == 0) = false := by simp [d0]
    have e1 : (d == 1) = false := by simp [d1]
    have e2 : (d == 2) = false := by simp [d2]
    have e3 : (d == 3) = false := by simp [d3]
    have e4 : (d == 4) = false := by simp [d4]
    have e5 : (d == 5) = false := by simp [d5]
    clear d0 d1 d2 d3 d4 d5
    obtain ⟨c0, c1⟩ := hc
    go_enter Tryz.func106, Tryz.ntmps106
    go_wp2_with fail
    refine (rfis_any _ _ _ _ _ _ _ _ _ c _ h).mono ?_
    rintro e w1 ⟨rfl, hB⟩
    rw [hi.out]
    have bx := (Blk.new w _ _).below hB (by simp)
    have hb1 := hb0.trans (hB.mono (by simp))
    obtain ⟨k0, k1, k2, k3, k4⟩ := blk5 bx
    have z1 := bx.lt
    go_wp2_with fail
    refine (rfat_any _ _ _ _ _ _ _ _ _ c _ h c0 c1).mono ?_
    rintro e w2 ⟨rfl, hB⟩
    replace hb1 := hb1.trans (hB.mono hb1.size)
    clear k0 k1 k2 k3 k4 z1
    go_wp2
    go_ret
    exact ⟨ret_int hr.out.symm, hb1⟩
  · have hi := hid (show isL (W * H * D) c = false by simp [isL]; omega)
    have hr := hid (show besideL W H D c d = -1 by rw [besideL, if_neg (by omega)])
    go_enter Tryz.func106, Tryz.ntmps106
    go_wp2_with fail
    refine (rfis_any _ _ _ _ _ _ _ _ _ c _ h).mono ?_
    rintro e w1 ⟨rfl, hB⟩
    rw [hi.out]
    have hb1 := hb0.trans (hB.mono (by simp))
    go_wp2
    go_ret
    exact ⟨ret_int hr.out.symm, hb1⟩
set_option maxRecDepth 100000 in
set_option maxHeartbeats 4000000 in
theorem rfnext_any (W H D : Int) (Ak Ao : Option Addr) (ck co : Nat) (kind out : List Int) (c d : Int) (w : World) (h : RF W H D kind out) (hk : SlR w w.heap.size Ak kind) (ho : SlR w w.heap.size Ao out) :
    Calls Tryz.prog 84 #[.agg #[.int .i64 W, .int .i64 H, .int .i64 D, .slice Ak kind.length ck, .slice Ao out.length co], .int .i64 c, .int .i64 d] w fun e w' => e = .returned (nextV (nextL W H D kind out c d)) ∧ Below w.heap.size w w' := by
  have hb0 : Below w.heap.size w (w.alloc (Obj.cells #[Value.int .i64 W, Value.int .i64 H, Value.int .i64 D, Value.slice Ak kind.length ck, Value.slice Ao out.length co] 24)) := (Below.refl _ w).alloc (Nat.le_refl _) _
  have hs := h.s
  have hbi := fun hb => besideL_in (c := c) (d := d) hs hb
  obtain ⟨nb, hnb⟩ : ∃ nb, nb = besideL W H D c d := ⟨_, rfl⟩
  rw [← hnb] at hbi
  have Hnb := hid hnb
  clear hnb
  have hkl := hid h.k
  have hol := hid h.o
  have hkr := hid h.kr
  have hor := hid h.orr
  clear h
  go_enter Tryz.func84, Tryz.ntmps84
  go_wp2_with fail
  refine (rfbeside_any _ _ _ _ _ _ _ _ _ c d _ hs).mono ?_
  rintro e w1 ⟨rfl, hB⟩
  have bx := (Blk.new w _ _).below hB (by simp)
  have hb1 := hb0.trans (hB.mono (by simp))
  obtain ⟨k0, k1, k2, k3, k4⟩ := blk5 bx
  rw [← Hnb.out]
  clear hB hb0
  by_cases hn : nb < 0
  · have hr := hid (show nextL W H D kind out c d = none by rw [nextL, ← Hnb.out, if_pos hn])
    clear hbi
    go_wp2
    go_ret2
    rw [hr.out]
    exact ⟨rfl, hb1⟩
  · obtain ⟨n1, c0, c1, d0, d1⟩ := hbi (by omega)
    clear hbi
    obtain ⟨cn, rfl⟩ := Int.eq_ofNat_of_zero_le c0
    obtain ⟨dn, rfl⟩ := Int.eq_ofNat_of_zero_le d0
    obtain ⟨n, rfl⟩ := Int.eq_ofNat_of_zero_le (show 0 ≤ nb by omega)
    have lc : cn < kind.length := by have := hkl.out; omega
    have ln : n < kind.length := by have := hkl.out; omega
    have lo : cn < out.length := by have := hol.out; omega
    obtain ⟨b, off, rfl, hbB, g1, _⟩ := (hk.below hb1).int lc
    have g2 := (hk.below hb1).int_at ln
    obtain ⟨b', off', rfl, hbB', g3, _⟩ := (ho.below hb1).int lo
    have ob := hor.out _ (List.getElem_mem lo)
    have ea := and1_bit out[cn] dn ob.1 ob.2
    have v1 : kind.getD cn 0 = kind[cn] := getD_at lc
    have v2 : kind.getD n 0 = kind[n] := getD_at ln
    have v3 : out.getD cn 0 = out[cn] := getD_at lo
    have hnx := hid (show nextL W H D kind out cn dn = (if kind[cn] = 0 then none else if kind[n] = 0 then none else if out[cn] / 2^dn % 2 = 0 then none else if ((dn:Int) = 4 ∨ (dn:Int) = 5) ∧ (kind[cn] ≠ 6 ∨ kind[n] ≠ 6) then none else some (n:Int)) by
      rw [nextL, ← Hnb.out, if_neg (by omega)]; simp only [Int.toNat_natCast, v1, v2, v3])
    clear v1 v2 v3
    obtain ⟨kc, hkc⟩ : ∃ kc, kc = kind[cn] := ⟨_, rfl⟩
    obtain ⟨kn, hkn⟩ : ∃ kn, kn = kind[n] := ⟨_, rfl⟩
    obtain ⟨oc, hoc⟩ : ∃ oc, oc = out[cn] := ⟨_, rfl⟩
    rw [← hkc] at g1 hnx
    rw [← hkn] at g2 hnx
    rw [← hoc] at g3 hnx ea ob
    clear hkc hkn hoc
    obtain ⟨bt, hbt⟩ : ∃ bt, bt = oc / 2^dn % 2 := ⟨_, rfl⟩
    rw [← hbt] at hnx ea
    clear hbt
    have i1 : (cn:Int) < kind.length := by omega
    have i2 : (n:Int) < kind.length := by omega
    have i3 : (cn:Int) < out.length := by omega
    by_cases a1 : kc = 0
    · have e1 : (kc == (0:Int)) = true := by simp; omega
      have hr := hid (show nextL W H D kind out cn dn = none by rw [hnx.out]; simp [a1])
      clear hnx a1
      go_wp2
      go_ret2
      rw [hr.out]
      exact ⟨rfl, hb1⟩
    have e1 : (kc == 0) = false := by simp [a1]
    by_cases a2 : kn = 0
    · have e2 : (kn == (0:Int)) = true := by simp; omega
      have hr := hid (show nextL W H D kind out cn dn = none by rw [hnx.out]; simp [a1, a2])
      clear hnx a1 a2
      go_wp2
      go_ret2
      rw [hr.out]
      exact ⟨rfl, hb1⟩
    have e2 : (kn == 0) = false := by simp [a2]
    by_cases a3 : bt = 0
    · have e3 : (bt == (0:Int)) = true := by simp; omega
      have hr := hid (show nextL W H D kind out cn dn = none by rw [hnx.out]; simp [a1, a2, a3])
      clear hnx a1 a2 a3
      go_wp2
      go_ret2
      rw [hr.out]
      exact ⟨rfl, hb1⟩
    have e3 : (bt == 0) = false := by simp [a3]
    by_cases a4 : (dn:Int) = 4 ∨ (dn:Int) = 5
    · have b4 : (4:Int) ≤ dn := by omega
      by_cases a5 : kc = 6
      · by_cases a6 : kn = 6
        · rcases a4 with a4 | a4
          · have d4 : ((dn:Int) == (4:Int)) = true := by simp; omega
            have e5 : (kc != (6:Int)) = false := by simp; omega
            have e6 : (kn != (6:Int)) = false := by simp; omega
            have hr := hid (show nextL W H D kind out cn dn = some (n:Int) by rw [hnx.out]; simp [a1, a2, a3, a5, a6, a4])
            clear hnx a1 a2 a3 a5 a6 a4
            go_wp2
            go_ret2
            rw [hr.out]
            exact ⟨rfl, hb1⟩
          · have d4 : ((dn:Int) == 4) = false := by simp; omega
            have d5 : ((dn:Int) == (5:Int)) = true := by simp; omega
            have e5 : (kc != (6:Int)) = false := by simp; omega
            have e6 : (kn != (6:Int)) = false := by simp; omega
            have hr := hid (show nextL W H D kind out cn dn = some (n:Int) by rw [hnx.out]; simp [a1, a2, a3, a5, a6, a4])
            clear hnx a1 a2 a3 a5 a6 a4
            go_wp2
            go_ret2
            rw [hr.out]
            exact ⟨rfl, hb1⟩
        · rcases a4 with a4 | a4
          · have d4 : ((dn:Int) == (4:Int)) = true := by simp; omega
            have e5 : (kc != (6:Int)) = false := by simp; omega
            have e6 : (kn != 6) = true := by simp [a6]
            have hr := hid (show nextL W H D kind out cn dn = none by rw [hnx.out]; simp [a1, a2, a3, a5, a6, a4])
            clear hnx a1 a2 a3 a5 a6 a4
            go_wp2
            go_ret2
            rw [hr.out]
            exact ⟨rfl, hb1⟩
          · have d4 : ((dn:Int) == 4) = false := by simp; omega
            have d5 : ((dn:Int) == (5:Int)) = true := by simp; omega
            have e5 : (kc != (6:Int)) = false := by simp; omega
            have e6 : (kn != 6) = true := by simp [a6]
            have hr := hid (show nextL W H D kind out cn dn = none by rw [hnx.out]; simp [a1, a2, a3, a5, a6, a4])
            clear hnx a1 a2 a3 a5 a6 a4
            go_wp2
            go_ret2
            rw [hr.out]
            exact ⟨rfl, hb1⟩
      · rcases a4 with a4 | a4
        · have d4 : ((dn:Int) == (4:Int)) = true := by simp; omega
          have e5 : (kc != 6) = true := by simp [a5]
          have hr := hid (show nextL W H D kind out cn dn = none by rw [hnx.out]; simp [a1, a2, a3, a5, a4])
          clear hnx a1 a2 a3 a5 a4
          go_wp2
          go_ret2
          rw [hr.out]
          exact ⟨rfl, hb1⟩
        · have d4 : ((dn:Int) == 4) = false := by simp; omega
          have d5 : ((dn:Int) == (5:Int)) = true := by simp; omega
          have e5 : (kc != 6) = true := by simp [a5]
          have hr := hid (show nextL W H D kind out cn dn = none by rw [hnx.out]; simp [a1, a2, a3, a5, a4])
          clear hnx a1 a2 a3 a5 a4
          go_wp2
          go_ret2
          rw [hr.out]
          exact ⟨rfl, hb1⟩
    · have b4 : (dn:Int) < 4 := by omega
      have d4 : ((dn:Int) == 4) = false := by simp; omega
      have d5 : ((dn:Int) == 5) = false := by simp; omega
      have hr := hid (show nextL W H D kind out cn dn = some (n:Int) by rw [hnx.out]; simp [a1, a2, a3, a4])
      clear hnx a1 a2 a3 a4
      go_wp2
      go_ret2
      rw [hr.out]
      exact ⟨rfl, hb1⟩

end Go.Proofs.YtgbgcmhmlnmklaaGreatDoor
