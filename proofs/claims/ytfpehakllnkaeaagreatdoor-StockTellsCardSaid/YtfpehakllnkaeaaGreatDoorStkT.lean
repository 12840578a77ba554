
/- Stock: the laws' small. -/
import Derived.Test.YtfpehakllnkaeaaGreatDoorStkS
set_option linter.unusedSimpArgs false
set_option linter.unusedVariables false
namespace Go.Proofs.YtfpehakllnkaeaaGreatDoor
open Go.RowKit Go.IntWalk

set_option maxRecDepth 100000 in
set_option maxHeartbeats 4000000 in
theorem ssmall_any (w : World) : Calls Tryz.prog 4 #[] w fun e w' => e = .returned (.bool true) ∧ Below w.heap.size w w' := by
  obtain ⟨w3, hw3⟩ : ∃ w3, w3 = ((w.alloc (Obj.cells #[.string ⟨#[107]⟩, .int .i64 3] 63)).alloc (Obj.cells #[.int .i64 0, .int .i64 9, .bool false, .int .i64 0, .int .i64 5, .bool false] 40)).alloc (Obj.cells #[.int .i64 0, .int .i64 4, .int .i64 10, .int .i64 1, .int .i64 2, .int .i64 10] 45) := ⟨_, rfl⟩
  have B3 := hid (show Below w.heap.size w w3 by rw [hw3]; (repeat (first | exact Below.refl _ _ | assumption | refine below_drewN ?_ _ | refine Below.drew ?_ | refine Below.alloc ?_ (by (try simp); (try omega)) _ | refine Below.setCell ?_ (by (try simp); (try omega)) _)))
  have K3 := hid (show Blk w3 w.heap.size 63 #[.string ⟨#[107]⟩, .int .i64 3] by rw [hw3]; exact ((Blk.new w _ _).alloc _).alloc _)
  have L3 := hid (show Blk w3 (w.heap.size + 1) 40 #[.int .i64 0, .int .i64 9, .bool false, .int .i64 0, .int .i64 5, .bool false] by rw [hw3]; exact (Blk.new_at (by simp)).alloc _)
  have X3 := hid (show Blk w3 (w.heap.size + 1 + 1) 45 #[.int .i64 0, .int .i64 4, .int .i64 10, .int .i64 1, .int .i64 2, .int .i64 10] by rw [hw3]; exact Blk.new_at (by simp))
  have SK := hid (slr_k1 ⟨#[107]⟩ 3 K3.out (by decide) ⟨by decide, by decide⟩)
  have SL := hid (slr_l3 (l := sLs) L3.out (fun x hx => by simp [sLs] at hx; rcases hx with rfl | rfl <;> exact ⟨⟨by decide, by decide⟩, ⟨by decide, by decide⟩⟩))
  have SB := hid (slr_b3 (l := sBs) X3.out s_left.i3)
  have HP := hid (fun (W : World) (hW : Below w3.heap.size w3 W) (A : Option Addr) (c : Nat) (wants : List Wt) (hl : wants.length ≤ 1000) (h : SlR W W.heap.size A wants) => plan_any (some ⟨w.heap.size + 1, 0, none⟩) (some ⟨w.heap.size + 1 + 1, 0, none⟩) A 2 2 c sLs sBs wants W (by decide) (by decide) hl ((SL.out.below hW).more hW.size) ((SB.out.below hW).more hW.size) h s_left)
  have HO := hid one_any
  have x0 := X3.out.cell 0; have x1 := X3.out.cell 1; have x2 := X3.out.cell 2; have xz := X3.out.lt
  simp at x0 x1 x2
  have hI : ∀ n : Int, 0 ≤ n → n ≤ 100 → I64 n := fun n h0 h1 => ⟨by omega, by omega⟩
  have H1 := hid (HO.out 3 5 (hI _ (by omega) (by omega)) (hI _ (by omega) (by omega)) w3)
  go_enter Tryz.func4, Tryz.ntmps4
  go_upto_region 4 with fail
  rw [← hw3]
  clear hw3 L3 K3
  clear x0 x1 x2 xz
  go_wp2_with fail
  refine H1.out.mono ?_
  rintro e w4 ⟨A4, c4, rfl, s4, hB4⟩
  have B4 := hid hB4
  have P4 := hid (show Calls Tryz.prog 22 #[.slice (some ⟨w.heap.size + 1, 0, none⟩) 2 2, .slice (some ⟨w.heap.size + 1 + 1, 0, none⟩) 2 2, .slice A4 1 c4] w4 (fun e w' => ∃ (A : Option Addr) (c : Nat), e = .returned (.tuple #[.slice A 1 c, .int .i64 0]) ∧ SlR w' w'.heap.size A [[((1 : Int), (2 : Int)), (0, 1)]] ∧ Below w4.heap.size w4 w') from (HP.out w4 B4.out A4 c4 [(0, 3, 5)] (by decide) s4).mono (fun e w' h => by
    obtain ⟨A, c, h1, _, h2, h3⟩ := h
    rw [s_plan1] at h1 h2
    exact ⟨A, c, h1, h2, h3⟩))
  clear s4 hB4 H1
  go_wp2_with fail
  refine P4.out.mono ?_
  rintro e w5 ⟨A5, c5, rfl, s5, hB5⟩
  have S5 := hid s5
  have B5 := hid (B4.out.trans (hB5.mono B4.out.size))
  have H5 := hid (HO.out 5 6 (hI _ (by omega) (by omega)) (hI _ (by omega) (by omega)) w5)
  clear s5 hB5 P4 B4
  go_wp2_with fail
  refine H5.out.mono ?_
  rintro e w6 ⟨A6, c6, rfl, s6, hB6⟩
  have B6 := hid (B5.out.trans (hB6.mono B5.out.size))
  have S6 := hid ((S5.out.below hB6).more hB6.size)
  have P6 := hid (show Calls Tryz.prog 22 #[.slice (some ⟨w.heap.size + 1, 0, none⟩) 2 2, .slice (some ⟨w.heap.size + 1 + 1, 0, none⟩) 2 2, .slice A6 1 c6] w6 (fun e w' => ∃ (A : Option Addr) (c : Nat), e = .returned (.tuple #[.slice A 0 c, .int .i64 22]) ∧ Below w6.heap.size w6 w') from (HP.out w6 B6.out A6 c6 [(0, 5, 6)] (by decide) s6).mono (fun e w' h => by
    obtain ⟨A, c, h1, _, h2, h3⟩ := h
    rw [s_plan2] at h1 h2
    exact ⟨A, c, h1, h3⟩))
  clear s6 hB6 H5 B5 S5
  go_wp2_with fail
  refine P6.out.mono ?_
  rintro e w7 ⟨A7, c7, rfl, hB7⟩
  have B7 := hid (B6.out.trans (hB7.mono B6.out.size))
  have S7 := hid ((S6.out.below hB7).more hB7.size)
  clear hB7 P6 S6 B6
  obtain ⟨w8, hw8⟩ : ∃ w8, w8 = w7.alloc (Obj.cells #[.int .i64 0, .int .i64 2, .int .i64 5, .int .i64 0, .int .i64 4, .int .i64 9] 42) := ⟨_, rfl⟩
  have b8 := hid (show Below w7.heap.size w7 w8 by rw [hw8]; (repeat (first | exact Below.refl _ _ | assumption | refine below_drewN ?_ _ | refine Below.drew ?_ | refine Below.alloc ?_ (by (try simp); (try omega)) _ | refine Below.setCell ?_ (by (try simp); (try omega)) _)))
  have N8 := hid (show Blk w8 w7.heap.size 42 #[.int .i64 0, .int .i64 2, .int .i64 5, .int .i64 0, .int .i64 4, .int .i64 9] by rw [hw8]; exact Blk.new w7 _ _)
  have B8 := hid (B7.out.trans (b8.out.mono B7.out.size))
  have S8 := hid ((S7.out.below b8.out).more b8.out.size)
  have P8 := hid (show Calls Tryz.prog 22 #[.slice (some ⟨w.heap.size + 1, 0, none⟩) 2 2, .slice (some ⟨w.heap.size + 1 + 1, 0, none⟩) 2 2, .slice (some ⟨w7.heap.size, 0, none⟩) 2 2] w8 (fun e w' => ∃ (A : Option Addr) (c : Nat), e = .returned (.tuple #[.slice A 2 c, .int .i64 0]) ∧ SlR w' w'.heap.size A [[((1 : Int), (2 : Int))], [(0, 4)]] ∧ Below w8.heap.size w8 w') from (HP.out w8 B8.out (some ⟨w7.heap.size, 0, none⟩) 2 [(0, 2, 5), (0, 4, 9)] (by decide) (slr_b3 (l := [(0, 2, 5), (0, 4, 9)]) N8.out (fun x hx => by simp at hx; rcases hx with rfl | rfl <;> exact ⟨⟨by decide, by decide⟩, ⟨by decide, by decide⟩, ⟨by decide, by decide⟩⟩))).mono (fun e w' h => by
    obtain ⟨A, c, h1, _, h2, h3⟩ := h
    rw [s_plan3] at h1 h2
    exact ⟨A, c, h1, h2, h3⟩))
  clear b8 N8 S7 B7
  go_wp2_with fail
  try rw [← hw8]
  clear hw8
  refine P8.out.mono ?_
  rintro e w9 ⟨A9, c9, rfl, s9, hB9⟩
  have B9 := hid (B8.out.trans (hB9.mono B8.out.size))
  have S9 := hid ((S8.out.below hB9).more hB9.size)
  have T9 := hid s9
  clear s9 hB9 P8 S8 B8
  have R9 := hid (show Calls Tryz.prog 9 #[.slice (some ⟨w.heap.size, 0, none⟩) 1 1, .slice (some ⟨w.heap.size + 1, 0, none⟩) 2 2, .slice (some ⟨w.heap.size + 1 + 1, 0, none⟩) 2 2] w9 (fun e w' => e = .returned (.bool true) ∧ Below w9.heap.size w9 w') from by
    have := sright_any (some ⟨w.heap.size, 0, none⟩) (some ⟨w.heap.size + 1, 0, none⟩) (some ⟨w.heap.size + 1 + 1, 0, none⟩) 1 2 2 sKs sLs sBs w9 (by decide) (by decide) (by decide) ((SK.out.below B9.out).more B9.out.size) ((SL.out.below B9.out).more B9.out.size) ((SB.out.below B9.out).more B9.out.size)
    rw [s_right] at this
    exact this)
  go_wp2_with fail
  refine R9.out.mono ?_
  rintro e w10 ⟨rfl, hB10⟩
  have B10 := hid (B9.out.trans (hB10.mono B9.out.size))
  have S10 := hid ((S9.out.below hB10).more hB10.size)
  have T10 := hid ((T9.out.below hB10).more hB10.size)
  have X10 := hid (X3.out.below B10.out X3.out.lt)
  clear hB10 R9 S9 T9 B9
  have y0 := X10.out.cell 0; have y1 := X10.out.cell 1; have y2 := X10.out.cell 2; have yz := X10.out.lt
  simp at y0 y1 y2
  have W10 := hid (show Calls Tryz.prog 16 #[.slice (some ⟨w.heap.size, 0, none⟩) 1 1, .slice (some ⟨w.heap.size + 1, 0, none⟩) 2 2, .agg #[.int .i64 0, .int .i64 4, .int .i64 10]] w10 (fun e w' => e = .returned (.int .i64 22) ∧ Below w10.heap.size w10 w') from by
    have := weight_any (some ⟨w.heap.size, 0, none⟩) (some ⟨w.heap.size + 1, 0, none⟩) 1 2 sKs sLs (0, 4, 10) w10 (by decide) (by decide) ((SK.out.below B10.out).more B10.out.size) ((SL.out.below B10.out).more B10.out.size) (by decide) (by decide) (by decide)
    rw [s_weight] at this
    exact this)
  go_wp2_with fail
  refine W10.out.mono ?_
  rintro e w11 ⟨rfl, hB11⟩
  have B11 := hid (B10.out.trans (hB11.mono B10.out.size))
  have S11 := hid ((S10.out.below hB11).more hB11.size)
  have T11 := hid ((T10.out.below hB11).more hB11.size)
  clear hB11 W10 S10 T10 B10 y0 y1 y2 yz X10 SK SL SB HP HO
  obtain ⟨w12, hw12⟩ : ∃ w12, w12 = (w11.alloc (Obj.cells #[.int .i64 1, .int .i64 2, .int .i64 0, .int .i64 1] 66)).alloc (Obj.cells #[.slice (some ⟨w11.heap.size, 0, none⟩) 2 2] 28) := ⟨_, rfl⟩
  have b12 := hid (show Below w11.heap.size w11 w12 by rw [hw12]; (repeat (first | exact Below.refl _ _ | assumption | refine below_drewN ?_ _ | refine Below.drew ?_ | refine Below.alloc ?_ (by (try simp); (try omega)) _ | refine Below.setCell ?_ (by (try simp); (try omega)) _)))
  have B12 := hid (B11.out.trans (b12.out.mono B11.out.size))
  have S12 := hid ((S11.out.below b12.out).more b12.out.size)
  have T12 := hid ((T11.out.below b12.out).more b12.out.size)
  have N12 := hid (show Blk w12 w11.heap.size 66 #[.int .i64 1, .int .i64 2, .int .i64 0, .int .i64 1] by rw [hw12]; exact (Blk.new w11 _ _).alloc _)
  have M12 := hid (show Blk w12 (w11.heap.size + 1) 28 #[.slice (some ⟨w11.heap.size, 0, none⟩) 2 2] by rw [hw12]; exact Blk.new_at (by simp))
  have C12 := hid (show Calls Tryz.prog 28 #[.slice A5 1 c5, .slice (some ⟨w11.heap.size + 1, 0, none⟩) 1 1] w12 (fun e w' => e = .returned (.bool true) ∧ Below w12.heap.size w12 w') from by
    have h := sameplans_any A5 (some ⟨w11.heap.size + 1, 0, none⟩) c5 1 [[((1 : Int), (2 : Int)), (0, 1)]] [[((1 : Int), (2 : Int)), (0, 1)]] w12 (by decide) (by decide) S12.out (slr_pl M12.out (fun k hk => by
      have : k = 0 := by simp at hk; omega
      subst this
      exact ⟨_, 2, rfl, Nat.le_refl 2, by decide, slr_t2 (l := [((1 : Int), (2 : Int)), (0, 1)]) N12.out (fun x hx => by simp at hx; rcases hx with rfl | rfl <;> exact ⟨⟨by decide, by decide⟩, ⟨by decide, by decide⟩⟩)⟩))
    simpa using h)
  clear b12 N12 M12 S11 T11 B11 S12
  go_wp2_with fail
  try rw [← hw12]
  clear hw12
  refine C12.out.mono ?_
  rintro e w13 ⟨rfl, hB13⟩
  have B13 := hid (B12.out.trans (hB13.mono B12.out.size))
  have T13 := hid ((T12.out.below hB13).more hB13.size)
  clear hB13 C12 B12 T12
  obtain ⟨w14, hw14⟩ : ∃ w14, w14 = ((w13.alloc (Obj.cells #[.int .i64 1, .int .i64 2] 66)).alloc (Obj.cells #[.int .i64 0, .int .i64 4] 66)).alloc (Obj.cells #[.slice (some ⟨w13.heap.size, 0, none⟩) 1 1, .slice (some ⟨w13.heap.size + 1, 0, none⟩) 1 1] 28) := ⟨_, rfl⟩
  have b14 := hid (show Below w13.heap.size w13 w14 by rw [hw14]; (repeat (first | exact Below.refl _ _ | assumption | refine below_drewN ?_ _ | refine Below.drew ?_ | refine Below.alloc ?_ (by (try simp); (try omega)) _ | refine Below.setCell ?_ (by (try simp); (try omega)) _)))
  have B14 := hid (B13.out.trans (b14.out.mono B13.out.size))
  have T14 := hid ((T13.out.below b14.out).more b14.out.size)
  have N14 := hid (show Blk w14 w13.heap.size 66 #[.int .i64 1, .int .i64 2] by rw [hw14]; exact ((Blk.new w13 _ _).alloc _).alloc _)
  have O14 := hid (show Blk w14 (w13.heap.size + 1) 66 #[.int .i64 0, .int .i64 4] by rw [hw14]; exact (Blk.new_at (by simp)).alloc _)
  have M14 := hid (show Blk w14 (w13.heap.size + 1 + 1) 28 #[.slice (some ⟨w13.heap.size, 0, none⟩) 1 1, .slice (some ⟨w13.heap.size + 1, 0, none⟩) 1 1] by rw [hw14]; exact Blk.new_at (by simp))
  have C14 := hid (show Calls Tryz.prog 28 #[.slice A9 2 c9, .slice (some ⟨w13.heap.size + 1 + 1, 0, none⟩) 2 2] w14 (fun e w' => e = .returned (.bool true) ∧ Below w14.heap.size w14 w') from by
    have h := sameplans_any A9 (some ⟨w13.heap.size + 1 + 1, 0, none⟩) c9 2 [[((1 : Int), (2 : Int))], [(0, 4)]] [[((1 : Int), (2 : Int))], [(0, 4)]] w14 (by decide) (by decide) T14.out (slr_pl M14.out (fun k hk => by
      have : k = 0 ∨ k = 1 := by simp at hk; omega
      rcases this with rfl | rfl
      · exact ⟨_, 1, rfl, Nat.le_refl 1, by decide, slr_t2 (l := [((1 : Int), (2 : Int))]) N14.out (fun x hx => by simp at hx; rcases hx with rfl; exact ⟨⟨by decide, by decide⟩, ⟨by decide, by decide⟩⟩)⟩
      · exact ⟨_, 1, rfl, Nat.le_refl 1, by decide, slr_t2 (l := [((0 : Int), (4 : Int))]) O14.out (fun x hx => by simp at hx; rcases hx with rfl; exact ⟨⟨by decide, by decide⟩, ⟨by decide, by decide⟩⟩)⟩))
    simpa using h)
  clear b14 N14 O14 M14 T13 B13
  go_wp2_with fail
  try rw [← hw14]
  clear hw14
  refine C14.out.mono ?_
  rintro e w15 ⟨rfl, hB15⟩
  have B15 := hid (B14.out.trans (hB15.mono B14.out.size))
  clear hB15 C14 B14 T14
  go_wp2_with fail
  go_ret
  exact ⟨rfl, B3.out.trans (B15.out.mono B3.out.size)⟩
end Go.Proofs.YtfpehakllnkaeaaGreatDoor
