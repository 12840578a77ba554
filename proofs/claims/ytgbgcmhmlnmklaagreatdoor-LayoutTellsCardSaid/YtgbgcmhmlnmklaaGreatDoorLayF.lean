
/- Layouts: the examples that each law checks first. -/
import Derived.Test.YtgbgcmhmlnmklaaGreatDoorLayE
set_option linter.unusedSimpArgs false
set_option linter.unusedVariables false
namespace Go.Proofs.YtgbgcmhmlnmklaaGreatDoor
open Go.RowKit Go.IntWalk

theorem right3a : RightN [true, true, false] 0 := ⟨by decide, by decide, by decide, rfl⟩
theorem right3b : RightN [true, false, true] 0 := ⟨by decide, by decide, by decide, rfl⟩
theorem right3c : RightN [false, true, true] 2 := ⟨by decide, by decide, by decide, rfl⟩
theorem lit3 {w : World} {g : Nat} {t : TypeId} (a b c : Bool) (h : Blk w g t #[.bool a, .bool b, .bool c]) : SlR w w.heap.size (some ⟨g, 0, none⟩) [a, b, c] := Blk.bools h h.lt

theorem rank3 {w : World} {g : Nat} {ty : TypeId} (a b c : Bool) (t : Nat) (T r : Int) (h : Blk w g ty #[.bool a, .bool b, .bool c]) (hR : RightN [a, b, c] t) (hT : T = t) (hr : r = rankN [a, b, c] t) :
    Calls Tryz.prog 19 #[.agg #[.slice (some ⟨g, 0, none⟩) 3 3, .int .i64 T]] w fun e w' => e = .returned (.int .i64 r) ∧ Below w.heap.size w w' := by
  subst hT hr
  exact rank_any (some ⟨g, 0, none⟩) 3 [a, b, c] t w (lit3 a b c h) hR
theorem same3 {w : World} {g g' : Nat} {ty : TypeId} (a b c : Bool) (t : Int) (h : SlR w w.heap.size (some ⟨g, 0, none⟩) [a, b, c]) (h' : Blk w g' ty #[.bool a, .bool b, .bool c]) :
    Calls Tryz.prog 9 #[.agg #[.slice (some ⟨g, 0, none⟩) 3 3, .int .i64 t], .agg #[.slice (some ⟨g', 0, none⟩) 3 3, .int .i64 t]] w fun e w' => e = .returned (.bool true) ∧ Below w.heap.size w w' :=
  (same_any (some ⟨g, 0, none⟩) (some ⟨g', 0, none⟩) 3 3 [a, b, c] [a, b, c] t t w (by simp [maxLen]) (by simp [maxLen]) h (lit3 a b c h')).mono fun _ _ ⟨h1, h2⟩ => ⟨by rw [h1]; simp [sameL], h2⟩

set_option maxRecDepth 100000 in
set_option maxHeartbeats 1000000 in
theorem small_any (w : World) :
    Calls Tryz.prog 4 #[] w fun e w' => e = .returned (.bool true) ∧ Below w.heap.size w w' := by
  have hz := zeroLayout
  go_enter Tryz.func4, Tryz.ntmps4
  go_wp2_with fail
  refine (count_any 3 2 _).mono ?_
  rintro e w1 ⟨rfl, hB1⟩
  rw [show countL 3 2 = 6 by decide]
  go_wp2_with fail
  refine (rank3 true true false 0 0 0 (Blk.new _ _ _) right3a rfl (by decide)).mono ?_
  rintro e w2 ⟨rfl, hB2⟩
  have hb2 : Below w.heap.size w w2 := hB1.trans ((Below.alloc (Below.refl _ _) hB1.size _).trans (hB2.mono (by simp; exact Nat.le_succ_of_le hB1.size)))
  clear hB1 hB2
  go_wp2_with fail
  refine (rank3 true false true 0 0 1 (Blk.new _ _ _) right3b rfl (by decide)).mono ?_
  rintro e w3 ⟨rfl, hB3⟩
  have hb3 : Below w.heap.size w w3 := hb2.trans ((Below.alloc (Below.refl _ _) hb2.size _).trans (hB3.mono (by simp; exact Nat.le_succ_of_le hb2.size)))
  clear hb2 hB3
  go_wp2_with fail
  refine (rank3 false true true 2 2 5 (Blk.new _ _ _) right3c rfl (by decide)).mono ?_
  rintro e w4 ⟨rfl, hB4⟩
  have hb4 : Below w.heap.size w w4 := hb3.trans ((Below.alloc (Below.refl _ _) hb3.size _).trans (hB4.mono (by simp; exact Nat.le_succ_of_le hb3.size)))
  clear hb3 hB4
  go_wp2_with fail
  refine (unrank_yes 3 2 2 _ (by decide) (by decide) (by decide) (by decide) (by decide)).mono ?_
  rintro e w5 ⟨g, rfl, hs5, hB5⟩
  rw [show unrankN 3 2 2 = [true, true, false] by decide] at hs5
  rw [show (2 / binom (3 - 1) (2 - 1) : Nat) = 1 by decide]
  have hb5 : Below w.heap.size w w5 := hb4.trans (hB5.mono hb4.size)
  clear hb4 hB5
  go_wp2_with fail
  refine (same3 true true false 1 (((hs5.alloc (Nat.le_refl _) _).alloc (by simp) _).more (by simp; omega)) (Blk.new_at (by simp))).mono ?_
  rintro e w6 ⟨rfl, hB6⟩
  have hb6 : Below w.heap.size w w6 := (Below.alloc (Below.alloc hb5 hb5.size _) (by simp; exact Nat.le_succ_of_le hb5.size) _).trans (hB6.mono (by simp; have := hb5.size; omega))
  go_wp2
  go_ret
  exact ⟨rfl, hb6⟩
end Go.Proofs.YtgbgcmhmlnmklaaGreatDoor
