
/- Seam: New, for all arguments. -/
import Derived.Test.YtfofmbmmighdiaaDoorSeamF
set_option linter.unusedSimpArgs false
set_option linter.unusedVariables false
namespace Go.Proofs.YtfofmbmmighdiaaDoor
open Go.RowKit Go.IntWalk

set_option maxRecDepth 100000 in
set_option maxHeartbeats 1000000 in
theorem new_any (me : Int) (A : Option Addr) (c : Nat) (mine : List Bool) (w : World) (hl : mine.length ≤ maxLen) (hs : SlR w w.heap.size A mine) :
    Calls Tryd.prog 15 #[.int .i64 me, .slice A mine.length c] w (NewRes w me (newL me mine)) := by
  unfold maxLen at hl
  by_cases hm : me = 0 ∨ me = 1
  · by_cases h2 : mine.length ≤ 200
    · rw [newL, if_pos ⟨hm, h2⟩]
      exact new_yes me A c mine w hm h2 hs
    · rw [newL, if_neg (fun h => h2 h.2)]
      have h3 : (200 : Int) < mine.length := by omega
      clear h2
      rcases hm with rfl | rfl
      all_goals
        go_enter Tryd.func15, Tryd.ntmps15
        go_wp2_with fail
        go_ret
        exact ⟨rfl, Below.refl _ _⟩
  · rw [newL, if_neg (fun h => hm h.1)]
    have h0 : (me == 0) = false := by simp; omega
    have h1 : (me == 1) = false := by simp; omega
    have h0' : (me != 0) = true := by simp; omega
    have h1' : (me != 1) = true := by simp; omega
    clear hm
    go_enter Tryd.func15, Tryd.ntmps15
    go_wp2_with fail
    go_ret
    exact ⟨rfl, Below.refl _ _⟩
end Go.Proofs.YtfofmbmmighdiaaDoor
