
/- Wire: the reader's Num. -/
import Derived.Test.YtbefmjodpndndaaDoorWireD
set_option linter.unusedSimpArgs false
set_option linter.unusedVariables false
namespace Go.Proofs.YtbefmjodpndndaaDoor
open Go.RowKit Go.IntWalk

set_option maxRecDepth 100000 in
set_option maxHeartbeats 400000 in
theorem num_any (b : Nat) (l : List UInt8) (bad : Bool) (w : World) (h : Rd w b l bad) (hl : l.length ≤ 1000000000000) (he : Env w) :
    Calls Tryd.prog 13 #[.pointer (some ⟨b, 0, none⟩)] w (RdRes w b bad (numL l 59 0)) := by
  have H := hid (number_any b l bad 59 0 w h hl he)
  cases hr : numL l 59 0 with
  | none =>
    rw [hr] at H
    go_enter Tryd.func13, Tryd.ntmps13
    go_wp2_with fail
    refine H.out.mono ?_
    rintro e w1 ⟨rfl, h1, h2⟩
    go_wp2_with fail
    go_ret
    exact ⟨rfl, h1, h2⟩
  | some x =>
    obtain ⟨v, l'⟩ := x
    rw [hr] at H
    go_enter Tryd.func13, Tryd.ntmps13
    go_wp2_with fail
    refine H.out.mono ?_
    rintro e w1 ⟨rfl, h1, h2⟩
    go_wp2_with fail
    go_ret
    exact ⟨rfl, h1, h2⟩

end Go.Proofs.YtbefmjodpndndaaDoor
