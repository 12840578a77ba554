
/- Wire: the reader's Nums. -/
import Derived.Test.YteljfpcmpdpehaaGreatDoorWireK
set_option linter.unusedSimpArgs false
set_option linter.unusedVariables false
namespace Go.Proofs.YteljfpcmpdpehaaGreatDoor
open Go.RowKit Go.IntWalk

set_option maxRecDepth 100000 in
set_option maxHeartbeats 1000000 in
theorem numsR_any (w0 : World) (he : Env w0) (b : Nat) (hb0 : w0.heap.size ≤ b) (l : List UInt8) (bad : Bool) (w : World) (hbw : Below w0.heap.size w0 w) (h : Rd w b l bad) (hbad : bad = true → l = []) (hl : l.length ≤ 1000000000000) :
    Calls Tryz.prog 38 #[.pointer (some ⟨b, 0, none⟩)] w (LiRes w b (listL fI l)) := by
  have H := hid (itemsI_any w0 he b hb0 l bad w hbw h hbad hl)
  cases hr : listL fI l with
  | none =>
    rw [hr] at H
    go_enter Tryz.func38, Tryz.ntmps38
    go_wp2_with fail
    refine H.out.mono ?_
    rintro e w1 ⟨rfl, h1, h2⟩
    go_wp2_with fail
    go_ret
    exact ⟨rfl, h1, h2⟩
  | some x =>
    obtain ⟨xs, l'⟩ := x
    rw [hr] at H
    go_enter Tryz.func38, Tryz.ntmps38
    go_wp2_with fail
    refine H.out.mono ?_
    rintro e w1 ⟨v, rfl, h1, h2, h3⟩
    go_wp2_with fail
    go_ret
    exact ⟨v, rfl, h1, h2, h3⟩
end Go.Proofs.YteljfpcmpdpehaaGreatDoor
