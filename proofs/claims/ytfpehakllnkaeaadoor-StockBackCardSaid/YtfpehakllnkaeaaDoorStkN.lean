
/- Stock: Pick. -/
import Derived.Test.YtfpehakllnkaeaaDoorStkM
set_option linter.unusedSimpArgs false
set_option linter.unusedVariables false
namespace Go.Proofs.YtfpehakllnkaeaaDoor
open Go.RowKit Go.IntWalk

/-- What Pick does. -/
def pickGo : List Tk → List Bx → Option (List Bx)
  | [], bs => some bs
  | t :: ts, bs => if cntAt bs t.1.toNat < t.2 then none else pickGo ts (subAt bs t.1.toNat t.2)
def pickL (bs : List Bx) (ts : List Tk) : List Bx × Int :=
  if ts.any (fun x => !btw x.1 0 ((bs.length : Int) - 1)) then ([], 4) else if ts.any (fun x => decide (x.2 < 1)) then ([], 1) else match pickGo ts bs with
    | none => ([], 22)
    | some l => (l, 0)
def PickR (w : World) (bs : List Bx) (ts : List Tk) (e : Ending) (w' : World) : Prop :=
  ∃ (A : Option Addr) (c : Nat), e = .returned (.tuple #[.slice A (pickL bs ts).1.length c, .int .i64 (pickL bs ts).2]) ∧ (pickL bs ts).1.length ≤ maxLen ∧ SlR w' w'.heap.size A (pickL bs ts).1 ∧ Below w.heap.size w w'
end Go.Proofs.YtfpehakllnkaeaaDoor
