
/- Seam: the law's 'do'. -/
import Derived.Test.YtfofmbmmighdiaaDoorSeamD
set_option linter.unusedSimpArgs false
set_option linter.unusedVariables false
namespace Go.Proofs.YtfofmbmmighdiaaDoor
open Go.RowKit Go.IntWalk

/-- A call of a desk: what it does, the pass, whether it is taken. -/
abbrev Opp := Int × Pas × Bool
def opK (d : Int) : Int := bits .and .i64 d 7
def doL (rs : List Rob) (o : Opp) : List Rob :=
  if opK o.1 = 0 ∨ opK o.1 = 1 then (offerL rs o.2.1.2.1).1 else
  if opK o.1 = 5 ∨ opK o.1 = 6 ∨ opK o.1 = 7 then (hearL rs o.2.1 o.2.2).1 else rs
def DoRes (w : World) (base b : Nat) (v : Value) (me : Int) (rs : List Rob) (e : Ending) (w' : World) : Prop :=
  e = .returned (.tuple #[]) ∧ Dk w' base b v me rs ∧ w.grownBy w' v.ownBlock

end Go.Proofs.YtfofmbmmighdiaaDoor
