
/- Wire, plain: values and their encodings. -/
import Derived.Test.YtbefmjodpndndaaDoorWireR
import Derived.Test.YtbefmjodpndndaaDoorWireE
set_option linter.unusedSimpArgs false
set_option linter.unusedVariables false
namespace Go.Proofs.YtbefmjodpndndaaDoor
open Go.RowKit Go.IntWalk

/-! ### Values -/
def kd (n : Int) : Int := n % 5
theorem kd_bd (n : Int) : 0 ≤ kd n ∧ kd n ≤ 4 := by unfold kd; omega
def nn (n : Int) : Int := if n < 0 then -(n + 1) else n
theorem nn_bd (n : Int) (h : I64 n) : 0 ≤ nn n ∧ I64 (nn n) := by
  have := h.bd
  unfold nn I64
  split <;> omega
/-- The encoding of a value. -/
def encV (v : Val) : List UInt8 :=
  if kd v.1 = 0 then encI (nn v.2.1) else if kd v.1 = 1 then encI v.2.1 else if kd v.1 = 2 then encT v.2.2.1.data.toList else if kd v.1 = 3 then encL (v.2.2.2.1.map encI) else encL (v.2.2.2.2.map encB)
end Go.Proofs.YtbefmjodpndndaaDoor
