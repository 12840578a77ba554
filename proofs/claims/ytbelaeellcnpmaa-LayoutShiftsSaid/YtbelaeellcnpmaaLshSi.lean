
/- Layouts, shifts: slices.BinarySearch, laid at this dump (printed by the kit's shelf tools). -/
import Derived.Ground.Names2Prog
import Derived.Shelf.Slices.SearchI
import Derived.Shelf.Slices.Empties
import Derived.Test.YtbelaeellcnpmaaLshD
set_option linter.unusedSimpArgs false
set_option linter.unusedVariables false
namespace Go.Proofs.Ytbelaeellcnpmaa
open Go.Shelf
def laysBs_ren : Go.Shelf.Ren := ⟨fun | 25 => 27 | 31 => 33 | 32 => 34 | 37 => 44 | n => n, fun | 22 => 22 | 3 => 3 | 4 => 4 | 40 => 62 | 0 => 0 | n => n, fun | n => n⟩
theorem laysBs : Go.Proofs.Lays2.n25 Try.prog laysBs_ren := {
  mixed := by kernel_rfl
  f25 := Try.func27.trans (congrArg some (by kernel_rfl))
  f31 := Try.func33.trans (congrArg some (by kernel_rfl))
  f32 := Try.func34.trans (congrArg some (by kernel_rfl))
  f37 := Try.func44.trans (congrArg some (by kernel_rfl))
  t0 := Try.underlying0
  a0 := Try.isAgg0
  z0 := Try.sizeOf0
  v0 := Try.zeroValue0
  t3 := Try.underlying3
  a3 := Try.isAgg3
  z3 := Try.sizeOf3
  v3 := Try.zeroValue3
  t4 := Try.underlying4
  a4 := Try.isAgg4
  z4 := Try.sizeOf4
  v4 := Try.zeroValue4
  t22 := Try.underlying22
  a22 := Try.isAgg22
  z22 := Try.sizeOf22
  v22 := Try.zeroValue22
  t40 := Try.underlying62
  a40 := Try.isAgg62
  z40 := Try.sizeOf62
  v40 := Try.zeroValue62 }
end Go.Proofs.Ytbelaeellcnpmaa
