
/- Wire: the reference's Num, Int, Text, Nums, Texts. -/
import Derived.Test.YtbefmjodpndndaaDoorWire4
set_option linter.unusedSimpArgs false
set_option linter.unusedVariables false
namespace Go.Proofs.YtbefmjodpndndaaDoor
open Go.RowKit Go.IntWalk

theorem numL_zero (l : List UInt8) (en : UInt8) : numL l en 0 = match numL l en (-9223372036854775808) with
    | some (v, r) => if v < 0 then none else some (v, r)
    | none => none := by
  unfold numL
  split
  · rfl
  · cases h : Lib.atoiAll ((l.take 21).take (Lib.indexByte (l.take 21) en).toNat) with
    | ok v =>
      have hb := Lib.atoiAll_bounds h
      simp only
      by_cases h1 : Lib.itoa v = (l.take 21).take (Lib.indexByte (l.take 21) en).toNat
      · by_cases h2 : v < 0
        · rw [if_neg (by omega), if_pos ⟨h1, hb.1⟩]; simp [h2]
        · rw [if_pos ⟨h1, by omega⟩, if_pos ⟨h1, hb.1⟩]; simp [h2]
      · rw [if_neg (fun h => h1 h.1), if_neg (fun h => h1 h.1)]
    | _ => rfl
end Go.Proofs.YtbefmjodpndndaaDoor
