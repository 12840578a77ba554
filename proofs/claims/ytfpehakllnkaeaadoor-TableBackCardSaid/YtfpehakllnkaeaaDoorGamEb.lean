
/- Game: Ranks. -/
import Derived.Test.YtfpehakllnkaeaaDoorGamEp
import Derived.Test.YtfpehakllnkaeaaDoorGamDb
set_option linter.unusedSimpArgs false
set_option linter.unusedVariables false
namespace Go.Proofs.YtfpehakllnkaeaaDoor
open Go.RowKit Go.Shelf
attribute [local go_sem] Oper.semAt_some

theorem bi_len {goal : List Bool} {fm : List (Nat × List Nat)} {s : St} {dn : Nat → Nat → Bool} {c : Int} (h : BI goal fm s dn c) : s.Q.length ≤ goal.length := by
  have := List.Nodup.length_le_of_subset (l₂ := List.range goal.length) h.nd (fun q hq => List.mem_range.2 ((h.qr q).1 hq).1)
  simpa using this
end Go.Proofs.YtfpehakllnkaeaaDoor
