/-
  No cell of these rows narrows 'for every input' (looked for: loops, veiled, ifaces, maps, wideKeys, modest, calm, conditions, laid).
  DERIVED. THE GIVEN ROWS OF THIS SEAT. 4 by the template 'for every input the law returns true; each argument reads behind the call as it read before'; 0 by the template 'total and deterministic' (their statements: YtmffdhfpfijocaaTotals.lean).
  GIVEN WITH THE SEED: the statements are not yours to turn. If you find one false, say at which input.
  Laid BY PROGRAM, IN A SANDBOX (cutbox-rows.mjs): the forced cells as the released guide's own fill.sh prints them over the translation de0fcba001e993c6… (all of the seat's roots in one cut). By AI agents, Wed Nov 11 2026. No macro, syntax, notation, axiom, sorry.
-/
import Derived.Test.YtmffdhfpfijocaaChecked
import GoSem.Claim
import GoSem.ClaimJoined
import GoSem.ClaimMapViews
import Derived.JoinedTies
import Derived.KernelRfl
namespace Go.Proofs.Ytmffdhfpfijocaa
/- THE CELL 'sum', in the pinned program and in every row, IS THE sha256 OF THE DUMP (.gsa) THAT YtmffdhfpfijocaaProg.lean LOADS. Nothing in Lean hashes anything: it is a label: what it is worth is what the hold of that sum in a sandbox is worth. -/
noncomputable def Try.pinned : Pinned := { name := "ytmffdhfpfijocaa", sum := "de0fcba001e993c67b406fdba7cde6d4e739664f5cf3bb3642c9e48bdc66556d", checked := Try.checked }
namespace Rows
def none {H : Type} : Left H := { results := [], args := [] }

/-- 'taquinlaw35.StockFirst': WHATEVER THE INPUT: true; the input reads as it did. -/
def stockFirstSpec : ChangeSpec := { name := "stockFirst", fn := fun _ => fun
  | [d1, d2] => { results := [.lit (.bool true)], args := [d1, d2] }
  | _ => none }
def stockFirstRow : OpenClaim := { program := "ytmffdhfpfijocaa", sum := "de0fcba001e993c67b406fdba7cde6d4e739664f5cf3bb3642c9e48bdc66556d", func := "taquin/taquinlaw35.StockFirst", spec := "stockFirst", unfollowed := true, recurses := true, apart := false }
def StockFirstSaid : Prop := stockFirstRow.holds Try.pinned (OpenSpec.ofChange stockFirstSpec)

/-- ITS FALSE NEIGHBOUR: 'it returns false'. Refute it at one input. -/
def stockFirstWrong : ChangeSpec := { name := "stockFirst", fn := fun _ => fun
  | [d1, d2] => { results := [.lit (.bool false)], args := [d1, d2] }
  | _ => none }
def StockFirstWrongFalsely : Prop := stockFirstRow.holds Try.pinned (OpenSpec.ofChange stockFirstWrong)

/-- 'taquinlaw35.StockPlans': WHATEVER THE INPUT: true; the input reads as it did. -/
def stockPlansSpec : ChangeSpec := { name := "stockPlans", fn := fun _ => fun
  | [d1, d2] => { results := [.lit (.bool true)], args := [d1, d2] }
  | _ => none }
def stockPlansRow : OpenClaim := { program := "ytmffdhfpfijocaa", sum := "de0fcba001e993c67b406fdba7cde6d4e739664f5cf3bb3642c9e48bdc66556d", func := "taquin/taquinlaw35.StockPlans", spec := "stockPlans", unfollowed := true, recurses := true, apart := false }
def StockPlansSaid : Prop := stockPlansRow.holds Try.pinned (OpenSpec.ofChange stockPlansSpec)

/-- ITS FALSE NEIGHBOUR: 'it returns false'. Refute it at one input. -/
def stockPlansWrong : ChangeSpec := { name := "stockPlans", fn := fun _ => fun
  | [d1, d2] => { results := [.lit (.bool false)], args := [d1, d2] }
  | _ => none }
def StockPlansWrongFalsely : Prop := stockPlansRow.holds Try.pinned (OpenSpec.ofChange stockPlansWrong)

/-- 'taquinlaw35.StockPicks': WHATEVER THE INPUT: true; the input reads as it did. -/
def stockPicksSpec : ChangeSpec := { name := "stockPicks", fn := fun _ => fun
  | [d1, d2, d3, d4] => { results := [.lit (.bool true)], args := [d1, d2, d3, d4] }
  | _ => none }
def stockPicksRow : OpenClaim := { program := "ytmffdhfpfijocaa", sum := "de0fcba001e993c67b406fdba7cde6d4e739664f5cf3bb3642c9e48bdc66556d", func := "taquin/taquinlaw35.StockPicks", spec := "stockPicks", unfollowed := true, recurses := true, apart := false }
def StockPicksSaid : Prop := stockPicksRow.holds Try.pinned (OpenSpec.ofChange stockPicksSpec)

/-- ITS FALSE NEIGHBOUR: 'it returns false'. Refute it at one input. -/
def stockPicksWrong : ChangeSpec := { name := "stockPicks", fn := fun _ => fun
  | [d1, d2, d3, d4] => { results := [.lit (.bool false)], args := [d1, d2, d3, d4] }
  | _ => none }
def StockPicksWrongFalsely : Prop := stockPicksRow.holds Try.pinned (OpenSpec.ofChange stockPicksWrong)

/-- 'taquinlaw35.StockRecalls': WHATEVER THE INPUT: true; the input reads as it did. -/
def stockRecallsSpec : ChangeSpec := { name := "stockRecalls", fn := fun _ => fun
  | [d1, d2, d3, d4] => { results := [.lit (.bool true)], args := [d1, d2, d3, d4] }
  | _ => none }
def stockRecallsRow : OpenClaim := { program := "ytmffdhfpfijocaa", sum := "de0fcba001e993c67b406fdba7cde6d4e739664f5cf3bb3642c9e48bdc66556d", func := "taquin/taquinlaw35.StockRecalls", spec := "stockRecalls", unfollowed := true, recurses := true, apart := false }
def StockRecallsSaid : Prop := stockRecallsRow.holds Try.pinned (OpenSpec.ofChange stockRecallsSpec)

/-- ITS FALSE NEIGHBOUR: 'it returns false'. Refute it at one input. -/
def stockRecallsWrong : ChangeSpec := { name := "stockRecalls", fn := fun _ => fun
  | [d1, d2, d3, d4] => { results := [.lit (.bool false)], args := [d1, d2, d3, d4] }
  | _ => none }
def StockRecallsWrongFalsely : Prop := stockRecallsRow.holds Try.pinned (OpenSpec.ofChange stockRecallsWrong)

/- THE SECOND FORM. 'bulk': how many values and letters a reading holds, each counted each time it is reached (what is shared counts as often as it is met; a slice's spare places count too). A statement '..UptoSaid' is the law's where the arguments, and the package variables that the reading takes, are together of bulk at most 1048576: NARROWER than '..Said'. Prove '..Said' where nothing that the law and all that it calls make is longer than what came in: it says more and counts as full. Else prove '..UptoSaid'. A law counts once. -/
mutual
def uptoBulk {H : Type} : DataW H → Nat
  | .lit (.string bytes) => bytes.length + 1
  | .lit _ => 1
  | .nil => 1
  | .ptr d => uptoBulk d + 1
  | .slice elems spare => uptoBulkAll elems + uptoBulkAll spare + 1
  | .agg parts => uptoBulkAll parts + 1
  | .iface _ d => uptoBulk d + 1
  | .map entries => uptoBulkEntries entries + 1
  | .held _ => 1
def uptoBulkAll {H : Type} : List (DataW H) → Nat
  | [] => 0
  | d :: r => uptoBulk d + uptoBulkAll r
def uptoBulkEntries {H : Type} : List (Lit × DataW H) → Nat
  | [] => 0
  | x :: r => uptoBulkEntry x + uptoBulkEntries r
def uptoBulkEntry {H : Type} : Lit × DataW H → Nat
  | (.string bytes, d) => bytes.length + uptoBulk d + 1
  | (_, d) => uptoBulk d + 1
 end
def uptoSmall : (H : Type) → List (DataW H) → Bool := fun _ ds => decide (uptoBulkAll ds ≤ 1048576)
def OpenSpec.upto (s : _root_.Go.ChangeSpec) : _root_.Go.OpenSpec := { _root_.Go.OpenSpec.ofChange s with cond := some uptoSmall }

/-- 'taquinlaw35.StockFirst', WHERE WHAT IT READS IS OF BULK AT MOST 1048576: true; the input reads as it did. -/
def stockFirstUptoRow : OpenClaim := { program := "ytmffdhfpfijocaa", sum := "de0fcba001e993c67b406fdba7cde6d4e739664f5cf3bb3642c9e48bdc66556d", func := "taquin/taquinlaw35.StockFirst", spec := "stockFirst", unfollowed := true, recurses := true, apart := false, narrowed := true }
def StockFirstUptoSaid : Prop := stockFirstUptoRow.holds Try.pinned (OpenSpec.upto stockFirstSpec)

/-- 'taquinlaw35.StockPlans', WHERE WHAT IT READS IS OF BULK AT MOST 1048576: true; the input reads as it did. -/
def stockPlansUptoRow : OpenClaim := { program := "ytmffdhfpfijocaa", sum := "de0fcba001e993c67b406fdba7cde6d4e739664f5cf3bb3642c9e48bdc66556d", func := "taquin/taquinlaw35.StockPlans", spec := "stockPlans", unfollowed := true, recurses := true, apart := false, narrowed := true }
def StockPlansUptoSaid : Prop := stockPlansUptoRow.holds Try.pinned (OpenSpec.upto stockPlansSpec)

/-- 'taquinlaw35.StockPicks', WHERE WHAT IT READS IS OF BULK AT MOST 1048576: true; the input reads as it did. -/
def stockPicksUptoRow : OpenClaim := { program := "ytmffdhfpfijocaa", sum := "de0fcba001e993c67b406fdba7cde6d4e739664f5cf3bb3642c9e48bdc66556d", func := "taquin/taquinlaw35.StockPicks", spec := "stockPicks", unfollowed := true, recurses := true, apart := false, narrowed := true }
def StockPicksUptoSaid : Prop := stockPicksUptoRow.holds Try.pinned (OpenSpec.upto stockPicksSpec)

/-- 'taquinlaw35.StockRecalls', WHERE WHAT IT READS IS OF BULK AT MOST 1048576: true; the input reads as it did. -/
def stockRecallsUptoRow : OpenClaim := { program := "ytmffdhfpfijocaa", sum := "de0fcba001e993c67b406fdba7cde6d4e739664f5cf3bb3642c9e48bdc66556d", func := "taquin/taquinlaw35.StockRecalls", spec := "stockRecalls", unfollowed := true, recurses := true, apart := false, narrowed := true }
def StockRecallsUptoSaid : Prop := stockRecallsUptoRow.holds Try.pinned (OpenSpec.upto stockRecallsSpec)

end Rows
end Go.Proofs.Ytmffdhfpfijocaa
