/-
  No cell of these rows narrows 'for every input' (looked for: loops, veiled, ifaces, maps, wideKeys, modest, calm, conditions, laid).
  DERIVED. THE GIVEN ROWS OF THIS SEAT. 3 by the template 'for every input the law returns true; each argument reads behind the call as it read before'; 0 by the template 'total and deterministic' (their statements: YtdjjhflhdhihcaaTotals.lean).
  GIVEN WITH THE SEED: the statements are not yours to turn. If you find one false, say at which input.
  Laid BY PROGRAM, IN A SANDBOX (cutbox-rows.mjs): the forced cells as the released guide's own fill.sh prints them over the translation 5a2db01e7b090dc6… (all of the seat's roots in one cut). By AI agents, Wed Nov 11 2026. No macro, syntax, notation, axiom, sorry.
-/
import Derived.Test.YtdjjhflhdhihcaaChecked
import GoSem.Claim
import GoSem.ClaimJoined
import GoSem.ClaimMapViews
import Derived.JoinedTies
import Derived.KernelRfl
namespace Go.Proofs.Ytdjjhflhdhihcaa
/- THE CELL 'sum', in the pinned program and in every row, IS THE sha256 OF THE DUMP (.gsa) THAT YtdjjhflhdhihcaaProg.lean LOADS. Nothing in Lean hashes anything: it is a label: what it is worth is what the hold of that sum in a sandbox is worth. -/
noncomputable def Try.pinned : Pinned := { name := "ytdjjhflhdhihcaa", sum := "5a2db01e7b090dc65b685e50e371c22024a0f450eaa60fd696fd5cdf373d5daf", checked := Try.checked }
namespace Rows
def none {H : Type} : Left H := { results := [], args := [] }

/-- 'taquinlaw31.TableRefuses': WHATEVER THE INPUT: true; the input reads as it did. -/
def tableRefusesSpec : ChangeSpec := { name := "tableRefuses", fn := fun _ => fun
  | [d1, d2, d3, d4] => { results := [.lit (.bool true)], args := [d1, d2, d3, d4] }
  | _ => none }
def tableRefusesRow : OpenClaim := { program := "ytdjjhflhdhihcaa", sum := "5a2db01e7b090dc65b685e50e371c22024a0f450eaa60fd696fd5cdf373d5daf", func := "taquin/taquinlaw31.TableRefuses", spec := "tableRefuses", unfollowed := true, recurses := true, apart := false }
def TableRefusesSaid : Prop := tableRefusesRow.holds Try.pinned (OpenSpec.ofChange tableRefusesSpec)

/-- ITS FALSE NEIGHBOUR: 'it returns false'. Refute it at one input. -/
def tableRefusesWrong : ChangeSpec := { name := "tableRefuses", fn := fun _ => fun
  | [d1, d2, d3, d4] => { results := [.lit (.bool false)], args := [d1, d2, d3, d4] }
  | _ => none }
def TableRefusesWrongFalsely : Prop := tableRefusesRow.holds Try.pinned (OpenSpec.ofChange tableRefusesWrong)

/-- 'taquinlaw31.TableSolved': WHATEVER THE INPUT: true; the input reads as it did. -/
def tableSolvedSpec : ChangeSpec := { name := "tableSolved", fn := fun _ => fun
  | [d1, d2] => { results := [.lit (.bool true)], args := [d1, d2] }
  | _ => none }
def tableSolvedRow : OpenClaim := { program := "ytdjjhflhdhihcaa", sum := "5a2db01e7b090dc65b685e50e371c22024a0f450eaa60fd696fd5cdf373d5daf", func := "taquin/taquinlaw31.TableSolved", spec := "tableSolved", unfollowed := true, recurses := true, apart := false }
def TableSolvedSaid : Prop := tableSolvedRow.holds Try.pinned (OpenSpec.ofChange tableSolvedSpec)

/-- ITS FALSE NEIGHBOUR: 'it returns false'. Refute it at one input. -/
def tableSolvedWrong : ChangeSpec := { name := "tableSolved", fn := fun _ => fun
  | [d1, d2] => { results := [.lit (.bool false)], args := [d1, d2] }
  | _ => none }
def TableSolvedWrongFalsely : Prop := tableSolvedRow.holds Try.pinned (OpenSpec.ofChange tableSolvedWrong)

/-- 'taquinlaw31.TableNeeds': WHATEVER THE INPUT: true; the input reads as it did. -/
def tableNeedsSpec : ChangeSpec := { name := "tableNeeds", fn := fun _ => fun
  | [d1, d2, d3, d4, d5] => { results := [.lit (.bool true)], args := [d1, d2, d3, d4, d5] }
  | _ => none }
def tableNeedsRow : OpenClaim := { program := "ytdjjhflhdhihcaa", sum := "5a2db01e7b090dc65b685e50e371c22024a0f450eaa60fd696fd5cdf373d5daf", func := "taquin/taquinlaw31.TableNeeds", spec := "tableNeeds", unfollowed := true, recurses := true, apart := false }
def TableNeedsSaid : Prop := tableNeedsRow.holds Try.pinned (OpenSpec.ofChange tableNeedsSpec)

/-- ITS FALSE NEIGHBOUR: 'it returns false'. Refute it at one input. -/
def tableNeedsWrong : ChangeSpec := { name := "tableNeeds", fn := fun _ => fun
  | [d1, d2, d3, d4, d5] => { results := [.lit (.bool false)], args := [d1, d2, d3, d4, d5] }
  | _ => none }
def TableNeedsWrongFalsely : Prop := tableNeedsRow.holds Try.pinned (OpenSpec.ofChange tableNeedsWrong)

/- THE SECOND FORM. 'bulk': how many values and letters a reading holds, each counted each time it is reached (what is shared counts as often as it is met; a slice's spare places count too). A statement '..UptoSaid' is the law's where the arguments, and the package variables that the reading takes, are together of bulk at most 1048576: NARROWER than '..Said'. Prove '..Said' where nothing that the law and all that it calls make is longer than what came in: it says more and counts as full. Else prove '..UptoSaid'. A law counts once. -/
mutual
def uptoBulk {H : Type} : DataW H → Nat
  | .lit (.string bytes) => bytes.length + 1
  | .lit _ => 1
  | .nil => 1
  | .ptr d => uptoBulk d + 1
  | .slice elems spare => uptoBulkAll elems + uptoBulkAll spare + 1
  | .agg parts => uptoBulkAll parts + 1
  | .iface _ d => uptoBulk d + 1
  | .map entries => uptoBulkEntries entries + 1
  | .held _ => 1
def uptoBulkAll {H : Type} : List (DataW H) → Nat
  | [] => 0
  | d :: r => uptoBulk d + uptoBulkAll r
def uptoBulkEntries {H : Type} : List (Lit × DataW H) → Nat
  | [] => 0
  | x :: r => uptoBulkEntry x + uptoBulkEntries r
def uptoBulkEntry {H : Type} : Lit × DataW H → Nat
  | (.string bytes, d) => bytes.length + uptoBulk d + 1
  | (_, d) => uptoBulk d + 1
 end
def uptoSmall : (H : Type) → List (DataW H) → Bool := fun _ ds => decide (uptoBulkAll ds ≤ 1048576)
def OpenSpec.upto (s : _root_.Go.ChangeSpec) : _root_.Go.OpenSpec := { _root_.Go.OpenSpec.ofChange s with cond := some uptoSmall }

/-- 'taquinlaw31.TableRefuses', WHERE WHAT IT READS IS OF BULK AT MOST 1048576: true; the input reads as it did. -/
def tableRefusesUptoRow : OpenClaim := { program := "ytdjjhflhdhihcaa", sum := "5a2db01e7b090dc65b685e50e371c22024a0f450eaa60fd696fd5cdf373d5daf", func := "taquin/taquinlaw31.TableRefuses", spec := "tableRefuses", unfollowed := true, recurses := true, apart := false, narrowed := true }
def TableRefusesUptoSaid : Prop := tableRefusesUptoRow.holds Try.pinned (OpenSpec.upto tableRefusesSpec)

/-- 'taquinlaw31.TableSolved', WHERE WHAT IT READS IS OF BULK AT MOST 1048576: true; the input reads as it did. -/
def tableSolvedUptoRow : OpenClaim := { program := "ytdjjhflhdhihcaa", sum := "5a2db01e7b090dc65b685e50e371c22024a0f450eaa60fd696fd5cdf373d5daf", func := "taquin/taquinlaw31.TableSolved", spec := "tableSolved", unfollowed := true, recurses := true, apart := false, narrowed := true }
def TableSolvedUptoSaid : Prop := tableSolvedUptoRow.holds Try.pinned (OpenSpec.upto tableSolvedSpec)

/-- 'taquinlaw31.TableNeeds', WHERE WHAT IT READS IS OF BULK AT MOST 1048576: true; the input reads as it did. -/
def tableNeedsUptoRow : OpenClaim := { program := "ytdjjhflhdhihcaa", sum := "5a2db01e7b090dc65b685e50e371c22024a0f450eaa60fd696fd5cdf373d5daf", func := "taquin/taquinlaw31.TableNeeds", spec := "tableNeeds", unfollowed := true, recurses := true, apart := false, narrowed := true }
def TableNeedsUptoSaid : Prop := tableNeedsUptoRow.holds Try.pinned (OpenSpec.upto tableNeedsSpec)

end Rows
end Go.Proofs.Ytdjjhflhdhihcaa
