/-
  DERIVED. GIVEN WITH THE SEED: THE CARDS: each row of YtfpehakllnkaeaaDoorRows.lean that lists a variable, with what it lists TIED to the program's text (the seventh form; the later family's looks); each row that meets fmt, with fmt's text TOLD by the authors' own Lean function (tested against real Go, not proved from fmt's source: count such statements apart). THE CARD IS WHAT COUNTS. Prove the row's statement (the work); the ties are given (YtfpehakllnkaeaaDoorTie.lean); close each card by the builder's one call (the guide's Derived/Test/ToyasCard.lean, 'card_holds'). Laid BY PROGRAM, IN A SANDBOX (cutbox-door.mjs). By AI agents, Wed Nov 11 2026. No macro, syntax, notation, axiom, sorry.
-/
import Derived.Test.YtfpehakllnkaeaaDoorRows
import GoSem.ClaimSeven
namespace Go.Proofs.YtfpehakllnkaeaaDoor
namespace Rows

/-- THE TIED CARD OF 'taquinlaw35.StockBack'. -/
def stockBackCard : Claim7 := { stood := { row := stockBackRow, standIns := [], harness := (true, "9b3676a804e37f7a51ec7a014026fae93d6a40803b2514817882afeb8dfae11f"), looks := true }, kinds := [], alts := [], laidByText := true, laidKinds := [.data, .data, .data, .sentinel, .sentinel], laidTests := true, laidLooks := .later }
def StockBackCardSaid : Prop := Claim7.holds Tryd.pinned (.plain (OpenSpec.ofChange stockBackSpec)) stockBackCard

/-- THE TIED CARD OF 'taquinlaw31.TableBack'. -/
def tableBackCard : Claim7 := { stood := { row := tableBackRow, standIns := [], harness := (true, "9b3676a804e37f7a51ec7a014026fae93d6a40803b2514817882afeb8dfae11f"), looks := true }, kinds := [], alts := [], laidByText := true, laidKinds := [.data, .data, .data, .sentinel, .sentinel], laidTests := true, laidLooks := .later }
def TableBackCardSaid : Prop := Claim7.holds Tryd.pinned (.plain (OpenSpec.ofChange tableBackSpec)) tableBackCard

/-- THE SECOND FORM's CARD OF 'taquinlaw35.StockBack'. -/
def stockBackUptoCard : Claim7 := { stood := { row := stockBackUptoRow, standIns := [], harness := (true, "9b3676a804e37f7a51ec7a014026fae93d6a40803b2514817882afeb8dfae11f"), looks := true }, kinds := [], alts := [], laidByText := true, laidKinds := [.data, .data, .data, .sentinel, .sentinel], laidTests := true, laidLooks := .later }
def StockBackUptoCardSaid : Prop := Claim7.holds Tryd.pinned (.plain (OpenSpec.upto stockBackSpec)) stockBackUptoCard

/-- THE SECOND FORM's CARD OF 'taquinlaw31.TableBack'. -/
def tableBackUptoCard : Claim7 := { stood := { row := tableBackUptoRow, standIns := [], harness := (true, "9b3676a804e37f7a51ec7a014026fae93d6a40803b2514817882afeb8dfae11f"), looks := true }, kinds := [], alts := [], laidByText := true, laidKinds := [.data, .data, .data, .sentinel, .sentinel], laidTests := true, laidLooks := .later }
def TableBackUptoCardSaid : Prop := Claim7.holds Tryd.pinned (.plain (OpenSpec.upto tableBackSpec)) tableBackUptoCard
end Rows
end Go.Proofs.YtfpehakllnkaeaaDoor
