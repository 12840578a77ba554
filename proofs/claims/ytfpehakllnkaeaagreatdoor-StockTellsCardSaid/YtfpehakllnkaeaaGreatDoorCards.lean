/-
  DERIVED. GIVEN WITH THE SEED: THE CARDS: each row of YtfpehakllnkaeaaGreatDoorRows.lean that lists a variable, with what it lists TIED to the program's text (the seventh form; the later family's looks); each row that meets fmt, with fmt's text TOLD by the authors' own Lean function (tested against real Go, not proved from fmt's source: count such statements apart). THE CARD IS WHAT COUNTS. Prove the row's statement (the work); the ties are given (YtfpehakllnkaeaaGreatDoorTie.lean); close each card by the builder's one call (the guide's Derived/Test/ToyasCard.lean, 'card_holds'). Laid BY PROGRAM, IN A SANDBOX (cutbox-door.mjs). By AI agents, Wed Nov 11 2026. No macro, syntax, notation, axiom, sorry.
-/
import Derived.Test.YtfpehakllnkaeaaGreatDoorRows
import GoSem.ClaimSeven
namespace Go.Proofs.YtfpehakllnkaeaaGreatDoor
namespace Rows

/-- THE TIED CARD OF 'taquinlaw35.StockTells'. -/
def stockTellsCard : Claim7 := { stood := { row := stockTellsRow, standIns := [], harness := (true, "023845b51a0dd476c95d6650f999e82617c6c5e764e9a23c11a158561b3e3010"), looks := true }, kinds := [], alts := [], laidByText := true, laidKinds := [.data, .data, .data, .sentinel, .sentinel], laidTests := true, laidLooks := .later }
def StockTellsCardSaid : Prop := Claim7.holds Tryz.pinned (.plain (OpenSpec.ofChange stockTellsSpec)) stockTellsCard

/-- THE SECOND FORM's CARD OF 'taquinlaw35.StockTells'. -/
def stockTellsUptoCard : Claim7 := { stood := { row := stockTellsUptoRow, standIns := [], harness := (true, "023845b51a0dd476c95d6650f999e82617c6c5e764e9a23c11a158561b3e3010"), looks := true }, kinds := [], alts := [], laidByText := true, laidKinds := [.data, .data, .data, .sentinel, .sentinel], laidTests := true, laidLooks := .later }
def StockTellsUptoCardSaid : Prop := Claim7.holds Tryz.pinned (.plain (OpenSpec.upto stockTellsSpec)) stockTellsUptoCard
end Rows
end Go.Proofs.YtfpehakllnkaeaaGreatDoor
