/-
  DERIVED. GIVEN WITH THE SEED: THE CARDS: each row of YtnnephifjikkdaaGreatDoorRows.lean that lists a variable, with what it lists TIED to the program's text (the seventh form; the later family's looks); each row that meets fmt, with fmt's text TOLD by the authors' own Lean function (tested against real Go, not proved from fmt's source: count such statements apart). THE CARD IS WHAT COUNTS. Prove the row's statement (the work); the ties are given (YtnnephifjikkdaaGreatDoorTie.lean); close each card by the builder's one call (the guide's Derived/Test/ToyasCard.lean, 'card_holds'). Laid BY PROGRAM, IN A SANDBOX (cutbox-door.mjs). By AI agents, Wed Nov 11 2026. No macro, syntax, notation, axiom, sorry.
-/
import Derived.Test.YtnnephifjikkdaaGreatDoorRows
import GoSem.ClaimSeven
namespace Go.Proofs.YtnnephifjikkdaaGreatDoor
namespace Rows

/-- THE TIED CARD OF 'taquinlaw25.LayoutTells'. -/
def layoutTellsCard : Claim7 := { stood := { row := layoutTellsRow, standIns := [], harness := (true, "59ca702e46aa2fefbc9bf0e9316b5ffe9746149ef31ef6ac7d8ac1ee7309c6d2"), looks := true }, kinds := [], alts := [], laidByText := true, laidKinds := [.data, .data, .data, .sentinel, .sentinel], laidTests := true, laidLooks := .later }
def LayoutTellsCardSaid : Prop := Claim7.holds Tryz.pinned (.plain (OpenSpec.ofChange layoutTellsSpec)) layoutTellsCard

/-- THE TIED CARD OF 'taquinlaw22.RobotTells'. -/
def robotTellsCard : Claim7 := { stood := { row := robotTellsRow, standIns := [], harness := (true, "59ca702e46aa2fefbc9bf0e9316b5ffe9746149ef31ef6ac7d8ac1ee7309c6d2"), looks := true }, kinds := [], alts := [], laidByText := true, laidKinds := [.data, .data, .data, .sentinel, .sentinel], laidTests := true, laidLooks := .later }
def RobotTellsCardSaid : Prop := Claim7.holds Tryz.pinned (.plain (OpenSpec.ofChange robotTellsSpec)) robotTellsCard

/-- THE SECOND FORM's CARD OF 'taquinlaw25.LayoutTells'. -/
def layoutTellsUptoCard : Claim7 := { stood := { row := layoutTellsUptoRow, standIns := [], harness := (true, "59ca702e46aa2fefbc9bf0e9316b5ffe9746149ef31ef6ac7d8ac1ee7309c6d2"), looks := true }, kinds := [], alts := [], laidByText := true, laidKinds := [.data, .data, .data, .sentinel, .sentinel], laidTests := true, laidLooks := .later }
def LayoutTellsUptoCardSaid : Prop := Claim7.holds Tryz.pinned (.plain (OpenSpec.upto layoutTellsSpec)) layoutTellsUptoCard

/-- THE SECOND FORM's CARD OF 'taquinlaw22.RobotTells'. -/
def robotTellsUptoCard : Claim7 := { stood := { row := robotTellsUptoRow, standIns := [], harness := (true, "59ca702e46aa2fefbc9bf0e9316b5ffe9746149ef31ef6ac7d8ac1ee7309c6d2"), looks := true }, kinds := [], alts := [], laidByText := true, laidKinds := [.data, .data, .data, .sentinel, .sentinel], laidTests := true, laidLooks := .later }
def RobotTellsUptoCardSaid : Prop := Claim7.holds Tryz.pinned (.plain (OpenSpec.upto robotTellsSpec)) robotTellsUptoCard
end Rows
end Go.Proofs.YtnnephifjikkdaaGreatDoor
