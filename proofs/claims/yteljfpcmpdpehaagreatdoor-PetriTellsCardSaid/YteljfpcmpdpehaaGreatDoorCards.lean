/-
  DERIVED. GIVEN WITH THE SEED: THE CARDS: each row of YteljfpcmpdpehaaGreatDoorRows.lean that lists a variable, with what it lists TIED to the program's text (the seventh form; the later family's looks); each row that meets fmt, with fmt's text TOLD by the authors' own Lean function (tested against real Go, not proved from fmt's source: count such statements apart). THE CARD IS WHAT COUNTS. Prove the row's statement (the work); the ties are given (YteljfpcmpdpehaaGreatDoorTie.lean); close each card by the builder's one call (the guide's Derived/Test/ToyasCard.lean, 'card_holds'). Laid BY PROGRAM, IN A SANDBOX (cutbox-door.mjs). By AI agents, Wed Nov 11 2026. No macro, syntax, notation, axiom, sorry.
-/
import Derived.Test.YteljfpcmpdpehaaGreatDoorRows
import GoSem.ClaimSeven
namespace Go.Proofs.YteljfpcmpdpehaaGreatDoor
namespace Rows

/-- THE TIED CARD OF 'taquinlaw18.PetriTells'. -/
def petriTellsCard : Claim7 := { stood := { row := petriTellsRow, standIns := [], harness := (true, "3ca1228dc07cd9fffac12a65a2103e7e305bce52c8a8b9bff218990c0d1e5402"), looks := true }, kinds := [], alts := [], laidByText := true, laidKinds := [.data, .data, .data, .sentinel, .sentinel], laidTests := true, laidLooks := .later }
def PetriTellsCardSaid : Prop := Claim7.holds Tryz.pinned (.plain (OpenSpec.ofChange petriTellsSpec)) petriTellsCard

/-- THE SECOND FORM's CARD OF 'taquinlaw18.PetriTells'. -/
def petriTellsUptoCard : Claim7 := { stood := { row := petriTellsUptoRow, standIns := [], harness := (true, "3ca1228dc07cd9fffac12a65a2103e7e305bce52c8a8b9bff218990c0d1e5402"), looks := true }, kinds := [], alts := [], laidByText := true, laidKinds := [.data, .data, .data, .sentinel, .sentinel], laidTests := true, laidLooks := .later }
def PetriTellsUptoCardSaid : Prop := Claim7.holds Tryz.pinned (.plain (OpenSpec.upto petriTellsSpec)) petriTellsUptoCard
end Rows
end Go.Proofs.YteljfpcmpdpehaaGreatDoor
