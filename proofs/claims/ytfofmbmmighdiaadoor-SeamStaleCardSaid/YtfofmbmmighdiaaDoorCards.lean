/-
  DERIVED. GIVEN WITH THE SEED: THE CARDS: each row of YtfofmbmmighdiaaDoorRows.lean that lists a variable, with what it lists TIED to the program's text (the seventh form; the later family's looks); each row that meets fmt, with fmt's text TOLD by the authors' own Lean function (tested against real Go, not proved from fmt's source: count such statements apart). THE CARD IS WHAT COUNTS. Prove the row's statement (the work); the ties are given (YtfofmbmmighdiaaDoorTie.lean); close each card by the builder's one call (the guide's Derived/Test/ToyasCard.lean, 'card_holds'). Laid BY PROGRAM, IN A SANDBOX (cutbox-door.mjs). By AI agents, Wed Nov 11 2026. No macro, syntax, notation, axiom, sorry.
-/
import Derived.Test.YtfofmbmmighdiaaDoorRows
import GoSem.ClaimSeven
namespace Go.Proofs.YtfofmbmmighdiaaDoor
namespace Rows

/-- THE TIED CARD OF 'taquinlaw45.SeamTells'. -/
def seamTellsCard : Claim7 := { stood := { row := seamTellsRow, standIns := [], harness := (true, "07e63f70f1bc4488f6036b54f01223099b723370009de463d2ec886b1b89536e"), looks := true }, kinds := [], alts := [], laidByText := true, laidKinds := [.data, .data, .data, .sentinel, .sentinel], laidTests := true, laidLooks := .later }
def SeamTellsCardSaid : Prop := Claim7.holds Tryd.pinned (.plain (OpenSpec.ofChange seamTellsSpec)) seamTellsCard

/-- THE TIED CARD OF 'taquinlaw45.SeamGoes'. -/
def seamGoesCard : Claim7 := { stood := { row := seamGoesRow, standIns := [], harness := (true, "07e63f70f1bc4488f6036b54f01223099b723370009de463d2ec886b1b89536e"), looks := true }, kinds := [], alts := [], laidByText := true, laidKinds := [.data, .data, .data, .sentinel, .sentinel], laidTests := true, laidLooks := .later }
def SeamGoesCardSaid : Prop := Claim7.holds Tryd.pinned (.plain (OpenSpec.ofChange seamGoesSpec)) seamGoesCard

/-- THE TIED CARD OF 'taquinlaw45.SeamOne'. -/
def seamOneCard : Claim7 := { stood := { row := seamOneRow, standIns := [], harness := (true, "07e63f70f1bc4488f6036b54f01223099b723370009de463d2ec886b1b89536e"), looks := true }, kinds := [], alts := [], laidByText := true, laidKinds := [.data, .data, .data, .sentinel, .sentinel], laidTests := true, laidLooks := .later }
def SeamOneCardSaid : Prop := Claim7.holds Tryd.pinned (.plain (OpenSpec.ofChange seamOneSpec)) seamOneCard

/-- THE TIED CARD OF 'taquinlaw45.SeamStale'. -/
def seamStaleCard : Claim7 := { stood := { row := seamStaleRow, standIns := [], harness := (true, "07e63f70f1bc4488f6036b54f01223099b723370009de463d2ec886b1b89536e"), looks := true }, kinds := [], alts := [], laidByText := true, laidKinds := [.data, .data, .data, .sentinel, .sentinel], laidTests := true, laidLooks := .later }
def SeamStaleCardSaid : Prop := Claim7.holds Tryd.pinned (.plain (OpenSpec.ofChange seamStaleSpec)) seamStaleCard

/-- THE SECOND FORM's CARD OF 'taquinlaw45.SeamTells'. -/
def seamTellsUptoCard : Claim7 := { stood := { row := seamTellsUptoRow, standIns := [], harness := (true, "07e63f70f1bc4488f6036b54f01223099b723370009de463d2ec886b1b89536e"), looks := true }, kinds := [], alts := [], laidByText := true, laidKinds := [.data, .data, .data, .sentinel, .sentinel], laidTests := true, laidLooks := .later }
def SeamTellsUptoCardSaid : Prop := Claim7.holds Tryd.pinned (.plain (OpenSpec.upto seamTellsSpec)) seamTellsUptoCard

/-- THE SECOND FORM's CARD OF 'taquinlaw45.SeamGoes'. -/
def seamGoesUptoCard : Claim7 := { stood := { row := seamGoesUptoRow, standIns := [], harness := (true, "07e63f70f1bc4488f6036b54f01223099b723370009de463d2ec886b1b89536e"), looks := true }, kinds := [], alts := [], laidByText := true, laidKinds := [.data, .data, .data, .sentinel, .sentinel], laidTests := true, laidLooks := .later }
def SeamGoesUptoCardSaid : Prop := Claim7.holds Tryd.pinned (.plain (OpenSpec.upto seamGoesSpec)) seamGoesUptoCard

/-- THE SECOND FORM's CARD OF 'taquinlaw45.SeamOne'. -/
def seamOneUptoCard : Claim7 := { stood := { row := seamOneUptoRow, standIns := [], harness := (true, "07e63f70f1bc4488f6036b54f01223099b723370009de463d2ec886b1b89536e"), looks := true }, kinds := [], alts := [], laidByText := true, laidKinds := [.data, .data, .data, .sentinel, .sentinel], laidTests := true, laidLooks := .later }
def SeamOneUptoCardSaid : Prop := Claim7.holds Tryd.pinned (.plain (OpenSpec.upto seamOneSpec)) seamOneUptoCard

/-- THE SECOND FORM's CARD OF 'taquinlaw45.SeamStale'. -/
def seamStaleUptoCard : Claim7 := { stood := { row := seamStaleUptoRow, standIns := [], harness := (true, "07e63f70f1bc4488f6036b54f01223099b723370009de463d2ec886b1b89536e"), looks := true }, kinds := [], alts := [], laidByText := true, laidKinds := [.data, .data, .data, .sentinel, .sentinel], laidTests := true, laidLooks := .later }
def SeamStaleUptoCardSaid : Prop := Claim7.holds Tryd.pinned (.plain (OpenSpec.upto seamStaleSpec)) seamStaleUptoCard
end Rows
end Go.Proofs.YtfofmbmmighdiaaDoor
