/-
  DERIVED. GIVEN WITH THE SEED: THE CARDS: each row of YtnnephifjikkdaaDoorRows.lean that lists a variable, with what it lists TIED to the program's text (the seventh form; the later family's looks); each row that meets fmt, with fmt's text TOLD by the authors' own Lean function (tested against real Go, not proved from fmt's source: count such statements apart). THE CARD IS WHAT COUNTS. Prove the row's statement (the work); the ties are given (YtnnephifjikkdaaDoorTie.lean); close each card by the builder's one call (the guide's Derived/Test/ToyasCard.lean, 'card_holds'). Laid BY PROGRAM, IN A SANDBOX (cutbox-door.mjs). By AI agents, Wed Nov 11 2026. No macro, syntax, notation, axiom, sorry.
-/
import Derived.Test.YtnnephifjikkdaaDoorRows
import GoSem.ClaimSeven
namespace Go.Proofs.YtnnephifjikkdaaDoor
namespace Rows

/-- THE TIED CARD OF 'taquinlaw25.LayoutBack'. -/
def layoutBackCard : Claim7 := { stood := { row := layoutBackRow, standIns := [], harness := (true, "e1254f54d1d2cd8dd42ae064b027cd2aef07e963c9a3bc8ec7be9e80152f8363"), looks := true }, kinds := [], alts := [], laidByText := true, laidKinds := [.data, .data, .data, .sentinel, .sentinel], laidTests := true, laidLooks := .later }
def LayoutBackCardSaid : Prop := Claim7.holds Tryd.pinned (.plain (OpenSpec.ofChange layoutBackSpec)) layoutBackCard

/-- THE TIED CARD OF 'taquinlaw22.RobotBack'. -/
def robotBackCard : Claim7 := { stood := { row := robotBackRow, standIns := [], harness := (true, "e1254f54d1d2cd8dd42ae064b027cd2aef07e963c9a3bc8ec7be9e80152f8363"), looks := true }, kinds := [], alts := [], laidByText := true, laidKinds := [.data, .data, .data, .sentinel, .sentinel], laidTests := true, laidLooks := .later }
def RobotBackCardSaid : Prop := Claim7.holds Tryd.pinned (.plain (OpenSpec.ofChange robotBackSpec)) robotBackCard

/-- THE TIED CARD OF 'taquinlaw45.SeamBack'. -/
def seamBackCard : Claim7 := { stood := { row := seamBackRow, standIns := [], harness := (true, "e1254f54d1d2cd8dd42ae064b027cd2aef07e963c9a3bc8ec7be9e80152f8363"), looks := true }, kinds := [], alts := [], laidByText := true, laidKinds := [.data, .data, .data, .sentinel, .sentinel], laidTests := true, laidLooks := .later }
def SeamBackCardSaid : Prop := Claim7.holds Tryd.pinned (.plain (OpenSpec.ofChange seamBackSpec)) seamBackCard

/-- THE TIED CARD OF 'taquinlaw45.SeamTells'. -/
def seamTellsCard : Claim7 := { stood := { row := seamTellsRow, standIns := [], harness := (true, "e1254f54d1d2cd8dd42ae064b027cd2aef07e963c9a3bc8ec7be9e80152f8363"), looks := true }, kinds := [], alts := [], laidByText := true, laidKinds := [.data, .data, .data, .sentinel, .sentinel], laidTests := true, laidLooks := .later }
def SeamTellsCardSaid : Prop := Claim7.holds Tryd.pinned (.plain (OpenSpec.ofChange seamTellsSpec)) seamTellsCard

/-- THE TIED CARD OF 'taquinlaw45.SeamGoes'. -/
def seamGoesCard : Claim7 := { stood := { row := seamGoesRow, standIns := [], harness := (true, "e1254f54d1d2cd8dd42ae064b027cd2aef07e963c9a3bc8ec7be9e80152f8363"), looks := true }, kinds := [], alts := [], laidByText := true, laidKinds := [.data, .data, .data, .sentinel, .sentinel], laidTests := true, laidLooks := .later }
def SeamGoesCardSaid : Prop := Claim7.holds Tryd.pinned (.plain (OpenSpec.ofChange seamGoesSpec)) seamGoesCard

/-- THE TIED CARD OF 'taquinlaw45.SeamOne'. -/
def seamOneCard : Claim7 := { stood := { row := seamOneRow, standIns := [], harness := (true, "e1254f54d1d2cd8dd42ae064b027cd2aef07e963c9a3bc8ec7be9e80152f8363"), looks := true }, kinds := [], alts := [], laidByText := true, laidKinds := [.data, .data, .data, .sentinel, .sentinel], laidTests := true, laidLooks := .later }
def SeamOneCardSaid : Prop := Claim7.holds Tryd.pinned (.plain (OpenSpec.ofChange seamOneSpec)) seamOneCard

/-- THE TIED CARD OF 'taquinlaw45.SeamStale'. -/
def seamStaleCard : Claim7 := { stood := { row := seamStaleRow, standIns := [], harness := (true, "e1254f54d1d2cd8dd42ae064b027cd2aef07e963c9a3bc8ec7be9e80152f8363"), looks := true }, kinds := [], alts := [], laidByText := true, laidKinds := [.data, .data, .data, .sentinel, .sentinel], laidTests := true, laidLooks := .later }
def SeamStaleCardSaid : Prop := Claim7.holds Tryd.pinned (.plain (OpenSpec.ofChange seamStaleSpec)) seamStaleCard

/-- THE SECOND FORM's CARD OF 'taquinlaw25.LayoutBack'. -/
def layoutBackUptoCard : Claim7 := { stood := { row := layoutBackUptoRow, standIns := [], harness := (true, "e1254f54d1d2cd8dd42ae064b027cd2aef07e963c9a3bc8ec7be9e80152f8363"), looks := true }, kinds := [], alts := [], laidByText := true, laidKinds := [.data, .data, .data, .sentinel, .sentinel], laidTests := true, laidLooks := .later }
def LayoutBackUptoCardSaid : Prop := Claim7.holds Tryd.pinned (.plain (OpenSpec.upto layoutBackSpec)) layoutBackUptoCard

/-- THE SECOND FORM's CARD OF 'taquinlaw22.RobotBack'. -/
def robotBackUptoCard : Claim7 := { stood := { row := robotBackUptoRow, standIns := [], harness := (true, "e1254f54d1d2cd8dd42ae064b027cd2aef07e963c9a3bc8ec7be9e80152f8363"), looks := true }, kinds := [], alts := [], laidByText := true, laidKinds := [.data, .data, .data, .sentinel, .sentinel], laidTests := true, laidLooks := .later }
def RobotBackUptoCardSaid : Prop := Claim7.holds Tryd.pinned (.plain (OpenSpec.upto robotBackSpec)) robotBackUptoCard

/-- THE SECOND FORM's CARD OF 'taquinlaw45.SeamBack'. -/
def seamBackUptoCard : Claim7 := { stood := { row := seamBackUptoRow, standIns := [], harness := (true, "e1254f54d1d2cd8dd42ae064b027cd2aef07e963c9a3bc8ec7be9e80152f8363"), looks := true }, kinds := [], alts := [], laidByText := true, laidKinds := [.data, .data, .data, .sentinel, .sentinel], laidTests := true, laidLooks := .later }
def SeamBackUptoCardSaid : Prop := Claim7.holds Tryd.pinned (.plain (OpenSpec.upto seamBackSpec)) seamBackUptoCard

/-- THE SECOND FORM's CARD OF 'taquinlaw45.SeamTells'. -/
def seamTellsUptoCard : Claim7 := { stood := { row := seamTellsUptoRow, standIns := [], harness := (true, "e1254f54d1d2cd8dd42ae064b027cd2aef07e963c9a3bc8ec7be9e80152f8363"), looks := true }, kinds := [], alts := [], laidByText := true, laidKinds := [.data, .data, .data, .sentinel, .sentinel], laidTests := true, laidLooks := .later }
def SeamTellsUptoCardSaid : Prop := Claim7.holds Tryd.pinned (.plain (OpenSpec.upto seamTellsSpec)) seamTellsUptoCard

/-- THE SECOND FORM's CARD OF 'taquinlaw45.SeamGoes'. -/
def seamGoesUptoCard : Claim7 := { stood := { row := seamGoesUptoRow, standIns := [], harness := (true, "e1254f54d1d2cd8dd42ae064b027cd2aef07e963c9a3bc8ec7be9e80152f8363"), looks := true }, kinds := [], alts := [], laidByText := true, laidKinds := [.data, .data, .data, .sentinel, .sentinel], laidTests := true, laidLooks := .later }
def SeamGoesUptoCardSaid : Prop := Claim7.holds Tryd.pinned (.plain (OpenSpec.upto seamGoesSpec)) seamGoesUptoCard

/-- THE SECOND FORM's CARD OF 'taquinlaw45.SeamOne'. -/
def seamOneUptoCard : Claim7 := { stood := { row := seamOneUptoRow, standIns := [], harness := (true, "e1254f54d1d2cd8dd42ae064b027cd2aef07e963c9a3bc8ec7be9e80152f8363"), looks := true }, kinds := [], alts := [], laidByText := true, laidKinds := [.data, .data, .data, .sentinel, .sentinel], laidTests := true, laidLooks := .later }
def SeamOneUptoCardSaid : Prop := Claim7.holds Tryd.pinned (.plain (OpenSpec.upto seamOneSpec)) seamOneUptoCard

/-- THE SECOND FORM's CARD OF 'taquinlaw45.SeamStale'. -/
def seamStaleUptoCard : Claim7 := { stood := { row := seamStaleUptoRow, standIns := [], harness := (true, "e1254f54d1d2cd8dd42ae064b027cd2aef07e963c9a3bc8ec7be9e80152f8363"), looks := true }, kinds := [], alts := [], laidByText := true, laidKinds := [.data, .data, .data, .sentinel, .sentinel], laidTests := true, laidLooks := .later }
def SeamStaleUptoCardSaid : Prop := Claim7.holds Tryd.pinned (.plain (OpenSpec.upto seamStaleSpec)) seamStaleUptoCard
end Rows
end Go.Proofs.YtnnephifjikkdaaDoor
