/-
  DERIVED. GIVEN WITH THE SEED: THE CARDS: each row of YtappgjdnfllblaaDoorRows.lean that lists a variable, with what it lists TIED to the program's text (the seventh form; the later family's looks); each row that meets fmt, with fmt's text TOLD by the authors' own Lean function (tested against real Go, not proved from fmt's source: count such statements apart). THE CARD IS WHAT COUNTS. Prove the row's statement (the work); the ties are given (YtappgjdnfllblaaDoorTie.lean); close each card by the builder's one call (the guide's Derived/Test/ToyasCard.lean, 'card_holds'). Laid BY PROGRAM, IN A SANDBOX (cutbox-door.mjs). By AI agents, Wed Nov 11 2026. No macro, syntax, notation, axiom, sorry.
-/
import Derived.Test.YtappgjdnfllblaaDoorRows
import GoSem.ClaimSeven
namespace Go.Proofs.YtappgjdnfllblaaDoor
namespace Rows

/-- THE TIED CARD OF 'taquinlaw44.LeaseBack'. -/
def leaseBackCard : Claim7 := { stood := { row := leaseBackRow, standIns := [], harness := (true, "9f92b35f855de758e465ffad78d6cb39cf9dfda2008766eb5801f79cf77609c2"), looks := true }, kinds := [], alts := [], laidByText := true, laidKinds := [.data, .data, .data, .sentinel, .sentinel], laidTests := true, laidLooks := .later }
def LeaseBackCardSaid : Prop := Claim7.holds Tryd.pinned (.plain (OpenSpec.ofChange leaseBackSpec)) leaseBackCard

/-- THE TIED CARD OF 'taquinlaw44.LeaseTells'. -/
def leaseTellsCard : Claim7 := { stood := { row := leaseTellsRow, standIns := [], harness := (true, "9f92b35f855de758e465ffad78d6cb39cf9dfda2008766eb5801f79cf77609c2"), looks := true }, kinds := [], alts := [], laidByText := true, laidKinds := [.data, .data, .data, .sentinel, .sentinel], laidTests := true, laidLooks := .later }
def LeaseTellsCardSaid : Prop := Claim7.holds Tryd.pinned (.plain (OpenSpec.ofChange leaseTellsSpec)) leaseTellsCard

/-- THE TIED CARD OF 'taquinlaw44.LeaseApart'. -/
def leaseApartCard : Claim7 := { stood := { row := leaseApartRow, standIns := [], harness := (true, "9f92b35f855de758e465ffad78d6cb39cf9dfda2008766eb5801f79cf77609c2"), looks := true }, kinds := [], alts := [], laidByText := true, laidKinds := [.data, .data, .data, .sentinel, .sentinel], laidTests := true, laidLooks := .later }
def LeaseApartCardSaid : Prop := Claim7.holds Tryd.pinned (.plain (OpenSpec.ofChange leaseApartSpec)) leaseApartCard

/-- THE TIED CARD OF 'taquinlaw44.LeaseReturns'. -/
def leaseReturnsCard : Claim7 := { stood := { row := leaseReturnsRow, standIns := [], harness := (true, "9f92b35f855de758e465ffad78d6cb39cf9dfda2008766eb5801f79cf77609c2"), looks := true }, kinds := [], alts := [], laidByText := true, laidKinds := [.data, .data, .data, .sentinel, .sentinel], laidTests := true, laidLooks := .later }
def LeaseReturnsCardSaid : Prop := Claim7.holds Tryd.pinned (.plain (OpenSpec.ofChange leaseReturnsSpec)) leaseReturnsCard

/-- THE TIED CARD OF 'taquinlaw44.LeaseGoes'. -/
def leaseGoesCard : Claim7 := { stood := { row := leaseGoesRow, standIns := [], harness := (true, "9f92b35f855de758e465ffad78d6cb39cf9dfda2008766eb5801f79cf77609c2"), looks := true }, kinds := [], alts := [], laidByText := true, laidKinds := [.data, .data, .data, .sentinel, .sentinel], laidTests := true, laidLooks := .later }
def LeaseGoesCardSaid : Prop := Claim7.holds Tryd.pinned (.plain (OpenSpec.ofChange leaseGoesSpec)) leaseGoesCard

/-- THE SECOND FORM's CARD OF 'taquinlaw44.LeaseBack'. -/
def leaseBackUptoCard : Claim7 := { stood := { row := leaseBackUptoRow, standIns := [], harness := (true, "9f92b35f855de758e465ffad78d6cb39cf9dfda2008766eb5801f79cf77609c2"), looks := true }, kinds := [], alts := [], laidByText := true, laidKinds := [.data, .data, .data, .sentinel, .sentinel], laidTests := true, laidLooks := .later }
def LeaseBackUptoCardSaid : Prop := Claim7.holds Tryd.pinned (.plain (OpenSpec.upto leaseBackSpec)) leaseBackUptoCard

/-- THE SECOND FORM's CARD OF 'taquinlaw44.LeaseTells'. -/
def leaseTellsUptoCard : Claim7 := { stood := { row := leaseTellsUptoRow, standIns := [], harness := (true, "9f92b35f855de758e465ffad78d6cb39cf9dfda2008766eb5801f79cf77609c2"), looks := true }, kinds := [], alts := [], laidByText := true, laidKinds := [.data, .data, .data, .sentinel, .sentinel], laidTests := true, laidLooks := .later }
def LeaseTellsUptoCardSaid : Prop := Claim7.holds Tryd.pinned (.plain (OpenSpec.upto leaseTellsSpec)) leaseTellsUptoCard

/-- THE SECOND FORM's CARD OF 'taquinlaw44.LeaseApart'. -/
def leaseApartUptoCard : Claim7 := { stood := { row := leaseApartUptoRow, standIns := [], harness := (true, "9f92b35f855de758e465ffad78d6cb39cf9dfda2008766eb5801f79cf77609c2"), looks := true }, kinds := [], alts := [], laidByText := true, laidKinds := [.data, .data, .data, .sentinel, .sentinel], laidTests := true, laidLooks := .later }
def LeaseApartUptoCardSaid : Prop := Claim7.holds Tryd.pinned (.plain (OpenSpec.upto leaseApartSpec)) leaseApartUptoCard

/-- THE SECOND FORM's CARD OF 'taquinlaw44.LeaseReturns'. -/
def leaseReturnsUptoCard : Claim7 := { stood := { row := leaseReturnsUptoRow, standIns := [], harness := (true, "9f92b35f855de758e465ffad78d6cb39cf9dfda2008766eb5801f79cf77609c2"), looks := true }, kinds := [], alts := [], laidByText := true, laidKinds := [.data, .data, .data, .sentinel, .sentinel], laidTests := true, laidLooks := .later }
def LeaseReturnsUptoCardSaid : Prop := Claim7.holds Tryd.pinned (.plain (OpenSpec.upto leaseReturnsSpec)) leaseReturnsUptoCard

/-- THE SECOND FORM's CARD OF 'taquinlaw44.LeaseGoes'. -/
def leaseGoesUptoCard : Claim7 := { stood := { row := leaseGoesUptoRow, standIns := [], harness := (true, "9f92b35f855de758e465ffad78d6cb39cf9dfda2008766eb5801f79cf77609c2"), looks := true }, kinds := [], alts := [], laidByText := true, laidKinds := [.data, .data, .data, .sentinel, .sentinel], laidTests := true, laidLooks := .later }
def LeaseGoesUptoCardSaid : Prop := Claim7.holds Tryd.pinned (.plain (OpenSpec.upto leaseGoesSpec)) leaseGoesUptoCard
end Rows
end Go.Proofs.YtappgjdnfllblaaDoor
