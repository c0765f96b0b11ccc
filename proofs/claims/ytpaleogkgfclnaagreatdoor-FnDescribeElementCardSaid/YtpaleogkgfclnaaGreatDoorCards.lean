/-
  DERIVED. GIVEN WITH THE SEED: THE CARDS: each row of YtpaleogkgfclnaaGreatDoorRows.lean that lists a variable, with what it lists TIED to the program's text (the seventh form; the later family's looks); each row that meets fmt, with fmt's text TOLD by the authors' own Lean function (tested against real Go, not proved from fmt's source: count such statements apart). THE CARD IS WHAT COUNTS. Prove the row's statement (the work); the ties are given (YtpaleogkgfclnaaGreatDoorTie.lean); close each card by the builder's one call (the guide's Derived/Test/ToyasCard.lean, 'card_holds'). Laid BY PROGRAM, IN A SANDBOX (cutbox-door.mjs). By AI agents, Wed Nov 11 2026. No macro, syntax, notation, axiom, sorry.
-/
import Derived.Test.YtpaleogkgfclnaaGreatDoorRows
import GoSem.ClaimSeven
namespace Go.Proofs.YtpaleogkgfclnaaGreatDoor
namespace Rows

/-- THE TIED CARD OF 'laws.FnDescribeStructure'. -/
def fnDescribeStructureCard : Claim7 := { stood := { row := fnDescribeStructureRow, standIns := [], harness := (true, "e5ca4517f43757a41db78e78ea2f3691af9c8cd25aacb4afb77234a29af1ac2e"), looks := false }, kinds := [], alts := [], laidByText := true, laidKinds := [.data, .pinned], laidTests := true, laidLooks := .later }
def FnDescribeStructureCardSaid : Prop := Claim7.holds Tryz.pinned (.plain (OpenSpec.ofChange fnDescribeStructureSpec)) fnDescribeStructureCard

/-- THE TIED CARD OF 'laws.FnDescribeElement'. -/
def fnDescribeElementCard : Claim7 := { stood := { row := fnDescribeElementRow, standIns := [], harness := (true, "e5ca4517f43757a41db78e78ea2f3691af9c8cd25aacb4afb77234a29af1ac2e"), looks := false }, kinds := [], alts := [], laidByText := true, laidKinds := [.data, .pinned], laidTests := true, laidLooks := .later }
def FnDescribeElementCardSaid : Prop := Claim7.holds Tryz.pinned (.plain (OpenSpec.ofChange fnDescribeElementSpec)) fnDescribeElementCard

/-- THE SECOND FORM's CARD OF 'laws.FnDescribeStructure'. -/
def fnDescribeStructureUptoCard : Claim7 := { stood := { row := fnDescribeStructureUptoRow, standIns := [], harness := (true, "e5ca4517f43757a41db78e78ea2f3691af9c8cd25aacb4afb77234a29af1ac2e"), looks := false }, kinds := [], alts := [], laidByText := true, laidKinds := [.data, .pinned], laidTests := true, laidLooks := .later }
def FnDescribeStructureUptoCardSaid : Prop := Claim7.holds Tryz.pinned (.plain (OpenSpec.upto fnDescribeStructureSpec)) fnDescribeStructureUptoCard

/-- THE SECOND FORM's CARD OF 'laws.FnDescribeElement'. -/
def fnDescribeElementUptoCard : Claim7 := { stood := { row := fnDescribeElementUptoRow, standIns := [], harness := (true, "e5ca4517f43757a41db78e78ea2f3691af9c8cd25aacb4afb77234a29af1ac2e"), looks := false }, kinds := [], alts := [], laidByText := true, laidKinds := [.data, .pinned], laidTests := true, laidLooks := .later }
def FnDescribeElementUptoCardSaid : Prop := Claim7.holds Tryz.pinned (.plain (OpenSpec.upto fnDescribeElementSpec)) fnDescribeElementUptoCard
end Rows
end Go.Proofs.YtpaleogkgfclnaaGreatDoor
