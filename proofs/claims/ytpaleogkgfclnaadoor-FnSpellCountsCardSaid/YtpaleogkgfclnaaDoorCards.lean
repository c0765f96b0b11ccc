/-
  DERIVED. GIVEN WITH THE SEED: THE CARDS: each row of YtpaleogkgfclnaaDoorRows.lean that lists a variable, with what it lists TIED to the program's text (the seventh form; the later family's looks); each row that meets fmt, with fmt's text TOLD by the authors' own Lean function (tested against real Go, not proved from fmt's source: count such statements apart). THE CARD IS WHAT COUNTS. Prove the row's statement (the work); the ties are given (YtpaleogkgfclnaaDoorTie.lean); close each card by the builder's one call (the guide's Derived/Test/ToyasCard.lean, 'card_holds'). Laid BY PROGRAM, IN A SANDBOX (cutbox-door.mjs). By AI agents, Wed Nov 11 2026. No macro, syntax, notation, axiom, sorry.
-/
import Derived.Test.YtpaleogkgfclnaaDoorRows
import GoSem.ClaimSeven
namespace Go.Proofs.YtpaleogkgfclnaaDoor
namespace Rows

/-- THE TIED CARD OF 'laws.FnSpellCounts'. -/
def fnSpellCountsCard : Claim7 := { stood := { row := fnSpellCountsRow, standIns := [], harness := (true, "82b0c14b735d416c4311101f13c9c96b1351e0e7d511e122c1920f20c7f33283"), looks := false }, kinds := [], alts := [], laidByText := true, laidKinds := [.data, .pinned], laidTests := true, laidLooks := .later }
def FnSpellCountsCardSaid : Prop := Claim7.holds Tryd.pinned (.plain (OpenSpec.ofChange fnSpellCountsSpec)) fnSpellCountsCard

/-- THE TIED CARD OF 'laws.FnExactDescribeStructure'. -/
def fnExactDescribeStructureCard : Claim7 := { stood := { row := fnExactDescribeStructureRow, standIns := [], harness := (true, "82b0c14b735d416c4311101f13c9c96b1351e0e7d511e122c1920f20c7f33283"), looks := false }, kinds := [], alts := [], laidByText := true, laidKinds := [.data, .pinned], laidTests := true, laidLooks := .later }
def FnExactDescribeStructureCardSaid : Prop := Claim7.holds Tryd.pinned (.plain (OpenSpec.ofChange fnExactDescribeStructureSpec)) fnExactDescribeStructureCard

/-- THE TIED CARD OF 'laws.FnExactDescribeElement'. -/
def fnExactDescribeElementCard : Claim7 := { stood := { row := fnExactDescribeElementRow, standIns := [], harness := (true, "82b0c14b735d416c4311101f13c9c96b1351e0e7d511e122c1920f20c7f33283"), looks := false }, kinds := [], alts := [], laidByText := true, laidKinds := [.data, .pinned], laidTests := true, laidLooks := .later }
def FnExactDescribeElementCardSaid : Prop := Claim7.holds Tryd.pinned (.plain (OpenSpec.ofChange fnExactDescribeElementSpec)) fnExactDescribeElementCard

/-- THE SECOND FORM's CARD OF 'laws.FnSpellCounts'. -/
def fnSpellCountsUptoCard : Claim7 := { stood := { row := fnSpellCountsUptoRow, standIns := [], harness := (true, "82b0c14b735d416c4311101f13c9c96b1351e0e7d511e122c1920f20c7f33283"), looks := false }, kinds := [], alts := [], laidByText := true, laidKinds := [.data, .pinned], laidTests := true, laidLooks := .later }
def FnSpellCountsUptoCardSaid : Prop := Claim7.holds Tryd.pinned (.plain (OpenSpec.upto fnSpellCountsSpec)) fnSpellCountsUptoCard

/-- THE SECOND FORM's CARD OF 'laws.FnExactDescribeStructure'. -/
def fnExactDescribeStructureUptoCard : Claim7 := { stood := { row := fnExactDescribeStructureUptoRow, standIns := [], harness := (true, "82b0c14b735d416c4311101f13c9c96b1351e0e7d511e122c1920f20c7f33283"), looks := false }, kinds := [], alts := [], laidByText := true, laidKinds := [.data, .pinned], laidTests := true, laidLooks := .later }
def FnExactDescribeStructureUptoCardSaid : Prop := Claim7.holds Tryd.pinned (.plain (OpenSpec.upto fnExactDescribeStructureSpec)) fnExactDescribeStructureUptoCard

/-- THE SECOND FORM's CARD OF 'laws.FnExactDescribeElement'. -/
def fnExactDescribeElementUptoCard : Claim7 := { stood := { row := fnExactDescribeElementUptoRow, standIns := [], harness := (true, "82b0c14b735d416c4311101f13c9c96b1351e0e7d511e122c1920f20c7f33283"), looks := false }, kinds := [], alts := [], laidByText := true, laidKinds := [.data, .pinned], laidTests := true, laidLooks := .later }
def FnExactDescribeElementUptoCardSaid : Prop := Claim7.holds Tryd.pinned (.plain (OpenSpec.upto fnExactDescribeElementSpec)) fnExactDescribeElementUptoCard
end Rows
end Go.Proofs.YtpaleogkgfclnaaDoor
