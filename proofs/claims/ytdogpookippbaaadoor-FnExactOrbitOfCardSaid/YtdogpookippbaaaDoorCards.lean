/-
  DERIVED. GIVEN WITH THE SEED: THE CARDS: each row of YtdogpookippbaaaDoorRows.lean that lists a variable, with what it lists TIED to the program's text (the seventh form; the later family's looks); each row that meets fmt, with fmt's text TOLD by the authors' own Lean function (tested against real Go, not proved from fmt's source: count such statements apart). THE CARD IS WHAT COUNTS. Prove the row's statement (the work); the ties are given (YtdogpookippbaaaDoorTie.lean); close each card by the builder's one call (the guide's Derived/Test/ToyasCard.lean, 'card_holds'). Laid BY PROGRAM, IN A SANDBOX (cutbox-door.mjs). By AI agents, Wed Nov 11 2026. No macro, syntax, notation, axiom, sorry.
-/
import Derived.Test.YtdogpookippbaaaDoorRows
import GoSem.ClaimSeven
namespace Go.Proofs.YtdogpookippbaaaDoor
namespace Rows

/-- THE TIED CARD OF 'laws.FnExactCountSymmetries'. -/
def fnExactCountSymmetriesCard : Claim7 := { stood := { row := fnExactCountSymmetriesRow, standIns := [], harness := (true, "0192a0cb4f5a15f637c2529908502b83ef9df46dac4f1a6ebc945ea3ad6b8b07"), looks := false }, kinds := [], alts := [], laidByText := true, laidKinds := [.data, .pinned], laidTests := true, laidLooks := .later }
def FnExactCountSymmetriesCardSaid : Prop := Claim7.holds Tryd.pinned (.plain (OpenSpec.ofChange fnExactCountSymmetriesSpec)) fnExactCountSymmetriesCard

/-- THE TIED CARD OF 'laws.FnExactSameShape'. -/
def fnExactSameShapeCard : Claim7 := { stood := { row := fnExactSameShapeRow, standIns := [], harness := (true, "0192a0cb4f5a15f637c2529908502b83ef9df46dac4f1a6ebc945ea3ad6b8b07"), looks := false }, kinds := [], alts := [], laidByText := true, laidKinds := [.data, .pinned], laidTests := true, laidLooks := .later }
def FnExactSameShapeCardSaid : Prop := Claim7.holds Tryd.pinned (.plain (OpenSpec.ofChange fnExactSameShapeSpec)) fnExactSameShapeCard

/-- THE TIED CARD OF 'laws.FnExactOrbitOf'. -/
def fnExactOrbitOfCard : Claim7 := { stood := { row := fnExactOrbitOfRow, standIns := [], harness := (true, "0192a0cb4f5a15f637c2529908502b83ef9df46dac4f1a6ebc945ea3ad6b8b07"), looks := false }, kinds := [], alts := [], laidByText := true, laidKinds := [.data, .pinned], laidTests := true, laidLooks := .later }
def FnExactOrbitOfCardSaid : Prop := Claim7.holds Tryd.pinned (.plain (OpenSpec.ofChange fnExactOrbitOfSpec)) fnExactOrbitOfCard

/-- THE TIED CARD OF 'laws.FnExactParseStructure'. -/
def fnExactParseStructureCard : Claim7 := { stood := { row := fnExactParseStructureRow, standIns := [], harness := (true, "0192a0cb4f5a15f637c2529908502b83ef9df46dac4f1a6ebc945ea3ad6b8b07"), looks := false }, kinds := [], alts := [], laidByText := true, laidKinds := [.data, .pinned], laidTests := true, laidLooks := .later }
def FnExactParseStructureCardSaid : Prop := Claim7.holds Tryd.pinned (.plain (OpenSpec.ofChange fnExactParseStructureSpec)) fnExactParseStructureCard

/-- THE TIED CARD OF 'laws.FnPartOf'. -/
def fnPartOfCard : Claim7 := { stood := { row := fnPartOfRow, standIns := [], harness := (true, "0192a0cb4f5a15f637c2529908502b83ef9df46dac4f1a6ebc945ea3ad6b8b07"), looks := false }, kinds := [], alts := [], laidByText := true, laidKinds := [.data, .pinned], laidTests := true, laidLooks := .later }
def FnPartOfCardSaid : Prop := Claim7.holds Tryd.pinned (.plain (OpenSpec.ofChange fnPartOfSpec)) fnPartOfCard

/-- THE TIED CARD OF 'laws.FnOtherTurn'. -/
def fnOtherTurnCard : Claim7 := { stood := { row := fnOtherTurnRow, standIns := [], harness := (true, "0192a0cb4f5a15f637c2529908502b83ef9df46dac4f1a6ebc945ea3ad6b8b07"), looks := false }, kinds := [], alts := [], laidByText := true, laidKinds := [.data, .pinned], laidTests := true, laidLooks := .later }
def FnOtherTurnCardSaid : Prop := Claim7.holds Tryd.pinned (.plain (OpenSpec.ofChange fnOtherTurnSpec)) fnOtherTurnCard

/-- THE TIED CARD OF 'laws.FnStructureText'. -/
def fnStructureTextCard : Claim7 := { stood := { row := fnStructureTextRow, standIns := [], harness := (true, "0192a0cb4f5a15f637c2529908502b83ef9df46dac4f1a6ebc945ea3ad6b8b07"), looks := false }, kinds := [], alts := [], laidByText := true, laidKinds := [.data, .pinned], laidTests := true, laidLooks := .later }
def FnStructureTextCardSaid : Prop := Claim7.holds Tryd.pinned (.plain (OpenSpec.ofChange fnStructureTextSpec)) fnStructureTextCard

/-- THE SECOND FORM's CARD OF 'laws.FnExactCountSymmetries'. -/
def fnExactCountSymmetriesUptoCard : Claim7 := { stood := { row := fnExactCountSymmetriesUptoRow, standIns := [], harness := (true, "0192a0cb4f5a15f637c2529908502b83ef9df46dac4f1a6ebc945ea3ad6b8b07"), looks := false }, kinds := [], alts := [], laidByText := true, laidKinds := [.data, .pinned], laidTests := true, laidLooks := .later }
def FnExactCountSymmetriesUptoCardSaid : Prop := Claim7.holds Tryd.pinned (.plain (OpenSpec.upto fnExactCountSymmetriesSpec)) fnExactCountSymmetriesUptoCard

/-- THE SECOND FORM's CARD OF 'laws.FnExactSameShape'. -/
def fnExactSameShapeUptoCard : Claim7 := { stood := { row := fnExactSameShapeUptoRow, standIns := [], harness := (true, "0192a0cb4f5a15f637c2529908502b83ef9df46dac4f1a6ebc945ea3ad6b8b07"), looks := false }, kinds := [], alts := [], laidByText := true, laidKinds := [.data, .pinned], laidTests := true, laidLooks := .later }
def FnExactSameShapeUptoCardSaid : Prop := Claim7.holds Tryd.pinned (.plain (OpenSpec.upto fnExactSameShapeSpec)) fnExactSameShapeUptoCard

/-- THE SECOND FORM's CARD OF 'laws.FnExactOrbitOf'. -/
def fnExactOrbitOfUptoCard : Claim7 := { stood := { row := fnExactOrbitOfUptoRow, standIns := [], harness := (true, "0192a0cb4f5a15f637c2529908502b83ef9df46dac4f1a6ebc945ea3ad6b8b07"), looks := false }, kinds := [], alts := [], laidByText := true, laidKinds := [.data, .pinned], laidTests := true, laidLooks := .later }
def FnExactOrbitOfUptoCardSaid : Prop := Claim7.holds Tryd.pinned (.plain (OpenSpec.upto fnExactOrbitOfSpec)) fnExactOrbitOfUptoCard

/-- THE SECOND FORM's CARD OF 'laws.FnExactParseStructure'. -/
def fnExactParseStructureUptoCard : Claim7 := { stood := { row := fnExactParseStructureUptoRow, standIns := [], harness := (true, "0192a0cb4f5a15f637c2529908502b83ef9df46dac4f1a6ebc945ea3ad6b8b07"), looks := false }, kinds := [], alts := [], laidByText := true, laidKinds := [.data, .pinned], laidTests := true, laidLooks := .later }
def FnExactParseStructureUptoCardSaid : Prop := Claim7.holds Tryd.pinned (.plain (OpenSpec.upto fnExactParseStructureSpec)) fnExactParseStructureUptoCard

/-- THE SECOND FORM's CARD OF 'laws.FnPartOf'. -/
def fnPartOfUptoCard : Claim7 := { stood := { row := fnPartOfUptoRow, standIns := [], harness := (true, "0192a0cb4f5a15f637c2529908502b83ef9df46dac4f1a6ebc945ea3ad6b8b07"), looks := false }, kinds := [], alts := [], laidByText := true, laidKinds := [.data, .pinned], laidTests := true, laidLooks := .later }
def FnPartOfUptoCardSaid : Prop := Claim7.holds Tryd.pinned (.plain (OpenSpec.upto fnPartOfSpec)) fnPartOfUptoCard

/-- THE SECOND FORM's CARD OF 'laws.FnOtherTurn'. -/
def fnOtherTurnUptoCard : Claim7 := { stood := { row := fnOtherTurnUptoRow, standIns := [], harness := (true, "0192a0cb4f5a15f637c2529908502b83ef9df46dac4f1a6ebc945ea3ad6b8b07"), looks := false }, kinds := [], alts := [], laidByText := true, laidKinds := [.data, .pinned], laidTests := true, laidLooks := .later }
def FnOtherTurnUptoCardSaid : Prop := Claim7.holds Tryd.pinned (.plain (OpenSpec.upto fnOtherTurnSpec)) fnOtherTurnUptoCard

/-- THE SECOND FORM's CARD OF 'laws.FnStructureText'. -/
def fnStructureTextUptoCard : Claim7 := { stood := { row := fnStructureTextUptoRow, standIns := [], harness := (true, "0192a0cb4f5a15f637c2529908502b83ef9df46dac4f1a6ebc945ea3ad6b8b07"), looks := false }, kinds := [], alts := [], laidByText := true, laidKinds := [.data, .pinned], laidTests := true, laidLooks := .later }
def FnStructureTextUptoCardSaid : Prop := Claim7.holds Tryd.pinned (.plain (OpenSpec.upto fnStructureTextSpec)) fnStructureTextUptoCard
end Rows
end Go.Proofs.YtdogpookippbaaaDoor
