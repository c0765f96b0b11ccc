/-
  DERIVED. GIVEN WITH THE SEED: THE CARDS: each row of YtgejjnikcgnghaaDoorRows.lean that lists a variable, with what it lists TIED to the program's text (the seventh form; the later family's looks); each row that meets fmt, with fmt's text TOLD by the authors' own Lean function (tested against real Go, not proved from fmt's source: count such statements apart). THE CARD IS WHAT COUNTS. Prove the row's statement (the work); the ties are given (YtgejjnikcgnghaaDoorTie.lean); close each card by the builder's one call (the guide's Derived/Test/ToyasCard.lean, 'card_holds'). Laid BY PROGRAM, IN A SANDBOX (cutbox-door.mjs). By AI agents, Wed Nov 11 2026. No macro, syntax, notation, axiom, sorry.
-/
import Derived.Test.YtgejjnikcgnghaaDoorRows
import GoSem.ClaimSeven
namespace Go.Proofs.YtgejjnikcgnghaaDoor
namespace Rows

/-- THE TIED CARD OF 'laws.FnExactStructureValid'. -/
def fnExactStructureValidCard : Claim7 := { stood := { row := fnExactStructureValidRow, standIns := [], harness := (true, "2ba14b15fc4542ddd3952c48ccb48dd561023d9ed7371c7889c4cc08bb8bcdfe"), looks := false }, kinds := [], alts := [], laidByText := true, laidKinds := [.data, .pinned], laidTests := true, laidLooks := .later }
def FnExactStructureValidCardSaid : Prop := Claim7.holds Tryd.pinned (.plain (OpenSpec.ofChange fnExactStructureValidSpec)) fnExactStructureValidCard

/-- THE TIED CARD OF 'laws.FnExactInRel'. -/
def fnExactInRelCard : Claim7 := { stood := { row := fnExactInRelRow, standIns := [], harness := (true, "2ba14b15fc4542ddd3952c48ccb48dd561023d9ed7371c7889c4cc08bb8bcdfe"), looks := false }, kinds := [], alts := [], laidByText := true, laidKinds := [.data, .pinned], laidTests := true, laidLooks := .later }
def FnExactInRelCardSaid : Prop := Claim7.holds Tryd.pinned (.plain (OpenSpec.ofChange fnExactInRelSpec)) fnExactInRelCard

/-- THE TIED CARD OF 'laws.FnExactInSet'. -/
def fnExactInSetCard : Claim7 := { stood := { row := fnExactInSetRow, standIns := [], harness := (true, "2ba14b15fc4542ddd3952c48ccb48dd561023d9ed7371c7889c4cc08bb8bcdfe"), looks := false }, kinds := [], alts := [], laidByText := true, laidKinds := [.data, .pinned], laidTests := true, laidLooks := .later }
def FnExactInSetCardSaid : Prop := Claim7.holds Tryd.pinned (.plain (OpenSpec.ofChange fnExactInSetSpec)) fnExactInSetCard

/-- THE TIED CARD OF 'laws.FnExactFormatStructure'. -/
def fnExactFormatStructureCard : Claim7 := { stood := { row := fnExactFormatStructureRow, standIns := [], harness := (true, "2ba14b15fc4542ddd3952c48ccb48dd561023d9ed7371c7889c4cc08bb8bcdfe"), looks := false }, kinds := [], alts := [], laidByText := true, laidKinds := [.data, .pinned], laidTests := true, laidLooks := .later }
def FnExactFormatStructureCardSaid : Prop := Claim7.holds Tryd.pinned (.plain (OpenSpec.ofChange fnExactFormatStructureSpec)) fnExactFormatStructureCard

/-- THE TIED CARD OF 'laws.FnExactOtherStructure'. -/
def fnExactOtherStructureCard : Claim7 := { stood := { row := fnExactOtherStructureRow, standIns := [], harness := (true, "2ba14b15fc4542ddd3952c48ccb48dd561023d9ed7371c7889c4cc08bb8bcdfe"), looks := false }, kinds := [], alts := [], laidByText := true, laidKinds := [.data, .pinned], laidTests := true, laidLooks := .later }
def FnExactOtherStructureCardSaid : Prop := Claim7.holds Tryd.pinned (.plain (OpenSpec.ofChange fnExactOtherStructureSpec)) fnExactOtherStructureCard

/-- THE TIED CARD OF 'laws.FnExactTurnStructure'. -/
def fnExactTurnStructureCard : Claim7 := { stood := { row := fnExactTurnStructureRow, standIns := [], harness := (true, "2ba14b15fc4542ddd3952c48ccb48dd561023d9ed7371c7889c4cc08bb8bcdfe"), looks := false }, kinds := [], alts := [], laidByText := true, laidKinds := [.data, .pinned], laidTests := true, laidLooks := .later }
def FnExactTurnStructureCardSaid : Prop := Claim7.holds Tryd.pinned (.plain (OpenSpec.ofChange fnExactTurnStructureSpec)) fnExactTurnStructureCard

/-- THE TIED CARD OF 'laws.FnExactParseStructure'. -/
def fnExactParseStructureCard : Claim7 := { stood := { row := fnExactParseStructureRow, standIns := [], harness := (true, "2ba14b15fc4542ddd3952c48ccb48dd561023d9ed7371c7889c4cc08bb8bcdfe"), looks := false }, kinds := [], alts := [], laidByText := true, laidKinds := [.data, .pinned], laidTests := true, laidLooks := .later }
def FnExactParseStructureCardSaid : Prop := Claim7.holds Tryd.pinned (.plain (OpenSpec.ofChange fnExactParseStructureSpec)) fnExactParseStructureCard

/-- THE TIED CARD OF 'laws.FnExactPartOf'. -/
def fnExactPartOfCard : Claim7 := { stood := { row := fnExactPartOfRow, standIns := [], harness := (true, "2ba14b15fc4542ddd3952c48ccb48dd561023d9ed7371c7889c4cc08bb8bcdfe"), looks := false }, kinds := [], alts := [], laidByText := true, laidKinds := [.data, .pinned], laidTests := true, laidLooks := .later }
def FnExactPartOfCardSaid : Prop := Claim7.holds Tryd.pinned (.plain (OpenSpec.ofChange fnExactPartOfSpec)) fnExactPartOfCard

/-- THE TIED CARD OF 'laws.FnExactMoveElements'. -/
def fnExactMoveElementsCard : Claim7 := { stood := { row := fnExactMoveElementsRow, standIns := [], harness := (true, "2ba14b15fc4542ddd3952c48ccb48dd561023d9ed7371c7889c4cc08bb8bcdfe"), looks := false }, kinds := [], alts := [], laidByText := true, laidKinds := [.data, .pinned], laidTests := true, laidLooks := .later }
def FnExactMoveElementsCardSaid : Prop := Claim7.holds Tryd.pinned (.plain (OpenSpec.ofChange fnExactMoveElementsSpec)) fnExactMoveElementsCard

/-- THE TIED CARD OF 'laws.FnExactCountSymmetries'. -/
def fnExactCountSymmetriesCard : Claim7 := { stood := { row := fnExactCountSymmetriesRow, standIns := [], harness := (true, "2ba14b15fc4542ddd3952c48ccb48dd561023d9ed7371c7889c4cc08bb8bcdfe"), looks := false }, kinds := [], alts := [], laidByText := true, laidKinds := [.data, .pinned], laidTests := true, laidLooks := .later }
def FnExactCountSymmetriesCardSaid : Prop := Claim7.holds Tryd.pinned (.plain (OpenSpec.ofChange fnExactCountSymmetriesSpec)) fnExactCountSymmetriesCard

/-- THE TIED CARD OF 'laws.FnExactSameShape'. -/
def fnExactSameShapeCard : Claim7 := { stood := { row := fnExactSameShapeRow, standIns := [], harness := (true, "2ba14b15fc4542ddd3952c48ccb48dd561023d9ed7371c7889c4cc08bb8bcdfe"), looks := false }, kinds := [], alts := [], laidByText := true, laidKinds := [.data, .pinned], laidTests := true, laidLooks := .later }
def FnExactSameShapeCardSaid : Prop := Claim7.holds Tryd.pinned (.plain (OpenSpec.ofChange fnExactSameShapeSpec)) fnExactSameShapeCard

/-- THE TIED CARD OF 'laws.FnExactOrbitOf'. -/
def fnExactOrbitOfCard : Claim7 := { stood := { row := fnExactOrbitOfRow, standIns := [], harness := (true, "2ba14b15fc4542ddd3952c48ccb48dd561023d9ed7371c7889c4cc08bb8bcdfe"), looks := false }, kinds := [], alts := [], laidByText := true, laidKinds := [.data, .pinned], laidTests := true, laidLooks := .later }
def FnExactOrbitOfCardSaid : Prop := Claim7.holds Tryd.pinned (.plain (OpenSpec.ofChange fnExactOrbitOfSpec)) fnExactOrbitOfCard

/-- THE SECOND FORM's CARD OF 'laws.FnExactStructureValid'. -/
def fnExactStructureValidUptoCard : Claim7 := { stood := { row := fnExactStructureValidUptoRow, standIns := [], harness := (true, "2ba14b15fc4542ddd3952c48ccb48dd561023d9ed7371c7889c4cc08bb8bcdfe"), looks := false }, kinds := [], alts := [], laidByText := true, laidKinds := [.data, .pinned], laidTests := true, laidLooks := .later }
def FnExactStructureValidUptoCardSaid : Prop := Claim7.holds Tryd.pinned (.plain (OpenSpec.upto fnExactStructureValidSpec)) fnExactStructureValidUptoCard

/-- THE SECOND FORM's CARD OF 'laws.FnExactInRel'. -/
def fnExactInRelUptoCard : Claim7 := { stood := { row := fnExactInRelUptoRow, standIns := [], harness := (true, "2ba14b15fc4542ddd3952c48ccb48dd561023d9ed7371c7889c4cc08bb8bcdfe"), looks := false }, kinds := [], alts := [], laidByText := true, laidKinds := [.data, .pinned], laidTests := true, laidLooks := .later }
def FnExactInRelUptoCardSaid : Prop := Claim7.holds Tryd.pinned (.plain (OpenSpec.upto fnExactInRelSpec)) fnExactInRelUptoCard

/-- THE SECOND FORM's CARD OF 'laws.FnExactInSet'. -/
def fnExactInSetUptoCard : Claim7 := { stood := { row := fnExactInSetUptoRow, standIns := [], harness := (true, "2ba14b15fc4542ddd3952c48ccb48dd561023d9ed7371c7889c4cc08bb8bcdfe"), looks := false }, kinds := [], alts := [], laidByText := true, laidKinds := [.data, .pinned], laidTests := true, laidLooks := .later }
def FnExactInSetUptoCardSaid : Prop := Claim7.holds Tryd.pinned (.plain (OpenSpec.upto fnExactInSetSpec)) fnExactInSetUptoCard

/-- THE SECOND FORM's CARD OF 'laws.FnExactFormatStructure'. -/
def fnExactFormatStructureUptoCard : Claim7 := { stood := { row := fnExactFormatStructureUptoRow, standIns := [], harness := (true, "2ba14b15fc4542ddd3952c48ccb48dd561023d9ed7371c7889c4cc08bb8bcdfe"), looks := false }, kinds := [], alts := [], laidByText := true, laidKinds := [.data, .pinned], laidTests := true, laidLooks := .later }
def FnExactFormatStructureUptoCardSaid : Prop := Claim7.holds Tryd.pinned (.plain (OpenSpec.upto fnExactFormatStructureSpec)) fnExactFormatStructureUptoCard

/-- THE SECOND FORM's CARD OF 'laws.FnExactOtherStructure'. -/
def fnExactOtherStructureUptoCard : Claim7 := { stood := { row := fnExactOtherStructureUptoRow, standIns := [], harness := (true, "2ba14b15fc4542ddd3952c48ccb48dd561023d9ed7371c7889c4cc08bb8bcdfe"), looks := false }, kinds := [], alts := [], laidByText := true, laidKinds := [.data, .pinned], laidTests := true, laidLooks := .later }
def FnExactOtherStructureUptoCardSaid : Prop := Claim7.holds Tryd.pinned (.plain (OpenSpec.upto fnExactOtherStructureSpec)) fnExactOtherStructureUptoCard

/-- THE SECOND FORM's CARD OF 'laws.FnExactTurnStructure'. -/
def fnExactTurnStructureUptoCard : Claim7 := { stood := { row := fnExactTurnStructureUptoRow, standIns := [], harness := (true, "2ba14b15fc4542ddd3952c48ccb48dd561023d9ed7371c7889c4cc08bb8bcdfe"), looks := false }, kinds := [], alts := [], laidByText := true, laidKinds := [.data, .pinned], laidTests := true, laidLooks := .later }
def FnExactTurnStructureUptoCardSaid : Prop := Claim7.holds Tryd.pinned (.plain (OpenSpec.upto fnExactTurnStructureSpec)) fnExactTurnStructureUptoCard

/-- THE SECOND FORM's CARD OF 'laws.FnExactParseStructure'. -/
def fnExactParseStructureUptoCard : Claim7 := { stood := { row := fnExactParseStructureUptoRow, standIns := [], harness := (true, "2ba14b15fc4542ddd3952c48ccb48dd561023d9ed7371c7889c4cc08bb8bcdfe"), looks := false }, kinds := [], alts := [], laidByText := true, laidKinds := [.data, .pinned], laidTests := true, laidLooks := .later }
def FnExactParseStructureUptoCardSaid : Prop := Claim7.holds Tryd.pinned (.plain (OpenSpec.upto fnExactParseStructureSpec)) fnExactParseStructureUptoCard

/-- THE SECOND FORM's CARD OF 'laws.FnExactPartOf'. -/
def fnExactPartOfUptoCard : Claim7 := { stood := { row := fnExactPartOfUptoRow, standIns := [], harness := (true, "2ba14b15fc4542ddd3952c48ccb48dd561023d9ed7371c7889c4cc08bb8bcdfe"), looks := false }, kinds := [], alts := [], laidByText := true, laidKinds := [.data, .pinned], laidTests := true, laidLooks := .later }
def FnExactPartOfUptoCardSaid : Prop := Claim7.holds Tryd.pinned (.plain (OpenSpec.upto fnExactPartOfSpec)) fnExactPartOfUptoCard

/-- THE SECOND FORM's CARD OF 'laws.FnExactMoveElements'. -/
def fnExactMoveElementsUptoCard : Claim7 := { stood := { row := fnExactMoveElementsUptoRow, standIns := [], harness := (true, "2ba14b15fc4542ddd3952c48ccb48dd561023d9ed7371c7889c4cc08bb8bcdfe"), looks := false }, kinds := [], alts := [], laidByText := true, laidKinds := [.data, .pinned], laidTests := true, laidLooks := .later }
def FnExactMoveElementsUptoCardSaid : Prop := Claim7.holds Tryd.pinned (.plain (OpenSpec.upto fnExactMoveElementsSpec)) fnExactMoveElementsUptoCard

/-- THE SECOND FORM's CARD OF 'laws.FnExactCountSymmetries'. -/
def fnExactCountSymmetriesUptoCard : Claim7 := { stood := { row := fnExactCountSymmetriesUptoRow, standIns := [], harness := (true, "2ba14b15fc4542ddd3952c48ccb48dd561023d9ed7371c7889c4cc08bb8bcdfe"), looks := false }, kinds := [], alts := [], laidByText := true, laidKinds := [.data, .pinned], laidTests := true, laidLooks := .later }
def FnExactCountSymmetriesUptoCardSaid : Prop := Claim7.holds Tryd.pinned (.plain (OpenSpec.upto fnExactCountSymmetriesSpec)) fnExactCountSymmetriesUptoCard

/-- THE SECOND FORM's CARD OF 'laws.FnExactSameShape'. -/
def fnExactSameShapeUptoCard : Claim7 := { stood := { row := fnExactSameShapeUptoRow, standIns := [], harness := (true, "2ba14b15fc4542ddd3952c48ccb48dd561023d9ed7371c7889c4cc08bb8bcdfe"), looks := false }, kinds := [], alts := [], laidByText := true, laidKinds := [.data, .pinned], laidTests := true, laidLooks := .later }
def FnExactSameShapeUptoCardSaid : Prop := Claim7.holds Tryd.pinned (.plain (OpenSpec.upto fnExactSameShapeSpec)) fnExactSameShapeUptoCard

/-- THE SECOND FORM's CARD OF 'laws.FnExactOrbitOf'. -/
def fnExactOrbitOfUptoCard : Claim7 := { stood := { row := fnExactOrbitOfUptoRow, standIns := [], harness := (true, "2ba14b15fc4542ddd3952c48ccb48dd561023d9ed7371c7889c4cc08bb8bcdfe"), looks := false }, kinds := [], alts := [], laidByText := true, laidKinds := [.data, .pinned], laidTests := true, laidLooks := .later }
def FnExactOrbitOfUptoCardSaid : Prop := Claim7.holds Tryd.pinned (.plain (OpenSpec.upto fnExactOrbitOfSpec)) fnExactOrbitOfUptoCard
end Rows
end Go.Proofs.YtgejjnikcgnghaaDoor
