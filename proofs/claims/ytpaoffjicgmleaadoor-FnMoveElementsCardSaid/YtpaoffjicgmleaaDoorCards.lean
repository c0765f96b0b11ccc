/-
  DERIVED. GIVEN WITH THE SEED: THE CARDS: each row of YtpaoffjicgmleaaDoorRows.lean that lists a variable, with what it lists TIED to the program's text (the seventh form; the later family's looks); each row that meets fmt, with fmt's text TOLD by the authors' own Lean function (tested against real Go, not proved from fmt's source: count such statements apart). THE CARD IS WHAT COUNTS. Prove the row's statement (the work); the ties are given (YtpaoffjicgmleaaDoorTie.lean); close each card by the builder's one call (the guide's Derived/Test/ToyasCard.lean, 'card_holds'). Laid BY PROGRAM, IN A SANDBOX (cutbox-door.mjs). By AI agents, Wed Nov 11 2026. No macro, syntax, notation, axiom, sorry.
-/
import Derived.Test.YtpaoffjicgmleaaDoorRows
import GoSem.ClaimSeven
namespace Go.Proofs.YtpaoffjicgmleaaDoor
namespace Rows

/-- THE TIED CARD OF 'laws.FnPartOf'. -/
def fnPartOfCard : Claim7 := { stood := { row := fnPartOfRow, standIns := [], harness := (true, "7dc4b5aad134aaeec9db42a3779191df97cc6c3e3de4469d9760cbaf359d82ea"), looks := false }, kinds := [], alts := [], laidByText := true, laidKinds := [.data, .pinned], laidTests := true, laidLooks := .later }
def FnPartOfCardSaid : Prop := Claim7.holds Tryd.pinned (.plain (OpenSpec.ofChange fnPartOfSpec)) fnPartOfCard

/-- THE TIED CARD OF 'laws.FnOtherTurn'. -/
def fnOtherTurnCard : Claim7 := { stood := { row := fnOtherTurnRow, standIns := [], harness := (true, "7dc4b5aad134aaeec9db42a3779191df97cc6c3e3de4469d9760cbaf359d82ea"), looks := false }, kinds := [], alts := [], laidByText := true, laidKinds := [.data, .pinned], laidTests := true, laidLooks := .later }
def FnOtherTurnCardSaid : Prop := Claim7.holds Tryd.pinned (.plain (OpenSpec.ofChange fnOtherTurnSpec)) fnOtherTurnCard

/-- THE TIED CARD OF 'laws.FnStructureText'. -/
def fnStructureTextCard : Claim7 := { stood := { row := fnStructureTextRow, standIns := [], harness := (true, "7dc4b5aad134aaeec9db42a3779191df97cc6c3e3de4469d9760cbaf359d82ea"), looks := false }, kinds := [], alts := [], laidByText := true, laidKinds := [.data, .pinned], laidTests := true, laidLooks := .later }
def FnStructureTextCardSaid : Prop := Claim7.holds Tryd.pinned (.plain (OpenSpec.ofChange fnStructureTextSpec)) fnStructureTextCard

/-- THE TIED CARD OF 'laws.FnOrbits'. -/
def fnOrbitsCard : Claim7 := { stood := { row := fnOrbitsRow, standIns := [], harness := (true, "7dc4b5aad134aaeec9db42a3779191df97cc6c3e3de4469d9760cbaf359d82ea"), looks := false }, kinds := [], alts := [], laidByText := true, laidKinds := [.data, .pinned], laidTests := true, laidLooks := .later }
def FnOrbitsCardSaid : Prop := Claim7.holds Tryd.pinned (.plain (OpenSpec.ofChange fnOrbitsSpec)) fnOrbitsCard

/-- THE TIED CARD OF 'laws.FnMoveElements'. -/
def fnMoveElementsCard : Claim7 := { stood := { row := fnMoveElementsRow, standIns := [], harness := (true, "7dc4b5aad134aaeec9db42a3779191df97cc6c3e3de4469d9760cbaf359d82ea"), looks := false }, kinds := [], alts := [], laidByText := true, laidKinds := [.data, .pinned], laidTests := true, laidLooks := .later }
def FnMoveElementsCardSaid : Prop := Claim7.holds Tryd.pinned (.plain (OpenSpec.ofChange fnMoveElementsSpec)) fnMoveElementsCard

/-- THE TIED CARD OF 'laws.FnSymmetries'. -/
def fnSymmetriesCard : Claim7 := { stood := { row := fnSymmetriesRow, standIns := [], harness := (true, "7dc4b5aad134aaeec9db42a3779191df97cc6c3e3de4469d9760cbaf359d82ea"), looks := false }, kinds := [], alts := [], laidByText := true, laidKinds := [.data, .pinned], laidTests := true, laidLooks := .later }
def FnSymmetriesCardSaid : Prop := Claim7.holds Tryd.pinned (.plain (OpenSpec.ofChange fnSymmetriesSpec)) fnSymmetriesCard

/-- THE TIED CARD OF 'laws.FnSameShape'. -/
def fnSameShapeCard : Claim7 := { stood := { row := fnSameShapeRow, standIns := [], harness := (true, "7dc4b5aad134aaeec9db42a3779191df97cc6c3e3de4469d9760cbaf359d82ea"), looks := false }, kinds := [], alts := [], laidByText := true, laidKinds := [.data, .pinned], laidTests := true, laidLooks := .later }
def FnSameShapeCardSaid : Prop := Claim7.holds Tryd.pinned (.plain (OpenSpec.ofChange fnSameShapeSpec)) fnSameShapeCard

/-- THE SECOND FORM's CARD OF 'laws.FnPartOf'. -/
def fnPartOfUptoCard : Claim7 := { stood := { row := fnPartOfUptoRow, standIns := [], harness := (true, "7dc4b5aad134aaeec9db42a3779191df97cc6c3e3de4469d9760cbaf359d82ea"), looks := false }, kinds := [], alts := [], laidByText := true, laidKinds := [.data, .pinned], laidTests := true, laidLooks := .later }
def FnPartOfUptoCardSaid : Prop := Claim7.holds Tryd.pinned (.plain (OpenSpec.upto fnPartOfSpec)) fnPartOfUptoCard

/-- THE SECOND FORM's CARD OF 'laws.FnOtherTurn'. -/
def fnOtherTurnUptoCard : Claim7 := { stood := { row := fnOtherTurnUptoRow, standIns := [], harness := (true, "7dc4b5aad134aaeec9db42a3779191df97cc6c3e3de4469d9760cbaf359d82ea"), looks := false }, kinds := [], alts := [], laidByText := true, laidKinds := [.data, .pinned], laidTests := true, laidLooks := .later }
def FnOtherTurnUptoCardSaid : Prop := Claim7.holds Tryd.pinned (.plain (OpenSpec.upto fnOtherTurnSpec)) fnOtherTurnUptoCard

/-- THE SECOND FORM's CARD OF 'laws.FnStructureText'. -/
def fnStructureTextUptoCard : Claim7 := { stood := { row := fnStructureTextUptoRow, standIns := [], harness := (true, "7dc4b5aad134aaeec9db42a3779191df97cc6c3e3de4469d9760cbaf359d82ea"), looks := false }, kinds := [], alts := [], laidByText := true, laidKinds := [.data, .pinned], laidTests := true, laidLooks := .later }
def FnStructureTextUptoCardSaid : Prop := Claim7.holds Tryd.pinned (.plain (OpenSpec.upto fnStructureTextSpec)) fnStructureTextUptoCard

/-- THE SECOND FORM's CARD OF 'laws.FnOrbits'. -/
def fnOrbitsUptoCard : Claim7 := { stood := { row := fnOrbitsUptoRow, standIns := [], harness := (true, "7dc4b5aad134aaeec9db42a3779191df97cc6c3e3de4469d9760cbaf359d82ea"), looks := false }, kinds := [], alts := [], laidByText := true, laidKinds := [.data, .pinned], laidTests := true, laidLooks := .later }
def FnOrbitsUptoCardSaid : Prop := Claim7.holds Tryd.pinned (.plain (OpenSpec.upto fnOrbitsSpec)) fnOrbitsUptoCard

/-- THE SECOND FORM's CARD OF 'laws.FnMoveElements'. -/
def fnMoveElementsUptoCard : Claim7 := { stood := { row := fnMoveElementsUptoRow, standIns := [], harness := (true, "7dc4b5aad134aaeec9db42a3779191df97cc6c3e3de4469d9760cbaf359d82ea"), looks := false }, kinds := [], alts := [], laidByText := true, laidKinds := [.data, .pinned], laidTests := true, laidLooks := .later }
def FnMoveElementsUptoCardSaid : Prop := Claim7.holds Tryd.pinned (.plain (OpenSpec.upto fnMoveElementsSpec)) fnMoveElementsUptoCard

/-- THE SECOND FORM's CARD OF 'laws.FnSymmetries'. -/
def fnSymmetriesUptoCard : Claim7 := { stood := { row := fnSymmetriesUptoRow, standIns := [], harness := (true, "7dc4b5aad134aaeec9db42a3779191df97cc6c3e3de4469d9760cbaf359d82ea"), looks := false }, kinds := [], alts := [], laidByText := true, laidKinds := [.data, .pinned], laidTests := true, laidLooks := .later }
def FnSymmetriesUptoCardSaid : Prop := Claim7.holds Tryd.pinned (.plain (OpenSpec.upto fnSymmetriesSpec)) fnSymmetriesUptoCard

/-- THE SECOND FORM's CARD OF 'laws.FnSameShape'. -/
def fnSameShapeUptoCard : Claim7 := { stood := { row := fnSameShapeUptoRow, standIns := [], harness := (true, "7dc4b5aad134aaeec9db42a3779191df97cc6c3e3de4469d9760cbaf359d82ea"), looks := false }, kinds := [], alts := [], laidByText := true, laidKinds := [.data, .pinned], laidTests := true, laidLooks := .later }
def FnSameShapeUptoCardSaid : Prop := Claim7.holds Tryd.pinned (.plain (OpenSpec.upto fnSameShapeSpec)) fnSameShapeUptoCard
end Rows
end Go.Proofs.YtpaoffjicgmleaaDoor
