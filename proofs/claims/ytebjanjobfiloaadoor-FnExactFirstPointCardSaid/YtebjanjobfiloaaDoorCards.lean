/-
  DERIVED. GIVEN WITH THE SEED: THE CARDS: each row of YtebjanjobfiloaaDoorRows.lean that lists a variable, with what it lists TIED to the program's text (the seventh form; the later family's looks); each row that meets fmt, with fmt's text TOLD by the authors' own Lean function (tested against real Go, not proved from fmt's source: count such statements apart). THE CARD IS WHAT COUNTS. Prove the row's statement (the work); the ties are given (YtebjanjobfiloaaDoorTie.lean); close each card by the builder's one call (the guide's Derived/Test/ToyasCard.lean, 'card_holds'). Laid BY PROGRAM, IN A SANDBOX (cutbox-door.mjs). By AI agents, Wed Nov 11 2026. No macro, syntax, notation, axiom, sorry.
-/
import Derived.Test.YtebjanjobfiloaaDoorRows
import GoSem.ClaimSeven
namespace Go.Proofs.YtebjanjobfiloaaDoor
namespace Rows

/-- THE TIED CARD OF 'laws.FnExactHoldsAt'. -/
def fnExactHoldsAtCard : Claim7 := { stood := { row := fnExactHoldsAtRow, standIns := [], harness := (true, "9d370d529861b926b6e968d728902d6444b6c8079c525ce15e9635ddb8c8b36e"), looks := false }, kinds := [], alts := [], laidByText := true, laidKinds := [.data, .pinned], laidTests := true, laidLooks := .later }
def FnExactHoldsAtCardSaid : Prop := Claim7.holds Tryd.pinned (.plain (OpenSpec.ofChange fnExactHoldsAtSpec)) fnExactHoldsAtCard

/-- THE TIED CARD OF 'laws.FnExactHoldsIn'. -/
def fnExactHoldsInCard : Claim7 := { stood := { row := fnExactHoldsInRow, standIns := [], harness := (true, "9d370d529861b926b6e968d728902d6444b6c8079c525ce15e9635ddb8c8b36e"), looks := false }, kinds := [], alts := [], laidByText := true, laidKinds := [.data, .pinned], laidTests := true, laidLooks := .later }
def FnExactHoldsInCardSaid : Prop := Claim7.holds Tryd.pinned (.plain (OpenSpec.ofChange fnExactHoldsInSpec)) fnExactHoldsInCard

/-- THE TIED CARD OF 'laws.FnExactDefinedRel'. -/
def fnExactDefinedRelCard : Claim7 := { stood := { row := fnExactDefinedRelRow, standIns := [], harness := (true, "9d370d529861b926b6e968d728902d6444b6c8079c525ce15e9635ddb8c8b36e"), looks := false }, kinds := [], alts := [], laidByText := true, laidKinds := [.data, .pinned], laidTests := true, laidLooks := .later }
def FnExactDefinedRelCardSaid : Prop := Claim7.holds Tryd.pinned (.plain (OpenSpec.ofChange fnExactDefinedRelSpec)) fnExactDefinedRelCard

/-- THE TIED CARD OF 'laws.FnExactDefinedSet'. -/
def fnExactDefinedSetCard : Claim7 := { stood := { row := fnExactDefinedSetRow, standIns := [], harness := (true, "9d370d529861b926b6e968d728902d6444b6c8079c525ce15e9635ddb8c8b36e"), looks := false }, kinds := [], alts := [], laidByText := true, laidKinds := [.data, .pinned], laidTests := true, laidLooks := .later }
def FnExactDefinedSetCardSaid : Prop := Claim7.holds Tryd.pinned (.plain (OpenSpec.ofChange fnExactDefinedSetSpec)) fnExactDefinedSetCard

/-- THE TIED CARD OF 'laws.FnExactCountPoints'. -/
def fnExactCountPointsCard : Claim7 := { stood := { row := fnExactCountPointsRow, standIns := [], harness := (true, "9d370d529861b926b6e968d728902d6444b6c8079c525ce15e9635ddb8c8b36e"), looks := false }, kinds := [], alts := [], laidByText := true, laidKinds := [.data, .pinned], laidTests := true, laidLooks := .later }
def FnExactCountPointsCardSaid : Prop := Claim7.holds Tryd.pinned (.plain (OpenSpec.ofChange fnExactCountPointsSpec)) fnExactCountPointsCard

/-- THE TIED CARD OF 'laws.FnExactSameIn'. -/
def fnExactSameInCard : Claim7 := { stood := { row := fnExactSameInRow, standIns := [], harness := (true, "9d370d529861b926b6e968d728902d6444b6c8079c525ce15e9635ddb8c8b36e"), looks := false }, kinds := [], alts := [], laidByText := true, laidKinds := [.data, .pinned], laidTests := true, laidLooks := .later }
def FnExactSameInCardSaid : Prop := Claim7.holds Tryd.pinned (.plain (OpenSpec.ofChange fnExactSameInSpec)) fnExactSameInCard

/-- THE TIED CARD OF 'laws.FnExactFirstPoint'. -/
def fnExactFirstPointCard : Claim7 := { stood := { row := fnExactFirstPointRow, standIns := [], harness := (true, "9d370d529861b926b6e968d728902d6444b6c8079c525ce15e9635ddb8c8b36e"), looks := false }, kinds := [], alts := [], laidByText := true, laidKinds := [.data, .pinned], laidTests := true, laidLooks := .later }
def FnExactFirstPointCardSaid : Prop := Claim7.holds Tryd.pinned (.plain (OpenSpec.ofChange fnExactFirstPointSpec)) fnExactFirstPointCard

/-- THE SECOND FORM's CARD OF 'laws.FnExactHoldsAt'. -/
def fnExactHoldsAtUptoCard : Claim7 := { stood := { row := fnExactHoldsAtUptoRow, standIns := [], harness := (true, "9d370d529861b926b6e968d728902d6444b6c8079c525ce15e9635ddb8c8b36e"), looks := false }, kinds := [], alts := [], laidByText := true, laidKinds := [.data, .pinned], laidTests := true, laidLooks := .later }
def FnExactHoldsAtUptoCardSaid : Prop := Claim7.holds Tryd.pinned (.plain (OpenSpec.upto fnExactHoldsAtSpec)) fnExactHoldsAtUptoCard

/-- THE SECOND FORM's CARD OF 'laws.FnExactHoldsIn'. -/
def fnExactHoldsInUptoCard : Claim7 := { stood := { row := fnExactHoldsInUptoRow, standIns := [], harness := (true, "9d370d529861b926b6e968d728902d6444b6c8079c525ce15e9635ddb8c8b36e"), looks := false }, kinds := [], alts := [], laidByText := true, laidKinds := [.data, .pinned], laidTests := true, laidLooks := .later }
def FnExactHoldsInUptoCardSaid : Prop := Claim7.holds Tryd.pinned (.plain (OpenSpec.upto fnExactHoldsInSpec)) fnExactHoldsInUptoCard

/-- THE SECOND FORM's CARD OF 'laws.FnExactDefinedRel'. -/
def fnExactDefinedRelUptoCard : Claim7 := { stood := { row := fnExactDefinedRelUptoRow, standIns := [], harness := (true, "9d370d529861b926b6e968d728902d6444b6c8079c525ce15e9635ddb8c8b36e"), looks := false }, kinds := [], alts := [], laidByText := true, laidKinds := [.data, .pinned], laidTests := true, laidLooks := .later }
def FnExactDefinedRelUptoCardSaid : Prop := Claim7.holds Tryd.pinned (.plain (OpenSpec.upto fnExactDefinedRelSpec)) fnExactDefinedRelUptoCard

/-- THE SECOND FORM's CARD OF 'laws.FnExactDefinedSet'. -/
def fnExactDefinedSetUptoCard : Claim7 := { stood := { row := fnExactDefinedSetUptoRow, standIns := [], harness := (true, "9d370d529861b926b6e968d728902d6444b6c8079c525ce15e9635ddb8c8b36e"), looks := false }, kinds := [], alts := [], laidByText := true, laidKinds := [.data, .pinned], laidTests := true, laidLooks := .later }
def FnExactDefinedSetUptoCardSaid : Prop := Claim7.holds Tryd.pinned (.plain (OpenSpec.upto fnExactDefinedSetSpec)) fnExactDefinedSetUptoCard

/-- THE SECOND FORM's CARD OF 'laws.FnExactCountPoints'. -/
def fnExactCountPointsUptoCard : Claim7 := { stood := { row := fnExactCountPointsUptoRow, standIns := [], harness := (true, "9d370d529861b926b6e968d728902d6444b6c8079c525ce15e9635ddb8c8b36e"), looks := false }, kinds := [], alts := [], laidByText := true, laidKinds := [.data, .pinned], laidTests := true, laidLooks := .later }
def FnExactCountPointsUptoCardSaid : Prop := Claim7.holds Tryd.pinned (.plain (OpenSpec.upto fnExactCountPointsSpec)) fnExactCountPointsUptoCard

/-- THE SECOND FORM's CARD OF 'laws.FnExactSameIn'. -/
def fnExactSameInUptoCard : Claim7 := { stood := { row := fnExactSameInUptoRow, standIns := [], harness := (true, "9d370d529861b926b6e968d728902d6444b6c8079c525ce15e9635ddb8c8b36e"), looks := false }, kinds := [], alts := [], laidByText := true, laidKinds := [.data, .pinned], laidTests := true, laidLooks := .later }
def FnExactSameInUptoCardSaid : Prop := Claim7.holds Tryd.pinned (.plain (OpenSpec.upto fnExactSameInSpec)) fnExactSameInUptoCard

/-- THE SECOND FORM's CARD OF 'laws.FnExactFirstPoint'. -/
def fnExactFirstPointUptoCard : Claim7 := { stood := { row := fnExactFirstPointUptoRow, standIns := [], harness := (true, "9d370d529861b926b6e968d728902d6444b6c8079c525ce15e9635ddb8c8b36e"), looks := false }, kinds := [], alts := [], laidByText := true, laidKinds := [.data, .pinned], laidTests := true, laidLooks := .later }
def FnExactFirstPointUptoCardSaid : Prop := Claim7.holds Tryd.pinned (.plain (OpenSpec.upto fnExactFirstPointSpec)) fnExactFirstPointUptoCard
end Rows
end Go.Proofs.YtebjanjobfiloaaDoor
