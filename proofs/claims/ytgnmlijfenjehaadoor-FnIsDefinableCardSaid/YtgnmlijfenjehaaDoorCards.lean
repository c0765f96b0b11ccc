/-
  DERIVED. GIVEN WITH THE SEED: THE CARDS: each row of YtgnmlijfenjehaaDoorRows.lean that lists a variable, with what it lists TIED to the program's text (the seventh form; the later family's looks); each row that meets fmt, with fmt's text TOLD by the authors' own Lean function (tested against real Go, not proved from fmt's source: count such statements apart). THE CARD IS WHAT COUNTS. Prove the row's statement (the work); the ties are given (YtgnmlijfenjehaaDoorTie.lean); close each card by the builder's one call (the guide's Derived/Test/ToyasCard.lean, 'card_holds'). Laid BY PROGRAM, IN A SANDBOX (cutbox-door.mjs). By AI agents, Wed Nov 11 2026. No macro, syntax, notation, axiom, sorry.
-/
import Derived.Test.YtgnmlijfenjehaaDoorRows
import GoSem.ClaimSeven
namespace Go.Proofs.YtgnmlijfenjehaaDoor
namespace Rows

/-- THE TIED CARD OF 'laws.FnExactIsDefinable'. -/
def fnExactIsDefinableCard : Claim7 := { stood := { row := fnExactIsDefinableRow, standIns := [], harness := (true, "ed32f21da3c5a0d8818b0354aade97f0c1a1c43bf6a320b46631a853afe100f7"), looks := false }, kinds := [], alts := [], laidByText := true, laidKinds := [.data, .pinned], laidTests := true, laidLooks := .later }
def FnExactIsDefinableCardSaid : Prop := Claim7.holds Tryd.pinned (.plain (OpenSpec.ofChange fnExactIsDefinableSpec)) fnExactIsDefinableCard

/-- THE TIED CARD OF 'laws.FnIsDefinable'. -/
def fnIsDefinableCard : Claim7 := { stood := { row := fnIsDefinableRow, standIns := [], harness := (true, "ed32f21da3c5a0d8818b0354aade97f0c1a1c43bf6a320b46631a853afe100f7"), looks := false }, kinds := [], alts := [], laidByText := true, laidKinds := [.data, .pinned], laidTests := true, laidLooks := .later }
def FnIsDefinableCardSaid : Prop := Claim7.holds Tryd.pinned (.plain (OpenSpec.ofChange fnIsDefinableSpec)) fnIsDefinableCard

/-- THE TIED CARD OF 'laws.FnExactDescribeStructure'. -/
def fnExactDescribeStructureCard : Claim7 := { stood := { row := fnExactDescribeStructureRow, standIns := [], harness := (true, "ed32f21da3c5a0d8818b0354aade97f0c1a1c43bf6a320b46631a853afe100f7"), looks := false }, kinds := [], alts := [], laidByText := true, laidKinds := [.data, .pinned], laidTests := true, laidLooks := .later }
def FnExactDescribeStructureCardSaid : Prop := Claim7.holds Tryd.pinned (.plain (OpenSpec.ofChange fnExactDescribeStructureSpec)) fnExactDescribeStructureCard

/-- THE TIED CARD OF 'laws.FnExactDescribeElement'. -/
def fnExactDescribeElementCard : Claim7 := { stood := { row := fnExactDescribeElementRow, standIns := [], harness := (true, "ed32f21da3c5a0d8818b0354aade97f0c1a1c43bf6a320b46631a853afe100f7"), looks := false }, kinds := [], alts := [], laidByText := true, laidKinds := [.data, .pinned], laidTests := true, laidLooks := .later }
def FnExactDescribeElementCardSaid : Prop := Claim7.holds Tryd.pinned (.plain (OpenSpec.ofChange fnExactDescribeElementSpec)) fnExactDescribeElementCard

/-- THE TIED CARD OF 'laws.FnExactHoldsAt'. -/
def fnExactHoldsAtCard : Claim7 := { stood := { row := fnExactHoldsAtRow, standIns := [], harness := (true, "ed32f21da3c5a0d8818b0354aade97f0c1a1c43bf6a320b46631a853afe100f7"), looks := false }, kinds := [], alts := [], laidByText := true, laidKinds := [.data, .pinned], laidTests := true, laidLooks := .later }
def FnExactHoldsAtCardSaid : Prop := Claim7.holds Tryd.pinned (.plain (OpenSpec.ofChange fnExactHoldsAtSpec)) fnExactHoldsAtCard

/-- THE TIED CARD OF 'laws.FnExactHoldsIn'. -/
def fnExactHoldsInCard : Claim7 := { stood := { row := fnExactHoldsInRow, standIns := [], harness := (true, "ed32f21da3c5a0d8818b0354aade97f0c1a1c43bf6a320b46631a853afe100f7"), looks := false }, kinds := [], alts := [], laidByText := true, laidKinds := [.data, .pinned], laidTests := true, laidLooks := .later }
def FnExactHoldsInCardSaid : Prop := Claim7.holds Tryd.pinned (.plain (OpenSpec.ofChange fnExactHoldsInSpec)) fnExactHoldsInCard

/-- THE SECOND FORM's CARD OF 'laws.FnExactIsDefinable'. -/
def fnExactIsDefinableUptoCard : Claim7 := { stood := { row := fnExactIsDefinableUptoRow, standIns := [], harness := (true, "ed32f21da3c5a0d8818b0354aade97f0c1a1c43bf6a320b46631a853afe100f7"), looks := false }, kinds := [], alts := [], laidByText := true, laidKinds := [.data, .pinned], laidTests := true, laidLooks := .later }
def FnExactIsDefinableUptoCardSaid : Prop := Claim7.holds Tryd.pinned (.plain (OpenSpec.upto fnExactIsDefinableSpec)) fnExactIsDefinableUptoCard

/-- THE SECOND FORM's CARD OF 'laws.FnIsDefinable'. -/
def fnIsDefinableUptoCard : Claim7 := { stood := { row := fnIsDefinableUptoRow, standIns := [], harness := (true, "ed32f21da3c5a0d8818b0354aade97f0c1a1c43bf6a320b46631a853afe100f7"), looks := false }, kinds := [], alts := [], laidByText := true, laidKinds := [.data, .pinned], laidTests := true, laidLooks := .later }
def FnIsDefinableUptoCardSaid : Prop := Claim7.holds Tryd.pinned (.plain (OpenSpec.upto fnIsDefinableSpec)) fnIsDefinableUptoCard

/-- THE SECOND FORM's CARD OF 'laws.FnExactDescribeStructure'. -/
def fnExactDescribeStructureUptoCard : Claim7 := { stood := { row := fnExactDescribeStructureUptoRow, standIns := [], harness := (true, "ed32f21da3c5a0d8818b0354aade97f0c1a1c43bf6a320b46631a853afe100f7"), looks := false }, kinds := [], alts := [], laidByText := true, laidKinds := [.data, .pinned], laidTests := true, laidLooks := .later }
def FnExactDescribeStructureUptoCardSaid : Prop := Claim7.holds Tryd.pinned (.plain (OpenSpec.upto fnExactDescribeStructureSpec)) fnExactDescribeStructureUptoCard

/-- THE SECOND FORM's CARD OF 'laws.FnExactDescribeElement'. -/
def fnExactDescribeElementUptoCard : Claim7 := { stood := { row := fnExactDescribeElementUptoRow, standIns := [], harness := (true, "ed32f21da3c5a0d8818b0354aade97f0c1a1c43bf6a320b46631a853afe100f7"), looks := false }, kinds := [], alts := [], laidByText := true, laidKinds := [.data, .pinned], laidTests := true, laidLooks := .later }
def FnExactDescribeElementUptoCardSaid : Prop := Claim7.holds Tryd.pinned (.plain (OpenSpec.upto fnExactDescribeElementSpec)) fnExactDescribeElementUptoCard

/-- THE SECOND FORM's CARD OF 'laws.FnExactHoldsAt'. -/
def fnExactHoldsAtUptoCard : Claim7 := { stood := { row := fnExactHoldsAtUptoRow, standIns := [], harness := (true, "ed32f21da3c5a0d8818b0354aade97f0c1a1c43bf6a320b46631a853afe100f7"), looks := false }, kinds := [], alts := [], laidByText := true, laidKinds := [.data, .pinned], laidTests := true, laidLooks := .later }
def FnExactHoldsAtUptoCardSaid : Prop := Claim7.holds Tryd.pinned (.plain (OpenSpec.upto fnExactHoldsAtSpec)) fnExactHoldsAtUptoCard

/-- THE SECOND FORM's CARD OF 'laws.FnExactHoldsIn'. -/
def fnExactHoldsInUptoCard : Claim7 := { stood := { row := fnExactHoldsInUptoRow, standIns := [], harness := (true, "ed32f21da3c5a0d8818b0354aade97f0c1a1c43bf6a320b46631a853afe100f7"), looks := false }, kinds := [], alts := [], laidByText := true, laidKinds := [.data, .pinned], laidTests := true, laidLooks := .later }
def FnExactHoldsInUptoCardSaid : Prop := Claim7.holds Tryd.pinned (.plain (OpenSpec.upto fnExactHoldsInSpec)) fnExactHoldsInUptoCard
end Rows
end Go.Proofs.YtgnmlijfenjehaaDoor
