/-
  DERIVED. GIVEN WITH THE SEED: THE CARDS: each row of YtgiaebeoldigbaaDoorRows.lean that lists a variable, with what it lists TIED to the program's text (the seventh form; the later family's looks); each row that meets fmt, with fmt's text TOLD by the authors' own Lean function (tested against real Go, not proved from fmt's source: count such statements apart). THE CARD IS WHAT COUNTS. Prove the row's statement (the work); the ties are given (YtgiaebeoldigbaaDoorTie.lean); close each card by the builder's one call (the guide's Derived/Test/ToyasCard.lean, 'card_holds'). Laid BY PROGRAM, IN A SANDBOX (cutbox-door.mjs). By AI agents, Wed Nov 11 2026. No macro, syntax, notation, axiom, sorry.
-/
import Derived.Test.YtgiaebeoldigbaaDoorRows
import GoSem.ClaimSeven
namespace Go.Proofs.YtgiaebeoldigbaaDoor
namespace Rows

/-- THE TIED CARD OF 'laws.FnConnect'. -/
def fnConnectCard : Claim7 := { stood := { row := fnConnectRow, standIns := [], harness := (true, "5c7a3462fb35c4ececd57981b3ec25eaa536ffa18a8668c2ec674dc58163baa7"), looks := false }, kinds := [], alts := [], laidByText := true, laidKinds := [.data, .pinned], laidTests := true, laidLooks := .later }
def FnConnectCardSaid : Prop := Claim7.holds Tryd.pinned (.plain (OpenSpec.ofChange fnConnectSpec)) fnConnectCard

/-- THE TIED CARD OF 'laws.FnFreeVars'. -/
def fnFreeVarsCard : Claim7 := { stood := { row := fnFreeVarsRow, standIns := [], harness := (true, "5c7a3462fb35c4ececd57981b3ec25eaa536ffa18a8668c2ec674dc58163baa7"), looks := false }, kinds := [], alts := [], laidByText := true, laidKinds := [.data, .pinned], laidTests := true, laidLooks := .later }
def FnFreeVarsCardSaid : Prop := Claim7.holds Tryd.pinned (.plain (OpenSpec.ofChange fnFreeVarsSpec)) fnFreeVarsCard

/-- THE TIED CARD OF 'laws.FnMoved'. -/
def fnMovedCard : Claim7 := { stood := { row := fnMovedRow, standIns := [], harness := (true, "5c7a3462fb35c4ececd57981b3ec25eaa536ffa18a8668c2ec674dc58163baa7"), looks := false }, kinds := [], alts := [], laidByText := true, laidKinds := [.data, .pinned], laidTests := true, laidLooks := .later }
def FnMovedCardSaid : Prop := Claim7.holds Tryd.pinned (.plain (OpenSpec.ofChange fnMovedSpec)) fnMovedCard

/-- THE TIED CARD OF 'laws.FnPushNot'. -/
def fnPushNotCard : Claim7 := { stood := { row := fnPushNotRow, standIns := [], harness := (true, "5c7a3462fb35c4ececd57981b3ec25eaa536ffa18a8668c2ec674dc58163baa7"), looks := false }, kinds := [], alts := [], laidByText := true, laidKinds := [.data, .pinned], laidTests := true, laidLooks := .later }
def FnPushNotCardSaid : Prop := Claim7.holds Tryd.pinned (.plain (OpenSpec.ofChange fnPushNotSpec)) fnPushNotCard

/-- THE TIED CARD OF 'laws.FnCountPoints'. -/
def fnCountPointsCard : Claim7 := { stood := { row := fnCountPointsRow, standIns := [], harness := (true, "5c7a3462fb35c4ececd57981b3ec25eaa536ffa18a8668c2ec674dc58163baa7"), looks := false }, kinds := [], alts := [], laidByText := true, laidKinds := [.data, .pinned], laidTests := true, laidLooks := .later }
def FnCountPointsCardSaid : Prop := Claim7.holds Tryd.pinned (.plain (OpenSpec.ofChange fnCountPointsSpec)) fnCountPointsCard

/-- THE TIED CARD OF 'laws.FnFirstPoint'. -/
def fnFirstPointCard : Claim7 := { stood := { row := fnFirstPointRow, standIns := [], harness := (true, "5c7a3462fb35c4ececd57981b3ec25eaa536ffa18a8668c2ec674dc58163baa7"), looks := false }, kinds := [], alts := [], laidByText := true, laidKinds := [.data, .pinned], laidTests := true, laidLooks := .later }
def FnFirstPointCardSaid : Prop := Claim7.holds Tryd.pinned (.plain (OpenSpec.ofChange fnFirstPointSpec)) fnFirstPointCard

/-- THE TIED CARD OF 'laws.FnSameIn'. -/
def fnSameInCard : Claim7 := { stood := { row := fnSameInRow, standIns := [], harness := (true, "5c7a3462fb35c4ececd57981b3ec25eaa536ffa18a8668c2ec674dc58163baa7"), looks := false }, kinds := [], alts := [], laidByText := true, laidKinds := [.data, .pinned], laidTests := true, laidLooks := .later }
def FnSameInCardSaid : Prop := Claim7.holds Tryd.pinned (.plain (OpenSpec.ofChange fnSameInSpec)) fnSameInCard

/-- THE SECOND FORM's CARD OF 'laws.FnConnect'. -/
def fnConnectUptoCard : Claim7 := { stood := { row := fnConnectUptoRow, standIns := [], harness := (true, "5c7a3462fb35c4ececd57981b3ec25eaa536ffa18a8668c2ec674dc58163baa7"), looks := false }, kinds := [], alts := [], laidByText := true, laidKinds := [.data, .pinned], laidTests := true, laidLooks := .later }
def FnConnectUptoCardSaid : Prop := Claim7.holds Tryd.pinned (.plain (OpenSpec.upto fnConnectSpec)) fnConnectUptoCard

/-- THE SECOND FORM's CARD OF 'laws.FnFreeVars'. -/
def fnFreeVarsUptoCard : Claim7 := { stood := { row := fnFreeVarsUptoRow, standIns := [], harness := (true, "5c7a3462fb35c4ececd57981b3ec25eaa536ffa18a8668c2ec674dc58163baa7"), looks := false }, kinds := [], alts := [], laidByText := true, laidKinds := [.data, .pinned], laidTests := true, laidLooks := .later }
def FnFreeVarsUptoCardSaid : Prop := Claim7.holds Tryd.pinned (.plain (OpenSpec.upto fnFreeVarsSpec)) fnFreeVarsUptoCard

/-- THE SECOND FORM's CARD OF 'laws.FnMoved'. -/
def fnMovedUptoCard : Claim7 := { stood := { row := fnMovedUptoRow, standIns := [], harness := (true, "5c7a3462fb35c4ececd57981b3ec25eaa536ffa18a8668c2ec674dc58163baa7"), looks := false }, kinds := [], alts := [], laidByText := true, laidKinds := [.data, .pinned], laidTests := true, laidLooks := .later }
def FnMovedUptoCardSaid : Prop := Claim7.holds Tryd.pinned (.plain (OpenSpec.upto fnMovedSpec)) fnMovedUptoCard

/-- THE SECOND FORM's CARD OF 'laws.FnPushNot'. -/
def fnPushNotUptoCard : Claim7 := { stood := { row := fnPushNotUptoRow, standIns := [], harness := (true, "5c7a3462fb35c4ececd57981b3ec25eaa536ffa18a8668c2ec674dc58163baa7"), looks := false }, kinds := [], alts := [], laidByText := true, laidKinds := [.data, .pinned], laidTests := true, laidLooks := .later }
def FnPushNotUptoCardSaid : Prop := Claim7.holds Tryd.pinned (.plain (OpenSpec.upto fnPushNotSpec)) fnPushNotUptoCard

/-- THE SECOND FORM's CARD OF 'laws.FnCountPoints'. -/
def fnCountPointsUptoCard : Claim7 := { stood := { row := fnCountPointsUptoRow, standIns := [], harness := (true, "5c7a3462fb35c4ececd57981b3ec25eaa536ffa18a8668c2ec674dc58163baa7"), looks := false }, kinds := [], alts := [], laidByText := true, laidKinds := [.data, .pinned], laidTests := true, laidLooks := .later }
def FnCountPointsUptoCardSaid : Prop := Claim7.holds Tryd.pinned (.plain (OpenSpec.upto fnCountPointsSpec)) fnCountPointsUptoCard

/-- THE SECOND FORM's CARD OF 'laws.FnFirstPoint'. -/
def fnFirstPointUptoCard : Claim7 := { stood := { row := fnFirstPointUptoRow, standIns := [], harness := (true, "5c7a3462fb35c4ececd57981b3ec25eaa536ffa18a8668c2ec674dc58163baa7"), looks := false }, kinds := [], alts := [], laidByText := true, laidKinds := [.data, .pinned], laidTests := true, laidLooks := .later }
def FnFirstPointUptoCardSaid : Prop := Claim7.holds Tryd.pinned (.plain (OpenSpec.upto fnFirstPointSpec)) fnFirstPointUptoCard

/-- THE SECOND FORM's CARD OF 'laws.FnSameIn'. -/
def fnSameInUptoCard : Claim7 := { stood := { row := fnSameInUptoRow, standIns := [], harness := (true, "5c7a3462fb35c4ececd57981b3ec25eaa536ffa18a8668c2ec674dc58163baa7"), looks := false }, kinds := [], alts := [], laidByText := true, laidKinds := [.data, .pinned], laidTests := true, laidLooks := .later }
def FnSameInUptoCardSaid : Prop := Claim7.holds Tryd.pinned (.plain (OpenSpec.upto fnSameInSpec)) fnSameInUptoCard
end Rows
end Go.Proofs.YtgiaebeoldigbaaDoor
