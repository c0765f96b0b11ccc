/-
  DERIVED. GIVEN WITH THE SEED: THE CARDS: each row of YtjdnjhoddlalaaaDoorRows.lean that lists a variable, with what it lists TIED to the program's text (the seventh form; the later family's looks); each row that meets fmt, with fmt's text TOLD by the authors' own Lean function (tested against real Go, not proved from fmt's source: count such statements apart). THE CARD IS WHAT COUNTS. Prove the row's statement (the work); the ties are given (YtjdnjhoddlalaaaDoorTie.lean); close each card by the builder's one call (the guide's Derived/Test/ToyasCard.lean, 'card_holds'). Laid BY PROGRAM, IN A SANDBOX (cutbox-door.mjs). By AI agents, Wed Nov 11 2026. No macro, syntax, notation, axiom, sorry.
-/
import Derived.Test.YtjdnjhoddlalaaaDoorRows
import GoSem.ClaimSeven
namespace Go.Proofs.YtjdnjhoddlalaaaDoor
namespace Rows

/-- THE TIED CARD OF 'laws.FnConnect'. -/
def fnConnectCard : Claim7 := { stood := { row := fnConnectRow, standIns := [], harness := (true, "8a0dd3f2ba9c37d395a65f6725807fa3dc1fb37adeebeb08d2cb02f384637726"), looks := false }, kinds := [], alts := [], laidByText := true, laidKinds := [.data, .pinned], laidTests := true, laidLooks := .later }
def FnConnectCardSaid : Prop := Claim7.holds Tryd.pinned (.plain (OpenSpec.ofChange fnConnectSpec)) fnConnectCard

/-- THE TIED CARD OF 'laws.FnFirstPoint'. -/
def fnFirstPointCard : Claim7 := { stood := { row := fnFirstPointRow, standIns := [], harness := (true, "8a0dd3f2ba9c37d395a65f6725807fa3dc1fb37adeebeb08d2cb02f384637726"), looks := false }, kinds := [], alts := [], laidByText := true, laidKinds := [.data, .pinned], laidTests := true, laidLooks := .later }
def FnFirstPointCardSaid : Prop := Claim7.holds Tryd.pinned (.plain (OpenSpec.ofChange fnFirstPointSpec)) fnFirstPointCard

/-- THE TIED CARD OF 'laws.FnPushNot'. -/
def fnPushNotCard : Claim7 := { stood := { row := fnPushNotRow, standIns := [], harness := (true, "8a0dd3f2ba9c37d395a65f6725807fa3dc1fb37adeebeb08d2cb02f384637726"), looks := false }, kinds := [], alts := [], laidByText := true, laidKinds := [.data, .pinned], laidTests := true, laidLooks := .later }
def FnPushNotCardSaid : Prop := Claim7.holds Tryd.pinned (.plain (OpenSpec.ofChange fnPushNotSpec)) fnPushNotCard

/-- THE TIED CARD OF 'laws.FnSameIn'. -/
def fnSameInCard : Claim7 := { stood := { row := fnSameInRow, standIns := [], harness := (true, "8a0dd3f2ba9c37d395a65f6725807fa3dc1fb37adeebeb08d2cb02f384637726"), looks := false }, kinds := [], alts := [], laidByText := true, laidKinds := [.data, .pinned], laidTests := true, laidLooks := .later }
def FnSameInCardSaid : Prop := Claim7.holds Tryd.pinned (.plain (OpenSpec.ofChange fnSameInSpec)) fnSameInCard

/-- THE TIED CARD OF 'laws.FnJoinFormulas'. -/
def fnJoinFormulasCard : Claim7 := { stood := { row := fnJoinFormulasRow, standIns := [], harness := (true, "8a0dd3f2ba9c37d395a65f6725807fa3dc1fb37adeebeb08d2cb02f384637726"), looks := false }, kinds := [], alts := [], laidByText := true, laidKinds := [.data, .pinned], laidTests := true, laidLooks := .later }
def FnJoinFormulasCardSaid : Prop := Claim7.holds Tryd.pinned (.plain (OpenSpec.ofChange fnJoinFormulasSpec)) fnJoinFormulasCard

/-- THE TIED CARD OF 'laws.FnDefinedRel'. -/
def fnDefinedRelCard : Claim7 := { stood := { row := fnDefinedRelRow, standIns := [], harness := (true, "8a0dd3f2ba9c37d395a65f6725807fa3dc1fb37adeebeb08d2cb02f384637726"), looks := false }, kinds := [], alts := [], laidByText := true, laidKinds := [.data, .pinned], laidTests := true, laidLooks := .later }
def FnDefinedRelCardSaid : Prop := Claim7.holds Tryd.pinned (.plain (OpenSpec.ofChange fnDefinedRelSpec)) fnDefinedRelCard

/-- THE SECOND FORM's CARD OF 'laws.FnConnect'. -/
def fnConnectUptoCard : Claim7 := { stood := { row := fnConnectUptoRow, standIns := [], harness := (true, "8a0dd3f2ba9c37d395a65f6725807fa3dc1fb37adeebeb08d2cb02f384637726"), looks := false }, kinds := [], alts := [], laidByText := true, laidKinds := [.data, .pinned], laidTests := true, laidLooks := .later }
def FnConnectUptoCardSaid : Prop := Claim7.holds Tryd.pinned (.plain (OpenSpec.upto fnConnectSpec)) fnConnectUptoCard

/-- THE SECOND FORM's CARD OF 'laws.FnFirstPoint'. -/
def fnFirstPointUptoCard : Claim7 := { stood := { row := fnFirstPointUptoRow, standIns := [], harness := (true, "8a0dd3f2ba9c37d395a65f6725807fa3dc1fb37adeebeb08d2cb02f384637726"), looks := false }, kinds := [], alts := [], laidByText := true, laidKinds := [.data, .pinned], laidTests := true, laidLooks := .later }
def FnFirstPointUptoCardSaid : Prop := Claim7.holds Tryd.pinned (.plain (OpenSpec.upto fnFirstPointSpec)) fnFirstPointUptoCard

/-- THE SECOND FORM's CARD OF 'laws.FnPushNot'. -/
def fnPushNotUptoCard : Claim7 := { stood := { row := fnPushNotUptoRow, standIns := [], harness := (true, "8a0dd3f2ba9c37d395a65f6725807fa3dc1fb37adeebeb08d2cb02f384637726"), looks := false }, kinds := [], alts := [], laidByText := true, laidKinds := [.data, .pinned], laidTests := true, laidLooks := .later }
def FnPushNotUptoCardSaid : Prop := Claim7.holds Tryd.pinned (.plain (OpenSpec.upto fnPushNotSpec)) fnPushNotUptoCard

/-- THE SECOND FORM's CARD OF 'laws.FnSameIn'. -/
def fnSameInUptoCard : Claim7 := { stood := { row := fnSameInUptoRow, standIns := [], harness := (true, "8a0dd3f2ba9c37d395a65f6725807fa3dc1fb37adeebeb08d2cb02f384637726"), looks := false }, kinds := [], alts := [], laidByText := true, laidKinds := [.data, .pinned], laidTests := true, laidLooks := .later }
def FnSameInUptoCardSaid : Prop := Claim7.holds Tryd.pinned (.plain (OpenSpec.upto fnSameInSpec)) fnSameInUptoCard

/-- THE SECOND FORM's CARD OF 'laws.FnJoinFormulas'. -/
def fnJoinFormulasUptoCard : Claim7 := { stood := { row := fnJoinFormulasUptoRow, standIns := [], harness := (true, "8a0dd3f2ba9c37d395a65f6725807fa3dc1fb37adeebeb08d2cb02f384637726"), looks := false }, kinds := [], alts := [], laidByText := true, laidKinds := [.data, .pinned], laidTests := true, laidLooks := .later }
def FnJoinFormulasUptoCardSaid : Prop := Claim7.holds Tryd.pinned (.plain (OpenSpec.upto fnJoinFormulasSpec)) fnJoinFormulasUptoCard

/-- THE SECOND FORM's CARD OF 'laws.FnDefinedRel'. -/
def fnDefinedRelUptoCard : Claim7 := { stood := { row := fnDefinedRelUptoRow, standIns := [], harness := (true, "8a0dd3f2ba9c37d395a65f6725807fa3dc1fb37adeebeb08d2cb02f384637726"), looks := false }, kinds := [], alts := [], laidByText := true, laidKinds := [.data, .pinned], laidTests := true, laidLooks := .later }
def FnDefinedRelUptoCardSaid : Prop := Claim7.holds Tryd.pinned (.plain (OpenSpec.upto fnDefinedRelSpec)) fnDefinedRelUptoCard
end Rows
end Go.Proofs.YtjdnjhoddlalaaaDoor
