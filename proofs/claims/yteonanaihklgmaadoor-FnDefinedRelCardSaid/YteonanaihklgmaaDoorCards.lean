/-
  DERIVED. GIVEN WITH THE SEED: THE CARDS: each row of YteonanaihklgmaaDoorRows.lean that lists a variable, with what it lists TIED to the program's text (the seventh form; the later family's looks); each row that meets fmt, with fmt's text TOLD by the authors' own Lean function (tested against real Go, not proved from fmt's source: count such statements apart). THE CARD IS WHAT COUNTS. Prove the row's statement (the work); the ties are given (YteonanaihklgmaaDoorTie.lean); close each card by the builder's one call (the guide's Derived/Test/ToyasCard.lean, 'card_holds'). Laid BY PROGRAM, IN A SANDBOX (cutbox-door.mjs). By AI agents, Wed Nov 11 2026. No macro, syntax, notation, axiom, sorry.
-/
import Derived.Test.YteonanaihklgmaaDoorRows
import GoSem.ClaimSeven
namespace Go.Proofs.YteonanaihklgmaaDoor
namespace Rows

/-- THE TIED CARD OF 'laws.FnPushNot'. -/
def fnPushNotCard : Claim7 := { stood := { row := fnPushNotRow, standIns := [], harness := (true, "dfb77930eaf48fe71144f58d7a7073ed42d8664ba900f5dac112a745b52fdead"), looks := false }, kinds := [], alts := [], laidByText := true, laidKinds := [.data, .pinned], laidTests := true, laidLooks := .later }
def FnPushNotCardSaid : Prop := Claim7.holds Tryd.pinned (.plain (OpenSpec.ofChange fnPushNotSpec)) fnPushNotCard

/-- THE TIED CARD OF 'laws.FnSameIn'. -/
def fnSameInCard : Claim7 := { stood := { row := fnSameInRow, standIns := [], harness := (true, "dfb77930eaf48fe71144f58d7a7073ed42d8664ba900f5dac112a745b52fdead"), looks := false }, kinds := [], alts := [], laidByText := true, laidKinds := [.data, .pinned], laidTests := true, laidLooks := .later }
def FnSameInCardSaid : Prop := Claim7.holds Tryd.pinned (.plain (OpenSpec.ofChange fnSameInSpec)) fnSameInCard

/-- THE TIED CARD OF 'laws.FnJoinFormulas'. -/
def fnJoinFormulasCard : Claim7 := { stood := { row := fnJoinFormulasRow, standIns := [], harness := (true, "dfb77930eaf48fe71144f58d7a7073ed42d8664ba900f5dac112a745b52fdead"), looks := false }, kinds := [], alts := [], laidByText := true, laidKinds := [.data, .pinned], laidTests := true, laidLooks := .later }
def FnJoinFormulasCardSaid : Prop := Claim7.holds Tryd.pinned (.plain (OpenSpec.ofChange fnJoinFormulasSpec)) fnJoinFormulasCard

/-- THE TIED CARD OF 'laws.FnDefinedRel'. -/
def fnDefinedRelCard : Claim7 := { stood := { row := fnDefinedRelRow, standIns := [], harness := (true, "dfb77930eaf48fe71144f58d7a7073ed42d8664ba900f5dac112a745b52fdead"), looks := false }, kinds := [], alts := [], laidByText := true, laidKinds := [.data, .pinned], laidTests := true, laidLooks := .later }
def FnDefinedRelCardSaid : Prop := Claim7.holds Tryd.pinned (.plain (OpenSpec.ofChange fnDefinedRelSpec)) fnDefinedRelCard

/-- THE SECOND FORM's CARD OF 'laws.FnPushNot'. -/
def fnPushNotUptoCard : Claim7 := { stood := { row := fnPushNotUptoRow, standIns := [], harness := (true, "dfb77930eaf48fe71144f58d7a7073ed42d8664ba900f5dac112a745b52fdead"), looks := false }, kinds := [], alts := [], laidByText := true, laidKinds := [.data, .pinned], laidTests := true, laidLooks := .later }
def FnPushNotUptoCardSaid : Prop := Claim7.holds Tryd.pinned (.plain (OpenSpec.upto fnPushNotSpec)) fnPushNotUptoCard

/-- THE SECOND FORM's CARD OF 'laws.FnSameIn'. -/
def fnSameInUptoCard : Claim7 := { stood := { row := fnSameInUptoRow, standIns := [], harness := (true, "dfb77930eaf48fe71144f58d7a7073ed42d8664ba900f5dac112a745b52fdead"), looks := false }, kinds := [], alts := [], laidByText := true, laidKinds := [.data, .pinned], laidTests := true, laidLooks := .later }
def FnSameInUptoCardSaid : Prop := Claim7.holds Tryd.pinned (.plain (OpenSpec.upto fnSameInSpec)) fnSameInUptoCard

/-- THE SECOND FORM's CARD OF 'laws.FnJoinFormulas'. -/
def fnJoinFormulasUptoCard : Claim7 := { stood := { row := fnJoinFormulasUptoRow, standIns := [], harness := (true, "dfb77930eaf48fe71144f58d7a7073ed42d8664ba900f5dac112a745b52fdead"), looks := false }, kinds := [], alts := [], laidByText := true, laidKinds := [.data, .pinned], laidTests := true, laidLooks := .later }
def FnJoinFormulasUptoCardSaid : Prop := Claim7.holds Tryd.pinned (.plain (OpenSpec.upto fnJoinFormulasSpec)) fnJoinFormulasUptoCard

/-- THE SECOND FORM's CARD OF 'laws.FnDefinedRel'. -/
def fnDefinedRelUptoCard : Claim7 := { stood := { row := fnDefinedRelUptoRow, standIns := [], harness := (true, "dfb77930eaf48fe71144f58d7a7073ed42d8664ba900f5dac112a745b52fdead"), looks := false }, kinds := [], alts := [], laidByText := true, laidKinds := [.data, .pinned], laidTests := true, laidLooks := .later }
def FnDefinedRelUptoCardSaid : Prop := Claim7.holds Tryd.pinned (.plain (OpenSpec.upto fnDefinedRelSpec)) fnDefinedRelUptoCard
end Rows
end Go.Proofs.YteonanaihklgmaaDoor
