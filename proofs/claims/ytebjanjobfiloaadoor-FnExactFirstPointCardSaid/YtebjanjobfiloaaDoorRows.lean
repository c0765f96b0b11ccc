/-
  NARROWER THAN 'FOR EVERY INPUT', by the rows' own cells (each row's printed sentence says how): FnExactHoldsAt: laid · FnExactHoldsIn: laid · FnExactDefinedRel: laid · FnExactDefinedSet: laid · FnExactCountPoints: laid · FnExactSameIn: laid · FnExactFirstPoint: laid.
  DERIVED. THE GIVEN ROWS OF THIS SEAT. 7 by the template 'for every input the law returns true; each argument reads behind the call as it read before'; 0 by the template 'total and deterministic' (their statements: YtebjanjobfiloaaDoorTotals.lean).
  GIVEN WITH THE SEED: the statements are not yours to turn. If you find one false, say at which input.
  Laid BY PROGRAM, IN A SANDBOX (cutbox-rows.mjs): the forced cells as the released guide's own fill.sh prints them over the translation d526a28b688ce513… (all of the seat's roots in one cut). By AI agents, Wed Nov 11 2026. No macro, syntax, notation, axiom, sorry.
-/
import Derived.Test.YtebjanjobfiloaaDoorChecked
import GoSem.PinnedTables
import GoSem.Claim
import GoSem.ClaimJoined
import GoSem.ClaimMapViews
import Derived.JoinedTies
import Derived.KernelRfl
namespace Go.Proofs.YtebjanjobfiloaaDoor
/- THE CELL 'sum', in the pinned program and in every row, IS THE sha256 OF THE DUMP (.gsa) THAT YtebjanjobfiloaaDoorProg.lean LOADS. Nothing in Lean hashes anything: it is a label: what it is worth is what the hold of that sum in a sandbox is worth. -/
noncomputable def Tryd.pinned : Pinned := { name := "ytebjanjobfiloaadoor", sum := "d526a28b688ce51318164bfa45269fab312c6b1d2d04e467e31e3edf82eb2fd6", checked := Tryd.checked }
namespace Rows
def none {H : Type} : Left H := { results := [], args := [] }

/- WHAT THE LISTED PACKAGE-LEVEL VARIABLES READ AS WHEN THE CALL BEGINS. Each datum BY PROGRAM (the guide's laid-datum.mjs) off the statement by which the dump's own 'gosem.cut.vars' lays the variable. In a bare row this is a premise. The card (YtebjanjobfiloaaDoorCards.lean) ties it to the program's text. -/
def laid_unicode_utf8_acceptRanges {H : Type} : DataW H := .agg [.agg [.lit (.int .u8 128), .lit (.int .u8 191)], .agg [.lit (.int .u8 160), .lit (.int .u8 191)], .agg [.lit (.int .u8 128), .lit (.int .u8 159)], .agg [.lit (.int .u8 144), .lit (.int .u8 191)], .agg [.lit (.int .u8 128), .lit (.int .u8 143)], .agg [.lit (.int .u8 0), .lit (.int .u8 0)], .agg [.lit (.int .u8 0), .lit (.int .u8 0)], .agg [.lit (.int .u8 0), .lit (.int .u8 0)], .agg [.lit (.int .u8 0), .lit (.int .u8 0)], .agg [.lit (.int .u8 0), .lit (.int .u8 0)], .agg [.lit (.int .u8 0), .lit (.int .u8 0)], .agg [.lit (.int .u8 0), .lit (.int .u8 0)], .agg [.lit (.int .u8 0), .lit (.int .u8 0)], .agg [.lit (.int .u8 0), .lit (.int .u8 0)], .agg [.lit (.int .u8 0), .lit (.int .u8 0)], .agg [.lit (.int .u8 0), .lit (.int .u8 0)]]
/-- One of Go's own tables, pinned by name: the form's constant. -/
def laid_unicode_utf8_first : DataW Unit := Go.Pinned.utf8First

/-- 'laws.FnExactHoldsAt': WHATEVER THE INPUT: true; the input reads as it did. -/
def fnExactHoldsAtSpec : ChangeSpec := { name := "fnExactHoldsAt", fn := fun _ => fun
  | [d1, d2, d3] => { results := [.lit (.bool true)], args := [d1, d2, d3] }
  | _ => none }
def fnExactHoldsAtRow : OpenClaim := { program := "ytebjanjobfiloaadoor", sum := "d526a28b688ce51318164bfa45269fab312c6b1d2d04e467e31e3edf82eb2fd6", func := "loop.example/gamesonstructures/laws.FnExactHoldsAt", spec := "fnExactHoldsAt", inPlace := ["internal/bytealg.IndexByteString", "internal/bytealg.IndexString"], unfollowed := true, recurses := true, named := ["internal/bytealg.MaxLen", "unicode/utf8.first", "unicode/utf8.acceptRanges"], apart := false, laid := [("unicode/utf8.acceptRanges", laid_unicode_utf8_acceptRanges), ("unicode/utf8.first", laid_unicode_utf8_first)] }
def FnExactHoldsAtSaid : Prop := fnExactHoldsAtRow.holds Tryd.pinned (OpenSpec.ofChange fnExactHoldsAtSpec)

/-- ITS FALSE NEIGHBOUR: 'it returns false'. Refute it at one input. -/
def fnExactHoldsAtWrong : ChangeSpec := { name := "fnExactHoldsAt", fn := fun _ => fun
  | [d1, d2, d3] => { results := [.lit (.bool false)], args := [d1, d2, d3] }
  | _ => none }
def FnExactHoldsAtWrongFalsely : Prop := fnExactHoldsAtRow.holds Tryd.pinned (OpenSpec.ofChange fnExactHoldsAtWrong)

/-- 'laws.FnExactHoldsIn': WHATEVER THE INPUT: true; the input reads as it did. -/
def fnExactHoldsInSpec : ChangeSpec := { name := "fnExactHoldsIn", fn := fun _ => fun
  | [d1, d2] => { results := [.lit (.bool true)], args := [d1, d2] }
  | _ => none }
def fnExactHoldsInRow : OpenClaim := { program := "ytebjanjobfiloaadoor", sum := "d526a28b688ce51318164bfa45269fab312c6b1d2d04e467e31e3edf82eb2fd6", func := "loop.example/gamesonstructures/laws.FnExactHoldsIn", spec := "fnExactHoldsIn", inPlace := ["internal/bytealg.IndexByteString", "internal/bytealg.IndexString"], unfollowed := true, recurses := true, named := ["internal/bytealg.MaxLen", "unicode/utf8.first", "unicode/utf8.acceptRanges"], apart := false, laid := [("unicode/utf8.acceptRanges", laid_unicode_utf8_acceptRanges), ("unicode/utf8.first", laid_unicode_utf8_first)] }
def FnExactHoldsInSaid : Prop := fnExactHoldsInRow.holds Tryd.pinned (OpenSpec.ofChange fnExactHoldsInSpec)

/-- ITS FALSE NEIGHBOUR: 'it returns false'. Refute it at one input. -/
def fnExactHoldsInWrong : ChangeSpec := { name := "fnExactHoldsIn", fn := fun _ => fun
  | [d1, d2] => { results := [.lit (.bool false)], args := [d1, d2] }
  | _ => none }
def FnExactHoldsInWrongFalsely : Prop := fnExactHoldsInRow.holds Tryd.pinned (OpenSpec.ofChange fnExactHoldsInWrong)

/-- 'laws.FnExactDefinedRel': WHATEVER THE INPUT: true; the input reads as it did. -/
def fnExactDefinedRelSpec : ChangeSpec := { name := "fnExactDefinedRel", fn := fun _ => fun
  | [d1, d2] => { results := [.lit (.bool true)], args := [d1, d2] }
  | _ => none }
def fnExactDefinedRelRow : OpenClaim := { program := "ytebjanjobfiloaadoor", sum := "d526a28b688ce51318164bfa45269fab312c6b1d2d04e467e31e3edf82eb2fd6", func := "loop.example/gamesonstructures/laws.FnExactDefinedRel", spec := "fnExactDefinedRel", inPlace := ["internal/bytealg.IndexByteString", "internal/bytealg.IndexString"], unfollowed := true, recurses := true, named := ["internal/bytealg.MaxLen", "unicode/utf8.first", "unicode/utf8.acceptRanges"], apart := false, laid := [("unicode/utf8.acceptRanges", laid_unicode_utf8_acceptRanges), ("unicode/utf8.first", laid_unicode_utf8_first)] }
def FnExactDefinedRelSaid : Prop := fnExactDefinedRelRow.holds Tryd.pinned (OpenSpec.ofChange fnExactDefinedRelSpec)

/-- ITS FALSE NEIGHBOUR: 'it returns false'. Refute it at one input. -/
def fnExactDefinedRelWrong : ChangeSpec := { name := "fnExactDefinedRel", fn := fun _ => fun
  | [d1, d2] => { results := [.lit (.bool false)], args := [d1, d2] }
  | _ => none }
def FnExactDefinedRelWrongFalsely : Prop := fnExactDefinedRelRow.holds Tryd.pinned (OpenSpec.ofChange fnExactDefinedRelWrong)

/-- 'laws.FnExactDefinedSet': WHATEVER THE INPUT: true; the input reads as it did. -/
def fnExactDefinedSetSpec : ChangeSpec := { name := "fnExactDefinedSet", fn := fun _ => fun
  | [d1, d2] => { results := [.lit (.bool true)], args := [d1, d2] }
  | _ => none }
def fnExactDefinedSetRow : OpenClaim := { program := "ytebjanjobfiloaadoor", sum := "d526a28b688ce51318164bfa45269fab312c6b1d2d04e467e31e3edf82eb2fd6", func := "loop.example/gamesonstructures/laws.FnExactDefinedSet", spec := "fnExactDefinedSet", inPlace := ["internal/bytealg.IndexByteString", "internal/bytealg.IndexString"], unfollowed := true, recurses := true, named := ["internal/bytealg.MaxLen", "unicode/utf8.first", "unicode/utf8.acceptRanges"], apart := false, laid := [("unicode/utf8.acceptRanges", laid_unicode_utf8_acceptRanges), ("unicode/utf8.first", laid_unicode_utf8_first)] }
def FnExactDefinedSetSaid : Prop := fnExactDefinedSetRow.holds Tryd.pinned (OpenSpec.ofChange fnExactDefinedSetSpec)

/-- ITS FALSE NEIGHBOUR: 'it returns false'. Refute it at one input. -/
def fnExactDefinedSetWrong : ChangeSpec := { name := "fnExactDefinedSet", fn := fun _ => fun
  | [d1, d2] => { results := [.lit (.bool false)], args := [d1, d2] }
  | _ => none }
def FnExactDefinedSetWrongFalsely : Prop := fnExactDefinedSetRow.holds Tryd.pinned (OpenSpec.ofChange fnExactDefinedSetWrong)

/-- 'laws.FnExactCountPoints': WHATEVER THE INPUT: true; the input reads as it did. -/
def fnExactCountPointsSpec : ChangeSpec := { name := "fnExactCountPoints", fn := fun _ => fun
  | [d1, d2, d3] => { results := [.lit (.bool true)], args := [d1, d2, d3] }
  | _ => none }
def fnExactCountPointsRow : OpenClaim := { program := "ytebjanjobfiloaadoor", sum := "d526a28b688ce51318164bfa45269fab312c6b1d2d04e467e31e3edf82eb2fd6", func := "loop.example/gamesonstructures/laws.FnExactCountPoints", spec := "fnExactCountPoints", inPlace := ["internal/bytealg.IndexByteString", "internal/bytealg.IndexString"], unfollowed := true, recurses := true, named := ["internal/bytealg.MaxLen", "unicode/utf8.first", "unicode/utf8.acceptRanges"], apart := false, laid := [("unicode/utf8.acceptRanges", laid_unicode_utf8_acceptRanges), ("unicode/utf8.first", laid_unicode_utf8_first)] }
def FnExactCountPointsSaid : Prop := fnExactCountPointsRow.holds Tryd.pinned (OpenSpec.ofChange fnExactCountPointsSpec)

/-- ITS FALSE NEIGHBOUR: 'it returns false'. Refute it at one input. -/
def fnExactCountPointsWrong : ChangeSpec := { name := "fnExactCountPoints", fn := fun _ => fun
  | [d1, d2, d3] => { results := [.lit (.bool false)], args := [d1, d2, d3] }
  | _ => none }
def FnExactCountPointsWrongFalsely : Prop := fnExactCountPointsRow.holds Tryd.pinned (OpenSpec.ofChange fnExactCountPointsWrong)

/-- 'laws.FnExactSameIn': WHATEVER THE INPUT: true; the input reads as it did. -/
def fnExactSameInSpec : ChangeSpec := { name := "fnExactSameIn", fn := fun _ => fun
  | [d1, d2, d3] => { results := [.lit (.bool true)], args := [d1, d2, d3] }
  | _ => none }
def fnExactSameInRow : OpenClaim := { program := "ytebjanjobfiloaadoor", sum := "d526a28b688ce51318164bfa45269fab312c6b1d2d04e467e31e3edf82eb2fd6", func := "loop.example/gamesonstructures/laws.FnExactSameIn", spec := "fnExactSameIn", inPlace := ["internal/bytealg.IndexByteString", "internal/bytealg.IndexString"], unfollowed := true, recurses := true, named := ["internal/bytealg.MaxLen", "unicode/utf8.first", "unicode/utf8.acceptRanges"], apart := false, laid := [("unicode/utf8.acceptRanges", laid_unicode_utf8_acceptRanges), ("unicode/utf8.first", laid_unicode_utf8_first)] }
def FnExactSameInSaid : Prop := fnExactSameInRow.holds Tryd.pinned (OpenSpec.ofChange fnExactSameInSpec)

/-- ITS FALSE NEIGHBOUR: 'it returns false'. Refute it at one input. -/
def fnExactSameInWrong : ChangeSpec := { name := "fnExactSameIn", fn := fun _ => fun
  | [d1, d2, d3] => { results := [.lit (.bool false)], args := [d1, d2, d3] }
  | _ => none }
def FnExactSameInWrongFalsely : Prop := fnExactSameInRow.holds Tryd.pinned (OpenSpec.ofChange fnExactSameInWrong)

/-- 'laws.FnExactFirstPoint': WHATEVER THE INPUT: true; the input reads as it did. -/
def fnExactFirstPointSpec : ChangeSpec := { name := "fnExactFirstPoint", fn := fun _ => fun
  | [d1, d2, d3] => { results := [.lit (.bool true)], args := [d1, d2, d3] }
  | _ => none }
def fnExactFirstPointRow : OpenClaim := { program := "ytebjanjobfiloaadoor", sum := "d526a28b688ce51318164bfa45269fab312c6b1d2d04e467e31e3edf82eb2fd6", func := "loop.example/gamesonstructures/laws.FnExactFirstPoint", spec := "fnExactFirstPoint", inPlace := ["internal/bytealg.IndexByteString", "internal/bytealg.IndexString"], unfollowed := true, recurses := true, named := ["internal/bytealg.MaxLen", "unicode/utf8.first", "unicode/utf8.acceptRanges"], apart := false, laid := [("unicode/utf8.acceptRanges", laid_unicode_utf8_acceptRanges), ("unicode/utf8.first", laid_unicode_utf8_first)] }
def FnExactFirstPointSaid : Prop := fnExactFirstPointRow.holds Tryd.pinned (OpenSpec.ofChange fnExactFirstPointSpec)

/-- ITS FALSE NEIGHBOUR: 'it returns false'. Refute it at one input. -/
def fnExactFirstPointWrong : ChangeSpec := { name := "fnExactFirstPoint", fn := fun _ => fun
  | [d1, d2, d3] => { results := [.lit (.bool false)], args := [d1, d2, d3] }
  | _ => none }
def FnExactFirstPointWrongFalsely : Prop := fnExactFirstPointRow.holds Tryd.pinned (OpenSpec.ofChange fnExactFirstPointWrong)

/- THE SECOND FORM. 'bulk': how many values and letters a reading holds, each counted each time it is reached (what is shared counts as often as it is met; a slice's spare places count too). A statement '..UptoSaid' is the law's where the arguments, and the package variables that the reading takes, are together of bulk at most 1048576: NARROWER than '..Said'. Prove '..Said' where nothing that the law and all that it calls make is longer than what came in: it says more and counts as full. Else prove '..UptoSaid'. A law counts once. -/
mutual
def uptoBulk {H : Type} : DataW H → Nat
  | .lit (.string bytes) => bytes.length + 1
  | .lit _ => 1
  | .nil => 1
  | .ptr d => uptoBulk d + 1
  | .slice elems spare => uptoBulkAll elems + uptoBulkAll spare + 1
  | .agg parts => uptoBulkAll parts + 1
  | .iface _ d => uptoBulk d + 1
  | .map entries => uptoBulkEntries entries + 1
  | .held _ => 1
def uptoBulkAll {H : Type} : List (DataW H) → Nat
  | [] => 0
  | d :: r => uptoBulk d + uptoBulkAll r
def uptoBulkEntries {H : Type} : List (Lit × DataW H) → Nat
  | [] => 0
  | x :: r => uptoBulkEntry x + uptoBulkEntries r
def uptoBulkEntry {H : Type} : Lit × DataW H → Nat
  | (.string bytes, d) => bytes.length + uptoBulk d + 1
  | (_, d) => uptoBulk d + 1
 end
def uptoSmall : (H : Type) → List (DataW H) → Bool := fun _ ds => decide (uptoBulkAll ds ≤ 1048576)
def OpenSpec.upto (s : _root_.Go.ChangeSpec) : _root_.Go.OpenSpec := { _root_.Go.OpenSpec.ofChange s with cond := some uptoSmall }

/-- 'laws.FnExactHoldsAt', WHERE WHAT IT READS IS OF BULK AT MOST 1048576: true; the input reads as it did. -/
def fnExactHoldsAtUptoRow : OpenClaim := { program := "ytebjanjobfiloaadoor", sum := "d526a28b688ce51318164bfa45269fab312c6b1d2d04e467e31e3edf82eb2fd6", func := "loop.example/gamesonstructures/laws.FnExactHoldsAt", spec := "fnExactHoldsAt", inPlace := ["internal/bytealg.IndexByteString", "internal/bytealg.IndexString"], unfollowed := true, recurses := true, named := ["internal/bytealg.MaxLen", "unicode/utf8.first", "unicode/utf8.acceptRanges"], apart := false, laid := [("unicode/utf8.acceptRanges", laid_unicode_utf8_acceptRanges), ("unicode/utf8.first", laid_unicode_utf8_first)], narrowed := true }
def FnExactHoldsAtUptoSaid : Prop := fnExactHoldsAtUptoRow.holds Tryd.pinned (OpenSpec.upto fnExactHoldsAtSpec)

/-- 'laws.FnExactHoldsIn', WHERE WHAT IT READS IS OF BULK AT MOST 1048576: true; the input reads as it did. -/
def fnExactHoldsInUptoRow : OpenClaim := { program := "ytebjanjobfiloaadoor", sum := "d526a28b688ce51318164bfa45269fab312c6b1d2d04e467e31e3edf82eb2fd6", func := "loop.example/gamesonstructures/laws.FnExactHoldsIn", spec := "fnExactHoldsIn", inPlace := ["internal/bytealg.IndexByteString", "internal/bytealg.IndexString"], unfollowed := true, recurses := true, named := ["internal/bytealg.MaxLen", "unicode/utf8.first", "unicode/utf8.acceptRanges"], apart := false, laid := [("unicode/utf8.acceptRanges", laid_unicode_utf8_acceptRanges), ("unicode/utf8.first", laid_unicode_utf8_first)], narrowed := true }
def FnExactHoldsInUptoSaid : Prop := fnExactHoldsInUptoRow.holds Tryd.pinned (OpenSpec.upto fnExactHoldsInSpec)

/-- 'laws.FnExactDefinedRel', WHERE WHAT IT READS IS OF BULK AT MOST 1048576: true; the input reads as it did. -/
def fnExactDefinedRelUptoRow : OpenClaim := { program := "ytebjanjobfiloaadoor", sum := "d526a28b688ce51318164bfa45269fab312c6b1d2d04e467e31e3edf82eb2fd6", func := "loop.example/gamesonstructures/laws.FnExactDefinedRel", spec := "fnExactDefinedRel", inPlace := ["internal/bytealg.IndexByteString", "internal/bytealg.IndexString"], unfollowed := true, recurses := true, named := ["internal/bytealg.MaxLen", "unicode/utf8.first", "unicode/utf8.acceptRanges"], apart := false, laid := [("unicode/utf8.acceptRanges", laid_unicode_utf8_acceptRanges), ("unicode/utf8.first", laid_unicode_utf8_first)], narrowed := true }
def FnExactDefinedRelUptoSaid : Prop := fnExactDefinedRelUptoRow.holds Tryd.pinned (OpenSpec.upto fnExactDefinedRelSpec)

/-- 'laws.FnExactDefinedSet', WHERE WHAT IT READS IS OF BULK AT MOST 1048576: true; the input reads as it did. -/
def fnExactDefinedSetUptoRow : OpenClaim := { program := "ytebjanjobfiloaadoor", sum := "d526a28b688ce51318164bfa45269fab312c6b1d2d04e467e31e3edf82eb2fd6", func := "loop.example/gamesonstructures/laws.FnExactDefinedSet", spec := "fnExactDefinedSet", inPlace := ["internal/bytealg.IndexByteString", "internal/bytealg.IndexString"], unfollowed := true, recurses := true, named := ["internal/bytealg.MaxLen", "unicode/utf8.first", "unicode/utf8.acceptRanges"], apart := false, laid := [("unicode/utf8.acceptRanges", laid_unicode_utf8_acceptRanges), ("unicode/utf8.first", laid_unicode_utf8_first)], narrowed := true }
def FnExactDefinedSetUptoSaid : Prop := fnExactDefinedSetUptoRow.holds Tryd.pinned (OpenSpec.upto fnExactDefinedSetSpec)

/-- 'laws.FnExactCountPoints', WHERE WHAT IT READS IS OF BULK AT MOST 1048576: true; the input reads as it did. -/
def fnExactCountPointsUptoRow : OpenClaim := { program := "ytebjanjobfiloaadoor", sum := "d526a28b688ce51318164bfa45269fab312c6b1d2d04e467e31e3edf82eb2fd6", func := "loop.example/gamesonstructures/laws.FnExactCountPoints", spec := "fnExactCountPoints", inPlace := ["internal/bytealg.IndexByteString", "internal/bytealg.IndexString"], unfollowed := true, recurses := true, named := ["internal/bytealg.MaxLen", "unicode/utf8.first", "unicode/utf8.acceptRanges"], apart := false, laid := [("unicode/utf8.acceptRanges", laid_unicode_utf8_acceptRanges), ("unicode/utf8.first", laid_unicode_utf8_first)], narrowed := true }
def FnExactCountPointsUptoSaid : Prop := fnExactCountPointsUptoRow.holds Tryd.pinned (OpenSpec.upto fnExactCountPointsSpec)

/-- 'laws.FnExactSameIn', WHERE WHAT IT READS IS OF BULK AT MOST 1048576: true; the input reads as it did. -/
def fnExactSameInUptoRow : OpenClaim := { program := "ytebjanjobfiloaadoor", sum := "d526a28b688ce51318164bfa45269fab312c6b1d2d04e467e31e3edf82eb2fd6", func := "loop.example/gamesonstructures/laws.FnExactSameIn", spec := "fnExactSameIn", inPlace := ["internal/bytealg.IndexByteString", "internal/bytealg.IndexString"], unfollowed := true, recurses := true, named := ["internal/bytealg.MaxLen", "unicode/utf8.first", "unicode/utf8.acceptRanges"], apart := false, laid := [("unicode/utf8.acceptRanges", laid_unicode_utf8_acceptRanges), ("unicode/utf8.first", laid_unicode_utf8_first)], narrowed := true }
def FnExactSameInUptoSaid : Prop := fnExactSameInUptoRow.holds Tryd.pinned (OpenSpec.upto fnExactSameInSpec)

/-- 'laws.FnExactFirstPoint', WHERE WHAT IT READS IS OF BULK AT MOST 1048576: true; the input reads as it did. -/
def fnExactFirstPointUptoRow : OpenClaim := { program := "ytebjanjobfiloaadoor", sum := "d526a28b688ce51318164bfa45269fab312c6b1d2d04e467e31e3edf82eb2fd6", func := "loop.example/gamesonstructures/laws.FnExactFirstPoint", spec := "fnExactFirstPoint", inPlace := ["internal/bytealg.IndexByteString", "internal/bytealg.IndexString"], unfollowed := true, recurses := true, named := ["internal/bytealg.MaxLen", "unicode/utf8.first", "unicode/utf8.acceptRanges"], apart := false, laid := [("unicode/utf8.acceptRanges", laid_unicode_utf8_acceptRanges), ("unicode/utf8.first", laid_unicode_utf8_first)], narrowed := true }
def FnExactFirstPointUptoSaid : Prop := fnExactFirstPointUptoRow.holds Tryd.pinned (OpenSpec.upto fnExactFirstPointSpec)

end Rows
end Go.Proofs.YtebjanjobfiloaaDoor
