/-
  NARROWER THAN 'FOR EVERY INPUT', by the rows' own cells (each row's printed sentence says how): FnPartOf: laid · FnOtherTurn: laid · FnStructureText: laid · FnOrbits: laid · FnMoveElements: laid · FnSymmetries: laid · FnSameShape: laid.
  DERIVED. THE GIVEN ROWS OF THIS SEAT. 7 by the template 'for every input the law returns true; each argument reads behind the call as it read before'; 0 by the template 'total and deterministic' (their statements: YtpaoffjicgmleaaDoorTotals.lean).
  GIVEN WITH THE SEED: the statements are not yours to turn. If you find one false, say at which input.
  Laid BY PROGRAM, IN A SANDBOX (cutbox-rows.mjs): the forced cells as the released guide's own fill.sh prints them over the translation 9a045975bde13a29… (all of the seat's roots in one cut). By AI agents, Wed Nov 11 2026. No macro, syntax, notation, axiom, sorry.
-/
import Derived.Test.YtpaoffjicgmleaaDoorChecked
import GoSem.PinnedTables
import GoSem.Claim
import GoSem.ClaimJoined
import GoSem.ClaimMapViews
import Derived.JoinedTies
import Derived.KernelRfl
namespace Go.Proofs.YtpaoffjicgmleaaDoor
/- THE CELL 'sum', in the pinned program and in every row, IS THE sha256 OF THE DUMP (.gsa) THAT YtpaoffjicgmleaaDoorProg.lean LOADS. Nothing in Lean hashes anything: it is a label: what it is worth is what the hold of that sum in a sandbox is worth. -/
noncomputable def Tryd.pinned : Pinned := { name := "ytpaoffjicgmleaadoor", sum := "9a045975bde13a29dbfc8579b2c974664319d9da1f554553995564d2ee6c35c0", checked := Tryd.checked }
namespace Rows
def none {H : Type} : Left H := { results := [], args := [] }

/- WHAT THE LISTED PACKAGE-LEVEL VARIABLES READ AS WHEN THE CALL BEGINS. Each datum BY PROGRAM (the guide's laid-datum.mjs) off the statement by which the dump's own 'gosem.cut.vars' lays the variable. In a bare row this is a premise. The card (YtpaoffjicgmleaaDoorCards.lean) ties it to the program's text. -/
def laid_unicode_utf8_acceptRanges {H : Type} : DataW H := .agg [.agg [.lit (.int .u8 128), .lit (.int .u8 191)], .agg [.lit (.int .u8 160), .lit (.int .u8 191)], .agg [.lit (.int .u8 128), .lit (.int .u8 159)], .agg [.lit (.int .u8 144), .lit (.int .u8 191)], .agg [.lit (.int .u8 128), .lit (.int .u8 143)], .agg [.lit (.int .u8 0), .lit (.int .u8 0)], .agg [.lit (.int .u8 0), .lit (.int .u8 0)], .agg [.lit (.int .u8 0), .lit (.int .u8 0)], .agg [.lit (.int .u8 0), .lit (.int .u8 0)], .agg [.lit (.int .u8 0), .lit (.int .u8 0)], .agg [.lit (.int .u8 0), .lit (.int .u8 0)], .agg [.lit (.int .u8 0), .lit (.int .u8 0)], .agg [.lit (.int .u8 0), .lit (.int .u8 0)], .agg [.lit (.int .u8 0), .lit (.int .u8 0)], .agg [.lit (.int .u8 0), .lit (.int .u8 0)], .agg [.lit (.int .u8 0), .lit (.int .u8 0)]]
/-- One of Go's own tables, pinned by name: the form's constant. -/
def laid_unicode_utf8_first : DataW Unit := Go.Pinned.utf8First

/-- 'laws.FnPartOf': WHATEVER THE INPUT: true; the input reads as it did. -/
def fnPartOfSpec : ChangeSpec := { name := "fnPartOf", fn := fun _ => fun
  | [d] => { results := [.lit (.bool true)], args := [d] }
  | _ => none }
def fnPartOfRow : OpenClaim := { program := "ytpaoffjicgmleaadoor", sum := "9a045975bde13a29dbfc8579b2c974664319d9da1f554553995564d2ee6c35c0", func := "loop.example/gamesonstructures/laws.FnPartOf", spec := "fnPartOf", inPlace := ["internal/bytealg.IndexByteString", "internal/bytealg.IndexString"], unfollowed := true, recurses := true, named := ["unicode/utf8.first", "unicode/utf8.acceptRanges", "internal/bytealg.MaxLen"], apart := false, laid := [("unicode/utf8.acceptRanges", laid_unicode_utf8_acceptRanges), ("unicode/utf8.first", laid_unicode_utf8_first)] }
def FnPartOfSaid : Prop := fnPartOfRow.holds Tryd.pinned (OpenSpec.ofChange fnPartOfSpec)

/-- ITS FALSE NEIGHBOUR: 'it returns false'. Refute it at one input. -/
def fnPartOfWrong : ChangeSpec := { name := "fnPartOf", fn := fun _ => fun
  | [d] => { results := [.lit (.bool false)], args := [d] }
  | _ => none }
def FnPartOfWrongFalsely : Prop := fnPartOfRow.holds Tryd.pinned (OpenSpec.ofChange fnPartOfWrong)

/-- 'laws.FnOtherTurn': WHATEVER THE INPUT: true; the input reads as it did. -/
def fnOtherTurnSpec : ChangeSpec := { name := "fnOtherTurn", fn := fun _ => fun
  | [d] => { results := [.lit (.bool true)], args := [d] }
  | _ => none }
def fnOtherTurnRow : OpenClaim := { program := "ytpaoffjicgmleaadoor", sum := "9a045975bde13a29dbfc8579b2c974664319d9da1f554553995564d2ee6c35c0", func := "loop.example/gamesonstructures/laws.FnOtherTurn", spec := "fnOtherTurn", inPlace := ["internal/bytealg.IndexByteString", "internal/bytealg.IndexString"], unfollowed := true, recurses := true, named := ["unicode/utf8.first", "unicode/utf8.acceptRanges", "internal/bytealg.MaxLen"], apart := false, laid := [("unicode/utf8.acceptRanges", laid_unicode_utf8_acceptRanges), ("unicode/utf8.first", laid_unicode_utf8_first)] }
def FnOtherTurnSaid : Prop := fnOtherTurnRow.holds Tryd.pinned (OpenSpec.ofChange fnOtherTurnSpec)

/-- ITS FALSE NEIGHBOUR: 'it returns false'. Refute it at one input. -/
def fnOtherTurnWrong : ChangeSpec := { name := "fnOtherTurn", fn := fun _ => fun
  | [d] => { results := [.lit (.bool false)], args := [d] }
  | _ => none }
def FnOtherTurnWrongFalsely : Prop := fnOtherTurnRow.holds Tryd.pinned (OpenSpec.ofChange fnOtherTurnWrong)

/-- 'laws.FnStructureText': WHATEVER THE INPUT: true; the input reads as it did. -/
def fnStructureTextSpec : ChangeSpec := { name := "fnStructureText", fn := fun _ => fun
  | [d1, d2] => { results := [.lit (.bool true)], args := [d1, d2] }
  | _ => none }
def fnStructureTextRow : OpenClaim := { program := "ytpaoffjicgmleaadoor", sum := "9a045975bde13a29dbfc8579b2c974664319d9da1f554553995564d2ee6c35c0", func := "loop.example/gamesonstructures/laws.FnStructureText", spec := "fnStructureText", inPlace := ["internal/bytealg.IndexByteString", "internal/bytealg.IndexString"], named := ["unicode/utf8.first", "unicode/utf8.acceptRanges", "internal/bytealg.MaxLen"], apart := false, laid := [("unicode/utf8.acceptRanges", laid_unicode_utf8_acceptRanges), ("unicode/utf8.first", laid_unicode_utf8_first)] }
def FnStructureTextSaid : Prop := fnStructureTextRow.holds Tryd.pinned (OpenSpec.ofChange fnStructureTextSpec)

/-- ITS FALSE NEIGHBOUR: 'it returns false'. Refute it at one input. -/
def fnStructureTextWrong : ChangeSpec := { name := "fnStructureText", fn := fun _ => fun
  | [d1, d2] => { results := [.lit (.bool false)], args := [d1, d2] }
  | _ => none }
def FnStructureTextWrongFalsely : Prop := fnStructureTextRow.holds Tryd.pinned (OpenSpec.ofChange fnStructureTextWrong)

/-- 'laws.FnOrbits': WHATEVER THE INPUT: true; the input reads as it did. -/
def fnOrbitsSpec : ChangeSpec := { name := "fnOrbits", fn := fun _ => fun
  | [d] => { results := [.lit (.bool true)], args := [d] }
  | _ => none }
def fnOrbitsRow : OpenClaim := { program := "ytpaoffjicgmleaadoor", sum := "9a045975bde13a29dbfc8579b2c974664319d9da1f554553995564d2ee6c35c0", func := "loop.example/gamesonstructures/laws.FnOrbits", spec := "fnOrbits", inPlace := ["internal/bytealg.IndexByteString", "internal/bytealg.IndexString"], unfollowed := true, recurses := true, named := ["unicode/utf8.first", "unicode/utf8.acceptRanges", "internal/bytealg.MaxLen"], apart := false, laid := [("unicode/utf8.acceptRanges", laid_unicode_utf8_acceptRanges), ("unicode/utf8.first", laid_unicode_utf8_first)] }
def FnOrbitsSaid : Prop := fnOrbitsRow.holds Tryd.pinned (OpenSpec.ofChange fnOrbitsSpec)

/-- ITS FALSE NEIGHBOUR: 'it returns false'. Refute it at one input. -/
def fnOrbitsWrong : ChangeSpec := { name := "fnOrbits", fn := fun _ => fun
  | [d] => { results := [.lit (.bool false)], args := [d] }
  | _ => none }
def FnOrbitsWrongFalsely : Prop := fnOrbitsRow.holds Tryd.pinned (OpenSpec.ofChange fnOrbitsWrong)

/-- 'laws.FnMoveElements': WHATEVER THE INPUT: true; the input reads as it did. -/
def fnMoveElementsSpec : ChangeSpec := { name := "fnMoveElements", fn := fun _ => fun
  | [d] => { results := [.lit (.bool true)], args := [d] }
  | _ => none }
def fnMoveElementsRow : OpenClaim := { program := "ytpaoffjicgmleaadoor", sum := "9a045975bde13a29dbfc8579b2c974664319d9da1f554553995564d2ee6c35c0", func := "loop.example/gamesonstructures/laws.FnMoveElements", spec := "fnMoveElements", inPlace := ["internal/bytealg.IndexByteString", "internal/bytealg.IndexString"], unfollowed := true, recurses := true, named := ["unicode/utf8.first", "unicode/utf8.acceptRanges", "internal/bytealg.MaxLen"], apart := false, laid := [("unicode/utf8.acceptRanges", laid_unicode_utf8_acceptRanges), ("unicode/utf8.first", laid_unicode_utf8_first)] }
def FnMoveElementsSaid : Prop := fnMoveElementsRow.holds Tryd.pinned (OpenSpec.ofChange fnMoveElementsSpec)

/-- ITS FALSE NEIGHBOUR: 'it returns false'. Refute it at one input. -/
def fnMoveElementsWrong : ChangeSpec := { name := "fnMoveElements", fn := fun _ => fun
  | [d] => { results := [.lit (.bool false)], args := [d] }
  | _ => none }
def FnMoveElementsWrongFalsely : Prop := fnMoveElementsRow.holds Tryd.pinned (OpenSpec.ofChange fnMoveElementsWrong)

/-- 'laws.FnSymmetries': WHATEVER THE INPUT: true; the input reads as it did. -/
def fnSymmetriesSpec : ChangeSpec := { name := "fnSymmetries", fn := fun _ => fun
  | [d] => { results := [.lit (.bool true)], args := [d] }
  | _ => none }
def fnSymmetriesRow : OpenClaim := { program := "ytpaoffjicgmleaadoor", sum := "9a045975bde13a29dbfc8579b2c974664319d9da1f554553995564d2ee6c35c0", func := "loop.example/gamesonstructures/laws.FnSymmetries", spec := "fnSymmetries", inPlace := ["internal/bytealg.IndexByteString", "internal/bytealg.IndexString"], unfollowed := true, recurses := true, named := ["unicode/utf8.first", "unicode/utf8.acceptRanges", "internal/bytealg.MaxLen"], apart := false, laid := [("unicode/utf8.acceptRanges", laid_unicode_utf8_acceptRanges), ("unicode/utf8.first", laid_unicode_utf8_first)] }
def FnSymmetriesSaid : Prop := fnSymmetriesRow.holds Tryd.pinned (OpenSpec.ofChange fnSymmetriesSpec)

/-- ITS FALSE NEIGHBOUR: 'it returns false'. Refute it at one input. -/
def fnSymmetriesWrong : ChangeSpec := { name := "fnSymmetries", fn := fun _ => fun
  | [d] => { results := [.lit (.bool false)], args := [d] }
  | _ => none }
def FnSymmetriesWrongFalsely : Prop := fnSymmetriesRow.holds Tryd.pinned (OpenSpec.ofChange fnSymmetriesWrong)

/-- 'laws.FnSameShape': WHATEVER THE INPUT: true; the input reads as it did. -/
def fnSameShapeSpec : ChangeSpec := { name := "fnSameShape", fn := fun _ => fun
  | [d] => { results := [.lit (.bool true)], args := [d] }
  | _ => none }
def fnSameShapeRow : OpenClaim := { program := "ytpaoffjicgmleaadoor", sum := "9a045975bde13a29dbfc8579b2c974664319d9da1f554553995564d2ee6c35c0", func := "loop.example/gamesonstructures/laws.FnSameShape", spec := "fnSameShape", inPlace := ["internal/bytealg.IndexByteString", "internal/bytealg.IndexString"], unfollowed := true, recurses := true, named := ["unicode/utf8.first", "unicode/utf8.acceptRanges", "internal/bytealg.MaxLen"], apart := false, laid := [("unicode/utf8.acceptRanges", laid_unicode_utf8_acceptRanges), ("unicode/utf8.first", laid_unicode_utf8_first)] }
def FnSameShapeSaid : Prop := fnSameShapeRow.holds Tryd.pinned (OpenSpec.ofChange fnSameShapeSpec)

/-- ITS FALSE NEIGHBOUR: 'it returns false'. Refute it at one input. -/
def fnSameShapeWrong : ChangeSpec := { name := "fnSameShape", fn := fun _ => fun
  | [d] => { results := [.lit (.bool false)], args := [d] }
  | _ => none }
def FnSameShapeWrongFalsely : Prop := fnSameShapeRow.holds Tryd.pinned (OpenSpec.ofChange fnSameShapeWrong)

/- THE SECOND FORM. 'bulk': how many values and letters a reading holds, each counted each time it is reached (what is shared counts as often as it is met; a slice's spare places count too). A statement '..UptoSaid' is the law's where the arguments, and the package variables that the reading takes, are together of bulk at most 1048576: NARROWER than '..Said'. Prove '..Said' where nothing that the law and all that it calls make is longer than what came in: it says more and counts as full. Else prove '..UptoSaid'. A law counts once. -/
mutual
def uptoBulk {H : Type} : DataW H → Nat
  | .lit (.string bytes) => bytes.length + 1
  | .lit _ => 1
  | .nil => 1
  | .ptr d => uptoBulk d + 1
  | .slice elems spare => uptoBulkAll elems + uptoBulkAll spare + 1
  | .agg parts => uptoBulkAll parts + 1
  | .iface _ d => uptoBulk d + 1
  | .map entries => uptoBulkEntries entries + 1
  | .held _ => 1
def uptoBulkAll {H : Type} : List (DataW H) → Nat
  | [] => 0
  | d :: r => uptoBulk d + uptoBulkAll r
def uptoBulkEntries {H : Type} : List (Lit × DataW H) → Nat
  | [] => 0
  | x :: r => uptoBulkEntry x + uptoBulkEntries r
def uptoBulkEntry {H : Type} : Lit × DataW H → Nat
  | (.string bytes, d) => bytes.length + uptoBulk d + 1
  | (_, d) => uptoBulk d + 1
 end
def uptoSmall : (H : Type) → List (DataW H) → Bool := fun _ ds => decide (uptoBulkAll ds ≤ 1048576)
def OpenSpec.upto (s : _root_.Go.ChangeSpec) : _root_.Go.OpenSpec := { _root_.Go.OpenSpec.ofChange s with cond := some uptoSmall }

/-- 'laws.FnPartOf', WHERE WHAT IT READS IS OF BULK AT MOST 1048576: true; the input reads as it did. -/
def fnPartOfUptoRow : OpenClaim := { program := "ytpaoffjicgmleaadoor", sum := "9a045975bde13a29dbfc8579b2c974664319d9da1f554553995564d2ee6c35c0", func := "loop.example/gamesonstructures/laws.FnPartOf", spec := "fnPartOf", inPlace := ["internal/bytealg.IndexByteString", "internal/bytealg.IndexString"], unfollowed := true, recurses := true, named := ["unicode/utf8.first", "unicode/utf8.acceptRanges", "internal/bytealg.MaxLen"], apart := false, laid := [("unicode/utf8.acceptRanges", laid_unicode_utf8_acceptRanges), ("unicode/utf8.first", laid_unicode_utf8_first)], narrowed := true }
def FnPartOfUptoSaid : Prop := fnPartOfUptoRow.holds Tryd.pinned (OpenSpec.upto fnPartOfSpec)

/-- 'laws.FnOtherTurn', WHERE WHAT IT READS IS OF BULK AT MOST 1048576: true; the input reads as it did. -/
def fnOtherTurnUptoRow : OpenClaim := { program := "ytpaoffjicgmleaadoor", sum := "9a045975bde13a29dbfc8579b2c974664319d9da1f554553995564d2ee6c35c0", func := "loop.example/gamesonstructures/laws.FnOtherTurn", spec := "fnOtherTurn", inPlace := ["internal/bytealg.IndexByteString", "internal/bytealg.IndexString"], unfollowed := true, recurses := true, named := ["unicode/utf8.first", "unicode/utf8.acceptRanges", "internal/bytealg.MaxLen"], apart := false, laid := [("unicode/utf8.acceptRanges", laid_unicode_utf8_acceptRanges), ("unicode/utf8.first", laid_unicode_utf8_first)], narrowed := true }
def FnOtherTurnUptoSaid : Prop := fnOtherTurnUptoRow.holds Tryd.pinned (OpenSpec.upto fnOtherTurnSpec)

/-- 'laws.FnStructureText', WHERE WHAT IT READS IS OF BULK AT MOST 1048576: true; the input reads as it did. -/
def fnStructureTextUptoRow : OpenClaim := { program := "ytpaoffjicgmleaadoor", sum := "9a045975bde13a29dbfc8579b2c974664319d9da1f554553995564d2ee6c35c0", func := "loop.example/gamesonstructures/laws.FnStructureText", spec := "fnStructureText", inPlace := ["internal/bytealg.IndexByteString", "internal/bytealg.IndexString"], named := ["unicode/utf8.first", "unicode/utf8.acceptRanges", "internal/bytealg.MaxLen"], apart := false, laid := [("unicode/utf8.acceptRanges", laid_unicode_utf8_acceptRanges), ("unicode/utf8.first", laid_unicode_utf8_first)], narrowed := true }
def FnStructureTextUptoSaid : Prop := fnStructureTextUptoRow.holds Tryd.pinned (OpenSpec.upto fnStructureTextSpec)

/-- 'laws.FnOrbits', WHERE WHAT IT READS IS OF BULK AT MOST 1048576: true; the input reads as it did. -/
def fnOrbitsUptoRow : OpenClaim := { program := "ytpaoffjicgmleaadoor", sum := "9a045975bde13a29dbfc8579b2c974664319d9da1f554553995564d2ee6c35c0", func := "loop.example/gamesonstructures/laws.FnOrbits", spec := "fnOrbits", inPlace := ["internal/bytealg.IndexByteString", "internal/bytealg.IndexString"], unfollowed := true, recurses := true, named := ["unicode/utf8.first", "unicode/utf8.acceptRanges", "internal/bytealg.MaxLen"], apart := false, laid := [("unicode/utf8.acceptRanges", laid_unicode_utf8_acceptRanges), ("unicode/utf8.first", laid_unicode_utf8_first)], narrowed := true }
def FnOrbitsUptoSaid : Prop := fnOrbitsUptoRow.holds Tryd.pinned (OpenSpec.upto fnOrbitsSpec)

/-- 'laws.FnMoveElements', WHERE WHAT IT READS IS OF BULK AT MOST 1048576: true; the input reads as it did. -/
def fnMoveElementsUptoRow : OpenClaim := { program := "ytpaoffjicgmleaadoor", sum := "9a045975bde13a29dbfc8579b2c974664319d9da1f554553995564d2ee6c35c0", func := "loop.example/gamesonstructures/laws.FnMoveElements", spec := "fnMoveElements", inPlace := ["internal/bytealg.IndexByteString", "internal/bytealg.IndexString"], unfollowed := true, recurses := true, named := ["unicode/utf8.first", "unicode/utf8.acceptRanges", "internal/bytealg.MaxLen"], apart := false, laid := [("unicode/utf8.acceptRanges", laid_unicode_utf8_acceptRanges), ("unicode/utf8.first", laid_unicode_utf8_first)], narrowed := true }
def FnMoveElementsUptoSaid : Prop := fnMoveElementsUptoRow.holds Tryd.pinned (OpenSpec.upto fnMoveElementsSpec)

/-- 'laws.FnSymmetries', WHERE WHAT IT READS IS OF BULK AT MOST 1048576: true; the input reads as it did. -/
def fnSymmetriesUptoRow : OpenClaim := { program := "ytpaoffjicgmleaadoor", sum := "9a045975bde13a29dbfc8579b2c974664319d9da1f554553995564d2ee6c35c0", func := "loop.example/gamesonstructures/laws.FnSymmetries", spec := "fnSymmetries", inPlace := ["internal/bytealg.IndexByteString", "internal/bytealg.IndexString"], unfollowed := true, recurses := true, named := ["unicode/utf8.first", "unicode/utf8.acceptRanges", "internal/bytealg.MaxLen"], apart := false, laid := [("unicode/utf8.acceptRanges", laid_unicode_utf8_acceptRanges), ("unicode/utf8.first", laid_unicode_utf8_first)], narrowed := true }
def FnSymmetriesUptoSaid : Prop := fnSymmetriesUptoRow.holds Tryd.pinned (OpenSpec.upto fnSymmetriesSpec)

/-- 'laws.FnSameShape', WHERE WHAT IT READS IS OF BULK AT MOST 1048576: true; the input reads as it did. -/
def fnSameShapeUptoRow : OpenClaim := { program := "ytpaoffjicgmleaadoor", sum := "9a045975bde13a29dbfc8579b2c974664319d9da1f554553995564d2ee6c35c0", func := "loop.example/gamesonstructures/laws.FnSameShape", spec := "fnSameShape", inPlace := ["internal/bytealg.IndexByteString", "internal/bytealg.IndexString"], unfollowed := true, recurses := true, named := ["unicode/utf8.first", "unicode/utf8.acceptRanges", "internal/bytealg.MaxLen"], apart := false, laid := [("unicode/utf8.acceptRanges", laid_unicode_utf8_acceptRanges), ("unicode/utf8.first", laid_unicode_utf8_first)], narrowed := true }
def FnSameShapeUptoSaid : Prop := fnSameShapeUptoRow.holds Tryd.pinned (OpenSpec.upto fnSameShapeSpec)

end Rows
end Go.Proofs.YtpaoffjicgmleaaDoor
