/-
  NARROWER THAN 'FOR EVERY INPUT', by the rows' own cells (each row's printed sentence says how): FnExactStructureValid: laid · FnExactInRel: laid · FnExactInSet: laid · FnExactFormatStructure: laid · FnExactOtherStructure: laid · FnExactTurnStructure: laid · FnExactParseStructure: laid · FnExactPartOf: laid · FnExactMoveElements: laid · FnExactCountSymmetries: laid · FnExactSameShape: laid · FnExactOrbitOf: laid.
  DERIVED. THE GIVEN ROWS OF THIS SEAT. 12 by the template 'for every input the law returns true; each argument reads behind the call as it read before'; 0 by the template 'total and deterministic' (their statements: YtgejjnikcgnghaaDoorTotals.lean).
  GIVEN WITH THE SEED: the statements are not yours to turn. If you find one false, say at which input.
  Laid BY PROGRAM, IN A SANDBOX (cutbox-rows.mjs): the forced cells as the released guide's own fill.sh prints them over the translation 71f9a617114a3e73… (all of the seat's roots in one cut). By AI agents, Wed Nov 11 2026. No macro, syntax, notation, axiom, sorry.
-/
import Derived.Test.YtgejjnikcgnghaaDoorChecked
import GoSem.PinnedTables
import GoSem.Claim
import GoSem.ClaimJoined
import GoSem.ClaimMapViews
import Derived.JoinedTies
import Derived.KernelRfl
namespace Go.Proofs.YtgejjnikcgnghaaDoor
/- THE CELL 'sum', in the pinned program and in every row, IS THE sha256 OF THE DUMP (.gsa) THAT YtgejjnikcgnghaaDoorProg.lean LOADS. Nothing in Lean hashes anything: it is a label: what it is worth is what the hold of that sum in a sandbox is worth. -/
noncomputable def Tryd.pinned : Pinned := { name := "ytgejjnikcgnghaadoor", sum := "71f9a617114a3e7390ded612f0b78f29ce02b33f9fd4db726dc5a973a18bdb08", checked := Tryd.checked }
namespace Rows
def none {H : Type} : Left H := { results := [], args := [] }

/- WHAT THE LISTED PACKAGE-LEVEL VARIABLES READ AS WHEN THE CALL BEGINS. Each datum BY PROGRAM (the guide's laid-datum.mjs) off the statement by which the dump's own 'gosem.cut.vars' lays the variable. In a bare row this is a premise. The card (YtgejjnikcgnghaaDoorCards.lean) ties it to the program's text. -/
def laid_unicode_utf8_acceptRanges {H : Type} : DataW H := .agg [.agg [.lit (.int .u8 128), .lit (.int .u8 191)], .agg [.lit (.int .u8 160), .lit (.int .u8 191)], .agg [.lit (.int .u8 128), .lit (.int .u8 159)], .agg [.lit (.int .u8 144), .lit (.int .u8 191)], .agg [.lit (.int .u8 128), .lit (.int .u8 143)], .agg [.lit (.int .u8 0), .lit (.int .u8 0)], .agg [.lit (.int .u8 0), .lit (.int .u8 0)], .agg [.lit (.int .u8 0), .lit (.int .u8 0)], .agg [.lit (.int .u8 0), .lit (.int .u8 0)], .agg [.lit (.int .u8 0), .lit (.int .u8 0)], .agg [.lit (.int .u8 0), .lit (.int .u8 0)], .agg [.lit (.int .u8 0), .lit (.int .u8 0)], .agg [.lit (.int .u8 0), .lit (.int .u8 0)], .agg [.lit (.int .u8 0), .lit (.int .u8 0)], .agg [.lit (.int .u8 0), .lit (.int .u8 0)], .agg [.lit (.int .u8 0), .lit (.int .u8 0)]]
/-- One of Go's own tables, pinned by name: the form's constant. -/
def laid_unicode_utf8_first : DataW Unit := Go.Pinned.utf8First

/-- 'laws.FnExactStructureValid': WHATEVER THE INPUT: true; the input reads as it did. -/
def fnExactStructureValidSpec : ChangeSpec := { name := "fnExactStructureValid", fn := fun _ => fun
  | [d] => { results := [.lit (.bool true)], args := [d] }
  | _ => none }
def fnExactStructureValidRow : OpenClaim := { program := "ytgejjnikcgnghaadoor", sum := "71f9a617114a3e7390ded612f0b78f29ce02b33f9fd4db726dc5a973a18bdb08", func := "loop.example/gamesonstructures/laws.FnExactStructureValid", spec := "fnExactStructureValid", inPlace := ["internal/bytealg.IndexByteString", "internal/bytealg.IndexString"], named := ["unicode/utf8.first", "unicode/utf8.acceptRanges", "internal/bytealg.MaxLen"], apart := false, laid := [("unicode/utf8.acceptRanges", laid_unicode_utf8_acceptRanges), ("unicode/utf8.first", laid_unicode_utf8_first)] }
def FnExactStructureValidSaid : Prop := fnExactStructureValidRow.holds Tryd.pinned (OpenSpec.ofChange fnExactStructureValidSpec)

/-- ITS FALSE NEIGHBOUR: 'it returns false'. Refute it at one input. -/
def fnExactStructureValidWrong : ChangeSpec := { name := "fnExactStructureValid", fn := fun _ => fun
  | [d] => { results := [.lit (.bool false)], args := [d] }
  | _ => none }
def FnExactStructureValidWrongFalsely : Prop := fnExactStructureValidRow.holds Tryd.pinned (OpenSpec.ofChange fnExactStructureValidWrong)

/-- 'laws.FnExactInRel': WHATEVER THE INPUT: true; the input reads as it did. -/
def fnExactInRelSpec : ChangeSpec := { name := "fnExactInRel", fn := fun _ => fun
  | [d1, d2, d3] => { results := [.lit (.bool true)], args := [d1, d2, d3] }
  | _ => none }
def fnExactInRelRow : OpenClaim := { program := "ytgejjnikcgnghaadoor", sum := "71f9a617114a3e7390ded612f0b78f29ce02b33f9fd4db726dc5a973a18bdb08", func := "loop.example/gamesonstructures/laws.FnExactInRel", spec := "fnExactInRel", inPlace := ["internal/bytealg.IndexByteString", "internal/bytealg.IndexString"], named := ["unicode/utf8.first", "unicode/utf8.acceptRanges", "internal/bytealg.MaxLen"], apart := false, laid := [("unicode/utf8.acceptRanges", laid_unicode_utf8_acceptRanges), ("unicode/utf8.first", laid_unicode_utf8_first)] }
def FnExactInRelSaid : Prop := fnExactInRelRow.holds Tryd.pinned (OpenSpec.ofChange fnExactInRelSpec)

/-- ITS FALSE NEIGHBOUR: 'it returns false'. Refute it at one input. -/
def fnExactInRelWrong : ChangeSpec := { name := "fnExactInRel", fn := fun _ => fun
  | [d1, d2, d3] => { results := [.lit (.bool false)], args := [d1, d2, d3] }
  | _ => none }
def FnExactInRelWrongFalsely : Prop := fnExactInRelRow.holds Tryd.pinned (OpenSpec.ofChange fnExactInRelWrong)

/-- 'laws.FnExactInSet': WHATEVER THE INPUT: true; the input reads as it did. -/
def fnExactInSetSpec : ChangeSpec := { name := "fnExactInSet", fn := fun _ => fun
  | [d1, d2] => { results := [.lit (.bool true)], args := [d1, d2] }
  | _ => none }
def fnExactInSetRow : OpenClaim := { program := "ytgejjnikcgnghaadoor", sum := "71f9a617114a3e7390ded612f0b78f29ce02b33f9fd4db726dc5a973a18bdb08", func := "loop.example/gamesonstructures/laws.FnExactInSet", spec := "fnExactInSet", inPlace := ["internal/bytealg.IndexByteString", "internal/bytealg.IndexString"], named := ["unicode/utf8.first", "unicode/utf8.acceptRanges", "internal/bytealg.MaxLen"], apart := false, laid := [("unicode/utf8.acceptRanges", laid_unicode_utf8_acceptRanges), ("unicode/utf8.first", laid_unicode_utf8_first)] }
def FnExactInSetSaid : Prop := fnExactInSetRow.holds Tryd.pinned (OpenSpec.ofChange fnExactInSetSpec)

/-- ITS FALSE NEIGHBOUR: 'it returns false'. Refute it at one input. -/
def fnExactInSetWrong : ChangeSpec := { name := "fnExactInSet", fn := fun _ => fun
  | [d1, d2] => { results := [.lit (.bool false)], args := [d1, d2] }
  | _ => none }
def FnExactInSetWrongFalsely : Prop := fnExactInSetRow.holds Tryd.pinned (OpenSpec.ofChange fnExactInSetWrong)

/-- 'laws.FnExactFormatStructure': WHATEVER THE INPUT: true; the input reads as it did. -/
def fnExactFormatStructureSpec : ChangeSpec := { name := "fnExactFormatStructure", fn := fun _ => fun
  | [d] => { results := [.lit (.bool true)], args := [d] }
  | _ => none }
def fnExactFormatStructureRow : OpenClaim := { program := "ytgejjnikcgnghaadoor", sum := "71f9a617114a3e7390ded612f0b78f29ce02b33f9fd4db726dc5a973a18bdb08", func := "loop.example/gamesonstructures/laws.FnExactFormatStructure", spec := "fnExactFormatStructure", inPlace := ["internal/bytealg.IndexByteString", "internal/bytealg.IndexString"], named := ["unicode/utf8.first", "unicode/utf8.acceptRanges", "internal/bytealg.MaxLen"], apart := false, laid := [("unicode/utf8.acceptRanges", laid_unicode_utf8_acceptRanges), ("unicode/utf8.first", laid_unicode_utf8_first)] }
def FnExactFormatStructureSaid : Prop := fnExactFormatStructureRow.holds Tryd.pinned (OpenSpec.ofChange fnExactFormatStructureSpec)

/-- ITS FALSE NEIGHBOUR: 'it returns false'. Refute it at one input. -/
def fnExactFormatStructureWrong : ChangeSpec := { name := "fnExactFormatStructure", fn := fun _ => fun
  | [d] => { results := [.lit (.bool false)], args := [d] }
  | _ => none }
def FnExactFormatStructureWrongFalsely : Prop := fnExactFormatStructureRow.holds Tryd.pinned (OpenSpec.ofChange fnExactFormatStructureWrong)

/-- 'laws.FnExactOtherStructure': WHATEVER THE INPUT: true; the input reads as it did. -/
def fnExactOtherStructureSpec : ChangeSpec := { name := "fnExactOtherStructure", fn := fun _ => fun
  | [d] => { results := [.lit (.bool true)], args := [d] }
  | _ => none }
def fnExactOtherStructureRow : OpenClaim := { program := "ytgejjnikcgnghaadoor", sum := "71f9a617114a3e7390ded612f0b78f29ce02b33f9fd4db726dc5a973a18bdb08", func := "loop.example/gamesonstructures/laws.FnExactOtherStructure", spec := "fnExactOtherStructure", inPlace := ["internal/bytealg.IndexByteString", "internal/bytealg.IndexString"], named := ["unicode/utf8.first", "unicode/utf8.acceptRanges", "internal/bytealg.MaxLen"], apart := false, laid := [("unicode/utf8.acceptRanges", laid_unicode_utf8_acceptRanges), ("unicode/utf8.first", laid_unicode_utf8_first)] }
def FnExactOtherStructureSaid : Prop := fnExactOtherStructureRow.holds Tryd.pinned (OpenSpec.ofChange fnExactOtherStructureSpec)

/-- ITS FALSE NEIGHBOUR: 'it returns false'. Refute it at one input. -/
def fnExactOtherStructureWrong : ChangeSpec := { name := "fnExactOtherStructure", fn := fun _ => fun
  | [d] => { results := [.lit (.bool false)], args := [d] }
  | _ => none }
def FnExactOtherStructureWrongFalsely : Prop := fnExactOtherStructureRow.holds Tryd.pinned (OpenSpec.ofChange fnExactOtherStructureWrong)

/-- 'laws.FnExactTurnStructure': WHATEVER THE INPUT: true; the input reads as it did. -/
def fnExactTurnStructureSpec : ChangeSpec := { name := "fnExactTurnStructure", fn := fun _ => fun
  | [d] => { results := [.lit (.bool true)], args := [d] }
  | _ => none }
def fnExactTurnStructureRow : OpenClaim := { program := "ytgejjnikcgnghaadoor", sum := "71f9a617114a3e7390ded612f0b78f29ce02b33f9fd4db726dc5a973a18bdb08", func := "loop.example/gamesonstructures/laws.FnExactTurnStructure", spec := "fnExactTurnStructure", inPlace := ["internal/bytealg.IndexByteString", "internal/bytealg.IndexString"], unfollowed := true, recurses := true, named := ["unicode/utf8.first", "unicode/utf8.acceptRanges", "internal/bytealg.MaxLen"], apart := false, laid := [("unicode/utf8.acceptRanges", laid_unicode_utf8_acceptRanges), ("unicode/utf8.first", laid_unicode_utf8_first)] }
def FnExactTurnStructureSaid : Prop := fnExactTurnStructureRow.holds Tryd.pinned (OpenSpec.ofChange fnExactTurnStructureSpec)

/-- ITS FALSE NEIGHBOUR: 'it returns false'. Refute it at one input. -/
def fnExactTurnStructureWrong : ChangeSpec := { name := "fnExactTurnStructure", fn := fun _ => fun
  | [d] => { results := [.lit (.bool false)], args := [d] }
  | _ => none }
def FnExactTurnStructureWrongFalsely : Prop := fnExactTurnStructureRow.holds Tryd.pinned (OpenSpec.ofChange fnExactTurnStructureWrong)

/-- 'laws.FnExactParseStructure': WHATEVER THE INPUT: true; the input reads as it did. -/
def fnExactParseStructureSpec : ChangeSpec := { name := "fnExactParseStructure", fn := fun _ => fun
  | [d] => { results := [.lit (.bool true)], args := [d] }
  | _ => none }
def fnExactParseStructureRow : OpenClaim := { program := "ytgejjnikcgnghaadoor", sum := "71f9a617114a3e7390ded612f0b78f29ce02b33f9fd4db726dc5a973a18bdb08", func := "loop.example/gamesonstructures/laws.FnExactParseStructure", spec := "fnExactParseStructure", inPlace := ["internal/bytealg.IndexByteString", "internal/bytealg.IndexString"], named := ["internal/bytealg.MaxLen", "unicode/utf8.first", "unicode/utf8.acceptRanges"], apart := false, laid := [("unicode/utf8.acceptRanges", laid_unicode_utf8_acceptRanges), ("unicode/utf8.first", laid_unicode_utf8_first)] }
def FnExactParseStructureSaid : Prop := fnExactParseStructureRow.holds Tryd.pinned (OpenSpec.ofChange fnExactParseStructureSpec)

/-- ITS FALSE NEIGHBOUR: 'it returns false'. Refute it at one input. -/
def fnExactParseStructureWrong : ChangeSpec := { name := "fnExactParseStructure", fn := fun _ => fun
  | [d] => { results := [.lit (.bool false)], args := [d] }
  | _ => none }
def FnExactParseStructureWrongFalsely : Prop := fnExactParseStructureRow.holds Tryd.pinned (OpenSpec.ofChange fnExactParseStructureWrong)

/-- 'laws.FnExactPartOf': WHATEVER THE INPUT: true; the input reads as it did. -/
def fnExactPartOfSpec : ChangeSpec := { name := "fnExactPartOf", fn := fun _ => fun
  | [d1, d2] => { results := [.lit (.bool true)], args := [d1, d2] }
  | _ => none }
def fnExactPartOfRow : OpenClaim := { program := "ytgejjnikcgnghaadoor", sum := "71f9a617114a3e7390ded612f0b78f29ce02b33f9fd4db726dc5a973a18bdb08", func := "loop.example/gamesonstructures/laws.FnExactPartOf", spec := "fnExactPartOf", inPlace := ["internal/bytealg.IndexByteString", "internal/bytealg.IndexString"], unfollowed := true, recurses := true, named := ["unicode/utf8.first", "unicode/utf8.acceptRanges", "internal/bytealg.MaxLen"], apart := false, laid := [("unicode/utf8.acceptRanges", laid_unicode_utf8_acceptRanges), ("unicode/utf8.first", laid_unicode_utf8_first)] }
def FnExactPartOfSaid : Prop := fnExactPartOfRow.holds Tryd.pinned (OpenSpec.ofChange fnExactPartOfSpec)

/-- ITS FALSE NEIGHBOUR: 'it returns false'. Refute it at one input. -/
def fnExactPartOfWrong : ChangeSpec := { name := "fnExactPartOf", fn := fun _ => fun
  | [d1, d2] => { results := [.lit (.bool false)], args := [d1, d2] }
  | _ => none }
def FnExactPartOfWrongFalsely : Prop := fnExactPartOfRow.holds Tryd.pinned (OpenSpec.ofChange fnExactPartOfWrong)

/-- 'laws.FnExactMoveElements': WHATEVER THE INPUT: true; the input reads as it did. -/
def fnExactMoveElementsSpec : ChangeSpec := { name := "fnExactMoveElements", fn := fun _ => fun
  | [d1, d2] => { results := [.lit (.bool true)], args := [d1, d2] }
  | _ => none }
def fnExactMoveElementsRow : OpenClaim := { program := "ytgejjnikcgnghaadoor", sum := "71f9a617114a3e7390ded612f0b78f29ce02b33f9fd4db726dc5a973a18bdb08", func := "loop.example/gamesonstructures/laws.FnExactMoveElements", spec := "fnExactMoveElements", inPlace := ["internal/bytealg.IndexByteString", "internal/bytealg.IndexString"], unfollowed := true, recurses := true, named := ["unicode/utf8.first", "unicode/utf8.acceptRanges", "internal/bytealg.MaxLen"], apart := false, laid := [("unicode/utf8.acceptRanges", laid_unicode_utf8_acceptRanges), ("unicode/utf8.first", laid_unicode_utf8_first)] }
def FnExactMoveElementsSaid : Prop := fnExactMoveElementsRow.holds Tryd.pinned (OpenSpec.ofChange fnExactMoveElementsSpec)

/-- ITS FALSE NEIGHBOUR: 'it returns false'. Refute it at one input. -/
def fnExactMoveElementsWrong : ChangeSpec := { name := "fnExactMoveElements", fn := fun _ => fun
  | [d1, d2] => { results := [.lit (.bool false)], args := [d1, d2] }
  | _ => none }
def FnExactMoveElementsWrongFalsely : Prop := fnExactMoveElementsRow.holds Tryd.pinned (OpenSpec.ofChange fnExactMoveElementsWrong)

/-- 'laws.FnExactCountSymmetries': WHATEVER THE INPUT: true; the input reads as it did. -/
def fnExactCountSymmetriesSpec : ChangeSpec := { name := "fnExactCountSymmetries", fn := fun _ => fun
  | [d] => { results := [.lit (.bool true)], args := [d] }
  | _ => none }
def fnExactCountSymmetriesRow : OpenClaim := { program := "ytgejjnikcgnghaadoor", sum := "71f9a617114a3e7390ded612f0b78f29ce02b33f9fd4db726dc5a973a18bdb08", func := "loop.example/gamesonstructures/laws.FnExactCountSymmetries", spec := "fnExactCountSymmetries", inPlace := ["internal/bytealg.IndexByteString", "internal/bytealg.IndexString"], unfollowed := true, recurses := true, named := ["unicode/utf8.first", "unicode/utf8.acceptRanges", "internal/bytealg.MaxLen"], apart := false, laid := [("unicode/utf8.acceptRanges", laid_unicode_utf8_acceptRanges), ("unicode/utf8.first", laid_unicode_utf8_first)] }
def FnExactCountSymmetriesSaid : Prop := fnExactCountSymmetriesRow.holds Tryd.pinned (OpenSpec.ofChange fnExactCountSymmetriesSpec)

/-- ITS FALSE NEIGHBOUR: 'it returns false'. Refute it at one input. -/
def fnExactCountSymmetriesWrong : ChangeSpec := { name := "fnExactCountSymmetries", fn := fun _ => fun
  | [d] => { results := [.lit (.bool false)], args := [d] }
  | _ => none }
def FnExactCountSymmetriesWrongFalsely : Prop := fnExactCountSymmetriesRow.holds Tryd.pinned (OpenSpec.ofChange fnExactCountSymmetriesWrong)

/-- 'laws.FnExactSameShape': WHATEVER THE INPUT: true; the input reads as it did. -/
def fnExactSameShapeSpec : ChangeSpec := { name := "fnExactSameShape", fn := fun _ => fun
  | [d1, d2] => { results := [.lit (.bool true)], args := [d1, d2] }
  | _ => none }
def fnExactSameShapeRow : OpenClaim := { program := "ytgejjnikcgnghaadoor", sum := "71f9a617114a3e7390ded612f0b78f29ce02b33f9fd4db726dc5a973a18bdb08", func := "loop.example/gamesonstructures/laws.FnExactSameShape", spec := "fnExactSameShape", inPlace := ["internal/bytealg.IndexByteString", "internal/bytealg.IndexString"], unfollowed := true, recurses := true, named := ["unicode/utf8.first", "unicode/utf8.acceptRanges", "internal/bytealg.MaxLen"], apart := false, laid := [("unicode/utf8.acceptRanges", laid_unicode_utf8_acceptRanges), ("unicode/utf8.first", laid_unicode_utf8_first)] }
def FnExactSameShapeSaid : Prop := fnExactSameShapeRow.holds Tryd.pinned (OpenSpec.ofChange fnExactSameShapeSpec)

/-- ITS FALSE NEIGHBOUR: 'it returns false'. Refute it at one input. -/
def fnExactSameShapeWrong : ChangeSpec := { name := "fnExactSameShape", fn := fun _ => fun
  | [d1, d2] => { results := [.lit (.bool false)], args := [d1, d2] }
  | _ => none }
def FnExactSameShapeWrongFalsely : Prop := fnExactSameShapeRow.holds Tryd.pinned (OpenSpec.ofChange fnExactSameShapeWrong)

/-- 'laws.FnExactOrbitOf': WHATEVER THE INPUT: true; the input reads as it did. -/
def fnExactOrbitOfSpec : ChangeSpec := { name := "fnExactOrbitOf", fn := fun _ => fun
  | [d1, d2] => { results := [.lit (.bool true)], args := [d1, d2] }
  | _ => none }
def fnExactOrbitOfRow : OpenClaim := { program := "ytgejjnikcgnghaadoor", sum := "71f9a617114a3e7390ded612f0b78f29ce02b33f9fd4db726dc5a973a18bdb08", func := "loop.example/gamesonstructures/laws.FnExactOrbitOf", spec := "fnExactOrbitOf", inPlace := ["internal/bytealg.IndexByteString", "internal/bytealg.IndexString"], unfollowed := true, recurses := true, named := ["unicode/utf8.first", "unicode/utf8.acceptRanges", "internal/bytealg.MaxLen"], apart := false, laid := [("unicode/utf8.acceptRanges", laid_unicode_utf8_acceptRanges), ("unicode/utf8.first", laid_unicode_utf8_first)] }
def FnExactOrbitOfSaid : Prop := fnExactOrbitOfRow.holds Tryd.pinned (OpenSpec.ofChange fnExactOrbitOfSpec)

/-- ITS FALSE NEIGHBOUR: 'it returns false'. Refute it at one input. -/
def fnExactOrbitOfWrong : ChangeSpec := { name := "fnExactOrbitOf", fn := fun _ => fun
  | [d1, d2] => { results := [.lit (.bool false)], args := [d1, d2] }
  | _ => none }
def FnExactOrbitOfWrongFalsely : Prop := fnExactOrbitOfRow.holds Tryd.pinned (OpenSpec.ofChange fnExactOrbitOfWrong)

/- THE SECOND FORM. 'bulk': how many values and letters a reading holds, each counted each time it is reached (what is shared counts as often as it is met; a slice's spare places count too). A statement '..UptoSaid' is the law's where the arguments, and the package variables that the reading takes, are together of bulk at most 1048576: NARROWER than '..Said'. Prove '..Said' where nothing that the law and all that it calls make is longer than what came in: it says more and counts as full. Else prove '..UptoSaid'. A law counts once. -/
mutual
def uptoBulk {H : Type} : DataW H → Nat
  | .lit (.string bytes) => bytes.length + 1
  | .lit _ => 1
  | .nil => 1
  | .ptr d => uptoBulk d + 1
  | .slice elems spare => uptoBulkAll elems + uptoBulkAll spare + 1
  | .agg parts => uptoBulkAll parts + 1
  | .iface _ d => uptoBulk d + 1
  | .map entries => uptoBulkEntries entries + 1
  | .held _ => 1
def uptoBulkAll {H : Type} : List (DataW H) → Nat
  | [] => 0
  | d :: r => uptoBulk d + uptoBulkAll r
def uptoBulkEntries {H : Type} : List (Lit × DataW H) → Nat
  | [] => 0
  | x :: r => uptoBulkEntry x + uptoBulkEntries r
def uptoBulkEntry {H : Type} : Lit × DataW H → Nat
  | (.string bytes, d) => bytes.length + uptoBulk d + 1
  | (_, d) => uptoBulk d + 1
 end
def uptoSmall : (H : Type) → List (DataW H) → Bool := fun _ ds => decide (uptoBulkAll ds ≤ 1048576)
def OpenSpec.upto (s : _root_.Go.ChangeSpec) : _root_.Go.OpenSpec := { _root_.Go.OpenSpec.ofChange s with cond := some uptoSmall }

/-- 'laws.FnExactStructureValid', WHERE WHAT IT READS IS OF BULK AT MOST 1048576: true; the input reads as it did. -/
def fnExactStructureValidUptoRow : OpenClaim := { program := "ytgejjnikcgnghaadoor", sum := "71f9a617114a3e7390ded612f0b78f29ce02b33f9fd4db726dc5a973a18bdb08", func := "loop.example/gamesonstructures/laws.FnExactStructureValid", spec := "fnExactStructureValid", inPlace := ["internal/bytealg.IndexByteString", "internal/bytealg.IndexString"], named := ["unicode/utf8.first", "unicode/utf8.acceptRanges", "internal/bytealg.MaxLen"], apart := false, laid := [("unicode/utf8.acceptRanges", laid_unicode_utf8_acceptRanges), ("unicode/utf8.first", laid_unicode_utf8_first)], narrowed := true }
def FnExactStructureValidUptoSaid : Prop := fnExactStructureValidUptoRow.holds Tryd.pinned (OpenSpec.upto fnExactStructureValidSpec)

/-- 'laws.FnExactInRel', WHERE WHAT IT READS IS OF BULK AT MOST 1048576: true; the input reads as it did. -/
def fnExactInRelUptoRow : OpenClaim := { program := "ytgejjnikcgnghaadoor", sum := "71f9a617114a3e7390ded612f0b78f29ce02b33f9fd4db726dc5a973a18bdb08", func := "loop.example/gamesonstructures/laws.FnExactInRel", spec := "fnExactInRel", inPlace := ["internal/bytealg.IndexByteString", "internal/bytealg.IndexString"], named := ["unicode/utf8.first", "unicode/utf8.acceptRanges", "internal/bytealg.MaxLen"], apart := false, laid := [("unicode/utf8.acceptRanges", laid_unicode_utf8_acceptRanges), ("unicode/utf8.first", laid_unicode_utf8_first)], narrowed := true }
def FnExactInRelUptoSaid : Prop := fnExactInRelUptoRow.holds Tryd.pinned (OpenSpec.upto fnExactInRelSpec)

/-- 'laws.FnExactInSet', WHERE WHAT IT READS IS OF BULK AT MOST 1048576: true; the input reads as it did. -/
def fnExactInSetUptoRow : OpenClaim := { program := "ytgejjnikcgnghaadoor", sum := "71f9a617114a3e7390ded612f0b78f29ce02b33f9fd4db726dc5a973a18bdb08", func := "loop.example/gamesonstructures/laws.FnExactInSet", spec := "fnExactInSet", inPlace := ["internal/bytealg.IndexByteString", "internal/bytealg.IndexString"], named := ["unicode/utf8.first", "unicode/utf8.acceptRanges", "internal/bytealg.MaxLen"], apart := false, laid := [("unicode/utf8.acceptRanges", laid_unicode_utf8_acceptRanges), ("unicode/utf8.first", laid_unicode_utf8_first)], narrowed := true }
def FnExactInSetUptoSaid : Prop := fnExactInSetUptoRow.holds Tryd.pinned (OpenSpec.upto fnExactInSetSpec)

/-- 'laws.FnExactFormatStructure', WHERE WHAT IT READS IS OF BULK AT MOST 1048576: true; the input reads as it did. -/
def fnExactFormatStructureUptoRow : OpenClaim := { program := "ytgejjnikcgnghaadoor", sum := "71f9a617114a3e7390ded612f0b78f29ce02b33f9fd4db726dc5a973a18bdb08", func := "loop.example/gamesonstructures/laws.FnExactFormatStructure", spec := "fnExactFormatStructure", inPlace := ["internal/bytealg.IndexByteString", "internal/bytealg.IndexString"], named := ["unicode/utf8.first", "unicode/utf8.acceptRanges", "internal/bytealg.MaxLen"], apart := false, laid := [("unicode/utf8.acceptRanges", laid_unicode_utf8_acceptRanges), ("unicode/utf8.first", laid_unicode_utf8_first)], narrowed := true }
def FnExactFormatStructureUptoSaid : Prop := fnExactFormatStructureUptoRow.holds Tryd.pinned (OpenSpec.upto fnExactFormatStructureSpec)

/-- 'laws.FnExactOtherStructure', WHERE WHAT IT READS IS OF BULK AT MOST 1048576: true; the input reads as it did. -/
def fnExactOtherStructureUptoRow : OpenClaim := { program := "ytgejjnikcgnghaadoor", sum := "71f9a617114a3e7390ded612f0b78f29ce02b33f9fd4db726dc5a973a18bdb08", func := "loop.example/gamesonstructures/laws.FnExactOtherStructure", spec := "fnExactOtherStructure", inPlace := ["internal/bytealg.IndexByteString", "internal/bytealg.IndexString"], named := ["unicode/utf8.first", "unicode/utf8.acceptRanges", "internal/bytealg.MaxLen"], apart := false, laid := [("unicode/utf8.acceptRanges", laid_unicode_utf8_acceptRanges), ("unicode/utf8.first", laid_unicode_utf8_first)], narrowed := true }
def FnExactOtherStructureUptoSaid : Prop := fnExactOtherStructureUptoRow.holds Tryd.pinned (OpenSpec.upto fnExactOtherStructureSpec)

/-- 'laws.FnExactTurnStructure', WHERE WHAT IT READS IS OF BULK AT MOST 1048576: true; the input reads as it did. -/
def fnExactTurnStructureUptoRow : OpenClaim := { program := "ytgejjnikcgnghaadoor", sum := "71f9a617114a3e7390ded612f0b78f29ce02b33f9fd4db726dc5a973a18bdb08", func := "loop.example/gamesonstructures/laws.FnExactTurnStructure", spec := "fnExactTurnStructure", inPlace := ["internal/bytealg.IndexByteString", "internal/bytealg.IndexString"], unfollowed := true, recurses := true, named := ["unicode/utf8.first", "unicode/utf8.acceptRanges", "internal/bytealg.MaxLen"], apart := false, laid := [("unicode/utf8.acceptRanges", laid_unicode_utf8_acceptRanges), ("unicode/utf8.first", laid_unicode_utf8_first)], narrowed := true }
def FnExactTurnStructureUptoSaid : Prop := fnExactTurnStructureUptoRow.holds Tryd.pinned (OpenSpec.upto fnExactTurnStructureSpec)

/-- 'laws.FnExactParseStructure', WHERE WHAT IT READS IS OF BULK AT MOST 1048576: true; the input reads as it did. -/
def fnExactParseStructureUptoRow : OpenClaim := { program := "ytgejjnikcgnghaadoor", sum := "71f9a617114a3e7390ded612f0b78f29ce02b33f9fd4db726dc5a973a18bdb08", func := "loop.example/gamesonstructures/laws.FnExactParseStructure", spec := "fnExactParseStructure", inPlace := ["internal/bytealg.IndexByteString", "internal/bytealg.IndexString"], named := ["internal/bytealg.MaxLen", "unicode/utf8.first", "unicode/utf8.acceptRanges"], apart := false, laid := [("unicode/utf8.acceptRanges", laid_unicode_utf8_acceptRanges), ("unicode/utf8.first", laid_unicode_utf8_first)], narrowed := true }
def FnExactParseStructureUptoSaid : Prop := fnExactParseStructureUptoRow.holds Tryd.pinned (OpenSpec.upto fnExactParseStructureSpec)

/-- 'laws.FnExactPartOf', WHERE WHAT IT READS IS OF BULK AT MOST 1048576: true; the input reads as it did. -/
def fnExactPartOfUptoRow : OpenClaim := { program := "ytgejjnikcgnghaadoor", sum := "71f9a617114a3e7390ded612f0b78f29ce02b33f9fd4db726dc5a973a18bdb08", func := "loop.example/gamesonstructures/laws.FnExactPartOf", spec := "fnExactPartOf", inPlace := ["internal/bytealg.IndexByteString", "internal/bytealg.IndexString"], unfollowed := true, recurses := true, named := ["unicode/utf8.first", "unicode/utf8.acceptRanges", "internal/bytealg.MaxLen"], apart := false, laid := [("unicode/utf8.acceptRanges", laid_unicode_utf8_acceptRanges), ("unicode/utf8.first", laid_unicode_utf8_first)], narrowed := true }
def FnExactPartOfUptoSaid : Prop := fnExactPartOfUptoRow.holds Tryd.pinned (OpenSpec.upto fnExactPartOfSpec)

/-- 'laws.FnExactMoveElements', WHERE WHAT IT READS IS OF BULK AT MOST 1048576: true; the input reads as it did. -/
def fnExactMoveElementsUptoRow : OpenClaim := { program := "ytgejjnikcgnghaadoor", sum := "71f9a617114a3e7390ded612f0b78f29ce02b33f9fd4db726dc5a973a18bdb08", func := "loop.example/gamesonstructures/laws.FnExactMoveElements", spec := "fnExactMoveElements", inPlace := ["internal/bytealg.IndexByteString", "internal/bytealg.IndexString"], unfollowed := true, recurses := true, named := ["unicode/utf8.first", "unicode/utf8.acceptRanges", "internal/bytealg.MaxLen"], apart := false, laid := [("unicode/utf8.acceptRanges", laid_unicode_utf8_acceptRanges), ("unicode/utf8.first", laid_unicode_utf8_first)], narrowed := true }
def FnExactMoveElementsUptoSaid : Prop := fnExactMoveElementsUptoRow.holds Tryd.pinned (OpenSpec.upto fnExactMoveElementsSpec)

/-- 'laws.FnExactCountSymmetries', WHERE WHAT IT READS IS OF BULK AT MOST 1048576: true; the input reads as it did. -/
def fnExactCountSymmetriesUptoRow : OpenClaim := { program := "ytgejjnikcgnghaadoor", sum := "71f9a617114a3e7390ded612f0b78f29ce02b33f9fd4db726dc5a973a18bdb08", func := "loop.example/gamesonstructures/laws.FnExactCountSymmetries", spec := "fnExactCountSymmetries", inPlace := ["internal/bytealg.IndexByteString", "internal/bytealg.IndexString"], unfollowed := true, recurses := true, named := ["unicode/utf8.first", "unicode/utf8.acceptRanges", "internal/bytealg.MaxLen"], apart := false, laid := [("unicode/utf8.acceptRanges", laid_unicode_utf8_acceptRanges), ("unicode/utf8.first", laid_unicode_utf8_first)], narrowed := true }
def FnExactCountSymmetriesUptoSaid : Prop := fnExactCountSymmetriesUptoRow.holds Tryd.pinned (OpenSpec.upto fnExactCountSymmetriesSpec)

/-- 'laws.FnExactSameShape', WHERE WHAT IT READS IS OF BULK AT MOST 1048576: true; the input reads as it did. -/
def fnExactSameShapeUptoRow : OpenClaim := { program := "ytgejjnikcgnghaadoor", sum := "71f9a617114a3e7390ded612f0b78f29ce02b33f9fd4db726dc5a973a18bdb08", func := "loop.example/gamesonstructures/laws.FnExactSameShape", spec := "fnExactSameShape", inPlace := ["internal/bytealg.IndexByteString", "internal/bytealg.IndexString"], unfollowed := true, recurses := true, named := ["unicode/utf8.first", "unicode/utf8.acceptRanges", "internal/bytealg.MaxLen"], apart := false, laid := [("unicode/utf8.acceptRanges", laid_unicode_utf8_acceptRanges), ("unicode/utf8.first", laid_unicode_utf8_first)], narrowed := true }
def FnExactSameShapeUptoSaid : Prop := fnExactSameShapeUptoRow.holds Tryd.pinned (OpenSpec.upto fnExactSameShapeSpec)

/-- 'laws.FnExactOrbitOf', WHERE WHAT IT READS IS OF BULK AT MOST 1048576: true; the input reads as it did. -/
def fnExactOrbitOfUptoRow : OpenClaim := { program := "ytgejjnikcgnghaadoor", sum := "71f9a617114a3e7390ded612f0b78f29ce02b33f9fd4db726dc5a973a18bdb08", func := "loop.example/gamesonstructures/laws.FnExactOrbitOf", spec := "fnExactOrbitOf", inPlace := ["internal/bytealg.IndexByteString", "internal/bytealg.IndexString"], unfollowed := true, recurses := true, named := ["unicode/utf8.first", "unicode/utf8.acceptRanges", "internal/bytealg.MaxLen"], apart := false, laid := [("unicode/utf8.acceptRanges", laid_unicode_utf8_acceptRanges), ("unicode/utf8.first", laid_unicode_utf8_first)], narrowed := true }
def FnExactOrbitOfUptoSaid : Prop := fnExactOrbitOfUptoRow.holds Tryd.pinned (OpenSpec.upto fnExactOrbitOfSpec)

end Rows
end Go.Proofs.YtgejjnikcgnghaaDoor
