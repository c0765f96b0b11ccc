/-
  NARROWER THAN 'FOR EVERY INPUT', by the rows' own cells (each row's printed sentence says how): FnExactCountSymmetries: laid · FnExactSameShape: laid · FnExactOrbitOf: laid · FnExactParseStructure: laid · FnPartOf: laid · FnOtherTurn: laid · FnStructureText: laid.
  DERIVED. THE GIVEN ROWS OF THIS SEAT. 7 by the template 'for every input the law returns true; each argument reads behind the call as it read before'; 0 by the template 'total and deterministic' (their statements: YtdogpookippbaaaDoorTotals.lean).
  GIVEN WITH THE SEED: the statements are not yours to turn. If you find one false, say at which input.
  Laid BY PROGRAM, IN A SANDBOX (cutbox-rows.mjs): the forced cells as the released guide's own fill.sh prints them over the translation e70d24cf6cbe70e5… (all of the seat's roots in one cut). By AI agents, Wed Nov 11 2026. No macro, syntax, notation, axiom, sorry.
-/
import Derived.Test.YtdogpookippbaaaDoorChecked
import GoSem.PinnedTables
import GoSem.Claim
import GoSem.ClaimJoined
import GoSem.ClaimMapViews
import Derived.JoinedTies
import Derived.KernelRfl
namespace Go.Proofs.YtdogpookippbaaaDoor
/- THE CELL 'sum', in the pinned program and in every row, IS THE sha256 OF THE DUMP (.gsa) THAT YtdogpookippbaaaDoorProg.lean LOADS. Nothing in Lean hashes anything: it is a label: what it is worth is what the hold of that sum in a sandbox is worth. -/
noncomputable def Tryd.pinned : Pinned := { name := "ytdogpookippbaaadoor", sum := "e70d24cf6cbe70e563989413ab501f4fbc242ef4e99d0109896a9a50095ebb68", checked := Tryd.checked }
namespace Rows
def none {H : Type} : Left H := { results := [], args := [] }

/- WHAT THE LISTED PACKAGE-LEVEL VARIABLES READ AS WHEN THE CALL BEGINS. Each datum BY PROGRAM (the guide's laid-datum.mjs) off the statement by which the dump's own 'gosem.cut.vars' lays the variable. In a bare row this is a premise. The card (YtdogpookippbaaaDoorCards.lean) ties it to the program's text. -/
def laid_unicode_utf8_acceptRanges {H : Type} : DataW H := .agg [.agg [.lit (.int .u8 128), .lit (.int .u8 191)], .agg [.lit (.int .u8 160), .lit (.int .u8 191)], .agg [.lit (.int .u8 128), .lit (.int .u8 159)], .agg [.lit (.int .u8 144), .lit (.int .u8 191)], .agg [.lit (.int .u8 128), .lit (.int .u8 143)], .agg [.lit (.int .u8 0), .lit (.int .u8 0)], .agg [.lit (.int .u8 0), .lit (.int .u8 0)], .agg [.lit (.int .u8 0), .lit (.int .u8 0)], .agg [.lit (.int .u8 0), .lit (.int .u8 0)], .agg [.lit (.int .u8 0), .lit (.int .u8 0)], .agg [.lit (.int .u8 0), .lit (.int .u8 0)], .agg [.lit (.int .u8 0), .lit (.int .u8 0)], .agg [.lit (.int .u8 0), .lit (.int .u8 0)], .agg [.lit (.int .u8 0), .lit (.int .u8 0)], .agg [.lit (.int .u8 0), .lit (.int .u8 0)], .agg [.lit (.int .u8 0), .lit (.int .u8 0)]]
/-- One of Go's own tables, pinned by name: the form's constant. -/
def laid_unicode_utf8_first : DataW Unit := Go.Pinned.utf8First

/-- 'laws.FnExactCountSymmetries': WHATEVER THE INPUT: true; the input reads as it did. -/
def fnExactCountSymmetriesSpec : ChangeSpec := { name := "fnExactCountSymmetries", fn := fun _ => fun
  | [d] => { results := [.lit (.bool true)], args := [d] }
  | _ => none }
def fnExactCountSymmetriesRow : OpenClaim := { program := "ytdogpookippbaaadoor", sum := "e70d24cf6cbe70e563989413ab501f4fbc242ef4e99d0109896a9a50095ebb68", func := "loop.example/gamesonstructures/laws.FnExactCountSymmetries", spec := "fnExactCountSymmetries", inPlace := ["internal/bytealg.IndexByteString", "internal/bytealg.IndexString"], unfollowed := true, recurses := true, named := ["unicode/utf8.first", "unicode/utf8.acceptRanges", "internal/bytealg.MaxLen"], apart := false, laid := [("unicode/utf8.acceptRanges", laid_unicode_utf8_acceptRanges), ("unicode/utf8.first", laid_unicode_utf8_first)] }
def FnExactCountSymmetriesSaid : Prop := fnExactCountSymmetriesRow.holds Tryd.pinned (OpenSpec.ofChange fnExactCountSymmetriesSpec)

/-- ITS FALSE NEIGHBOUR: 'it returns false'. Refute it at one input. -/
def fnExactCountSymmetriesWrong : ChangeSpec := { name := "fnExactCountSymmetries", fn := fun _ => fun
  | [d] => { results := [.lit (.bool false)], args := [d] }
  | _ => none }
def FnExactCountSymmetriesWrongFalsely : Prop := fnExactCountSymmetriesRow.holds Tryd.pinned (OpenSpec.ofChange fnExactCountSymmetriesWrong)

/-- 'laws.FnExactSameShape': WHATEVER THE INPUT: true; the input reads as it did. -/
def fnExactSameShapeSpec : ChangeSpec := { name := "fnExactSameShape", fn := fun _ => fun
  | [d1, d2] => { results := [.lit (.bool true)], args := [d1, d2] }
  | _ => none }
def fnExactSameShapeRow : OpenClaim := { program := "ytdogpookippbaaadoor", sum := "e70d24cf6cbe70e563989413ab501f4fbc242ef4e99d0109896a9a50095ebb68", func := "loop.example/gamesonstructures/laws.FnExactSameShape", spec := "fnExactSameShape", inPlace := ["internal/bytealg.IndexByteString", "internal/bytealg.IndexString"], unfollowed := true, recurses := true, named := ["unicode/utf8.first", "unicode/utf8.acceptRanges", "internal/bytealg.MaxLen"], apart := false, laid := [("unicode/utf8.acceptRanges", laid_unicode_utf8_acceptRanges), ("unicode/utf8.first", laid_unicode_utf8_first)] }
def FnExactSameShapeSaid : Prop := fnExactSameShapeRow.holds Tryd.pinned (OpenSpec.ofChange fnExactSameShapeSpec)

/-- ITS FALSE NEIGHBOUR: 'it returns false'. Refute it at one input. -/
def fnExactSameShapeWrong : ChangeSpec := { name := "fnExactSameShape", fn := fun _ => fun
  | [d1, d2] => { results := [.lit (.bool false)], args := [d1, d2] }
  | _ => none }
def FnExactSameShapeWrongFalsely : Prop := fnExactSameShapeRow.holds Tryd.pinned (OpenSpec.ofChange fnExactSameShapeWrong)

/-- 'laws.FnExactOrbitOf': WHATEVER THE INPUT: true; the input reads as it did. -/
def fnExactOrbitOfSpec : ChangeSpec := { name := "fnExactOrbitOf", fn := fun _ => fun
  | [d1, d2] => { results := [.lit (.bool true)], args := [d1, d2] }
  | _ => none }
def fnExactOrbitOfRow : OpenClaim := { program := "ytdogpookippbaaadoor", sum := "e70d24cf6cbe70e563989413ab501f4fbc242ef4e99d0109896a9a50095ebb68", func := "loop.example/gamesonstructures/laws.FnExactOrbitOf", spec := "fnExactOrbitOf", inPlace := ["internal/bytealg.IndexByteString", "internal/bytealg.IndexString"], unfollowed := true, recurses := true, named := ["unicode/utf8.first", "unicode/utf8.acceptRanges", "internal/bytealg.MaxLen"], apart := false, laid := [("unicode/utf8.acceptRanges", laid_unicode_utf8_acceptRanges), ("unicode/utf8.first", laid_unicode_utf8_first)] }
def FnExactOrbitOfSaid : Prop := fnExactOrbitOfRow.holds Tryd.pinned (OpenSpec.ofChange fnExactOrbitOfSpec)

/-- ITS FALSE NEIGHBOUR: 'it returns false'. Refute it at one input. -/
def fnExactOrbitOfWrong : ChangeSpec := { name := "fnExactOrbitOf", fn := fun _ => fun
  | [d1, d2] => { results := [.lit (.bool false)], args := [d1, d2] }
  | _ => none }
def FnExactOrbitOfWrongFalsely : Prop := fnExactOrbitOfRow.holds Tryd.pinned (OpenSpec.ofChange fnExactOrbitOfWrong)

/-- 'laws.FnExactParseStructure': WHATEVER THE INPUT: true; the input reads as it did. -/
def fnExactParseStructureSpec : ChangeSpec := { name := "fnExactParseStructure", fn := fun _ => fun
  | [d] => { results := [.lit (.bool true)], args := [d] }
  | _ => none }
def fnExactParseStructureRow : OpenClaim := { program := "ytdogpookippbaaadoor", sum := "e70d24cf6cbe70e563989413ab501f4fbc242ef4e99d0109896a9a50095ebb68", func := "loop.example/gamesonstructures/laws.FnExactParseStructure", spec := "fnExactParseStructure", inPlace := ["internal/bytealg.IndexByteString", "internal/bytealg.IndexString"], named := ["internal/bytealg.MaxLen", "unicode/utf8.first", "unicode/utf8.acceptRanges"], apart := false, laid := [("unicode/utf8.acceptRanges", laid_unicode_utf8_acceptRanges), ("unicode/utf8.first", laid_unicode_utf8_first)] }
def FnExactParseStructureSaid : Prop := fnExactParseStructureRow.holds Tryd.pinned (OpenSpec.ofChange fnExactParseStructureSpec)

/-- ITS FALSE NEIGHBOUR: 'it returns false'. Refute it at one input. -/
def fnExactParseStructureWrong : ChangeSpec := { name := "fnExactParseStructure", fn := fun _ => fun
  | [d] => { results := [.lit (.bool false)], args := [d] }
  | _ => none }
def FnExactParseStructureWrongFalsely : Prop := fnExactParseStructureRow.holds Tryd.pinned (OpenSpec.ofChange fnExactParseStructureWrong)

/-- 'laws.FnPartOf': WHATEVER THE INPUT: true; the input reads as it did. -/
def fnPartOfSpec : ChangeSpec := { name := "fnPartOf", fn := fun _ => fun
  | [d] => { results := [.lit (.bool true)], args := [d] }
  | _ => none }
def fnPartOfRow : OpenClaim := { program := "ytdogpookippbaaadoor", sum := "e70d24cf6cbe70e563989413ab501f4fbc242ef4e99d0109896a9a50095ebb68", func := "loop.example/gamesonstructures/laws.FnPartOf", spec := "fnPartOf", inPlace := ["internal/bytealg.IndexByteString", "internal/bytealg.IndexString"], unfollowed := true, recurses := true, named := ["unicode/utf8.first", "unicode/utf8.acceptRanges", "internal/bytealg.MaxLen"], apart := false, laid := [("unicode/utf8.acceptRanges", laid_unicode_utf8_acceptRanges), ("unicode/utf8.first", laid_unicode_utf8_first)] }
def FnPartOfSaid : Prop := fnPartOfRow.holds Tryd.pinned (OpenSpec.ofChange fnPartOfSpec)

/-- ITS FALSE NEIGHBOUR: 'it returns false'. Refute it at one input. -/
def fnPartOfWrong : ChangeSpec := { name := "fnPartOf", fn := fun _ => fun
  | [d] => { results := [.lit (.bool false)], args := [d] }
  | _ => none }
def FnPartOfWrongFalsely : Prop := fnPartOfRow.holds Tryd.pinned (OpenSpec.ofChange fnPartOfWrong)

/-- 'laws.FnOtherTurn': WHATEVER THE INPUT: true; the input reads as it did. -/
def fnOtherTurnSpec : ChangeSpec := { name := "fnOtherTurn", fn := fun _ => fun
  | [d] => { results := [.lit (.bool true)], args := [d] }
  | _ => none }
def fnOtherTurnRow : OpenClaim := { program := "ytdogpookippbaaadoor", sum := "e70d24cf6cbe70e563989413ab501f4fbc242ef4e99d0109896a9a50095ebb68", func := "loop.example/gamesonstructures/laws.FnOtherTurn", spec := "fnOtherTurn", inPlace := ["internal/bytealg.IndexByteString", "internal/bytealg.IndexString"], unfollowed := true, recurses := true, named := ["unicode/utf8.first", "unicode/utf8.acceptRanges", "internal/bytealg.MaxLen"], apart := false, laid := [("unicode/utf8.acceptRanges", laid_unicode_utf8_acceptRanges), ("unicode/utf8.first", laid_unicode_utf8_first)] }
def FnOtherTurnSaid : Prop := fnOtherTurnRow.holds Tryd.pinned (OpenSpec.ofChange fnOtherTurnSpec)

/-- ITS FALSE NEIGHBOUR: 'it returns false'. Refute it at one input. -/
def fnOtherTurnWrong : ChangeSpec := { name := "fnOtherTurn", fn := fun _ => fun
  | [d] => { results := [.lit (.bool false)], args := [d] }
  | _ => none }
def FnOtherTurnWrongFalsely : Prop := fnOtherTurnRow.holds Tryd.pinned (OpenSpec.ofChange fnOtherTurnWrong)

/-- 'laws.FnStructureText': WHATEVER THE INPUT: true; the input reads as it did. -/
def fnStructureTextSpec : ChangeSpec := { name := "fnStructureText", fn := fun _ => fun
  | [d1, d2] => { results := [.lit (.bool true)], args := [d1, d2] }
  | _ => none }
def fnStructureTextRow : OpenClaim := { program := "ytdogpookippbaaadoor", sum := "e70d24cf6cbe70e563989413ab501f4fbc242ef4e99d0109896a9a50095ebb68", func := "loop.example/gamesonstructures/laws.FnStructureText", spec := "fnStructureText", inPlace := ["internal/bytealg.IndexByteString", "internal/bytealg.IndexString"], named := ["unicode/utf8.first", "unicode/utf8.acceptRanges", "internal/bytealg.MaxLen"], apart := false, laid := [("unicode/utf8.acceptRanges", laid_unicode_utf8_acceptRanges), ("unicode/utf8.first", laid_unicode_utf8_first)] }
def FnStructureTextSaid : Prop := fnStructureTextRow.holds Tryd.pinned (OpenSpec.ofChange fnStructureTextSpec)

/-- ITS FALSE NEIGHBOUR: 'it returns false'. Refute it at one input. -/
def fnStructureTextWrong : ChangeSpec := { name := "fnStructureText", fn := fun _ => fun
  | [d1, d2] => { results := [.lit (.bool false)], args := [d1, d2] }
  | _ => none }
def FnStructureTextWrongFalsely : Prop := fnStructureTextRow.holds Tryd.pinned (OpenSpec.ofChange fnStructureTextWrong)

/- THE SECOND FORM. 'bulk': how many values and letters a reading holds, each counted each time it is reached (what is shared counts as often as it is met; a slice's spare places count too). A statement '..UptoSaid' is the law's where the arguments, and the package variables that the reading takes, are together of bulk at most 1048576: NARROWER than '..Said'. Prove '..Said' where nothing that the law and all that it calls make is longer than what came in: it says more and counts as full. Else prove '..UptoSaid'. A law counts once. -/
mutual
def uptoBulk {H : Type} : DataW H → Nat
  | .lit (.string bytes) => bytes.length + 1
  | .lit _ => 1
  | .nil => 1
  | .ptr d => uptoBulk d + 1
  | .slice elems spare => uptoBulkAll elems + uptoBulkAll spare + 1
  | .agg parts => uptoBulkAll parts + 1
  | .iface _ d => uptoBulk d + 1
  | .map entries => uptoBulkEntries entries + 1
  | .held _ => 1
def uptoBulkAll {H : Type} : List (DataW H) → Nat
  | [] => 0
  | d :: r => uptoBulk d + uptoBulkAll r
def uptoBulkEntries {H : Type} : List (Lit × DataW H) → Nat
  | [] => 0
  | x :: r => uptoBulkEntry x + uptoBulkEntries r
def uptoBulkEntry {H : Type} : Lit × DataW H → Nat
  | (.string bytes, d) => bytes.length + uptoBulk d + 1
  | (_, d) => uptoBulk d + 1
 end
def uptoSmall : (H : Type) → List (DataW H) → Bool := fun _ ds => decide (uptoBulkAll ds ≤ 1048576)
def OpenSpec.upto (s : _root_.Go.ChangeSpec) : _root_.Go.OpenSpec := { _root_.Go.OpenSpec.ofChange s with cond := some uptoSmall }

/-- 'laws.FnExactCountSymmetries', WHERE WHAT IT READS IS OF BULK AT MOST 1048576: true; the input reads as it did. -/
def fnExactCountSymmetriesUptoRow : OpenClaim := { program := "ytdogpookippbaaadoor", sum := "e70d24cf6cbe70e563989413ab501f4fbc242ef4e99d0109896a9a50095ebb68", func := "loop.example/gamesonstructures/laws.FnExactCountSymmetries", spec := "fnExactCountSymmetries", inPlace := ["internal/bytealg.IndexByteString", "internal/bytealg.IndexString"], unfollowed := true, recurses := true, named := ["unicode/utf8.first", "unicode/utf8.acceptRanges", "internal/bytealg.MaxLen"], apart := false, laid := [("unicode/utf8.acceptRanges", laid_unicode_utf8_acceptRanges), ("unicode/utf8.first", laid_unicode_utf8_first)], narrowed := true }
def FnExactCountSymmetriesUptoSaid : Prop := fnExactCountSymmetriesUptoRow.holds Tryd.pinned (OpenSpec.upto fnExactCountSymmetriesSpec)

/-- 'laws.FnExactSameShape', WHERE WHAT IT READS IS OF BULK AT MOST 1048576: true; the input reads as it did. -/
def fnExactSameShapeUptoRow : OpenClaim := { program := "ytdogpookippbaaadoor", sum := "e70d24cf6cbe70e563989413ab501f4fbc242ef4e99d0109896a9a50095ebb68", func := "loop.example/gamesonstructures/laws.FnExactSameShape", spec := "fnExactSameShape", inPlace := ["internal/bytealg.IndexByteString", "internal/bytealg.IndexString"], unfollowed := true, recurses := true, named := ["unicode/utf8.first", "unicode/utf8.acceptRanges", "internal/bytealg.MaxLen"], apart := false, laid := [("unicode/utf8.acceptRanges", laid_unicode_utf8_acceptRanges), ("unicode/utf8.first", laid_unicode_utf8_first)], narrowed := true }
def FnExactSameShapeUptoSaid : Prop := fnExactSameShapeUptoRow.holds Tryd.pinned (OpenSpec.upto fnExactSameShapeSpec)

/-- 'laws.FnExactOrbitOf', WHERE WHAT IT READS IS OF BULK AT MOST 1048576: true; the input reads as it did. -/
def fnExactOrbitOfUptoRow : OpenClaim := { program := "ytdogpookippbaaadoor", sum := "e70d24cf6cbe70e563989413ab501f4fbc242ef4e99d0109896a9a50095ebb68", func := "loop.example/gamesonstructures/laws.FnExactOrbitOf", spec := "fnExactOrbitOf", inPlace := ["internal/bytealg.IndexByteString", "internal/bytealg.IndexString"], unfollowed := true, recurses := true, named := ["unicode/utf8.first", "unicode/utf8.acceptRanges", "internal/bytealg.MaxLen"], apart := false, laid := [("unicode/utf8.acceptRanges", laid_unicode_utf8_acceptRanges), ("unicode/utf8.first", laid_unicode_utf8_first)], narrowed := true }
def FnExactOrbitOfUptoSaid : Prop := fnExactOrbitOfUptoRow.holds Tryd.pinned (OpenSpec.upto fnExactOrbitOfSpec)

/-- 'laws.FnExactParseStructure', WHERE WHAT IT READS IS OF BULK AT MOST 1048576: true; the input reads as it did. -/
def fnExactParseStructureUptoRow : OpenClaim := { program := "ytdogpookippbaaadoor", sum := "e70d24cf6cbe70e563989413ab501f4fbc242ef4e99d0109896a9a50095ebb68", func := "loop.example/gamesonstructures/laws.FnExactParseStructure", spec := "fnExactParseStructure", inPlace := ["internal/bytealg.IndexByteString", "internal/bytealg.IndexString"], named := ["internal/bytealg.MaxLen", "unicode/utf8.first", "unicode/utf8.acceptRanges"], apart := false, laid := [("unicode/utf8.acceptRanges", laid_unicode_utf8_acceptRanges), ("unicode/utf8.first", laid_unicode_utf8_first)], narrowed := true }
def FnExactParseStructureUptoSaid : Prop := fnExactParseStructureUptoRow.holds Tryd.pinned (OpenSpec.upto fnExactParseStructureSpec)

/-- 'laws.FnPartOf', WHERE WHAT IT READS IS OF BULK AT MOST 1048576: true; the input reads as it did. -/
def fnPartOfUptoRow : OpenClaim := { program := "ytdogpookippbaaadoor", sum := "e70d24cf6cbe70e563989413ab501f4fbc242ef4e99d0109896a9a50095ebb68", func := "loop.example/gamesonstructures/laws.FnPartOf", spec := "fnPartOf", inPlace := ["internal/bytealg.IndexByteString", "internal/bytealg.IndexString"], unfollowed := true, recurses := true, named := ["unicode/utf8.first", "unicode/utf8.acceptRanges", "internal/bytealg.MaxLen"], apart := false, laid := [("unicode/utf8.acceptRanges", laid_unicode_utf8_acceptRanges), ("unicode/utf8.first", laid_unicode_utf8_first)], narrowed := true }
def FnPartOfUptoSaid : Prop := fnPartOfUptoRow.holds Tryd.pinned (OpenSpec.upto fnPartOfSpec)

/-- 'laws.FnOtherTurn', WHERE WHAT IT READS IS OF BULK AT MOST 1048576: true; the input reads as it did. -/
def fnOtherTurnUptoRow : OpenClaim := { program := "ytdogpookippbaaadoor", sum := "e70d24cf6cbe70e563989413ab501f4fbc242ef4e99d0109896a9a50095ebb68", func := "loop.example/gamesonstructures/laws.FnOtherTurn", spec := "fnOtherTurn", inPlace := ["internal/bytealg.IndexByteString", "internal/bytealg.IndexString"], unfollowed := true, recurses := true, named := ["unicode/utf8.first", "unicode/utf8.acceptRanges", "internal/bytealg.MaxLen"], apart := false, laid := [("unicode/utf8.acceptRanges", laid_unicode_utf8_acceptRanges), ("unicode/utf8.first", laid_unicode_utf8_first)], narrowed := true }
def FnOtherTurnUptoSaid : Prop := fnOtherTurnUptoRow.holds Tryd.pinned (OpenSpec.upto fnOtherTurnSpec)

/-- 'laws.FnStructureText', WHERE WHAT IT READS IS OF BULK AT MOST 1048576: true; the input reads as it did. -/
def fnStructureTextUptoRow : OpenClaim := { program := "ytdogpookippbaaadoor", sum := "e70d24cf6cbe70e563989413ab501f4fbc242ef4e99d0109896a9a50095ebb68", func := "loop.example/gamesonstructures/laws.FnStructureText", spec := "fnStructureText", inPlace := ["internal/bytealg.IndexByteString", "internal/bytealg.IndexString"], named := ["unicode/utf8.first", "unicode/utf8.acceptRanges", "internal/bytealg.MaxLen"], apart := false, laid := [("unicode/utf8.acceptRanges", laid_unicode_utf8_acceptRanges), ("unicode/utf8.first", laid_unicode_utf8_first)], narrowed := true }
def FnStructureTextUptoSaid : Prop := fnStructureTextUptoRow.holds Tryd.pinned (OpenSpec.upto fnStructureTextSpec)

end Rows
end Go.Proofs.YtdogpookippbaaaDoor
