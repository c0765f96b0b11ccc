/-
  No cell of these rows narrows 'for every input' (looked for: loops, veiled, ifaces, maps, wideKeys, modest, calm, conditions, laid).
  DERIVED. THE GIVEN ROWS OF THIS SEAT. 3 by the template 'for every input the law returns true; each argument reads behind the call as it read before'; 0 by the template 'total and deterministic' (their statements: YtbohlhmmpoapmaaTotals.lean).
  GIVEN WITH THE SEED: the statements are not yours to turn. If you find one false, say at which input.
  Laid BY PROGRAM, IN A SANDBOX (cutbox-rows.mjs): the forced cells as the released guide's own fill.sh prints them over the translation 4ff0be590a5c70a3… (all of the seat's roots in one cut). By AI agents, Wed Nov 11 2026. No macro, syntax, notation, axiom, sorry.
-/
import Derived.Test.YtbohlhmmpoapmaaChecked
import GoSem.Claim
import GoSem.ClaimJoined
import GoSem.ClaimMapViews
import Derived.JoinedTies
import Derived.KernelRfl
namespace Go.Proofs.Ytbohlhmmpoapmaa
/- THE CELL 'sum', in the pinned program and in every row, IS THE sha256 OF THE DUMP (.gsa) THAT YtbohlhmmpoapmaaProg.lean LOADS. Nothing in Lean hashes anything: it is a label: what it is worth is what the hold of that sum in a sandbox is worth. -/
noncomputable def Try.pinned : Pinned := { name := "ytbohlhmmpoapmaa", sum := "4ff0be590a5c70a3fed1a2ed5593e00fe4e887016a81299973d4542c08756c73", checked := Try.checked }
namespace Rows
def none {H : Type} : Left H := { results := [], args := [] }

/-- 'laws.FnFormulaValid': WHATEVER THE INPUT: true; the input reads as it did. -/
def fnFormulaValidSpec : ChangeSpec := { name := "fnFormulaValid", fn := fun _ => fun
  | [d] => { results := [.lit (.bool true)], args := [d] }
  | _ => none }
def fnFormulaValidRow : OpenClaim := { program := "ytbohlhmmpoapmaa", sum := "4ff0be590a5c70a3fed1a2ed5593e00fe4e887016a81299973d4542c08756c73", func := "loop.example/gamesonstructures/laws.FnFormulaValid", spec := "fnFormulaValid", inPlace := ["internal/bytealg.IndexByteString", "internal/bytealg.IndexString"], recurses := true, named := ["internal/bytealg.MaxLen"], apart := false }
def FnFormulaValidSaid : Prop := fnFormulaValidRow.holds Try.pinned (OpenSpec.ofChange fnFormulaValidSpec)

/-- ITS FALSE NEIGHBOUR: 'it returns false'. Refute it at one input. -/
def fnFormulaValidWrong : ChangeSpec := { name := "fnFormulaValid", fn := fun _ => fun
  | [d] => { results := [.lit (.bool false)], args := [d] }
  | _ => none }
def FnFormulaValidWrongFalsely : Prop := fnFormulaValidRow.holds Try.pinned (OpenSpec.ofChange fnFormulaValidWrong)

/-- 'laws.FnRankWidth': WHATEVER THE INPUT: true; the input reads as it did. -/
def fnRankWidthSpec : ChangeSpec := { name := "fnRankWidth", fn := fun _ => fun
  | [d] => { results := [.lit (.bool true)], args := [d] }
  | _ => none }
def fnRankWidthRow : OpenClaim := { program := "ytbohlhmmpoapmaa", sum := "4ff0be590a5c70a3fed1a2ed5593e00fe4e887016a81299973d4542c08756c73", func := "loop.example/gamesonstructures/laws.FnRankWidth", spec := "fnRankWidth", inPlace := ["internal/bytealg.IndexByteString", "internal/bytealg.IndexString"], unfollowed := true, recurses := true, named := ["internal/bytealg.MaxLen"], apart := false }
def FnRankWidthSaid : Prop := fnRankWidthRow.holds Try.pinned (OpenSpec.ofChange fnRankWidthSpec)

/-- ITS FALSE NEIGHBOUR: 'it returns false'. Refute it at one input. -/
def fnRankWidthWrong : ChangeSpec := { name := "fnRankWidth", fn := fun _ => fun
  | [d] => { results := [.lit (.bool false)], args := [d] }
  | _ => none }
def FnRankWidthWrongFalsely : Prop := fnRankWidthRow.holds Try.pinned (OpenSpec.ofChange fnRankWidthWrong)

/-- 'laws.FnExactSpellCounts': WHATEVER THE INPUT: true; the input reads as it did. -/
def fnExactSpellCountsSpec : ChangeSpec := { name := "fnExactSpellCounts", fn := fun _ => fun
  | [d] => { results := [.lit (.bool true)], args := [d] }
  | _ => none }
def fnExactSpellCountsRow : OpenClaim := { program := "ytbohlhmmpoapmaa", sum := "4ff0be590a5c70a3fed1a2ed5593e00fe4e887016a81299973d4542c08756c73", func := "loop.example/gamesonstructures/laws.FnExactSpellCounts", spec := "fnExactSpellCounts", inPlace := ["internal/bytealg.IndexByteString", "internal/bytealg.IndexString"], recurses := true, named := ["internal/bytealg.MaxLen"], apart := false }
def FnExactSpellCountsSaid : Prop := fnExactSpellCountsRow.holds Try.pinned (OpenSpec.ofChange fnExactSpellCountsSpec)

/-- ITS FALSE NEIGHBOUR: 'it returns false'. Refute it at one input. -/
def fnExactSpellCountsWrong : ChangeSpec := { name := "fnExactSpellCounts", fn := fun _ => fun
  | [d] => { results := [.lit (.bool false)], args := [d] }
  | _ => none }
def FnExactSpellCountsWrongFalsely : Prop := fnExactSpellCountsRow.holds Try.pinned (OpenSpec.ofChange fnExactSpellCountsWrong)

/- THE SECOND FORM. 'bulk': how many values and letters a reading holds, each counted each time it is reached (what is shared counts as often as it is met; a slice's spare places count too). A statement '..UptoSaid' is the law's where the arguments, and the package variables that the reading takes, are together of bulk at most 1048576: NARROWER than '..Said'. Prove '..Said' where nothing that the law and all that it calls make is longer than what came in: it says more and counts as full. Else prove '..UptoSaid'. A law counts once. -/
mutual
def uptoBulk {H : Type} : DataW H → Nat
  | .lit (.string bytes) => bytes.length + 1
  | .lit _ => 1
  | .nil => 1
  | .ptr d => uptoBulk d + 1
  | .slice elems spare => uptoBulkAll elems + uptoBulkAll spare + 1
  | .agg parts => uptoBulkAll parts + 1
  | .iface _ d => uptoBulk d + 1
  | .map entries => uptoBulkEntries entries + 1
  | .held _ => 1
def uptoBulkAll {H : Type} : List (DataW H) → Nat
  | [] => 0
  | d :: r => uptoBulk d + uptoBulkAll r
def uptoBulkEntries {H : Type} : List (Lit × DataW H) → Nat
  | [] => 0
  | x :: r => uptoBulkEntry x + uptoBulkEntries r
def uptoBulkEntry {H : Type} : Lit × DataW H → Nat
  | (.string bytes, d) => bytes.length + uptoBulk d + 1
  | (_, d) => uptoBulk d + 1
 end
def uptoSmall : (H : Type) → List (DataW H) → Bool := fun _ ds => decide (uptoBulkAll ds ≤ 1048576)
def OpenSpec.upto (s : _root_.Go.ChangeSpec) : _root_.Go.OpenSpec := { _root_.Go.OpenSpec.ofChange s with cond := some uptoSmall }

/-- 'laws.FnFormulaValid', WHERE WHAT IT READS IS OF BULK AT MOST 1048576: true; the input reads as it did. -/
def fnFormulaValidUptoRow : OpenClaim := { program := "ytbohlhmmpoapmaa", sum := "4ff0be590a5c70a3fed1a2ed5593e00fe4e887016a81299973d4542c08756c73", func := "loop.example/gamesonstructures/laws.FnFormulaValid", spec := "fnFormulaValid", inPlace := ["internal/bytealg.IndexByteString", "internal/bytealg.IndexString"], recurses := true, named := ["internal/bytealg.MaxLen"], apart := false, narrowed := true }
def FnFormulaValidUptoSaid : Prop := fnFormulaValidUptoRow.holds Try.pinned (OpenSpec.upto fnFormulaValidSpec)

/-- 'laws.FnRankWidth', WHERE WHAT IT READS IS OF BULK AT MOST 1048576: true; the input reads as it did. -/
def fnRankWidthUptoRow : OpenClaim := { program := "ytbohlhmmpoapmaa", sum := "4ff0be590a5c70a3fed1a2ed5593e00fe4e887016a81299973d4542c08756c73", func := "loop.example/gamesonstructures/laws.FnRankWidth", spec := "fnRankWidth", inPlace := ["internal/bytealg.IndexByteString", "internal/bytealg.IndexString"], unfollowed := true, recurses := true, named := ["internal/bytealg.MaxLen"], apart := false, narrowed := true }
def FnRankWidthUptoSaid : Prop := fnRankWidthUptoRow.holds Try.pinned (OpenSpec.upto fnRankWidthSpec)

/-- 'laws.FnExactSpellCounts', WHERE WHAT IT READS IS OF BULK AT MOST 1048576: true; the input reads as it did. -/
def fnExactSpellCountsUptoRow : OpenClaim := { program := "ytbohlhmmpoapmaa", sum := "4ff0be590a5c70a3fed1a2ed5593e00fe4e887016a81299973d4542c08756c73", func := "loop.example/gamesonstructures/laws.FnExactSpellCounts", spec := "fnExactSpellCounts", inPlace := ["internal/bytealg.IndexByteString", "internal/bytealg.IndexString"], recurses := true, named := ["internal/bytealg.MaxLen"], apart := false, narrowed := true }
def FnExactSpellCountsUptoSaid : Prop := fnExactSpellCountsUptoRow.holds Try.pinned (OpenSpec.upto fnExactSpellCountsSpec)

end Rows
end Go.Proofs.Ytbohlhmmpoapmaa
