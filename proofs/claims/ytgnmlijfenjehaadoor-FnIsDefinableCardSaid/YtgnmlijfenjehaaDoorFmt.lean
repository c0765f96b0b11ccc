/-
  FormatStructure, the program's and the reference's, and equal structures. Condition: texts below the reach.
-/
import Derived.Test.YtgnmlijfenjehaaDoorOther
import Derived.Test.YtgnmlijfenjehaaDoorTurnS
namespace Go.Proofs.YtgnmlijfenjehaaDoor
open Go.RowKit
open Pl
set_option linter.unusedSimpArgs false
set_option linter.unusedVariables false

theorem fmt_no {i : Int} {s r : ByteArray} (h : okB i s r = false) : fmtV i s r = bs [] := by unfold fmtV; rw [h]; rfl
theorem fmt_yes {i : Int} {s r : ByteArray} (h : okB i s r = true) : fmtV i s r = s ++ ⟨#[58]⟩ ++ r := by unfold fmtV; rw [h]; rfl

theorem resV_form (o : Option St) : ∃ (j : Int) (S R : ByteArray) (b : Bool), resV o = .tuple #[stV j S R, .bool b] := by
  cases o with
  | none => exact ⟨_, _, _, _, rfl⟩
  | some a => exact ⟨_, _, _, _, rfl⟩

end Go.Proofs.YtgnmlijfenjehaaDoor
