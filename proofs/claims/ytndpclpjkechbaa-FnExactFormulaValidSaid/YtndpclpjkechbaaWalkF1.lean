/-
  Walks of the laws FnExactFormulaValid and FnExactNotFormula: they return true. Condition: the text is below the reach.
-/
import Derived.Test.YtndpclpjkechbaaForm
namespace Go.Proofs.Ytndpclpjkechbaa
open Go.RowKit
open Pl

theorem FnExactFormulaValid_walk (s : ByteArray) (w : World) (hs : s.size ≤ maxLen) :
    Calls Try.prog 4 #[.string s] w fun e w' => e = .returned (.bool true) ∧ Below w.heap.size w w' := by
  by_cases h : s.size ≤ 1048576
  · have Hs := Lib.hid hs
    clear hs
    go_enter Try.func4, Try.ntmps4
    go_wp2_with (first | (go_at_call 9; refine (FormulaValid_spec s _ Hs.out).mono ?_; rintro e w' ⟨rfl, rfl⟩) | (go_at_call 10; refine (FormulaValid_impl s _).mono ?_; rintro e w' ⟨rfl, hb⟩))
    go_ret
    exact ⟨rfl, hb⟩
  · go_enter Try.func4, Try.ntmps4
    go_wp2_with fail
    go_ret
    exact ⟨rfl, Below.refl _ _⟩

end Go.Proofs.Ytndpclpjkechbaa
