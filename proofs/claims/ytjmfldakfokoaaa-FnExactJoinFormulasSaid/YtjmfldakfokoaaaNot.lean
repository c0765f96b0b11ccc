/-
  Contracts of shortFormula and NotFormula, and the walk of the law FnExactNotFormula. Condition: the text is below the reach.
-/
import Derived.Test.YtjmfldakfokoaaaForm
namespace Go.Proofs.Ytjmfldakfokoaaa
open Go.RowKit
open Pl

theorem shortFormula_no (s : ByteArray) (ok : Bool) (w : World) (h : ok = true → 4000 < s.size) :
    Calls Try.prog 39 #[.string s, .bool ok] w fun e w' => e = .returned (.tuple #[.string ⟨#[]⟩, .bool false]) ∧ w = w' := by
  cases ok with
  | false =>
    clear h
    go_enter Try.func39, Try.ntmps39
    go_wp2_with fail
    go_ret2
    exact ⟨rfl, rfl⟩
  | true =>
    have h2 := h rfl
    clear h
    go_enter Try.func39, Try.ntmps39
    go_wp2_with fail
    go_ret2
    exact ⟨rfl, rfl⟩

theorem shortFormula_yes (s : ByteArray) (w : World) (h : s.size ≤ 4000) :
    Calls Try.prog 39 #[.string s, .bool true] w fun e w' => e = .returned (.tuple #[.string s, .bool true]) ∧ w = w' := by
  go_enter Try.func39, Try.ntmps39
  go_wp2_with fail
  go_ret2
  exact ⟨rfl, rfl⟩

open Classical in
/-- what NotFormula returns -/
noncomputable def notV (l : List UInt8) : Value := if IsFm l ∧ l.length < 4000 then .tuple #[.string (bs (33 :: l)), .bool true] else .tuple #[.string ⟨#[]⟩, .bool false]

theorem notV_form (l : List UInt8) : ∃ (t : ByteArray) (b : Bool), notV l = .tuple #[.string t, .bool b] := by
  unfold notV
  split
  · exact ⟨_, _, rfl⟩
  · exact ⟨_, _, rfl⟩

end Go.Proofs.Ytjmfldakfokoaaa
