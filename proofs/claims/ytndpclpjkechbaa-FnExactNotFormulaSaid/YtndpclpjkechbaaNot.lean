/-
  Contracts of shortFormula and NotFormula, and the walk of the law FnExactNotFormula. Condition: the text is below the reach.
-/
import Derived.Test.YtndpclpjkechbaaForm
namespace Go.Proofs.Ytndpclpjkechbaa
open Go.RowKit
open Pl

theorem shortFormula_no (s : ByteArray) (ok : Bool) (w : World) (h : ok = true → 4000 < s.size) :
    Calls Try.prog 21 #[.string s, .bool ok] w fun e w' => e = .returned (.tuple #[.string ⟨#[]⟩, .bool false]) ∧ w = w' := by
  cases ok with
  | false =>
    clear h
    go_enter Try.func21, Try.ntmps21
    go_wp2_with fail
    go_ret2
    exact ⟨rfl, rfl⟩
  | true =>
    have h2 := h rfl
    clear h
    go_enter Try.func21, Try.ntmps21
    go_wp2_with fail
    go_ret2
    exact ⟨rfl, rfl⟩

theorem shortFormula_yes (s : ByteArray) (w : World) (h : s.size ≤ 4000) :
    Calls Try.prog 21 #[.string s, .bool true] w fun e w' => e = .returned (.tuple #[.string s, .bool true]) ∧ w = w' := by
  go_enter Try.func21, Try.ntmps21
  go_wp2_with fail
  go_ret2
  exact ⟨rfl, rfl⟩

open Classical in
/-- what NotFormula returns -/
noncomputable def notV (l : List UInt8) : Value := if IsFm l ∧ l.length < 4000 then .tuple #[.string (bs (33 :: l)), .bool true] else .tuple #[.string ⟨#[]⟩, .bool false]

set_option maxRecDepth 100000 in
theorem NotFormula_spec (s : ByteArray) (w : World) (hs : s.size ≤ 1048576) :
    Calls Try.prog 11 #[.string s] w fun e w' => e = .returned (notV s.data.toList) ∧ w = w' := by
  have hs2 : s.size ≤ maxLen := by unfold maxLen; omega
  cases hb : fmB s.data.toList with
  | false =>
    have hv : notV s.data.toList = .tuple #[.string ⟨#[]⟩, .bool false] := if_neg fun h => (fmB_false.1 hb) h.1
    rw [hv]
    have Hb := Lib.hid hb
    clear hb hv
    go_enter Try.func11, Try.ntmps11
    go_wp2_with (go_at_call 9; refine (FormulaValid_spec s _ hs2).mono ?_; rintro e w' ⟨rfl, rfl⟩; rw [Hb.out])
    go_ret2
    exact ⟨rfl, rfl⟩
  | true =>
    by_cases hl : s.size < 4000
    · have hv : notV s.data.toList = .tuple #[.string (bs (33 :: s.data.toList)), .bool true] := if_pos ⟨fmB_true.1 hb, by rw [← Lib.size_eq]; exact hl⟩
      have Hb := Lib.hid hb
      have Hv := Lib.hid hv
      clear hb hv
      go_enter Try.func11, Try.ntmps11
      go_wp2_with (go_at_call 9; refine (FormulaValid_spec s _ hs2).mono ?_; rintro e w' ⟨rfl, rfl⟩; rw [Hb.out])
      go_ret2
      rw [Hv.out]
      exact ⟨ret_pair (str_eq (append_bs _ _)) rfl, rfl⟩
    · have hv : notV s.data.toList = .tuple #[.string ⟨#[]⟩, .bool false] := if_neg fun h => hl (by rw [Lib.size_eq]; exact h.2)
      rw [hv]
      have Hb := Lib.hid hb
      clear hb hv
      go_enter Try.func11, Try.ntmps11
      go_wp2_with (go_at_call 9; refine (FormulaValid_spec s _ hs2).mono ?_; rintro e w' ⟨rfl, rfl⟩; rw [Hb.out])
      go_ret2
      exact ⟨rfl, rfl⟩

set_option maxRecDepth 100000 in
theorem NotFormula_impl (s : ByteArray) (w : World) (hs : s.size ≤ 1048576) :
    Calls Try.prog 12 #[.string s] w fun e w' => e = .returned (notV s.data.toList) ∧ Below w.heap.size w w' := by
  have hsz : (⟨#[33]⟩ ++ s : ByteArray).size = s.size + 1 := by rw [append_bs, bs_size, Lib.size_eq s]; simp
  have Hsz := Lib.hid hsz
  clear hsz
  by_cases h : IsFm s.data.toList
  · obtain ⟨hl, f, hf⟩ := h
    have hl4 : s.size ≤ 4000 := by rw [Lib.size_eq]; exact hl
    have Hf := Lib.hid hf
    by_cases h4 : s.size < 4000
    · have hv : notV s.data.toList = .tuple #[.string (bs (33 :: s.data.toList)), .bool true] := if_pos ⟨⟨hl, f, hf⟩, by rw [← Lib.size_eq]; exact h4⟩
      have Hv := Lib.hid hv
      clear hv hl hf
      go_enter Try.func12, Try.ntmps12
      go_wp2_with (first | (go_at_call 20; refine (parseFormula_yes s f w hl4 Hf.out).mono ?_; rintro e w1 ⟨b, rfl, htr, hb1⟩; clear htr) | (go_at_call 21; refine (shortFormula_yes _ _ (by rw [Hsz.out]; omega)).mono ?_; rintro e w2 ⟨rfl, rfl⟩))
      go_ret2
      rw [Hv.out]
      exact ⟨ret_pair (str_eq (append_bs _ _)) rfl, hb1⟩
    · have hv : notV s.data.toList = .tuple #[.string ⟨#[]⟩, .bool false] := if_neg fun h => h4 (by rw [Lib.size_eq]; exact h.2)
      have Hv := Lib.hid hv
      clear hv hl hf
      go_enter Try.func12, Try.ntmps12
      go_wp2_with (first | (go_at_call 20; refine (parseFormula_yes s f w hl4 Hf.out).mono ?_; rintro e w1 ⟨b, rfl, htr, hb1⟩; clear htr) | (go_at_call 21; refine (shortFormula_no _ _ _ (fun _ => by rw [Hsz.out]; omega)).mono ?_; rintro e w2 ⟨rfl, rfl⟩))
      go_ret2
      rw [Hv.out]
      exact ⟨rfl, hb1⟩
  · have hv : notV s.data.toList = .tuple #[.string ⟨#[]⟩, .bool false] := if_neg fun h2 => h h2.1
    have Hv := Lib.hid hv
    have H := Lib.hid h
    clear hv h
    go_enter Try.func12, Try.ntmps12
    go_wp2_with (first | (go_at_call 20; refine (parseFormula_no s w H.out).mono ?_; rintro e w1 ⟨rfl, hb1⟩) | (go_at_call 21; refine (shortFormula_no _ _ _ (fun h => by cases h)).mono ?_; rintro e w2 ⟨rfl, rfl⟩))
    go_ret2
    rw [Hv.out]
    exact ⟨rfl, hb1⟩

theorem notV_form (l : List UInt8) : ∃ (t : ByteArray) (b : Bool), notV l = .tuple #[.string t, .bool b] := by
  unfold notV
  split
  · exact ⟨_, _, rfl⟩
  · exact ⟨_, _, rfl⟩

theorem FnExactNotFormula_walk (s : ByteArray) (w : World) (_hs : s.size ≤ maxLen) :
    Calls Try.prog 5 #[.string s] w fun e w' => e = .returned (.bool true) ∧ Below w.heap.size w w' := by
  clear _hs
  by_cases h : s.size ≤ 1048576
  · obtain ⟨t, b, hv⟩ := notV_form s.data.toList
    have Hv := Lib.hid hv
    clear hv
    go_enter Try.func5, Try.ntmps5
    go_wp2_with (first | (go_at_call 11; refine (NotFormula_spec s _ h).mono ?_; rintro e w' ⟨rfl, rfl⟩; rw [Hv.out]) | (go_at_call 12; refine (NotFormula_impl s _ h).mono ?_; rintro e w' ⟨rfl, hb⟩; rw [Hv.out]))
    go_ret
    exact ⟨rfl, hb⟩
  · go_enter Try.func5, Try.ntmps5
    go_wp2_with fail
    go_ret
    exact ⟨rfl, Below.refl _ _⟩

end Go.Proofs.Ytndpclpjkechbaa
