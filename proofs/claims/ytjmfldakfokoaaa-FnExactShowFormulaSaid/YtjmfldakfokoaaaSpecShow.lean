/-
  Walks of the reference's l2Show, of both ShowFormula and of the law FnExactShowFormula. Condition: texts below the reach.
-/
import Derived.Test.YtjmfldakfokoaaaShow
import Derived.Test.YtjmfldakfokoaaaSpecPush
import Derived.Test.YtjmfldakfokoaaaFree
import Derived.Deep.QuietTactic
import Derived.BigQuiet
import Derived.WalkSmall
namespace Go.Proofs.Ytjmfldakfokoaaa
open Go.RowKit
open Pl
set_option linter.unusedSimpArgs false

set_option maxHeartbeats 4000000 in
set_option maxRecDepth 100000 in
theorem l2Show_calls (n : Nat) : ∀ (f : Fm) (s : ByteArray) (k : Nat) (r : List UInt8) (m : Int) (w : World), f.size ≤ n → s.data.toList.drop k = f.text ++ r → s.size ≤ 300000 → m = k →
    Calls Try.prog 36 #[.string s, .int .i64 m] w fun e w' => e = .returned (.tuple #[.string (bs f.showL), .int .i64 (k + f.text.length : Nat)]) ∧ Below w.heap.size w w' := by
  induction n with
  | zero => intro f s k r m w hn; cases f <;> simp [Fm.size] at hn
  | succ n ih =>
    intro f s k r m w hn hd hs hm
    subst hm
    obtain ⟨hk1, hop, hle⟩ := at_op hd
    have hk := hk1
    have Ih := Lib.hid ih
    clear ih
    cases f with
    | tru =>
      have hk := hk1
      have hb : (s[k].toNat : Int) = 116 := by rw [hop]; rfl
      clear hop hd
      go_enter Try.func36, Try.ntmps36
      go_wp2_with fail
      go_ret2
      refine ⟨ret_pair (str_eq (eq_bs ?_)) (int_eq ?_), ?_⟩
      · simp [bs_data, Fm.showL, Fm.text, Qn.b]
      · simp [Fm.text] <;> omega
      · first
          | exact Below.refl _ _
          | exact below_drewN (Below.refl _ _) _
          | assumption
          | exact (hb1.trans (hb2.mono hb1.size))
    | fls =>
      have hk := hk1
      have hb : (s[k].toNat : Int) = 102 := by rw [hop]; rfl
      clear hop hd
      go_enter Try.func36, Try.ntmps36
      go_wp2_with fail
      go_ret2
      refine ⟨ret_pair (str_eq (eq_bs ?_)) (int_eq ?_), ?_⟩
      · simp [bs_data, Fm.showL, Fm.text, Qn.b]
      · simp [Fm.text] <;> omega
      · first
          | exact Below.refl _ _
          | exact below_drewN (Below.refl _ _) _
          | assumption
          | exact (hb1.trans (hb2.mono hb1.size))
    | pr v =>
      have hb : (s[k].toNat : Int) = 80 := by rw [hop]; rfl
      have hx := piece_eq (show s.data.toList.drop (k + 1) = [vb v] ++ (r) from drop_add_of (p := [80]) (by simpa [Fm.text] using hd)) (k + 2) rfl
      have hxz := piece_size (show s.data.toList.drop (k + 1) = [vb v] ++ (r) from drop_add_of (p := [80]) (by simpa [Fm.text] using hd)) (k + 2) rfl
      have Hx := Lib.hid hx
      simp only [Fm.text, List.length_cons, List.length_nil] at hle hxz
      clear hop hd hx
      go_enter Try.func36, Try.ntmps36
      go_wp2_with fail
      go_ret2
      refine ⟨ret_pair (str_eq (eq_bs ?_)) (int_eq ?_), ?_⟩
      · simp [bs_data, Fm.showL, Fm.text, Qn.b, Hx.out]
      · simp [Fm.text] <;> omega
      · first
          | exact Below.refl _ _
          | exact below_drewN (Below.refl _ _) _
          | assumption
          | exact (hb1.trans (hb2.mono hb1.size))
    | eq v u =>
      have hb : (s[k].toNat : Int) = 61 := by rw [hop]; rfl
      have hx := piece_eq (show s.data.toList.drop (k + 1) = [vb v] ++ (vb u :: r) from drop_add_of (p := [61]) (by simpa [Fm.text] using hd)) (k + 2) rfl
      have hxz := piece_size (show s.data.toList.drop (k + 1) = [vb v] ++ (vb u :: r) from drop_add_of (p := [61]) (by simpa [Fm.text] using hd)) (k + 2) rfl
      have hy := piece_eq (show s.data.toList.drop (k + 2) = [vb u] ++ (r) from drop_add_of (p := [61, vb v]) (by simpa [Fm.text] using hd)) (k + 3) rfl
      have hyz := piece_size (show s.data.toList.drop (k + 2) = [vb u] ++ (r) from drop_add_of (p := [61, vb v]) (by simpa [Fm.text] using hd)) (k + 3) rfl
      have Hx := Lib.hid hx
      have Hy := Lib.hid hy
      simp only [Fm.text, List.length_cons, List.length_nil] at hle hxz hyz
      clear hop hd hx hy
      go_enter Try.func36, Try.ntmps36
      go_upto_region 9 with (fail)
      go_quiet (fail)
      go_wp2_with fail
      go_ret2
      refine ⟨ret_pair (str_eq (eq_bs ?_)) (int_eq ?_), ?_⟩
      · simp [bs_data, Fm.showL, Fm.text, Qn.b, Hx.out, Hy.out]
      · simp [Fm.text] <;> omega
      · first
          | exact Below.refl _ _
          | exact below_drewN (Below.refl _ _) _
          | assumption
          | exact (hb1.trans (hb2.mono hb1.size))
    | rel v u =>
      have hb : (s[k].toNat : Int) = 69 := by rw [hop]; rfl
      have hx := piece_eq (show s.data.toList.drop (k + 1) = [vb v] ++ (vb u :: r) from drop_add_of (p := [69]) (by simpa [Fm.text] using hd)) (k + 2) rfl
      have hxz := piece_size (show s.data.toList.drop (k + 1) = [vb v] ++ (vb u :: r) from drop_add_of (p := [69]) (by simpa [Fm.text] using hd)) (k + 2) rfl
      have hy := piece_eq (show s.data.toList.drop (k + 2) = [vb u] ++ (r) from drop_add_of (p := [69, vb v]) (by simpa [Fm.text] using hd)) (k + 3) rfl
      have hyz := piece_size (show s.data.toList.drop (k + 2) = [vb u] ++ (r) from drop_add_of (p := [69, vb v]) (by simpa [Fm.text] using hd)) (k + 3) rfl
      have Hx := Lib.hid hx
      have Hy := Lib.hid hy
      simp only [Fm.text, List.length_cons, List.length_nil] at hle hxz hyz
      clear hop hd hx hy
      go_enter Try.func36, Try.ntmps36
      go_upto_region 11 with (fail)
      go_quiet (fail)
      go_wp2_with fail
      go_ret2
      refine ⟨ret_pair (str_eq (eq_bs ?_)) (int_eq ?_), ?_⟩
      · simp [bs_data, Fm.showL, Fm.text, Qn.b, Hx.out, Hy.out]
      · simp [Fm.text] <;> omega
      · first
          | exact Below.refl _ _
          | exact below_drewN (Below.refl _ _) _
          | assumption
          | exact (hb1.trans (hb2.mono hb1.size))
    | neg p =>
      have hb : (s[k].toNat : Int) = 33 := by rw [hop]; rfl
      have hcall := Ih.out p s (k + 1) r ((k : Int) + 1) w (by simp [Fm.size] at hn; omega) (at_one hd) hs (by omega)
      have Hcall := Lib.hid hcall
      simp only [Fm.text, List.length_cons] at hle
      have hp1 : (bs p.showL).size ≤ 6000000 := by rw [bs_size]; have := show_le p; omega
      clear hop hcall hd
      go_enter Try.func36, Try.ntmps36
      go_wp2_with (go_at_call 36; refine (Hcall.out).mono ?_; rintro e w1 ⟨rfl, hb1⟩)
      go_ret2
      refine ⟨ret_pair (str_eq (eq_bs ?_)) (int_eq ?_), ?_⟩
      · simp [bs_data, Fm.showL, Fm.text, Qn.b]
      · simp [Fm.text] <;> omega
      · first
          | exact Below.refl _ _
          | exact below_drewN (Below.refl _ _) _
          | assumption
          | exact (hb1.trans (hb2.mono hb1.size))
    | con p q =>
      have hb : (s[k].toNat : Int) = 38 := by rw [hop]; rfl
      obtain ⟨hd1, hd2⟩ := at_two hd
      have hcall := fun w => Ih.out p s (k + 1) _ ((k : Int) + 1) w (by simp [Fm.size] at hn; omega) hd1 hs (by omega)
      have hcall2 := fun w => Ih.out q s (k + 1 + p.text.length) _ ((k + 1 + p.text.length : Nat) : Int) w (by simp [Fm.size] at hn; omega) hd2 hs rfl
      have Hcall := Lib.hid hcall
      have Hcall2 := Lib.hid hcall2
      simp only [Fm.text, List.length_cons, List.length_append, List.length_nil] at hle
      have hp1 : (bs p.showL).size ≤ 6000000 := by rw [bs_size]; have := show_le p; omega
      have hq1 : (bs q.showL).size ≤ 6000000 := by rw [bs_size]; have := show_le q; omega
      clear hop hcall hcall2 hd hd1 hd2
      go_enter Try.func36, Try.ntmps36
      go_upto_region 18 with (go_at_call 36; refine (Hcall.out _).mono ?_; rintro e w1 ⟨rfl, hb1⟩)
      go_wp2_with (go_at_call 36; refine (Hcall2.out _).mono ?_; rintro e w2 ⟨rfl, hb2⟩)
      go_ret2
      refine ⟨ret_pair (str_eq (eq_bs ?_)) (int_eq ?_), ?_⟩
      · simp [bs_data, Fm.showL, Fm.text, Qn.b]
      · simp [Fm.text] <;> omega
      · first
          | exact Below.refl _ _
          | exact below_drewN (Below.refl _ _) _
          | assumption
          | exact (hb1.trans (hb2.mono hb1.size))
    | dis p q =>
      have hb : (s[k].toNat : Int) = 124 := by rw [hop]; rfl
      obtain ⟨hd1, hd2⟩ := at_two hd
      have hcall := fun w => Ih.out p s (k + 1) _ ((k : Int) + 1) w (by simp [Fm.size] at hn; omega) hd1 hs (by omega)
      have hcall2 := fun w => Ih.out q s (k + 1 + p.text.length) _ ((k + 1 + p.text.length : Nat) : Int) w (by simp [Fm.size] at hn; omega) hd2 hs rfl
      have Hcall := Lib.hid hcall
      have Hcall2 := Lib.hid hcall2
      simp only [Fm.text, List.length_cons, List.length_append, List.length_nil] at hle
      have hp1 : (bs p.showL).size ≤ 6000000 := by rw [bs_size]; have := show_le p; omega
      have hq1 : (bs q.showL).size ≤ 6000000 := by rw [bs_size]; have := show_le q; omega
      clear hop hcall hcall2 hd hd1 hd2
      go_enter Try.func36, Try.ntmps36
      go_upto_region 18 with (go_at_call 36; refine (Hcall.out _).mono ?_; rintro e w1 ⟨rfl, hb1⟩)
      go_wp2_with (go_at_call 36; refine (Hcall2.out _).mono ?_; rintro e w2 ⟨rfl, hb2⟩)
      go_ret2
      refine ⟨ret_pair (str_eq (eq_bs ?_)) (int_eq ?_), ?_⟩
      · simp [bs_data, Fm.showL, Fm.text, Qn.b]
      · simp [Fm.text] <;> omega
      · first
          | exact Below.refl _ _
          | exact below_drewN (Below.refl _ _) _
          | assumption
          | exact (hb1.trans (hb2.mono hb1.size))
    | qu q v p =>
      have hd1 := at_qu hd
      have hcall := fun w => Ih.out p s (k + 2) _ ((k : Int) + 2) w (by simp [Fm.size] at hn; omega) hd1 hs (by omega)
      have hx := piece_eq (show s.data.toList.drop k = [q.b] ++ (vb v :: p.text ++ r) by rw [hd]; simp [Fm.text]) (k + 1) rfl
      have hz := piece_size (show s.data.toList.drop k = [q.b] ++ (vb v :: p.text ++ r) by rw [hd]; simp [Fm.text]) (k + 1) rfl
      have hy := piece_eq (show s.data.toList.drop (k + 1) = [vb v] ++ (p.text ++ r) from drop_add_of (p := [q.b]) (by simpa [Fm.text] using hd)) (k + 2) rfl
      have hyz := piece_size (show s.data.toList.drop (k + 1) = [vb v] ++ (p.text ++ r) from drop_add_of (p := [q.b]) (by simpa [Fm.text] using hd)) (k + 2) rfl
      have Hcall := Lib.hid hcall
      have Hx := Lib.hid hx
      have Hy := Lib.hid hy
      simp only [Fm.text, List.length_cons, List.length_nil] at hle hz hyz
      have hp1 : (bs p.showL).size ≤ 6000000 := by rw [bs_size]; have := show_le p; omega
      clear hcall hd hd1 hx hy
      cases q with
      | A =>
        have hb : (s[k].toNat : Int) = 65 := by rw [hop]; rfl
        clear hop
        go_enter Try.func36, Try.ntmps36
        go_wp2_with (go_at_call 36; refine (Hcall.out _).mono ?_; rintro e w1 ⟨rfl, hb1⟩)
        go_ret2
        refine ⟨ret_pair (str_eq (eq_bs ?_)) (int_eq ?_), ?_⟩
        · simp [bs_data, Fm.showL, Fm.text, Qn.b, Hx.out, Hy.out]
        · simp [Fm.text] <;> omega
        · first
            | exact Below.refl _ _
            | exact below_drewN (Below.refl _ _) _
            | assumption
            | exact (hb1.trans (hb2.mono hb1.size))
      | S =>
        have hb : (s[k].toNat : Int) = 83 := by rw [hop]; rfl
        clear hop
        go_enter Try.func36, Try.ntmps36
        go_wp2_with (go_at_call 36; refine (Hcall.out _).mono ?_; rintro e w1 ⟨rfl, hb1⟩)
        go_ret2
        refine ⟨ret_pair (str_eq (eq_bs ?_)) (int_eq ?_), ?_⟩
        · simp [bs_data, Fm.showL, Fm.text, Qn.b, Hx.out, Hy.out]
        · simp [Fm.text] <;> omega
        · first
            | exact Below.refl _ _
            | exact below_drewN (Below.refl _ _) _
            | assumption
            | exact (hb1.trans (hb2.mono hb1.size))
      | c2 =>
        have hb : (s[k].toNat : Int) = 50 := by rw [hop]; rfl
        clear hop
        go_enter Try.func36, Try.ntmps36
        go_wp2_with (go_at_call 36; refine (Hcall.out _).mono ?_; rintro e w1 ⟨rfl, hb1⟩)
        go_ret2
        refine ⟨ret_pair (str_eq (eq_bs ?_)) (int_eq ?_), ?_⟩
        · simp [bs_data, Fm.showL, Fm.text, Qn.b, Hx.out, Hy.out]
        · simp [Fm.text] <;> omega
        · first
            | exact Below.refl _ _
            | exact below_drewN (Below.refl _ _) _
            | assumption
            | exact (hb1.trans (hb2.mono hb1.size))
      | c3 =>
        have hb : (s[k].toNat : Int) = 51 := by rw [hop]; rfl
        clear hop
        go_enter Try.func36, Try.ntmps36
        go_wp2_with (go_at_call 36; refine (Hcall.out _).mono ?_; rintro e w1 ⟨rfl, hb1⟩)
        go_ret2
        refine ⟨ret_pair (str_eq (eq_bs ?_)) (int_eq ?_), ?_⟩
        · simp [bs_data, Fm.showL, Fm.text, Qn.b, Hx.out, Hy.out]
        · simp [Fm.text] <;> omega
        · first
            | exact Below.refl _ _
            | exact below_drewN (Below.refl _ _) _
            | assumption
            | exact (hb1.trans (hb2.mono hb1.size))
      | c4 =>
        have hb : (s[k].toNat : Int) = 52 := by rw [hop]; rfl
        clear hop
        go_enter Try.func36, Try.ntmps36
        go_wp2_with (go_at_call 36; refine (Hcall.out _).mono ?_; rintro e w1 ⟨rfl, hb1⟩)
        go_ret2
        refine ⟨ret_pair (str_eq (eq_bs ?_)) (int_eq ?_), ?_⟩
        · simp [bs_data, Fm.showL, Fm.text, Qn.b, Hx.out, Hy.out]
        · simp [Fm.text] <;> omega
        · first
            | exact Below.refl _ _
            | exact below_drewN (Below.refl _ _) _
            | assumption
            | exact (hb1.trans (hb2.mono hb1.size))

def showT (f : Fm) : List UInt8 := f.showL

theorem ShowFormula_spec (s : ByteArray) (w : World) (hs2 : s.size ≤ maxLen) :
    Calls Try.prog 12 #[.string s] w fun e w' => e = .returned (.string (txtV s.data.toList showT)) ∧ Below w.heap.size w w' := by
  rcases fm_cases s with ⟨hb, hno⟩ | ⟨f, hb, hf, hs4, hl4⟩
  · rw [txtV_no showT hno]
    have Hb := Lib.hid hb
    clear hb hno
    go_enter Try.func12, Try.ntmps12
    go_wp2_with (go_at_call 25; refine (FormulaValid_spec s _ hs2).mono ?_; rintro e w' ⟨rfl, rfl⟩; rw [Hb.out])
    go_ret
    exact ⟨rfl, Below.refl _ _⟩
  · rw [txtV_yes showT hf (by rw [hf]; exact hl4)]
    have hcall := l2Show_calls f.size f s 0 [] 0 w (Nat.le_refl _) (by simpa using hf) (by omega) rfl
    have Hb := Lib.hid hb
    have Hcall := Lib.hid hcall
    clear hb hcall hf
    go_enter Try.func12, Try.ntmps12
    go_wp2_with (first | (go_at_call 25; refine (FormulaValid_spec s _ hs2).mono ?_; rintro e w' ⟨rfl, rfl⟩; rw [Hb.out]) | (go_at_call 36; refine (Hcall.out).mono ?_; rintro e w1 ⟨rfl, hb1⟩))
    go_ret
    exact ⟨rfl, hb1⟩

theorem ShowFormula_impl (s : ByteArray) (w : World) :
    Calls Try.prog 13 #[.string s] w fun e w' => e = .returned (.string (txtV s.data.toList showT)) ∧ Below w.heap.size w w' := by
  rcases fm_cases s with ⟨hb, hno⟩ | ⟨f, hb, hf, hs4, hl4⟩
  · rw [txtV_no showT hno]
    have Hno := Lib.hid hno
    clear hb hno
    go_enter Try.func13, Try.ntmps13
    go_wp2_with (go_at_call 34; refine (parseFormula_no s w Hno.out).mono ?_; rintro e w1 ⟨rfl, hb1⟩)
    go_ret
    exact ⟨rfl, hb1⟩
  · rw [txtV_yes showT hf (by rw [hf]; exact hl4)]
    have Hf := Lib.hid hf
    clear hb hf
    go_enter Try.func13, Try.ntmps13
    go_wp2_with (first | (go_at_call 34; refine (parseFormula_yes s f w hs4 Hf.out).mono ?_; rintro e w1 ⟨b, rfl, htr, hb1⟩; have Htr := Lib.hid htr; clear htr) | (go_at_call 37; refine (show_calls f.size f b _ _ (Nat.le_refl _) Htr.out (by omega)).mono ?_; rintro e w2 ⟨rfl, hb2⟩))
    go_ret
    exact ⟨rfl, hb1.trans (hb2.mono hb1.size)⟩

theorem FnExactShowFormula_walk (s : ByteArray) (w : World) (hs : s.size ≤ maxLen) :
    Calls Try.prog 4 #[.string s] w fun e w' => e = .returned (.bool true) ∧ Below w.heap.size w w' := by
  have Hs := Lib.hid hs
  clear hs
  by_cases h : s.size ≤ 1048576
  · go_enter Try.func4, Try.ntmps4
    go_wp2_with (first | (go_at_call 12; refine (ShowFormula_spec s _ Hs.out).mono ?_; rintro e w1 ⟨rfl, hb1⟩) | (go_at_call 13; refine (ShowFormula_impl s _).mono ?_; rintro e w2 ⟨rfl, hb2⟩))
    go_ret
    exact ⟨rfl, hb1.trans (hb2.mono hb1.size)⟩
  · go_enter Try.func4, Try.ntmps4
    go_wp2_with fail
    go_ret
    exact ⟨rfl, Below.refl _ _⟩

end Go.Proofs.Ytjmfldakfokoaaa
