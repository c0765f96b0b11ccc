/-
  Laws of the functions that the claim reaches, one after the other (packed by a program of the prover's: SpecPush, Not, PushNot, FmDraw5, Perms, Sem, Val, PtP, PtV, FmB, CpP, RelP, Orb). Conditions: texts below the reach.
-/
import Derived.Test.YteonanaihklgmaaDoorPq5
import Derived.Deep.QuietTactic
import Derived.BigQuiet
import Derived.WalkSmall
import Derived.Test.YteonanaihklgmaaDoorPq4
import Derived.Test.YteonanaihklgmaaDoorPq0
import Derived.Test.YteonanaihklgmaaDoorPq2
set_option linter.unusedSimpArgs false
set_option linter.unusedVariables false

namespace Go.Proofs.YteonanaihklgmaaDoor
open Go.RowKit
open Pl
set_option linter.unusedSimpArgs false

theorem l2Int_calls (b : Bool) (w : World) : Calls Tryd.prog 70 #[.bool b] w fun e w' => e = .returned (.int .i64 (if b then 1 else 0)) ∧ w' = w := by
  cases b with
  | true =>
    go_enter Tryd.func70, Tryd.ntmps70
    go_wp2_with fail
    go_ret
    exact ⟨rfl, rfl⟩
  | false =>
    go_enter Tryd.func70, Tryd.ntmps70
    go_wp2_with fail
    go_ret
    exact ⟨rfl, rfl⟩

theorem int_eq {k : IntKind} {a b : Int} (h : a = b) : Value.int k a = .int k b := by rw [h]

/-- a piece of a text -/
theorem piece {s : ByteArray} {k : Nat} {x r : List UInt8} (h : s.data.toList.drop k = x ++ r) (j : Nat) (hj : j = k + x.length) : (s.extract k j).data.toList = x := by
  subst hj
  rw [Lib.extract_data, h]
  simp

theorem piece_eq {s : ByteArray} {k : Nat} {x r : List UInt8} (h : s.data.toList.drop k = x ++ r) (j : Nat) (hj : j = k + x.length) : s.extract k j = bs x := eq_bs (piece h j hj)

theorem piece_size {s : ByteArray} {k : Nat} {x r : List UInt8} (h : s.data.toList.drop k = x ++ r) (j : Nat) (hj : j = k + x.length) : (s.extract k j).size = x.length := by
  rw [Lib.size_eq, piece h j hj]

set_option maxHeartbeats 4000000 in
set_option maxRecDepth 100000 in
theorem l2Push_calls (n : Nat) : ∀ (o : Bool) (f : Fm) (s : ByteArray) (k : Nat) (r : List UInt8) (m : Int) (w : World), f.size ≤ n → s.data.toList.drop k = f.text ++ r → s.size ≤ 300000 → m = k →
    Calls Tryd.prog 37 #[.string s, .int .i64 m, .bool o] w fun e w' => e = .returned (.tuple #[.string (bs (pushL o f)), .int .i64 (k + f.text.length : Nat)]) ∧ Below w.heap.size w w' := by
  induction n with
  | zero => intro o f s k r m w hn; cases f <;> simp [Fm.size] at hn
  | succ n ih =>
    intro o f s k r m w hn hd hs hm
    subst hm
    obtain ⟨hk1, hop, hle⟩ := at_op hd
    have hk := hk1
    have Ih := Lib.hid ih
    clear ih
    cases f with
    | tru =>
      have hk := hk1
      have hb : (s[k].toNat : Int) = 116 := by rw [hop]; rfl
      clear hop hd
      cases o with
      | true =>
        go_enter Tryd.func37, Tryd.ntmps37
        go_upto_region 4 with (fail)
        go_quiet ((go_at_call 70; exact Calls.quiet_of_same (l2Int_calls _ _)))
        go_wp2_with fail
        go_ret2
        refine ⟨ret_pair (str_eq (eq_bs ?_)) (int_eq ?_), ?_⟩
        · simp [bs_data, pushL, Fm.push, Fm.text, Qn.b]
        · simp [Fm.text] <;> omega
        · first
            | exact Below.refl _ _
            | exact below_drewN (Below.refl _ _) _
            | assumption
            | exact (hb1.trans (hb2.mono hb1.size))
            | exact ((below_drewN (Below.refl _ _) _).trans hb1)
            | exact ((below_drewN (Below.refl _ _) _).trans (hb1.trans (hb2.mono hb1.size)))
      | false =>
        go_enter Tryd.func37, Tryd.ntmps37
        go_upto_region 4 with (fail)
        go_quiet ((go_at_call 70; exact Calls.quiet_of_same (l2Int_calls _ _)))
        go_wp2_with fail
        go_ret2
        refine ⟨ret_pair (str_eq (eq_bs ?_)) (int_eq ?_), ?_⟩
        · simp [bs_data, pushL, Fm.push, Fm.text, Qn.b]
        · simp [Fm.text] <;> omega
        · first
            | exact Below.refl _ _
            | exact below_drewN (Below.refl _ _) _
            | assumption
            | exact (hb1.trans (hb2.mono hb1.size))
            | exact ((below_drewN (Below.refl _ _) _).trans hb1)
            | exact ((below_drewN (Below.refl _ _) _).trans (hb1.trans (hb2.mono hb1.size)))
    | fls =>
      have hk := hk1
      have hb : (s[k].toNat : Int) = 102 := by rw [hop]; rfl
      clear hop hd
      cases o with
      | true =>
        go_enter Tryd.func37, Tryd.ntmps37
        go_upto_region 4 with (fail)
        go_quiet ((go_at_call 70; exact Calls.quiet_of_same (l2Int_calls _ _)))
        go_wp2_with fail
        go_ret2
        refine ⟨ret_pair (str_eq (eq_bs ?_)) (int_eq ?_), ?_⟩
        · simp [bs_data, pushL, Fm.push, Fm.text, Qn.b]
        · simp [Fm.text] <;> omega
        · first
            | exact Below.refl _ _
            | exact below_drewN (Below.refl _ _) _
            | assumption
            | exact (hb1.trans (hb2.mono hb1.size))
            | exact ((below_drewN (Below.refl _ _) _).trans hb1)
            | exact ((below_drewN (Below.refl _ _) _).trans (hb1.trans (hb2.mono hb1.size)))
      | false =>
        go_enter Tryd.func37, Tryd.ntmps37
        go_upto_region 4 with (fail)
        go_quiet ((go_at_call 70; exact Calls.quiet_of_same (l2Int_calls _ _)))
        go_wp2_with fail
        go_ret2
        refine ⟨ret_pair (str_eq (eq_bs ?_)) (int_eq ?_), ?_⟩
        · simp [bs_data, pushL, Fm.push, Fm.text, Qn.b]
        · simp [Fm.text] <;> omega
        · first
            | exact Below.refl _ _
            | exact below_drewN (Below.refl _ _) _
            | assumption
            | exact (hb1.trans (hb2.mono hb1.size))
            | exact ((below_drewN (Below.refl _ _) _).trans hb1)
            | exact ((below_drewN (Below.refl _ _) _).trans (hb1.trans (hb2.mono hb1.size)))
    | pr v =>
      have hb : (s[k].toNat : Int) = 80 := by rw [hop]; rfl
      have hend : Calls Tryd.prog 69 #[.string s, .int .i64 k] w fun e w' => e = .returned (.int .i64 (endI s.data.toList k)) ∧ w = w' := l2End_calls s.size s k w (by omega) (by unfold maxLen; omega) (by omega)
      rw [endI_some hd, show k + (Fm.text (.pr v)).length = k + 2 from rfl] at hend
      have hx := piece_eq hd (k + 2) (by simp [Fm.text])
      have hz := piece_size hd (k + 2) (by simp [Fm.text])
      have Hend := Lib.hid hend
      have Hx := Lib.hid hx
      simp only [Fm.text, List.length_cons, List.length_nil] at hle hz
      clear hop hend hd hx
      cases o with
      | true =>
        go_enter Tryd.func37, Tryd.ntmps37
        go_wp2_with (go_at_call 69; refine (Hend.out).mono ?_; rintro e w' ⟨rfl, rfl⟩)
        go_ret2
        refine ⟨ret_pair (str_eq (eq_bs ?_)) (int_eq ?_), ?_⟩
        · simp [bs_data, pushL, Fm.push, Fm.text, Qn.b, Hx.out]
        · simp [Fm.text] <;> omega
        · first
            | exact Below.refl _ _
            | exact below_drewN (Below.refl _ _) _
            | assumption
            | exact (hb1.trans (hb2.mono hb1.size))
            | exact ((below_drewN (Below.refl _ _) _).trans hb1)
            | exact ((below_drewN (Below.refl _ _) _).trans (hb1.trans (hb2.mono hb1.size)))
      | false =>
        go_enter Tryd.func37, Tryd.ntmps37
        go_wp2_with (go_at_call 69; refine (Hend.out).mono ?_; rintro e w' ⟨rfl, rfl⟩)
        go_ret2
        refine ⟨ret_pair (str_eq (eq_bs ?_)) (int_eq ?_), ?_⟩
        · simp [bs_data, pushL, Fm.push, Fm.text, Qn.b, Hx.out]
        · simp [Fm.text] <;> omega
        · first
            | exact Below.refl _ _
            | exact below_drewN (Below.refl _ _) _
            | assumption
            | exact (hb1.trans (hb2.mono hb1.size))
            | exact ((below_drewN (Below.refl _ _) _).trans hb1)
            | exact ((below_drewN (Below.refl _ _) _).trans (hb1.trans (hb2.mono hb1.size)))
    | eq v u =>
      have hb : (s[k].toNat : Int) = 61 := by rw [hop]; rfl
      have hend : Calls Tryd.prog 69 #[.string s, .int .i64 k] w fun e w' => e = .returned (.int .i64 (endI s.data.toList k)) ∧ w = w' := l2End_calls s.size s k w (by omega) (by unfold maxLen; omega) (by omega)
      rw [endI_some hd, show k + (Fm.text (.eq v u)).length = k + 3 from rfl] at hend
      have hx := piece_eq hd (k + 3) (by simp [Fm.text])
      have hz := piece_size hd (k + 3) (by simp [Fm.text])
      have Hend := Lib.hid hend
      have Hx := Lib.hid hx
      simp only [Fm.text, List.length_cons, List.length_nil] at hle hz
      clear hop hend hd hx
      cases o with
      | true =>
        go_enter Tryd.func37, Tryd.ntmps37
        go_wp2_with (go_at_call 69; refine (Hend.out).mono ?_; rintro e w' ⟨rfl, rfl⟩)
        go_ret2
        refine ⟨ret_pair (str_eq (eq_bs ?_)) (int_eq ?_), ?_⟩
        · simp [bs_data, pushL, Fm.push, Fm.text, Qn.b, Hx.out]
        · simp [Fm.text] <;> omega
        · first
            | exact Below.refl _ _
            | exact below_drewN (Below.refl _ _) _
            | assumption
            | exact (hb1.trans (hb2.mono hb1.size))
            | exact ((below_drewN (Below.refl _ _) _).trans hb1)
            | exact ((below_drewN (Below.refl _ _) _).trans (hb1.trans (hb2.mono hb1.size)))
      | false =>
        go_enter Tryd.func37, Tryd.ntmps37
        go_wp2_with (go_at_call 69; refine (Hend.out).mono ?_; rintro e w' ⟨rfl, rfl⟩)
        go_ret2
        refine ⟨ret_pair (str_eq (eq_bs ?_)) (int_eq ?_), ?_⟩
        · simp [bs_data, pushL, Fm.push, Fm.text, Qn.b, Hx.out]
        · simp [Fm.text] <;> omega
        · first
            | exact Below.refl _ _
            | exact below_drewN (Below.refl _ _) _
            | assumption
            | exact (hb1.trans (hb2.mono hb1.size))
            | exact ((below_drewN (Below.refl _ _) _).trans hb1)
            | exact ((below_drewN (Below.refl _ _) _).trans (hb1.trans (hb2.mono hb1.size)))
    | rel v u =>
      have hb : (s[k].toNat : Int) = 69 := by rw [hop]; rfl
      have hend : Calls Tryd.prog 69 #[.string s, .int .i64 k] w fun e w' => e = .returned (.int .i64 (endI s.data.toList k)) ∧ w = w' := l2End_calls s.size s k w (by omega) (by unfold maxLen; omega) (by omega)
      rw [endI_some hd, show k + (Fm.text (.rel v u)).length = k + 3 from rfl] at hend
      have hx := piece_eq hd (k + 3) (by simp [Fm.text])
      have hz := piece_size hd (k + 3) (by simp [Fm.text])
      have Hend := Lib.hid hend
      have Hx := Lib.hid hx
      simp only [Fm.text, List.length_cons, List.length_nil] at hle hz
      clear hop hend hd hx
      cases o with
      | true =>
        go_enter Tryd.func37, Tryd.ntmps37
        go_wp2_with (go_at_call 69; refine (Hend.out).mono ?_; rintro e w' ⟨rfl, rfl⟩)
        go_ret2
        refine ⟨ret_pair (str_eq (eq_bs ?_)) (int_eq ?_), ?_⟩
        · simp [bs_data, pushL, Fm.push, Fm.text, Qn.b, Hx.out]
        · simp [Fm.text] <;> omega
        · first
            | exact Below.refl _ _
            | exact below_drewN (Below.refl _ _) _
            | assumption
            | exact (hb1.trans (hb2.mono hb1.size))
            | exact ((below_drewN (Below.refl _ _) _).trans hb1)
            | exact ((below_drewN (Below.refl _ _) _).trans (hb1.trans (hb2.mono hb1.size)))
      | false =>
        go_enter Tryd.func37, Tryd.ntmps37
        go_wp2_with (go_at_call 69; refine (Hend.out).mono ?_; rintro e w' ⟨rfl, rfl⟩)
        go_ret2
        refine ⟨ret_pair (str_eq (eq_bs ?_)) (int_eq ?_), ?_⟩
        · simp [bs_data, pushL, Fm.push, Fm.text, Qn.b, Hx.out]
        · simp [Fm.text] <;> omega
        · first
            | exact Below.refl _ _
            | exact below_drewN (Below.refl _ _) _
            | assumption
            | exact (hb1.trans (hb2.mono hb1.size))
            | exact ((below_drewN (Below.refl _ _) _).trans hb1)
            | exact ((below_drewN (Below.refl _ _) _).trans (hb1.trans (hb2.mono hb1.size)))
    | neg p =>
      have hb : (s[k].toNat : Int) = 33 := by rw [hop]; rfl
      have hcall := Ih.out (!o) p s (k + 1) r ((k : Int) + 1) w (by simp [Fm.size] at hn; omega) (at_one hd) hs (by omega)
      have Hcall := Lib.hid hcall
      simp only [Fm.text, List.length_cons] at hle
      clear hop hcall hd
      cases o with
      | true =>
        go_enter Tryd.func37, Tryd.ntmps37
        go_wp2_with (go_at_call 37; refine (Hcall.out).mono ?_; rintro e w1 ⟨rfl, hb1⟩)
        go_ret2
        refine ⟨ret_pair (str_eq (eq_bs ?_)) (int_eq ?_), ?_⟩
        · simp [bs_data, pushL, Fm.push, Fm.text, Qn.b]
        · simp [Fm.text] <;> omega
        · first
            | exact Below.refl _ _
            | exact below_drewN (Below.refl _ _) _
            | assumption
            | exact (hb1.trans (hb2.mono hb1.size))
            | exact ((below_drewN (Below.refl _ _) _).trans hb1)
            | exact ((below_drewN (Below.refl _ _) _).trans (hb1.trans (hb2.mono hb1.size)))
      | false =>
        go_enter Tryd.func37, Tryd.ntmps37
        go_wp2_with (go_at_call 37; refine (Hcall.out).mono ?_; rintro e w1 ⟨rfl, hb1⟩)
        go_ret2
        refine ⟨ret_pair (str_eq (eq_bs ?_)) (int_eq ?_), ?_⟩
        · simp [bs_data, pushL, Fm.push, Fm.text, Qn.b]
        · simp [Fm.text] <;> omega
        · first
            | exact Below.refl _ _
            | exact below_drewN (Below.refl _ _) _
            | assumption
            | exact (hb1.trans (hb2.mono hb1.size))
            | exact ((below_drewN (Below.refl _ _) _).trans hb1)
            | exact ((below_drewN (Below.refl _ _) _).trans (hb1.trans (hb2.mono hb1.size)))
    | con p q =>
      have hb : (s[k].toNat : Int) = 38 := by rw [hop]; rfl
      obtain ⟨hd1, hd2⟩ := at_two hd
      have hcall := fun w => Ih.out o p s (k + 1) _ ((k : Int) + 1) w (by simp [Fm.size] at hn; omega) hd1 hs (by omega)
      have hcall2 := fun w => Ih.out o q s (k + 1 + p.text.length) _ ((k + 1 + p.text.length : Nat) : Int) w (by simp [Fm.size] at hn; omega) hd2 hs rfl
      have hx := piece_eq (show s.data.toList.drop k = [38] ++ (p.text ++ q.text ++ r) by rw [hd]; simp [Fm.text]) (k + 1) rfl
      have hz := piece_size (show s.data.toList.drop k = [38] ++ (p.text ++ q.text ++ r) by rw [hd]; simp [Fm.text]) (k + 1) rfl
      have Hcall := Lib.hid hcall
      have Hcall2 := Lib.hid hcall2
      have Hx := Lib.hid hx
      simp only [Fm.text, List.length_cons, List.length_append, List.length_nil] at hle hz
      have hp1 : (bs (pushL o p)).size ≤ 600000 := by rw [bs_size]; have := pushL_le o p; omega
      have hq1 : (bs (pushL o q)).size ≤ 600000 := by rw [bs_size]; have := pushL_le o q; omega
      clear hop hcall hcall2 hd hd1 hd2 hx
      cases o with
      | true =>
        go_enter Tryd.func37, Tryd.ntmps37
        go_upto_region 11 with (fail)
        go_quiet ((go_at_call 70; exact Calls.quiet_of_same (l2Int_calls _ _)))
        go_upto_region 13 with (go_at_call 37; refine (Hcall.out _).mono ?_; rintro e w1 ⟨rfl, hb1⟩)
        go_wp2_with (go_at_call 37; refine (Hcall2.out _).mono ?_; rintro e w2 ⟨rfl, hb2⟩)
        go_ret2
        refine ⟨ret_pair (str_eq (eq_bs ?_)) (int_eq ?_), ?_⟩
        · simp [bs_data, pushL, Fm.push, Fm.text, Qn.b, Hx.out]
        · simp [Fm.text] <;> omega
        · first
            | exact Below.refl _ _
            | exact below_drewN (Below.refl _ _) _
            | assumption
            | exact (hb1.trans (hb2.mono hb1.size))
            | exact ((below_drewN (Below.refl _ _) _).trans hb1)
            | exact ((below_drewN (Below.refl _ _) _).trans (hb1.trans (hb2.mono hb1.size)))
      | false =>
        go_enter Tryd.func37, Tryd.ntmps37
        go_upto_region 13 with (go_at_call 37; refine (Hcall.out _).mono ?_; rintro e w1 ⟨rfl, hb1⟩)
        go_wp2_with (go_at_call 37; refine (Hcall2.out _).mono ?_; rintro e w2 ⟨rfl, hb2⟩)
        go_ret2
        refine ⟨ret_pair (str_eq (eq_bs ?_)) (int_eq ?_), ?_⟩
        · simp [bs_data, pushL, Fm.push, Fm.text, Qn.b, Hx.out]
        · simp [Fm.text] <;> omega
        · first
            | exact Below.refl _ _
            | exact below_drewN (Below.refl _ _) _
            | assumption
            | exact (hb1.trans (hb2.mono hb1.size))
            | exact ((below_drewN (Below.refl _ _) _).trans hb1)
            | exact ((below_drewN (Below.refl _ _) _).trans (hb1.trans (hb2.mono hb1.size)))
    | dis p q =>
      have hb : (s[k].toNat : Int) = 124 := by rw [hop]; rfl
      obtain ⟨hd1, hd2⟩ := at_two hd
      have hcall := fun w => Ih.out o p s (k + 1) _ ((k : Int) + 1) w (by simp [Fm.size] at hn; omega) hd1 hs (by omega)
      have hcall2 := fun w => Ih.out o q s (k + 1 + p.text.length) _ ((k + 1 + p.text.length : Nat) : Int) w (by simp [Fm.size] at hn; omega) hd2 hs rfl
      have hx := piece_eq (show s.data.toList.drop k = [124] ++ (p.text ++ q.text ++ r) by rw [hd]; simp [Fm.text]) (k + 1) rfl
      have hz := piece_size (show s.data.toList.drop k = [124] ++ (p.text ++ q.text ++ r) by rw [hd]; simp [Fm.text]) (k + 1) rfl
      have Hcall := Lib.hid hcall
      have Hcall2 := Lib.hid hcall2
      have Hx := Lib.hid hx
      simp only [Fm.text, List.length_cons, List.length_append, List.length_nil] at hle hz
      have hp1 : (bs (pushL o p)).size ≤ 600000 := by rw [bs_size]; have := pushL_le o p; omega
      have hq1 : (bs (pushL o q)).size ≤ 600000 := by rw [bs_size]; have := pushL_le o q; omega
      clear hop hcall hcall2 hd hd1 hd2 hx
      cases o with
      | true =>
        go_enter Tryd.func37, Tryd.ntmps37
        go_upto_region 11 with (fail)
        go_quiet ((go_at_call 70; exact Calls.quiet_of_same (l2Int_calls _ _)))
        go_upto_region 13 with (go_at_call 37; refine (Hcall.out _).mono ?_; rintro e w1 ⟨rfl, hb1⟩)
        go_wp2_with (go_at_call 37; refine (Hcall2.out _).mono ?_; rintro e w2 ⟨rfl, hb2⟩)
        go_ret2
        refine ⟨ret_pair (str_eq (eq_bs ?_)) (int_eq ?_), ?_⟩
        · simp [bs_data, pushL, Fm.push, Fm.text, Qn.b, Hx.out]
        · simp [Fm.text] <;> omega
        · first
            | exact Below.refl _ _
            | exact below_drewN (Below.refl _ _) _
            | assumption
            | exact (hb1.trans (hb2.mono hb1.size))
            | exact ((below_drewN (Below.refl _ _) _).trans hb1)
            | exact ((below_drewN (Below.refl _ _) _).trans (hb1.trans (hb2.mono hb1.size)))
      | false =>
        go_enter Tryd.func37, Tryd.ntmps37
        go_upto_region 13 with (go_at_call 37; refine (Hcall.out _).mono ?_; rintro e w1 ⟨rfl, hb1⟩)
        go_wp2_with (go_at_call 37; refine (Hcall2.out _).mono ?_; rintro e w2 ⟨rfl, hb2⟩)
        go_ret2
        refine ⟨ret_pair (str_eq (eq_bs ?_)) (int_eq ?_), ?_⟩
        · simp [bs_data, pushL, Fm.push, Fm.text, Qn.b, Hx.out]
        · simp [Fm.text] <;> omega
        · first
            | exact Below.refl _ _
            | exact below_drewN (Below.refl _ _) _
            | assumption
            | exact (hb1.trans (hb2.mono hb1.size))
            | exact ((below_drewN (Below.refl _ _) _).trans hb1)
            | exact ((below_drewN (Below.refl _ _) _).trans (hb1.trans (hb2.mono hb1.size)))
    | qu q v p =>
      have hd1 := at_qu hd
      have hcall := fun o w => Ih.out o p s (k + 2) _ ((k : Int) + 2) w (by simp [Fm.size] at hn; omega) hd1 hs (by omega)
      have hx := piece_eq (show s.data.toList.drop k = [q.b] ++ (vb v :: p.text ++ r) by rw [hd]; simp [Fm.text]) (k + 1) rfl
      have hz := piece_size (show s.data.toList.drop k = [q.b] ++ (vb v :: p.text ++ r) by rw [hd]; simp [Fm.text]) (k + 1) rfl
      have hy := piece_eq (show s.data.toList.drop (k + 1) = [vb v] ++ (p.text ++ r) from drop_add_of (p := [q.b]) (by simpa [Fm.text] using hd)) (k + 2) rfl
      have hyz := piece_size (show s.data.toList.drop (k + 1) = [vb v] ++ (p.text ++ r) from drop_add_of (p := [q.b]) (by simpa [Fm.text] using hd)) (k + 2) rfl
      have hu := piece_eq (show s.data.toList.drop k = [q.b, vb v] ++ (p.text ++ r) by rw [hd]; simp [Fm.text]) (k + 2) rfl
      have huz := piece_size (show s.data.toList.drop k = [q.b, vb v] ++ (p.text ++ r) by rw [hd]; simp [Fm.text]) (k + 2) rfl
      have Hcall := Lib.hid hcall
      have Hx := Lib.hid hx
      have Hy := Lib.hid hy
      have Hu := Lib.hid hu
      simp only [Fm.text, List.length_cons, List.length_nil] at hle hz hyz huz
      have hp1 : (bs (pushL o p)).size ≤ 600000 := by rw [bs_size]; have := pushL_le o p; omega
      have hp2 : (bs (pushL false p)).size ≤ 600000 := by rw [bs_size]; have := pushL_le false p; omega
      clear hcall hd hd1 hx hy hu
      cases q with
      | A =>
        have hb : (s[k].toNat : Int) = 65 := by rw [hop]; rfl
        clear hop
        cases o with
        | true =>
          go_enter Tryd.func37, Tryd.ntmps37
          go_upto_region 19 with (fail)
          go_quiet ((go_at_call 70; exact Calls.quiet_of_same (l2Int_calls _ _)))
          go_wp2_with (go_at_call 37; refine (Hcall.out _ _).mono ?_; rintro e w1 ⟨rfl, hb1⟩)
          go_ret2
          refine ⟨ret_pair (str_eq (eq_bs ?_)) (int_eq ?_), ?_⟩
          · simp [bs_data, pushL, Fm.push, Fm.text, Qn.b, Hx.out, Hy.out, Hu.out]
          · simp [Fm.text] <;> omega
          · first
              | exact Below.refl _ _
              | exact below_drewN (Below.refl _ _) _
              | assumption
              | exact (hb1.trans (hb2.mono hb1.size))
              | exact ((below_drewN (Below.refl _ _) _).trans hb1)
              | exact ((below_drewN (Below.refl _ _) _).trans (hb1.trans (hb2.mono hb1.size)))
        | false =>
          go_enter Tryd.func37, Tryd.ntmps37
          go_wp2_with (go_at_call 37; refine (Hcall.out _ _).mono ?_; rintro e w1 ⟨rfl, hb1⟩)
          go_ret2
          refine ⟨ret_pair (str_eq (eq_bs ?_)) (int_eq ?_), ?_⟩
          · simp [bs_data, pushL, Fm.push, Fm.text, Qn.b, Hx.out, Hy.out, Hu.out]
          · simp [Fm.text] <;> omega
          · first
              | exact Below.refl _ _
              | exact below_drewN (Below.refl _ _) _
              | assumption
              | exact (hb1.trans (hb2.mono hb1.size))
              | exact ((below_drewN (Below.refl _ _) _).trans hb1)
              | exact ((below_drewN (Below.refl _ _) _).trans (hb1.trans (hb2.mono hb1.size)))
      | S =>
        have hb : (s[k].toNat : Int) = 83 := by rw [hop]; rfl
        clear hop
        cases o with
        | true =>
          go_enter Tryd.func37, Tryd.ntmps37
          go_upto_region 19 with (fail)
          go_quiet ((go_at_call 70; exact Calls.quiet_of_same (l2Int_calls _ _)))
          go_wp2_with (go_at_call 37; refine (Hcall.out _ _).mono ?_; rintro e w1 ⟨rfl, hb1⟩)
          go_ret2
          refine ⟨ret_pair (str_eq (eq_bs ?_)) (int_eq ?_), ?_⟩
          · simp [bs_data, pushL, Fm.push, Fm.text, Qn.b, Hx.out, Hy.out, Hu.out]
          · simp [Fm.text] <;> omega
          · first
              | exact Below.refl _ _
              | exact below_drewN (Below.refl _ _) _
              | assumption
              | exact (hb1.trans (hb2.mono hb1.size))
              | exact ((below_drewN (Below.refl _ _) _).trans hb1)
              | exact ((below_drewN (Below.refl _ _) _).trans (hb1.trans (hb2.mono hb1.size)))
        | false =>
          go_enter Tryd.func37, Tryd.ntmps37
          go_wp2_with (go_at_call 37; refine (Hcall.out _ _).mono ?_; rintro e w1 ⟨rfl, hb1⟩)
          go_ret2
          refine ⟨ret_pair (str_eq (eq_bs ?_)) (int_eq ?_), ?_⟩
          · simp [bs_data, pushL, Fm.push, Fm.text, Qn.b, Hx.out, Hy.out, Hu.out]
          · simp [Fm.text] <;> omega
          · first
              | exact Below.refl _ _
              | exact below_drewN (Below.refl _ _) _
              | assumption
              | exact (hb1.trans (hb2.mono hb1.size))
              | exact ((below_drewN (Below.refl _ _) _).trans hb1)
              | exact ((below_drewN (Below.refl _ _) _).trans (hb1.trans (hb2.mono hb1.size)))
      | c2 =>
        have hb : (s[k].toNat : Int) = 50 := by rw [hop]; rfl
        clear hop
        cases o with
        | true =>
          go_enter Tryd.func37, Tryd.ntmps37
          go_wp2_with (go_at_call 37; refine (Hcall.out _ _).mono ?_; rintro e w1 ⟨rfl, hb1⟩)
          go_ret2
          refine ⟨ret_pair (str_eq (eq_bs ?_)) (int_eq ?_), ?_⟩
          · simp [bs_data, pushL, Fm.push, Fm.text, Qn.b, Hx.out, Hy.out, Hu.out]
          · simp [Fm.text] <;> omega
          · first
              | exact Below.refl _ _
              | exact below_drewN (Below.refl _ _) _
              | assumption
              | exact (hb1.trans (hb2.mono hb1.size))
              | exact ((below_drewN (Below.refl _ _) _).trans hb1)
              | exact ((below_drewN (Below.refl _ _) _).trans (hb1.trans (hb2.mono hb1.size)))
        | false =>
          go_enter Tryd.func37, Tryd.ntmps37
          go_wp2_with (go_at_call 37; refine (Hcall.out _ _).mono ?_; rintro e w1 ⟨rfl, hb1⟩)
          go_ret2
          refine ⟨ret_pair (str_eq (eq_bs ?_)) (int_eq ?_), ?_⟩
          · simp [bs_data, pushL, Fm.push, Fm.text, Qn.b, Hx.out, Hy.out, Hu.out]
          · simp [Fm.text] <;> omega
          · first
              | exact Below.refl _ _
              | exact below_drewN (Below.refl _ _) _
              | assumption
              | exact (hb1.trans (hb2.mono hb1.size))
              | exact ((below_drewN (Below.refl _ _) _).trans hb1)
              | exact ((below_drewN (Below.refl _ _) _).trans (hb1.trans (hb2.mono hb1.size)))
      | c3 =>
        have hb : (s[k].toNat : Int) = 51 := by rw [hop]; rfl
        clear hop
        cases o with
        | true =>
          go_enter Tryd.func37, Tryd.ntmps37
          go_wp2_with (go_at_call 37; refine (Hcall.out _ _).mono ?_; rintro e w1 ⟨rfl, hb1⟩)
          go_ret2
          refine ⟨ret_pair (str_eq (eq_bs ?_)) (int_eq ?_), ?_⟩
          · simp [bs_data, pushL, Fm.push, Fm.text, Qn.b, Hx.out, Hy.out, Hu.out]
          · simp [Fm.text] <;> omega
          · first
              | exact Below.refl _ _
              | exact below_drewN (Below.refl _ _) _
              | assumption
              | exact (hb1.trans (hb2.mono hb1.size))
              | exact ((below_drewN (Below.refl _ _) _).trans hb1)
              | exact ((below_drewN (Below.refl _ _) _).trans (hb1.trans (hb2.mono hb1.size)))
        | false =>
          go_enter Tryd.func37, Tryd.ntmps37
          go_wp2_with (go_at_call 37; refine (Hcall.out _ _).mono ?_; rintro e w1 ⟨rfl, hb1⟩)
          go_ret2
          refine ⟨ret_pair (str_eq (eq_bs ?_)) (int_eq ?_), ?_⟩
          · simp [bs_data, pushL, Fm.push, Fm.text, Qn.b, Hx.out, Hy.out, Hu.out]
          · simp [Fm.text] <;> omega
          · first
              | exact Below.refl _ _
              | exact below_drewN (Below.refl _ _) _
              | assumption
              | exact (hb1.trans (hb2.mono hb1.size))
              | exact ((below_drewN (Below.refl _ _) _).trans hb1)
              | exact ((below_drewN (Below.refl _ _) _).trans (hb1.trans (hb2.mono hb1.size)))
      | c4 =>
        have hb : (s[k].toNat : Int) = 52 := by rw [hop]; rfl
        clear hop
        cases o with
        | true =>
          go_enter Tryd.func37, Tryd.ntmps37
          go_wp2_with (go_at_call 37; refine (Hcall.out _ _).mono ?_; rintro e w1 ⟨rfl, hb1⟩)
          go_ret2
          refine ⟨ret_pair (str_eq (eq_bs ?_)) (int_eq ?_), ?_⟩
          · simp [bs_data, pushL, Fm.push, Fm.text, Qn.b, Hx.out, Hy.out, Hu.out]
          · simp [Fm.text] <;> omega
          · first
              | exact Below.refl _ _
              | exact below_drewN (Below.refl _ _) _
              | assumption
              | exact (hb1.trans (hb2.mono hb1.size))
              | exact ((below_drewN (Below.refl _ _) _).trans hb1)
              | exact ((below_drewN (Below.refl _ _) _).trans (hb1.trans (hb2.mono hb1.size)))
        | false =>
          go_enter Tryd.func37, Tryd.ntmps37
          go_wp2_with (go_at_call 37; refine (Hcall.out _ _).mono ?_; rintro e w1 ⟨rfl, hb1⟩)
          go_ret2
          refine ⟨ret_pair (str_eq (eq_bs ?_)) (int_eq ?_), ?_⟩
          · simp [bs_data, pushL, Fm.push, Fm.text, Qn.b, Hx.out, Hy.out, Hu.out]
          · simp [Fm.text] <;> omega
          · first
              | exact Below.refl _ _
              | exact below_drewN (Below.refl _ _) _
              | assumption
              | exact (hb1.trans (hb2.mono hb1.size))
              | exact ((below_drewN (Below.refl _ _) _).trans hb1)
              | exact ((below_drewN (Below.refl _ _) _).trans (hb1.trans (hb2.mono hb1.size)))

end Go.Proofs.YteonanaihklgmaaDoor

namespace Go.Proofs.YteonanaihklgmaaDoor
open Go.RowKit
open Pl

theorem shortFormula_no (s : ByteArray) (ok : Bool) (w : World) (h : ok = true → 4000 < s.size) :
    Calls Tryd.prog 34 #[.string s, .bool ok] w fun e w' => e = .returned (.tuple #[.string ⟨#[]⟩, .bool false]) ∧ w = w' := by
  cases ok with
  | false =>
    clear h
    go_enter Tryd.func34, Tryd.ntmps34
    go_wp2_with fail
    go_ret2
    exact ⟨rfl, rfl⟩
  | true =>
    have h2 := h rfl
    clear h
    go_enter Tryd.func34, Tryd.ntmps34
    go_wp2_with fail
    go_ret2
    exact ⟨rfl, rfl⟩

theorem shortFormula_yes (s : ByteArray) (w : World) (h : s.size ≤ 4000) :
    Calls Tryd.prog 34 #[.string s, .bool true] w fun e w' => e = .returned (.tuple #[.string s, .bool true]) ∧ w = w' := by
  go_enter Tryd.func34, Tryd.ntmps34
  go_wp2_with fail
  go_ret2
  exact ⟨rfl, rfl⟩

open Classical in
/-- what NotFormula returns -/
noncomputable def notV (l : List UInt8) : Value := if IsFm l ∧ l.length < 4000 then .tuple #[.string (bs (33 :: l)), .bool true] else .tuple #[.string ⟨#[]⟩, .bool false]

set_option maxRecDepth 100000 in
theorem NotFormula_spec (s : ByteArray) (w : World) (hs : s.size ≤ 1048576) :
    Calls Tryd.prog 24 #[.string s] w fun e w' => e = .returned (notV s.data.toList) ∧ w = w' := by
  have hs2 : s.size ≤ maxLen := by unfold maxLen; omega
  cases hb : fmB s.data.toList with
  | false =>
    have hv : notV s.data.toList = .tuple #[.string ⟨#[]⟩, .bool false] := if_neg fun h => (fmB_false.1 hb) h.1
    rw [hv]
    have Hb := Lib.hid hb
    clear hb hv
    go_enter Tryd.func24, Tryd.ntmps24
    go_wp2_with (go_at_call 36; refine (FormulaValid_spec s _ hs2).mono ?_; rintro e w' ⟨rfl, rfl⟩; rw [Hb.out])
    go_ret2
    exact ⟨rfl, rfl⟩
  | true =>
    by_cases hl : s.size < 4000
    · have hv : notV s.data.toList = .tuple #[.string (bs (33 :: s.data.toList)), .bool true] := if_pos ⟨fmB_true.1 hb, by rw [← Lib.size_eq]; exact hl⟩
      have Hb := Lib.hid hb
      have Hv := Lib.hid hv
      clear hb hv
      go_enter Tryd.func24, Tryd.ntmps24
      go_wp2_with (go_at_call 36; refine (FormulaValid_spec s _ hs2).mono ?_; rintro e w' ⟨rfl, rfl⟩; rw [Hb.out])
      go_ret2
      rw [Hv.out]
      exact ⟨ret_pair (str_eq (append_bs _ _)) rfl, rfl⟩
    · have hv : notV s.data.toList = .tuple #[.string ⟨#[]⟩, .bool false] := if_neg fun h => hl (by rw [Lib.size_eq]; exact h.2)
      rw [hv]
      have Hb := Lib.hid hb
      clear hb hv
      go_enter Tryd.func24, Tryd.ntmps24
      go_wp2_with (go_at_call 36; refine (FormulaValid_spec s _ hs2).mono ?_; rintro e w' ⟨rfl, rfl⟩; rw [Hb.out])
      go_ret2
      exact ⟨rfl, rfl⟩

set_option maxRecDepth 100000 in
theorem NotFormula_impl (s : ByteArray) (w : World) (hs : s.size ≤ 1048576) :
    Calls Tryd.prog 23 #[.string s] w fun e w' => e = .returned (notV s.data.toList) ∧ Below w.heap.size w w' := by
  have hsz : (⟨#[33]⟩ ++ s : ByteArray).size = s.size + 1 := by rw [append_bs, bs_size, Lib.size_eq s]; simp
  have Hsz := Lib.hid hsz
  clear hsz
  by_cases h : IsFm s.data.toList
  · obtain ⟨hl, f, hf⟩ := h
    have hl4 : s.size ≤ 4000 := by rw [Lib.size_eq]; exact hl
    have Hf := Lib.hid hf
    by_cases h4 : s.size < 4000
    · have hv : notV s.data.toList = .tuple #[.string (bs (33 :: s.data.toList)), .bool true] := if_pos ⟨⟨hl, f, hf⟩, by rw [← Lib.size_eq]; exact h4⟩
      have Hv := Lib.hid hv
      clear hv hl hf
      go_enter Tryd.func23, Tryd.ntmps23
      go_wp2_with (first | (go_at_call 33; refine (parseFormula_yes s f w hl4 Hf.out).mono ?_; rintro e w1 ⟨b, rfl, htr, hb1⟩; clear htr) | (go_at_call 34; refine (shortFormula_yes _ _ (by rw [Hsz.out]; omega)).mono ?_; rintro e w2 ⟨rfl, rfl⟩))
      go_ret2
      rw [Hv.out]
      exact ⟨ret_pair (str_eq (append_bs _ _)) rfl, hb1⟩
    · have hv : notV s.data.toList = .tuple #[.string ⟨#[]⟩, .bool false] := if_neg fun h => h4 (by rw [Lib.size_eq]; exact h.2)
      have Hv := Lib.hid hv
      clear hv hl hf
      go_enter Tryd.func23, Tryd.ntmps23
      go_wp2_with (first | (go_at_call 33; refine (parseFormula_yes s f w hl4 Hf.out).mono ?_; rintro e w1 ⟨b, rfl, htr, hb1⟩; clear htr) | (go_at_call 34; refine (shortFormula_no _ _ _ (fun _ => by rw [Hsz.out]; omega)).mono ?_; rintro e w2 ⟨rfl, rfl⟩))
      go_ret2
      rw [Hv.out]
      exact ⟨rfl, hb1⟩
  · have hv : notV s.data.toList = .tuple #[.string ⟨#[]⟩, .bool false] := if_neg fun h2 => h h2.1
    have Hv := Lib.hid hv
    have H := Lib.hid h
    clear hv h
    go_enter Tryd.func23, Tryd.ntmps23
    go_wp2_with (first | (go_at_call 33; refine (parseFormula_no s w H.out).mono ?_; rintro e w1 ⟨rfl, hb1⟩) | (go_at_call 34; refine (shortFormula_no _ _ _ (fun h => by cases h)).mono ?_; rintro e w2 ⟨rfl, rfl⟩))
    go_ret2
    rw [Hv.out]
    exact ⟨rfl, hb1⟩

theorem notV_form (l : List UInt8) : ∃ (t : ByteArray) (b : Bool), notV l = .tuple #[.string t, .bool b] := by
  unfold notV
  split
  · exact ⟨_, _, rfl⟩
  · exact ⟨_, _, rfl⟩

end Go.Proofs.YteonanaihklgmaaDoor

namespace Go.Proofs.YteonanaihklgmaaDoor
open Go.RowKit
open Pl
set_option linter.unusedSimpArgs false

/-- a text and whether there is one, for a text that is a formula; else none -/
noncomputable def optV (l : List UInt8) (g : Fm → Option (List UInt8)) : ByteArray × Bool :=
  match parse l with
  | some (f, []) => if l.length ≤ 4000 then (match g f with | some t => if t.length ≤ 4000 then (bs t, true) else (bs [], false) | none => (bs [], false)) else (bs [], false)
  | _ => (bs [], false)

theorem optV_no {l : List UInt8} (g : Fm → Option (List UInt8)) (h : ¬ IsFm l) : optV l g = (bs [], false) := by
  unfold optV
  cases hp : parse l with
  | none => rfl
  | some x =>
    obtain ⟨f, r⟩ := x
    cases r with
    | nil =>
      have := parse_some.1 hp
      by_cases hl : l.length ≤ 4000
      · exact absurd ⟨hl, f, by simpa using this⟩ h
      · simp [hl]
    | cons a r => rfl

theorem optV_fm {l : List UInt8} {f : Fm} (g : Fm → Option (List UInt8)) (h : l = f.text) (hl : l.length ≤ 4000) :
    optV l g = match g f with | some t => if t.length ≤ 4000 then (bs t, true) else (bs [], false) | none => (bs [], false) := by
  unfold optV
  rw [parse_some.2 (show l = f.text ++ [] by rw [h]; simp)]
  simp [hl]

theorem optV_yes {l : List UInt8} {f : Fm} {t : List UInt8} (g : Fm → Option (List UInt8)) (h : l = f.text) (hl : l.length ≤ 4000) (hg : g f = some t) (ht : t.length ≤ 4000) : optV l g = (bs t, true) := by
  rw [optV_fm g h hl, hg]; simp [ht]
theorem optV_long {l : List UInt8} {f : Fm} {t : List UInt8} (g : Fm → Option (List UInt8)) (h : l = f.text) (hl : l.length ≤ 4000) (hg : g f = some t) (ht : 4000 < t.length) : optV l g = (bs [], false) := by
  rw [optV_fm g h hl, hg]; simp; omega
theorem optV_none {l : List UInt8} {f : Fm} (g : Fm → Option (List UInt8)) (h : l = f.text) (hl : l.length ≤ 4000) (hg : g f = none) : optV l g = (bs [], false) := by
  rw [optV_fm g h hl, hg]

def pairV (x : ByteArray × Bool) : Value := .tuple #[.string x.1, .bool x.2]

def pushO (f : Fm) : Option (List UInt8) := some (pushL false f)


set_option maxRecDepth 100000 in
theorem PushNot_spec (s : ByteArray) (w : World) (hs2 : s.size ≤ maxLen) :
    Calls Tryd.prog 9 #[.string s] w fun e w' => e = .returned (.tuple #[.string (optV s.data.toList pushO).1, .bool (optV s.data.toList pushO).2]) ∧ Below w.heap.size w w' := by
  rcases fm_cases s with ⟨hb, hno⟩ | ⟨f, hb, hf, hs4, hl4⟩
  · rw [optV_no pushO hno]
    have Hb := Lib.hid hb
    clear hb hno
    go_enter Tryd.func9, Tryd.ntmps9
    go_wp2_with (go_at_call 36; refine (FormulaValid_spec s _ hs2).mono ?_; rintro e w' ⟨rfl, rfl⟩; rw [Hb.out])
    go_ret2
    exact ⟨rfl, Below.refl _ _⟩
  · have hcall := l2Push_calls f.size false f s 0 [] 0 w (Nat.le_refl _) (by simpa using hf) (by omega) rfl
    have Hb := Lib.hid hb
    have Hcall := Lib.hid hcall
    clear hb hcall
    have hsz : (bs (pushL false f)).size = (pushL false f).length := bs_size _
    have hle := pushL_le false f
    by_cases hlen : (pushL false f).length ≤ 4000
    · rw [optV_yes pushO hf (by rw [hf]; exact hl4) rfl hlen]
      have hsz2 : (bs (pushL false f)).size ≤ 4000 := by omega
      clear hf hsz hlen
      go_enter Tryd.func9, Tryd.ntmps9
      go_wp2_with (first | (go_at_call 36; refine (FormulaValid_spec s _ hs2).mono ?_; rintro e w' ⟨rfl, rfl⟩; rw [Hb.out]) | (go_at_call 37; refine (Hcall.out).mono ?_; rintro e w1 ⟨rfl, hb1⟩))
      go_ret2
      exact ⟨rfl, hb1⟩
    · rw [optV_long pushO hf (by rw [hf]; exact hl4) rfl (by omega)]
      have hsz2 : 4000 < (bs (pushL false f)).size := by omega
      clear hf hsz hlen
      go_enter Tryd.func9, Tryd.ntmps9
      go_wp2_with (first | (go_at_call 36; refine (FormulaValid_spec s _ hs2).mono ?_; rintro e w' ⟨rfl, rfl⟩; rw [Hb.out]) | (go_at_call 37; refine (Hcall.out).mono ?_; rintro e w1 ⟨rfl, hb1⟩))
      go_ret2
      exact ⟨rfl, hb1⟩

set_option maxRecDepth 100000 in
theorem PushNot_impl (s : ByteArray) (w : World) :
    Calls Tryd.prog 8 #[.string s] w fun e w' => e = .returned (.tuple #[.string (optV s.data.toList pushO).1, .bool (optV s.data.toList pushO).2]) ∧ Below w.heap.size w w' := by
  rcases fm_cases s with ⟨hb, hno⟩ | ⟨f, hb, hf, hs4, hl4⟩
  · rw [optV_no pushO hno]
    have Hno := Lib.hid hno
    clear hb hno
    go_enter Tryd.func8, Tryd.ntmps8
    go_wp2_with (go_at_call 33; refine (parseFormula_no s w Hno.out).mono ?_; rintro e w1 ⟨rfl, hb1⟩)
    go_ret2
    exact ⟨rfl, hb1⟩
  · have hsz : (bs (pushL false f)).size = (pushL false f).length := bs_size _
    have hle := pushL_le false f
    have Hf := Lib.hid hf
    by_cases hlen : (pushL false f).length ≤ 4000
    · rw [optV_yes pushO hf (by rw [hf]; exact hl4) rfl hlen]
      have hsz2 : (bs (pushL false f)).size ≤ 4000 := by omega
      clear hb hf hsz hlen
      go_enter Tryd.func8, Tryd.ntmps8
      go_wp2_with (first | (go_at_call 33; refine (parseFormula_yes s f w hs4 Hf.out).mono ?_; rintro e w1 ⟨b, rfl, htr, hb1⟩; have Htr := Lib.hid htr; clear htr) | (go_at_call 35; refine (push_calls f.size false f b _ _ (Nat.le_refl _) Htr.out (by omega)).mono ?_; rintro e w2 ⟨rfl, hb2⟩) | (go_at_call 34; refine (shortFormula_yes _ _ hsz2).mono ?_; rintro e w3 ⟨rfl, rfl⟩))
      go_ret2
      exact ⟨rfl, hb1.trans (hb2.mono hb1.size)⟩
    · rw [optV_long pushO hf (by rw [hf]; exact hl4) rfl (by omega)]
      have hsz2 : 4000 < (bs (pushL false f)).size := by omega
      clear hb hf hsz hlen
      go_enter Tryd.func8, Tryd.ntmps8
      go_wp2_with (first | (go_at_call 33; refine (parseFormula_yes s f w hs4 Hf.out).mono ?_; rintro e w1 ⟨b, rfl, htr, hb1⟩; have Htr := Lib.hid htr; clear htr) | (go_at_call 35; refine (push_calls f.size false f b _ _ (Nat.le_refl _) Htr.out (by omega)).mono ?_; rintro e w2 ⟨rfl, hb2⟩) | (go_at_call 34; refine (shortFormula_no _ _ _ (fun _ => hsz2)).mono ?_; rintro e w3 ⟨rfl, rfl⟩))
      go_ret2
      exact ⟨rfl, hb1.trans (hb2.mono hb1.size)⟩


end Go.Proofs.YteonanaihklgmaaDoor

namespace Go.Proofs.YteonanaihklgmaaDoor
open Go.RowKit
open Pl
set_option linter.unusedSimpArgs false
set_option linter.unusedVariables false

attribute [local go_sem ↓] Go.wp_at_zero Go.wp_at_succ

/-- a structure and two texts that are drawn -/
def StFG (e : Ending) : Prop := ∃ (i : Int) (s r t t2 : ByteArray), e = .returned (.tuple #[stV i s r, .string t, .string t2]) ∧ s.size ≤ 100 ∧ r.size ≤ 100 ∧ t.size ≤ 72 ∧ t2.size ≤ 144
/-- a structure and a text that are drawn -/
def StF (e : Ending) : Prop := ∃ (i : Int) (s r t : ByteArray), e = .returned (.tuple #[stV i s r, .string t]) ∧ s.size ≤ 100 ∧ r.size ≤ 100 ∧ t.size ≤ 72
theorem pushed_small (t : ByteArray) (ht : t.size ≤ 72) : (optV t.data.toList pushO).1.size ≤ 144 := by
  rcases fm_cases t with ⟨_, h⟩ | ⟨f, hb, hf, hs, hl⟩
  · rw [optV_no _ h, bs_size]; simp
  · have hp := pushL_le false f
    rw [← hf, ← Lib.size_eq] at hp
    rw [optV_yes (t := pushL false f) pushO hf (by rw [hf]; exact hl) rfl (by omega), bs_size]
    omega

set_option maxHeartbeats 8000000 in
set_option maxRecDepth 100000 in
theorem DrawSameIn_calls (A : Option Addr) (n cap : Nat) (w : World) (h : ByRow w A n) (hn : n ≤ 1048576) (hc : n ≤ cap) (hm : cap ≤ maxLen) :
    Calls Tryd.prog 16 #[.slice A n cap] w fun e w' => StFG e ∧ Below w.heap.size w w' := by
  have Ho := Lib.hid (fun W h => l15Open_calls A n cap W h hn hc hm)
  have H0 := Lib.hid (h.call ((Below.refl w.heap.size w).alloc (Nat.le_refl _) (.cells #[.int .i64 0, .string (bs []), .string (bs [])] 27)))
  have X0 := Lib.hid (Bx.new w 27 #[.int .i64 0, .string (bs []), .string (bs [])])
  have B0 := Lib.hid ((Below.refl w.heap.size w).alloc (Nat.le_refl _) (.cells #[.int .i64 0, .string (bs []), .string (bs [])] 27))
  clear h hn hc hm
  go_enter Tryd.func16, Tryd.ntmps16
  go_wp2_with fail
  refine (Ho.out _ H0.out).mono ?_
  rintro e w1 ⟨⟨A', n', cap', rfl, hr⟩, hb⟩
  have F1 := Lib.hid (Fr.new (rb := w.heap.size + 1) B0.out hr hb (by simp))
  have X1 := Lib.hid (X0.out.call hb)
  have hws := F1.out.rd.box.lt
  clear hr hb
  have Hpk := Lib.hid (show ∀ (k : Int) (q : Nat) (V : World), k ≤ 1000 → q ≤ 1000000000000 → Rd V (w.heap.size + 1) A' n' cap' q → Calls Tryd.prog 44 #[.pointer (some ⟨(w.heap.size + 1), 0, none⟩), .int .i64 k] V fun e w' => PickP k e ∧ Rd w' (w.heap.size + 1) A' n' cap' (q + 1) ∧ V.grownBy w' (some (w.heap.size + 1)) from fun k q V hk hq hr => pick_calls (w.heap.size + 1) A' n' cap' q k V hr (by omega) (by omega))
  have Hl3 := Lib.hid (fun (q : Nat) (W : World) (hq : q ≤ 100000) (h : Rd W (w.heap.size + 1) A' n' cap' q) => l3Small_calls (w.heap.size + 1) A' n' cap' q (⟨#[97, 98]⟩ : ByteArray) (by decide) (by decide) W h hq)
  go_wp2_with fail
  refine (Hl3.out _ _ (by omega) F1.out.rd).mono ?_
  rintro e wa ⟨⟨i, s, r, t, p5, rfl, hs, hr, ht, hp5, hrd⟩, hg⟩
  have F5 := Lib.hid (F1.out.step hrd hg)
  have X5 := Lib.hid (X1.out.grown' hg (by first | (simp; done) | (simp; omega)))
  clear hrd hg
  have HA := Lib.hid (show w.heap.size + 1 < wa.heap.size from F5.out.rd.box.lt)
  have F6 := Lib.hid (F5.out.alloc (.cells #[.int .i64 i, .string s, .string r] 27))
  have X6 := Lib.hid (X5.out.alloc (.cells #[.int .i64 i, .string s, .string r] 27))
  have Y6 := Lib.hid (Bx.new wa 27 #[.int .i64 i, .string s, .string r])
  go_wp2_with fail
  refine (Hpk.out 3 _ _ (by omega) (by omega) F6.out.rd).mono ?_
  rintro e w9 ⟨⟨m, rfl, _, _, _⟩, hrd, hg⟩
  have F9 := Lib.hid (F6.out.step hrd hg)
  have X9 := Lib.hid (X6.out.grown' hg (by first | (simp; done) | (simp; omega)))
  have Y9 := Lib.hid (Y6.out.grown' hg (by have := HA.out; simp; omega))
  clear hrd hg
  have HB := Lib.hid (show wa.heap.size < w9.heap.size from Y9.out.lt)
  by_cases e0 : m = 0
  · subst e0
    go_wp2_with fail
    refine (PushNot_spec t _ (by unfold maxLen; omega)).mono ?_
    rintro e w10 ⟨rfl, hz⟩
    have hpt := pushed_small t ht
    obtain ⟨g, hgg⟩ : ∃ g, g = (optV t.data.toList pushO).1 := ⟨_, rfl⟩
    obtain ⟨b, hbb⟩ : ∃ b, b = (optV t.data.toList pushO).2 := ⟨_, rfl⟩
    rw [← hgg] at hpt ⊢
    rw [← hbb]
    clear hgg hbb
    have F10 := Lib.hid (F9.out.call hz)
    have X10 := Lib.hid (X9.out.call hz)
    have Y10 := Lib.hid (Y9.out.call hz)
    clear hz
    cases b with
    | true =>
      obtain ⟨c0, c1, c2⟩ := box_load X10.out
      obtain ⟨m0, m1, m2⟩ := box_load Y10.out
      have f0 := X10.out.free 0
      have f1 := X10.out.free 1
      have f2 := X10.out.free 2
      have E1 := Lib.hid (below_puts F10.out.bel (Nat.le_refl _) (.int .i64 i) (.string s) (.string r))
      obtain ⟨q0, q1, q2⟩ := box_load (X10.out.puts (.int .i64 i) (.string s) (.string r))
      go_wp2_with fail
      refine bodyPost_ret (v := .tuple #[stV i s r, .string t, .string (g)]) ?_ rfl ⟨⟨i, s, r, t, _, rfl, hs, hr, ht, hpt⟩, E1.out⟩
      simp [results, Tryd.results16, go_sem, q0, q1, q2]
    | false =>
      clear F9 X9 Y9 HB
      have F9 := F10
      have X9 := X10
      have Y9 := Y10
      clear F10 X10 Y10
      go_wp2_with fail
      refine (Hl3.out _ _ (by omega) F9.out.rd).mono ?_
      rintro e wc ⟨⟨i2, s2, r2, t2, p8, rfl, _, _, ht2, hp8, hrd⟩, hg⟩
      have F11 := Lib.hid (F9.out.step hrd hg)
      have X11 := Lib.hid (X9.out.grown' hg (by first | (simp; done) | (simp; omega)))
      have Y11 := Lib.hid (Y9.out.grown' hg (by have := HA.out; simp; omega))
      clear hrd hg
      have HC := Lib.hid (show w.heap.size + 1 < wc.heap.size from F11.out.rd.box.lt)
      have HAC := Lib.hid (show wa.heap.size < wc.heap.size from Y11.out.lt)
      have F12 := Lib.hid (F11.out.alloc (.cells #[.int .i64 i2, .string s2, .string r2] 27))
      have X12 := Lib.hid (X11.out.alloc (.cells #[.int .i64 i2, .string s2, .string r2] 27))
      have Y12 := Lib.hid (Y11.out.alloc (.cells #[.int .i64 i2, .string s2, .string r2] 27))
      obtain ⟨c0, c1, c2⟩ := box_load X12.out
      obtain ⟨m0, m1, m2⟩ := box_load Y12.out
      have f0 := X12.out.free 0
      have f1 := X12.out.free 1
      have f2 := X12.out.free 2
      have E1 := Lib.hid (below_puts F12.out.bel (Nat.le_refl _) (.int .i64 i) (.string s) (.string r))
      obtain ⟨q0, q1, q2⟩ := box_load (X12.out.puts (.int .i64 i) (.string s) (.string r))
      go_wp2_with fail
      refine bodyPost_ret (v := .tuple #[stV i s r, .string t, .string (t2)]) ?_ rfl ⟨⟨i, s, r, t, _, rfl, hs, hr, ht, by omega⟩, E1.out⟩
      simp [results, Tryd.results16, go_sem, q0, q1, q2]
  · have f0 : (m == 0) = false := by rw [beq_eq_false_iff_ne]; exact e0
    go_wp2_with fail
    refine (Hl3.out _ _ (by omega) F9.out.rd).mono ?_
    rintro e wc ⟨⟨i2, s2, r2, t2, p8, rfl, _, _, ht2, hp8, hrd⟩, hg⟩
    have F11 := Lib.hid (F9.out.step hrd hg)
    have X11 := Lib.hid (X9.out.grown' hg (by first | (simp; done) | (simp; omega)))
    have Y11 := Lib.hid (Y9.out.grown' hg (by have := HA.out; simp; omega))
    clear hrd hg
    have HC := Lib.hid (show w.heap.size + 1 < wc.heap.size from F11.out.rd.box.lt)
    have HAC := Lib.hid (show wa.heap.size < wc.heap.size from Y11.out.lt)
    have F12 := Lib.hid (F11.out.alloc (.cells #[.int .i64 i2, .string s2, .string r2] 27))
    have X12 := Lib.hid (X11.out.alloc (.cells #[.int .i64 i2, .string s2, .string r2] 27))
    have Y12 := Lib.hid (Y11.out.alloc (.cells #[.int .i64 i2, .string s2, .string r2] 27))
    obtain ⟨c0, c1, c2⟩ := box_load X12.out
    obtain ⟨m0, m1, m2⟩ := box_load Y12.out
    have f0 := X12.out.free 0
    have f1 := X12.out.free 1
    have f2 := X12.out.free 2
    have E1 := Lib.hid (below_puts F12.out.bel (Nat.le_refl _) (.int .i64 i) (.string s) (.string r))
    obtain ⟨q0, q1, q2⟩ := box_load (X12.out.puts (.int .i64 i) (.string s) (.string r))
    go_wp2_with fail
    refine bodyPost_ret (v := .tuple #[stV i s r, .string t, .string (t2)]) ?_ rfl ⟨⟨i, s, r, t, _, rfl, hs, hr, ht, by omega⟩, E1.out⟩
    simp [results, Tryd.results16, go_sem, q0, q1, q2]


set_option maxHeartbeats 8000000 in
set_option maxRecDepth 100000 in
theorem DrawDefinedRel_calls (A : Option Addr) (n cap : Nat) (w : World) (h : ByRow w A n) (hn : n ≤ 1048576) (hc : n ≤ cap) (hm : cap ≤ maxLen) :
    Calls Tryd.prog 25 #[.slice A n cap] w fun e w' => StF e ∧ Below w.heap.size w w' := by
  have Ho := Lib.hid (fun W h => l15Open_calls A n cap W h hn hc hm)
  have H0 := Lib.hid (h.call ((Below.refl w.heap.size w).alloc (Nat.le_refl _) (.cells #[.int .i64 0, .string (bs []), .string (bs [])] 27)))
  have X0 := Lib.hid (Bx.new w 27 #[.int .i64 0, .string (bs []), .string (bs [])])
  have B0 := Lib.hid ((Below.refl w.heap.size w).alloc (Nat.le_refl _) (.cells #[.int .i64 0, .string (bs []), .string (bs [])] 27))
  clear h hn hc hm
  go_enter Tryd.func25, Tryd.ntmps25
  go_wp2_with fail
  refine (Ho.out _ H0.out).mono ?_
  rintro e w1 ⟨⟨A', n', cap', rfl, hr⟩, hb⟩
  have F1 := Lib.hid (Fr.new (rb := w.heap.size + 1) B0.out hr hb (by simp))
  have X1 := Lib.hid (X0.out.call hb)
  have hws := F1.out.rd.box.lt
  clear hr hb
  have Hl3 := Lib.hid (fun (q : Nat) (W : World) (hq : q ≤ 100000) (h : Rd W (w.heap.size + 1) A' n' cap' q) => l3Small_calls (w.heap.size + 1) A' n' cap' q (⟨#[97, 98]⟩ : ByteArray) (by decide) (by decide) W h hq)
  go_wp2_with fail
  refine (Hl3.out _ _ (by omega) F1.out.rd).mono ?_
  rintro e wa ⟨⟨i, s, r, t, p5, rfl, hs, hr, ht, hp5, hrd⟩, hg⟩
  have F5 := Lib.hid (F1.out.step hrd hg)
  have X5 := Lib.hid (X1.out.grown' hg (by first | (simp; done) | (simp; omega)))
  clear hrd hg
  obtain ⟨c0, c1, c2⟩ := box_load X5.out
  have f0 := X5.out.free 0
  have f1 := X5.out.free 1
  have f2 := X5.out.free 2
  have E1 := Lib.hid (below_puts F5.out.bel (Nat.le_refl _) (.int .i64 i) (.string s) (.string r))
  obtain ⟨q0, q1, q2⟩ := box_load (X5.out.puts (.int .i64 i) (.string s) (.string r))
  go_wp2_with fail
  refine bodyPost_ret (v := .tuple #[stV i s r, .string t]) ?_ rfl ⟨⟨i, s, r, t, rfl, hs, hr, ht⟩, E1.out⟩
  simp [results, Tryd.results25, go_sem, q0, q1, q2]

end Go.Proofs.YteonanaihklgmaaDoor

namespace Go.Proofs.YteonanaihklgmaaDoor
namespace Pl
set_option linter.unusedVariables false

theorem nodup_len_le {α : Type} [DecidableEq α] : ∀ (l m : List α), l.Nodup → (∀ x ∈ l, x ∈ m) → l.length ≤ m.length := by
  intro l
  induction l with
  | nil => intro m _ _; simp
  | cons x l ih =>
    intro m hnd hs
    obtain ⟨h1, h2⟩ := List.nodup_cons.1 hnd
    have hx := hs x (by simp)
    have h3 := ih (m.erase x) h2 (fun y hy => (List.mem_erase_of_ne (by rintro rfl; exact h1 hy)).2 (hs y (by simp [hy])))
    rw [List.length_erase_of_mem hx] at h3
    have : 0 < m.length := List.length_pos_of_mem hx
    simp only [List.length_cons]
    omega

theorem nodup_len_eq {α : Type} [DecidableEq α] {l m : List α} (hl : l.Nodup) (hm : m.Nodup) (h : ∀ x, x ∈ l ↔ x ∈ m) : l.length = m.length :=
  Nat.le_antisymm (nodup_len_le l m hl fun x hx => (h x).1 hx) (nodup_len_le m l hm fun x hx => (h x).2 hx)

/-- an order of all elements -/
structure IsPerm (n : Nat) (l : List Nat) : Prop where
  len : l.length = n
  nodup : l.Nodup
  lt : ∀ x ∈ l, x < n

def app (l : List Nat) (x : Nat) : Nat := l.getD x 0
def comp (l m : List Nat) : List Nat := m.map (app l)
def inv (l : List Nat) : List Nat := (List.range l.length).map fun y => l.idxOf y

theorem app_mem {l : List Nat} {x : Nat} (h : x < l.length) : app l x ∈ l := by
  unfold app
  simp only [List.getD_eq_getElem?_getD, List.getElem?_eq_getElem h, Option.getD_some]
  exact List.getElem_mem h

theorem IsPerm.app_lt {n : Nat} {l : List Nat} (h : IsPerm n l) {x : Nat} (hx : x < n) : app l x < n := h.lt _ (app_mem (by rw [h.len]; exact hx))

theorem IsPerm.mem {n : Nat} {l : List Nat} (h : IsPerm n l) {y : Nat} (hy : y < n) : y ∈ l := by
  rcases Classical.em (y ∈ l) with h1 | h1
  · exact h1
  · have h2 := nodup_len_le (y :: l) (List.range n) (List.nodup_cons.2 ⟨h1, h.nodup⟩) (fun x hx => by
      rcases List.mem_cons.1 hx with rfl | hx
      · exact List.mem_range.2 hy
      · exact List.mem_range.2 (h.lt x hx))
    have := h.len
    simp only [List.length_cons, List.length_range] at h2
    omega

theorem IsPerm.inj {n : Nat} {l : List Nat} (h : IsPerm n l) {x y : Nat} (hx : x < n) (hy : y < n) (e : app l x = app l y) : x = y := by
  unfold app at e
  have h1 := h.len
  simp only [List.getD_eq_getElem?_getD, List.getElem?_eq_getElem (show x < l.length by omega), List.getElem?_eq_getElem (show y < l.length by omega), Option.getD_some] at e
  have hp := List.pairwise_iff_getElem.1 h.nodup
  rcases Nat.lt_trichotomy x y with hlt | heq | hlt
  · exact absurd e (hp x y (by omega) (by omega) hlt)
  · exact heq
  · exact absurd e.symm (hp y x (by omega) (by omega) hlt)

theorem app_comp {l m : List Nat} {x : Nat} (h : x < m.length) : app (comp l m) x = app l (app m x) := by
  unfold app comp
  simp [List.getD, h, app]

theorem app_ext {n : Nat} {l m : List Nat} (h1 : l.length = n) (h2 : m.length = n) (h : ∀ x, x < n → app l x = app m x) : l = m := by
  apply List.ext_getElem (by omega)
  intro i hi hi2
  have := h i (by omega)
  unfold app at this
  simpa [List.getD, hi, hi2] using this

theorem app_idx {l : List Nat} {y : Nat} (h : y ∈ l) : l.idxOf y < l.length ∧ app l (l.idxOf y) = y := by
  have h1 := List.idxOf_lt_length_of_mem h
  refine ⟨h1, ?_⟩
  unfold app
  simp [List.getD, h1]

theorem len_comp (l m : List Nat) : (comp l m).length = m.length := by simp [comp]
theorem len_inv (l : List Nat) : (inv l).length = l.length := by simp [inv]

theorem app_inv {n : Nat} {l : List Nat} (h : IsPerm n l) {y : Nat} (hy : y < n) : app (inv l) y < n ∧ app l (app (inv l) y) = y := by
  have h1 := app_idx (h.mem hy)
  have e : app (inv l) y = l.idxOf y := by
    unfold app inv
    have := h.len
    simp [List.getD, show y < l.length by omega]
  rw [e, ← h.len]
  exact h1

theorem inv_app {n : Nat} {l : List Nat} (h : IsPerm n l) {x : Nat} (hx : x < n) : app (inv l) (app l x) = x := by
  have h1 := app_inv h (h.app_lt hx)
  exact h.inj h1.1 hx h1.2

theorem nodup_of_inj {n : Nat} {l : List Nat} (hl : l.length = n) (h : ∀ x y, x < n → y < n → app l x = app l y → x = y) : l.Nodup := by
  refine List.pairwise_iff_getElem.2 fun i j hi hj hij e => ?_
  have := h i j (by omega) (by omega) (by
    unfold app
    simp only [List.getD_eq_getElem?_getD, List.getElem?_eq_getElem hi, List.getElem?_eq_getElem hj, Option.getD_some, e])
  omega

theorem mem_app {l : List Nat} {y : Nat} (h : y ∈ l) : ∃ x, x < l.length ∧ app l x = y := ⟨_, app_idx h⟩

theorem IsPerm.of {n : Nat} {l : List Nat} (hl : l.length = n) (hlt : ∀ x, x < n → app l x < n) (h : ∀ x y, x < n → y < n → app l x = app l y → x = y) : IsPerm n l :=
  ⟨hl, nodup_of_inj hl h, fun y hy => by obtain ⟨x, hx, rfl⟩ := mem_app hy; exact hlt x (by omega)⟩

theorem IsPerm.comp {n : Nat} {l m : List Nat} (hl : IsPerm n l) (hm : IsPerm n m) : IsPerm n (comp l m) := by
  have e : ∀ x, x < n → app (Pl.comp l m) x = app l (app m x) := fun x hx => app_comp (by rw [hm.len]; exact hx)
  refine .of (by rw [len_comp, hm.len]) (fun x hx => ?_) (fun x y hx hy h => ?_)
  · rw [e x hx]; exact hl.app_lt (hm.app_lt hx)
  · rw [e x hx, e y hy] at h
    exact hm.inj hx hy (hl.inj (hm.app_lt hx) (hm.app_lt hy) h)

theorem IsPerm.inv {n : Nat} {l : List Nat} (hl : IsPerm n l) : IsPerm n (inv l) := by
  refine .of (by rw [len_inv, hl.len]) (fun x hx => (app_inv hl hx).1) (fun x y hx hy h => ?_)
  rw [← (app_inv hl hx).2, ← (app_inv hl hy).2, h]

theorem app_range {n x : Nat} (h : x < n) : app (List.range n) x = x := by
  unfold app; simp [List.getD, h]

theorem IsPerm.range (n : Nat) : IsPerm n (List.range n) := .of (by simp) (fun x hx => by rw [app_range hx]; exact hx) (fun x y hx hy h => by rwa [app_range hx, app_range hy] at h)

theorem comp_assoc {n : Nat} {l m k : List Nat} (hm : IsPerm n m) (hk : IsPerm n k) : comp (comp l m) k = comp l (comp m k) := by
  apply app_ext (n := n) (by rw [len_comp, hk.len]) (by rw [len_comp, len_comp, hk.len])
  intro x hx
  rw [app_comp (by rw [hk.len]; exact hx), app_comp (by rw [hm.len]; exact hk.app_lt hx), app_comp (by rw [len_comp, hk.len]; exact hx), app_comp (by rw [hk.len]; exact hx)]

theorem comp_inv {n : Nat} {l : List Nat} (h : IsPerm n l) : comp l (inv l) = List.range n := by
  apply app_ext (n := n) (by rw [len_comp, len_inv, h.len]) (by simp)
  intro x hx
  rw [app_comp (by rw [len_inv, h.len]; exact hx), (app_inv h hx).2, app_range hx]

theorem inv_comp {n : Nat} {l : List Nat} (h : IsPerm n l) : comp (inv l) l = List.range n := by
  apply app_ext (n := n) (by rw [len_comp, h.len]) (by simp)
  intro x hx
  rw [app_comp (by rw [h.len]; exact hx), inv_app h hx, app_range hx]

theorem comp_range {n : Nat} {l : List Nat} (h : IsPerm n l) : comp l (List.range n) = l := by
  apply app_ext (n := n) (by rw [len_comp]; simp) h.len
  intro x hx
  rw [app_comp (by simpa using hx), app_range hx]

theorem range_comp {n : Nat} {l : List Nat} (h : IsPerm n l) : comp (List.range n) l = l := by
  apply app_ext (n := n) (by rw [len_comp, h.len]) h.len
  intro x hx
  rw [app_comp (by rw [h.len]; exact hx), app_range (h.app_lt hx)]

theorem comp_left_inj {n : Nat} {g l m : List Nat} (hg : IsPerm n g) (hl : IsPerm n l) (hm : IsPerm n m) (e : comp g l = comp g m) : l = m := by
  have : comp (inv g) (comp g l) = comp (inv g) (comp g m) := by rw [e]
  rwa [← comp_assoc hg hl, ← comp_assoc hg hm, inv_comp hg, range_comp hl, range_comp hm] at this

/-- a group of orders -/
structure Grp (n : Nat) (G : List (List Nat)) : Prop where
  nodup : G.Nodup
  perm : ∀ l ∈ G, IsPerm n l
  one : List.range n ∈ G
  comp : ∀ l ∈ G, ∀ m ∈ G, Pl.comp l m ∈ G
  inv : ∀ l ∈ G, Pl.inv l ∈ G

theorem map_nodup {α β : Type} {f : α → β} : ∀ (l : List α), l.Nodup → (∀ x ∈ l, ∀ y ∈ l, f x = f y → x = y) → (l.map f).Nodup := by
  intro l
  induction l with
  | nil => intro _ _; simp
  | cons x l ih =>
    intro h hi
    obtain ⟨h1, h2⟩ := List.nodup_cons.1 h
    rw [List.map_cons, List.nodup_cons]
    refine ⟨fun hm => ?_, ih h2 (fun y hy z hz => hi y (by simp [hy]) z (by simp [hz]))⟩
    obtain ⟨y, hy, e⟩ := List.mem_map.1 hm
    have := hi y (by simp [hy]) x (by simp) e
    subst this
    exact h1 hy

theorem filter_len {α : Type} (p : α → Bool) : ∀ (l : List α), l.length = (l.filter p).length + (l.filter fun x => !p x).length := by
  intro l
  induction l with
  | nil => rfl
  | cons x l ih =>
    cases h : p x <;> simp [h] <;> omega

theorem cosets {n : Nat} {H : List (List Nat)} (hH : Grp n H) : ∀ (k : Nat) (S : List (List Nat)), S.length ≤ k → S.Nodup → (∀ g ∈ S, IsPerm n g) → (∀ g ∈ S, ∀ h ∈ H, comp g h ∈ S) → H.length ∣ S.length := by
  intro k
  induction k with
  | zero =>
    intro S hk _ _ _
    rw [Nat.le_zero.1 hk]
    exact Nat.dvd_zero _
  | succ k ih =>
    intro S hk hnd hp hc
    match S, hk, hnd, hp, hc with
    | [], _, _, _, _ => exact Nat.dvd_zero _
    | g :: S0, hk, hnd, hp, hc =>
      generalize hS : g :: S0 = S at *
      have hg : g ∈ S := by rw [← hS]; simp
      have hC : (H.map (comp g)).Nodup := map_nodup H hH.nodup fun x hx y hy e => comp_left_inj (hp g hg) (hH.perm x hx) (hH.perm y hy) e
      have hlen : (S.filter fun l => decide (l ∈ H.map (comp g))).length = H.length := by
        rw [show H.length = (H.map (comp g)).length by simp]
        refine nodup_len_eq (hnd.filter _) hC fun x => ?_
        rw [List.mem_filter]
        constructor
        · rintro ⟨_, h⟩; simpa using h
        · intro h
          refine ⟨?_, by simpa using h⟩
          obtain ⟨y, hy, rfl⟩ := List.mem_map.1 h
          exact hc g hg y hy
      have hsum := filter_len (fun l => decide (l ∈ H.map (comp g))) S
      have hpos : 0 < H.length := List.length_pos_of_mem hH.one
      have := ih (S.filter fun l => !decide (l ∈ H.map (comp g))) (by omega) (hnd.filter _) (fun x hx => hp x (List.mem_filter.1 hx).1) (fun x hx h hh => by
        obtain ⟨h1, h2⟩ := List.mem_filter.1 hx
        refine List.mem_filter.2 ⟨hc x h1 h hh, ?_⟩
        simp only [Bool.not_eq_true', decide_eq_false_iff_not] at h2 ⊢
        intro hm
        apply h2
        obtain ⟨y, hy, e⟩ := List.mem_map.1 hm
        refine List.mem_map.2 ⟨comp y (inv h), hH.comp _ hy _ (hH.inv _ hh), ?_⟩
        rw [← comp_assoc (hH.perm y hy) (hH.perm h hh).inv, e, comp_assoc (hH.perm h hh) (hH.perm h hh).inv, comp_inv (hH.perm h hh), comp_range (hp x h1)])
      rw [hsum, hlen]
      exact Nat.dvd_add (Nat.dvd_refl _) this

theorem lagrange {n : Nat} {H G : List (List Nat)} (hH : Grp n H) (hG : Grp n G) (hs : ∀ l ∈ H, l ∈ G) : H.length ∣ G.length :=
  cosets hH G.length G (Nat.le_refl _) hG.nodup hG.perm fun g hg h hh => hG.comp g hg h (hs h hh)

theorem fibers {α : Type} (key : α → Nat) (s : Nat) : ∀ (O : List Nat), O.Nodup → ∀ (S : List α), (∀ g ∈ S, key g ∈ O) → (∀ y ∈ O, (S.filter fun g => key g == y).length = s) → S.length = O.length * s := by
  intro O
  induction O with
  | nil =>
    intro _ S h _
    match S, h with
    | [], _ => simp
    | g :: S, h => exact absurd (h g (by simp)) (by simp)
  | cons y O ih =>
    intro hnd S h hf
    obtain ⟨h1, h2⟩ := List.nodup_cons.1 hnd
    have hsum := filter_len (fun g => key g == y) S
    have h3 := ih h2 (S.filter fun g => !(key g == y)) (fun g hg => by
      obtain ⟨h4, h5⟩ := List.mem_filter.1 hg
      rcases List.mem_cons.1 (h g h4) with e | e
      · simp [e] at h5
      · exact e) (fun z hz => by
      rw [← hf z (by simp [hz]), List.filter_filter]
      congr 1
      apply List.filter_congr
      intro g _
      have hzy : z ≠ y := by rintro rfl; exact h1 hz
      by_cases e : key g = z
      · simp [e, hzy]
      · simp [e])
    rw [hsum, hf y (by simp), h3, List.length_cons, Nat.succ_mul]
    omega

/-- the elements to which a group moves one -/
def orbL (n : Nat) (G : List (List Nat)) (x : Nat) : List Nat := (List.range n).filter fun y => G.any fun l => app l x == y

theorem mem_orbL {n : Nat} {G : List (List Nat)} (hG : Grp n G) {x y : Nat} (hx : x < n) : y ∈ orbL n G x ↔ ∃ l ∈ G, app l x = y := by
  unfold orbL
  rw [List.mem_filter, List.mem_range, List.any_eq_true]
  constructor
  · rintro ⟨_, l, hl, e⟩; exact ⟨l, hl, by simpa using e⟩
  · rintro ⟨l, hl, e⟩; exact ⟨by rw [← e]; exact (hG.perm l hl).app_lt hx, l, hl, by simpa using e⟩

theorem orb_dvd {n : Nat} {G : List (List Nat)} (hG : Grp n G) {x : Nat} (hx : x < n) : (orbL n G x).length ∣ G.length := by
  have hf := fibers (fun l => app l x) (G.filter fun l => app l x == x).length (orbL n G x) (List.nodup_range.filter _) G (fun g hg => (mem_orbL hG hx).2 ⟨g, hg, rfl⟩) (fun y hy => by
    obtain ⟨s, hs, rfl⟩ := (mem_orbL hG hx).1 hy
    have hps := hG.perm s hs
    apply Nat.le_antisymm
    · rw [show (G.filter fun l => app l x == app s x).length = ((G.filter fun l => app l x == app s x).map (comp (inv s))).length by simp]
      refine nodup_len_le _ _ (map_nodup _ (hG.nodup.filter _) fun a ha b hb e => comp_left_inj hps.inv (hG.perm a (List.mem_filter.1 ha).1) (hG.perm b (List.mem_filter.1 hb).1) e) fun a ha => ?_
      obtain ⟨b, hb, rfl⟩ := List.mem_map.1 ha
      obtain ⟨h1, h2⟩ := List.mem_filter.1 hb
      have h3 : app b x = app s x := by simpa using h2
      refine List.mem_filter.2 ⟨hG.comp _ (hG.inv _ hs) _ h1, ?_⟩
      rw [app_comp (by rw [(hG.perm b h1).len]; exact hx), h3, inv_app hps hx]
      simp
    · rw [show (G.filter fun l => app l x == x).length = ((G.filter fun l => app l x == x).map (comp s)).length by simp]
      refine nodup_len_le _ _ (map_nodup _ (hG.nodup.filter _) fun a ha b hb e => comp_left_inj hps (hG.perm a (List.mem_filter.1 ha).1) (hG.perm b (List.mem_filter.1 hb).1) e) fun a ha => ?_
      obtain ⟨b, hb, rfl⟩ := List.mem_map.1 ha
      obtain ⟨h1, h2⟩ := List.mem_filter.1 hb
      have h3 : app b x = x := by simpa using h2
      refine List.mem_filter.2 ⟨hG.comp _ hs _ h1, ?_⟩
      rw [app_comp (by rw [(hG.perm b h1).len]; exact hx), h3]
      simp)
  rw [hf]
  exact Nat.dvd_mul_right _ _

/-! ### isomorphisms -/

theorem iso_perm {a b : St} {l : List Nat} (h : l ∈ isos a b) : IsPerm a.n l := by
  obtain ⟨h1, h2⟩ := mem_isos.1 h
  exact ⟨h1, h2.nodup, h2.lt⟩

theorem mem_isos_iff {a b : St} {l : List Nat} : l ∈ isos a b ↔ IsPerm a.n l ∧ (∀ i, i < a.n → a.inS (app l i) = b.inS i) ∧ ∀ i j, i < a.n → j < a.n → a.inR (app l i) (app l j) = b.inR i j := by
  rw [mem_isos]
  constructor
  · rintro ⟨h1, h2⟩; exact ⟨⟨h1, h2.nodup, h2.lt⟩, fun i hi => h2.set i (by omega), fun i j hi hj => h2.rel i j (by omega) (by omega)⟩
  · rintro ⟨h1, h2, h3⟩; exact ⟨h1.len, h1.nodup, h1.lt, fun i hi => h2 i (by rw [← h1.len]; exact hi), fun i j hi hj => h3 i j (by rw [← h1.len]; exact hi) (by rw [← h1.len]; exact hj)⟩

theorem iso_comp {a b c : St} (hab : a.n = b.n) {l m : List Nat} (hl : l ∈ isos a b) (hm : m ∈ isos b c) : comp l m ∈ isos a c := by
  obtain ⟨h1, h2, h3⟩ := mem_isos_iff.1 hl
  obtain ⟨g1, g2, g3⟩ := mem_isos_iff.1 hm
  rw [← hab] at g1 g2 g3
  have e : ∀ x, x < a.n → app (comp l m) x = app l (app m x) := fun x hx => app_comp (by rw [g1.len]; exact hx)
  exact mem_isos_iff.2 ⟨h1.comp g1, fun i hi => by rw [e i hi, h2 _ (g1.app_lt hi), g2 i hi], fun i j hi hj => by rw [e i hi, e j hj, h3 _ _ (g1.app_lt hi) (g1.app_lt hj), g3 i j hi hj]⟩

theorem iso_inv {a b : St} (hab : a.n = b.n) {l : List Nat} (hl : l ∈ isos a b) : inv l ∈ isos b a := by
  obtain ⟨h1, h2, h3⟩ := mem_isos_iff.1 hl
  refine mem_isos_iff.2 ⟨by rw [← hab]; exact h1.inv, fun i hi => ?_, fun i j hi hj => ?_⟩
  · rw [← hab] at hi
    obtain ⟨g1, g2⟩ := app_inv h1 hi
    rw [← h2 _ g1, g2]
  · rw [← hab] at hi hj
    obtain ⟨g1, g2⟩ := app_inv h1 hi
    obtain ⟨g3, g4⟩ := app_inv h1 hj
    rw [← h3 _ _ g1 g3, g2, g4]

theorem iso_refl (a : St) : List.range a.n ∈ isos a a :=
  mem_isos_iff.2 ⟨.range _, fun i hi => by rw [app_range hi], fun i j hi hj => by rw [app_range hi, app_range hj]⟩

theorem aut_grp (a : St) : Grp a.n (isos a a) where
  nodup := isos_nodup a a
  perm l h := iso_perm h
  one := iso_refl a
  comp l hl m hm := iso_comp rfl hl hm
  inv l hl := iso_inv rfl hl

/-- isomorphic structures have as many symmetries -/
theorem isos_count {a b : St} (hab : a.n = b.n) {l : List Nat} (hl : l ∈ isos a b) : (isos a a).length = (isos b b).length := by
  have key : ∀ {a b : St} (_ : a.n = b.n) {l : List Nat} (_ : l ∈ isos a b), (isos a a).length ≤ (isos b b).length := by
    intro a b hab l hl
    have hli := iso_inv hab hl
    have hp := iso_perm hl
    rw [show (isos a a).length = ((isos a a).map fun m => comp (inv l) (comp m l)).length by simp]
    refine nodup_len_le _ _ (map_nodup _ (isos_nodup a a) fun x hx y hy e => ?_) fun x hx => ?_
    · have hx' := iso_perm hx
      have hy' := iso_perm hy
      have e2 := comp_left_inj hp.inv (hx'.comp hp) (hy'.comp hp) e
      have e3 : comp (comp x l) (inv l) = comp (comp y l) (inv l) := by rw [e2]
      rwa [comp_assoc hp hp.inv, comp_assoc hp hp.inv, comp_inv hp, comp_range hx', comp_range hy'] at e3
    · obtain ⟨m, hm, rfl⟩ := List.mem_map.1 hx
      exact iso_comp hab.symm hli (iso_comp rfl hm hl)
  exact Nat.le_antisymm (key hab hl) (key hab.symm (iso_inv hab hl))

/-! ### the number of all orders -/

def fact : Nat → Nat
  | 0 => 1
  | n + 1 => (n + 1) * fact n

def noSt (n : Nat) : St := mkSt n (fun _ => false) (fun _ _ => false)

theorem flatMap_len {α : Type} (f : α → List (List Nat)) (k : Nat) : ∀ (l : List α), (∀ x ∈ l, (f x).length = k) → (l.flatMap f).length = l.length * k := by
  intro l
  induction l with
  | nil => intro _; simp
  | cons x l ih =>
    intro h
    rw [List.flatMap_cons, List.length_append, h x (by simp), ih (fun y hy => h y (by simp [hy])), List.length_cons, Nat.succ_mul]
    omega

theorem flatMap_if {α : Type} (p : α → Bool) (f : α → List (List Nat)) : ∀ (l : List α), (l.flatMap fun x => if p x then f x else []) = (l.filter p).flatMap f := by
  intro l
  induction l with
  | nil => rfl
  | cons x l ih =>
    cases h : p x <;> simp [h, ih]

theorem noSt_shapes {n : Nat} : ∀ (m : Nat) (o : List Nat), o.length + m = n → o.Nodup → (∀ x ∈ o, x < n) → (shapes (noSt n) (noSt n) m o).length = fact m := by
  intro m
  induction m with
  | zero => intro o _ _ _; rfl
  | succ m ih =>
    intro o hl hnd hlt
    have hn : ∀ x, x < n → nextB (noSt n) (noSt n) o x = !o.contains x := by
      intro x hx
      have hS : ∀ y, y < n → (noSt n).inS y = false := fun y hy => mkSt_inS hy
      have hR : ∀ y z, y < n → z < n → (noSt n).inR y z = false := fun y z hy hz => mkSt_inR hy hz
      unfold nextB fitsB
      have hol : o.length < n := by omega
      have hall : ((List.range o.length).all fun k => (noSt n).inR x (o.getD k 0) == (noSt n).inR o.length k && (noSt n).inR (o.getD k 0) x == (noSt n).inR k o.length) = true := by
        rw [List.all_eq_true]
        intro k hk
        have hk' := List.mem_range.1 hk
        have hok : o.getD k 0 < n := hlt _ (by
          rw [List.getD_eq_getElem?_getD, List.getElem?_eq_getElem hk', Option.getD_some]
          exact List.getElem_mem hk')
        rw [hR _ _ hx hok, hR _ _ hol (by omega), hR _ _ hok hx, hR _ _ (by omega) hol]
        rfl
      rw [hall, hS _ hx, hS _ hol, hR _ _ hx hx, hR _ _ hol hol]
      simp
    simp only [shapes]
    rw [flatMap_if]
    have hfil : ((List.range (noSt n).n).filter (nextB (noSt n) (noSt n) o)).length = m + 1 := by
      have h1 : (List.range (noSt n).n).filter (nextB (noSt n) (noSt n) o) = (List.range n).filter fun x => !o.contains x := by
        apply List.filter_congr
        intro x hx
        exact hn x (List.mem_range.1 hx)
      rw [h1]
      have h2 := filter_len (fun x => o.contains x) (List.range n)
      have h3 : ((List.range n).filter fun x => o.contains x).length = o.length := by
        refine nodup_len_eq (List.nodup_range.filter _) hnd fun x => ?_
        rw [List.mem_filter, List.mem_range]
        simp only [List.contains_eq_mem, decide_eq_true_eq]
        exact ⟨fun h => h.2, fun h => ⟨hlt x h, h⟩⟩
      simp only [List.length_range] at h2
      omega
    rw [flatMap_len _ (fact m) _ (fun x hx => by
      obtain ⟨h1, h2⟩ := List.mem_filter.1 hx
      have hxn : x < n := List.mem_range.1 h1
      rw [hn x hxn] at h2
      have hxo : x ∉ o := by simpa using h2
      refine ih _ (by simp; omega) ?_ ?_
      · rw [List.nodup_append]
        exact ⟨hnd, by simp, fun y hy z hz => by simp only [List.mem_singleton] at hz; subst hz; rintro rfl; exact hxo hy⟩
      · intro y hy
        rcases List.mem_append.1 hy with hy | hy
        · exact hlt y hy
        · simp only [List.mem_singleton] at hy; subst hy; exact hxn), hfil]
    rfl

theorem noSt_count (n : Nat) : (isos (noSt n) (noSt n)).length = fact n := noSt_shapes n [] (by simp) (by simp) (by simp)

theorem count_dvd_fact (a : St) : (isos a a).length ∣ fact a.n := by
  rw [← noSt_count]
  refine lagrange (aut_grp a) (aut_grp (noSt a.n)) fun l hl => ?_
  have hp := iso_perm hl
  refine mem_isos_iff.2 ⟨hp, fun i hi => ?_, fun i j hi hj => ?_⟩
  · have hi2 : i < a.n := hi
    have h1 : (noSt a.n).inS (app l i) = false := mkSt_inS (f := fun _ => false) (hp.app_lt hi2)
    have h2 : (noSt a.n).inS i = false := mkSt_inS (f := fun _ => false) hi2
    rw [h1, h2]
  · have hi2 : i < a.n := hi
    have hj2 : j < a.n := hj
    have h1 : (noSt a.n).inR (app l i) (app l j) = false := mkSt_inR (g := fun _ _ => false) (hp.app_lt hi2) (hp.app_lt hj2)
    have h2 : (noSt a.n).inR i j = false := mkSt_inR (g := fun _ _ => false) hi2 hj2
    rw [h1, h2]

end Pl
end Go.Proofs.YteonanaihklgmaaDoor

namespace Go.Proofs.YteonanaihklgmaaDoor
open Pl

/-- elements for the variables -/
abbrev Pl.Env := Fin 4 → Nat

def Pl.upd (e : Env) (v : Fin 4) (x : Nat) : Env := fun u => if u = v then x else e u

def Pl.cnt (n : Nat) (p : Nat → Bool) : Nat := ((List.range n).filter p).length

/-- a quantifier's word on how many elements there are -/
def Pl.Qn.says (k : Qn) (n c : Nat) : Bool := match k with
  | .A => c == n
  | .S => decide (0 < c)
  | .c2 => decide (2 ≤ c)
  | .c3 => decide (3 ≤ c)
  | .c4 => decide (4 ≤ c)

/-- a formula is true -/
def Pl.Fm.holds (a : St) : Fm → Env → Bool
  | .tru, _ => true
  | .fls, _ => false
  | .pr v, e => a.inS (e v)
  | .eq v w, e => e v == e w
  | .rel v w, e => a.inR (e v) (e w)
  | .neg p, e => !(p.holds a e)
  | .con p q, e => p.holds a e && q.holds a e
  | .dis p q, e => p.holds a e || q.holds a e
  | .qu k v p, e => k.says a.n (cnt a.n fun x => p.holds a (upd e v x))

theorem Pl.cnt_congr {n : Nat} {p q : Nat → Bool} (h : ∀ x, x < n → p x = q x) : cnt n p = cnt n q := by
  unfold cnt
  rw [List.filter_congr fun x hx => h x (List.mem_range.1 hx)]

theorem Pl.cnt_le (n : Nat) (p : Nat → Bool) : cnt n p ≤ n := by
  unfold cnt
  have := List.length_filter_le p (List.range n)
  simpa using this

theorem Pl.cnt_succ (n : Nat) (p : Nat → Bool) : cnt (n + 1) p = cnt n p + if p n then 1 else 0 := by
  unfold cnt
  rw [List.range_succ, List.filter_append, List.length_append]
  cases h : p n <;> simp [h]

theorem Pl.cnt_all {n : Nat} {p : Nat → Bool} : cnt n p = n ↔ ∀ x, x < n → p x = true := by
  induction n with
  | zero => simp [cnt]
  | succ n ih =>
    rw [cnt_succ]
    have hle := cnt_le n p
    constructor
    · intro h x hx
      cases hp : p n with
      | false => rw [hp] at h; simp at h; omega
      | true =>
        rw [hp] at h
        simp at h
        by_cases e : x = n
        · subst e; exact hp
        · exact ih.1 h x (by omega)
    · intro h
      rw [h n (by omega), ih.2 fun x hx => h x (by omega)]
      rfl

theorem Pl.cnt_pos {n : Nat} {p : Nat → Bool} : 0 < cnt n p ↔ ∃ x, x < n ∧ p x = true := by
  unfold cnt
  rw [List.length_pos_iff_exists_mem]
  constructor
  · rintro ⟨x, hx⟩; obtain ⟨h1, h2⟩ := List.mem_filter.1 hx; exact ⟨x, List.mem_range.1 h1, h2⟩
  · rintro ⟨x, h1, h2⟩; exact ⟨x, List.mem_filter.2 ⟨List.mem_range.2 h1, h2⟩⟩

theorem Pl.cnt_not (n : Nat) (p : Nat → Bool) : cnt n p + cnt n (fun x => !p x) = n := by
  unfold cnt
  have := filter_len p (List.range n)
  simpa using this.symm

theorem Pl.cnt_perm {n : Nat} {l : List Nat} (hl : IsPerm n l) (p : Nat → Bool) : cnt n (fun x => p (app l x)) = cnt n p := by
  unfold cnt
  rw [show ((List.range n).filter fun x => p (app l x)).length = (((List.range n).filter fun x => p (app l x)).map (app l)).length by simp]
  refine nodup_len_eq (map_nodup _ (List.nodup_range.filter _) fun x hx y hy e => hl.inj (List.mem_range.1 (List.mem_filter.1 hx).1) (List.mem_range.1 (List.mem_filter.1 hy).1) e) (List.nodup_range.filter _) fun x => ?_
  rw [List.mem_map, List.mem_filter, List.mem_range]
  constructor
  · rintro ⟨y, hy, rfl⟩
    obtain ⟨h1, h2⟩ := List.mem_filter.1 hy
    exact ⟨hl.app_lt (List.mem_range.1 h1), h2⟩
  · rintro ⟨h1, h2⟩
    obtain ⟨g1, g2⟩ := app_inv hl h1
    exact ⟨app (inv l) x, List.mem_filter.2 ⟨List.mem_range.2 g1, by rw [g2]; exact h2⟩, g2⟩

theorem Pl.upd_same (e : Env) (v : Fin 4) (x : Nat) : upd e v x v = x := by simp [upd]
theorem Pl.upd_other {e : Env} {v u : Fin 4} {x : Nat} (h : u ≠ v) : upd e v x u = e u := by simp [upd, h]

/-- the variables that are free -/
def Pl.Fm.isFree (f : Fm) (v : Fin 4) : Prop := f.freeBits.testBit v.val = true

theorem bit_test (v u : Fin 4) : (1 <<< v.val).testBit u.val = decide (v = u) := by revert v u; decide

theorem free_qu (k : Qn) (v : Fin 4) (p : Fm) (u : Fin 4) : (Fm.qu k v p).isFree u ↔ p.isFree u ∧ u ≠ v := by
  unfold Fm.isFree
  simp only [Fm.freeBits, Nat.testBit_and, Nat.testBit_xor, bit_test]
  have h15 : (15 : Nat).testBit u.val = true := by revert u; decide
  rw [h15]
  by_cases h : v = u
  · subst h; simp
  · simp [h, Ne.symm h]

/-- only the free variables matter -/
theorem holds_free (a : St) : ∀ (f : Fm) (e e' : Env), (∀ v, f.isFree v → e v = e' v) → f.holds a e = f.holds a e' := by
  intro f
  induction f with
  | tru => intros; rfl
  | fls => intros; rfl
  | pr v => intro e e' h; simp only [Fm.holds]; rw [h v (by simp [Fm.isFree, Fm.freeBits, bit_test])]
  | eq v w => intro e e' h; simp only [Fm.holds]; rw [h v (by simp [Fm.isFree, Fm.freeBits, bit_test]), h w (by simp [Fm.isFree, Fm.freeBits, bit_test])]
  | rel v w => intro e e' h; simp only [Fm.holds]; rw [h v (by simp [Fm.isFree, Fm.freeBits, bit_test]), h w (by simp [Fm.isFree, Fm.freeBits, bit_test])]
  | neg p ih => intro e e' h; simp only [Fm.holds]; rw [ih e e' h]
  | con p q ihp ihq =>
    intro e e' h
    simp only [Fm.holds]
    rw [ihp e e' fun v hv => h v (by unfold Fm.isFree at *; simp [Fm.freeBits, hv]), ihq e e' fun v hv => h v (by unfold Fm.isFree at *; simp [Fm.freeBits, hv])]
  | dis p q ihp ihq =>
    intro e e' h
    simp only [Fm.holds]
    rw [ihp e e' fun v hv => h v (by unfold Fm.isFree at *; simp [Fm.freeBits, hv]), ihq e e' fun v hv => h v (by unfold Fm.isFree at *; simp [Fm.freeBits, hv])]
  | qu k v p ih =>
    intro e e' h
    simp only [Fm.holds]
    rw [cnt_congr fun x _ => ih (upd e v x) (upd e' v x) fun u hu => ?_]
    by_cases huv : u = v
    · subst huv; rw [upd_same, upd_same]
    · rw [upd_other huv, upd_other huv]; exact h u ((free_qu k v p u).2 ⟨hu, huv⟩)

/-- a structure that is turned into another one: the same formulas are true of the elements that are turned -/
theorem holds_iso {a b : St} (hab : a.n = b.n) {l : List Nat} (hl : l ∈ isos a b) : ∀ (f : Fm) (e : Env), (∀ v, f.isFree v → e v < b.n) → f.holds b e = f.holds a (fun v => app l (e v)) := by
  obtain ⟨h1, h2, h3⟩ := mem_isos_iff.1 hl
  intro f
  induction f with
  | tru => intros; rfl
  | fls => intros; rfl
  | pr v => intro e h; simp only [Fm.holds]; rw [h2 _ (by rw [hab]; exact h v (by simp [Fm.isFree, Fm.freeBits, bit_test]))]
  | eq v w =>
    intro e h
    have hv := h v (by simp [Fm.isFree, Fm.freeBits, bit_test])
    have hw := h w (by simp [Fm.isFree, Fm.freeBits, bit_test])
    rw [← hab] at hv hw
    simp only [Fm.holds]
    rw [Bool.eq_iff_iff, beq_iff_eq, beq_iff_eq]
    exact ⟨fun e1 => by rw [e1], fun e1 => h1.inj hv hw e1⟩
  | rel v w =>
    intro e h
    simp only [Fm.holds]
    rw [h3 _ _ (by rw [hab]; exact h v (by simp [Fm.isFree, Fm.freeBits, bit_test])) (by rw [hab]; exact h w (by simp [Fm.isFree, Fm.freeBits, bit_test]))]
  | neg p ih => intro e h; simp only [Fm.holds]; rw [ih e h]
  | con p q ihp ihq =>
    intro e h
    simp only [Fm.holds]
    rw [ihp e fun v hv => h v (by unfold Fm.isFree at *; simp [Fm.freeBits, hv]), ihq e fun v hv => h v (by unfold Fm.isFree at *; simp [Fm.freeBits, hv])]
  | dis p q ihp ihq =>
    intro e h
    simp only [Fm.holds]
    rw [ihp e fun v hv => h v (by unfold Fm.isFree at *; simp [Fm.freeBits, hv]), ihq e fun v hv => h v (by unfold Fm.isFree at *; simp [Fm.freeBits, hv])]
  | qu k v p ih =>
    intro e h
    simp only [Fm.holds]
    rw [← hab]
    congr 1
    rw [← cnt_perm h1 (fun y => p.holds a (upd (fun u => app l (e u)) v y))]
    refine cnt_congr fun x hx => ?_
    rw [ih (upd e v x) fun u hu => ?_]
    · apply holds_free
      intro u hu
      by_cases huv : u = v
      · subst huv; rw [upd_same, upd_same]
      · rw [upd_other huv, upd_other huv]
    · by_cases huv : u = v
      · subst huv; rw [upd_same, ← hab]; exact hx
      · rw [upd_other huv]; exact h u ((free_qu k v p u).2 ⟨hu, huv⟩)

/-- pushed negations -/
theorem holds_push (a : St) : ∀ (f : Fm) (b : Bool) (e : Env), (f.push b).holds a e = (if b then !(f.holds a e) else f.holds a e) := by
  intro f
  induction f with
  | tru => intro b e; cases b <;> rfl
  | fls => intro b e; cases b <;> rfl
  | pr v => intro b e; cases b <;> rfl
  | eq v w => intro b e; cases b <;> rfl
  | rel v w => intro b e; cases b <;> rfl
  | neg p ih => intro b e; simp only [Fm.push, Fm.holds, ih]; cases b <;> simp
  | con p q ihp ihq => intro b e; cases b <;> simp [Fm.push, Fm.holds, ihp, ihq]
  | dis p q ihp ihq => intro b e; cases b <;> simp [Fm.push, Fm.holds, ihp, ihq]
  | qu k v p ih =>
    intro b e
    have h2 : cnt a.n (fun x => !(p.holds a (upd e v x))) + cnt a.n (fun x => p.holds a (upd e v x)) = a.n := by
      have := cnt_not a.n (fun x => p.holds a (upd e v x)); omega
    cases k <;> cases b <;> simp only [Fm.push, Fm.holds, ih, if_true, if_false, Bool.false_eq_true, Bool.not_true, Bool.not_false, Bool.not_not] <;> try rfl
    · simp only [Qn.says]
      rw [Bool.eq_iff_iff]
      simp only [decide_eq_true_eq, Bool.not_eq_true', beq_eq_false_iff_ne]
      omega
    · simp only [Qn.says]
      rw [Bool.eq_iff_iff]
      simp only [beq_iff_eq, Bool.not_eq_true', decide_eq_false_iff_not]
      omega

end Go.Proofs.YteonanaihklgmaaDoor

namespace Go.Proofs.YteonanaihklgmaaDoor
open Pl

/-- the elements for the first variables, 0 for the others -/
def envL (zs : List Nat) : Env := fun v => zs.getD v.val 0

/-- the formula of a text -/
noncomputable def fmOf (s : ByteArray) : Fm := match parse s.data.toList with | some (f, _) => f | none => .fls
theorem fmOf_eq {s : ByteArray} {f : Fm} (h : s.data.toList = f.text) : fmOf s = f := by
  unfold fmOf
  rw [parse_some.2 (show s.data.toList = f.text ++ [] by rw [h]; simp)]

/-- a structure and a formula of which the first variables alone are free -/
noncomputable def rdyB (i : Int) (s r f : ByteArray) (k : Nat) : Bool := okB i s r && (fmB f.data.toList && decide ((fmOf f).freeBits / 2 ^ k = 0))
noncomputable def truV (i : Int) (s r f : ByteArray) (zs : List Nat) : Bool := (fmOf f).holds (ofSt i s r) (envL zs)
noncomputable def holdB (i : Int) (s r f : ByteArray) (zs : List Int) : Bool := rdyB i s r f zs.length && (decide (zs.length ≤ 4) && elAll i zs)
noncomputable def holdV (i : Int) (s r f : ByteArray) (zs : List Int) : Bool := holdB i s r f zs && truV i s r f (zs.map Int.toNat)

theorem rdy_noSt {i : Int} {s r : ByteArray} (h : okB i s r = false) (f : ByteArray) (k : Nat) : rdyB i s r f k = false := by unfold rdyB; rw [h]; rfl
theorem rdy_noFm {f : ByteArray} (h : fmB f.data.toList = false) (i : Int) (s r : ByteArray) (k : Nat) : rdyB i s r f k = false := by unfold rdyB; rw [h]; simp
theorem rdy_of {f : ByteArray} {g : Fm} (hg : fmB f.data.toList = true) (hf : f.data.toList = g.text) {a : St} (ha : a.ok) (k : Nat) : rdyB a.n (bs a.set) (bs a.rel) f k = decide (g.freeBits / 2 ^ k = 0) := by
  unfold rdyB
  rw [okB_true ha, hg, fmOf_eq hf]; rfl
theorem tru_of {f : ByteArray} {g : Fm} (hf : f.data.toList = g.text) (a : St) (zs : List Nat) : truV a.n (bs a.set) (bs a.rel) f zs = g.holds a (envL zs) := by
  unfold truV
  rw [fmOf_eq hf, ofSt_eq]
theorem env_lt {a : St} (ha : a.ok) {zs : List Nat} (hz : ∀ x ∈ zs, x < a.n) : ∀ v, envL zs v < a.n := fun v => by
  unfold envL
  by_cases h : v.val < zs.length
  · rw [List.getD_eq_getElem?_getD, List.getElem?_eq_getElem h]; exact hz _ (List.getElem_mem h)
  · rw [List.getD_eq_getElem?_getD, List.getElem?_eq_none (by omega)]; exact ha.lo
theorem hold_no {i : Int} {s r f : ByteArray} {zs : List Int} (h : holdB i s r f zs = false) : holdV i s r f zs = false := by unfold holdV; rw [h]; rfl
theorem hold_noRdy {i : Int} {s r f : ByteArray} {zs : List Int} (h : rdyB i s r f zs.length = false) : holdB i s r f zs = false := by unfold holdB; rw [h]; rfl
theorem hold_noLen {i : Int} {s r f : ByteArray} {zs : List Int} (h : ¬ zs.length ≤ 4) : holdB i s r f zs = false := by unfold holdB; rw [decide_eq_false h]; simp
theorem hold_noEl {i : Int} {s r f : ByteArray} {zs : List Int} (h : elAll i zs = false) : holdB i s r f zs = false := by unfold holdB; rw [h]; simp
theorem hold_yes {i : Int} {s r f : ByteArray} {zs : List Int} (h1 : rdyB i s r f zs.length = true) (h2 : zs.length ≤ 4) (h3 : elAll i zs = true) : holdB i s r f zs = true := by unfold holdB; rw [h1, h3, decide_eq_true h2]; rfl
theorem hold_yesV {i : Int} {s r f : ByteArray} {zs : List Int} (h : holdB i s r f zs = true) : holdV i s r f zs = truV i s r f (zs.map Int.toNat) := by unfold holdV; rw [h]; rfl
theorem elAll_nats {n : Nat} : ∀ {zs : List Int}, elAll n zs = true → zs = natsI (zs.map Int.toNat) ∧ ∀ x ∈ zs.map Int.toNat, x < n := by
  intro zs h
  unfold elAll at h
  rw [List.all_eq_true] at h
  constructor
  · unfold natsI
    rw [List.map_map]
    conv => lhs; rw [← List.map_id zs]
    refine List.map_congr_left fun z hz => ?_
    have := h z hz
    unfold elB at this
    simp at this ⊢
    omega
  · intro x hx
    obtain ⟨z, hz, rfl⟩ := List.mem_map.1 hx
    have := h z hz
    unfold elB at this
    simp at this
    omega

end Go.Proofs.YteonanaihklgmaaDoor

namespace Go.Proofs.YteonanaihklgmaaDoor
open Pl

/-- the list with a number -/
def ptK (n : Nat) : Nat → Nat → List Nat
  | 0, _ => []
  | w + 1, k => ptK n w (k / n) ++ [k % n]
/-- a list's lists of one element more -/
def extL (n : Nat) (l : List Nat) : List (List Nat) := (List.range n).map fun x => l ++ [x]
/-- all lists of so many elements -/
def listsK (n : Nat) : Nat → List (List Nat)
  | 0 => [[]]
  | w + 1 => (listsK n w).flatMap (extL n)

theorem ptK_len (n : Nat) : ∀ w k, (ptK n w k).length = w
  | 0, _ => rfl
  | w + 1, k => by simp [ptK, ptK_len n w]
theorem ptK_lt {n : Nat} (hn : 0 < n) : ∀ w k, ∀ x ∈ ptK n w k, x < n
  | 0, _, x, h => by simp [ptK] at h
  | w + 1, k, x, h => by
    simp only [ptK, List.mem_append, List.mem_singleton] at h
    rcases h with h | rfl
    · exact ptK_lt hn w _ x h
    · exact Nat.mod_lt _ hn
theorem range_mul (m n : Nat) : List.range (m * n) = (List.range m).flatMap fun j => (List.range n).map fun x => j * n + x := by
  induction m with
  | zero => simp
  | succ m ih =>
    rw [List.range_succ, List.flatMap_append, ← ih, Nat.succ_mul, List.range_add]
    simp
theorem listsK_eq {n : Nat} (hn : 0 < n) : ∀ w, listsK n w = (List.range (n ^ w)).map (ptK n w)
  | 0 => by simp [listsK, ptK]
  | w + 1 => by
    rw [listsK, listsK_eq hn w, Nat.pow_succ, range_mul, List.map_flatMap, List.flatMap_map]
    refine congrArg (fun f => List.flatMap f (List.range (n ^ w))) (funext fun j => ?_)
    unfold extL
    rw [List.map_map]
    refine List.map_congr_left fun x hx => ?_
    have hx := List.mem_range.1 hx
    simp only [Function.comp, ptK]
    rw [Nat.mul_comm j n, Nat.mul_add_div hn, Nat.div_eq_of_lt hx, Nat.mul_add_mod, Nat.mod_eq_of_lt hx, Nat.add_zero]
theorem listsK_len {n : Nat} (hn : 0 < n) (w : Nat) : (listsK n w).length = n ^ w := by rw [listsK_eq hn]; simp
theorem listsK_mem {n : Nat} (hn : 0 < n) {w : Nat} {l : List Nat} (h : l ∈ listsK n w) : l.length = w ∧ ∀ x ∈ l, x < n := by
  rw [listsK_eq hn] at h
  obtain ⟨k, _, rfl⟩ := List.mem_map.1 h
  exact ⟨ptK_len n w k, ptK_lt hn w k⟩
theorem ptK_get {n : Nat} (hn : 0 < n) : ∀ w k p, p < w → (ptK n w k).getD p 0 = (k / n ^ (w - 1 - p)) % n
  | 0, _, p, h => by omega
  | w + 1, k, p, h => by
    simp only [ptK]
    by_cases hp : p = w
    · subst hp
      rw [List.getD_eq_getElem?_getD, List.getElem?_append_right (by rw [ptK_len]; exact Nat.le_refl _), ptK_len]
      simp
    · rw [List.getD_eq_getElem?_getD, List.getElem?_append_left (by rw [ptK_len]; omega), ← List.getD_eq_getElem?_getD, ptK_get hn w (k / n) p (by omega), Nat.div_div_eq_div_mul, ← Nat.pow_succ']
      congr 3
      omega

/-- all lists so far -/
def flatK (n : Nat) (Ls : List (List Nat)) (j x : Nat) : List (List Nat) := (Ls.take j).flatMap (extL n) ++ (List.range x).map fun y => Ls.getD j [] ++ [y]
theorem flatK_zero (n : Nat) (Ls : List (List Nat)) : flatK n Ls 0 0 = [] := rfl
theorem flatK_succ (n : Nat) (Ls : List (List Nat)) (j x : Nat) : flatK n Ls j (x + 1) = flatK n Ls j x ++ [Ls.getD j [] ++ [x]] := by
  unfold flatK
  rw [List.range_succ, List.map_append, ← List.append_assoc]
  rfl
theorem flatK_next {n : Nat} {Ls : List (List Nat)} {j : Nat} (hj : j < Ls.length) : flatK n Ls j n = flatK n Ls (j + 1) 0 := by
  unfold flatK
  rw [List.take_add_one, List.flatMap_append, List.getElem?_eq_getElem hj, List.getD_eq_getElem?_getD, List.getElem?_eq_getElem hj]
  simp [extL]
theorem flatK_all (n : Nat) (Ls : List (List Nat)) : flatK n Ls Ls.length 0 = Ls.flatMap (extL n) := by
  unfold flatK
  rw [List.take_length]
  simp
theorem flatK_len {n : Nat} (Ls : List (List Nat)) (j x : Nat) (hj : j ≤ Ls.length) : (flatK n Ls j x).length = j * n + x := by
  unfold flatK
  rw [List.length_append, List.length_flatMap]
  have : ((Ls.take j).map fun l => (extL n l).length) = List.replicate j n := by
    rw [List.eq_replicate_iff]
    refine ⟨by simp; omega, fun b hb => ?_⟩
    obtain ⟨l, _, rfl⟩ := List.mem_map.1 hb
    simp [extL]
  rw [this]
  simp

end Go.Proofs.YteonanaihklgmaaDoor

namespace Go.Proofs.YteonanaihklgmaaDoor
open Go.RowKit
open Pl
set_option linter.unusedSimpArgs false
set_option linter.unusedVariables false

noncomputable def ptB (i : Int) (s r f : ByteArray) (x : Int) : Bool := decide (0 ≤ x) && (decide (x ≤ 3) && rdyB i s r f x.toNat)
noncomputable def ptL (i : Int) (s r f : ByteArray) (x : Int) : List (List Nat) := if ptB i s r f x then (listsK (ofSt i s r).n x.toNat).filter (truV i s r f) else []
noncomputable def cptV (i : Int) (s r f : ByteArray) (x : Int) : Int := if ptB i s r f x then ((ptL i s r f x).length : Int) else -1
noncomputable def fstV (i : Int) (s r f : ByteArray) (x : Int) : List Nat := (ptL i s r f x).headD []
noncomputable def fstB (i : Int) (s r f : ByteArray) (x : Int) : Bool := ptB i s r f x && !(ptL i s r f x).isEmpty
noncomputable def sameV (i : Int) (s r f g : ByteArray) : Bool := (rdyB i s r f 3 && rdyB i s r g 3) && decide (ptL i s r f 3 = ptL i s r g 3)
theorem pt_neg {i : Int} {s r f : ByteArray} {x : Int} (h : ¬ 0 ≤ x) : ptB i s r f x = false := by unfold ptB; rw [decide_eq_false h]; rfl
theorem pt_big {i : Int} {s r f : ByteArray} {x : Int} (h : ¬ x ≤ 3) : ptB i s r f x = false := by unfold ptB; rw [decide_eq_false h]; simp
theorem pt_nat (i : Int) (s r f : ByteArray) {k : Nat} (h : k ≤ 3) : ptB i s r f (k : Nat) = rdyB i s r f k := by
  unfold ptB
  rw [decide_eq_true (show (0 : Int) ≤ (k : Nat) by omega), decide_eq_true (show ((k : Nat) : Int) ≤ 3 by omega)]
  rfl
theorem pt_cases {i : Int} {s r f : ByteArray} {x : Int} (h : ptB i s r f x = true) : ∃ k : Nat, x = (k : Nat) ∧ k ≤ 3 ∧ rdyB i s r f k = true := by
  unfold ptB at h
  simp only [Bool.and_eq_true, decide_eq_true_eq] at h
  refine ⟨x.toNat, by omega, by omega, h.2.2⟩
theorem ptL_no {i : Int} {s r f : ByteArray} {x : Int} (h : ptB i s r f x = false) : ptL i s r f x = [] := by unfold ptL; rw [h]; rfl
theorem ptL_yes {a : St} {f : ByteArray} {g : Fm} {k : Nat} (hf : f.data.toList = g.text) (h : ptB a.n (bs a.set) (bs a.rel) f (k : Nat) = true) : ptL a.n (bs a.set) (bs a.rel) f (k : Nat) = (listsK a.n k).filter fun l => g.holds a (envL l) := by
  unfold ptL
  rw [h]
  simp only [if_true, ofSt_eq]
  refine List.filter_congr fun l _ => ?_
  rw [tru_of hf]
theorem ptL_len (i : Int) (s r f : ByteArray) (x : Int) : ∀ l ∈ ptL i s r f x, l.length ≤ 3 := by
  intro l hl
  unfold ptL at hl
  split at hl
  · rename_i h
    obtain ⟨k, rfl, hk, hr⟩ := pt_cases h
    have hn : 0 < (ofSt i s r).n := by
      rcases ok_cases i s r with h1 | ⟨a, ha, rfl, rfl, rfl⟩
      · rw [rdy_noSt h1] at hr; cases hr
      · rw [ofSt_eq]; exact ha.lo
    have := (listsK_mem hn (List.mem_filter.1 hl).1).1
    simp at this
    omega
  · simp at hl
theorem fst_le (i : Int) (s r f : ByteArray) (x : Int) : (fstV i s r f x).length ≤ 8 := by
  unfold fstV
  cases h : ptL i s r f x with
  | nil => simp
  | cons l t =>
    have := ptL_len i s r f x l (by rw [h]; simp)
    simp; omega
/-- the lists so far -/
def ftK (P : List Nat → Bool) (Ls : List (List Nat)) (j : Nat) : List (List Nat) := (Ls.take j).filter P
theorem ftK_succ (P : List Nat → Bool) (Ls : List (List Nat)) (j : Nat) (hj : j < Ls.length) : ftK P Ls (j + 1) = if P (Ls.getD j []) then ftK P Ls j ++ [Ls.getD j []] else ftK P Ls j := by
  unfold ftK
  rw [List.take_add_one, List.getD_eq_getElem?_getD, List.getElem?_eq_getElem hj, List.filter_append]
  cases h : P Ls[j] <;> simp [h]
theorem ftK_all (P : List Nat → Bool) (Ls : List (List Nat)) : ftK P Ls Ls.length = Ls.filter P := by unfold ftK; rw [List.take_length]
theorem ftK_le (P : List Nat → Bool) (Ls : List (List Nat)) (j : Nat) : (ftK P Ls j).length ≤ Ls.length := by
  unfold ftK
  exact Nat.le_trans (List.length_filter_le _ _) (by simp; omega)

end Go.Proofs.YteonanaihklgmaaDoor

namespace Go.Proofs.YteonanaihklgmaaDoor
open Pl
set_option linter.unusedSimpArgs false
set_option linter.unusedVariables false

theorem fm_bs {g : Fm} (h : g.text.length ≤ 4000) : fmB (bs g.text).data.toList = true := fmB_true.2 ⟨by simpa [bs] using h, g, by simp [bs]⟩
theorem bs_list (l : List UInt8) : (bs l).data.toList = l := by simp [bs]
theorem elAll_of_nats {n : Nat} {ns : List Nat} (h : ∀ x ∈ ns, x < n) : elAll n (natsI ns) = true := by
  unfold elAll
  rw [List.all_eq_true]
  intro z hz
  obtain ⟨x, hx, rfl⟩ := List.mem_map.1 hz
  have := h x hx
  unfold elB
  simp
  omega
theorem natsI_back (l : List Nat) : (natsI l).map Int.toNat = l := by
  unfold natsI
  rw [List.map_map]
  conv => rhs; rw [← List.map_id l]
  exact List.map_congr_left fun x _ => by simp

/-- HoldsAt of a formula, with elements for all that is free -/
theorem hold_fm {a : St} (ha : a.ok) {g : Fm} (hg : g.text.length ≤ 4000) {ns : List Nat} (hn : ∀ x ∈ ns, x < a.n) (hl : ns.length ≤ 4) (hf : g.freeBits / 2 ^ ns.length = 0) :
    holdB a.n (bs a.set) (bs a.rel) (bs g.text) (natsI ns) = true ∧ holdV a.n (bs a.set) (bs a.rel) (bs g.text) (natsI ns) = g.holds a (envL ns) := by
  have h1 : rdyB a.n (bs a.set) (bs a.rel) (bs g.text) (natsI ns).length = true := by
    rw [rdy_of (fm_bs hg) (bs_list _) ha, natsI_len, decide_eq_true hf]
  have h2 := hold_yes h1 (by rw [natsI_len]; exact hl) (elAll_of_nats hn)
  refine ⟨h2, ?_⟩
  rw [hold_yesV h2, natsI_back, tru_of (bs_list _)]
theorem hold_four {a : St} (ha : a.ok) {g : Fm} (hg : g.text.length ≤ 4000) {ns : List Nat} (hn : ∀ x ∈ ns, x < a.n) (hl : ns.length = 4) :
    holdV a.n (bs a.set) (bs a.rel) (bs g.text) (natsI ns) = g.holds a (envL ns) :=
  (hold_fm ha hg hn (by omega) (by have := freeBits_lt g; rw [hl]; omega)).2
/-- HoldsAt of anything: no, or a formula, a structure and elements -/
theorem hold_cases (i : Int) (s r f : ByteArray) (zs : List Int) : (holdB i s r f zs = false ∧ holdV i s r f zs = false) ∨
    ∃ (a : St) (g : Fm) (ns : List Nat), a.ok ∧ i = a.n ∧ s = bs a.set ∧ r = bs a.rel ∧ f = bs g.text ∧ g.text.length ≤ 4000 ∧ zs = natsI ns ∧ (∀ x ∈ ns, x < a.n) ∧ ns.length ≤ 4 ∧ g.freeBits / 2 ^ ns.length = 0 ∧ holdB i s r f zs = true ∧ holdV i s r f zs = g.holds a (envL ns) := by
  cases h : holdB i s r f zs with
  | false => exact .inl ⟨rfl, hold_no h⟩
  | true =>
    right
    have h0 := h
    unfold holdB rdyB at h
    simp only [Bool.and_eq_true, decide_eq_true_eq] at h
    obtain ⟨⟨h1, h2, h3⟩, h4, h5⟩ := h
    rcases ok_cases i s r with hq | ⟨a, ha, rfl, rfl, rfl⟩
    · rw [h1] at hq; cases hq
    rcases fm_cases f with ⟨hq, _⟩ | ⟨g, hb, hf, hs4, hl4⟩
    · rw [h2] at hq; cases hq
    obtain ⟨e1, e2⟩ := elAll_nats h5
    rw [fmOf_eq hf] at h3
    refine ⟨a, g, zs.map Int.toNat, ha, rfl, rfl, rfl, eq_bs hf, hl4, e1, e2, by simpa using h4, by simpa using h3, rfl, ?_⟩
    rw [hold_yesV h0, tru_of hf]

theorem text_app (l m : List UInt8) : bs l ++ bs m = bs (l ++ m) := by rw [append_bs, bs_list, bs_list]
theorem mk_bs (x : Array UInt8) : ByteArray.mk x = bs x.toList := by unfold bs; simp

end Go.Proofs.YteonanaihklgmaaDoor

namespace Go.Proofs.YteonanaihklgmaaDoor
open Go.RowKit
open Pl
set_option linter.unusedSimpArgs false
set_option linter.unusedVariables false

/-- how many lists of k elements make g true -/
noncomputable def cntL (a : St) (g : Fm) (k : Nat) : Nat := ((listsK a.n k).filter fun l => g.holds a (envL l)).length
theorem cpt_fm {a : St} (ha : a.ok) {g : Fm} (hg : g.text.length ≤ 4000) {k : Nat} (hk : k ≤ 3) (hf : g.freeBits / 2 ^ k = 0) : cptV a.n (bs a.set) (bs a.rel) (bs g.text) (k : Nat) = (cntL a g k : Nat) := by
  have h : ptB a.n (bs a.set) (bs a.rel) (bs g.text) (k : Nat) = true := by
    rw [pt_nat _ _ _ _ hk, rdy_of (fm_bs hg) (bs_list _) ha, decide_eq_true hf]
  unfold cptV
  rw [h, ptL_yes (bs_list _) h]
  rfl
theorem cpt_cases (i : Int) (s r f : ByteArray) (x : Int) : cptV i s r f x = -1 ∨
    ∃ (a : St) (g : Fm) (k : Nat), a.ok ∧ i = a.n ∧ s = bs a.set ∧ r = bs a.rel ∧ f = bs g.text ∧ g.text.length ≤ 4000 ∧ x = (k : Nat) ∧ k ≤ 3 ∧ g.freeBits / 2 ^ k = 0 ∧ cptV i s r f x = (cntL a g k : Nat) := by
  cases h : ptB i s r f x with
  | false => left; unfold cptV; rw [h]; rfl
  | true =>
    right
    obtain ⟨k, rfl, hk, hr⟩ := pt_cases h
    unfold rdyB at hr
    simp only [Bool.and_eq_true, decide_eq_true_eq] at hr
    obtain ⟨h1, h2, h3⟩ := hr
    rcases ok_cases i s r with hq | ⟨a, ha, rfl, rfl, rfl⟩
    · rw [h1] at hq; cases hq
    rcases fm_cases f with ⟨hq, _⟩ | ⟨g, hb, hf, hs4, hl4⟩
    · rw [h2] at hq; cases hq
    rw [fmOf_eq hf] at h3
    obtain rfl := eq_bs hf
    exact ⟨a, g, k, ha, rfl, rfl, rfl, rfl, hl4, rfl, hk, h3, cpt_fm ha hl4 hk h3⟩
theorem filter_not {α : Type} (p : α → Bool) : ∀ l : List α, (l.filter p).length + (l.filter fun x => !p x).length = l.length := by
  intro l
  induction l with
  | nil => rfl
  | cons x l ih => cases h : p x <;> simp [h] <;> omega
theorem cnt_neg {a : St} (ha : a.ok) (g : Fm) (k : Nat) : cntL a g k + cntL a (.neg g) k = a.n ^ k := by
  have h := filter_not (fun l => g.holds a (envL l)) (listsK a.n k)
  rw [listsK_len (by have := ha.lo; omega)] at h
  exact h
theorem cntL_le {a : St} (ha : a.ok) (g : Fm) (k : Nat) : cntL a g k ≤ a.n ^ k := by have := cnt_neg ha g k; omega
theorem free_lt {g : Fm} {k : Nat} (hf : g.freeBits / 2 ^ k = 0) {v : Fin 4} (hv : g.isFree v) : v.val < k := by
  apply Classical.byContradiction
  intro hge
  have h1 : g.freeBits < 2 ^ k := by
    have h2 : 0 < 2 ^ k := Nat.two_pow_pos _
    have := Nat.div_add_mod g.freeBits (2 ^ k)
    rw [hf] at this
    have := Nat.mod_lt g.freeBits h2
    omega
  have h3 : g.freeBits < 2 ^ v.val := Nat.lt_of_lt_of_le h1 (Nat.pow_le_pow_right (by decide) (by omega))
  unfold Fm.isFree at hv
  rw [Nat.testBit_lt_two_pow h3] at hv
  cases hv
theorem cnt_flat {a : St} {g : Fm} {k : Nat} (hf : g.freeBits / 2 ^ k = 0) : ∀ Ls : List (List Nat), (∀ l ∈ Ls, l.length = k) → ((Ls.flatMap (extL a.n)).filter fun l => g.holds a (envL l)).length = (Ls.filter fun l => g.holds a (envL l)).length * a.n := by
  intro Ls
  induction Ls with
  | nil => intro _; simp
  | cons l Ls ih =>
    intro hl
    have hll := hl l (by simp)
    have he : ∀ x, g.holds a (envL (l ++ [x])) = g.holds a (envL l) := fun x => holds_free a g _ _ fun v hv => by
      have := free_lt hf hv
      unfold envL
      rw [List.getD_eq_getElem?_getD, List.getD_eq_getElem?_getD, List.getElem?_append_left (by omega)]
    have h1 : ((extL a.n l).filter fun l => g.holds a (envL l)).length = if g.holds a (envL l) then a.n else 0 := by
      unfold extL
      rw [List.filter_map, List.length_map]
      cases hb : g.holds a (envL l) with
      | false => rw [List.filter_eq_nil_iff.2 (fun x _ => by simp [he, hb])]; rfl
      | true => rw [List.filter_eq_self.2 (fun x _ => by simp [he, hb])]; simp
    rw [List.flatMap_cons, List.filter_append, List.length_append, ih fun m hm => hl m (by simp [hm]), h1]
    cases hb : g.holds a (envL l) with
    | false => simp [hb]
    | true => simp [hb, Nat.succ_mul]; omega
theorem cnt_more {a : St} (ha : a.ok) {g : Fm} {k : Nat} (hf : g.freeBits / 2 ^ k = 0) : cntL a g (k + 1) = cntL a g k * a.n := by
  have h := cnt_flat (a := a) hf (listsK a.n k) (fun l hl => (listsK_mem (by have := ha.lo; omega) hl).1)
  exact h
theorem cpt_big (i : Int) (s r f : ByteArray) {x : Int} (h : 3 < x) : cptV i s r f x = -1 := by
  unfold cptV
  rw [pt_big (by omega)]
  rfl

end Go.Proofs.YteonanaihklgmaaDoor

namespace Go.Proofs.YteonanaihklgmaaDoor
open Go.RowKit
open Pl
set_option linter.unusedSimpArgs false
set_option linter.unusedVariables false

/-- the pairs for which a formula is true, as a relation's text -/
noncomputable def relV (i : Int) (s r f : ByteArray) : ByteArray := if rdyB i s r f 2 then bs (relTo (ofSt i s r).n (fun x y => truV i s r f [x, y]) (ofSt i s r).n) else bs []
theorem rel_no {i : Int} {s r f : ByteArray} (h : rdyB i s r f 2 = false) : relV i s r f = bs [] := by unfold relV; rw [h]; rfl
theorem rel_yes {a : St} {f : ByteArray} {g : Fm} (hf : f.data.toList = g.text) (h : rdyB a.n (bs a.set) (bs a.rel) f 2 = true) : relV a.n (bs a.set) (bs a.rel) f = bs (relTo a.n (fun x y => g.holds a (envL [x, y])) a.n) := by
  unfold relV
  rw [h]
  simp only [tru_of hf, ofSt_eq, if_true]

end Go.Proofs.YteonanaihklgmaaDoor

namespace Go.Proofs.YteonanaihklgmaaDoor
namespace Pl

theorem part_iso {a : St} {m : List Nat} (hm : IsPerm a.n m) : m ∈ isos a (a.part m) := by
  have hl := hm.len
  refine mem_isos_iff.2 ⟨hm, fun i hi => ?_, fun i j hi hj => ?_⟩
  · unfold St.part
    rw [mkSt_inS (by omega)]
    rfl
  · unfold St.part
    rw [mkSt_inR (by omega) (by omega)]
    rfl

/-- an element, and behind it all others -/
def frontL (n x : Nat) : List Nat := x :: (List.range n).filter fun y => y != x

theorem front_perm {n x : Nat} (hx : x < n) : IsPerm n (frontL n x) := by
  have hnd : (frontL n x).Nodup := by
    unfold frontL
    rw [List.nodup_cons]
    exact ⟨by simp, List.nodup_range.filter _⟩
  have hlt : ∀ y ∈ frontL n x, y < n := by
    intro y hy
    unfold frontL at hy
    rcases List.mem_cons.1 hy with rfl | hy
    · exact hx
    · exact List.mem_range.1 (List.mem_filter.1 hy).1
  refine ⟨?_, hnd, hlt⟩
  have h := nodup_len_eq hnd (List.nodup_range (n := n)) (fun y => ⟨fun hy => List.mem_range.2 (hlt y hy), fun hy => by
    unfold frontL
    by_cases e : y = x
    · subst e; simp
    · exact List.mem_cons_of_mem _ (List.mem_filter.2 ⟨hy, by simpa using e⟩)⟩)
  simpa using h

/-- the elements that the reference finds -/
def orbS (a : St) (x : Nat) : List Nat := (List.range a.n).filter fun y => a.inS y == a.inS x && (a.inR y y == a.inR x x && !(shapes a (a.part (frontL a.n x)) (a.n - 1) [y]).isEmpty)

theorem orbS_eq {a : St} {x : Nat} (hx : x < a.n) : orbS a x = orbL a.n (isos a a) x := by
  unfold orbS orbL
  refine List.filter_congr fun y hy => ?_
  have hy := List.mem_range.1 hy
  have hm := front_perm hx
  have hmi := part_iso (a := a) hm
  have hml := hm.len
  have hbn : (a.part (frontL a.n x)).n = a.n := hml
  have hab : a.n = (a.part (frontL a.n x)).n := hbn.symm
  have h0 : 0 < a.n := by omega
  have hm0 : app (frontL a.n x) 0 = x := rfl
  obtain ⟨_, hmS, hmR⟩ := mem_isos_iff.1 hmi
  rw [Bool.eq_iff_iff]
  simp only [Bool.and_eq_true, beq_iff_eq, Bool.not_eq_true', List.any_eq_true]
  constructor
  · rintro ⟨h1, h2, h3⟩
    obtain ⟨l, hl⟩ : ∃ l, l ∈ shapes a (a.part (frontL a.n x)) (a.n - 1) [y] := by
      cases hs : shapes a (a.part (frontL a.n x)) (a.n - 1) [y] with
      | nil => rw [hs] at h3; cases h3
      | cons l L => exact ⟨l, by simp⟩
    have hf : Fits a (a.part (frontL a.n x)) [y] := by
      refine ⟨by simp, by simpa using hy, fun i hi => ?_, fun i j hi hj => ?_⟩
      · simp only [List.length_singleton] at hi
        obtain rfl : i = 0 := by omega
        rw [← hmS 0 h0, hm0, ← h1]; rfl
      · simp only [List.length_singleton] at hi hj
        obtain rfl : i = 0 := by omega
        obtain rfl : j = 0 := by omega
        rw [← hmR 0 0 h0 h0, hm0, ← h2]; rfl
    obtain ⟨t, rfl, ht, hfl⟩ := (mem_shapes _ _ _ hf).1 hl
    have hli : [y] ++ t ∈ isos a (a.part (frontL a.n x)) := mem_isos.2 ⟨by simp [ht]; omega, hfl⟩
    refine ⟨_, iso_comp hab hli (iso_inv hab hmi), ?_⟩
    have e : app (inv (frontL a.n x)) x = 0 := by
      have := inv_app hm h0
      rwa [hm0] at this
    rw [app_comp (by rw [len_inv, hml]; exact hx), e]
    rfl
  · rintro ⟨l, hl, rfl⟩
    obtain ⟨hp, hS, hR⟩ := mem_isos_iff.1 hl
    refine ⟨hS x hx, hR x x hx hx, ?_⟩
    have hli := iso_comp rfl hl hmi
    have hlen : (comp l (frontL a.n x)).length = a.n := by rw [len_comp, hml]
    have happ : app (comp l (frontL a.n x)) 0 = app l x := by rw [app_comp (by rw [hml]; exact h0), hm0]
    obtain ⟨t, ht⟩ : ∃ t, comp l (frontL a.n x) = app l x :: t := by
      cases hc : comp l (frontL a.n x) with
      | nil => rw [hc] at hlen; simp at hlen; omega
      | cons z t => rw [hc] at happ; exact ⟨t, by rw [show z = app l x from happ]⟩
    rw [ht] at hli hlen
    obtain ⟨_, hfit⟩ := mem_isos.1 hli
    have hmem : app l x :: t ∈ shapes a (a.part (frontL a.n x)) (a.n - 1) [app l x] :=
      (mem_shapes _ _ _ (Fits.prefix t (by simpa using hfit))).2 ⟨t, rfl, by simp at hlen; omega, hfit⟩
    cases hs : shapes a (a.part (frontL a.n x)) (a.n - 1) [app l x] with
    | nil => rw [hs] at hmem; cases hmem
    | cons l L => rfl

end Pl
end Go.Proofs.YteonanaihklgmaaDoor
