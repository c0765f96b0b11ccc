/-
  Laws of the functions that the claim reaches, one after the other (packed by a program of the prover's: SpecPush, Not, PushNot, Sem2, PnP, RegC, WPushLaw, Reg3). Conditions: texts below the reach.
-/
import Derived.Test.YteonanaihklgmaaDoorPp9
import Derived.Test.YteonanaihklgmaaDoorPp7
import Derived.Deep.QuietTactic
import Derived.BigQuiet
import Derived.WalkSmall
import Derived.Test.YteonanaihklgmaaDoorPp4
import Derived.Test.YteonanaihklgmaaDoorPp3
import Derived.Test.YteonanaihklgmaaDoorPp0
import Derived.Test.YteonanaihklgmaaDoorPp2
import Derived.Maps.AppendAt
set_option linter.unusedSimpArgs false
set_option linter.unusedVariables false

namespace Go.Proofs.YteonanaihklgmaaDoor
open Go.RowKit
open Pl
set_option linter.unusedSimpArgs false

theorem l2Int_calls (b : Bool) (w : World) : Calls Tryd.prog 70 #[.bool b] w fun e w' => e = .returned (.int .i64 (if b then 1 else 0)) ∧ w' = w := by
  cases b with
  | true =>
    go_enter Tryd.func70, Tryd.ntmps70
    go_wp2_with fail
    go_ret
    exact ⟨rfl, rfl⟩
  | false =>
    go_enter Tryd.func70, Tryd.ntmps70
    go_wp2_with fail
    go_ret
    exact ⟨rfl, rfl⟩

theorem int_eq {k : IntKind} {a b : Int} (h : a = b) : Value.int k a = .int k b := by rw [h]

/-- a piece of a text -/
theorem piece {s : ByteArray} {k : Nat} {x r : List UInt8} (h : s.data.toList.drop k = x ++ r) (j : Nat) (hj : j = k + x.length) : (s.extract k j).data.toList = x := by
  subst hj
  rw [Lib.extract_data, h]
  simp

theorem piece_eq {s : ByteArray} {k : Nat} {x r : List UInt8} (h : s.data.toList.drop k = x ++ r) (j : Nat) (hj : j = k + x.length) : s.extract k j = bs x := eq_bs (piece h j hj)

theorem piece_size {s : ByteArray} {k : Nat} {x r : List UInt8} (h : s.data.toList.drop k = x ++ r) (j : Nat) (hj : j = k + x.length) : (s.extract k j).size = x.length := by
  rw [Lib.size_eq, piece h j hj]

set_option maxHeartbeats 4000000 in
set_option maxRecDepth 100000 in
theorem l2Push_calls (n : Nat) : ∀ (o : Bool) (f : Fm) (s : ByteArray) (k : Nat) (r : List UInt8) (m : Int) (w : World), f.size ≤ n → s.data.toList.drop k = f.text ++ r → s.size ≤ 300000 → m = k →
    Calls Tryd.prog 37 #[.string s, .int .i64 m, .bool o] w fun e w' => e = .returned (.tuple #[.string (bs (pushL o f)), .int .i64 (k + f.text.length : Nat)]) ∧ Below w.heap.size w w' := by
  induction n with
  | zero => intro o f s k r m w hn; cases f <;> simp [Fm.size] at hn
  | succ n ih =>
    intro o f s k r m w hn hd hs hm
    subst hm
    obtain ⟨hk1, hop, hle⟩ := at_op hd
    have hk := hk1
    have Ih := Lib.hid ih
    clear ih
    cases f with
    | tru =>
      have hk := hk1
      have hb : (s[k].toNat : Int) = 116 := by rw [hop]; rfl
      clear hop hd
      cases o with
      | true =>
        go_enter Tryd.func37, Tryd.ntmps37
        go_upto_region 4 with (fail)
        go_quiet ((go_at_call 70; exact Calls.quiet_of_same (l2Int_calls _ _)))
        go_wp2_with fail
        go_ret2
        refine ⟨ret_pair (str_eq (eq_bs ?_)) (int_eq ?_), ?_⟩
        · simp [bs_data, pushL, Fm.push, Fm.text, Qn.b]
        · simp [Fm.text] <;> omega
        · first
            | exact Below.refl _ _
            | exact below_drewN (Below.refl _ _) _
            | assumption
            | exact (hb1.trans (hb2.mono hb1.size))
            | exact ((below_drewN (Below.refl _ _) _).trans hb1)
            | exact ((below_drewN (Below.refl _ _) _).trans (hb1.trans (hb2.mono hb1.size)))
      | false =>
        go_enter Tryd.func37, Tryd.ntmps37
        go_upto_region 4 with (fail)
        go_quiet ((go_at_call 70; exact Calls.quiet_of_same (l2Int_calls _ _)))
        go_wp2_with fail
        go_ret2
        refine ⟨ret_pair (str_eq (eq_bs ?_)) (int_eq ?_), ?_⟩
        · simp [bs_data, pushL, Fm.push, Fm.text, Qn.b]
        · simp [Fm.text] <;> omega
        · first
            | exact Below.refl _ _
            | exact below_drewN (Below.refl _ _) _
            | assumption
            | exact (hb1.trans (hb2.mono hb1.size))
            | exact ((below_drewN (Below.refl _ _) _).trans hb1)
            | exact ((below_drewN (Below.refl _ _) _).trans (hb1.trans (hb2.mono hb1.size)))
    | fls =>
      have hk := hk1
      have hb : (s[k].toNat : Int) = 102 := by rw [hop]; rfl
      clear hop hd
      cases o with
      | true =>
        go_enter Tryd.func37, Tryd.ntmps37
        go_upto_region 4 with (fail)
        go_quiet ((go_at_call 70; exact Calls.quiet_of_same (l2Int_calls _ _)))
        go_wp2_with fail
        go_ret2
        refine ⟨ret_pair (str_eq (eq_bs ?_)) (int_eq ?_), ?_⟩
        · simp [bs_data, pushL, Fm.push, Fm.text, Qn.b]
        · simp [Fm.text] <;> omega
        · first
            | exact Below.refl _ _
            | exact below_drewN (Below.refl _ _) _
            | assumption
            | exact (hb1.trans (hb2.mono hb1.size))
            | exact ((below_drewN (Below.refl _ _) _).trans hb1)
            | exact ((below_drewN (Below.refl _ _) _).trans (hb1.trans (hb2.mono hb1.size)))
      | false =>
        go_enter Tryd.func37, Tryd.ntmps37
        go_upto_region 4 with (fail)
        go_quiet ((go_at_call 70; exact Calls.quiet_of_same (l2Int_calls _ _)))
        go_wp2_with fail
        go_ret2
        refine ⟨ret_pair (str_eq (eq_bs ?_)) (int_eq ?_), ?_⟩
        · simp [bs_data, pushL, Fm.push, Fm.text, Qn.b]
        · simp [Fm.text] <;> omega
        · first
            | exact Below.refl _ _
            | exact below_drewN (Below.refl _ _) _
            | assumption
            | exact (hb1.trans (hb2.mono hb1.size))
            | exact ((below_drewN (Below.refl _ _) _).trans hb1)
            | exact ((below_drewN (Below.refl _ _) _).trans (hb1.trans (hb2.mono hb1.size)))
    | pr v =>
      have hb : (s[k].toNat : Int) = 80 := by rw [hop]; rfl
      have hend : Calls Tryd.prog 69 #[.string s, .int .i64 k] w fun e w' => e = .returned (.int .i64 (endI s.data.toList k)) ∧ w = w' := l2End_calls s.size s k w (by omega) (by unfold maxLen; omega) (by omega)
      rw [endI_some hd, show k + (Fm.text (.pr v)).length = k + 2 from rfl] at hend
      have hx := piece_eq hd (k + 2) (by simp [Fm.text])
      have hz := piece_size hd (k + 2) (by simp [Fm.text])
      have Hend := Lib.hid hend
      have Hx := Lib.hid hx
      simp only [Fm.text, List.length_cons, List.length_nil] at hle hz
      clear hop hend hd hx
      cases o with
      | true =>
        go_enter Tryd.func37, Tryd.ntmps37
        go_wp2_with (go_at_call 69; refine (Hend.out).mono ?_; rintro e w' ⟨rfl, rfl⟩)
        go_ret2
        refine ⟨ret_pair (str_eq (eq_bs ?_)) (int_eq ?_), ?_⟩
        · simp [bs_data, pushL, Fm.push, Fm.text, Qn.b, Hx.out]
        · simp [Fm.text] <;> omega
        · first
            | exact Below.refl _ _
            | exact below_drewN (Below.refl _ _) _
            | assumption
            | exact (hb1.trans (hb2.mono hb1.size))
            | exact ((below_drewN (Below.refl _ _) _).trans hb1)
            | exact ((below_drewN (Below.refl _ _) _).trans (hb1.trans (hb2.mono hb1.size)))
      | false =>
        go_enter Tryd.func37, Tryd.ntmps37
        go_wp2_with (go_at_call 69; refine (Hend.out).mono ?_; rintro e w' ⟨rfl, rfl⟩)
        go_ret2
        refine ⟨ret_pair (str_eq (eq_bs ?_)) (int_eq ?_), ?_⟩
        · simp [bs_data, pushL, Fm.push, Fm.text, Qn.b, Hx.out]
        · simp [Fm.text] <;> omega
        · first
            | exact Below.refl _ _
            | exact below_drewN (Below.refl _ _) _
            | assumption
            | exact (hb1.trans (hb2.mono hb1.size))
            | exact ((below_drewN (Below.refl _ _) _).trans hb1)
            | exact ((below_drewN (Below.refl _ _) _).trans (hb1.trans (hb2.mono hb1.size)))
    | eq v u =>
      have hb : (s[k].toNat : Int) = 61 := by rw [hop]; rfl
      have hend : Calls Tryd.prog 69 #[.string s, .int .i64 k] w fun e w' => e = .returned (.int .i64 (endI s.data.toList k)) ∧ w = w' := l2End_calls s.size s k w (by omega) (by unfold maxLen; omega) (by omega)
      rw [endI_some hd, show k + (Fm.text (.eq v u)).length = k + 3 from rfl] at hend
      have hx := piece_eq hd (k + 3) (by simp [Fm.text])
      have hz := piece_size hd (k + 3) (by simp [Fm.text])
      have Hend := Lib.hid hend
      have Hx := Lib.hid hx
      simp only [Fm.text, List.length_cons, List.length_nil] at hle hz
      clear hop hend hd hx
      cases o with
      | true =>
        go_enter Tryd.func37, Tryd.ntmps37
        go_wp2_with (go_at_call 69; refine (Hend.out).mono ?_; rintro e w' ⟨rfl, rfl⟩)
        go_ret2
        refine ⟨ret_pair (str_eq (eq_bs ?_)) (int_eq ?_), ?_⟩
        · simp [bs_data, pushL, Fm.push, Fm.text, Qn.b, Hx.out]
        · simp [Fm.text] <;> omega
        · first
            | exact Below.refl _ _
            | exact below_drewN (Below.refl _ _) _
            | assumption
            | exact (hb1.trans (hb2.mono hb1.size))
            | exact ((below_drewN (Below.refl _ _) _).trans hb1)
            | exact ((below_drewN (Below.refl _ _) _).trans (hb1.trans (hb2.mono hb1.size)))
      | false =>
        go_enter Tryd.func37, Tryd.ntmps37
        go_wp2_with (go_at_call 69; refine (Hend.out).mono ?_; rintro e w' ⟨rfl, rfl⟩)
        go_ret2
        refine ⟨ret_pair (str_eq (eq_bs ?_)) (int_eq ?_), ?_⟩
        · simp [bs_data, pushL, Fm.push, Fm.text, Qn.b, Hx.out]
        · simp [Fm.text] <;> omega
        · first
            | exact Below.refl _ _
            | exact below_drewN (Below.refl _ _) _
            | assumption
            | exact (hb1.trans (hb2.mono hb1.size))
            | exact ((below_drewN (Below.refl _ _) _).trans hb1)
            | exact ((below_drewN (Below.refl _ _) _).trans (hb1.trans (hb2.mono hb1.size)))
    | rel v u =>
      have hb : (s[k].toNat : Int) = 69 := by rw [hop]; rfl
      have hend : Calls Tryd.prog 69 #[.string s, .int .i64 k] w fun e w' => e = .returned (.int .i64 (endI s.data.toList k)) ∧ w = w' := l2End_calls s.size s k w (by omega) (by unfold maxLen; omega) (by omega)
      rw [endI_some hd, show k + (Fm.text (.rel v u)).length = k + 3 from rfl] at hend
      have hx := piece_eq hd (k + 3) (by simp [Fm.text])
      have hz := piece_size hd (k + 3) (by simp [Fm.text])
      have Hend := Lib.hid hend
      have Hx := Lib.hid hx
      simp only [Fm.text, List.length_cons, List.length_nil] at hle hz
      clear hop hend hd hx
      cases o with
      | true =>
        go_enter Tryd.func37, Tryd.ntmps37
        go_wp2_with (go_at_call 69; refine (Hend.out).mono ?_; rintro e w' ⟨rfl, rfl⟩)
        go_ret2
        refine ⟨ret_pair (str_eq (eq_bs ?_)) (int_eq ?_), ?_⟩
        · simp [bs_data, pushL, Fm.push, Fm.text, Qn.b, Hx.out]
        · simp [Fm.text] <;> omega
        · first
            | exact Below.refl _ _
            | exact below_drewN (Below.refl _ _) _
            | assumption
            | exact (hb1.trans (hb2.mono hb1.size))
            | exact ((below_drewN (Below.refl _ _) _).trans hb1)
            | exact ((below_drewN (Below.refl _ _) _).trans (hb1.trans (hb2.mono hb1.size)))
      | false =>
        go_enter Tryd.func37, Tryd.ntmps37
        go_wp2_with (go_at_call 69; refine (Hend.out).mono ?_; rintro e w' ⟨rfl, rfl⟩)
        go_ret2
        refine ⟨ret_pair (str_eq (eq_bs ?_)) (int_eq ?_), ?_⟩
        · simp [bs_data, pushL, Fm.push, Fm.text, Qn.b, Hx.out]
        · simp [Fm.text] <;> omega
        · first
            | exact Below.refl _ _
            | exact below_drewN (Below.refl _ _) _
            | assumption
            | exact (hb1.trans (hb2.mono hb1.size))
            | exact ((below_drewN (Below.refl _ _) _).trans hb1)
            | exact ((below_drewN (Below.refl _ _) _).trans (hb1.trans (hb2.mono hb1.size)))
    | neg p =>
      have hb : (s[k].toNat : Int) = 33 := by rw [hop]; rfl
      have hcall := Ih.out (!o) p s (k + 1) r ((k : Int) + 1) w (by simp [Fm.size] at hn; omega) (at_one hd) hs (by omega)
      have Hcall := Lib.hid hcall
      simp only [Fm.text, List.length_cons] at hle
      clear hop hcall hd
      cases o with
      | true =>
        go_enter Tryd.func37, Tryd.ntmps37
        go_wp2_with (go_at_call 37; refine (Hcall.out).mono ?_; rintro e w1 ⟨rfl, hb1⟩)
        go_ret2
        refine ⟨ret_pair (str_eq (eq_bs ?_)) (int_eq ?_), ?_⟩
        · simp [bs_data, pushL, Fm.push, Fm.text, Qn.b]
        · simp [Fm.text] <;> omega
        · first
            | exact Below.refl _ _
            | exact below_drewN (Below.refl _ _) _
            | assumption
            | exact (hb1.trans (hb2.mono hb1.size))
            | exact ((below_drewN (Below.refl _ _) _).trans hb1)
            | exact ((below_drewN (Below.refl _ _) _).trans (hb1.trans (hb2.mono hb1.size)))
      | false =>
        go_enter Tryd.func37, Tryd.ntmps37
        go_wp2_with (go_at_call 37; refine (Hcall.out).mono ?_; rintro e w1 ⟨rfl, hb1⟩)
        go_ret2
        refine ⟨ret_pair (str_eq (eq_bs ?_)) (int_eq ?_), ?_⟩
        · simp [bs_data, pushL, Fm.push, Fm.text, Qn.b]
        · simp [Fm.text] <;> omega
        · first
            | exact Below.refl _ _
            | exact below_drewN (Below.refl _ _) _
            | assumption
            | exact (hb1.trans (hb2.mono hb1.size))
            | exact ((below_drewN (Below.refl _ _) _).trans hb1)
            | exact ((below_drewN (Below.refl _ _) _).trans (hb1.trans (hb2.mono hb1.size)))
    | con p q =>
      have hb : (s[k].toNat : Int) = 38 := by rw [hop]; rfl
      obtain ⟨hd1, hd2⟩ := at_two hd
      have hcall := fun w => Ih.out o p s (k + 1) _ ((k : Int) + 1) w (by simp [Fm.size] at hn; omega) hd1 hs (by omega)
      have hcall2 := fun w => Ih.out o q s (k + 1 + p.text.length) _ ((k + 1 + p.text.length : Nat) : Int) w (by simp [Fm.size] at hn; omega) hd2 hs rfl
      have hx := piece_eq (show s.data.toList.drop k = [38] ++ (p.text ++ q.text ++ r) by rw [hd]; simp [Fm.text]) (k + 1) rfl
      have hz := piece_size (show s.data.toList.drop k = [38] ++ (p.text ++ q.text ++ r) by rw [hd]; simp [Fm.text]) (k + 1) rfl
      have Hcall := Lib.hid hcall
      have Hcall2 := Lib.hid hcall2
      have Hx := Lib.hid hx
      simp only [Fm.text, List.length_cons, List.length_append, List.length_nil] at hle hz
      have hp1 : (bs (pushL o p)).size ≤ 600000 := by rw [bs_size]; have := pushL_le o p; omega
      have hq1 : (bs (pushL o q)).size ≤ 600000 := by rw [bs_size]; have := pushL_le o q; omega
      clear hop hcall hcall2 hd hd1 hd2 hx
      cases o with
      | true =>
        go_enter Tryd.func37, Tryd.ntmps37
        go_upto_region 11 with (fail)
        go_quiet ((go_at_call 70; exact Calls.quiet_of_same (l2Int_calls _ _)))
        go_upto_region 13 with (go_at_call 37; refine (Hcall.out _).mono ?_; rintro e w1 ⟨rfl, hb1⟩)
        go_wp2_with (go_at_call 37; refine (Hcall2.out _).mono ?_; rintro e w2 ⟨rfl, hb2⟩)
        go_ret2
        refine ⟨ret_pair (str_eq (eq_bs ?_)) (int_eq ?_), ?_⟩
        · simp [bs_data, pushL, Fm.push, Fm.text, Qn.b, Hx.out]
        · simp [Fm.text] <;> omega
        · first
            | exact Below.refl _ _
            | exact below_drewN (Below.refl _ _) _
            | assumption
            | exact (hb1.trans (hb2.mono hb1.size))
            | exact ((below_drewN (Below.refl _ _) _).trans hb1)
            | exact ((below_drewN (Below.refl _ _) _).trans (hb1.trans (hb2.mono hb1.size)))
      | false =>
        go_enter Tryd.func37, Tryd.ntmps37
        go_upto_region 13 with (go_at_call 37; refine (Hcall.out _).mono ?_; rintro e w1 ⟨rfl, hb1⟩)
        go_wp2_with (go_at_call 37; refine (Hcall2.out _).mono ?_; rintro e w2 ⟨rfl, hb2⟩)
        go_ret2
        refine ⟨ret_pair (str_eq (eq_bs ?_)) (int_eq ?_), ?_⟩
        · simp [bs_data, pushL, Fm.push, Fm.text, Qn.b, Hx.out]
        · simp [Fm.text] <;> omega
        · first
            | exact Below.refl _ _
            | exact below_drewN (Below.refl _ _) _
            | assumption
            | exact (hb1.trans (hb2.mono hb1.size))
            | exact ((below_drewN (Below.refl _ _) _).trans hb1)
            | exact ((below_drewN (Below.refl _ _) _).trans (hb1.trans (hb2.mono hb1.size)))
    | dis p q =>
      have hb : (s[k].toNat : Int) = 124 := by rw [hop]; rfl
      obtain ⟨hd1, hd2⟩ := at_two hd
      have hcall := fun w => Ih.out o p s (k + 1) _ ((k : Int) + 1) w (by simp [Fm.size] at hn; omega) hd1 hs (by omega)
      have hcall2 := fun w => Ih.out o q s (k + 1 + p.text.length) _ ((k + 1 + p.text.length : Nat) : Int) w (by simp [Fm.size] at hn; omega) hd2 hs rfl
      have hx := piece_eq (show s.data.toList.drop k = [124] ++ (p.text ++ q.text ++ r) by rw [hd]; simp [Fm.text]) (k + 1) rfl
      have hz := piece_size (show s.data.toList.drop k = [124] ++ (p.text ++ q.text ++ r) by rw [hd]; simp [Fm.text]) (k + 1) rfl
      have Hcall := Lib.hid hcall
      have Hcall2 := Lib.hid hcall2
      have Hx := Lib.hid hx
      simp only [Fm.text, List.length_cons, List.length_append, List.length_nil] at hle hz
      have hp1 : (bs (pushL o p)).size ≤ 600000 := by rw [bs_size]; have := pushL_le o p; omega
      have hq1 : (bs (pushL o q)).size ≤ 600000 := by rw [bs_size]; have := pushL_le o q; omega
      clear hop hcall hcall2 hd hd1 hd2 hx
      cases o with
      | true =>
        go_enter Tryd.func37, Tryd.ntmps37
        go_upto_region 11 with (fail)
        go_quiet ((go_at_call 70; exact Calls.quiet_of_same (l2Int_calls _ _)))
        go_upto_region 13 with (go_at_call 37; refine (Hcall.out _).mono ?_; rintro e w1 ⟨rfl, hb1⟩)
        go_wp2_with (go_at_call 37; refine (Hcall2.out _).mono ?_; rintro e w2 ⟨rfl, hb2⟩)
        go_ret2
        refine ⟨ret_pair (str_eq (eq_bs ?_)) (int_eq ?_), ?_⟩
        · simp [bs_data, pushL, Fm.push, Fm.text, Qn.b, Hx.out]
        · simp [Fm.text] <;> omega
        · first
            | exact Below.refl _ _
            | exact below_drewN (Below.refl _ _) _
            | assumption
            | exact (hb1.trans (hb2.mono hb1.size))
            | exact ((below_drewN (Below.refl _ _) _).trans hb1)
            | exact ((below_drewN (Below.refl _ _) _).trans (hb1.trans (hb2.mono hb1.size)))
      | false =>
        go_enter Tryd.func37, Tryd.ntmps37
        go_upto_region 13 with (go_at_call 37; refine (Hcall.out _).mono ?_; rintro e w1 ⟨rfl, hb1⟩)
        go_wp2_with (go_at_call 37; refine (Hcall2.out _).mono ?_; rintro e w2 ⟨rfl, hb2⟩)
        go_ret2
        refine ⟨ret_pair (str_eq (eq_bs ?_)) (int_eq ?_), ?_⟩
        · simp [bs_data, pushL, Fm.push, Fm.text, Qn.b, Hx.out]
        · simp [Fm.text] <;> omega
        · first
            | exact Below.refl _ _
            | exact below_drewN (Below.refl _ _) _
            | assumption
            | exact (hb1.trans (hb2.mono hb1.size))
            | exact ((below_drewN (Below.refl _ _) _).trans hb1)
            | exact ((below_drewN (Below.refl _ _) _).trans (hb1.trans (hb2.mono hb1.size)))
    | qu q v p =>
      have hd1 := at_qu hd
      have hcall := fun o w => Ih.out o p s (k + 2) _ ((k : Int) + 2) w (by simp [Fm.size] at hn; omega) hd1 hs (by omega)
      have hx := piece_eq (show s.data.toList.drop k = [q.b] ++ (vb v :: p.text ++ r) by rw [hd]; simp [Fm.text]) (k + 1) rfl
      have hz := piece_size (show s.data.toList.drop k = [q.b] ++ (vb v :: p.text ++ r) by rw [hd]; simp [Fm.text]) (k + 1) rfl
      have hy := piece_eq (show s.data.toList.drop (k + 1) = [vb v] ++ (p.text ++ r) from drop_add_of (p := [q.b]) (by simpa [Fm.text] using hd)) (k + 2) rfl
      have hyz := piece_size (show s.data.toList.drop (k + 1) = [vb v] ++ (p.text ++ r) from drop_add_of (p := [q.b]) (by simpa [Fm.text] using hd)) (k + 2) rfl
      have hu := piece_eq (show s.data.toList.drop k = [q.b, vb v] ++ (p.text ++ r) by rw [hd]; simp [Fm.text]) (k + 2) rfl
      have huz := piece_size (show s.data.toList.drop k = [q.b, vb v] ++ (p.text ++ r) by rw [hd]; simp [Fm.text]) (k + 2) rfl
      have Hcall := Lib.hid hcall
      have Hx := Lib.hid hx
      have Hy := Lib.hid hy
      have Hu := Lib.hid hu
      simp only [Fm.text, List.length_cons, List.length_nil] at hle hz hyz huz
      have hp1 : (bs (pushL o p)).size ≤ 600000 := by rw [bs_size]; have := pushL_le o p; omega
      have hp2 : (bs (pushL false p)).size ≤ 600000 := by rw [bs_size]; have := pushL_le false p; omega
      clear hcall hd hd1 hx hy hu
      cases q with
      | A =>
        have hb : (s[k].toNat : Int) = 65 := by rw [hop]; rfl
        clear hop
        cases o with
        | true =>
          go_enter Tryd.func37, Tryd.ntmps37
          go_upto_region 19 with (fail)
          go_quiet ((go_at_call 70; exact Calls.quiet_of_same (l2Int_calls _ _)))
          go_wp2_with (go_at_call 37; refine (Hcall.out _ _).mono ?_; rintro e w1 ⟨rfl, hb1⟩)
          go_ret2
          refine ⟨ret_pair (str_eq (eq_bs ?_)) (int_eq ?_), ?_⟩
          · simp [bs_data, pushL, Fm.push, Fm.text, Qn.b, Hx.out, Hy.out, Hu.out]
          · simp [Fm.text] <;> omega
          · first
              | exact Below.refl _ _
              | exact below_drewN (Below.refl _ _) _
              | assumption
              | exact (hb1.trans (hb2.mono hb1.size))
              | exact ((below_drewN (Below.refl _ _) _).trans hb1)
              | exact ((below_drewN (Below.refl _ _) _).trans (hb1.trans (hb2.mono hb1.size)))
        | false =>
          go_enter Tryd.func37, Tryd.ntmps37
          go_wp2_with (go_at_call 37; refine (Hcall.out _ _).mono ?_; rintro e w1 ⟨rfl, hb1⟩)
          go_ret2
          refine ⟨ret_pair (str_eq (eq_bs ?_)) (int_eq ?_), ?_⟩
          · simp [bs_data, pushL, Fm.push, Fm.text, Qn.b, Hx.out, Hy.out, Hu.out]
          · simp [Fm.text] <;> omega
          · first
              | exact Below.refl _ _
              | exact below_drewN (Below.refl _ _) _
              | assumption
              | exact (hb1.trans (hb2.mono hb1.size))
              | exact ((below_drewN (Below.refl _ _) _).trans hb1)
              | exact ((below_drewN (Below.refl _ _) _).trans (hb1.trans (hb2.mono hb1.size)))
      | S =>
        have hb : (s[k].toNat : Int) = 83 := by rw [hop]; rfl
        clear hop
        cases o with
        | true =>
          go_enter Tryd.func37, Tryd.ntmps37
          go_upto_region 19 with (fail)
          go_quiet ((go_at_call 70; exact Calls.quiet_of_same (l2Int_calls _ _)))
          go_wp2_with (go_at_call 37; refine (Hcall.out _ _).mono ?_; rintro e w1 ⟨rfl, hb1⟩)
          go_ret2
          refine ⟨ret_pair (str_eq (eq_bs ?_)) (int_eq ?_), ?_⟩
          · simp [bs_data, pushL, Fm.push, Fm.text, Qn.b, Hx.out, Hy.out, Hu.out]
          · simp [Fm.text] <;> omega
          · first
              | exact Below.refl _ _
              | exact below_drewN (Below.refl _ _) _
              | assumption
              | exact (hb1.trans (hb2.mono hb1.size))
              | exact ((below_drewN (Below.refl _ _) _).trans hb1)
              | exact ((below_drewN (Below.refl _ _) _).trans (hb1.trans (hb2.mono hb1.size)))
        | false =>
          go_enter Tryd.func37, Tryd.ntmps37
          go_wp2_with (go_at_call 37; refine (Hcall.out _ _).mono ?_; rintro e w1 ⟨rfl, hb1⟩)
          go_ret2
          refine ⟨ret_pair (str_eq (eq_bs ?_)) (int_eq ?_), ?_⟩
          · simp [bs_data, pushL, Fm.push, Fm.text, Qn.b, Hx.out, Hy.out, Hu.out]
          · simp [Fm.text] <;> omega
          · first
              | exact Below.refl _ _
              | exact below_drewN (Below.refl _ _) _
              | assumption
              | exact (hb1.trans (hb2.mono hb1.size))
              | exact ((below_drewN (Below.refl _ _) _).trans hb1)
              | exact ((below_drewN (Below.refl _ _) _).trans (hb1.trans (hb2.mono hb1.size)))
      | c2 =>
        have hb : (s[k].toNat : Int) = 50 := by rw [hop]; rfl
        clear hop
        cases o with
        | true =>
          go_enter Tryd.func37, Tryd.ntmps37
          go_wp2_with (go_at_call 37; refine (Hcall.out _ _).mono ?_; rintro e w1 ⟨rfl, hb1⟩)
          go_ret2
          refine ⟨ret_pair (str_eq (eq_bs ?_)) (int_eq ?_), ?_⟩
          · simp [bs_data, pushL, Fm.push, Fm.text, Qn.b, Hx.out, Hy.out, Hu.out]
          · simp [Fm.text] <;> omega
          · first
              | exact Below.refl _ _
              | exact below_drewN (Below.refl _ _) _
              | assumption
              | exact (hb1.trans (hb2.mono hb1.size))
              | exact ((below_drewN (Below.refl _ _) _).trans hb1)
              | exact ((below_drewN (Below.refl _ _) _).trans (hb1.trans (hb2.mono hb1.size)))
        | false =>
          go_enter Tryd.func37, Tryd.ntmps37
          go_wp2_with (go_at_call 37; refine (Hcall.out _ _).mono ?_; rintro e w1 ⟨rfl, hb1⟩)
          go_ret2
          refine ⟨ret_pair (str_eq (eq_bs ?_)) (int_eq ?_), ?_⟩
          · simp [bs_data, pushL, Fm.push, Fm.text, Qn.b, Hx.out, Hy.out, Hu.out]
          · simp [Fm.text] <;> omega
          · first
              | exact Below.refl _ _
              | exact below_drewN (Below.refl _ _) _
              | assumption
              | exact (hb1.trans (hb2.mono hb1.size))
              | exact ((below_drewN (Below.refl _ _) _).trans hb1)
              | exact ((below_drewN (Below.refl _ _) _).trans (hb1.trans (hb2.mono hb1.size)))
      | c3 =>
        have hb : (s[k].toNat : Int) = 51 := by rw [hop]; rfl
        clear hop
        cases o with
        | true =>
          go_enter Tryd.func37, Tryd.ntmps37
          go_wp2_with (go_at_call 37; refine (Hcall.out _ _).mono ?_; rintro e w1 ⟨rfl, hb1⟩)
          go_ret2
          refine ⟨ret_pair (str_eq (eq_bs ?_)) (int_eq ?_), ?_⟩
          · simp [bs_data, pushL, Fm.push, Fm.text, Qn.b, Hx.out, Hy.out, Hu.out]
          · simp [Fm.text] <;> omega
          · first
              | exact Below.refl _ _
              | exact below_drewN (Below.refl _ _) _
              | assumption
              | exact (hb1.trans (hb2.mono hb1.size))
              | exact ((below_drewN (Below.refl _ _) _).trans hb1)
              | exact ((below_drewN (Below.refl _ _) _).trans (hb1.trans (hb2.mono hb1.size)))
        | false =>
          go_enter Tryd.func37, Tryd.ntmps37
          go_wp2_with (go_at_call 37; refine (Hcall.out _ _).mono ?_; rintro e w1 ⟨rfl, hb1⟩)
          go_ret2
          refine ⟨ret_pair (str_eq (eq_bs ?_)) (int_eq ?_), ?_⟩
          · simp [bs_data, pushL, Fm.push, Fm.text, Qn.b, Hx.out, Hy.out, Hu.out]
          · simp [Fm.text] <;> omega
          · first
              | exact Below.refl _ _
              | exact below_drewN (Below.refl _ _) _
              | assumption
              | exact (hb1.trans (hb2.mono hb1.size))
              | exact ((below_drewN (Below.refl _ _) _).trans hb1)
              | exact ((below_drewN (Below.refl _ _) _).trans (hb1.trans (hb2.mono hb1.size)))
      | c4 =>
        have hb : (s[k].toNat : Int) = 52 := by rw [hop]; rfl
        clear hop
        cases o with
        | true =>
          go_enter Tryd.func37, Tryd.ntmps37
          go_wp2_with (go_at_call 37; refine (Hcall.out _ _).mono ?_; rintro e w1 ⟨rfl, hb1⟩)
          go_ret2
          refine ⟨ret_pair (str_eq (eq_bs ?_)) (int_eq ?_), ?_⟩
          · simp [bs_data, pushL, Fm.push, Fm.text, Qn.b, Hx.out, Hy.out, Hu.out]
          · simp [Fm.text] <;> omega
          · first
              | exact Below.refl _ _
              | exact below_drewN (Below.refl _ _) _
              | assumption
              | exact (hb1.trans (hb2.mono hb1.size))
              | exact ((below_drewN (Below.refl _ _) _).trans hb1)
              | exact ((below_drewN (Below.refl _ _) _).trans (hb1.trans (hb2.mono hb1.size)))
        | false =>
          go_enter Tryd.func37, Tryd.ntmps37
          go_wp2_with (go_at_call 37; refine (Hcall.out _ _).mono ?_; rintro e w1 ⟨rfl, hb1⟩)
          go_ret2
          refine ⟨ret_pair (str_eq (eq_bs ?_)) (int_eq ?_), ?_⟩
          · simp [bs_data, pushL, Fm.push, Fm.text, Qn.b, Hx.out, Hy.out, Hu.out]
          · simp [Fm.text] <;> omega
          · first
              | exact Below.refl _ _
              | exact below_drewN (Below.refl _ _) _
              | assumption
              | exact (hb1.trans (hb2.mono hb1.size))
              | exact ((below_drewN (Below.refl _ _) _).trans hb1)
              | exact ((below_drewN (Below.refl _ _) _).trans (hb1.trans (hb2.mono hb1.size)))

end Go.Proofs.YteonanaihklgmaaDoor

namespace Go.Proofs.YteonanaihklgmaaDoor
open Go.RowKit
open Pl

theorem shortFormula_no (s : ByteArray) (ok : Bool) (w : World) (h : ok = true → 4000 < s.size) :
    Calls Tryd.prog 34 #[.string s, .bool ok] w fun e w' => e = .returned (.tuple #[.string ⟨#[]⟩, .bool false]) ∧ w = w' := by
  cases ok with
  | false =>
    clear h
    go_enter Tryd.func34, Tryd.ntmps34
    go_wp2_with fail
    go_ret2
    exact ⟨rfl, rfl⟩
  | true =>
    have h2 := h rfl
    clear h
    go_enter Tryd.func34, Tryd.ntmps34
    go_wp2_with fail
    go_ret2
    exact ⟨rfl, rfl⟩

theorem shortFormula_yes (s : ByteArray) (w : World) (h : s.size ≤ 4000) :
    Calls Tryd.prog 34 #[.string s, .bool true] w fun e w' => e = .returned (.tuple #[.string s, .bool true]) ∧ w = w' := by
  go_enter Tryd.func34, Tryd.ntmps34
  go_wp2_with fail
  go_ret2
  exact ⟨rfl, rfl⟩

open Classical in
/-- what NotFormula returns -/
noncomputable def notV (l : List UInt8) : Value := if IsFm l ∧ l.length < 4000 then .tuple #[.string (bs (33 :: l)), .bool true] else .tuple #[.string ⟨#[]⟩, .bool false]

set_option maxRecDepth 100000 in
theorem NotFormula_spec (s : ByteArray) (w : World) (hs : s.size ≤ 1048576) :
    Calls Tryd.prog 24 #[.string s] w fun e w' => e = .returned (notV s.data.toList) ∧ w = w' := by
  have hs2 : s.size ≤ maxLen := by unfold maxLen; omega
  cases hb : fmB s.data.toList with
  | false =>
    have hv : notV s.data.toList = .tuple #[.string ⟨#[]⟩, .bool false] := if_neg fun h => (fmB_false.1 hb) h.1
    rw [hv]
    have Hb := Lib.hid hb
    clear hb hv
    go_enter Tryd.func24, Tryd.ntmps24
    go_wp2_with (go_at_call 36; refine (FormulaValid_spec s _ hs2).mono ?_; rintro e w' ⟨rfl, rfl⟩; rw [Hb.out])
    go_ret2
    exact ⟨rfl, rfl⟩
  | true =>
    by_cases hl : s.size < 4000
    · have hv : notV s.data.toList = .tuple #[.string (bs (33 :: s.data.toList)), .bool true] := if_pos ⟨fmB_true.1 hb, by rw [← Lib.size_eq]; exact hl⟩
      have Hb := Lib.hid hb
      have Hv := Lib.hid hv
      clear hb hv
      go_enter Tryd.func24, Tryd.ntmps24
      go_wp2_with (go_at_call 36; refine (FormulaValid_spec s _ hs2).mono ?_; rintro e w' ⟨rfl, rfl⟩; rw [Hb.out])
      go_ret2
      rw [Hv.out]
      exact ⟨ret_pair (str_eq (append_bs _ _)) rfl, rfl⟩
    · have hv : notV s.data.toList = .tuple #[.string ⟨#[]⟩, .bool false] := if_neg fun h => hl (by rw [Lib.size_eq]; exact h.2)
      rw [hv]
      have Hb := Lib.hid hb
      clear hb hv
      go_enter Tryd.func24, Tryd.ntmps24
      go_wp2_with (go_at_call 36; refine (FormulaValid_spec s _ hs2).mono ?_; rintro e w' ⟨rfl, rfl⟩; rw [Hb.out])
      go_ret2
      exact ⟨rfl, rfl⟩

set_option maxRecDepth 100000 in
theorem NotFormula_impl (s : ByteArray) (w : World) (hs : s.size ≤ 1048576) :
    Calls Tryd.prog 23 #[.string s] w fun e w' => e = .returned (notV s.data.toList) ∧ Below w.heap.size w w' := by
  have hsz : (⟨#[33]⟩ ++ s : ByteArray).size = s.size + 1 := by rw [append_bs, bs_size, Lib.size_eq s]; simp
  have Hsz := Lib.hid hsz
  clear hsz
  by_cases h : IsFm s.data.toList
  · obtain ⟨hl, f, hf⟩ := h
    have hl4 : s.size ≤ 4000 := by rw [Lib.size_eq]; exact hl
    have Hf := Lib.hid hf
    by_cases h4 : s.size < 4000
    · have hv : notV s.data.toList = .tuple #[.string (bs (33 :: s.data.toList)), .bool true] := if_pos ⟨⟨hl, f, hf⟩, by rw [← Lib.size_eq]; exact h4⟩
      have Hv := Lib.hid hv
      clear hv hl hf
      go_enter Tryd.func23, Tryd.ntmps23
      go_wp2_with (first | (go_at_call 33; refine (parseFormula_yes s f w hl4 Hf.out).mono ?_; rintro e w1 ⟨b, rfl, htr, hb1⟩; clear htr) | (go_at_call 34; refine (shortFormula_yes _ _ (by rw [Hsz.out]; omega)).mono ?_; rintro e w2 ⟨rfl, rfl⟩))
      go_ret2
      rw [Hv.out]
      exact ⟨ret_pair (str_eq (append_bs _ _)) rfl, hb1⟩
    · have hv : notV s.data.toList = .tuple #[.string ⟨#[]⟩, .bool false] := if_neg fun h => h4 (by rw [Lib.size_eq]; exact h.2)
      have Hv := Lib.hid hv
      clear hv hl hf
      go_enter Tryd.func23, Tryd.ntmps23
      go_wp2_with (first | (go_at_call 33; refine (parseFormula_yes s f w hl4 Hf.out).mono ?_; rintro e w1 ⟨b, rfl, htr, hb1⟩; clear htr) | (go_at_call 34; refine (shortFormula_no _ _ _ (fun _ => by rw [Hsz.out]; omega)).mono ?_; rintro e w2 ⟨rfl, rfl⟩))
      go_ret2
      rw [Hv.out]
      exact ⟨rfl, hb1⟩
  · have hv : notV s.data.toList = .tuple #[.string ⟨#[]⟩, .bool false] := if_neg fun h2 => h h2.1
    have Hv := Lib.hid hv
    have H := Lib.hid h
    clear hv h
    go_enter Tryd.func23, Tryd.ntmps23
    go_wp2_with (first | (go_at_call 33; refine (parseFormula_no s w H.out).mono ?_; rintro e w1 ⟨rfl, hb1⟩) | (go_at_call 34; refine (shortFormula_no _ _ _ (fun h => by cases h)).mono ?_; rintro e w2 ⟨rfl, rfl⟩))
    go_ret2
    rw [Hv.out]
    exact ⟨rfl, hb1⟩

theorem notV_form (l : List UInt8) : ∃ (t : ByteArray) (b : Bool), notV l = .tuple #[.string t, .bool b] := by
  unfold notV
  split
  · exact ⟨_, _, rfl⟩
  · exact ⟨_, _, rfl⟩

end Go.Proofs.YteonanaihklgmaaDoor

namespace Go.Proofs.YteonanaihklgmaaDoor
open Go.RowKit
open Pl
set_option linter.unusedSimpArgs false

/-- a text and whether there is one, for a text that is a formula; else none -/
noncomputable def optV (l : List UInt8) (g : Fm → Option (List UInt8)) : ByteArray × Bool :=
  match parse l with
  | some (f, []) => if l.length ≤ 4000 then (match g f with | some t => if t.length ≤ 4000 then (bs t, true) else (bs [], false) | none => (bs [], false)) else (bs [], false)
  | _ => (bs [], false)

theorem optV_no {l : List UInt8} (g : Fm → Option (List UInt8)) (h : ¬ IsFm l) : optV l g = (bs [], false) := by
  unfold optV
  cases hp : parse l with
  | none => rfl
  | some x =>
    obtain ⟨f, r⟩ := x
    cases r with
    | nil =>
      have := parse_some.1 hp
      by_cases hl : l.length ≤ 4000
      · exact absurd ⟨hl, f, by simpa using this⟩ h
      · simp [hl]
    | cons a r => rfl

theorem optV_fm {l : List UInt8} {f : Fm} (g : Fm → Option (List UInt8)) (h : l = f.text) (hl : l.length ≤ 4000) :
    optV l g = match g f with | some t => if t.length ≤ 4000 then (bs t, true) else (bs [], false) | none => (bs [], false) := by
  unfold optV
  rw [parse_some.2 (show l = f.text ++ [] by rw [h]; simp)]
  simp [hl]

theorem optV_yes {l : List UInt8} {f : Fm} {t : List UInt8} (g : Fm → Option (List UInt8)) (h : l = f.text) (hl : l.length ≤ 4000) (hg : g f = some t) (ht : t.length ≤ 4000) : optV l g = (bs t, true) := by
  rw [optV_fm g h hl, hg]; simp [ht]
theorem optV_long {l : List UInt8} {f : Fm} {t : List UInt8} (g : Fm → Option (List UInt8)) (h : l = f.text) (hl : l.length ≤ 4000) (hg : g f = some t) (ht : 4000 < t.length) : optV l g = (bs [], false) := by
  rw [optV_fm g h hl, hg]; simp; omega
theorem optV_none {l : List UInt8} {f : Fm} (g : Fm → Option (List UInt8)) (h : l = f.text) (hl : l.length ≤ 4000) (hg : g f = none) : optV l g = (bs [], false) := by
  rw [optV_fm g h hl, hg]

def pairV (x : ByteArray × Bool) : Value := .tuple #[.string x.1, .bool x.2]

def pushO (f : Fm) : Option (List UInt8) := some (pushL false f)


set_option maxRecDepth 100000 in
theorem PushNot_spec (s : ByteArray) (w : World) (hs2 : s.size ≤ maxLen) :
    Calls Tryd.prog 9 #[.string s] w fun e w' => e = .returned (.tuple #[.string (optV s.data.toList pushO).1, .bool (optV s.data.toList pushO).2]) ∧ Below w.heap.size w w' := by
  rcases fm_cases s with ⟨hb, hno⟩ | ⟨f, hb, hf, hs4, hl4⟩
  · rw [optV_no pushO hno]
    have Hb := Lib.hid hb
    clear hb hno
    go_enter Tryd.func9, Tryd.ntmps9
    go_wp2_with (go_at_call 36; refine (FormulaValid_spec s _ hs2).mono ?_; rintro e w' ⟨rfl, rfl⟩; rw [Hb.out])
    go_ret2
    exact ⟨rfl, Below.refl _ _⟩
  · have hcall := l2Push_calls f.size false f s 0 [] 0 w (Nat.le_refl _) (by simpa using hf) (by omega) rfl
    have Hb := Lib.hid hb
    have Hcall := Lib.hid hcall
    clear hb hcall
    have hsz : (bs (pushL false f)).size = (pushL false f).length := bs_size _
    have hle := pushL_le false f
    by_cases hlen : (pushL false f).length ≤ 4000
    · rw [optV_yes pushO hf (by rw [hf]; exact hl4) rfl hlen]
      have hsz2 : (bs (pushL false f)).size ≤ 4000 := by omega
      clear hf hsz hlen
      go_enter Tryd.func9, Tryd.ntmps9
      go_wp2_with (first | (go_at_call 36; refine (FormulaValid_spec s _ hs2).mono ?_; rintro e w' ⟨rfl, rfl⟩; rw [Hb.out]) | (go_at_call 37; refine (Hcall.out).mono ?_; rintro e w1 ⟨rfl, hb1⟩))
      go_ret2
      exact ⟨rfl, hb1⟩
    · rw [optV_long pushO hf (by rw [hf]; exact hl4) rfl (by omega)]
      have hsz2 : 4000 < (bs (pushL false f)).size := by omega
      clear hf hsz hlen
      go_enter Tryd.func9, Tryd.ntmps9
      go_wp2_with (first | (go_at_call 36; refine (FormulaValid_spec s _ hs2).mono ?_; rintro e w' ⟨rfl, rfl⟩; rw [Hb.out]) | (go_at_call 37; refine (Hcall.out).mono ?_; rintro e w1 ⟨rfl, hb1⟩))
      go_ret2
      exact ⟨rfl, hb1⟩

set_option maxRecDepth 100000 in
theorem PushNot_impl (s : ByteArray) (w : World) :
    Calls Tryd.prog 8 #[.string s] w fun e w' => e = .returned (.tuple #[.string (optV s.data.toList pushO).1, .bool (optV s.data.toList pushO).2]) ∧ Below w.heap.size w w' := by
  rcases fm_cases s with ⟨hb, hno⟩ | ⟨f, hb, hf, hs4, hl4⟩
  · rw [optV_no pushO hno]
    have Hno := Lib.hid hno
    clear hb hno
    go_enter Tryd.func8, Tryd.ntmps8
    go_wp2_with (go_at_call 33; refine (parseFormula_no s w Hno.out).mono ?_; rintro e w1 ⟨rfl, hb1⟩)
    go_ret2
    exact ⟨rfl, hb1⟩
  · have hsz : (bs (pushL false f)).size = (pushL false f).length := bs_size _
    have hle := pushL_le false f
    have Hf := Lib.hid hf
    by_cases hlen : (pushL false f).length ≤ 4000
    · rw [optV_yes pushO hf (by rw [hf]; exact hl4) rfl hlen]
      have hsz2 : (bs (pushL false f)).size ≤ 4000 := by omega
      clear hb hf hsz hlen
      go_enter Tryd.func8, Tryd.ntmps8
      go_wp2_with (first | (go_at_call 33; refine (parseFormula_yes s f w hs4 Hf.out).mono ?_; rintro e w1 ⟨b, rfl, htr, hb1⟩; have Htr := Lib.hid htr; clear htr) | (go_at_call 35; refine (push_calls f.size false f b _ _ (Nat.le_refl _) Htr.out (by omega)).mono ?_; rintro e w2 ⟨rfl, hb2⟩) | (go_at_call 34; refine (shortFormula_yes _ _ hsz2).mono ?_; rintro e w3 ⟨rfl, rfl⟩))
      go_ret2
      exact ⟨rfl, hb1.trans (hb2.mono hb1.size)⟩
    · rw [optV_long pushO hf (by rw [hf]; exact hl4) rfl (by omega)]
      have hsz2 : 4000 < (bs (pushL false f)).size := by omega
      clear hb hf hsz hlen
      go_enter Tryd.func8, Tryd.ntmps8
      go_wp2_with (first | (go_at_call 33; refine (parseFormula_yes s f w hs4 Hf.out).mono ?_; rintro e w1 ⟨b, rfl, htr, hb1⟩; have Htr := Lib.hid htr; clear htr) | (go_at_call 35; refine (push_calls f.size false f b _ _ (Nat.le_refl _) Htr.out (by omega)).mono ?_; rintro e w2 ⟨rfl, hb2⟩) | (go_at_call 34; refine (shortFormula_no _ _ _ (fun _ => hsz2)).mono ?_; rintro e w3 ⟨rfl, rfl⟩))
      go_ret2
      exact ⟨rfl, hb1.trans (hb2.mono hb1.size)⟩


end Go.Proofs.YteonanaihklgmaaDoor

namespace Go.Proofs.YteonanaihklgmaaDoor
open Pl

theorem free_all (f : Fm) (v : Fin 4) (h : f.isFree v) : f.allBits.testBit v.val = true := by
  unfold Fm.isFree at h
  induction f with
  | tru => exact h
  | fls => exact h
  | pr u => exact h
  | eq u w => exact h
  | rel u w => exact h
  | neg p ih => exact ih h
  | con p q ihp ihq =>
    simp only [Fm.freeBits, Fm.allBits, Nat.testBit_or, Bool.or_eq_true] at *
    exact h.imp ihp ihq
  | dis p q ihp ihq =>
    simp only [Fm.freeBits, Fm.allBits, Nat.testBit_or, Bool.or_eq_true] at *
    exact h.imp ihp ihq
  | qu k u p ih =>
    have := (free_qu k u p v).1 h
    simp only [Fm.allBits, Nat.testBit_or, Bool.or_eq_true]
    exact .inr (ih this.1)

theorem holds_repl (a : St) (v w : Fin 4) : ∀ (f : Fm) (e : Env), f.allBits.testBit w.val = false → (f.repl v w).holds a e = f.holds a (upd e v (e w)) := by
  intro f
  induction f with
  | tru => intros; rfl
  | fls => intros; rfl
  | pr u =>
    intro e _
    simp only [Fm.repl, Fm.holds]
    by_cases h : u = v
    · subst h; rw [if_pos rfl, upd_same]
    · rw [if_neg h, upd_other h]
  | eq u t =>
    intro e _
    have hu : ∀ s : Fin 4, e (if s = v then w else s) = upd e v (e w) s := fun s => by
      unfold upd; by_cases h : s = v <;> simp [h]
    simp only [Fm.repl, Fm.holds, hu]
  | rel u t =>
    intro e _
    have hu : ∀ s : Fin 4, e (if s = v then w else s) = upd e v (e w) s := fun s => by
      unfold upd; by_cases h : s = v <;> simp [h]
    simp only [Fm.repl, Fm.holds, hu]
  | neg p ih => intro e h; simp only [Fm.repl, Fm.holds, ih e h]
  | con p q ihp ihq =>
    intro e h
    simp only [Fm.allBits, Nat.testBit_or, Bool.or_eq_false_iff] at h
    simp only [Fm.repl, Fm.holds, ihp e h.1, ihq e h.2]
  | dis p q ihp ihq =>
    intro e h
    simp only [Fm.allBits, Nat.testBit_or, Bool.or_eq_false_iff] at h
    simp only [Fm.repl, Fm.holds, ihp e h.1, ihq e h.2]
  | qu k u p ih =>
    intro e h
    simp only [Fm.allBits, Nat.testBit_or, Bool.or_eq_false_iff] at h
    have hwu : w ≠ u := by
      rintro rfl
      have := h.1
      rw [bit_test] at this
      simp at this
    simp only [Fm.repl]
    by_cases hu : u = v
    · subst hu
      rw [if_pos rfl]
      refine holds_free a _ _ _ fun t ht => ?_
      have := (free_qu k u p t).1 ht
      rw [upd_other this.2]
    · rw [if_neg hu]
      simp only [Fm.holds]
      rw [cnt_congr fun x _ => ?_]
      rw [ih _ h.2, upd_other hwu]
      congr 1
      funext t
      unfold upd
      by_cases h1 : t = v
      · subst h1; simp [Ne.symm hu]
      · by_cases h2 : t = u <;> simp [h1, h2, hu]

theorem cnt_two {n : Nat} {p : Nat → Bool} : 2 ≤ cnt n p ↔ ∃ x y, x < n ∧ y < n ∧ x ≠ y ∧ p x = true ∧ p y = true := by
  constructor
  · intro h
    unfold cnt at h
    have hnd : ((List.range n).filter p).Nodup := List.nodup_range.filter _
    match hl : (List.range n).filter p, h, hnd with
    | x :: y :: t, _, hnd =>
      have hx : x ∈ (List.range n).filter p := by rw [hl]; simp
      have hy : y ∈ (List.range n).filter p := by rw [hl]; simp
      obtain ⟨h1, h2⟩ := List.mem_filter.1 hx
      obtain ⟨h3, h4⟩ := List.mem_filter.1 hy
      have hne : x ≠ y := by
        rintro rfl
        exact (List.nodup_cons.1 hnd).1 (by simp)
      exact ⟨x, y, List.mem_range.1 h1, List.mem_range.1 h3, hne, h2, h4⟩
  · rintro ⟨x, y, hx, hy, hne, h1, h2⟩
    have := nodup_len_le [x, y] ((List.range n).filter p) (by simp [hne]) (fun z hz => by
      simp only [List.mem_cons, List.not_mem_nil, or_false] at hz
      rcases hz with rfl | rfl
      · exact List.mem_filter.2 ⟨List.mem_range.2 hx, h1⟩
      · exact List.mem_filter.2 ⟨List.mem_range.2 hy, h2⟩)
    exact this

theorem holds_two (a : St) (p : Fm) (v w : Fin 4) (e : Env) (hw : p.allBits.testBit w.val = false) (hv : v ≠ w) :
    (Fm.qu .S v (.qu .S w (.con (.neg (.eq v w)) (.con p (p.repl v w))))).holds a e = (Fm.qu .c2 v p).holds a e := by
  rw [Bool.eq_iff_iff]
  have hL : (Fm.qu .S v (.qu .S w (.con (.neg (.eq v w)) (.con p (p.repl v w))))).holds a e = decide (0 < cnt a.n fun x => decide (0 < cnt a.n fun y => (!(upd (upd e v x) w y v == upd (upd e v x) w y w) && (p.holds a (upd (upd e v x) w y) && (p.repl v w).holds a (upd (upd e v x) w y))))) := rfl
  have hR : (Fm.qu .c2 v p).holds a e = decide (2 ≤ cnt a.n fun x => p.holds a (upd e v x)) := rfl
  rw [hL, hR, decide_eq_true_eq, decide_eq_true_eq, cnt_pos, cnt_two]
  have h1 : ∀ x y, p.holds a (upd (upd e v x) w y) = p.holds a (upd e v x) := fun x y => holds_free a p _ _ fun u hu => by
    rw [upd_other]
    rintro rfl
    rw [free_all p u hu] at hw
    cases hw
  have h2 : ∀ x y, (p.repl v w).holds a (upd (upd e v x) w y) = p.holds a (upd e v y) := fun x y => by
    rw [holds_repl a v w p _ hw, upd_same]
    refine holds_free a p _ _ fun u hu => ?_
    have huw : u ≠ w := by rintro rfl; rw [free_all p u hu] at hw; cases hw
    unfold upd
    by_cases huv : u = v
    · simp [huv]
    · simp [huv, huw]
  constructor
  · rintro ⟨x, hx, h⟩
    replace h := cnt_pos.1 (of_decide_eq_true h)
    obtain ⟨y, hy, h⟩ := h
    simp only [Bool.and_eq_true, Bool.not_eq_true', beq_eq_false_iff_ne] at h
    rw [h1, h2, upd_same, upd_other hv, upd_same] at h
    exact ⟨x, y, hx, hy, h.1, h.2.1, h.2.2⟩
  · rintro ⟨x, y, hx, hy, hne, g1, g2⟩
    refine ⟨x, hx, decide_eq_true (cnt_pos.2 ⟨y, hy, ?_⟩)⟩
    simp only [Bool.and_eq_true, Bool.not_eq_true', beq_eq_false_iff_ne]
    rw [h1, h2, upd_same, upd_other hv, upd_same]
    exact ⟨hne, g1, g2⟩

theorem holds_spell (a : St) : ∀ (f g : Fm), f.spell = some g → ∀ e, g.holds a e = f.holds a e := by
  intro f
  induction f with
  | tru => intro g h e; simp [Fm.spell] at h; subst h; rfl
  | fls => intro g h e; simp [Fm.spell] at h; subst h; rfl
  | pr v => intro g h e; simp [Fm.spell] at h; subst h; rfl
  | eq v w => intro g h e; simp [Fm.spell] at h; subst h; rfl
  | rel v w => intro g h e; simp [Fm.spell] at h; subst h; rfl
  | neg p ih =>
    intro g h e
    simp only [Fm.spell] at h
    split at h
    · rename_i p' hp
      injection h with h; subst h
      simp only [Fm.holds, ih p' hp]
    · cases h
  | con p q ihp ihq =>
    intro g h e
    simp only [Fm.spell] at h
    split at h
    · rename_i p' hp
      split at h
      · rename_i q' hq
        injection h with h; subst h
        simp only [Fm.holds, ihp p' hp, ihq q' hq]
      · cases h
    · cases h
  | dis p q ihp ihq =>
    intro g h e
    simp only [Fm.spell] at h
    split at h
    · rename_i p' hp
      split at h
      · rename_i q' hq
        injection h with h; subst h
        simp only [Fm.holds, ihp p' hp, ihq q' hq]
      · cases h
    · cases h
  | qu k v p ih =>
    intro g h e
    cases k with
    | c3 => simp [Fm.spell] at h
    | c4 => simp [Fm.spell] at h
    | A =>
      simp only [Fm.spell] at h
      split at h
      · rename_i p' hp
        injection h with h; subst h
        simp only [Fm.holds, ih p' hp]
      · cases h
    | S =>
      simp only [Fm.spell] at h
      split at h
      · rename_i p' hp
        injection h with h; subst h
        simp only [Fm.holds, ih p' hp]
      · cases h
    | c2 =>
      simp only [Fm.spell] at h
      split at h
      · rename_i p' hp
        split at h
        · rename_i w hw
          injection h with h; subst h
          obtain ⟨hw1, hw2⟩ := freshV_some hw
          rw [holds_two a p' v w e hw1 hw2]
          simp only [Fm.holds, ih p' hp]
        · cases h
      · cases h

theorem repl_rank (v w : Fin 4) (f : Fm) : (f.repl v w).rank = f.rank := by
  induction f with
  | qu k u p ih => by_cases h : u = v <;> simp [Fm.repl, Fm.rank, h, ih]
  | neg p ih => simp [Fm.repl, Fm.rank, ih]
  | con p q ihp ihq => simp [Fm.repl, Fm.rank, ihp, ihq]
  | dis p q ihp ihq => simp [Fm.repl, Fm.rank, ihp, ihq]
  | _ => simp [Fm.repl, Fm.rank]

theorem repl_counts (v w : Fin 4) (f : Fm) : (f.repl v w).counts = f.counts := by
  induction f with
  | qu k u p ih => by_cases h : u = v <;> simp [Fm.repl, Fm.counts, h, ih]
  | neg p ih => simp [Fm.repl, Fm.counts, ih]
  | con p q ihp ihq => simp [Fm.repl, Fm.counts, ihp, ihq]
  | dis p q ihp ihq => simp [Fm.repl, Fm.counts, ihp, ihq]
  | _ => simp [Fm.repl, Fm.counts]

theorem repl_free {v w : Fin 4} {f : Fm} (hw : f.allBits.testBit w.val = false) (u : Fin 4) (huv : u ≠ v) (huw : u ≠ w) : (f.repl v w).isFree u ↔ f.isFree u := by
  have hb : ∀ s t : Fin 4, (1 <<< s.val).testBit t.val = decide (s = t) := bit_test
  unfold Fm.isFree
  induction f with
  | tru => rfl
  | fls => rfl
  | pr s =>
    by_cases h : s = v
    · subst h; simp [Fm.repl, Fm.freeBits, hb, Ne.symm huv, Ne.symm huw, -Nat.testBit_shiftLeft]
    · simp [Fm.repl, h]
  | eq s t =>
    by_cases h : s = v <;> by_cases h2 : t = v <;> simp [Fm.repl, Fm.freeBits, hb, h, h2, Ne.symm huv, Ne.symm huw, -Nat.testBit_shiftLeft]
  | rel s t =>
    by_cases h : s = v <;> by_cases h2 : t = v <;> simp [Fm.repl, Fm.freeBits, hb, h, h2, Ne.symm huv, Ne.symm huw, -Nat.testBit_shiftLeft]
  | neg p ih => exact ih hw
  | con p q ihp ihq =>
    simp only [Fm.allBits, Nat.testBit_or, Bool.or_eq_false_iff] at hw
    simp only [Fm.repl, Fm.freeBits, Nat.testBit_or, Bool.or_eq_true]
    exact or_congr (ihp hw.1) (ihq hw.2)
  | dis p q ihp ihq =>
    simp only [Fm.allBits, Nat.testBit_or, Bool.or_eq_false_iff] at hw
    simp only [Fm.repl, Fm.freeBits, Nat.testBit_or, Bool.or_eq_true]
    exact or_congr (ihp hw.1) (ihq hw.2)
  | qu k s p ih =>
    simp only [Fm.allBits, Nat.testBit_or, Bool.or_eq_false_iff] at hw
    simp only [Fm.repl]
    by_cases h : s = v
    · rw [if_pos h]
    · rw [if_neg h]
      have h1 := free_qu k s (p.repl v w) u
      have h2 := free_qu k s p u
      unfold Fm.isFree at h1 h2
      rw [h1, h2]
      exact and_congr_left' (ih hw.2)

theorem two_free {p : Fm} {v w : Fin 4} (hw : p.allBits.testBit w.val = false) (u : Fin 4) :
    (Fm.qu .S v (.qu .S w (.con (.neg (.eq v w)) (.con p (p.repl v w))))).isFree u ↔ (Fm.qu .c2 v p).isFree u := by
  rw [free_qu, free_qu, free_qu]
  constructor
  · rintro ⟨⟨h, huw⟩, huv⟩
    refine ⟨?_, huv⟩
    unfold Fm.isFree at h
    simp only [Fm.freeBits, Nat.testBit_or, bit_test, Bool.or_eq_true, decide_eq_true_eq] at h
    rcases h with (h | h) | h | h
    · exact absurd h.symm huv
    · exact absurd h.symm huw
    · exact h
    · exact (repl_free hw u huv huw).1 h
  · rintro ⟨h, huv⟩
    have huw : u ≠ w := by rintro rfl; rw [free_all p u h] at hw; cases hw
    refine ⟨⟨?_, huw⟩, huv⟩
    unfold Fm.isFree at h ⊢
    simp only [Fm.freeBits, Nat.testBit_or, Bool.or_eq_true]
    exact .inr (.inl h)

theorem spell_facts : ∀ (f g : Fm), f.spell = some g → g.rank = f.rank ∧ g.counts = false ∧ (∀ u, g.isFree u ↔ f.isFree u) ∧ ∀ u : Fin 4, f.allBits.testBit u.val = true → g.allBits.testBit u.val = true := by
  intro f
  induction f with
  | tru => intro g h; simp [Fm.spell] at h; subst h; exact ⟨rfl, rfl, fun _ => Iff.rfl, fun _ h => h⟩
  | fls => intro g h; simp [Fm.spell] at h; subst h; exact ⟨rfl, rfl, fun _ => Iff.rfl, fun _ h => h⟩
  | pr v => intro g h; simp [Fm.spell] at h; subst h; exact ⟨rfl, rfl, fun _ => Iff.rfl, fun _ h => h⟩
  | eq v w => intro g h; simp [Fm.spell] at h; subst h; exact ⟨rfl, rfl, fun _ => Iff.rfl, fun _ h => h⟩
  | rel v w => intro g h; simp [Fm.spell] at h; subst h; exact ⟨rfl, rfl, fun _ => Iff.rfl, fun _ h => h⟩
  | neg p ih =>
    intro g h
    simp only [Fm.spell] at h
    split at h
    · rename_i p' hp
      injection h with h; subst h
      exact ih p' hp
    · cases h
  | con p q ihp ihq =>
    intro g h
    simp only [Fm.spell] at h
    split at h
    · rename_i p' hp
      split at h
      · rename_i q' hq
        injection h with h; subst h
        obtain ⟨a1, a2, a3, a4⟩ := ihp p' hp
        obtain ⟨b1, b2, b3, b4⟩ := ihq q' hq
        refine ⟨by simp only [Fm.rank, a1, b1], by simp only [Fm.counts, a2, b2]; rfl, fun u => ?_, fun u hu => ?_⟩
        · have c1 := a3 u; have c2 := b3 u
          unfold Fm.isFree at *
          simp only [Fm.freeBits, Nat.testBit_or, Bool.or_eq_true, c1, c2]
        · simp only [Fm.allBits, Nat.testBit_or, Bool.or_eq_true] at hu ⊢
          exact hu.imp (a4 u) (b4 u)
      · cases h
    · cases h
  | dis p q ihp ihq =>
    intro g h
    simp only [Fm.spell] at h
    split at h
    · rename_i p' hp
      split at h
      · rename_i q' hq
        injection h with h; subst h
        obtain ⟨a1, a2, a3, a4⟩ := ihp p' hp
        obtain ⟨b1, b2, b3, b4⟩ := ihq q' hq
        refine ⟨by simp only [Fm.rank, a1, b1], by simp only [Fm.counts, a2, b2]; rfl, fun u => ?_, fun u hu => ?_⟩
        · have c1 := a3 u; have c2 := b3 u
          unfold Fm.isFree at *
          simp only [Fm.freeBits, Nat.testBit_or, Bool.or_eq_true, c1, c2]
        · simp only [Fm.allBits, Nat.testBit_or, Bool.or_eq_true] at hu ⊢
          exact hu.imp (a4 u) (b4 u)
      · cases h
    · cases h
  | qu k v p ih =>
    intro g h
    have one : ∀ (k : Qn) (p' : Fm), p.spell = some p' → isCoB k.b = false → (Fm.qu k v p').rank = (Fm.qu k v p).rank ∧ (Fm.qu k v p').counts = false ∧ (∀ u, (Fm.qu k v p').isFree u ↔ (Fm.qu k v p).isFree u) ∧ ∀ u : Fin 4, (Fm.qu k v p).allBits.testBit u.val = true → (Fm.qu k v p').allBits.testBit u.val = true := by
      intro k p' hp hk
      obtain ⟨a1, a2, a3, a4⟩ := ih p' hp
      refine ⟨by simp only [Fm.rank, a1], by simp only [Fm.counts, a2, hk]; rfl, fun u => ?_, fun u hu => ?_⟩
      · rw [free_qu, free_qu, a3]
      · simp only [Fm.allBits, Nat.testBit_or, Bool.or_eq_true] at hu ⊢
        exact hu.imp id (a4 u)
    cases k with
    | c3 => simp [Fm.spell] at h
    | c4 => simp [Fm.spell] at h
    | A =>
      simp only [Fm.spell] at h
      split at h
      · rename_i p' hp
        injection h with h; subst h
        exact one .A p' hp rfl
      · cases h
    | S =>
      simp only [Fm.spell] at h
      split at h
      · rename_i p' hp
        injection h with h; subst h
        exact one .S p' hp rfl
      · cases h
    | c2 =>
      simp only [Fm.spell] at h
      split at h
      · rename_i p' hp
        split at h
        · rename_i w hw
          injection h with h; subst h
          obtain ⟨hw1, hw2⟩ := freshV_some hw
          obtain ⟨a1, a2, a3, a4⟩ := ih p' hp
          refine ⟨?_, ?_, fun u => ?_, fun u hu => ?_⟩
          · simp only [Fm.rank, repl_rank, a1, Qn.n]; omega
          · simp only [Fm.counts, repl_counts, a2]; rfl
          · rw [two_free hw1, free_qu, free_qu, a3]
          · simp only [Fm.allBits, Nat.testBit_or, Bool.or_eq_true] at hu ⊢
            rcases hu with hu | hu
            · exact .inl hu
            · exact .inr (.inr (.inr (.inl (a4 u hu))))
        · cases h
      · cases h

theorem push_facts (f : Fm) : ∀ b, (f.push b).rank = f.rank ∧ ∀ u, (f.push b).isFree u ↔ f.isFree u := by
  induction f with
  | neg p ih => intro b; exact ih (!b)
  | con p q ihp ihq =>
    intro b
    obtain ⟨a1, a2⟩ := ihp b
    obtain ⟨b1, b2⟩ := ihq b
    have h : ∀ u, ((p.push b).freeBits ||| (q.push b).freeBits).testBit u = (p.freeBits ||| q.freeBits).testBit u ∨ 4 ≤ u := by
      intro u
      by_cases hu : u < 4
      · left
        have c1 := a2 ⟨u, hu⟩; have c2 := b2 ⟨u, hu⟩
        unfold Fm.isFree at c1 c2
        rw [Nat.testBit_or, Nat.testBit_or, Bool.eq_iff_iff, Bool.or_eq_true, Bool.or_eq_true, c1, c2]
      · right; omega
    refine ⟨by cases b <;> simp [Fm.push, Fm.rank, a1, b1], fun u => ?_⟩
    have := h u.val
    have hu := u.isLt
    rcases this with h1 | h1
    · unfold Fm.isFree; cases b <;> simp [Fm.push, Fm.freeBits, -Nat.testBit_or, h1]
    · omega
  | dis p q ihp ihq =>
    intro b
    obtain ⟨a1, a2⟩ := ihp b
    obtain ⟨b1, b2⟩ := ihq b
    have h : ∀ u, ((p.push b).freeBits ||| (q.push b).freeBits).testBit u = (p.freeBits ||| q.freeBits).testBit u ∨ 4 ≤ u := by
      intro u
      by_cases hu : u < 4
      · left
        have c1 := a2 ⟨u, hu⟩; have c2 := b2 ⟨u, hu⟩
        unfold Fm.isFree at c1 c2
        rw [Nat.testBit_or, Nat.testBit_or, Bool.eq_iff_iff, Bool.or_eq_true, Bool.or_eq_true, c1, c2]
      · right; omega
    refine ⟨by cases b <;> simp [Fm.push, Fm.rank, a1, b1], fun u => ?_⟩
    have := h u.val
    have hu := u.isLt
    rcases this with h1 | h1
    · unfold Fm.isFree; cases b <;> simp [Fm.push, Fm.freeBits, -Nat.testBit_or, h1]
    · omega
  | qu k v p ih =>
    intro b
    have hq : ∀ (k k' : Qn) (c : Bool) (u : Fin 4), (Fm.qu k v (p.push c)).isFree u ↔ (Fm.qu k' v p).isFree u := fun k k' c u => by
      rw [free_qu, free_qu, (ih c).2 u]
    cases k <;> cases b <;> exact ⟨by simp [Fm.push, Fm.rank, Qn.n, (ih true).1, (ih false).1], fun u => by first | exact hq .A .A _ u | exact hq .S .A _ u | exact hq .A .S _ u | exact hq .S .S _ u | exact hq .c2 .c2 _ u | exact hq .c3 .c3 _ u | exact hq .c4 .c4 _ u⟩
  | tru => intro b; cases b <;> exact ⟨rfl, fun _ => Iff.rfl⟩
  | fls => intro b; cases b <;> exact ⟨rfl, fun _ => Iff.rfl⟩
  | pr v => intro b; cases b <;> exact ⟨rfl, fun _ => Iff.rfl⟩
  | eq v w => intro b; cases b <;> exact ⟨rfl, fun _ => Iff.rfl⟩
  | rel v w => intro b; cases b <;> exact ⟨rfl, fun _ => Iff.rfl⟩

end Go.Proofs.YteonanaihklgmaaDoor

namespace Go.Proofs.YteonanaihklgmaaDoor
open Go.RowKit
open Pl
set_option linter.unusedSimpArgs false
set_option linter.unusedVariables false

/-- what may stand behind a negation -/
def okc (b : UInt8) : Bool := b == 80 || b == 61 || b == 69 || b == 50 || b == 51 || b == 52
/-- negations ahead of such alone -/
def negB : List UInt8 → Bool
  | x :: y :: r => (x != 33 || okc y) && negB (y :: r)
  | _ => true
def negF : Fm → Bool
  | .neg p => okc p.op && negF p
  | .con p q => negF p && negF q
  | .dis p q => negF p && negF q
  | .qu _ _ p => negF p
  | _ => true
theorem negB_cons {x : UInt8} (h : x ≠ 33) (r : List UInt8) : negB (x :: r) = negB r := by
  cases r with
  | nil => rfl
  | cons y r => show ((x != 33 || okc y) && negB (y :: r)) = _; rw [bne_iff_ne.2 h]; rfl
theorem vb_ne (v : Fin 4) : vb v ≠ 33 := by revert v; decide
theorem qb_ne (k : Qn) : k.b ≠ 33 := by cases k <;> decide
theorem op_cons (f : Fm) : ∃ t, f.text = f.op :: t := ⟨_, f.text_eq⟩
theorem negB_text : ∀ (f : Fm) (r : List UInt8), negF f = true → negB r = true → negB (f.text ++ r) = true := by
  intro f
  induction f with
  | tru => intro r _ h; show negB (116 :: r) = true; rw [negB_cons (by decide)]; exact h
  | fls => intro r _ h; show negB (102 :: r) = true; rw [negB_cons (by decide)]; exact h
  | pr v => intro r _ h; show negB (80 :: vb v :: r) = true; rw [negB_cons (by decide), negB_cons (vb_ne v)]; exact h
  | eq v w => intro r _ h; show negB (61 :: vb v :: vb w :: r) = true; rw [negB_cons (by decide), negB_cons (vb_ne v), negB_cons (vb_ne w)]; exact h
  | rel v w => intro r _ h; show negB (69 :: vb v :: vb w :: r) = true; rw [negB_cons (by decide), negB_cons (vb_ne v), negB_cons (vb_ne w)]; exact h
  | neg p ih =>
    intro r hf h
    simp only [negF, Bool.and_eq_true] at hf
    have h1 := ih r hf.2 h
    obtain ⟨t, ht⟩ := op_cons p
    show negB (33 :: (p.text ++ r)) = true
    rw [ht] at h1 ⊢
    show ((33 != 33 || okc p.op) && negB (p.op :: (t ++ r))) = true
    rw [hf.1]
    simpa using h1
  | con p q ihp ihq =>
    intro r hf h
    simp only [negF, Bool.and_eq_true] at hf
    show negB (38 :: ((p.text ++ q.text) ++ r)) = true
    rw [negB_cons (by decide), List.append_assoc]
    exact ihp _ hf.1 (ihq _ hf.2 h)
  | dis p q ihp ihq =>
    intro r hf h
    simp only [negF, Bool.and_eq_true] at hf
    show negB (124 :: ((p.text ++ q.text) ++ r)) = true
    rw [negB_cons (by decide), List.append_assoc]
    exact ihp _ hf.1 (ihq _ hf.2 h)
  | qu k v p ih =>
    intro r hf h
    simp only [negF] at hf
    show negB (k.b :: vb v :: (p.text ++ r)) = true
    rw [negB_cons (qb_ne k), negB_cons (vb_ne v)]
    exact ih _ hf h
theorem push_negF : ∀ (f : Fm) (b : Bool), negF (f.push b) = true := by
  intro f
  induction f with
  | tru => intro b; cases b <;> rfl
  | fls => intro b; cases b <;> rfl
  | pr v => intro b; cases b <;> rfl
  | eq v w => intro b; cases b <;> rfl
  | rel v w => intro b; cases b <;> rfl
  | neg p ih => intro b; exact ih (!b)
  | con p q ihp ihq => intro b; cases b <;> simp [Fm.push, negF, ihp, ihq]
  | dis p q ihp ihq => intro b; cases b <;> simp [Fm.push, negF, ihp, ihq]
  | qu k v p ih => intro b; cases k <;> cases b <;> simp [Fm.push, negF, ih, okc, Fm.op, Qn.b]
theorem push_again : ∀ (f : Fm), negF f = true → f.push false = f := by
  intro f
  induction f with
  | tru => intro _; rfl
  | fls => intro _; rfl
  | pr v => intro _; rfl
  | eq v w => intro _; rfl
  | rel v w => intro _; rfl
  | neg p ih =>
    intro h
    simp only [negF, Bool.and_eq_true] at h
    have h1 := ih h.2
    show p.push true = .neg p
    cases p with
    | tru => exact absurd h.1 (by simp [okc, Fm.op, Qn.b])
    | fls => exact absurd h.1 (by simp [okc, Fm.op, Qn.b])
    | pr v => rfl
    | eq v w => rfl
    | rel v w => rfl
    | neg q => exact absurd h.1 (by simp [okc, Fm.op, Qn.b])
    | con q q2 => exact absurd h.1 (by simp [okc, Fm.op, Qn.b])
    | dis q q2 => exact absurd h.1 (by simp [okc, Fm.op, Qn.b])
    | qu k v q =>
      cases k with
      | A => exact absurd h.1 (by simp [okc, Fm.op, Qn.b])
      | S => exact absurd h.1 (by simp [okc, Fm.op, Qn.b])
      | c2 => simp only [Fm.push] at h1 ⊢; simp at h1 ⊢; exact h1
      | c3 => simp only [Fm.push] at h1 ⊢; simp at h1 ⊢; exact h1
      | c4 => simp only [Fm.push] at h1 ⊢; simp at h1 ⊢; exact h1
  | con p q ihp ihq =>
    intro h
    simp only [negF, Bool.and_eq_true] at h
    show Fm.con (p.push false) (q.push false) = _
    rw [ihp h.1, ihq h.2]
  | dis p q ihp ihq =>
    intro h
    simp only [negF, Bool.and_eq_true] at h
    show Fm.dis (p.push false) (q.push false) = _
    rw [ihp h.1, ihq h.2]
  | qu k v p ih =>
    intro h
    simp only [negF] at h
    have h1 := ih h
    cases k <;> simp [Fm.push, h1]
theorem negB_at : ∀ (l : List UInt8), negB l = true → ∀ i, i + 1 < l.length → l.getD i 0 = 33 → okc (l.getD (i + 1) 0) = true := by
  intro l
  induction l with
  | nil => intro _ i hi; simp at hi
  | cons x l ih =>
    intro h i hi hx
    cases l with
    | nil => simp at hi
    | cons y l =>
      simp only [negB, Bool.and_eq_true] at h
      cases i with
      | zero =>
        have : x = 33 := by simpa using hx
        subst this
        simpa using h.1
      | succ i => 
        have := ih h.2 i (by simpa using hi) (by simpa using hx)
        simpa using this
theorem pushed_at (f : Fm) (i : Nat) (hi : i + 1 < (f.push false).text.length) (h : (f.push false).text.getD i 0 = 33) : okc ((f.push false).text.getD (i + 1) 0) = true := by
  have h1 := negB_text (f.push false) [] (push_negF f false) rfl
  rw [List.append_nil] at h1
  exact negB_at _ h1 i hi h
theorem free_text {f g : Fm} (h : ∀ u, g.isFree u ↔ f.isFree u) : freeT g = freeT f := by
  unfold freeT varsL
  congr 1
  apply List.filter_congr
  intro k hk
  have hk4 := List.mem_range.1 hk
  have := h ⟨k, hk4⟩
  unfold Fm.isFree at this
  rw [Bool.eq_iff_iff]
  exact this
/-- PushNot: no, or the pushed formula -/
theorem push_cases (s : ByteArray) : optV s.data.toList pushO = (bs [], false) ∨ ∃ f : Fm, s = bs f.text ∧ f.text.length ≤ 4000 ∧ (f.push false).text.length ≤ 4000 ∧ optV s.data.toList pushO = (bs (f.push false).text, true) := by
  rcases fm_cases s with ⟨_, h⟩ | ⟨f, hb, hf, hs, hl⟩
  · left; exact optV_no _ h
  · by_cases ht : (f.push false).text.length ≤ 4000
    · right
      refine ⟨f, eq_bs hf, hl, ht, ?_⟩
      exact optV_yes pushO hf (by rw [hf]; exact hl) rfl ht
    · left
      exact optV_long (t := (f.push false).text) pushO hf (by rw [hf]; exact hl) rfl (by omega)
theorem push_twice {f : Fm} (hl : (f.push false).text.length ≤ 4000) : optV (bs (f.push false).text).data.toList pushO = (bs (f.push false).text, true) := by
  refine optV_yes (f := f.push false) pushO (bs_list _) (by rw [bs_list]; exact hl) ?_ hl
  show some ((f.push false).push false).text = _
  rw [push_again _ (push_negF f false)]
end Go.Proofs.YteonanaihklgmaaDoor

namespace Go.Proofs.YteonanaihklgmaaDoor
open Go.RowKit
set_option linter.unusedVariables false

section
variable {md : Region.Mode} {ops : Array Oper}

/-- a part of the order -/
def schedPart (md : Region.Mode) (ops : Array Oper) : List (Nat × Bool) → Array Bool → Bool
  | [], _ => true
  | (i, true) :: is, listed => Region.free md ops listed i && ((Region.ready md ops listed).contains i && schedPart md ops is (listed.setIfInBounds i true))
  | (i, false) :: is, listed => (Region.ready md ops listed == [i]) && schedPart md ops is (listed.setIfInBounds i true)
/-- what is listed behind it -/
def layB : List (Nat × Bool) → Array Bool → Array Bool
  | [], l => l
  | (i, _) :: is, l => layB is (l.setIfInBounds i true)
theorem schedOk_app : ∀ (is1 is2 : List (Nat × Bool)) (l : Array Bool), schedPart md ops is1 l = true → schedOk md ops is2 (layB is1 l) = true → schedOk md ops (is1 ++ is2) l = true := by
  intro is1
  induction is1 with
  | nil => intro is2 l _ h; exact h
  | cons p is ih =>
    obtain ⟨i, b⟩ := p
    intro is2 l h1 h2
    cases b with
    | true =>
      simp only [schedPart, Bool.and_eq_true] at h1
      simp only [List.cons_append, schedOk, Bool.and_eq_true]
      exact ⟨h1.1, h1.2.1, ih is2 _ h1.2.2 h2⟩
    | false =>
      simp only [schedPart, Bool.and_eq_true] at h1
      simp only [List.cons_append, schedOk, Bool.and_eq_true]
      exact ⟨h1.1, ih is2 _ h1.2 h2⟩
theorem schedOk_cut (is1 is2 : List (Nat × Bool)) (l l' : Array Bool) (h1 : schedPart md ops is1 l = true) (hl : layB is1 l = l') (h2 : schedOk md ops is2 l' = true) : schedOk md ops (is1 ++ is2) l = true :=
  schedOk_app is1 is2 l h1 (by rw [hl]; exact h2)
end

end Go.Proofs.YteonanaihklgmaaDoor

namespace Go.Proofs.YteonanaihklgmaaDoor
open Go.RowKit
open Pl
set_option linter.unusedSimpArgs false
set_option linter.unusedVariables false

attribute [local go_sem ↓] Go.wp_at_zero Go.wp_at_succ

theorem twoSt_ok : St.ok ⟨2, [49, 48], [48, 49, 49, 48]⟩ := ⟨by decide, by decide, rfl, rfl, by unfold IsBit; decide, by unfold IsBit; decide⟩
/-- a row of bytes beside a block that is written -/
theorem ByRow.put {W : World} {A : Option Addr} {n g : Nat} (h : ByRow W A n) (hg : ∀ x, A = some x → 0 < n → x.block ≠ g) (i : Nat) (v : Value) : ByRow (W.setCell ⟨g, i, none⟩ v) A n := fun hn => by
  obtain ⟨x, rfl, hc⟩ := h hn
  have hx := hg x rfl hn
  refine ⟨x, rfl, fun j hj => ?_⟩
  obtain ⟨b, hb, hcell⟩ := hc j hj
  refine ⟨b, hb, ?_⟩
  rw [← hcell]
  have hbl : (x.add j).block = x.block := by unfold Addr.add; split <;> rfl
  exact World.cell?_of_block (by rw [hbl]; exact Below.heap_setCell W _ _ _ (by simp; omega))

set_option maxHeartbeats 16000000 in
set_option maxRecDepth 100000 in
theorem FnPushNot_walk (A : Option Addr) (n cap : Nat) (AA : Option Addr) (n2 cap2 : Nat) (w : World) (h : ByRow w A n) (hc : n ≤ cap) (hm : cap ≤ maxLen) (h2 : ByRow w AA n2) (hc2 : n2 ≤ cap2) (hm2 : cap2 ≤ maxLen) :
    Calls Tryd.prog 3 #[.slice A n cap, .slice AA n2 cap2] w fun e w' => e = .returned (.bool true) ∧ Below w.heap.size w w' := by
  by_cases hn : n ≤ 1048576
  case neg =>
    have hni : (1048576 : Int) < (n : Int) := by omega
    clear h hc hm h2 hc2 hm2
    go_enter Tryd.func3, Tryd.ntmps3
    go_wp2_with fail
    go_ret
    exact ⟨rfl, Below.refl _ _⟩
  case pos =>
  have hni : (n : Int) ≤ 1048576 := by omega
  by_cases hn2 : n2 ≤ 1048576
  case neg =>
    have hni2 : (1048576 : Int) < (n2 : Int) := by omega
    clear h hc hm h2 hc2 hm2
    go_enter Tryd.func3, Tryd.ntmps3
    go_wp2_with fail
    go_ret
    exact ⟨rfl, Below.refl _ _⟩
  case pos =>
  have hni2 : (n2 : Int) ≤ 1048576 := by omega
  have H2 := Lib.hid h2
  have HD := Lib.hid (DrawPushNot_calls A n cap w h hn hc hm)
  have HDC := Lib.hid (fun (W : World) (hW : ByRow W AA n2) => DrawCountSymmetries_calls AA n2 cap2 W hW hn2 hc2 hm2)
  have HROW0 := Lib.hid (show ∀ x, AA = some x → 0 < n2 → x.block < w.heap.size from fun x hx h0 => by
    obtain ⟨y, hy, hcc⟩ := h2 h0
    rw [hx] at hy
    injection hy with hy
    subst hy
    obtain ⟨b, _, hcell⟩ := hcc 0 h0
    have := World.block_lt_of_cell? w _ hcell
    have hbl : (x.add 0).block = x.block := by unfold Addr.add; split <;> rfl
    rwa [hbl] at this)
  clear h hc hm h2 hc2 hm2
  go_enter Tryd.func3, Tryd.ntmps3
  go_wp2_with fail
  refine (HD.out).mono ?_
  rintro e w1 ⟨⟨t, rfl, ht⟩, hz⟩
  have B1 := Lib.hid hz
  have R1 := Lib.hid (H2.out.call hz)
  clear hz
  have ci := fun W => PushNot_impl t W
  have cs := fun W => PushNot_spec t W (by unfold maxLen; omega)
  rcases push_cases t with hv | ⟨f, rfl, hfl, hgg, hv⟩
  · simp only [hv] at ci cs
    have CI := Lib.hid ci
    have CS := Lib.hid cs
    clear ci cs hv
    go_wp2_with fail
    refine (CI.out _).mono ?_
    rintro e w2 ⟨rfl, hz⟩
    have B2 := Lib.hid (B1.out.trans (hz.mono B1.out.size))
    clear hz
    go_wp2_with fail
    refine (CS.out _).mono ?_
    rintro e w3 ⟨rfl, hz⟩
    have B3 := Lib.hid (B2.out.trans (hz.mono B2.out.size))
    clear hz
    go_wp2_with fail
    go_ret
    exact ⟨rfl, B3.out⟩
  simp only [hv] at ci cs
  clear hv
  obtain ⟨GG, hGG⟩ : ∃ GG, GG = f.push false := ⟨_, rfl⟩
  have pf := push_facts f false
  have hsem : ∀ (a : St) (e : Env), GG.holds a e = f.holds a e := fun a e => by rw [hGG, holds_push]; rfl
  have hat0 := pushed_at f
  have hpt := push_twice hgg
  have hpg := fun W => PushNot_impl (bs (f.push false).text) W
  simp only [hpt] at hpg
  have hrg := fun W => RankOf_impl (bs (f.push false).text) W
  simp only [numV_yes Fm.rank (bs_list _) (by rw [bs_list]; exact hgg), pf.1] at hrg
  have hrf := fun W => RankOf_impl (bs f.text) W
  simp only [numV_yes Fm.rank (bs_list _) (by rw [bs_list]; exact hfl)] at hrf
  have hvg := fun W => FreeVars_impl (bs (f.push false).text) W
  simp only [txtV_yes freeT (bs_list _) (by rw [bs_list]; exact hgg), free_text pf.2] at hvg
  have hvf := fun W => FreeVars_impl (bs f.text) W
  simp only [txtV_yes freeT (bs_list _) (by rw [bs_list]; exact hfl)] at hvf
  rw [← hGG] at hpg hgg hat0 hrg hvg ci cs
  obtain ⟨GT, hGT⟩ : ∃ GT, GT = bs GG.text := ⟨_, rfl⟩
  obtain ⟨FT, hFT⟩ : ∃ FT, FT = bs f.text := ⟨_, rfl⟩
  have hat : ∀ j (h1 : j + 1 < GT.size) (h0 : j < GT.size), GT[j]'h0 = 33 → okc (GT[j + 1]'h1) = true := fun j h1 h0 he => by
    have hl : GT.size = GG.text.length := by rw [hGT, bs_size]
    have hl1 : j + 1 < GG.text.length := by rw [← hl]; exact h1
    have e1 : ∀ k (hk : k < GT.size), GT[k]'hk = GG.text.getD k 0 := fun k hk => by
      subst hGT
      rw [bs_size] at hk
      rw [List.getD_eq_getElem?_getD, List.getElem?_eq_getElem hk]
      rfl
    rw [e1] at he ⊢
    exact hat0 j hl1 he
  have hgt0 : 0 < GT.size := by rw [hGT, bs_size, GG.text_eq]; simp
  have hgz : (GT.size : Int) ≤ 4000 := by rw [hGT, bs_size]; omega
  rw [← hGT] at hpg hrg hvg ci cs
  rw [← hFT] at hrf hvf ci cs ht ⊢
  obtain ⟨RK, hRK⟩ : ∃ RK, RK = f.rank := ⟨_, rfl⟩
  obtain ⟨FV, hFV⟩ : ∃ FV, FV = bs (freeT f) := ⟨_, rfl⟩
  rw [← hRK] at hrg hrf
  rw [← hFV] at hvg hvf
  have CI := Lib.hid ci
  have CS := Lib.hid cs
  have HPG := Lib.hid hpg
  have HRG := Lib.hid hrg
  have HRF := Lib.hid hrf
  have HVG := Lib.hid hvg
  have HVF := Lib.hid hvf
  have HSEM := Lib.hid hsem
  have HAT := Lib.hid hat
  have HGT := Lib.hid hGT
  have HFT := Lib.hid hFT
  have HGT0 := Lib.hid hgt0
  clear ci cs hpg hrg hrf hvg hvf hsem hat hat0 hGG hGT hFT hpt pf hRK hFV hgt0
  go_wp2_with fail
  refine (CI.out _).mono ?_
  rintro e w2 ⟨rfl, hz⟩
  have B2 := Lib.hid (B1.out.trans (hz.mono B1.out.size))
  have R2 := Lib.hid (R1.out.call hz)
  clear hz
  go_wp2_with fail
  refine (CS.out _).mono ?_
  rintro e w4 ⟨rfl, hz⟩
  have B4 := Lib.hid (B2.out.trans (hz.mono B2.out.size))
  have R4 := Lib.hid (R2.out.call hz)
  clear hz B1 B2 R1 R2 CI CS
  go_wp2_with fail
  refine (HDC.out _ R4.out).mono ?_
  rintro e w5 ⟨⟨i, s, r, rfl, hi, hs, hr⟩, hz⟩
  have B5 := Lib.hid ((B4.out.trans (hz.mono B4.out.size)).alloc (Nat.le_trans B4.out.size hz.size) (.cells #[.int .i64 i, .string s, .string r] 27))
  have R5 := Lib.hid ((R4.out.call hz).call ((Below.refl w5.heap.size w5).alloc (Nat.le_refl _) (.cells #[.int .i64 i, .string s, .string r] 27)))
  have X5 := Lib.hid (Bx.new w5 27 #[.int .i64 i, .string s, .string r])
  have HROW := Lib.hid (show ∀ x, AA = some x → 0 < n2 → x.block ≠ w5.heap.size from fun x hx h0 => by have e1 := HROW0.out x hx h0; have e2 := B4.out.size; have e3 := hz.size; omega)
  have W5 := Lib.hid (show w.heap.size ≤ w5.heap.size from Nat.le_trans B4.out.size hz.size)
  clear hz hi
  have HVA := Lib.hid (fun W => StructureValid_impl i s r W (by unfold maxLen; omega) (by unfold maxLen; omega))
  obtain ⟨x0, x1, x2⟩ := box_load X5.out
  go_wp2_with fail
  refine (HVA.out _).mono ?_
  rintro e w6 ⟨rfl, hz⟩
  have B6 := Lib.hid (B5.out.trans (hz.mono B5.out.size))
  have R6 := Lib.hid (R5.out.call hz)
  have X6 := Lib.hid (X5.out.call hz)
  clear hz x0 x1 x2
  rcases ok_cases i s r with hno | ⟨a, ha, rfl, rfl, rfl⟩
  · have Z6 := Lib.hid ((X6.out.puts (.int .i64 2) (.string ⟨#[49, 48]⟩) (.string ⟨#[48, 49, 49, 48]⟩)))
    have E6 := Lib.hid (below_puts B6.out W5.out (.int .i64 2) (.string ⟨#[49, 48]⟩) (.string ⟨#[48, 49, 49, 48]⟩))
    have RR6 := Lib.hid (((((R6.out.put (g := w5.heap.size) (HROW.out) 0 (.int .i64 2)).put HROW.out 1 (.string ⟨#[49, 48]⟩)).put HROW.out 2 (.string ⟨#[48, 49, 49, 48]⟩))))
    obtain ⟨c0, c1, c2⟩ := box_load X6.out
    have f0 := X6.out.free 0
    have f1 := X6.out.free 1
    have f2 := X6.out.free 2
    rw [hno]
    clear hno
    go_upto_region 11 with (fail)
    obtain ⟨a, hae⟩ : ∃ a : St, a = ⟨2, [49, 48], [48, 49, 49, 48]⟩ := ⟨_, rfl⟩
    have ha : a.ok := by rw [hae]; exact twoSt_ok
    have XL := Lib.hid (show Bx _ w5.heap.size 27 #[.int .i64 (a.n : Int), .string (bs a.set), .string (bs a.rel)] from by rw [hae]; exact Z6.out)
    have RL := Lib.hid RR6.out
    have BL := Lib.hid E6.out
    clear c0 c1 c2 f0 f1 f2 Z6 E6 RR6 X6 B6 R6 X5 B5 R5 hae
    as_aux_lemma =>
      have HG4 := Lib.hid (fun (q : Nat) (hq : q ≤ 1000) (W : World) (hW : ByRow W AA n2) => gsFour_calls a ha AA n2 cap2 hn2 q hq W hW)
      have HGG := Lib.hid (fun (q : List Nat) (hqx : ∀ x ∈ q, x < a.n) (hq : q.length = 4) (b : Bool) (hb : f.holds a (envL q) = b) (A2 : Option Addr) (W : World) (hW : LRow W A2 (natsI q)) => gs_four a ha GG hgg GT HGT.out q hqx hq A2 4 (Nat.le_refl _) b (by rw [HSEM.out]; exact hb) W hW)
      have HGF := Lib.hid (fun (q : List Nat) (hqx : ∀ x ∈ q, x < a.n) (hq : q.length = 4) (b : Bool) (hb : f.holds a (envL q) = b) (A2 : Option Addr) (W : World) (hW : LRow W A2 (natsI q)) => gs_four a ha f hfl FT HFT.out q hqx hq A2 4 (Nat.le_refl _) b hb W hW)
      go_wp2_with fail
      go_loopg [11] 6 (fun c iv wr => ∃ k : Nat, k + c = 6 ∧ iv = .int .i64 (k : Nat) ∧ Bx wr w5.heap.size 27 #[.int .i64 (a.n : Int), .string (bs a.set), .string (bs a.rel)] ∧ ByRow wr AA n2 ∧ Below w.heap.size w wr)
      case atStart => exact ⟨0, by omega, rfl, XL.out, RL.out, BL.out⟩
      case round =>
        clear XL RL BL
        obtain ⟨k, hk, rfl, hxs, hby, hbl⟩ := hrel
        have HXs := Lib.hid hxs
        have HBY := Lib.hid hby
        have HB := Lib.hid hbl
        clear hxs hby hbl
        obtain ⟨x0, x1, x2⟩ := box_load HXs.out
        by_cases hlt : k < 6
        · go_wp2_with fail
          refine (HG4.out k (by omega) _ HBY.out).mono ?_
          rintro e w10 ⟨⟨gq, y0, y1, y2, y3, rfl, z0, z1, z2, z3, hq, hgq⟩, hz⟩
          have B10 := Lib.hid (HB.out.trans (hz.mono HB.out.size))
          have X10 := Lib.hid (HXs.out.call hz)
          have R10 := Lib.hid (HBY.out.call hz)
          have Q10 := Lib.hid hq
          have hyx : ∀ x ∈ [y0, y1, y2, y3], x < a.n := fun x hx => by simp at hx; rcases hx with rfl | rfl | rfl | rfl <;> assumption
          obtain ⟨V, hV⟩ : ∃ V, V = f.holds a (envL [y0, y1, y2, y3]) := ⟨_, rfl⟩
          have HGQ := Lib.hid (HGG.out [y0, y1, y2, y3] hyx rfl V hV.symm (some ⟨gq, 0, none⟩))
          have HFQ := Lib.hid (HGF.out [y0, y1, y2, y3] hyx rfl V hV.symm (some ⟨gq, 0, none⟩))
          have VV : (V != V) = false := by cases V <;> rfl
          clear hz hq hgq z0 z1 z2 z3 x0 x1 x2 hyx hV
          have B11 := Lib.hid B10.out.drew
          have X11 := Lib.hid X10.out.drew
          have R11 := Lib.hid (R10.out.call (Below.refl w10.heap.size w10).drew)
          have Q11 := Lib.hid (show LRow w10.drew (some ⟨gq, 0, none⟩) (natsI [y0, y1, y2, y3]) from Q10.out)
          obtain ⟨x0, x1, x2⟩ := box_load X11.out
          go_upto_region 15 with (fail)
          refine region_sched [(0, true), (1, true), (2, true), (4, true), (5, true), (6, true), (3, false), (7, false), (8, true)] (fun w' : World => w'.cell? ⟨w5.heap.size, 0, none⟩ = some (.int .i64 (a.n : Int)) ∧ w'.cell? ⟨w5.heap.size, 1, none⟩ = some (.string (bs a.set)) ∧ w'.cell? ⟨w5.heap.size, 2, none⟩ = some (.string (bs a.rel))) (by kernel_rfl) (by kernel_rfl) (by kernel_rfl) (by kernel_rfl) (fun _ _ _ _ h => h) ?_ (fun Q1 hQ1 => ?_)
          · exact ⟨x0, x1, x2⟩
          try simp only [List.append]
          refine sched_take' (v := .agg #[.int .i64 (a.n : Int), .string (bs a.set), .string (bs a.rel)]) (a' := ?_) rfl (by kernel_rfl) ?_ rfl ?_ ?_
          rotate_left 1
          · intro w hSw
            (try dsimp only at hSw)
            go_simp
            first | done | (obtain ⟨u0, u1, u2⟩ := hSw; simp [u0, u1, u2])
          · (try simp only [Act.put, List.setIfInBounds_toArray, List.set_cons_zero, List.set_cons_succ])
            try rfl
          refine sched_take' (v := ?_) (a' := ?_) rfl (by kernel_rfl) ?_ rfl ?_ ?_
          rotate_left 2
          · intro w hSw
            (try dsimp only at hSw)
            go_simp
            try with_reducible rfl
          · (try simp only [Act.put, List.setIfInBounds_toArray, List.set_cons_zero, List.set_cons_succ])
            try rfl
          refine sched_take' (v := ?_) (a' := ?_) rfl (by kernel_rfl) ?_ rfl ?_ ?_
          rotate_left 2
          · intro w hSw
            (try dsimp only at hSw)
            go_simp
            try with_reducible rfl
          · (try simp only [Act.put, List.setIfInBounds_toArray, List.set_cons_zero, List.set_cons_succ])
            try rfl
          refine sched_take' (v := .agg #[.int .i64 (a.n : Int), .string (bs a.set), .string (bs a.rel)]) (a' := ?_) rfl (by kernel_rfl) ?_ rfl ?_ ?_
          rotate_left 1
          · intro w hSw
            (try dsimp only at hSw)
            go_simp
            first | done | (obtain ⟨u0, u1, u2⟩ := hSw; simp [u0, u1, u2])
          · (try simp only [Act.put, List.setIfInBounds_toArray, List.set_cons_zero, List.set_cons_succ])
            try rfl
          refine sched_take' (v := ?_) (a' := ?_) rfl (by kernel_rfl) ?_ rfl ?_ ?_
          rotate_left 2
          · intro w hSw
            (try dsimp only at hSw)
            go_simp
            try with_reducible rfl
          · (try simp only [Act.put, List.setIfInBounds_toArray, List.set_cons_zero, List.set_cons_succ])
            try rfl
          refine sched_take' (v := ?_) (a' := ?_) rfl (by kernel_rfl) ?_ rfl ?_ ?_
          rotate_left 2
          · intro w hSw
            (try dsimp only at hSw)
            go_simp
            try with_reducible rfl
          · (try simp only [Act.put, List.setIfInBounds_toArray, List.set_cons_zero, List.set_cons_succ])
            try rfl
          refine sched_call rfl (by kernel_rfl) (fun K1 hK1 => ?_)
          go_simp
          refine (HGQ.out _ Q11.out).mono ?_
          rintro e w12 ⟨rfl, hz⟩
          have B12 := Lib.hid (B11.out.trans (hz.mono B11.out.size))
          have X12 := Lib.hid (X11.out.call hz)
          have R12 := Lib.hid (R11.out.call hz)
          have Q12 := Lib.hid (Q11.out.call hz)
          clear hz x0 x1 x2
          obtain ⟨x0, x1, x2⟩ := box_load X12.out
          go_wp2_with fail
          refine hK1.out _ _ ?_ (sched_lay (a' := ?_) ?_ ?_)
          · exact ⟨x0, x1, x2⟩
          rotate_left 1
          · (try simp only [Act.put, List.getElem_toArray, List.getElem_cons_succ, List.getElem_cons_zero, List.setIfInBounds_toArray, List.set_cons_zero, List.set_cons_succ])
            try rfl
          clear hK1 K1
          refine sched_call rfl (by kernel_rfl) (fun K1 hK1 => ?_)
          go_simp
          refine (HFQ.out _ Q12.out).mono ?_
          rintro e w13 ⟨rfl, hz⟩
          have B13 := Lib.hid (B12.out.trans (hz.mono B12.out.size))
          have X13 := Lib.hid (X12.out.call hz)
          have R13 := Lib.hid (R12.out.call hz)
          have Q13 := Lib.hid (Q12.out.call hz)
          clear hz x0 x1 x2
          obtain ⟨x0, x1, x2⟩ := box_load X13.out
          go_wp2_with fail
          refine hK1.out _ _ ?_ (sched_lay (a' := ?_) ?_ ?_)
          · exact ⟨x0, x1, x2⟩
          rotate_left 1
          · (try simp only [Act.put, List.getElem_toArray, List.getElem_cons_succ, List.getElem_cons_zero, List.setIfInBounds_toArray, List.set_cons_zero, List.set_cons_succ])
            try rfl
          clear hK1 K1
          refine sched_take' (v := .bool false) (a' := ?_) rfl (by kernel_rfl) ?_ rfl ?_ ?_
          rotate_left 1
          · intro w hSw
            (try dsimp only at hSw)
            go_simp
            first | done | exact VV | (simp [VV]; done) | rfl
          · (try simp only [Act.put, List.setIfInBounds_toArray, List.set_cons_zero, List.set_cons_succ])
            try rfl
          refine sched_done (hQ1.out _ _ ?_)
          go_wp2_with fail
          go_roundg (6 - k - 1)
          case rel => exact ⟨k + 1, by omega, by go_num, X13.out, R13.out, B13.out⟩
          case measure => omega
        · obtain rfl : k = 6 := by omega
          obtain ⟨wo, hwo⟩ : ∃ x, x = wr := ⟨_, rfl⟩
          subst hwo
          clear HXs x0 x1 x2 HBY HG4 HGG HGF
          have B8 := HB
          clear HB
          go_wp2_with fail
          go_loopg [13] (GT.size - 1) (fun c iv wr => ∃ j : Nat, j + c = GT.size - 1 ∧ iv = .int .i64 (j : Nat) ∧ wr = wo)
          case atStart => exact ⟨0, by omega, rfl, rfl⟩
          case round =>
            obtain ⟨j, hj, rfl, rfl⟩ := hrel
            have hgt0 := HGT0.out
            by_cases hlt : j + 1 < GT.size
            · have hji : (j : Int) + 1 < (GT.size : Int) := by omega
              have hj0 : j < GT.size := by omega
              by_cases h33 : GT[j]'hj0 = 33
              · have hok := HAT.out j hlt hj0 h33
                obtain ⟨y, hy⟩ : ∃ y, y = GT[j + 1]'hlt := ⟨_, rfl⟩
                rw [← hy] at hok
                have hy2 : GT[j + 1]'hlt = y := hy.symm
                clear hy
                unfold okc at hok
                simp only [Bool.or_eq_true, beq_iff_eq] at hok
                rcases hok with ((((rfl | rfl) | rfl) | rfl) | rfl) | rfl <;>
                · go_wp2_with fail
                  go_roundg (GT.size - 1 - j - 1)
                  case rel => exact ⟨j + 1, by omega, by go_num, rfl⟩
                  case measure => omega
              · have h33b : (((GT[j]'hj0).toNat : Int) == 33) = false := by
                  rw [beq_eq_false_iff_ne]
                  intro e
                  exact h33 (UInt8.toNat_inj.1 (by show _ = 33; omega))
                clear h33
                go_wp2_with fail
                go_roundg (GT.size - 1 - j - 1)
                case rel => exact ⟨j + 1, by omega, by go_num, rfl⟩
                case measure => omega
            · have hge : (GT.size : Int) ≤ (j : Int) + 1 := by omega
              have hjb : (j : Int) ≤ 4000 := by omega
              clear hlt hj
              go_wp2_with fail
              refine (HPG.out _).mono ?_
              rintro e w9 ⟨rfl, hz⟩
              have B9 := Lib.hid (B8.out.trans (hz.mono B8.out.size))
              clear hz
              go_wp2_with fail
              refine (HRG.out _).mono ?_
              rintro e w10 ⟨rfl, hz⟩
              have B10 := Lib.hid (B9.out.trans (hz.mono B9.out.size))
              clear hz
              go_wp2_with fail
              refine (HRF.out _).mono ?_
              rintro e w11 ⟨rfl, hz⟩
              have B11 := Lib.hid (B10.out.trans (hz.mono B10.out.size))
              clear hz
              go_wp2_with fail
              refine (HVG.out _).mono ?_
              rintro e w12 ⟨rfl, hz⟩
              have B12 := Lib.hid (B11.out.trans (hz.mono B11.out.size))
              clear hz
              go_wp2_with fail
              refine (HVF.out _).mono ?_
              rintro e w13 ⟨rfl, hz⟩
              have B13 := Lib.hid (B12.out.trans (hz.mono B12.out.size))
              clear hz
              go_wp2_with fail
              go_ret
              exact ⟨rfl, B13.out⟩
  · have hok := okB_true ha
    rw [hok]
    have h8 := ha.hi
    have hlo := ha.lo
    clear hok
    have XL := Lib.hid X6.out
    have RL := Lib.hid R6.out
    have BL := Lib.hid B6.out
    clear X6 B6 R6 X5 B5 R5
    as_aux_lemma =>
      have HG4 := Lib.hid (fun (q : Nat) (hq : q ≤ 1000) (W : World) (hW : ByRow W AA n2) => gsFour_calls a ha AA n2 cap2 hn2 q hq W hW)
      have HGG := Lib.hid (fun (q : List Nat) (hqx : ∀ x ∈ q, x < a.n) (hq : q.length = 4) (b : Bool) (hb : f.holds a (envL q) = b) (A2 : Option Addr) (W : World) (hW : LRow W A2 (natsI q)) => gs_four a ha GG hgg GT HGT.out q hqx hq A2 4 (Nat.le_refl _) b (by rw [HSEM.out]; exact hb) W hW)
      have HGF := Lib.hid (fun (q : List Nat) (hqx : ∀ x ∈ q, x < a.n) (hq : q.length = 4) (b : Bool) (hb : f.holds a (envL q) = b) (A2 : Option Addr) (W : World) (hW : LRow W A2 (natsI q)) => gs_four a ha f hfl FT HFT.out q hqx hq A2 4 (Nat.le_refl _) b hb W hW)
      go_wp2_with fail
      go_loopg [11] 6 (fun c iv wr => ∃ k : Nat, k + c = 6 ∧ iv = .int .i64 (k : Nat) ∧ Bx wr w5.heap.size 27 #[.int .i64 (a.n : Int), .string (bs a.set), .string (bs a.rel)] ∧ ByRow wr AA n2 ∧ Below w.heap.size w wr)
      case atStart => exact ⟨0, by omega, rfl, XL.out, RL.out, BL.out⟩
      case round =>
        clear XL RL BL
        obtain ⟨k, hk, rfl, hxs, hby, hbl⟩ := hrel
        have HXs := Lib.hid hxs
        have HBY := Lib.hid hby
        have HB := Lib.hid hbl
        clear hxs hby hbl
        obtain ⟨x0, x1, x2⟩ := box_load HXs.out
        by_cases hlt : k < 6
        · go_wp2_with fail
          refine (HG4.out k (by omega) _ HBY.out).mono ?_
          rintro e w10 ⟨⟨gq, y0, y1, y2, y3, rfl, z0, z1, z2, z3, hq, hgq⟩, hz⟩
          have B10 := Lib.hid (HB.out.trans (hz.mono HB.out.size))
          have X10 := Lib.hid (HXs.out.call hz)
          have R10 := Lib.hid (HBY.out.call hz)
          have Q10 := Lib.hid hq
          have hyx : ∀ x ∈ [y0, y1, y2, y3], x < a.n := fun x hx => by simp at hx; rcases hx with rfl | rfl | rfl | rfl <;> assumption
          obtain ⟨V, hV⟩ : ∃ V, V = f.holds a (envL [y0, y1, y2, y3]) := ⟨_, rfl⟩
          have HGQ := Lib.hid (HGG.out [y0, y1, y2, y3] hyx rfl V hV.symm (some ⟨gq, 0, none⟩))
          have HFQ := Lib.hid (HGF.out [y0, y1, y2, y3] hyx rfl V hV.symm (some ⟨gq, 0, none⟩))
          have VV : (V != V) = false := by cases V <;> rfl
          clear hz hq hgq z0 z1 z2 z3 x0 x1 x2 hyx hV
          have B11 := Lib.hid B10.out.drew
          have X11 := Lib.hid X10.out.drew
          have R11 := Lib.hid (R10.out.call (Below.refl w10.heap.size w10).drew)
          have Q11 := Lib.hid (show LRow w10.drew (some ⟨gq, 0, none⟩) (natsI [y0, y1, y2, y3]) from Q10.out)
          obtain ⟨x0, x1, x2⟩ := box_load X11.out
          go_upto_region 15 with (fail)
          refine region_sched [(0, true), (1, true), (2, true), (4, true), (5, true), (6, true), (3, false), (7, false), (8, true)] (fun w' : World => w'.cell? ⟨w5.heap.size, 0, none⟩ = some (.int .i64 (a.n : Int)) ∧ w'.cell? ⟨w5.heap.size, 1, none⟩ = some (.string (bs a.set)) ∧ w'.cell? ⟨w5.heap.size, 2, none⟩ = some (.string (bs a.rel))) (by kernel_rfl) (by kernel_rfl) (by kernel_rfl) (by kernel_rfl) (fun _ _ _ _ h => h) ?_ (fun Q1 hQ1 => ?_)
          · exact ⟨x0, x1, x2⟩
          try simp only [List.append]
          refine sched_take' (v := .agg #[.int .i64 (a.n : Int), .string (bs a.set), .string (bs a.rel)]) (a' := ?_) rfl (by kernel_rfl) ?_ rfl ?_ ?_
          rotate_left 1
          · intro w hSw
            (try dsimp only at hSw)
            go_simp
            first | done | (obtain ⟨u0, u1, u2⟩ := hSw; simp [u0, u1, u2])
          · (try simp only [Act.put, List.setIfInBounds_toArray, List.set_cons_zero, List.set_cons_succ])
            try rfl
          refine sched_take' (v := ?_) (a' := ?_) rfl (by kernel_rfl) ?_ rfl ?_ ?_
          rotate_left 2
          · intro w hSw
            (try dsimp only at hSw)
            go_simp
            try with_reducible rfl
          · (try simp only [Act.put, List.setIfInBounds_toArray, List.set_cons_zero, List.set_cons_succ])
            try rfl
          refine sched_take' (v := ?_) (a' := ?_) rfl (by kernel_rfl) ?_ rfl ?_ ?_
          rotate_left 2
          · intro w hSw
            (try dsimp only at hSw)
            go_simp
            try with_reducible rfl
          · (try simp only [Act.put, List.setIfInBounds_toArray, List.set_cons_zero, List.set_cons_succ])
            try rfl
          refine sched_take' (v := .agg #[.int .i64 (a.n : Int), .string (bs a.set), .string (bs a.rel)]) (a' := ?_) rfl (by kernel_rfl) ?_ rfl ?_ ?_
          rotate_left 1
          · intro w hSw
            (try dsimp only at hSw)
            go_simp
            first | done | (obtain ⟨u0, u1, u2⟩ := hSw; simp [u0, u1, u2])
          · (try simp only [Act.put, List.setIfInBounds_toArray, List.set_cons_zero, List.set_cons_succ])
            try rfl
          refine sched_take' (v := ?_) (a' := ?_) rfl (by kernel_rfl) ?_ rfl ?_ ?_
          rotate_left 2
          · intro w hSw
            (try dsimp only at hSw)
            go_simp
            try with_reducible rfl
          · (try simp only [Act.put, List.setIfInBounds_toArray, List.set_cons_zero, List.set_cons_succ])
            try rfl
          refine sched_take' (v := ?_) (a' := ?_) rfl (by kernel_rfl) ?_ rfl ?_ ?_
          rotate_left 2
          · intro w hSw
            (try dsimp only at hSw)
            go_simp
            try with_reducible rfl
          · (try simp only [Act.put, List.setIfInBounds_toArray, List.set_cons_zero, List.set_cons_succ])
            try rfl
          refine sched_call rfl (by kernel_rfl) (fun K1 hK1 => ?_)
          go_simp
          refine (HGQ.out _ Q11.out).mono ?_
          rintro e w12 ⟨rfl, hz⟩
          have B12 := Lib.hid (B11.out.trans (hz.mono B11.out.size))
          have X12 := Lib.hid (X11.out.call hz)
          have R12 := Lib.hid (R11.out.call hz)
          have Q12 := Lib.hid (Q11.out.call hz)
          clear hz x0 x1 x2
          obtain ⟨x0, x1, x2⟩ := box_load X12.out
          go_wp2_with fail
          refine hK1.out _ _ ?_ (sched_lay (a' := ?_) ?_ ?_)
          · exact ⟨x0, x1, x2⟩
          rotate_left 1
          · (try simp only [Act.put, List.getElem_toArray, List.getElem_cons_succ, List.getElem_cons_zero, List.setIfInBounds_toArray, List.set_cons_zero, List.set_cons_succ])
            try rfl
          clear hK1 K1
          refine sched_call rfl (by kernel_rfl) (fun K1 hK1 => ?_)
          go_simp
          refine (HFQ.out _ Q12.out).mono ?_
          rintro e w13 ⟨rfl, hz⟩
          have B13 := Lib.hid (B12.out.trans (hz.mono B12.out.size))
          have X13 := Lib.hid (X12.out.call hz)
          have R13 := Lib.hid (R12.out.call hz)
          have Q13 := Lib.hid (Q12.out.call hz)
          clear hz x0 x1 x2
          obtain ⟨x0, x1, x2⟩ := box_load X13.out
          go_wp2_with fail
          refine hK1.out _ _ ?_ (sched_lay (a' := ?_) ?_ ?_)
          · exact ⟨x0, x1, x2⟩
          rotate_left 1
          · (try simp only [Act.put, List.getElem_toArray, List.getElem_cons_succ, List.getElem_cons_zero, List.setIfInBounds_toArray, List.set_cons_zero, List.set_cons_succ])
            try rfl
          clear hK1 K1
          refine sched_take' (v := .bool false) (a' := ?_) rfl (by kernel_rfl) ?_ rfl ?_ ?_
          rotate_left 1
          · intro w hSw
            (try dsimp only at hSw)
            go_simp
            first | done | exact VV | (simp [VV]; done) | rfl
          · (try simp only [Act.put, List.setIfInBounds_toArray, List.set_cons_zero, List.set_cons_succ])
            try rfl
          refine sched_done (hQ1.out _ _ ?_)
          go_wp2_with fail
          go_roundg (6 - k - 1)
          case rel => exact ⟨k + 1, by omega, by go_num, X13.out, R13.out, B13.out⟩
          case measure => omega
        · obtain rfl : k = 6 := by omega
          obtain ⟨wo, hwo⟩ : ∃ x, x = wr := ⟨_, rfl⟩
          subst hwo
          clear HXs x0 x1 x2 HBY HG4 HGG HGF
          have B8 := HB
          clear HB
          go_wp2_with fail
          go_loopg [13] (GT.size - 1) (fun c iv wr => ∃ j : Nat, j + c = GT.size - 1 ∧ iv = .int .i64 (j : Nat) ∧ wr = wo)
          case atStart => exact ⟨0, by omega, rfl, rfl⟩
          case round =>
            obtain ⟨j, hj, rfl, rfl⟩ := hrel
            have hgt0 := HGT0.out
            by_cases hlt : j + 1 < GT.size
            · have hji : (j : Int) + 1 < (GT.size : Int) := by omega
              have hj0 : j < GT.size := by omega
              by_cases h33 : GT[j]'hj0 = 33
              · have hok := HAT.out j hlt hj0 h33
                obtain ⟨y, hy⟩ : ∃ y, y = GT[j + 1]'hlt := ⟨_, rfl⟩
                rw [← hy] at hok
                have hy2 : GT[j + 1]'hlt = y := hy.symm
                clear hy
                unfold okc at hok
                simp only [Bool.or_eq_true, beq_iff_eq] at hok
                rcases hok with ((((rfl | rfl) | rfl) | rfl) | rfl) | rfl <;>
                · go_wp2_with fail
                  go_roundg (GT.size - 1 - j - 1)
                  case rel => exact ⟨j + 1, by omega, by go_num, rfl⟩
                  case measure => omega
              · have h33b : (((GT[j]'hj0).toNat : Int) == 33) = false := by
                  rw [beq_eq_false_iff_ne]
                  intro e
                  exact h33 (UInt8.toNat_inj.1 (by show _ = 33; omega))
                clear h33
                go_wp2_with fail
                go_roundg (GT.size - 1 - j - 1)
                case rel => exact ⟨j + 1, by omega, by go_num, rfl⟩
                case measure => omega
            · have hge : (GT.size : Int) ≤ (j : Int) + 1 := by omega
              have hjb : (j : Int) ≤ 4000 := by omega
              clear hlt hj
              go_wp2_with fail
              refine (HPG.out _).mono ?_
              rintro e w9 ⟨rfl, hz⟩
              have B9 := Lib.hid (B8.out.trans (hz.mono B8.out.size))
              clear hz
              go_wp2_with fail
              refine (HRG.out _).mono ?_
              rintro e w10 ⟨rfl, hz⟩
              have B10 := Lib.hid (B9.out.trans (hz.mono B9.out.size))
              clear hz
              go_wp2_with fail
              refine (HRF.out _).mono ?_
              rintro e w11 ⟨rfl, hz⟩
              have B11 := Lib.hid (B10.out.trans (hz.mono B10.out.size))
              clear hz
              go_wp2_with fail
              refine (HVG.out _).mono ?_
              rintro e w12 ⟨rfl, hz⟩
              have B12 := Lib.hid (B11.out.trans (hz.mono B11.out.size))
              clear hz
              go_wp2_with fail
              refine (HVF.out _).mono ?_
              rintro e w13 ⟨rfl, hz⟩
              have B13 := Lib.hid (B12.out.trans (hz.mono B12.out.size))
              clear hz
              go_wp2_with fail
              go_ret
              exact ⟨rfl, B13.out⟩

end Go.Proofs.YteonanaihklgmaaDoor

namespace Go.Proofs.YteonanaihklgmaaDoor
namespace R3
open Go.RowKit
set_option linter.unusedVariables false

/-- orders: an operation that is taken first, one that alone may come up, two that may -/
inductive Tr where
  | nil
  | take (i : Nat) (t : Tr)
  | one (i : Nat) (t : Tr)
  | two (i j : Nat) (t u : Tr)

section
variable {P : Program} {ops : Array Oper} {Q : Exit → Act → World → Prop} {md : Region.Mode} {S : World → Prop}

def okR (md : Region.Mode) (ops : Array Oper) : Tr → Nat → Array Bool → Bool
  | .nil, n, l => n == 0 && (Region.ready md ops l).isEmpty
  | .take i t, n, l => n != 0 && (Region.free md ops l i && ((Region.ready md ops l).contains i && okR md ops t (n - 1) (l.setIfInBounds i true)))
  | .one i t, n, l => n != 0 && ((Region.ready md ops l == [i]) && okR md ops t (n - 1) (l.setIfInBounds i true))
  | .two i j t u, n, l => n != 0 && ((Region.ready md ops l == [i, j]) && (okR md ops t (n - 1) (l.setIfInBounds i true) && okR md ops u (n - 1) (l.setIfInBounds j true)))

def wpR (P : Program) (ops : Array Oper) (Q : Exit → Act → World → Prop) (S : World → Prop) : Tr → Act → World → Prop
  | .nil, a, w => Q .normal a w
  | .take i t, a, w => ∃ o v, ops[i]? = some o ∧ YieldsIf P ops S o v a ∧ wpR P ops Q S t (a.put o.dst v) w
  | .one i t, a, w => wpOp P ops Q i (fun a' w' => S w' ∧ wpR P ops Q S t a' w') a w
  | .two i j t u, a, w => wpOp P ops Q i (fun a' w' => S w' ∧ wpR P ops Q S t a' w') a w ∧ wpOp P ops Q j (fun a' w' => S w' ∧ wpR P ops Q S u a' w') a w

theorem anyH_tree (hs : Region.noSelect ops = true) (hQ : ∀ t c a w, Q (.panic c) { a with tmps := t } w → Q (.panic c) a w) :
    ∀ (t : Tr) (n : Nat) (l : Array Bool) (a : Act) (w : World), okR md ops t n l = true → S w → wpR P ops Q S t a w → wpAnyH P md ops Q S n l a w := by
  intro t
  induction t with
  | nil =>
    intro n l a w h _ hw
    simp only [okR, Bool.and_eq_true, beq_iff_eq, List.isEmpty_iff] at h
    obtain ⟨rfl, h2⟩ := h
    exact ⟨h2, hw⟩
  | take i t ih =>
    intro n l a w h hS hw
    simp only [okR, Bool.and_eq_true, bne_iff_ne] at h
    obtain ⟨hn, h1, h2, h3⟩ := h
    obtain ⟨m, rfl⟩ : ∃ m, n = m + 1 := ⟨n - 1, by omega⟩
    obtain ⟨o, v, ho, hy, hr⟩ := hw
    exact wpAnyH_take ho hs h1 h2 (fun c a w h => by cases hd : o.dst with | none => rw [hd] at h; exact h | some d => rw [hd] at h; exact hQ _ c a w h) hy hS (ih _ _ _ _ h3 hS hr)
  | one i t ih =>
    intro n l a w h hS hw
    simp only [okR, Bool.and_eq_true, bne_iff_ne, beq_iff_eq] at h
    obtain ⟨hn, h1, h3⟩ := h
    obtain ⟨m, rfl⟩ : ∃ m, n = m + 1 := ⟨n - 1, by omega⟩
    refine wpAnyH_all h1 (by simp) fun j hj => ?_
    obtain rfl : j = i := by simpa using hj
    exact wpOp_mono (fun a' w' hk => ⟨hk.1, ih _ _ _ _ h3 hk.1 hk.2⟩) hw
  | two i j t u iht ihu =>
    intro n l a w h hS hw
    simp only [okR, Bool.and_eq_true, bne_iff_ne, beq_iff_eq] at h
    obtain ⟨hn, h1, h3, h4⟩ := h
    obtain ⟨m, rfl⟩ : ∃ m, n = m + 1 := ⟨n - 1, by omega⟩
    refine wpAnyH_all h1 (by simp) fun k hk => ?_
    have hk2 : k = i ∨ k = j := by simpa using hk
    rcases hk2 with rfl | rfl
    · exact wpOp_mono (fun a' w' hk => ⟨hk.1, iht _ _ _ _ h3 hk.1 hk.2⟩) hw.1
    · exact wpOp_mono (fun a' w' hk => ⟨hk.1, ihu _ _ _ _ h4 hk.1 hk.2⟩) hw.2

/-- the same, behind a name that nothing unfolds -/
structure Sd (P : Program) (ops : Array Oper) (Q : Exit → Act → World → Prop) (S : World → Prop) (t : Tr) (a : Act) (w : World) : Prop where
  out : wpR P ops Q S t a w

theorem region_tree {id : Nat} {a : Act} {w : World} (t : Tr) (S : World → Prop) (hm : P.follows .mixedOrders = true) (hs : Region.noSelect ops = true)
    (hk : okR .any ops t ops.size (Array.replicate ops.size false) = true) (hQ : ∀ t c a w, Q (.panic c) { a with tmps := t } w → Q (.panic c) a w) (hS : S w.drew)
    (h : ∀ Q' : Exit → Act → World → Prop, Hid (∀ a' w', Q .normal a' w' → Q' .normal a' w') → Sd P ops Q' S t a w.drew) : (Code.region id ops true).wp P Q a w :=
  wp_region_held (S := S) hm (anyH_tree (md := .any) (S := S) hs hQ t ops.size _ a w.drew hk hS (h Q (Lib.hid fun _ _ h => h)).out)

theorem tree_take {i : Nat} {t : Tr} {a : Act} {w : World} {o : Oper} {v : Value} {a' : Act} (ho : ops[i]? = some o) (hw : Region.wanted o (yielded ops a.tmps) = true) (hy : ∀ w, S w → (execOp a.eval o).run P w = .ok (.value v) w)
    {d : Tmp} (hd : o.dst = some d) (ha : a.put (some d) v = a') (h : Sd P ops Q S t a' w) : Sd P ops Q S (.take i t) a w := ⟨⟨o, v, ho, .inl ⟨hw, hy⟩, by rw [hd, ha]; exact h.out⟩⟩
theorem tree_one {i : Nat} {t : Tr} {a : Act} {w : World} {o : Oper} (ho : ops[i]? = some o) (hw : Region.wanted o (yielded ops a.tmps) = true)
    (h : ∀ K : Act → World → Prop, Hid (∀ a' w', S w' → Sd P ops Q S t a' w' → K a' w') → o.wp P a w K Q) : Sd P ops Q S (.one i t) a w := by
  refine ⟨?_⟩
  show wpOp P ops Q i _ a w
  unfold wpOp
  simp only [ho, hw, if_true]
  exact .inl (h _ (Lib.hid fun _ _ h1 h2 => ⟨h1, h2.out⟩))
theorem tree_two {i j : Nat} {t u : Tr} {a : Act} {w : World} (h1 : Sd P ops Q S (.one i t) a w) (h2 : Sd P ops Q S (.one j u) a w) : Sd P ops Q S (.two i j t u) a w := ⟨⟨h1.out, h2.out⟩⟩
theorem tree_lay {t : Tr} {a a' : Act} {w : World} (ha : a = a') (h : Sd P ops Q S t a' w) : Sd P ops Q S t a w := by rw [ha]; exact h
theorem tree_done {a : Act} {w : World} (h : Q .normal a w) : Sd P ops Q S .nil a w := ⟨h⟩

/-- an append, at an operation -/
theorem wp_app {o : Oper} {a : Act} {w : World} {K : Act → World → Prop} (s x : Operand) (t : TypeId)
    (ho : o.op = .call { callee := .builtin .append, args := #[s, x], argTypes := #[t, t] })
    (base : Nat) (e : TypeId) (i : TypeInfo) (z : Value) (size bytes : Nat) (ht : P.underlying t = some (.slice e)) (hi : P.info? e = some i) (hz : i.zero = some z)
    (hsize : i.size = size) (hby : i.bytes = bytes) (hzs : z.cells.size = size) (hsz : 0 < size)
    (v : Value) (n : Nat) (xs : List Value) (hs : a.eval s = v) (hown : w.ownsRow base e size v n xs)
    (ad : Addr) (m c : Nat) (news : List Value) (hx : a.eval x = .slice (some ad) m c) (hl : news.length = m * size) (hnews : ∀ j u, news[j]? = some u → w.cell? (ad.add j) = some u) (h1 : ∀ u ∈ news, u.oneCell' = true)
    (h63 : n + m ≤ maxLen) (hbytes : (n + m) * bytes ≤ 140737488355328) (hbase : base ≤ w.heap.size)
    (h : ∀ v' w', w'.ownsRow base e size v' (n + m) (xs ++ news) → w.grownBy w' v.ownBlock → K (a.put o.dst v') w') : o.wp P a w K Q := by
  obtain ⟨v', w', hr, h2, h3, _, _⟩ := run_append_own_at (P := P) w base t o.type e i z size bytes ht hi hz hsize hby hzs hsz v n xs hown ad m c news hl hnews h1 h63 hbytes hbase
  unfold Oper.wp execOp
  simp only [ho, resolve, invoke, builtin, Sem.run_bind, Sem.run_pure, Result.andThen_ok, List.map_toArray, List.map_cons, List.map_nil, hs, hx, hr]
  exact h v' w' h2 h3
end
end R3
end Go.Proofs.YteonanaihklgmaaDoor
