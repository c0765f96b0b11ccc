/-
  Walks of the reference's l2Int and l2Push. Condition: the text has at most 300000 bytes.
-/
import Derived.Test.YtjmfldakfokoaaaPush
import Derived.Test.YtjmfldakfokoaaaSpecRank
import Derived.Deep.QuietTactic
import Derived.BigQuiet
import Derived.WalkSmall
namespace Go.Proofs.Ytjmfldakfokoaaa
open Go.RowKit
open Pl
set_option linter.unusedSimpArgs false

theorem l2Int_calls (b : Bool) (w : World) : Calls Try.prog 55 #[.bool b] w fun e w' => e = .returned (.int .i64 (if b then 1 else 0)) ∧ w' = w := by
  cases b with
  | true =>
    go_enter Try.func55, Try.ntmps55
    go_wp2_with fail
    go_ret
    exact ⟨rfl, rfl⟩
  | false =>
    go_enter Try.func55, Try.ntmps55
    go_wp2_with fail
    go_ret
    exact ⟨rfl, rfl⟩

theorem int_eq {k : IntKind} {a b : Int} (h : a = b) : Value.int k a = .int k b := by rw [h]

/-- a piece of a text -/
theorem piece {s : ByteArray} {k : Nat} {x r : List UInt8} (h : s.data.toList.drop k = x ++ r) (j : Nat) (hj : j = k + x.length) : (s.extract k j).data.toList = x := by
  subst hj
  rw [Lib.extract_data, h]
  simp

theorem piece_eq {s : ByteArray} {k : Nat} {x r : List UInt8} (h : s.data.toList.drop k = x ++ r) (j : Nat) (hj : j = k + x.length) : s.extract k j = bs x := eq_bs (piece h j hj)

theorem piece_size {s : ByteArray} {k : Nat} {x r : List UInt8} (h : s.data.toList.drop k = x ++ r) (j : Nat) (hj : j = k + x.length) : (s.extract k j).size = x.length := by
  rw [Lib.size_eq, piece h j hj]

set_option maxHeartbeats 4000000 in
set_option maxRecDepth 100000 in
theorem l2Push_calls (n : Nat) : ∀ (o : Bool) (f : Fm) (s : ByteArray) (k : Nat) (r : List UInt8) (m : Int) (w : World), f.size ≤ n → s.data.toList.drop k = f.text ++ r → s.size ≤ 300000 → m = k →
    Calls Try.prog 41 #[.string s, .int .i64 m, .bool o] w fun e w' => e = .returned (.tuple #[.string (bs (pushL o f)), .int .i64 (k + f.text.length : Nat)]) ∧ Below w.heap.size w w' := by
  induction n with
  | zero => intro o f s k r m w hn; cases f <;> simp [Fm.size] at hn
  | succ n ih =>
    intro o f s k r m w hn hd hs hm
    subst hm
    obtain ⟨hk1, hop, hle⟩ := at_op hd
    have hk := hk1
    have Ih := Lib.hid ih
    clear ih
    cases f with
    | tru =>
      have hk := hk1
      have hb : (s[k].toNat : Int) = 116 := by rw [hop]; rfl
      clear hop hd
      cases o with
      | true =>
        go_enter Try.func41, Try.ntmps41
        go_upto_region 4 with (fail)
        go_quiet ((go_at_call 55; exact Calls.quiet_of_same (l2Int_calls _ _)))
        go_wp2_with fail
        go_ret2
        refine ⟨ret_pair (str_eq (eq_bs ?_)) (int_eq ?_), ?_⟩
        · simp [bs_data, pushL, Fm.push, Fm.text, Qn.b]
        · simp [Fm.text] <;> omega
        · first
            | exact Below.refl _ _
            | exact below_drewN (Below.refl _ _) _
            | assumption
            | exact (hb1.trans (hb2.mono hb1.size))
            | exact ((below_drewN (Below.refl _ _) _).trans hb1)
            | exact ((below_drewN (Below.refl _ _) _).trans (hb1.trans (hb2.mono hb1.size)))
      | false =>
        go_enter Try.func41, Try.ntmps41
        go_upto_region 4 with (fail)
        go_quiet ((go_at_call 55; exact Calls.quiet_of_same (l2Int_calls _ _)))
        go_wp2_with fail
        go_ret2
        refine ⟨ret_pair (str_eq (eq_bs ?_)) (int_eq ?_), ?_⟩
        · simp [bs_data, pushL, Fm.push, Fm.text, Qn.b]
        · simp [Fm.text] <;> omega
        · first
            | exact Below.refl _ _
            | exact below_drewN (Below.refl _ _) _
            | assumption
            | exact (hb1.trans (hb2.mono hb1.size))
            | exact ((below_drewN (Below.refl _ _) _).trans hb1)
            | exact ((below_drewN (Below.refl _ _) _).trans (hb1.trans (hb2.mono hb1.size)))
    | fls =>
      have hk := hk1
      have hb : (s[k].toNat : Int) = 102 := by rw [hop]; rfl
      clear hop hd
      cases o with
      | true =>
        go_enter Try.func41, Try.ntmps41
        go_upto_region 4 with (fail)
        go_quiet ((go_at_call 55; exact Calls.quiet_of_same (l2Int_calls _ _)))
        go_wp2_with fail
        go_ret2
        refine ⟨ret_pair (str_eq (eq_bs ?_)) (int_eq ?_), ?_⟩
        · simp [bs_data, pushL, Fm.push, Fm.text, Qn.b]
        · simp [Fm.text] <;> omega
        · first
            | exact Below.refl _ _
            | exact below_drewN (Below.refl _ _) _
            | assumption
            | exact (hb1.trans (hb2.mono hb1.size))
            | exact ((below_drewN (Below.refl _ _) _).trans hb1)
            | exact ((below_drewN (Below.refl _ _) _).trans (hb1.trans (hb2.mono hb1.size)))
      | false =>
        go_enter Try.func41, Try.ntmps41
        go_upto_region 4 with (fail)
        go_quiet ((go_at_call 55; exact Calls.quiet_of_same (l2Int_calls _ _)))
        go_wp2_with fail
        go_ret2
        refine ⟨ret_pair (str_eq (eq_bs ?_)) (int_eq ?_), ?_⟩
        · simp [bs_data, pushL, Fm.push, Fm.text, Qn.b]
        · simp [Fm.text] <;> omega
        · first
            | exact Below.refl _ _
            | exact below_drewN (Below.refl _ _) _
            | assumption
            | exact (hb1.trans (hb2.mono hb1.size))
            | exact ((below_drewN (Below.refl _ _) _).trans hb1)
            | exact ((below_drewN (Below.refl _ _) _).trans (hb1.trans (hb2.mono hb1.size)))
    | pr v =>
      have hb : (s[k].toNat : Int) = 80 := by rw [hop]; rfl
      have hend : Calls Try.prog 47 #[.string s, .int .i64 k] w fun e w' => e = .returned (.int .i64 (endI s.data.toList k)) ∧ w = w' := l2End_calls s.size s k w (by omega) (by unfold maxLen; omega) (by omega)
      rw [endI_some hd, show k + (Fm.text (.pr v)).length = k + 2 from rfl] at hend
      have hx := piece_eq hd (k + 2) (by simp [Fm.text])
      have hz := piece_size hd (k + 2) (by simp [Fm.text])
      have Hend := Lib.hid hend
      have Hx := Lib.hid hx
      simp only [Fm.text, List.length_cons, List.length_nil] at hle hz
      clear hop hend hd hx
      cases o with
      | true =>
        go_enter Try.func41, Try.ntmps41
        go_wp2_with (go_at_call 47; refine (Hend.out).mono ?_; rintro e w' ⟨rfl, rfl⟩)
        go_ret2
        refine ⟨ret_pair (str_eq (eq_bs ?_)) (int_eq ?_), ?_⟩
        · simp [bs_data, pushL, Fm.push, Fm.text, Qn.b, Hx.out]
        · simp [Fm.text] <;> omega
        · first
            | exact Below.refl _ _
            | exact below_drewN (Below.refl _ _) _
            | assumption
            | exact (hb1.trans (hb2.mono hb1.size))
            | exact ((below_drewN (Below.refl _ _) _).trans hb1)
            | exact ((below_drewN (Below.refl _ _) _).trans (hb1.trans (hb2.mono hb1.size)))
      | false =>
        go_enter Try.func41, Try.ntmps41
        go_wp2_with (go_at_call 47; refine (Hend.out).mono ?_; rintro e w' ⟨rfl, rfl⟩)
        go_ret2
        refine ⟨ret_pair (str_eq (eq_bs ?_)) (int_eq ?_), ?_⟩
        · simp [bs_data, pushL, Fm.push, Fm.text, Qn.b, Hx.out]
        · simp [Fm.text] <;> omega
        · first
            | exact Below.refl _ _
            | exact below_drewN (Below.refl _ _) _
            | assumption
            | exact (hb1.trans (hb2.mono hb1.size))
            | exact ((below_drewN (Below.refl _ _) _).trans hb1)
            | exact ((below_drewN (Below.refl _ _) _).trans (hb1.trans (hb2.mono hb1.size)))
    | eq v u =>
      have hb : (s[k].toNat : Int) = 61 := by rw [hop]; rfl
      have hend : Calls Try.prog 47 #[.string s, .int .i64 k] w fun e w' => e = .returned (.int .i64 (endI s.data.toList k)) ∧ w = w' := l2End_calls s.size s k w (by omega) (by unfold maxLen; omega) (by omega)
      rw [endI_some hd, show k + (Fm.text (.eq v u)).length = k + 3 from rfl] at hend
      have hx := piece_eq hd (k + 3) (by simp [Fm.text])
      have hz := piece_size hd (k + 3) (by simp [Fm.text])
      have Hend := Lib.hid hend
      have Hx := Lib.hid hx
      simp only [Fm.text, List.length_cons, List.length_nil] at hle hz
      clear hop hend hd hx
      cases o with
      | true =>
        go_enter Try.func41, Try.ntmps41
        go_wp2_with (go_at_call 47; refine (Hend.out).mono ?_; rintro e w' ⟨rfl, rfl⟩)
        go_ret2
        refine ⟨ret_pair (str_eq (eq_bs ?_)) (int_eq ?_), ?_⟩
        · simp [bs_data, pushL, Fm.push, Fm.text, Qn.b, Hx.out]
        · simp [Fm.text] <;> omega
        · first
            | exact Below.refl _ _
            | exact below_drewN (Below.refl _ _) _
            | assumption
            | exact (hb1.trans (hb2.mono hb1.size))
            | exact ((below_drewN (Below.refl _ _) _).trans hb1)
            | exact ((below_drewN (Below.refl _ _) _).trans (hb1.trans (hb2.mono hb1.size)))
      | false =>
        go_enter Try.func41, Try.ntmps41
        go_wp2_with (go_at_call 47; refine (Hend.out).mono ?_; rintro e w' ⟨rfl, rfl⟩)
        go_ret2
        refine ⟨ret_pair (str_eq (eq_bs ?_)) (int_eq ?_), ?_⟩
        · simp [bs_data, pushL, Fm.push, Fm.text, Qn.b, Hx.out]
        · simp [Fm.text] <;> omega
        · first
            | exact Below.refl _ _
            | exact below_drewN (Below.refl _ _) _
            | assumption
            | exact (hb1.trans (hb2.mono hb1.size))
            | exact ((below_drewN (Below.refl _ _) _).trans hb1)
            | exact ((below_drewN (Below.refl _ _) _).trans (hb1.trans (hb2.mono hb1.size)))
    | rel v u =>
      have hb : (s[k].toNat : Int) = 69 := by rw [hop]; rfl
      have hend : Calls Try.prog 47 #[.string s, .int .i64 k] w fun e w' => e = .returned (.int .i64 (endI s.data.toList k)) ∧ w = w' := l2End_calls s.size s k w (by omega) (by unfold maxLen; omega) (by omega)
      rw [endI_some hd, show k + (Fm.text (.rel v u)).length = k + 3 from rfl] at hend
      have hx := piece_eq hd (k + 3) (by simp [Fm.text])
      have hz := piece_size hd (k + 3) (by simp [Fm.text])
      have Hend := Lib.hid hend
      have Hx := Lib.hid hx
      simp only [Fm.text, List.length_cons, List.length_nil] at hle hz
      clear hop hend hd hx
      cases o with
      | true =>
        go_enter Try.func41, Try.ntmps41
        go_wp2_with (go_at_call 47; refine (Hend.out).mono ?_; rintro e w' ⟨rfl, rfl⟩)
        go_ret2
        refine ⟨ret_pair (str_eq (eq_bs ?_)) (int_eq ?_), ?_⟩
        · simp [bs_data, pushL, Fm.push, Fm.text, Qn.b, Hx.out]
        · simp [Fm.text] <;> omega
        · first
            | exact Below.refl _ _
            | exact below_drewN (Below.refl _ _) _
            | assumption
            | exact (hb1.trans (hb2.mono hb1.size))
            | exact ((below_drewN (Below.refl _ _) _).trans hb1)
            | exact ((below_drewN (Below.refl _ _) _).trans (hb1.trans (hb2.mono hb1.size)))
      | false =>
        go_enter Try.func41, Try.ntmps41
        go_wp2_with (go_at_call 47; refine (Hend.out).mono ?_; rintro e w' ⟨rfl, rfl⟩)
        go_ret2
        refine ⟨ret_pair (str_eq (eq_bs ?_)) (int_eq ?_), ?_⟩
        · simp [bs_data, pushL, Fm.push, Fm.text, Qn.b, Hx.out]
        · simp [Fm.text] <;> omega
        · first
            | exact Below.refl _ _
            | exact below_drewN (Below.refl _ _) _
            | assumption
            | exact (hb1.trans (hb2.mono hb1.size))
            | exact ((below_drewN (Below.refl _ _) _).trans hb1)
            | exact ((below_drewN (Below.refl _ _) _).trans (hb1.trans (hb2.mono hb1.size)))
    | neg p =>
      have hb : (s[k].toNat : Int) = 33 := by rw [hop]; rfl
      have hcall := Ih.out (!o) p s (k + 1) r ((k : Int) + 1) w (by simp [Fm.size] at hn; omega) (at_one hd) hs (by omega)
      have Hcall := Lib.hid hcall
      simp only [Fm.text, List.length_cons] at hle
      clear hop hcall hd
      cases o with
      | true =>
        go_enter Try.func41, Try.ntmps41
        go_wp2_with (go_at_call 41; refine (Hcall.out).mono ?_; rintro e w1 ⟨rfl, hb1⟩)
        go_ret2
        refine ⟨ret_pair (str_eq (eq_bs ?_)) (int_eq ?_), ?_⟩
        · simp [bs_data, pushL, Fm.push, Fm.text, Qn.b]
        · simp [Fm.text] <;> omega
        · first
            | exact Below.refl _ _
            | exact below_drewN (Below.refl _ _) _
            | assumption
            | exact (hb1.trans (hb2.mono hb1.size))
            | exact ((below_drewN (Below.refl _ _) _).trans hb1)
            | exact ((below_drewN (Below.refl _ _) _).trans (hb1.trans (hb2.mono hb1.size)))
      | false =>
        go_enter Try.func41, Try.ntmps41
        go_wp2_with (go_at_call 41; refine (Hcall.out).mono ?_; rintro e w1 ⟨rfl, hb1⟩)
        go_ret2
        refine ⟨ret_pair (str_eq (eq_bs ?_)) (int_eq ?_), ?_⟩
        · simp [bs_data, pushL, Fm.push, Fm.text, Qn.b]
        · simp [Fm.text] <;> omega
        · first
            | exact Below.refl _ _
            | exact below_drewN (Below.refl _ _) _
            | assumption
            | exact (hb1.trans (hb2.mono hb1.size))
            | exact ((below_drewN (Below.refl _ _) _).trans hb1)
            | exact ((below_drewN (Below.refl _ _) _).trans (hb1.trans (hb2.mono hb1.size)))
    | con p q =>
      have hb : (s[k].toNat : Int) = 38 := by rw [hop]; rfl
      obtain ⟨hd1, hd2⟩ := at_two hd
      have hcall := fun w => Ih.out o p s (k + 1) _ ((k : Int) + 1) w (by simp [Fm.size] at hn; omega) hd1 hs (by omega)
      have hcall2 := fun w => Ih.out o q s (k + 1 + p.text.length) _ ((k + 1 + p.text.length : Nat) : Int) w (by simp [Fm.size] at hn; omega) hd2 hs rfl
      have hx := piece_eq (show s.data.toList.drop k = [38] ++ (p.text ++ q.text ++ r) by rw [hd]; simp [Fm.text]) (k + 1) rfl
      have hz := piece_size (show s.data.toList.drop k = [38] ++ (p.text ++ q.text ++ r) by rw [hd]; simp [Fm.text]) (k + 1) rfl
      have Hcall := Lib.hid hcall
      have Hcall2 := Lib.hid hcall2
      have Hx := Lib.hid hx
      simp only [Fm.text, List.length_cons, List.length_append, List.length_nil] at hle hz
      have hp1 : (bs (pushL o p)).size ≤ 600000 := by rw [bs_size]; have := pushL_le o p; omega
      have hq1 : (bs (pushL o q)).size ≤ 600000 := by rw [bs_size]; have := pushL_le o q; omega
      clear hop hcall hcall2 hd hd1 hd2 hx
      cases o with
      | true =>
        go_enter Try.func41, Try.ntmps41
        go_upto_region 11 with (fail)
        go_quiet ((go_at_call 55; exact Calls.quiet_of_same (l2Int_calls _ _)))
        go_upto_region 13 with (go_at_call 41; refine (Hcall.out _).mono ?_; rintro e w1 ⟨rfl, hb1⟩)
        go_wp2_with (go_at_call 41; refine (Hcall2.out _).mono ?_; rintro e w2 ⟨rfl, hb2⟩)
        go_ret2
        refine ⟨ret_pair (str_eq (eq_bs ?_)) (int_eq ?_), ?_⟩
        · simp [bs_data, pushL, Fm.push, Fm.text, Qn.b, Hx.out]
        · simp [Fm.text] <;> omega
        · first
            | exact Below.refl _ _
            | exact below_drewN (Below.refl _ _) _
            | assumption
            | exact (hb1.trans (hb2.mono hb1.size))
            | exact ((below_drewN (Below.refl _ _) _).trans hb1)
            | exact ((below_drewN (Below.refl _ _) _).trans (hb1.trans (hb2.mono hb1.size)))
      | false =>
        go_enter Try.func41, Try.ntmps41
        go_upto_region 13 with (go_at_call 41; refine (Hcall.out _).mono ?_; rintro e w1 ⟨rfl, hb1⟩)
        go_wp2_with (go_at_call 41; refine (Hcall2.out _).mono ?_; rintro e w2 ⟨rfl, hb2⟩)
        go_ret2
        refine ⟨ret_pair (str_eq (eq_bs ?_)) (int_eq ?_), ?_⟩
        · simp [bs_data, pushL, Fm.push, Fm.text, Qn.b, Hx.out]
        · simp [Fm.text] <;> omega
        · first
            | exact Below.refl _ _
            | exact below_drewN (Below.refl _ _) _
            | assumption
            | exact (hb1.trans (hb2.mono hb1.size))
            | exact ((below_drewN (Below.refl _ _) _).trans hb1)
            | exact ((below_drewN (Below.refl _ _) _).trans (hb1.trans (hb2.mono hb1.size)))
    | dis p q =>
      have hb : (s[k].toNat : Int) = 124 := by rw [hop]; rfl
      obtain ⟨hd1, hd2⟩ := at_two hd
      have hcall := fun w => Ih.out o p s (k + 1) _ ((k : Int) + 1) w (by simp [Fm.size] at hn; omega) hd1 hs (by omega)
      have hcall2 := fun w => Ih.out o q s (k + 1 + p.text.length) _ ((k + 1 + p.text.length : Nat) : Int) w (by simp [Fm.size] at hn; omega) hd2 hs rfl
      have hx := piece_eq (show s.data.toList.drop k = [124] ++ (p.text ++ q.text ++ r) by rw [hd]; simp [Fm.text]) (k + 1) rfl
      have hz := piece_size (show s.data.toList.drop k = [124] ++ (p.text ++ q.text ++ r) by rw [hd]; simp [Fm.text]) (k + 1) rfl
      have Hcall := Lib.hid hcall
      have Hcall2 := Lib.hid hcall2
      have Hx := Lib.hid hx
      simp only [Fm.text, List.length_cons, List.length_append, List.length_nil] at hle hz
      have hp1 : (bs (pushL o p)).size ≤ 600000 := by rw [bs_size]; have := pushL_le o p; omega
      have hq1 : (bs (pushL o q)).size ≤ 600000 := by rw [bs_size]; have := pushL_le o q; omega
      clear hop hcall hcall2 hd hd1 hd2 hx
      cases o with
      | true =>
        go_enter Try.func41, Try.ntmps41
        go_upto_region 11 with (fail)
        go_quiet ((go_at_call 55; exact Calls.quiet_of_same (l2Int_calls _ _)))
        go_upto_region 13 with (go_at_call 41; refine (Hcall.out _).mono ?_; rintro e w1 ⟨rfl, hb1⟩)
        go_wp2_with (go_at_call 41; refine (Hcall2.out _).mono ?_; rintro e w2 ⟨rfl, hb2⟩)
        go_ret2
        refine ⟨ret_pair (str_eq (eq_bs ?_)) (int_eq ?_), ?_⟩
        · simp [bs_data, pushL, Fm.push, Fm.text, Qn.b, Hx.out]
        · simp [Fm.text] <;> omega
        · first
            | exact Below.refl _ _
            | exact below_drewN (Below.refl _ _) _
            | assumption
            | exact (hb1.trans (hb2.mono hb1.size))
            | exact ((below_drewN (Below.refl _ _) _).trans hb1)
            | exact ((below_drewN (Below.refl _ _) _).trans (hb1.trans (hb2.mono hb1.size)))
      | false =>
        go_enter Try.func41, Try.ntmps41
        go_upto_region 13 with (go_at_call 41; refine (Hcall.out _).mono ?_; rintro e w1 ⟨rfl, hb1⟩)
        go_wp2_with (go_at_call 41; refine (Hcall2.out _).mono ?_; rintro e w2 ⟨rfl, hb2⟩)
        go_ret2
        refine ⟨ret_pair (str_eq (eq_bs ?_)) (int_eq ?_), ?_⟩
        · simp [bs_data, pushL, Fm.push, Fm.text, Qn.b, Hx.out]
        · simp [Fm.text] <;> omega
        · first
            | exact Below.refl _ _
            | exact below_drewN (Below.refl _ _) _
            | assumption
            | exact (hb1.trans (hb2.mono hb1.size))
            | exact ((below_drewN (Below.refl _ _) _).trans hb1)
            | exact ((below_drewN (Below.refl _ _) _).trans (hb1.trans (hb2.mono hb1.size)))
    | qu q v p =>
      have hd1 := at_qu hd
      have hcall := fun o w => Ih.out o p s (k + 2) _ ((k : Int) + 2) w (by simp [Fm.size] at hn; omega) hd1 hs (by omega)
      have hx := piece_eq (show s.data.toList.drop k = [q.b] ++ (vb v :: p.text ++ r) by rw [hd]; simp [Fm.text]) (k + 1) rfl
      have hz := piece_size (show s.data.toList.drop k = [q.b] ++ (vb v :: p.text ++ r) by rw [hd]; simp [Fm.text]) (k + 1) rfl
      have hy := piece_eq (show s.data.toList.drop (k + 1) = [vb v] ++ (p.text ++ r) from drop_add_of (p := [q.b]) (by simpa [Fm.text] using hd)) (k + 2) rfl
      have hyz := piece_size (show s.data.toList.drop (k + 1) = [vb v] ++ (p.text ++ r) from drop_add_of (p := [q.b]) (by simpa [Fm.text] using hd)) (k + 2) rfl
      have hu := piece_eq (show s.data.toList.drop k = [q.b, vb v] ++ (p.text ++ r) by rw [hd]; simp [Fm.text]) (k + 2) rfl
      have huz := piece_size (show s.data.toList.drop k = [q.b, vb v] ++ (p.text ++ r) by rw [hd]; simp [Fm.text]) (k + 2) rfl
      have Hcall := Lib.hid hcall
      have Hx := Lib.hid hx
      have Hy := Lib.hid hy
      have Hu := Lib.hid hu
      simp only [Fm.text, List.length_cons, List.length_nil] at hle hz hyz huz
      have hp1 : (bs (pushL o p)).size ≤ 600000 := by rw [bs_size]; have := pushL_le o p; omega
      have hp2 : (bs (pushL false p)).size ≤ 600000 := by rw [bs_size]; have := pushL_le false p; omega
      clear hcall hd hd1 hx hy hu
      cases q with
      | A =>
        have hb : (s[k].toNat : Int) = 65 := by rw [hop]; rfl
        clear hop
        cases o with
        | true =>
          go_enter Try.func41, Try.ntmps41
          go_upto_region 19 with (fail)
          go_quiet ((go_at_call 55; exact Calls.quiet_of_same (l2Int_calls _ _)))
          go_wp2_with (go_at_call 41; refine (Hcall.out _ _).mono ?_; rintro e w1 ⟨rfl, hb1⟩)
          go_ret2
          refine ⟨ret_pair (str_eq (eq_bs ?_)) (int_eq ?_), ?_⟩
          · simp [bs_data, pushL, Fm.push, Fm.text, Qn.b, Hx.out, Hy.out, Hu.out]
          · simp [Fm.text] <;> omega
          · first
              | exact Below.refl _ _
              | exact below_drewN (Below.refl _ _) _
              | assumption
              | exact (hb1.trans (hb2.mono hb1.size))
              | exact ((below_drewN (Below.refl _ _) _).trans hb1)
              | exact ((below_drewN (Below.refl _ _) _).trans (hb1.trans (hb2.mono hb1.size)))
        | false =>
          go_enter Try.func41, Try.ntmps41
          go_wp2_with (go_at_call 41; refine (Hcall.out _ _).mono ?_; rintro e w1 ⟨rfl, hb1⟩)
          go_ret2
          refine ⟨ret_pair (str_eq (eq_bs ?_)) (int_eq ?_), ?_⟩
          · simp [bs_data, pushL, Fm.push, Fm.text, Qn.b, Hx.out, Hy.out, Hu.out]
          · simp [Fm.text] <;> omega
          · first
              | exact Below.refl _ _
              | exact below_drewN (Below.refl _ _) _
              | assumption
              | exact (hb1.trans (hb2.mono hb1.size))
              | exact ((below_drewN (Below.refl _ _) _).trans hb1)
              | exact ((below_drewN (Below.refl _ _) _).trans (hb1.trans (hb2.mono hb1.size)))
      | S =>
        have hb : (s[k].toNat : Int) = 83 := by rw [hop]; rfl
        clear hop
        cases o with
        | true =>
          go_enter Try.func41, Try.ntmps41
          go_upto_region 19 with (fail)
          go_quiet ((go_at_call 55; exact Calls.quiet_of_same (l2Int_calls _ _)))
          go_wp2_with (go_at_call 41; refine (Hcall.out _ _).mono ?_; rintro e w1 ⟨rfl, hb1⟩)
          go_ret2
          refine ⟨ret_pair (str_eq (eq_bs ?_)) (int_eq ?_), ?_⟩
          · simp [bs_data, pushL, Fm.push, Fm.text, Qn.b, Hx.out, Hy.out, Hu.out]
          · simp [Fm.text] <;> omega
          · first
              | exact Below.refl _ _
              | exact below_drewN (Below.refl _ _) _
              | assumption
              | exact (hb1.trans (hb2.mono hb1.size))
              | exact ((below_drewN (Below.refl _ _) _).trans hb1)
              | exact ((below_drewN (Below.refl _ _) _).trans (hb1.trans (hb2.mono hb1.size)))
        | false =>
          go_enter Try.func41, Try.ntmps41
          go_wp2_with (go_at_call 41; refine (Hcall.out _ _).mono ?_; rintro e w1 ⟨rfl, hb1⟩)
          go_ret2
          refine ⟨ret_pair (str_eq (eq_bs ?_)) (int_eq ?_), ?_⟩
          · simp [bs_data, pushL, Fm.push, Fm.text, Qn.b, Hx.out, Hy.out, Hu.out]
          · simp [Fm.text] <;> omega
          · first
              | exact Below.refl _ _
              | exact below_drewN (Below.refl _ _) _
              | assumption
              | exact (hb1.trans (hb2.mono hb1.size))
              | exact ((below_drewN (Below.refl _ _) _).trans hb1)
              | exact ((below_drewN (Below.refl _ _) _).trans (hb1.trans (hb2.mono hb1.size)))
      | c2 =>
        have hb : (s[k].toNat : Int) = 50 := by rw [hop]; rfl
        clear hop
        cases o with
        | true =>
          go_enter Try.func41, Try.ntmps41
          go_wp2_with (go_at_call 41; refine (Hcall.out _ _).mono ?_; rintro e w1 ⟨rfl, hb1⟩)
          go_ret2
          refine ⟨ret_pair (str_eq (eq_bs ?_)) (int_eq ?_), ?_⟩
          · simp [bs_data, pushL, Fm.push, Fm.text, Qn.b, Hx.out, Hy.out, Hu.out]
          · simp [Fm.text] <;> omega
          · first
              | exact Below.refl _ _
              | exact below_drewN (Below.refl _ _) _
              | assumption
              | exact (hb1.trans (hb2.mono hb1.size))
              | exact ((below_drewN (Below.refl _ _) _).trans hb1)
              | exact ((below_drewN (Below.refl _ _) _).trans (hb1.trans (hb2.mono hb1.size)))
        | false =>
          go_enter Try.func41, Try.ntmps41
          go_wp2_with (go_at_call 41; refine (Hcall.out _ _).mono ?_; rintro e w1 ⟨rfl, hb1⟩)
          go_ret2
          refine ⟨ret_pair (str_eq (eq_bs ?_)) (int_eq ?_), ?_⟩
          · simp [bs_data, pushL, Fm.push, Fm.text, Qn.b, Hx.out, Hy.out, Hu.out]
          · simp [Fm.text] <;> omega
          · first
              | exact Below.refl _ _
              | exact below_drewN (Below.refl _ _) _
              | assumption
              | exact (hb1.trans (hb2.mono hb1.size))
              | exact ((below_drewN (Below.refl _ _) _).trans hb1)
              | exact ((below_drewN (Below.refl _ _) _).trans (hb1.trans (hb2.mono hb1.size)))
      | c3 =>
        have hb : (s[k].toNat : Int) = 51 := by rw [hop]; rfl
        clear hop
        cases o with
        | true =>
          go_enter Try.func41, Try.ntmps41
          go_wp2_with (go_at_call 41; refine (Hcall.out _ _).mono ?_; rintro e w1 ⟨rfl, hb1⟩)
          go_ret2
          refine ⟨ret_pair (str_eq (eq_bs ?_)) (int_eq ?_), ?_⟩
          · simp [bs_data, pushL, Fm.push, Fm.text, Qn.b, Hx.out, Hy.out, Hu.out]
          · simp [Fm.text] <;> omega
          · first
              | exact Below.refl _ _
              | exact below_drewN (Below.refl _ _) _
              | assumption
              | exact (hb1.trans (hb2.mono hb1.size))
              | exact ((below_drewN (Below.refl _ _) _).trans hb1)
              | exact ((below_drewN (Below.refl _ _) _).trans (hb1.trans (hb2.mono hb1.size)))
        | false =>
          go_enter Try.func41, Try.ntmps41
          go_wp2_with (go_at_call 41; refine (Hcall.out _ _).mono ?_; rintro e w1 ⟨rfl, hb1⟩)
          go_ret2
          refine ⟨ret_pair (str_eq (eq_bs ?_)) (int_eq ?_), ?_⟩
          · simp [bs_data, pushL, Fm.push, Fm.text, Qn.b, Hx.out, Hy.out, Hu.out]
          · simp [Fm.text] <;> omega
          · first
              | exact Below.refl _ _
              | exact below_drewN (Below.refl _ _) _
              | assumption
              | exact (hb1.trans (hb2.mono hb1.size))
              | exact ((below_drewN (Below.refl _ _) _).trans hb1)
              | exact ((below_drewN (Below.refl _ _) _).trans (hb1.trans (hb2.mono hb1.size)))
      | c4 =>
        have hb : (s[k].toNat : Int) = 52 := by rw [hop]; rfl
        clear hop
        cases o with
        | true =>
          go_enter Try.func41, Try.ntmps41
          go_wp2_with (go_at_call 41; refine (Hcall.out _ _).mono ?_; rintro e w1 ⟨rfl, hb1⟩)
          go_ret2
          refine ⟨ret_pair (str_eq (eq_bs ?_)) (int_eq ?_), ?_⟩
          · simp [bs_data, pushL, Fm.push, Fm.text, Qn.b, Hx.out, Hy.out, Hu.out]
          · simp [Fm.text] <;> omega
          · first
              | exact Below.refl _ _
              | exact below_drewN (Below.refl _ _) _
              | assumption
              | exact (hb1.trans (hb2.mono hb1.size))
              | exact ((below_drewN (Below.refl _ _) _).trans hb1)
              | exact ((below_drewN (Below.refl _ _) _).trans (hb1.trans (hb2.mono hb1.size)))
        | false =>
          go_enter Try.func41, Try.ntmps41
          go_wp2_with (go_at_call 41; refine (Hcall.out _ _).mono ?_; rintro e w1 ⟨rfl, hb1⟩)
          go_ret2
          refine ⟨ret_pair (str_eq (eq_bs ?_)) (int_eq ?_), ?_⟩
          · simp [bs_data, pushL, Fm.push, Fm.text, Qn.b, Hx.out, Hy.out, Hu.out]
          · simp [Fm.text] <;> omega
          · first
              | exact Below.refl _ _
              | exact below_drewN (Below.refl _ _) _
              | assumption
              | exact (hb1.trans (hb2.mono hb1.size))
              | exact ((below_drewN (Below.refl _ _) _).trans hb1)
              | exact ((below_drewN (Below.refl _ _) _).trans (hb1.trans (hb2.mono hb1.size)))

end Go.Proofs.Ytjmfldakfokoaaa
