/-
  Laws of the functions that the claim reaches, one after the other (packed by a program of the prover's: Free, SpecShow, CountWidth, FmLaw, WFormulaValid, WRankWidth). Conditions: texts below the reach.
-/
import Derived.Test.YtbohlhmmpoapmaaPk3
import Derived.Deep.QuietTactic
import Derived.BigQuiet
import Derived.WalkSmall
import Derived.Test.YtbohlhmmpoapmaaPk1
set_option linter.unusedSimpArgs false
set_option linter.unusedVariables false

namespace Go.Proofs.Ytbohlhmmpoapmaa
open Go.RowKit
open Pl
set_option linter.unusedSimpArgs false

theorem varI_of {s : ByteArray} {k : Nat} {v : Fin 4} {r : List UInt8} (h : s.data.toList.drop k = vb v :: r) : varI s.data.toList k = v.val := by
  have h1 : s.data.toList[k]? = some (vb v) := by
    have h2 : (s.data.toList.drop k)[0]? = some (vb v) := by rw [h]; rfl
    simpa using h2
  unfold varI
  rw [h1]
  simp [varOf_vb]

theorem l2Var_of (s : ByteArray) (k : Nat) (v : Fin 4) (r : List UInt8) (m : Int) (w : World) (hs : s.size ≤ 4000) (h : s.data.toList.drop k = vb v :: r) (hm : m = k) :
    Calls Try.prog 38 #[.string s, .int .i64 m] w fun e w' => e = .returned (.int .i64 v.val) ∧ w = w' := by
  subst hm
  have hk : k < s.size := by
    have := congrArg List.length h
    rw [List.length_drop, ← Lib.size_eq] at this
    simp at this; omega
  rw [← varI_of h]
  exact l2Var_at s k w (by unfold maxLen; omega) (by omega) (by unfold maxLen; omega)

theorem one_bit (v : Fin 4) : wrap64 (2 ^ v.val) = ((1 <<< v.val : Nat) : Int) := by revert v; decide +kernel

set_option maxHeartbeats 1000000 in
set_option maxRecDepth 100000 in
theorem l2Free_calls (n : Nat) : ∀ (f : Fm) (s : ByteArray) (k : Nat) (r : List UInt8) (m : Int) (w : World), f.size ≤ n → s.data.toList.drop k = f.text ++ r → s.size ≤ 4000 → m = k →
    Calls Try.prog 55 #[.string s, .int .i64 m] w fun e w' => e = .returned (.tuple #[.int .i64 f.freeBits, .int .i64 (k + f.text.length : Nat)]) ∧ w = w' := by
  induction n with
  | zero => intro f s k r m w hn; cases f <;> simp [Fm.size] at hn
  | succ n ih =>
    intro f s k r m w hn hd hs hm
    subst hm
    obtain ⟨hk1, hop, hle⟩ := at_op hd
    have hk := hk1
    have Ih := Lib.hid ih
    clear ih
    cases f with
    | tru =>
      have hk := hk1
      have hb : (s[k].toNat : Int) = 116 := by rw [hop]; rfl
      clear hop hd
      go_enter Try.func55, Try.ntmps55
      go_wp2_with fail
      go_ret2
      exact ⟨rfl, rfl⟩
    | fls =>
      have hk := hk1
      have hb : (s[k].toNat : Int) = 102 := by rw [hop]; rfl
      clear hop hd
      go_enter Try.func55, Try.ntmps55
      go_wp2_with fail
      go_ret2
      exact ⟨rfl, rfl⟩
    | pr v =>
      have hb : (s[k].toNat : Int) = 80 := by rw [hop]; rfl
      have h1 := l2Var_of s (k + 1) v r ((k : Int) + 1) w hs (drop_add_of (p := [80]) (by simpa [Fm.text] using hd)) (by omega)
      have H1 := Lib.hid h1
      have hv3 : (v.val : Int) < 4 := by omega
      simp only [Fm.text, List.length_cons, List.length_nil] at hle
      clear hop hd h1
      go_enter Try.func55, Try.ntmps55
      go_wp2_with (go_at_call 38; refine (H1.out).mono ?_; rintro e w' ⟨rfl, rfl⟩)
      go_ret2
      exact ⟨ret_pair (by show Value.int .i64 _ = Value.int .i64 _; congr 1 <;> exact one_bit v) (by show Value.int .i64 _ = Value.int .i64 _; congr 1 <;> simp [Fm.text] <;> omega), rfl⟩
    | eq v u =>
      have hb : (s[k].toNat : Int) = 61 := by rw [hop]; rfl
      have h1 := l2Var_of s (k + 1) v (vb u :: r) ((k : Int) + 1) w hs (drop_add_of (p := [61]) (by simpa [Fm.text] using hd)) (by omega)
      have h2 := l2Var_of s (k + 2) u r ((k : Int) + 2) w hs (drop_add_of (p := [61, vb v]) (by simpa [Fm.text] using hd)) (by omega)
      have H1 := Lib.hid h1
      have H2 := Lib.hid h2
      have hv3 : (v.val : Int) < 4 := by omega
      have hu3 : (u.val : Int) < 4 := by omega
      simp only [Fm.text, List.length_cons, List.length_nil] at hle
      clear hop hd h1 h2
      go_enter Try.func55, Try.ntmps55
      go_wp2_with (first | (go_at_call 38; ((with_reducible refine (H1.out).mono ?_); rintro e w' ⟨rfl, rfl⟩)) | (go_at_call 38; ((with_reducible refine (H2.out).mono ?_); rintro e w' ⟨rfl, rfl⟩)))
      go_ret2
      exact ⟨ret_pair (by show Value.int .i64 _ = Value.int .i64 _; congr 1 <;> (rw [one_bit v]; exact or_bit _ u (bit_lt v))) (by show Value.int .i64 _ = Value.int .i64 _; congr 1 <;> simp [Fm.text] <;> omega), rfl⟩
    | rel v u =>
      have hb : (s[k].toNat : Int) = 69 := by rw [hop]; rfl
      have h1 := l2Var_of s (k + 1) v (vb u :: r) ((k : Int) + 1) w hs (drop_add_of (p := [69]) (by simpa [Fm.text] using hd)) (by omega)
      have h2 := l2Var_of s (k + 2) u r ((k : Int) + 2) w hs (drop_add_of (p := [69, vb v]) (by simpa [Fm.text] using hd)) (by omega)
      have H1 := Lib.hid h1
      have H2 := Lib.hid h2
      have hv3 : (v.val : Int) < 4 := by omega
      have hu3 : (u.val : Int) < 4 := by omega
      simp only [Fm.text, List.length_cons, List.length_nil] at hle
      clear hop hd h1 h2
      go_enter Try.func55, Try.ntmps55
      go_wp2_with (first | (go_at_call 38; ((with_reducible refine (H1.out).mono ?_); rintro e w' ⟨rfl, rfl⟩)) | (go_at_call 38; ((with_reducible refine (H2.out).mono ?_); rintro e w' ⟨rfl, rfl⟩)))
      go_ret2
      exact ⟨ret_pair (by show Value.int .i64 _ = Value.int .i64 _; congr 1 <;> (rw [one_bit v]; exact or_bit _ u (bit_lt v))) (by show Value.int .i64 _ = Value.int .i64 _; congr 1 <;> simp [Fm.text] <;> omega), rfl⟩
    | neg p =>
      have hb : (s[k].toNat : Int) = 33 := by rw [hop]; rfl
      simp only [Fm.text, List.length_cons] at hle
      have hcall := Ih.out p s (k + 1) r ((k : Int) + 1) w (by simp [Fm.size] at hn; omega) (at_one hd) hs (by omega)
      have Hcall := Lib.hid hcall
      clear hop hcall hd
      go_enter Try.func55, Try.ntmps55
      go_wp2_with (go_at_call 55; refine (Hcall.out).mono ?_; rintro e w' ⟨rfl, rfl⟩)
      go_ret2
      exact ⟨ret_pair (by show Value.int .i64 _ = Value.int .i64 _; congr 1) (by show Value.int .i64 _ = Value.int .i64 _; congr 1 <;> simp [Fm.text] <;> omega), rfl⟩
    | con p q =>
      have hb : (s[k].toNat : Int) = 38 := by rw [hop]; rfl
      simp only [Fm.text, List.length_cons, List.length_append] at hle
      obtain ⟨hd1, hd2⟩ := at_two hd
      have hcall := Ih.out p s (k + 1) _ ((k : Int) + 1) w (by simp [Fm.size] at hn; omega) hd1 hs (by omega)
      have hcall2 := Ih.out q s (k + 1 + p.text.length) _ ((k + 1 + p.text.length : Nat) : Int) w (by simp [Fm.size] at hn; omega) hd2 hs rfl
      have hq0 : ∀ w, Calls Try.prog 41 #[.int .u8 38] w fun e w' => e = .returned (.bool false) ∧ w = w' := fun w => l2Quant_calls 38 false rfl w
      have Hcall := Lib.hid hcall
      have Hcall2 := Lib.hid hcall2
      have Hq0 := Lib.hid hq0
      clear hop hcall hcall2 hd hd1 hd2 hq0
      go_enter Try.func55, Try.ntmps55
      go_upto_region 13 with (first | (go_at_call 41; refine (Hq0.out _).mono ?_; rintro e w' ⟨rfl, rfl⟩) | (go_at_call 55; refine (Hcall.out).mono ?_; rintro e w' ⟨rfl, rfl⟩))
      go_wp2_with (go_at_call 55; refine (Hcall2.out).mono ?_; rintro e w' ⟨rfl, rfl⟩)
      go_ret2
      exact ⟨ret_pair (by show Value.int .i64 _ = Value.int .i64 _; congr 1 <;> exact or_nat _ _ (freeBits_lt p) (freeBits_lt q)) (by show Value.int .i64 _ = Value.int .i64 _; congr 1 <;> simp [Fm.text] <;> omega), rfl⟩
    | dis p q =>
      have hb : (s[k].toNat : Int) = 124 := by rw [hop]; rfl
      simp only [Fm.text, List.length_cons, List.length_append] at hle
      obtain ⟨hd1, hd2⟩ := at_two hd
      have hcall := Ih.out p s (k + 1) _ ((k : Int) + 1) w (by simp [Fm.size] at hn; omega) hd1 hs (by omega)
      have hcall2 := Ih.out q s (k + 1 + p.text.length) _ ((k + 1 + p.text.length : Nat) : Int) w (by simp [Fm.size] at hn; omega) hd2 hs rfl
      have hq0 : ∀ w, Calls Try.prog 41 #[.int .u8 124] w fun e w' => e = .returned (.bool false) ∧ w = w' := fun w => l2Quant_calls 124 false rfl w
      have Hcall := Lib.hid hcall
      have Hcall2 := Lib.hid hcall2
      have Hq0 := Lib.hid hq0
      clear hop hcall hcall2 hd hd1 hd2 hq0
      go_enter Try.func55, Try.ntmps55
      go_upto_region 13 with (first | (go_at_call 41; refine (Hq0.out _).mono ?_; rintro e w' ⟨rfl, rfl⟩) | (go_at_call 55; refine (Hcall.out).mono ?_; rintro e w' ⟨rfl, rfl⟩))
      go_wp2_with (go_at_call 55; refine (Hcall2.out).mono ?_; rintro e w' ⟨rfl, rfl⟩)
      go_ret2
      exact ⟨ret_pair (by show Value.int .i64 _ = Value.int .i64 _; congr 1 <;> exact or_nat _ _ (freeBits_lt p) (freeBits_lt q)) (by show Value.int .i64 _ = Value.int .i64 _; congr 1 <;> simp [Fm.text] <;> omega), rfl⟩
    | qu q v p =>
      have hd1 := at_qu hd
      have hdv : s.data.toList.drop (k + 1) = vb v :: (p.text ++ r) := drop_add_of (p := [q.b]) (by simpa [Fm.text] using hd)
      have h1 := l2Var_of s (k + 1) v _ ((k : Int) + 1) w hs hdv (by omega)
      simp only [Fm.text, List.length_cons] at hle
      have hcall := Ih.out p s (k + 2) _ ((k : Int) + 2) w (by simp [Fm.size] at hn; omega) hd1 hs (by omega)
      have hv3 : (v.val : Int) < 4 := by omega
      have H1 := Lib.hid h1
      have Hcall := Lib.hid hcall
      clear hcall hd hd1 hdv h1
      cases q with
      | A =>
        have hb : (s[k].toNat : Int) = 65 := by rw [hop]; rfl
        have hq0 : ∀ w, Calls Try.prog 41 #[.int .u8 65] w fun e w' => e = .returned (.bool true) ∧ w = w' := fun w => l2Quant_calls 65 true rfl w
        have Hq0 := Lib.hid hq0
        clear hop hq0
        go_enter Try.func55, Try.ntmps55
        go_wp2_with (first | (go_at_call 41; refine (Hq0.out _).mono ?_; rintro e w' ⟨rfl, rfl⟩) | (go_at_call 55; refine (Hcall.out).mono ?_; rintro e w' ⟨rfl, rfl⟩) | (go_at_call 38; refine (H1.out).mono ?_; rintro e w' ⟨rfl, rfl⟩))
        go_ret2
        exact ⟨ret_pair (by show Value.int .i64 _ = Value.int .i64 _; congr 1 <;> exact andNot_bit _ v (freeBits_lt p)) (by show Value.int .i64 _ = Value.int .i64 _; congr 1 <;> simp [Fm.text] <;> omega), rfl⟩
      | S =>
        have hb : (s[k].toNat : Int) = 83 := by rw [hop]; rfl
        have hq0 : ∀ w, Calls Try.prog 41 #[.int .u8 83] w fun e w' => e = .returned (.bool true) ∧ w = w' := fun w => l2Quant_calls 83 true rfl w
        have Hq0 := Lib.hid hq0
        clear hop hq0
        go_enter Try.func55, Try.ntmps55
        go_wp2_with (first | (go_at_call 41; refine (Hq0.out _).mono ?_; rintro e w' ⟨rfl, rfl⟩) | (go_at_call 55; refine (Hcall.out).mono ?_; rintro e w' ⟨rfl, rfl⟩) | (go_at_call 38; refine (H1.out).mono ?_; rintro e w' ⟨rfl, rfl⟩))
        go_ret2
        exact ⟨ret_pair (by show Value.int .i64 _ = Value.int .i64 _; congr 1 <;> exact andNot_bit _ v (freeBits_lt p)) (by show Value.int .i64 _ = Value.int .i64 _; congr 1 <;> simp [Fm.text] <;> omega), rfl⟩
      | c2 =>
        have hb : (s[k].toNat : Int) = 50 := by rw [hop]; rfl
        have hq0 : ∀ w, Calls Try.prog 41 #[.int .u8 50] w fun e w' => e = .returned (.bool true) ∧ w = w' := fun w => l2Quant_calls 50 true rfl w
        have Hq0 := Lib.hid hq0
        clear hop hq0
        go_enter Try.func55, Try.ntmps55
        go_wp2_with (first | (go_at_call 41; refine (Hq0.out _).mono ?_; rintro e w' ⟨rfl, rfl⟩) | (go_at_call 55; refine (Hcall.out).mono ?_; rintro e w' ⟨rfl, rfl⟩) | (go_at_call 38; refine (H1.out).mono ?_; rintro e w' ⟨rfl, rfl⟩))
        go_ret2
        exact ⟨ret_pair (by show Value.int .i64 _ = Value.int .i64 _; congr 1 <;> exact andNot_bit _ v (freeBits_lt p)) (by show Value.int .i64 _ = Value.int .i64 _; congr 1 <;> simp [Fm.text] <;> omega), rfl⟩
      | c3 =>
        have hb : (s[k].toNat : Int) = 51 := by rw [hop]; rfl
        have hq0 : ∀ w, Calls Try.prog 41 #[.int .u8 51] w fun e w' => e = .returned (.bool true) ∧ w = w' := fun w => l2Quant_calls 51 true rfl w
        have Hq0 := Lib.hid hq0
        clear hop hq0
        go_enter Try.func55, Try.ntmps55
        go_wp2_with (first | (go_at_call 41; refine (Hq0.out _).mono ?_; rintro e w' ⟨rfl, rfl⟩) | (go_at_call 55; refine (Hcall.out).mono ?_; rintro e w' ⟨rfl, rfl⟩) | (go_at_call 38; refine (H1.out).mono ?_; rintro e w' ⟨rfl, rfl⟩))
        go_ret2
        exact ⟨ret_pair (by show Value.int .i64 _ = Value.int .i64 _; congr 1 <;> exact andNot_bit _ v (freeBits_lt p)) (by show Value.int .i64 _ = Value.int .i64 _; congr 1 <;> simp [Fm.text] <;> omega), rfl⟩
      | c4 =>
        have hb : (s[k].toNat : Int) = 52 := by rw [hop]; rfl
        have hq0 : ∀ w, Calls Try.prog 41 #[.int .u8 52] w fun e w' => e = .returned (.bool true) ∧ w = w' := fun w => l2Quant_calls 52 true rfl w
        have Hq0 := Lib.hid hq0
        clear hop hq0
        go_enter Try.func55, Try.ntmps55
        go_wp2_with (first | (go_at_call 41; refine (Hq0.out _).mono ?_; rintro e w' ⟨rfl, rfl⟩) | (go_at_call 55; refine (Hcall.out).mono ?_; rintro e w' ⟨rfl, rfl⟩) | (go_at_call 38; refine (H1.out).mono ?_; rintro e w' ⟨rfl, rfl⟩))
        go_ret2
        exact ⟨ret_pair (by show Value.int .i64 _ = Value.int .i64 _; congr 1 <;> exact andNot_bit _ v (freeBits_lt p)) (by show Value.int .i64 _ = Value.int .i64 _; congr 1 <;> simp [Fm.text] <;> omega), rfl⟩

/-- the free variables' text, for a formula -/
noncomputable def txtV (l : List UInt8) (g : Fm → List UInt8) : ByteArray := match parse l with | some (f, []) => if l.length ≤ 4000 then bs (g f) else bs [] | _ => bs []

theorem txtV_yes {l : List UInt8} {f : Fm} (g : Fm → List UInt8) (h : l = f.text) (hl : l.length ≤ 4000) : txtV l g = bs (g f) := by
  unfold txtV
  rw [parse_some.2 (show l = f.text ++ [] by rw [h]; simp)]
  simp [hl]

theorem txtV_no {l : List UInt8} (g : Fm → List UInt8) (h : ¬ IsFm l) : txtV l g = bs [] := by
  unfold txtV
  cases hp : parse l with
  | none => rfl
  | some x =>
    obtain ⟨f, r⟩ := x
    cases r with
    | nil =>
      have := parse_some.1 hp
      by_cases hl : l.length ≤ 4000
      · exact absurd ⟨hl, f, by simpa using this⟩ h
      · simp [hl]
    | cons a r => rfl

def freeT (f : Fm) : List UInt8 := varsL f.freeBits 4

theorem FreeVars_impl (s : ByteArray) (w : World) :
    Calls Try.prog 18 #[.string s] w fun e w' => e = .returned (.string (txtV s.data.toList freeT)) ∧ Below w.heap.size w w' := by
  rcases fm_cases s with ⟨hb, hno⟩ | ⟨f, hb, hf, hs4, hl4⟩
  · rw [txtV_no freeT hno]
    have Hno := Lib.hid hno
    clear hb hno
    go_enter Try.func18, Try.ntmps18
    go_wp2_with (go_at_call 23; refine (parseFormula_no s w Hno.out).mono ?_; rintro e w1 ⟨rfl, hb1⟩)
    go_ret
    exact ⟨rfl, hb1⟩
  · rw [txtV_yes freeT hf (by rw [hf]; exact hl4)]
    have Hf := Lib.hid hf
    clear hb hf
    go_enter Try.func18, Try.ntmps18
    go_wp2_with (first | (go_at_call 23; refine (parseFormula_yes s f w hs4 Hf.out).mono ?_; rintro e w1 ⟨b, rfl, htr, hb1⟩; obtain ⟨_, _, _, _, _, _, hc3, _⟩ := node_cells htr; clear htr) | (go_at_call 28; refine (varsText_calls _ (freeBits_lt f) _).mono ?_; rintro e w' ⟨rfl, rfl⟩))
    go_ret
    exact ⟨rfl, hb1⟩

end Go.Proofs.Ytbohlhmmpoapmaa

namespace Go.Proofs.Ytbohlhmmpoapmaa
open Go.RowKit
open Pl
set_option linter.unusedSimpArgs false

set_option maxHeartbeats 4000000 in
set_option maxRecDepth 100000 in
theorem l2Show_calls (n : Nat) : ∀ (f : Fm) (s : ByteArray) (k : Nat) (r : List UInt8) (m : Int) (w : World), f.size ≤ n → s.data.toList.drop k = f.text ++ r → s.size ≤ 300000 → m = k →
    Calls Try.prog 26 #[.string s, .int .i64 m] w fun e w' => e = .returned (.tuple #[.string (bs f.showL), .int .i64 (k + f.text.length : Nat)]) ∧ Below w.heap.size w w' := by
  induction n with
  | zero => intro f s k r m w hn; cases f <;> simp [Fm.size] at hn
  | succ n ih =>
    intro f s k r m w hn hd hs hm
    subst hm
    obtain ⟨hk1, hop, hle⟩ := at_op hd
    have hk := hk1
    have Ih := Lib.hid ih
    clear ih
    cases f with
    | tru =>
      have hk := hk1
      have hb : (s[k].toNat : Int) = 116 := by rw [hop]; rfl
      clear hop hd
      go_enter Try.func26, Try.ntmps26
      go_wp2_with fail
      go_ret2
      refine ⟨ret_pair (str_eq (eq_bs ?_)) (int_eq ?_), ?_⟩
      · simp [bs_data, Fm.showL, Fm.text, Qn.b]
      · simp [Fm.text] <;> omega
      · first
          | exact Below.refl _ _
          | exact below_drewN (Below.refl _ _) _
          | assumption
          | exact (hb1.trans (hb2.mono hb1.size))
    | fls =>
      have hk := hk1
      have hb : (s[k].toNat : Int) = 102 := by rw [hop]; rfl
      clear hop hd
      go_enter Try.func26, Try.ntmps26
      go_wp2_with fail
      go_ret2
      refine ⟨ret_pair (str_eq (eq_bs ?_)) (int_eq ?_), ?_⟩
      · simp [bs_data, Fm.showL, Fm.text, Qn.b]
      · simp [Fm.text] <;> omega
      · first
          | exact Below.refl _ _
          | exact below_drewN (Below.refl _ _) _
          | assumption
          | exact (hb1.trans (hb2.mono hb1.size))
    | pr v =>
      have hb : (s[k].toNat : Int) = 80 := by rw [hop]; rfl
      have hx := piece_eq (show s.data.toList.drop (k + 1) = [vb v] ++ (r) from drop_add_of (p := [80]) (by simpa [Fm.text] using hd)) (k + 2) rfl
      have hxz := piece_size (show s.data.toList.drop (k + 1) = [vb v] ++ (r) from drop_add_of (p := [80]) (by simpa [Fm.text] using hd)) (k + 2) rfl
      have Hx := Lib.hid hx
      simp only [Fm.text, List.length_cons, List.length_nil] at hle hxz
      clear hop hd hx
      go_enter Try.func26, Try.ntmps26
      go_wp2_with fail
      go_ret2
      refine ⟨ret_pair (str_eq (eq_bs ?_)) (int_eq ?_), ?_⟩
      · simp [bs_data, Fm.showL, Fm.text, Qn.b, Hx.out]
      · simp [Fm.text] <;> omega
      · first
          | exact Below.refl _ _
          | exact below_drewN (Below.refl _ _) _
          | assumption
          | exact (hb1.trans (hb2.mono hb1.size))
    | eq v u =>
      have hb : (s[k].toNat : Int) = 61 := by rw [hop]; rfl
      have hx := piece_eq (show s.data.toList.drop (k + 1) = [vb v] ++ (vb u :: r) from drop_add_of (p := [61]) (by simpa [Fm.text] using hd)) (k + 2) rfl
      have hxz := piece_size (show s.data.toList.drop (k + 1) = [vb v] ++ (vb u :: r) from drop_add_of (p := [61]) (by simpa [Fm.text] using hd)) (k + 2) rfl
      have hy := piece_eq (show s.data.toList.drop (k + 2) = [vb u] ++ (r) from drop_add_of (p := [61, vb v]) (by simpa [Fm.text] using hd)) (k + 3) rfl
      have hyz := piece_size (show s.data.toList.drop (k + 2) = [vb u] ++ (r) from drop_add_of (p := [61, vb v]) (by simpa [Fm.text] using hd)) (k + 3) rfl
      have Hx := Lib.hid hx
      have Hy := Lib.hid hy
      simp only [Fm.text, List.length_cons, List.length_nil] at hle hxz hyz
      clear hop hd hx hy
      go_enter Try.func26, Try.ntmps26
      go_upto_region 9 with (fail)
      go_quiet (fail)
      go_wp2_with fail
      go_ret2
      refine ⟨ret_pair (str_eq (eq_bs ?_)) (int_eq ?_), ?_⟩
      · simp [bs_data, Fm.showL, Fm.text, Qn.b, Hx.out, Hy.out]
      · simp [Fm.text] <;> omega
      · first
          | exact Below.refl _ _
          | exact below_drewN (Below.refl _ _) _
          | assumption
          | exact (hb1.trans (hb2.mono hb1.size))
    | rel v u =>
      have hb : (s[k].toNat : Int) = 69 := by rw [hop]; rfl
      have hx := piece_eq (show s.data.toList.drop (k + 1) = [vb v] ++ (vb u :: r) from drop_add_of (p := [69]) (by simpa [Fm.text] using hd)) (k + 2) rfl
      have hxz := piece_size (show s.data.toList.drop (k + 1) = [vb v] ++ (vb u :: r) from drop_add_of (p := [69]) (by simpa [Fm.text] using hd)) (k + 2) rfl
      have hy := piece_eq (show s.data.toList.drop (k + 2) = [vb u] ++ (r) from drop_add_of (p := [69, vb v]) (by simpa [Fm.text] using hd)) (k + 3) rfl
      have hyz := piece_size (show s.data.toList.drop (k + 2) = [vb u] ++ (r) from drop_add_of (p := [69, vb v]) (by simpa [Fm.text] using hd)) (k + 3) rfl
      have Hx := Lib.hid hx
      have Hy := Lib.hid hy
      simp only [Fm.text, List.length_cons, List.length_nil] at hle hxz hyz
      clear hop hd hx hy
      go_enter Try.func26, Try.ntmps26
      go_upto_region 11 with (fail)
      go_quiet (fail)
      go_wp2_with fail
      go_ret2
      refine ⟨ret_pair (str_eq (eq_bs ?_)) (int_eq ?_), ?_⟩
      · simp [bs_data, Fm.showL, Fm.text, Qn.b, Hx.out, Hy.out]
      · simp [Fm.text] <;> omega
      · first
          | exact Below.refl _ _
          | exact below_drewN (Below.refl _ _) _
          | assumption
          | exact (hb1.trans (hb2.mono hb1.size))
    | neg p =>
      have hb : (s[k].toNat : Int) = 33 := by rw [hop]; rfl
      have hcall := Ih.out p s (k + 1) r ((k : Int) + 1) w (by simp [Fm.size] at hn; omega) (at_one hd) hs (by omega)
      have Hcall := Lib.hid hcall
      simp only [Fm.text, List.length_cons] at hle
      have hp1 : (bs p.showL).size ≤ 6000000 := by rw [bs_size]; have := show_le p; omega
      clear hop hcall hd
      go_enter Try.func26, Try.ntmps26
      go_wp2_with (go_at_call 26; refine (Hcall.out).mono ?_; rintro e w1 ⟨rfl, hb1⟩)
      go_ret2
      refine ⟨ret_pair (str_eq (eq_bs ?_)) (int_eq ?_), ?_⟩
      · simp [bs_data, Fm.showL, Fm.text, Qn.b]
      · simp [Fm.text] <;> omega
      · first
          | exact Below.refl _ _
          | exact below_drewN (Below.refl _ _) _
          | assumption
          | exact (hb1.trans (hb2.mono hb1.size))
    | con p q =>
      have hb : (s[k].toNat : Int) = 38 := by rw [hop]; rfl
      obtain ⟨hd1, hd2⟩ := at_two hd
      have hcall := fun w => Ih.out p s (k + 1) _ ((k : Int) + 1) w (by simp [Fm.size] at hn; omega) hd1 hs (by omega)
      have hcall2 := fun w => Ih.out q s (k + 1 + p.text.length) _ ((k + 1 + p.text.length : Nat) : Int) w (by simp [Fm.size] at hn; omega) hd2 hs rfl
      have Hcall := Lib.hid hcall
      have Hcall2 := Lib.hid hcall2
      simp only [Fm.text, List.length_cons, List.length_append, List.length_nil] at hle
      have hp1 : (bs p.showL).size ≤ 6000000 := by rw [bs_size]; have := show_le p; omega
      have hq1 : (bs q.showL).size ≤ 6000000 := by rw [bs_size]; have := show_le q; omega
      clear hop hcall hcall2 hd hd1 hd2
      go_enter Try.func26, Try.ntmps26
      go_upto_region 18 with (go_at_call 26; refine (Hcall.out _).mono ?_; rintro e w1 ⟨rfl, hb1⟩)
      go_wp2_with (go_at_call 26; refine (Hcall2.out _).mono ?_; rintro e w2 ⟨rfl, hb2⟩)
      go_ret2
      refine ⟨ret_pair (str_eq (eq_bs ?_)) (int_eq ?_), ?_⟩
      · simp [bs_data, Fm.showL, Fm.text, Qn.b]
      · simp [Fm.text] <;> omega
      · first
          | exact Below.refl _ _
          | exact below_drewN (Below.refl _ _) _
          | assumption
          | exact (hb1.trans (hb2.mono hb1.size))
    | dis p q =>
      have hb : (s[k].toNat : Int) = 124 := by rw [hop]; rfl
      obtain ⟨hd1, hd2⟩ := at_two hd
      have hcall := fun w => Ih.out p s (k + 1) _ ((k : Int) + 1) w (by simp [Fm.size] at hn; omega) hd1 hs (by omega)
      have hcall2 := fun w => Ih.out q s (k + 1 + p.text.length) _ ((k + 1 + p.text.length : Nat) : Int) w (by simp [Fm.size] at hn; omega) hd2 hs rfl
      have Hcall := Lib.hid hcall
      have Hcall2 := Lib.hid hcall2
      simp only [Fm.text, List.length_cons, List.length_append, List.length_nil] at hle
      have hp1 : (bs p.showL).size ≤ 6000000 := by rw [bs_size]; have := show_le p; omega
      have hq1 : (bs q.showL).size ≤ 6000000 := by rw [bs_size]; have := show_le q; omega
      clear hop hcall hcall2 hd hd1 hd2
      go_enter Try.func26, Try.ntmps26
      go_upto_region 18 with (go_at_call 26; refine (Hcall.out _).mono ?_; rintro e w1 ⟨rfl, hb1⟩)
      go_wp2_with (go_at_call 26; refine (Hcall2.out _).mono ?_; rintro e w2 ⟨rfl, hb2⟩)
      go_ret2
      refine ⟨ret_pair (str_eq (eq_bs ?_)) (int_eq ?_), ?_⟩
      · simp [bs_data, Fm.showL, Fm.text, Qn.b]
      · simp [Fm.text] <;> omega
      · first
          | exact Below.refl _ _
          | exact below_drewN (Below.refl _ _) _
          | assumption
          | exact (hb1.trans (hb2.mono hb1.size))
    | qu q v p =>
      have hd1 := at_qu hd
      have hcall := fun w => Ih.out p s (k + 2) _ ((k : Int) + 2) w (by simp [Fm.size] at hn; omega) hd1 hs (by omega)
      have hx := piece_eq (show s.data.toList.drop k = [q.b] ++ (vb v :: p.text ++ r) by rw [hd]; simp [Fm.text]) (k + 1) rfl
      have hz := piece_size (show s.data.toList.drop k = [q.b] ++ (vb v :: p.text ++ r) by rw [hd]; simp [Fm.text]) (k + 1) rfl
      have hy := piece_eq (show s.data.toList.drop (k + 1) = [vb v] ++ (p.text ++ r) from drop_add_of (p := [q.b]) (by simpa [Fm.text] using hd)) (k + 2) rfl
      have hyz := piece_size (show s.data.toList.drop (k + 1) = [vb v] ++ (p.text ++ r) from drop_add_of (p := [q.b]) (by simpa [Fm.text] using hd)) (k + 2) rfl
      have Hcall := Lib.hid hcall
      have Hx := Lib.hid hx
      have Hy := Lib.hid hy
      simp only [Fm.text, List.length_cons, List.length_nil] at hle hz hyz
      have hp1 : (bs p.showL).size ≤ 6000000 := by rw [bs_size]; have := show_le p; omega
      clear hcall hd hd1 hx hy
      cases q with
      | A =>
        have hb : (s[k].toNat : Int) = 65 := by rw [hop]; rfl
        clear hop
        go_enter Try.func26, Try.ntmps26
        go_wp2_with (go_at_call 26; refine (Hcall.out _).mono ?_; rintro e w1 ⟨rfl, hb1⟩)
        go_ret2
        refine ⟨ret_pair (str_eq (eq_bs ?_)) (int_eq ?_), ?_⟩
        · simp [bs_data, Fm.showL, Fm.text, Qn.b, Hx.out, Hy.out]
        · simp [Fm.text] <;> omega
        · first
            | exact Below.refl _ _
            | exact below_drewN (Below.refl _ _) _
            | assumption
            | exact (hb1.trans (hb2.mono hb1.size))
      | S =>
        have hb : (s[k].toNat : Int) = 83 := by rw [hop]; rfl
        clear hop
        go_enter Try.func26, Try.ntmps26
        go_wp2_with (go_at_call 26; refine (Hcall.out _).mono ?_; rintro e w1 ⟨rfl, hb1⟩)
        go_ret2
        refine ⟨ret_pair (str_eq (eq_bs ?_)) (int_eq ?_), ?_⟩
        · simp [bs_data, Fm.showL, Fm.text, Qn.b, Hx.out, Hy.out]
        · simp [Fm.text] <;> omega
        · first
            | exact Below.refl _ _
            | exact below_drewN (Below.refl _ _) _
            | assumption
            | exact (hb1.trans (hb2.mono hb1.size))
      | c2 =>
        have hb : (s[k].toNat : Int) = 50 := by rw [hop]; rfl
        clear hop
        go_enter Try.func26, Try.ntmps26
        go_wp2_with (go_at_call 26; refine (Hcall.out _).mono ?_; rintro e w1 ⟨rfl, hb1⟩)
        go_ret2
        refine ⟨ret_pair (str_eq (eq_bs ?_)) (int_eq ?_), ?_⟩
        · simp [bs_data, Fm.showL, Fm.text, Qn.b, Hx.out, Hy.out]
        · simp [Fm.text] <;> omega
        · first
            | exact Below.refl _ _
            | exact below_drewN (Below.refl _ _) _
            | assumption
            | exact (hb1.trans (hb2.mono hb1.size))
      | c3 =>
        have hb : (s[k].toNat : Int) = 51 := by rw [hop]; rfl
        clear hop
        go_enter Try.func26, Try.ntmps26
        go_wp2_with (go_at_call 26; refine (Hcall.out _).mono ?_; rintro e w1 ⟨rfl, hb1⟩)
        go_ret2
        refine ⟨ret_pair (str_eq (eq_bs ?_)) (int_eq ?_), ?_⟩
        · simp [bs_data, Fm.showL, Fm.text, Qn.b, Hx.out, Hy.out]
        · simp [Fm.text] <;> omega
        · first
            | exact Below.refl _ _
            | exact below_drewN (Below.refl _ _) _
            | assumption
            | exact (hb1.trans (hb2.mono hb1.size))
      | c4 =>
        have hb : (s[k].toNat : Int) = 52 := by rw [hop]; rfl
        clear hop
        go_enter Try.func26, Try.ntmps26
        go_wp2_with (go_at_call 26; refine (Hcall.out _).mono ?_; rintro e w1 ⟨rfl, hb1⟩)
        go_ret2
        refine ⟨ret_pair (str_eq (eq_bs ?_)) (int_eq ?_), ?_⟩
        · simp [bs_data, Fm.showL, Fm.text, Qn.b, Hx.out, Hy.out]
        · simp [Fm.text] <;> omega
        · first
            | exact Below.refl _ _
            | exact below_drewN (Below.refl _ _) _
            | assumption
            | exact (hb1.trans (hb2.mono hb1.size))

def showT (f : Fm) : List UInt8 := f.showL

theorem ShowFormula_spec (s : ByteArray) (w : World) (hs2 : s.size ≤ maxLen) :
    Calls Try.prog 10 #[.string s] w fun e w' => e = .returned (.string (txtV s.data.toList showT)) ∧ Below w.heap.size w w' := by
  rcases fm_cases s with ⟨hb, hno⟩ | ⟨f, hb, hf, hs4, hl4⟩
  · rw [txtV_no showT hno]
    have Hb := Lib.hid hb
    clear hb hno
    go_enter Try.func10, Try.ntmps10
    go_wp2_with (go_at_call 8; refine (FormulaValid_spec s _ hs2).mono ?_; rintro e w' ⟨rfl, rfl⟩; rw [Hb.out])
    go_ret
    exact ⟨rfl, Below.refl _ _⟩
  · rw [txtV_yes showT hf (by rw [hf]; exact hl4)]
    have hcall := l2Show_calls f.size f s 0 [] 0 w (Nat.le_refl _) (by simpa using hf) (by omega) rfl
    have Hb := Lib.hid hb
    have Hcall := Lib.hid hcall
    clear hb hcall hf
    go_enter Try.func10, Try.ntmps10
    go_wp2_with (first | (go_at_call 8; refine (FormulaValid_spec s _ hs2).mono ?_; rintro e w' ⟨rfl, rfl⟩; rw [Hb.out]) | (go_at_call 26; refine (Hcall.out).mono ?_; rintro e w1 ⟨rfl, hb1⟩))
    go_ret
    exact ⟨rfl, hb1⟩

theorem ShowFormula_impl (s : ByteArray) (w : World) :
    Calls Try.prog 9 #[.string s] w fun e w' => e = .returned (.string (txtV s.data.toList showT)) ∧ Below w.heap.size w w' := by
  rcases fm_cases s with ⟨hb, hno⟩ | ⟨f, hb, hf, hs4, hl4⟩
  · rw [txtV_no showT hno]
    have Hno := Lib.hid hno
    clear hb hno
    go_enter Try.func9, Try.ntmps9
    go_wp2_with (go_at_call 23; refine (parseFormula_no s w Hno.out).mono ?_; rintro e w1 ⟨rfl, hb1⟩)
    go_ret
    exact ⟨rfl, hb1⟩
  · rw [txtV_yes showT hf (by rw [hf]; exact hl4)]
    have Hf := Lib.hid hf
    clear hb hf
    go_enter Try.func9, Try.ntmps9
    go_wp2_with (first | (go_at_call 23; refine (parseFormula_yes s f w hs4 Hf.out).mono ?_; rintro e w1 ⟨b, rfl, htr, hb1⟩; have Htr := Lib.hid htr; clear htr) | (go_at_call 25; refine (show_calls f.size f b _ _ (Nat.le_refl _) Htr.out (by omega)).mono ?_; rintro e w2 ⟨rfl, hb2⟩))
    go_ret
    exact ⟨rfl, hb1.trans (hb2.mono hb1.size)⟩

end Go.Proofs.Ytbohlhmmpoapmaa

namespace Go.Proofs.Ytbohlhmmpoapmaa
open Go.RowKit
open Pl

/-- does a text count, where it is a formula -/
noncomputable def cntV (l : List UInt8) : Bool := decide (numV l (fun f => if f.counts then 1 else 0) = 1)

theorem cntV_yes {l : List UInt8} {f : Fm} (h : l = f.text) (hl : l.length ≤ 4000) : cntV l = f.counts := by
  unfold cntV
  rw [numV_yes _ h hl]
  cases f.counts <;> simp

theorem cntV_no {l : List UInt8} (h : ¬ IsFm l) : cntV l = false := by
  unfold cntV
  rw [numV_no _ h]
  rfl

theorem findB_lt {c : UInt8} {l : List UInt8} (h : c ∉ l) : findB c l < 0 := by
  have := mt findB_nonneg.1 h
  omega

theorem CountsOf_spec (s : ByteArray) (w : World) (hs2 : s.size ≤ maxLen) :
    Calls Try.prog 17 #[.string s] w fun e w' => e = .returned (.bool (cntV s.data.toList)) ∧ w = w' := by
  rcases fm_cases s with ⟨hb, hno⟩ | ⟨f, hb, hf, hs4, hl4⟩
  · have hv := cntV_no hno
    rw [hv]
    have Hb := Lib.hid hb
    clear hb hv hno
    go_enter Try.func17, Try.ntmps17
    go_wp2_with (go_at_call 8; refine (FormulaValid_spec s _ hs2).mono ?_; rintro e w' ⟨rfl, rfl⟩; rw [Hb.out])
    go_ret
    exact ⟨rfl, rfl⟩
  · have hv := cntV_yes hf (by rw [hf]; exact hl4)
    have hct := counts_text f
    rw [← hf] at hct
    have Hb := Lib.hid hb
    clear hb hf
    have f50 : ∀ w, Calls Try.prog 30 #[.string s, .int .u8 50] w fun e w' => e = .returned (.int .i64 (findB 50 s.data.toList)) ∧ w = w' := fun w => l15Find_calls s 50 w hs2
    have f51 : ∀ w, Calls Try.prog 30 #[.string s, .int .u8 51] w fun e w' => e = .returned (.int .i64 (findB 51 s.data.toList)) ∧ w = w' := fun w => l15Find_calls s 51 w hs2
    have f52 : ∀ w, Calls Try.prog 30 #[.string s, .int .u8 52] w fun e w' => e = .returned (.int .i64 (findB 52 s.data.toList)) ∧ w = w' := fun w => l15Find_calls s 52 w hs2
    have F50 := Lib.hid f50
    have F51 := Lib.hid f51
    have F52 := Lib.hid f52
    clear f50 f51 f52
    by_cases m50 : (50 : UInt8) ∈ s.data.toList
    · have g := findB_nonneg.2 m50
      have hv2 : cntV s.data.toList = true := by rw [hv]; exact hct.2 (.inl m50)
      rw [hv2]
      clear hv hct m50 hv2
      go_enter Try.func17, Try.ntmps17
      go_wp2_with (first | (go_at_call 8; refine (FormulaValid_spec s _ hs2).mono ?_; rintro e w' ⟨rfl, rfl⟩; rw [Hb.out]) | (go_at_call 30; ((with_reducible refine (F50.out _).mono ?_); rintro e w' ⟨rfl, rfl⟩)))
      go_ret
      exact ⟨rfl, rfl⟩
    · have g := findB_lt m50
      by_cases m51 : (51 : UInt8) ∈ s.data.toList
      · have g2 := findB_nonneg.2 m51
        have hv2 : cntV s.data.toList = true := by rw [hv]; exact hct.2 (.inr (.inl m51))
        rw [hv2]
        clear hv hct m50 m51 hv2
        go_enter Try.func17, Try.ntmps17
        go_wp2_with (first | (go_at_call 8; refine (FormulaValid_spec s _ hs2).mono ?_; rintro e w' ⟨rfl, rfl⟩; rw [Hb.out]) | (go_at_call 30; ((with_reducible refine (F50.out _).mono ?_); rintro e w' ⟨rfl, rfl⟩)) | (go_at_call 30; ((with_reducible refine (F51.out _).mono ?_); rintro e w' ⟨rfl, rfl⟩)))
        go_ret
        exact ⟨rfl, rfl⟩
      · have g2 := findB_lt m51
        by_cases m52 : (52 : UInt8) ∈ s.data.toList
        · have g3 := findB_nonneg.2 m52
          have hv2 : cntV s.data.toList = true := by rw [hv]; exact hct.2 (.inr (.inr m52))
          rw [hv2]
          clear hv hct m50 m51 m52 hv2
          go_enter Try.func17, Try.ntmps17
          go_wp2_with (first | (go_at_call 8; refine (FormulaValid_spec s _ hs2).mono ?_; rintro e w' ⟨rfl, rfl⟩; rw [Hb.out]) | (go_at_call 30; ((with_reducible refine (F50.out _).mono ?_); rintro e w' ⟨rfl, rfl⟩)) | (go_at_call 30; ((with_reducible refine (F51.out _).mono ?_); rintro e w' ⟨rfl, rfl⟩)) | (go_at_call 30; ((with_reducible refine (F52.out _).mono ?_); rintro e w' ⟨rfl, rfl⟩)))
          go_ret
          exact ⟨rfl, rfl⟩
        · have g3 := findB_lt m52
          have hv2 : cntV s.data.toList = false := by
            rw [hv]
            cases hc : f.counts with
            | false => rfl
            | true => rcases hct.1 hc with h | h | h <;> contradiction
          rw [hv2]
          clear hv hct m50 m51 m52 hv2
          go_enter Try.func17, Try.ntmps17
          go_wp2_with (first | (go_at_call 8; refine (FormulaValid_spec s _ hs2).mono ?_; rintro e w' ⟨rfl, rfl⟩; rw [Hb.out]) | (go_at_call 30; ((with_reducible refine (F50.out _).mono ?_); rintro e w' ⟨rfl, rfl⟩)) | (go_at_call 30; ((with_reducible refine (F51.out _).mono ?_); rintro e w' ⟨rfl, rfl⟩)) | (go_at_call 30; ((with_reducible refine (F52.out _).mono ?_); rintro e w' ⟨rfl, rfl⟩)))
          go_ret
          exact ⟨ret_bool (by simp; omega), rfl⟩

theorem CountsOf_impl (s : ByteArray) (w : World) :
    Calls Try.prog 16 #[.string s] w fun e w' => e = .returned (.bool (cntV s.data.toList)) ∧ Below w.heap.size w w' := by
  rcases fm_cases s with ⟨hb, hno⟩ | ⟨f, hb, hf, hs4, hl4⟩
  · have hv := cntV_no hno
    rw [hv]
    have Hno := Lib.hid hno
    clear hb hv hno
    go_enter Try.func16, Try.ntmps16
    go_wp2_with (go_at_call 23; refine (parseFormula_no s w Hno.out).mono ?_; rintro e w1 ⟨rfl, hb1⟩)
    go_ret
    exact ⟨rfl, hb1⟩
  · have hv := cntV_yes hf (by rw [hf]; exact hl4)
    rw [hv]
    have Hf := Lib.hid hf
    clear hb hv hf
    go_enter Try.func16, Try.ntmps16
    go_wp2_with (first | (go_at_call 23; refine (parseFormula_yes s f w hs4 Hf.out).mono ?_; rintro e w1 ⟨b, rfl, htr, hb1⟩; have Htr := Lib.hid htr; clear htr) | (go_at_call 31; refine (counts_calls f.size f b _ _ (Nat.le_refl _) Htr.out).mono ?_; rintro e w' ⟨rfl, rfl⟩))
    go_ret
    exact ⟨rfl, hb1⟩

/-- how many variables -/
def Pl.Fm.width (f : Fm) : Nat := (varsL f.allBits 4).length

theorem WidthOf_impl (s : ByteArray) (w : World) :
    Calls Try.prog 13 #[.string s] w fun e w' => e = .returned (.int .i64 (numV s.data.toList Fm.width)) ∧ Below w.heap.size w w' := by
  rcases fm_cases s with ⟨hb, hno⟩ | ⟨f, hb, hf, hs4, hl4⟩
  · have hv := numV_no Fm.width hno
    rw [hv]
    have Hno := Lib.hid hno
    clear hb hv hno
    go_enter Try.func13, Try.ntmps13
    go_wp2_with (go_at_call 23; refine (parseFormula_no s w Hno.out).mono ?_; rintro e w1 ⟨rfl, hb1⟩)
    go_ret
    exact ⟨rfl, hb1⟩
  · have hv := numV_yes Fm.width hf (by rw [hf]; exact hl4)
    rw [hv]
    have Hf := Lib.hid hf
    have hsz : (bs (varsL f.allBits 4)).size = f.width := by rw [bs_size]; rfl
    have Hsz := Lib.hid hsz
    clear hb hv hf hsz
    go_enter Try.func13, Try.ntmps13
    go_wp2_with (first | (go_at_call 23; refine (parseFormula_yes s f w hs4 Hf.out).mono ?_; rintro e w1 ⟨b, rfl, htr, hb1⟩; obtain ⟨_, _, _, _, _, _, _, hc4, _⟩ := node_cells htr; clear htr) | (go_at_call 28; refine (varsText_calls _ (allBits_lt f) _).mono ?_; rintro e w' ⟨rfl, rfl⟩))
    go_ret
    exact ⟨ret_int (by rw [Hsz.out]), hb1⟩

theorem width_bit (f : Fm) (k : Nat) (hk : k < 4) : f.allBits.testBit k = decide (0 ≤ findB (UInt8.ofNat (97 + k)) f.text) := by
  rw [Bool.eq_iff_iff, decide_eq_true_iff, findB_nonneg]
  exact all_text f ⟨k, hk⟩

set_option maxHeartbeats 400000 in
theorem WidthOf_spec (s : ByteArray) (w : World) (hs2 : s.size ≤ maxLen) :
    Calls Try.prog 15 #[.string s] w fun e w' => e = .returned (.int .i64 (numV s.data.toList Fm.width)) ∧ w = w' := by
  rcases fm_cases s with ⟨hb, hno⟩ | ⟨f, hb, hf, hs4, hl4⟩
  · have hv := numV_no Fm.width hno
    rw [hv]
    have Hb := Lib.hid hb
    clear hb hv hno
    go_enter Try.func15, Try.ntmps15
    go_wp2_with (go_at_call 8; refine (FormulaValid_spec s _ hs2).mono ?_; rintro e w' ⟨rfl, rfl⟩; rw [Hb.out])
    go_ret
    exact ⟨rfl, rfl⟩
  · have hv := numV_yes Fm.width hf (by rw [hf]; exact hl4)
    rw [hv]
    have hbit : ∀ k, k < 4 → f.allBits.testBit k = decide (0 ≤ findB (UInt8.ofNat (97 + k)) s.data.toList) := fun k hk => by rw [hf]; exact width_bit f k hk
    have Hbit := Lib.hid hbit
    have Hb := Lib.hid hb
    clear hb hv hf hbit
    go_enter Try.func15, Try.ntmps15
    go_wp2_with (go_at_call 8; refine (FormulaValid_spec s _ hs2).mono ?_; rintro e w' ⟨rfl, rfl⟩; rw [Hb.out])
    go_loop [3, 4] (fun n i => ∃ k : Nat, k ≤ 4 ∧ i = .int .i64 k ∧ n = .int .i64 (varsL f.allBits k).length) (fun _ i => 4 - (intOf i).toNat)
    case atStart => exact ⟨0, by omega, rfl, rfl⟩
    case round =>
      obtain ⟨k, hk, rfl, rfl⟩ := hrel
      have hsz := varsL_len f.allBits k
      by_cases hlt : k < 4
      · obtain ⟨c, Hc⟩ : ∃ c, Hid (c = UInt8.ofNat (97 + k)) := ⟨_, rfl⟩
        have hcall : Calls Try.prog 30 #[.string s, .int .u8 c.toNat] w fun e w' => e = .returned (.int .i64 (findB c s.data.toList)) ∧ w = w' := l15Find_calls s _ w hs2
        have hch : ∀ h : k < (ByteArray.mk #[97, 98, 99, 100]).size, (ByteArray.mk #[97, 98, 99, 100])[k] = c := by
          intro h
          rw [Hc.out]
          match k, hlt with
          | 0, _ => rfl
          | 1, _ => rfl
          | 2, _ => rfl
          | 3, _ => rfl
        have Hcall := Lib.hid hcall
        have Hch := Lib.hid hch
        clear hcall hch
        cases hb2 : f.allBits.testBit k with
        | true =>
          have g : 0 ≤ findB c s.data.toList := by have := Hbit.out k hlt; rw [hb2, ← Hc.out] at this; simpa using this.symm
          have Hb2 := Lib.hid hb2
          clear hb2
          go_wp2_with (go_at_call 30; rw [Hch.out]; refine (Hcall.out).mono ?_; rintro e w' ⟨rfl, rfl⟩)
          go_round
          case rel => exact ⟨k + 1, by omega, by go_num, by rw [varsL_yes Hb2.out]; simp⟩
          case measure => simp [intOf]; omega
        | false =>
          have g : findB c s.data.toList < 0 := by have := Hbit.out k hlt; rw [hb2, ← Hc.out] at this; simpa using this.symm
          have Hb2 := Lib.hid hb2
          clear hb2
          go_wp2_with (go_at_call 30; rw [Hch.out]; refine (Hcall.out).mono ?_; rintro e w' ⟨rfl, rfl⟩)
          go_round
          case rel => exact ⟨k + 1, by omega, by go_num, by rw [varsL_no Hb2.out]⟩
          case measure => simp [intOf]; omega
      · obtain rfl : k = 4 := by omega
        go_wp2_with fail
        go_ret
        exact ⟨rfl, rfl⟩


end Go.Proofs.Ytbohlhmmpoapmaa

namespace Go.Proofs.Ytbohlhmmpoapmaa
open Go.RowKit
open Pl
set_option linter.unusedSimpArgs false
set_option linter.unusedVariables false

theorem isFm_neg {l : List UInt8} (h : l.length < 4000) : IsFm (33 :: l) ↔ IsFm l := by
  constructor
  · rintro ⟨_, f, hf⟩
    cases f <;> simp [Fm.text] at hf
    · exact ⟨by omega, _, hf⟩
    · rename_i k _ _; cases k <;> simp [Qn.b] at hf
  · rintro ⟨_, f, rfl⟩
    exact ⟨by simp; omega, .neg f, rfl⟩
theorem isFm_conT {l : List UInt8} (h : l.length < 3999) : IsFm (38 :: 116 :: l) ↔ IsFm l := by
  constructor
  · rintro ⟨_, f, hf⟩
    cases f <;> simp [Fm.text] at hf
    · rename_i p q
      have h2 : Fm.tru.text ++ l = p.text ++ q.text := by simpa [Fm.text] using hf
      obtain ⟨_, h3⟩ := Fm.text_inj _ _ _ _ h2
      exact ⟨by omega, q, h3⟩
    · rename_i k _ _; cases k <;> simp [Qn.b] at hf
  · rintro ⟨_, f, rfl⟩
    exact ⟨by simp; omega, .con .tru f, by simp [Fm.text]⟩
theorem isFm_qu {l : List UInt8} (k : Qn) (v : Fin 4) (h : l.length < 3999) : IsFm (k.b :: vb v :: l) ↔ IsFm l := by
  constructor
  · rintro ⟨_, f, hf⟩
    cases f with
    | qu k2 u p =>
      simp [Fm.text] at hf
      exact ⟨by omega, _, hf.2.2⟩
    | tru => cases k <;> simp [Fm.text, Qn.b] at hf
    | fls => cases k <;> simp [Fm.text, Qn.b] at hf
    | pr u => cases k <;> simp [Fm.text, Qn.b] at hf
    | eq u t => cases k <;> simp [Fm.text, Qn.b] at hf
    | rel u t => cases k <;> simp [Fm.text, Qn.b] at hf
    | neg p => cases k <;> simp [Fm.text, Qn.b] at hf
    | con p q => cases k <;> simp [Fm.text, Qn.b] at hf
    | dis p q => cases k <;> simp [Fm.text, Qn.b] at hf
  · rintro ⟨_, f, rfl⟩
    exact ⟨by simp; omega, .qu k v f, rfl⟩
theorem fmB_iff {l m : List UInt8} (h : IsFm l ↔ IsFm m) : fmB l = fmB m := by
  rw [Bool.eq_iff_iff, fmB_true, fmB_true]; exact h
theorem show_pos (f : Fm) : 0 < f.showL.length := by
  cases f with
  | qu k v p => cases k <;> simp [Fm.showL]
  | _ => simp [Fm.showL]
theorem varsL_four (m : Nat) : (varsL m 4).length ≤ 4 := varsL_len m 4
theorem free_sub_all {f : Fm} : (varsL f.freeBits 4).length ≤ (varsL f.allBits 4).length := by
  have h : ∀ m k : Fin 16, (∀ v : Fin 4, m.val.testBit v.val = true → k.val.testBit v.val = true) → (varsL m.val 4).length ≤ (varsL k.val 4).length := by decide +kernel
  have hb : ∀ (f : Fm) (v : Fin 4), f.freeBits.testBit v.val = true → f.allBits.testBit v.val = true := by
    intro f
    induction f with
    | tru => exact fun v h => h
    | fls => exact fun v h => h
    | pr u => exact fun v h => h
    | eq u t => exact fun v h => h
    | rel u t => exact fun v h => h
    | neg p ih => exact ih
    | con p q ihp ihq => intro v h; simp only [Fm.freeBits, Fm.allBits, Nat.testBit_or, Bool.or_eq_true] at *; exact h.imp (ihp v) (ihq v)
    | dis p q ihp ihq => intro v h; simp only [Fm.freeBits, Fm.allBits, Nat.testBit_or, Bool.or_eq_true] at *; exact h.imp (ihp v) (ihq v)
    | qu k u p ih =>
      intro v h
      simp only [Fm.freeBits, Fm.allBits, Nat.testBit_or, Nat.testBit_and, Bool.or_eq_true, Bool.and_eq_true] at *
      exact .inr (ih v h.1)
  exact h ⟨f.freeBits, freeBits_lt f⟩ ⟨f.allBits, allBits_lt f⟩ (hb f)

end Go.Proofs.Ytbohlhmmpoapmaa

namespace Go.Proofs.Ytbohlhmmpoapmaa
open Go.RowKit
open Pl
set_option linter.unusedSimpArgs false
set_option linter.unusedVariables false

theorem fmB_cons (x : Array UInt8) (t : ByteArray) : (ByteArray.mk x ++ t).data.toList = x.toList ++ t.data.toList := by simp

set_option maxHeartbeats 4000000 in
set_option maxRecDepth 100000 in
theorem FnFormulaValid_walk (A : Option Addr) (n cap : Nat) (w : World) (h : ByRow w A n) (hc : n ≤ cap) (hm : cap ≤ maxLen) :
    Calls Try.prog 3 #[.slice A n cap] w fun e w' => e = .returned (.bool true) ∧ Below w.heap.size w w' := by
  by_cases hn : n ≤ 1048576
  case neg =>
    have hni : (1048576 : Int) < (n : Int) := by omega
    clear h hc hm
    go_enter Try.func3, Try.ntmps3
    go_wp2_with fail
    go_ret
    exact ⟨rfl, Below.refl _ _⟩
  case pos =>
  have hni : (n : Int) ≤ 1048576 := by omega
  have HD := Lib.hid (DrawFormulaValid_calls A n cap w h hn hc hm)
  clear h hc hm
  go_enter Try.func3, Try.ntmps3
  go_wp2_with fail
  refine (HD.out).mono ?_
  rintro e w1 ⟨⟨t, rfl, ht⟩, hz⟩
  have B1 := Lib.hid hz
  have htl : t.data.toList.length ≤ 64 := by rw [← Lib.size_eq]; exact ht
  have c0 := fun W => FormulaValid_impl t W
  have c00 := fun W => FormulaValid_spec t W (by unfold maxLen; omega)
  have c1 := fun W => FormulaValid_impl (⟨#[33]⟩ ++ t) W
  have c2 := fun W => FormulaValid_impl (⟨#[38, 116]⟩ ++ t) W
  have c3 := fun W => FormulaValid_impl (⟨#[83, 97]⟩ ++ t) W
  have c4 := fun W => FormulaValid_impl (⟨#[51, 98]⟩ ++ t) W
  have c5 := fun W => ShowFormula_impl t W
  have c6 := fun W => ShowFormula_spec t W (by unfold maxLen; omega)
  simp only [fmB_cons] at c1 c2 c3 c4
  have e1 : fmB (#[33].toList ++ t.data.toList) = fmB t.data.toList := fmB_iff (isFm_neg (l := t.data.toList) (by omega))
  have e2 : fmB (#[38, 116].toList ++ t.data.toList) = fmB t.data.toList := fmB_iff (isFm_conT (l := t.data.toList) (by omega))
  have e3 : fmB (#[83, 97].toList ++ t.data.toList) = fmB t.data.toList := fmB_iff (isFm_qu (l := t.data.toList) .S 0 (by omega))
  have e4 : fmB (#[51, 98].toList ++ t.data.toList) = fmB t.data.toList := fmB_iff (isFm_qu (l := t.data.toList) .c3 1 (by omega))
  simp only [e1] at c1
  simp only [e2] at c2
  simp only [e3] at c3
  simp only [e4] at c4
  obtain ⟨X, hX⟩ : ∃ X, X = txtV t.data.toList showT := ⟨_, rfl⟩
  have hXe : (fmB t.data.toList = true ∧ 0 < X.size) ∨ (fmB t.data.toList = false ∧ X = bs []) := by
    rcases fm_cases t with ⟨hb, hno⟩ | ⟨g, hb, hf, hs4, hl4⟩
    · exact .inr ⟨hb, by rw [hX, txtV_no _ hno]⟩
    · refine .inl ⟨hb, ?_⟩
      rw [hX, txtV_yes showT hf (by omega), bs_size]
      exact show_pos g
  simp only [← hX] at c5 c6
  clear hX e1 e2 e3 e4
  obtain ⟨b, hb⟩ : ∃ b, b = fmB t.data.toList := ⟨_, rfl⟩
  simp only [← hb] at c0 c00 c1 c2 c3 c4 hXe
  have C0 := Lib.hid c0
  have C00 := Lib.hid c00
  have C1 := Lib.hid c1
  have C2 := Lib.hid c2
  have C3 := Lib.hid c3
  have C4 := Lib.hid c4
  have C5 := Lib.hid c5
  have C6 := Lib.hid c6
  have hbb : (b != b) = false := by cases b <;> rfl
  have hbb2 : (b == b) = true := by cases b <;> rfl
  clear c0 c00 c1 c2 c3 c4 c5 c6 hb hz htl
  go_wp2_with fail
  refine (C0.out _).mono ?_
  rintro e w2 ⟨rfl, hz⟩
  have B2 := Lib.hid (B1.out.trans (hz.mono B1.out.size))
  clear hz
  go_wp2_with fail
  refine (C00.out _).mono ?_
  rintro e w3 ⟨rfl, rfl⟩
  go_wp2_with fail
  refine (C1.out _).mono ?_
  rintro e v2 ⟨rfl, hz⟩
  have B3 := Lib.hid (B2.out.trans (hz.mono B2.out.size))
  clear hz
  go_wp2_with fail
  refine (C2.out _).mono ?_
  rintro e v3 ⟨rfl, hz⟩
  have B4 := Lib.hid (B3.out.trans (hz.mono B3.out.size))
  clear hz
  go_wp2_with fail
  refine (C3.out _).mono ?_
  rintro e v4 ⟨rfl, hz⟩
  have B5 := Lib.hid (B4.out.trans (hz.mono B4.out.size))
  clear hz
  go_wp2_with fail
  refine (C4.out _).mono ?_
  rintro e v5 ⟨rfl, hz⟩
  have B6 := Lib.hid (B5.out.trans (hz.mono B5.out.size))
  clear hz
  go_wp2_with fail
  refine (C5.out _).mono ?_
  rintro e v6 ⟨rfl, hz⟩
  have B7 := Lib.hid (B6.out.trans (hz.mono B6.out.size))
  clear hz
  rcases hXe with ⟨hb, hx⟩ | ⟨hb, hx⟩
  · subst hb
    obtain ⟨hne, hne2⟩ := empty_facts hx
    go_wp2_with fail
    refine (C5.out _).mono ?_
    rintro e v7 ⟨rfl, hz⟩
    have B8 := Lib.hid (B7.out.trans (hz.mono B7.out.size))
    clear hz
    go_wp2_with fail
    refine (C6.out _).mono ?_
    rintro e v8 ⟨rfl, hz⟩
    have B9 := Lib.hid (B8.out.trans (hz.mono B8.out.size))
    clear hz
    go_wp2_with fail
    go_ret
    exact ⟨rfl, B9.out⟩
  · subst hb
    have g1 : (X.toList == []) = true := by rw [hx, ByteArray.toList_eq]; rfl
    have g2 : X.toList.isEmpty = true := by rw [hx, ByteArray.toList_eq]; rfl
    clear hx
    go_wp2_with fail
    refine (C5.out _).mono ?_
    rintro e v7 ⟨rfl, hz⟩
    have B8 := Lib.hid (B7.out.trans (hz.mono B7.out.size))
    clear hz
    go_wp2_with fail
    refine (C6.out _).mono ?_
    rintro e v8 ⟨rfl, hz⟩
    have B9 := Lib.hid (B8.out.trans (hz.mono B8.out.size))
    clear hz
    go_wp2_with fail
    go_ret
    exact ⟨rfl, B9.out⟩

end Go.Proofs.Ytbohlhmmpoapmaa

namespace Go.Proofs.Ytbohlhmmpoapmaa
open Go.RowKit
open Pl
set_option linter.unusedSimpArgs false
set_option linter.unusedVariables false

theorem cat_list (x : Array UInt8) (t : ByteArray) : (ByteArray.mk x ++ t).data.toList = x.toList ++ t.data.toList := by simp
theorem cat_list3 (x y : Array UInt8) (t : ByteArray) : (ByteArray.mk x ++ t ++ ByteArray.mk y).data.toList = x.toList ++ t.data.toList ++ y.toList := by simp
theorem rank_bd (f : Fm) : f.rank ≤ 4 * f.text.length := by
  induction f with
  | qu k v p ih => cases k <;> simp [Fm.rank, Fm.text, Qn.n] <;> omega
  | neg p ih => simp [Fm.rank, Fm.text]; omega
  | con p q ihp ihq => simp [Fm.rank, Fm.text]; omega
  | dis p q ihp ihq => simp [Fm.rank, Fm.text]; omega
  | _ => simp [Fm.rank]

set_option maxHeartbeats 8000000 in
set_option maxRecDepth 100000 in
theorem FnRankWidth_walk (A : Option Addr) (n cap : Nat) (w : World) (h : ByRow w A n) (hc : n ≤ cap) (hm : cap ≤ maxLen) :
    Calls Try.prog 4 #[.slice A n cap] w fun e w' => e = .returned (.bool true) ∧ Below w.heap.size w w' := by
  by_cases hn : n ≤ 1048576
  case neg =>
    have hni : (1048576 : Int) < (n : Int) := by omega
    clear h hc hm
    go_enter Try.func4, Try.ntmps4
    go_wp2_with fail
    go_ret
    exact ⟨rfl, Below.refl _ _⟩
  case pos =>
  have hni : (n : Int) ≤ 1048576 := by omega
  have HD := Lib.hid (DrawRankOf_calls A n cap w h hn hc hm)
  clear h hc hm
  go_enter Try.func4, Try.ntmps4
  go_wp2_with fail
  refine (HD.out).mono ?_
  rintro e w1 ⟨⟨t, rfl, ht⟩, hz⟩
  have B1 := Lib.hid hz
  have htl : t.data.toList.length ≤ 64 := by rw [← Lib.size_eq]; exact ht
  have hti : (t.size : Int) ≤ 64 := by omega
  have cRI := fun W => RankOf_impl t W
  have cWI := fun W => WidthOf_impl t W
  have cCI := fun W => CountsOf_impl t W
  have cRS := fun W => RankOf_spec t W (by unfold maxLen; omega)
  have cWS := fun W => WidthOf_spec t W (by unfold maxLen; omega)
  have cCS := fun W => CountsOf_spec t W (by unfold maxLen; omega)
  clear hz
  rcases fm_cases t with ⟨hb, hno⟩ | ⟨g, hb, hf, hs4, hl4⟩
  · simp only [numV_no _ hno] at cRI cRS cWI cWS
    simp only [cntV_no hno] at cCI cCS
    have RI := Lib.hid cRI
    have WI := Lib.hid cWI
    have CI := Lib.hid cCI
    have RS := Lib.hid cRS
    have WS := Lib.hid cWS
    have CS := Lib.hid cCS
    clear cRI cWI cCI cRS cWS cCS hb hno htl
    go_wp2_with fail
    refine (RI.out _).mono ?_
    rintro e v1 ⟨rfl, hz⟩
    have B2 := Lib.hid (B1.out.trans (hz.mono B1.out.size))
    clear hz
    go_wp2_with fail
    refine (WI.out _).mono ?_
    rintro e v2 ⟨rfl, hz⟩
    have B3 := Lib.hid (B2.out.trans (hz.mono B2.out.size))
    clear hz
    go_wp2_with fail
    refine (RS.out _).mono ?_
    rintro e v3 ⟨rfl, rfl⟩
    go_wp2_with fail
    refine (WS.out _).mono ?_
    rintro e v3 ⟨rfl, rfl⟩
    go_wp2_with fail
    refine (CI.out _).mono ?_
    rintro e v3 ⟨rfl, hz⟩
    have B4 := Lib.hid (B3.out.trans (hz.mono B3.out.size))
    clear hz
    go_wp2_with fail
    refine (CS.out _).mono ?_
    rintro e v4 ⟨rfl, rfl⟩
    go_wp2_with fail
    refine (RS.out _).mono ?_
    rintro e v4 ⟨rfl, rfl⟩
    go_wp2_with fail
    refine (WS.out _).mono ?_
    rintro e v4 ⟨rfl, rfl⟩
    go_wp2_with fail
    refine (CI.out _).mono ?_
    rintro e v4 ⟨rfl, hz⟩
    have B5 := Lib.hid (B4.out.trans (hz.mono B4.out.size))
    clear hz
    go_wp2_with fail
    refine (CS.out _).mono ?_
    rintro e v5 ⟨rfl, rfl⟩
    go_wp2_with fail
    go_ret
    exact ⟨rfl, B5.out⟩
  · simp only [numV_yes _ hf (by omega)] at cRI cRS cWI cWS
    simp only [cntV_yes hf (by omega)] at cCI cCS
    have c1 := fun W => RankOf_impl (⟨#[33]⟩ ++ t) W
    have c2 := fun W => RankOf_impl (⟨#[65, 97]⟩ ++ t) W
    have c3 := fun W => RankOf_impl (⟨#[51, 97]⟩ ++ t) W
    have c4 := fun W => RankOf_impl (⟨#[38]⟩ ++ t ++ ⟨#[83, 97, 116]⟩) W
    have c5 := fun W => WidthOf_impl (⟨#[33]⟩ ++ t) W
    have c6 := fun W => FreeVars_impl t W
    have c7 := fun W => CountsOf_impl (⟨#[50, 98]⟩ ++ t) W
    have c8 := fun W => CountsOf_impl (⟨#[33]⟩ ++ t) W
    have d1 : (ByteArray.mk #[33] ++ t).data.toList = (Fm.neg g).text := by rw [cat_list, hf]; rfl
    have d2 : (ByteArray.mk #[65, 97] ++ t).data.toList = (Fm.qu .A 0 g).text := by rw [cat_list, hf]; rfl
    have d3 : (ByteArray.mk #[51, 97] ++ t).data.toList = (Fm.qu .c3 0 g).text := by rw [cat_list, hf]; rfl
    have d4 : (ByteArray.mk #[38] ++ t ++ ByteArray.mk #[83, 97, 116]).data.toList = (Fm.con g (.qu .S 0 .tru)).text := by rw [cat_list3, hf]; rfl
    have d7 : (ByteArray.mk #[50, 98] ++ t).data.toList = (Fm.qu .c2 1 g).text := by rw [cat_list, hf]; rfl
    have hgl : g.text.length ≤ 64 := by rw [← hf]; exact htl
    have e1 : numV (ByteArray.mk #[33] ++ t).data.toList Fm.rank = ((g.rank : Nat) : Int) := by rw [numV_yes _ d1 (by rw [d1]; simp [Fm.text]; omega)]; rfl
    have e2 : numV (ByteArray.mk #[65, 97] ++ t).data.toList Fm.rank = ((g.rank + 1 : Nat) : Int) := numV_yes _ d2 (by rw [d2]; simp [Fm.text]; omega)
    have e3 : numV (ByteArray.mk #[51, 97] ++ t).data.toList Fm.rank = ((g.rank + 3 : Nat) : Int) := numV_yes _ d3 (by rw [d3]; simp [Fm.text]; omega)
    have e4 : numV (ByteArray.mk #[38] ++ t ++ ByteArray.mk #[83, 97, 116]).data.toList Fm.rank = ((max g.rank 1 : Nat) : Int) := numV_yes _ d4 (by rw [d4]; simp [Fm.text]; omega)
    have e5 : numV (ByteArray.mk #[33] ++ t).data.toList Fm.width = ((g.width : Nat) : Int) := by rw [numV_yes _ d1 (by rw [d1]; simp [Fm.text]; omega)]; rfl
    have e6 : txtV t.data.toList freeT = bs (freeT g) := txtV_yes _ hf (by omega)
    have e7 : cntV (ByteArray.mk #[50, 98] ++ t).data.toList = true := (cntV_yes d7 (by rw [d7]; simp [Fm.text]; omega)).trans rfl
    have e8 : cntV (ByteArray.mk #[33] ++ t).data.toList = g.counts := by rw [cntV_yes d1 (by rw [d1]; simp [Fm.text]; omega)]; rfl
    simp only [e1] at c1
    simp only [e2] at c2
    simp only [e3] at c3
    simp only [e4] at c4
    simp only [e5] at c5
    simp only [e6] at c6
    simp only [e7] at c7
    simp only [e8] at c8
    have hrk := rank_bd g
    have hw4 : g.width ≤ 4 := varsL_four _
    have hfw : (bs (freeT g)).size ≤ g.width := by rw [bs_size]; exact free_sub_all
    clear e1 e2 e3 e4 e5 e6 e7 e8 d1 d2 d3 d4 d7
    generalize g.rank = N at *
    generalize g.width = V at *
    generalize g.counts = K at *
    generalize bs (freeT g) = X at *
    have hN : (N : Int) ≤ 300 := by omega
    have hN0 : (0 : Int) ≤ (N : Int) := by omega
    have hV : (V : Int) ≤ 4 := by omega
    have hXV : (X.size : Int) ≤ (V : Int) := by omega
    have hmx : ((max N 1 : Nat) : Int) = max (N : Int) 1 := by omega
    have hKK : (K != K) = false := by cases K <;> rfl
    have hKK2 : (K == K) = true := by cases K <;> rfl
    have RI := Lib.hid cRI
    have WI := Lib.hid cWI
    have CI := Lib.hid cCI
    have RS := Lib.hid cRS
    have WS := Lib.hid cWS
    have CS := Lib.hid cCS
    have D1 := Lib.hid c1
    have D2 := Lib.hid c2
    have D3 := Lib.hid c3
    have D4 := Lib.hid c4
    have D5 := Lib.hid c5
    have D6 := Lib.hid c6
    have D7 := Lib.hid c7
    have D8 := Lib.hid c8
    clear cRI cWI cCI cRS cWS cCS c1 c2 c3 c4 c5 c6 c7 c8 hb hf htl hrk hw4 hfw hgl hl4
    go_wp2_with fail
    refine (RI.out _).mono ?_
    rintro e v1 ⟨rfl, hz⟩
    have B2 := Lib.hid (B1.out.trans (hz.mono B1.out.size))
    clear hz
    go_wp2_with fail
    refine (WI.out _).mono ?_
    rintro e v2 ⟨rfl, hz⟩
    have B3 := Lib.hid (B2.out.trans (hz.mono B2.out.size))
    clear hz
    go_wp2_with fail
    refine (RS.out _).mono ?_
    rintro e v3 ⟨rfl, rfl⟩
    go_wp2_with fail
    refine (WS.out _).mono ?_
    rintro e v3 ⟨rfl, rfl⟩
    go_wp2_with fail
    refine (CI.out _).mono ?_
    rintro e v3 ⟨rfl, hz⟩
    have B4 := Lib.hid (B3.out.trans (hz.mono B3.out.size))
    clear hz
    go_wp2_with fail
    refine (CS.out _).mono ?_
    rintro e v4 ⟨rfl, rfl⟩
    go_wp2_with fail
    refine (D1.out _).mono ?_
    rintro e v4 ⟨rfl, hz⟩
    have B5 := Lib.hid (B4.out.trans (hz.mono B4.out.size))
    clear hz
    go_wp2_with fail
    refine (D2.out _).mono ?_
    rintro e v5 ⟨rfl, hz⟩
    have B6 := Lib.hid (B5.out.trans (hz.mono B5.out.size))
    clear hz
    go_wp2_with fail
    refine (D3.out _).mono ?_
    rintro e v6 ⟨rfl, hz⟩
    have B7 := Lib.hid (B6.out.trans (hz.mono B6.out.size))
    clear hz
    go_wp2_with fail
    refine (D4.out _).mono ?_
    rintro e v7 ⟨rfl, hz⟩
    have B8 := Lib.hid (B7.out.trans (hz.mono B7.out.size))
    clear hz
    go_wp2_with fail
    refine (D5.out _).mono ?_
    rintro e v8 ⟨rfl, hz⟩
    have B9 := Lib.hid (B8.out.trans (hz.mono B8.out.size))
    clear hz
    go_wp2_with fail
    refine (D6.out _).mono ?_
    rintro e v9 ⟨rfl, hz⟩
    have B10 := Lib.hid (B9.out.trans (hz.mono B9.out.size))
    clear hz
    go_wp2_with fail
    refine (D7.out _).mono ?_
    rintro e v10 ⟨rfl, hz⟩
    have B11 := Lib.hid (B10.out.trans (hz.mono B10.out.size))
    clear hz
    go_wp2_with fail
    refine (D8.out _).mono ?_
    rintro e v11 ⟨rfl, hz⟩
    have B12 := Lib.hid (B11.out.trans (hz.mono B11.out.size))
    clear hz
    go_wp2_with fail
    refine (CI.out _).mono ?_
    rintro e v12 ⟨rfl, hz⟩
    have B13 := Lib.hid (B12.out.trans (hz.mono B12.out.size))
    clear hz
    go_wp2_with fail
    go_ret
    exact ⟨rfl, B13.out⟩

end Go.Proofs.Ytbohlhmmpoapmaa
