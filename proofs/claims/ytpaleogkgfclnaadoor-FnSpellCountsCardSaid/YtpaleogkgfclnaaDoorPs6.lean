/-
  Laws of the functions that the claim reaches, one after the other (packed by a program of the prover's: SSpell, SpelI, SpellL, Map, Perms, Sem, KeyP, Cache). Conditions: texts below the reach.
-/
import Derived.Test.YtpaleogkgfclnaaDoorPs4
import Derived.Test.YtpaleogkgfclnaaDoorPs5
import Derived.OwnWalk
import Derived.Maps.Own
import Derived.LaidEqlPtr
import Derived.Deep.RegionLawGrows
import Derived.Test.YtpaleogkgfclnaaDoorPs0
import Derived.Test.YtpaleogkgfclnaaDoorPs3
set_option linter.unusedSimpArgs false
set_option linter.unusedVariables false

namespace Go.Proofs.YtpaleogkgfclnaaDoor
open Go.RowKit
open Pl
set_option linter.unusedSimpArgs false
set_option linter.unusedVariables false

set_option maxHeartbeats 4000000 in
set_option maxRecDepth 100000 in
theorem l2Spells_calls (n : Nat) : ∀ (f : Fm) (s : ByteArray) (k : Nat) (r : List UInt8) (m : Int) (w : World), f.size ≤ n → s.data.toList.drop k = f.text ++ r → s.size ≤ 4000 → m = k →
    Calls Tryd.prog 33 #[.string s, .int .i64 m] w fun e w' => OutN (k + f.text.length) (SpS f) e ∧ Below w.heap.size w w' := by
  induction n with
  | zero => intro f s k r m w hn; cases f <;> simp [Fm.size] at hn
  | succ n ih =>
    intro f s k r m w hn hd hs hm
    subst hm
    obtain ⟨hk1, hop, hle⟩ := at_op hd
    have hk := hk1
    have Ih := Lib.hid ih
    clear ih
    cases f with
    | tru  =>
      have hk := hk1
      have hb : (s[k].toNat : Int) = 116 := by rw [hop]; rfl
      have hend : Calls Tryd.prog 51 #[.string s, .int .i64 k] w fun e w' => e = .returned (.int .i64 (endI s.data.toList k)) ∧ w = w' := l2End_calls s.size s k w (by omega) (by unfold maxLen; omega) (by omega)
      rw [endI_some hd, show k + (Fm.text (.tru )).length = k + 1 from rfl] at hend
      have hq0 : ∀ w, Calls Tryd.prog 53 #[.int .u8 116] w fun e w' => e = .returned (.bool false) ∧ w = w' := fun w => l2Quant_calls 116 false rfl w
      have hx := piece_eq hd (k + 1) (by simp [Fm.text])
      have hz := piece_size hd (k + 1) (by simp [Fm.text])
      have Hend := Lib.hid hend
      have Hx := Lib.hid hx
      have Hq0 := Lib.hid hq0
      simp only [Fm.text, List.length_cons, List.length_nil] at hle hz
      clear hop hend hd hx hq0 hn
      go_enter Tryd.func33, Tryd.ntmps33
      go_wp2_with (first | (go_at_call 53; refine (Hq0.out _).mono ?_; rintro e w' ⟨rfl, rfl⟩) | (go_at_call 51; refine (Hend.out).mono ?_; rintro e w' ⟨rfl, rfl⟩))
      (first | go_ret2 | go_ret3)
      exact ⟨⟨_, _, rfl, SpS.leaf rfl Hx.out⟩, Below.refl _ _⟩
    | fls  =>
      have hk := hk1
      have hb : (s[k].toNat : Int) = 102 := by rw [hop]; rfl
      have hend : Calls Tryd.prog 51 #[.string s, .int .i64 k] w fun e w' => e = .returned (.int .i64 (endI s.data.toList k)) ∧ w = w' := l2End_calls s.size s k w (by omega) (by unfold maxLen; omega) (by omega)
      rw [endI_some hd, show k + (Fm.text (.fls )).length = k + 1 from rfl] at hend
      have hq0 : ∀ w, Calls Tryd.prog 53 #[.int .u8 102] w fun e w' => e = .returned (.bool false) ∧ w = w' := fun w => l2Quant_calls 102 false rfl w
      have hx := piece_eq hd (k + 1) (by simp [Fm.text])
      have hz := piece_size hd (k + 1) (by simp [Fm.text])
      have Hend := Lib.hid hend
      have Hx := Lib.hid hx
      have Hq0 := Lib.hid hq0
      simp only [Fm.text, List.length_cons, List.length_nil] at hle hz
      clear hop hend hd hx hq0 hn
      go_enter Tryd.func33, Tryd.ntmps33
      go_wp2_with (first | (go_at_call 53; refine (Hq0.out _).mono ?_; rintro e w' ⟨rfl, rfl⟩) | (go_at_call 51; refine (Hend.out).mono ?_; rintro e w' ⟨rfl, rfl⟩))
      (first | go_ret2 | go_ret3)
      exact ⟨⟨_, _, rfl, SpS.leaf rfl Hx.out⟩, Below.refl _ _⟩
    | pr a =>
      have hk := hk1
      have hb : (s[k].toNat : Int) = 80 := by rw [hop]; rfl
      have hend : Calls Tryd.prog 51 #[.string s, .int .i64 k] w fun e w' => e = .returned (.int .i64 (endI s.data.toList k)) ∧ w = w' := l2End_calls s.size s k w (by omega) (by unfold maxLen; omega) (by omega)
      rw [endI_some hd, show k + (Fm.text (.pr a)).length = k + 2 from rfl] at hend
      have hq0 : ∀ w, Calls Tryd.prog 53 #[.int .u8 80] w fun e w' => e = .returned (.bool false) ∧ w = w' := fun w => l2Quant_calls 80 false rfl w
      have hx := piece_eq hd (k + 2) (by simp [Fm.text])
      have hz := piece_size hd (k + 2) (by simp [Fm.text])
      have Hend := Lib.hid hend
      have Hx := Lib.hid hx
      have Hq0 := Lib.hid hq0
      simp only [Fm.text, List.length_cons, List.length_nil] at hle hz
      clear hop hend hd hx hq0 hn
      go_enter Tryd.func33, Tryd.ntmps33
      go_wp2_with (first | (go_at_call 53; refine (Hq0.out _).mono ?_; rintro e w' ⟨rfl, rfl⟩) | (go_at_call 51; refine (Hend.out).mono ?_; rintro e w' ⟨rfl, rfl⟩))
      (first | go_ret2 | go_ret3)
      exact ⟨⟨_, _, rfl, SpS.leaf rfl Hx.out⟩, Below.refl _ _⟩
    | eq a c =>
      have hk := hk1
      have hb : (s[k].toNat : Int) = 61 := by rw [hop]; rfl
      have hend : Calls Tryd.prog 51 #[.string s, .int .i64 k] w fun e w' => e = .returned (.int .i64 (endI s.data.toList k)) ∧ w = w' := l2End_calls s.size s k w (by omega) (by unfold maxLen; omega) (by omega)
      rw [endI_some hd, show k + (Fm.text (.eq a c)).length = k + 3 from rfl] at hend
      have hq0 : ∀ w, Calls Tryd.prog 53 #[.int .u8 61] w fun e w' => e = .returned (.bool false) ∧ w = w' := fun w => l2Quant_calls 61 false rfl w
      have hx := piece_eq hd (k + 3) (by simp [Fm.text])
      have hz := piece_size hd (k + 3) (by simp [Fm.text])
      have Hend := Lib.hid hend
      have Hx := Lib.hid hx
      have Hq0 := Lib.hid hq0
      simp only [Fm.text, List.length_cons, List.length_nil] at hle hz
      clear hop hend hd hx hq0 hn
      go_enter Tryd.func33, Tryd.ntmps33
      go_wp2_with (first | (go_at_call 53; refine (Hq0.out _).mono ?_; rintro e w' ⟨rfl, rfl⟩) | (go_at_call 51; refine (Hend.out).mono ?_; rintro e w' ⟨rfl, rfl⟩))
      (first | go_ret2 | go_ret3)
      exact ⟨⟨_, _, rfl, SpS.leaf rfl Hx.out⟩, Below.refl _ _⟩
    | rel a c =>
      have hk := hk1
      have hb : (s[k].toNat : Int) = 69 := by rw [hop]; rfl
      have hend : Calls Tryd.prog 51 #[.string s, .int .i64 k] w fun e w' => e = .returned (.int .i64 (endI s.data.toList k)) ∧ w = w' := l2End_calls s.size s k w (by omega) (by unfold maxLen; omega) (by omega)
      rw [endI_some hd, show k + (Fm.text (.rel a c)).length = k + 3 from rfl] at hend
      have hq0 : ∀ w, Calls Tryd.prog 53 #[.int .u8 69] w fun e w' => e = .returned (.bool false) ∧ w = w' := fun w => l2Quant_calls 69 false rfl w
      have hx := piece_eq hd (k + 3) (by simp [Fm.text])
      have hz := piece_size hd (k + 3) (by simp [Fm.text])
      have Hend := Lib.hid hend
      have Hx := Lib.hid hx
      have Hq0 := Lib.hid hq0
      simp only [Fm.text, List.length_cons, List.length_nil] at hle hz
      clear hop hend hd hx hq0 hn
      go_enter Tryd.func33, Tryd.ntmps33
      go_wp2_with (first | (go_at_call 53; refine (Hq0.out _).mono ?_; rintro e w' ⟨rfl, rfl⟩) | (go_at_call 51; refine (Hend.out).mono ?_; rintro e w' ⟨rfl, rfl⟩))
      (first | go_ret2 | go_ret3)
      exact ⟨⟨_, _, rfl, SpS.leaf rfl Hx.out⟩, Below.refl _ _⟩
    | neg p =>
      have hb : (s[k].toNat : Int) = 33 := by rw [hop]; rfl
      have hcall := Ih.out p s (k + 1) r ((k : Int) + 1) w (by simp [Fm.size] at hn; omega) (at_one hd) hs (by omega)
      have Hcall := Lib.hid hcall
      simp only [Fm.text, List.length_cons] at hle ⊢
      clear hop hcall hd hn
      go_enter Tryd.func33, Tryd.ntmps33
      go_wp2_with fail
      refine (Hcall.out).mono ?_
      rintro e w1 ⟨⟨t1, o1, rfl, hs1⟩, hb1⟩
      have ht1 : t1.size ≤ 400000000 := by have := hs1.1; omega
      have Hs1 := Lib.hid hs1
      clear hs1
      go_wp2_with fail
      (first | go_ret2 | go_ret3)
      exact ⟨⟨_, _, ret_tri rfl (int_eq (by omega)) rfl, Hs1.out.neg⟩, hb1⟩
    | con p q =>
      have hb : (s[k].toNat : Int) = 38 := by rw [hop]; rfl
      obtain ⟨hd1, hd2⟩ := at_two hd
      have hcall := fun w => Ih.out p s (k + 1) _ ((k : Int) + 1) w (by simp [Fm.size] at hn; omega) hd1 hs (by omega)
      have hcall2 := fun w => Ih.out q s (k + 1 + p.text.length) _ ((k + 1 + p.text.length : Nat) : Int) w (by simp [Fm.size] at hn; omega) hd2 hs rfl
      have hx := piece_eq (show s.data.toList.drop k = [38] ++ (p.text ++ q.text ++ r) by rw [hd]; simp [Fm.text]) (k + 1) rfl
      have hz := piece_size (show s.data.toList.drop k = [38] ++ (p.text ++ q.text ++ r) by rw [hd]; simp [Fm.text]) (k + 1) rfl
      have Hcall := Lib.hid hcall
      have Hcall2 := Lib.hid hcall2
      have Hx := Lib.hid hx
      simp only [Fm.text, List.length_cons, List.length_append, List.length_nil] at hle hz ⊢
      clear hop hcall hcall2 hd hd1 hd2 hx hn
      go_enter Tryd.func33, Tryd.ntmps33
      go_wp2_with fail
      refine (Hcall.out _).mono ?_
      rintro e w1 ⟨⟨t1, o1, rfl, hs1⟩, hb1⟩
      have ht1 : t1.size ≤ 400000000 := by have := hs1.1; omega
      have Hs1 := Lib.hid hs1
      clear hs1
      go_wp2_with fail
      refine (Hcall2.out _).mono ?_
      rintro e w2 ⟨⟨t2, o2, rfl, hs2⟩, hb2⟩
      have ht2 : t2.size ≤ 400000000 := by have := hs2.1; omega
      have Hs2 := Lib.hid hs2
      clear hs2
      have Hres := Lib.hid (SpS.con Hs1.out Hs2.out Hx.out)
      cases o1 with
      | false =>
        go_wp2_with fail
        (first | go_ret2 | go_ret3)
        exact ⟨⟨_, _, ret_tri rfl (int_eq (by omega)) rfl, Hres.out⟩, hb1.trans (hb2.mono hb1.size)⟩
      | true =>
        go_wp2_with fail
        (first | go_ret2 | go_ret3)
        exact ⟨⟨_, _, ret_tri rfl (int_eq (by omega)) rfl, Hres.out⟩, hb1.trans (hb2.mono hb1.size)⟩
    | dis p q =>
      have hb : (s[k].toNat : Int) = 124 := by rw [hop]; rfl
      obtain ⟨hd1, hd2⟩ := at_two hd
      have hcall := fun w => Ih.out p s (k + 1) _ ((k : Int) + 1) w (by simp [Fm.size] at hn; omega) hd1 hs (by omega)
      have hcall2 := fun w => Ih.out q s (k + 1 + p.text.length) _ ((k + 1 + p.text.length : Nat) : Int) w (by simp [Fm.size] at hn; omega) hd2 hs rfl
      have hx := piece_eq (show s.data.toList.drop k = [124] ++ (p.text ++ q.text ++ r) by rw [hd]; simp [Fm.text]) (k + 1) rfl
      have hz := piece_size (show s.data.toList.drop k = [124] ++ (p.text ++ q.text ++ r) by rw [hd]; simp [Fm.text]) (k + 1) rfl
      have Hcall := Lib.hid hcall
      have Hcall2 := Lib.hid hcall2
      have Hx := Lib.hid hx
      simp only [Fm.text, List.length_cons, List.length_append, List.length_nil] at hle hz ⊢
      clear hop hcall hcall2 hd hd1 hd2 hx hn
      go_enter Tryd.func33, Tryd.ntmps33
      go_wp2_with fail
      refine (Hcall.out _).mono ?_
      rintro e w1 ⟨⟨t1, o1, rfl, hs1⟩, hb1⟩
      have ht1 : t1.size ≤ 400000000 := by have := hs1.1; omega
      have Hs1 := Lib.hid hs1
      clear hs1
      go_wp2_with fail
      refine (Hcall2.out _).mono ?_
      rintro e w2 ⟨⟨t2, o2, rfl, hs2⟩, hb2⟩
      have ht2 : t2.size ≤ 400000000 := by have := hs2.1; omega
      have Hs2 := Lib.hid hs2
      clear hs2
      have Hres := Lib.hid (SpS.dis Hs1.out Hs2.out Hx.out)
      cases o1 with
      | false =>
        go_wp2_with fail
        (first | go_ret2 | go_ret3)
        exact ⟨⟨_, _, ret_tri rfl (int_eq (by omega)) rfl, Hres.out⟩, hb1.trans (hb2.mono hb1.size)⟩
      | true =>
        go_wp2_with fail
        (first | go_ret2 | go_ret3)
        exact ⟨⟨_, _, ret_tri rfl (int_eq (by omega)) rfl, Hres.out⟩, hb1.trans (hb2.mono hb1.size)⟩
    | qu q x p =>
      have hd1 := at_qu hd
      have hcall := fun w => Ih.out p s (k + 2) _ ((k : Int) + 2) w (by simp [Fm.size] at hn; omega) hd1 hs (by omega)
      have hend : Calls Tryd.prog 51 #[.string s, .int .i64 k] w fun e w' => e = .returned (.int .i64 (endI s.data.toList k)) ∧ w = w' := l2End_calls s.size s k w (by omega) (by unfold maxLen; omega) (by omega)
      rw [endI_some hd] at hend
      have hdx : s.data.toList.drop (k + 1) = vb x :: (p.text ++ r) := drop_add_of (p := [q.b]) (by simpa [Fm.text] using hd)
      have hy := piece_eq (show s.data.toList.drop (k + 1) = [vb x] ++ (p.text ++ r) from hdx) (k + 2) rfl
      have hyz := piece_size (show s.data.toList.drop (k + 1) = [vb x] ++ (p.text ++ r) from hdx) (k + 2) rfl
      have hu2 := piece_eq (show s.data.toList.drop k = [q.b, vb x] ++ (p.text ++ r) by rw [hd]; simp [Fm.text]) (k + 2) rfl
      have huz := piece_size (show s.data.toList.drop k = [q.b, vb x] ++ (p.text ++ r) by rw [hd]; simp [Fm.text]) (k + 2) rfl
      obtain ⟨T, hT⟩ : ∃ T, T = (Fm.text (.qu q x p)).length := ⟨_, rfl⟩
      have hT2 : T = p.text.length + 2 := by rw [hT]; simp [Fm.text]
      rw [← hT] at hend hle ⊢
      have Hcall := Lib.hid hcall
      have Hend := Lib.hid hend
      have Hy := Lib.hid hy
      have Hu2 := Lib.hid hu2
      simp only [List.length_cons, List.length_nil] at huz hyz
      clear hcall hend hd hd1 hdx hy hu2 hT hn
      cases q with
      | A =>
        have hb : (s[k].toNat : Int) = 65 := by rw [hop]; rfl
        clear hop
        go_enter Tryd.func33, Tryd.ntmps33
        go_wp2_with fail
        refine (Hcall.out _).mono ?_
        rintro e w1 ⟨⟨t1, o1, rfl, hs1⟩, hb1⟩
        have ht1 : t1.size ≤ 400000000 := by have := hs1.1; omega
        have Hs1 := Lib.hid hs1
        clear hs1
        go_wp2_with fail
        (first | go_ret2 | go_ret3)
        exact ⟨⟨_, _, ret_tri rfl (int_eq (by omega)) rfl, Hs1.out.qA Hu2.out⟩, hb1⟩
      | S =>
        have hb : (s[k].toNat : Int) = 83 := by rw [hop]; rfl
        clear hop
        go_enter Tryd.func33, Tryd.ntmps33
        go_wp2_with fail
        refine (Hcall.out _).mono ?_
        rintro e w1 ⟨⟨t1, o1, rfl, hs1⟩, hb1⟩
        have ht1 : t1.size ≤ 400000000 := by have := hs1.1; omega
        have Hs1 := Lib.hid hs1
        clear hs1
        go_wp2_with fail
        (first | go_ret2 | go_ret3)
        exact ⟨⟨_, _, ret_tri rfl (int_eq (by omega)) rfl, Hs1.out.qS Hu2.out⟩, hb1⟩
      | c2 =>
        have hb : (s[k].toNat : Int) = 50 := by rw [hop]; rfl
        clear hop
        go_enter Tryd.func33, Tryd.ntmps33
        go_wp2_with fail
        refine (Hcall.out _).mono ?_
        rintro e w1 ⟨⟨t1, o1, rfl, hs1⟩, hb1⟩
        cases o1 with
        | false =>
          have Hs1 := Lib.hid hs1
          clear hs1
          go_wp2_with fail
          (first | go_ret2 | go_ret3)
          exact ⟨⟨_, _, ret_tri rfl (int_eq (by omega)) rfl, SpS.no (two_none (Hs1.out.2.2 rfl)) (by show 0 ≤ _; omega)⟩, hb1⟩
        | true =>
          obtain ⟨q, hq, rfl⟩ := hs1.2.1 rfl
          have hql : q.text.length ≤ 400000000 := by have := hs1.1; rw [bs_size] at this; omega
          have hqz : (bs q.text).size ≤ 400000000 := by rw [bs_size]; exact hql
          have hcat : ⟨#[50]⟩ ++ s.extract (k + 1) (k + 2) ++ bs q.text = bs (50 :: vb x :: q.text) := eq_bs (by rw [Hy.out]; simp [bs_data])
          have hcall2 := fun W => l2Spell_calls x q W hql
          rw [← hcat] at hcall2
          have Hcall2 := Lib.hid hcall2
          have Hq := Lib.hid hq
          clear hs1 hql hcat hcall2 hq
          go_wp2_with fail
          refine (Hcall2.out _).mono ?_
          rintro e w2 ⟨⟨t2, o2, rfl, htw⟩, hb2⟩
          have Htw := Lib.hid htw
          clear htw
          go_wp2_with fail
          (first | go_ret2 | go_ret3)
          exact ⟨⟨_, _, ret_tri rfl (int_eq (by omega)) rfl, SpS.two Hq.out Htw.out⟩, hb1.trans (hb2.mono hb1.size)⟩
      | c3 =>
        have hb : (s[k].toNat : Int) = 51 := by rw [hop]; rfl
        have hq0 : ∀ w, Calls Tryd.prog 53 #[.int .u8 51] w fun e w' => e = .returned (.bool true) ∧ w = w' := fun w => l2Quant_calls 51 true rfl w
        have Hq0 := Lib.hid hq0
        clear hop hq0
        go_enter Tryd.func33, Tryd.ntmps33
        go_wp2_with (first | (go_at_call 53; refine (Hq0.out _).mono ?_; rintro e w' ⟨rfl, rfl⟩) | (go_at_call 51; refine (Hend.out).mono ?_; rintro e w' ⟨rfl, rfl⟩))
        (first | go_ret2 | go_ret3)
        exact ⟨⟨_, _, ret_tri rfl (int_eq (by omega)) rfl, SpS.no (by simp [Fm.spell]) (by show 0 ≤ _; omega)⟩, Below.refl _ _⟩
      | c4 =>
        have hb : (s[k].toNat : Int) = 52 := by rw [hop]; rfl
        have hq0 : ∀ w, Calls Tryd.prog 53 #[.int .u8 52] w fun e w' => e = .returned (.bool true) ∧ w = w' := fun w => l2Quant_calls 52 true rfl w
        have Hq0 := Lib.hid hq0
        clear hop hq0
        go_enter Tryd.func33, Tryd.ntmps33
        go_wp2_with (first | (go_at_call 53; refine (Hq0.out _).mono ?_; rintro e w' ⟨rfl, rfl⟩) | (go_at_call 51; refine (Hend.out).mono ?_; rintro e w' ⟨rfl, rfl⟩))
        (first | go_ret2 | go_ret3)
        exact ⟨⟨_, _, ret_tri rfl (int_eq (by omega)) rfl, SpS.no (by simp [Fm.spell]) (by show 0 ≤ _; omega)⟩, Below.refl _ _⟩

end Go.Proofs.YtpaleogkgfclnaaDoor

namespace Go.Proofs.YtpaleogkgfclnaaDoor
open Go.RowKit
open Pl
set_option linter.unusedSimpArgs false
set_option linter.unusedVariables false

theorem op_ne {f : Fm} {b : UInt8} (h : f.op ≠ b) : ((f.op.toNat : Int) == (b.toNat : Int)) = false := by
  rw [beq_eq_false_iff_ne]
  intro e
  exact h (UInt8.toNat_inj.1 (by omega))
theorem two_op {f : Fm} (h : f.op = 50) : ∃ v p, f = .qu .c2 v p := by
  cases f with
  | qu k v p => cases k <;> first | exact ⟨v, p, rfl⟩ | (simp [Fm.op, Qn.b] at h)
  | _ => simp [Fm.op] at h
theorem more_op {f : Fm} (h : f.op = 51 ∨ f.op = 52) : f.spell = none := by
  cases f with
  | qu k v p => cases k <;> first | rfl | (simp [Fm.op, Qn.b] at h)
  | _ => simp [Fm.op] at h
theorem spell_end {f g : Fm} (h : f.spell = some g) (hl : g.text.length ≤ 20000) : SpP f (.returned (.tuple #[.string (bs g.text), .bool (decide (((bs g.text).size : Int) ≤ 4000))])) := by
  have hs := bs_size g.text
  by_cases h4 : g.text.length ≤ 4000
  · exact .inl ⟨g, h, h4, by rw [decide_eq_true (by omega)]⟩
  · exact .inr ⟨fun g' hg' => by rw [h] at hg'; injection hg' with hg'; rw [← hg']; omega, bs g.text, by omega, by rw [decide_eq_false (by omega)]⟩
theorem spell_at {f g : Fm} {T : ByteArray} {z : Int} (h : f.spell = some g) (hT : T = bs g.text) (hz : z = (g.text.length : Int)) (hl : g.text.length ≤ 20000) : SpP f (.returned (.tuple #[.string T, .bool (decide (z ≤ 4000))])) := by
  subst hT
  subst hz
  rw [← bs_size]
  exact spell_end h hl
theorem fresh_lt (m : Nat) : 15 &&& m < 16 := Nat.lt_of_le_of_lt Nat.and_le_left (by decide)
theorem fresh_bits (q : Fm) (v : Fin 4) : bits .andNot .i64 15 (bits .or .i64 (q.allBits : Int) (wrap64 (2 ^ v.val))) = ((15 &&& (15 ^^^ (q.allBits ||| 1 <<< v.val)) : Nat) : Int) := by
  have h : ∀ (m : Fin 16) (v : Fin 4), bits .andNot .i64 15 (bits .or .i64 (m.val : Int) (wrap64 (2 ^ v.val))) = ((15 &&& (15 ^^^ (m.val ||| 1 <<< v.val)) : Nat) : Int) := by decide +kernel
  exact h ⟨q.allBits, allBits_lt q⟩ v

set_option maxHeartbeats 4000000 in
set_option maxRecDepth 100000 in
theorem spell_calls (n : Nat) : ∀ (f : Fm) (b : Nat) (S : Nat → Prop) (w : World), f.size ≤ n → TreeIn S w f b → f.text.length ≤ 4000 →
    Calls Tryd.prog 30 #[kidV b] w fun e w' => SpP f e ∧ Below w.heap.size w w' := by
  induction n with
  | zero => intro f b S w hn _ _; cases f <;> simp [Fm.size] at hn
  | succ n ih =>
    intro f b S w hn ht hl
    have Ht := Lib.hid ht
    have Ih := Lib.hid ih
    clear ih
    obtain ⟨ks0, vsv, psv0, hc0, hc1, hc2, _, _, hr1, hr0, hts0⟩ := node_cells ht
    have hcv1 : (convert 22 9 vsv).run Tryd.prog w.drew = .ok (.string (bs (f.vars.map vb))) w.drew := conv_row (w := w.drew) (base := 0) (n := f.vars.length) (by rw [← vars_bytes]; exact hr1)
    have hcv2 : ∀ o, (convert 22 9 vsv).run Tryd.prog (w.alloc o).drew = .ok (.string (bs (f.vars.map vb))) (w.alloc o).drew := fun o => conv_row (w := (w.alloc o).drew) (base := 0) (n := f.vars.length) (by rw [← vars_bytes]; exact ownsRow_world hr1 ((Below.refl _ _).alloc (Nat.le_refl _) _).drew)
    have hcv3 : (convert 22 9 (.slice (some ⟨w.heap.size, 0, none⟩) 1 1)).run Tryd.prog (w.alloc (.cells #[.int .u8 f.op.toNat] 5)).drew = .ok (.string (bs [f.op])) (w.alloc (.cells #[.int .u8 f.op.toNat] 5)).drew := conv_row (new_byte w f.op)
    have hlb := World.block_lt_of_cell? w _ hc0
    have ha0 : ∀ o, (w.alloc o).cell? ⟨b, 0, none⟩ = some (.int .u8 f.op.toNat) := fun o => (World.cell?_of_block (w := w) (Below.heap_alloc w o b hlb)).trans hc0
    have ha1 : ∀ o, (w.alloc o).cell? ⟨b, 1, none⟩ = some vsv := fun o => (World.cell?_of_block (w := w) (Below.heap_alloc w o b hlb)).trans hc1
    have hsz : (bs (f.vars.map vb)).size ≤ 2 := by rw [bs_size]; have := vars_le f; simp; omega
    have hsz1 : (bs [f.op]).size ≤ 1 := by rw [bs_size]; simp
    clear ht hr1 hr0 hts0
    go_enter Tryd.func30, Tryd.ntmps30
    go_upto_region 1 with (fail)
    go_cut [4] (fun s wx => s = .string (bs f.headL) ∧ Below w.heap.size w wx)
    case first =>
      go_region
      all_goals
        go_wp2_with fail
        go_meet
        case rel => exact ⟨str_eq (append_bs _ _), ((Below.refl _ _).alloc (Nat.le_refl _) _).drew⟩
    case rest =>
      obtain ⟨rfl, hbc⟩ := hcut
      have Hbc := Lib.hid hbc
      have ht2 := TreeIn.world Ht.out hbc
      clear hc0 hc1 hc2 hcv1 hcv2 hcv3 hlb ha0 ha1 hsz hsz1 hbc
      obtain ⟨ks, vsv2, psv, hc0, hc1, hc2, _, _, hr1, hr, hts⟩ := node_cells ht2
      by_cases h51 : f.op = 51
      · have hop : (f.op.toNat : Int) = 51 := by rw [h51]; rfl
        have Hm := Lib.hid (more_op (.inl h51))
        clear h51 hr1 hr hts ht2
        go_wp2_with fail
        go_ret2
        exact ⟨.inr ⟨fun g hg => (by rw [Hm.out] at hg; cases hg), ⟨#[]⟩, by decide, rfl⟩, Hbc.out⟩
      · by_cases h52 : f.op = 52
        · have hop : (f.op.toNat : Int) = 52 := by rw [h52]; rfl
          have Hm := Lib.hid (more_op (.inr h52))
          clear h51 h52 hr1 hr hts ht2
          go_wp2_with fail
          go_ret2
          exact ⟨.inr ⟨fun g hg => (by rw [Hm.out] at hg; cases hg), ⟨#[]⟩, by decide, rfl⟩, Hbc.out⟩
        · by_cases h50 : f.op = 50
          · obtain ⟨v, p, hfe⟩ := two_op h50
            have hop : (f.op.toNat : Int) = 50 := by rw [h50]; rfl
            have hvs : f.vars = [v] := by rw [hfe]; rfl
            have hps : f.parts = [p] := by rw [hfe]; rfl
            have hk0 := hts.1
            rw [hps] at hk0
            obtain ⟨k0, rfl⟩ : ∃ k0, ks = [k0] := by
              match ks, hk0 with
              | [k0], _ => exact ⟨k0, rfl⟩
            obtain ⟨g, cap, rfl, hcap, hcm, _, hglt, hcell⟩ := row_open hr (by simp)
            have hcell0 : wc.cell? ⟨g, 0, none⟩ = some (kidV k0) := by rw [hcell 0 (by simp)]; rfl
            have hvl : 0 < f.vars.length := by rw [hvs]; simp
            rw [vars_bytes] at hr1
            obtain ⟨g1, cap1, rfl, hcap1, hcm1, _, hglt1, hcelv⟩ := row_open hr1 hvl
            have hcx : wc.cell? ⟨g1, 0, none⟩ = some (.int .u8 ((vb v).toNat : Nat)) := by rw [hcelv 0 hvl, hvs]; rfl
            have hpk := hts.2 0 p k0 (by rw [hps]; rfl) rfl
            have hmem : p ∈ f.parts := by rw [hps]; simp
            have hsz := Fm.size_parts hmem
            have hcall := Ih.out p k0 S wc (by omega) hpk (by have := part_text_le hmem; omega)
            have hvl1 : f.vars.length = 1 := by rw [hvs]; rfl
            rw [hvl1] at hc1
            have Hcall := Lib.hid hcall
            have Hc1 := Lib.hid hc1
            have Hcx := Lib.hid hcx
            have Hfe := Lib.hid hfe
            have hlbc := World.block_lt_of_cell? wc _ hc1
            have Hlb := Lib.hid hlbc
            clear hcall hfe hps hvs hk0 hcell hr hr1 hts hpk hmem hsz hcelv hcap hcm hcap1 hcm1 hglt hvl ht2 h50 h51 h52 hvl1 hc1 hcx hlbc
            go_wp2_with fail
            refine (Hcall.out).mono ?_
            rintro e w1 ⟨hsp, hb1⟩
            rcases hsp with ⟨q, hq, hql, rfl⟩ | ⟨hno, t, hts, rfl⟩
            · have Hq := Lib.hid hq
              have hqs : (bs q.text).size ≤ 4000 := by rw [bs_size]; exact hql
              have Hql := Lib.hid hql
              have Hb1 := Lib.hid hb1
              clear hq hql hb1 hc0 hc2 hcell0
              go_wp2_with fail
              refine (parseFormula_yes (bs q.text) q _ hqs rfl).mono ?_
              rintro e w2 ⟨b2, rfl, htr, hb2⟩
              have Hb2 := Lib.hid (Hb1.out.trans (hb2.mono Hb1.out.size))
              have hd1 : w2.cell? ⟨b, 1, none⟩ = some (.slice (some ⟨g1, 0, none⟩) 1 cap1) := (Hb2.out.cell Hlb.out).trans Hc1.out
              have hdx : w2.cell? ⟨g1, 0, none⟩ = some (.int .u8 ((vb v).toNat : Nat)) := (Hb2.out.cell (World.block_lt_of_cell? wc _ Hcx.out)).trans Hcx.out
              obtain ⟨ks2, vsq, psq, hq0, hq1, hq2, hq3, hq4, _, _, _⟩ := node_cells htr
              have Htr := Lib.hid htr
              have hbits := fresh_bits q v
              have hvt : ∀ W, Calls Tryd.prog 39 #[.int .i64 ((15 &&& (15 ^^^ (q.allBits ||| 1 <<< v.val)) : Nat) : Int)] W fun e w' => e = .returned (.string (bs (varsL (15 &&& (15 ^^^ (q.allBits ||| 1 <<< v.val))) 4))) ∧ W = w' := fun W => varsText_calls _ (by exact fresh_lt _) W
              have Hvt := Lib.hid hvt
              have hfr := fresh_vars ⟨q.allBits, allBits_lt q⟩ v
              have Hfr := Lib.hid hfr
              have Hbits := Lib.hid hbits
              have hv3 : (v.val : Int) < 4 := by omega
              have hvb1 : ((vb v).toNat : Int) = 97 + (v.val : Int) := vb_int v
              clear htr hb2 hvt hfr hq0 hq1 hq2 hq3 hbits
              go_wp2_with fail
              rw [Hbits.out]
              refine (Hvt.out _).mono ?_
              rintro e w' ⟨rfl, rfl⟩
              rcases Hfr.out with ⟨hz, hfn⟩ | ⟨u, hfu, r, hz⟩
              · have hz : varsL (15 &&& (15 ^^^ (q.allBits ||| 1 <<< v.val))) 4 = [] := hz
                rw [hz, show bs [] = (⟨#[]⟩ : ByteArray) from rfl]
                have Hfn := Lib.hid hfn
                clear hz hfn
                go_wp2_with fail
                go_ret2
                refine ⟨.inr ⟨fun g' hg => ?_, ⟨#[]⟩, by decide, rfl⟩, Hbc.out.trans (Hb2.out.mono Hbc.out.size)⟩
                rw [Hfe.out, two_spell Hq.out, Hfn.out] at hg
                cases hg
              · have hz : varsL (15 &&& (15 ^^^ (q.allBits ||| 1 <<< v.val))) 4 = vb u :: r := hz
                have hvn := varsL_len (15 &&& (15 ^^^ (q.allBits ||| 1 <<< v.val))) 4
                rw [hz] at hvn ⊢
                have Hfu := Lib.hid hfu
                obtain ⟨F, hF⟩ : ∃ F, F = bs (vb u :: r) := ⟨_, rfl⟩
                have hFs : 0 < F.size := by rw [hF, bs_size]; simp
                have hF4 : F.size ≤ 4 := by rw [hF, bs_size]; exact hvn
                obtain ⟨hce, hce2⟩ := empty_facts hFs
                have hx1 : F.extract 0 1 = bs [vb u] := by rw [hF]; exact eq_bs (by rw [Lib.extract_data]; rfl)
                rw [← hF]
                clear hz hfu hF hvn
                have hcv : (convert 22 9 (.slice (some ⟨w2.heap.size, 0, none⟩) 1 1)).run Tryd.prog (w2.alloc (.cells #[.int .u8 (97 + (v.val : Int))] 5)) = .ok (.string (bs [vb v])) (w2.alloc (.cells #[.int .u8 (97 + (v.val : Int))] 5)) := by
                  rw [← vb_int v]
                  exact conv_row (w := w2.alloc (.cells #[.int .u8 ((vb v).toNat : Int)] 5)) (base := 0) (n := 1) (new_byte w2 (vb v))
                have hrp := fun W hb => replace_calls v u q.size q b2 (fun g => w1.heap.size ≤ g) W (Nat.le_refl _) (TreeIn.world (w' := W) Htr.out hb) Hql.out
                rw [vb_int v] at hrp
                have Hrp := Lib.hid hrp
                have hs1 : (bs [vb v]).size = 1 := by rw [bs_size]; rfl
                have hs3 : (bs [vb u]).size = 1 := by rw [bs_size]; rfl
                have hix : ∃ h : 0 < (bs [vb u]).size, (((bs [vb u])[0]'h).toNat : Int) = ((vb u).toNat : Int) := ⟨by rw [hs3]; decide, rfl⟩
                obtain ⟨hi0, hix⟩ := hix
                have hrl := repl_len v u q
                have hrs : (bs (q.repl v u).text).size ≤ 4000 := by rw [bs_size, hrl]; exact Hql.out
                clear hrp
                go_wp2_with (go_at_call 50; refine (Hrp.out _ ((Below.refl _ _).alloc (Nat.le_refl _) _)).mono ?_; rintro e w3 ⟨rfl, hb3⟩)
                go_ret2
                refine ⟨spell_at (g := .qu .S v (.qu .S u (.con (.neg (.eq v u)) (.con q (q.repl v u))))) (by rw [Hfe.out, two_spell Hq.out, Hfu.out]) ?_ ?_ ?_, Hbc.out.trans ((Hb2.out.trans (((Below.refl _ _).alloc (Nat.le_refl _) _).trans (hb3.mono (by simp)) |>.mono Hb2.out.size)).mono Hbc.out.size)⟩
                · refine (eq_bs ?_)
                  rw [two_text]
                  simp [bs_data]
                · rw [bs_size, bs_size, two_text]
                  simp
                  omega
                · rw [two_text]
                  have := Hql.out
                  simp
                  omega
            · have Hno := Lib.hid hno
              clear hno hcell0
              go_wp2_with fail
              go_ret2
              refine ⟨.inr ⟨fun g' hg => ?_, ⟨#[]⟩, by decide, rfl⟩, Hbc.out.trans (hb1.mono Hbc.out.size)⟩
              rw [Hfe.out] at hg
              cases hps : p.spell with
              | none => rw [two_none hps] at hg; cases hg
              | some q =>
                have h1 := Hno.out q hps
                have h2 := two_le hps hg
                omega
          · have e50 : ((f.op.toNat : Int) == 50) = false := op_ne h50
            have n50 : ((f.op.toNat : Int) != 50) = true := by rw [bne, e50]; rfl
            have e51 : ((f.op.toNat : Int) == 51) = false := op_ne h51
            have e52 : ((f.op.toNat : Int) == 52) = false := op_ne h52
            obtain ⟨a, cap, rfl, hkl, hrow⟩ := row_slice hr
            have hkl2 : ks.length = f.parts.length := hts.1
            have hp2 := parts_le f
            have hkl3 : ks.length ≤ 2 := by omega
            have Hrow := Lib.hid hrow
            have Hts := Lib.hid hts
            have Hkl := Lib.hid hkl2
            have H50 := Lib.hid h50
            have H51 := Lib.hid h51
            have H52 := Lib.hid h52
            clear hrow hts hkl hkl2 hr ht2 h50 h51 h52 hr1 hc1
            go_wp2_with fail
            go_loopg [4, 50] ks.length (fun c o i wr => ∃ k : Nat, k + c = ks.length ∧ i = .int .i64 k ∧ o = .string (bs (headT f f.headL spT k)) ∧ (headT f f.headL spT k).length ≤ 3 + 4000 * k ∧ (∀ j (hj : j < f.parts.length), j < k → ∃ q, f.parts[j].spell = some q) ∧ Below wc.heap.size wc wr)
            case atStart => exact ⟨0, by omega, rfl, by rw [headT_zero], by rw [headT_zero]; have := head_len f; omega, fun j _ hj => by omega, Below.refl _ _⟩
            case round =>
              obtain ⟨k, hk, rfl, rfl, hlen, hall, hbr⟩ := hrel
              have Hbr := Lib.hid hbr
              have Hall := Lib.hid hall
              clear hbr hall
              by_cases hlt : k < ks.length
              · obtain ⟨g, rfl, hcell⟩ := Hrow.out k hlt
                have hkf : k < f.parts.length := by rw [← Hkl.out]; exact hlt
                have hcell1 : wc.cell? ⟨g, k, none⟩ = some (kidV ks[k]) := by rw [hcell, List.getElem?_map, List.getElem?_eq_getElem hlt]; rfl
                have hcell2 : wr.cell? ⟨g, k, none⟩ = some (kidV ks[k]) := (Hbr.out.cell (World.block_lt_of_cell? wc _ hcell1)).trans hcell1
                have hpk := (Hts.out.world Hbr.out).2 k f.parts[k] ks[k] (List.getElem?_eq_getElem hkf) (List.getElem?_eq_getElem hlt)
                have hmem : f.parts[k] ∈ f.parts := List.getElem_mem hkf
                have hsz := Fm.size_parts hmem
                have hcall := Ih.out f.parts[k] ks[k] S wr (by omega) hpk (by have := part_text_le hmem; omega)
                have Hcall := Lib.hid hcall
                have Hmem := Lib.hid hmem
                have hs2 : (bs (headT f f.headL spT k)).size ≤ 3 + 2 * 4000 := by rw [bs_size]; omega
                have Hlen := Lib.hid hlen
                clear hcell hcell1 hpk hmem hsz hcall hlen
                go_wp2_with fail
                refine (Hcall.out).mono ?_
                rintro e w2 ⟨hsp, hb2⟩
                rcases hsp with ⟨q, hq, hql, rfl⟩ | ⟨hno, t, hts, rfl⟩
                · have hqs : (bs q.text).size ≤ 4000 := by rw [bs_size]; exact hql
                  have Hq := Lib.hid hq
                  have Hb2 := Lib.hid hb2
                  have Hql := Lib.hid hql
                  clear hcell2 hq hb2 hql
                  go_wp2_with fail
                  go_roundg (gk - 1)
                  case rel =>
                    have hsnoc := headT_succ f f.headL spT k hkf
                    rw [spT_some Hq.out] at hsnoc
                    refine ⟨k + 1, by omega, by go_num, str_eq (by rw [append_bs, hsnoc, bs_data, bs_data]), by rw [hsnoc, List.length_append]; have := Hlen.out; have := Hql.out; omega, fun j hj hjk => ?_, Hbr.out.trans (Hb2.out.mono Hbr.out.size)⟩
                    by_cases e : j = k
                    · subst e; exact ⟨q, Hq.out⟩
                    · exact Hall.out j hj (by omega)
                  case measure => omega
                · have Hno := Lib.hid hno
                  clear hno
                  go_wp2_with fail
                  go_ret2
                  refine ⟨.inr ⟨fun g hg => ?_, ⟨#[]⟩, by decide, rfl⟩, Hbc.out.trans ((Hbr.out.trans (hb2.mono Hbr.out.size)).mono Hbc.out.size)⟩
                  cases hps : f.parts[k].spell with
                  | none => rw [spell_no H50.out H51.out H52.out Hmem.out hps] at hg; cases hg
                  | some q =>
                    have h1 := Hno.out q hps
                    have h2 := spell_part_le H50.out H51.out H52.out Hmem.out hg hps
                    omega
              · have hk2 : k = ks.length := by omega
                have htk := headT_all f f.headL spT k (by rw [hk2, Hkl.out]; exact Nat.le_refl _)
                obtain ⟨g, hg, hgt⟩ := spell_yes H50.out H51.out H52.out fun p hp => by
                  obtain ⟨j, hj, rfl⟩ := List.getElem_of_mem hp
                  exact Hall.out j hj (by rw [hk2, Hkl.out]; exact hj)
                have hs2 : (bs (headT f f.headL spT k)).size ≤ 3 + 2 * 4000 := by rw [bs_size]; omega
                rw [htk, ← hgt] at hs2 ⊢
                have Hg := Lib.hid hg
                clear htk hk2 hgt hlen hg
                go_wp2_with fail
                go_ret2
                exact ⟨spell_end Hg.out (by rw [bs_size] at hs2; omega), Hbc.out.trans (Hbr.out.mono Hbc.out.size)⟩
end Go.Proofs.YtpaleogkgfclnaaDoor

namespace Go.Proofs.YtpaleogkgfclnaaDoor
open Go.RowKit
open Pl
set_option linter.unusedSimpArgs false
set_option linter.unusedVariables false

set_option maxHeartbeats 4000000 in
set_option maxRecDepth 100000 in
theorem SpellCounts_spec (s : ByteArray) (w : World) (hs2 : s.size ≤ maxLen) :
    Calls Tryd.prog 8 #[.string s] w fun e w' => e = .returned (.tuple #[.string (optV s.data.toList spellO).1, .bool (optV s.data.toList spellO).2]) ∧ Below w.heap.size w w' := by
  rcases fm_cases s with ⟨hb, hno⟩ | ⟨f, hb, hf, hs4, hl4⟩
  · rw [optV_no spellO hno]
    have Hb := Lib.hid hb
    clear hb hno
    go_enter Tryd.func8, Tryd.ntmps8
    go_wp2_with (go_at_call 32; refine (FormulaValid_spec s _ hs2).mono ?_; rintro e w' ⟨rfl, rfl⟩; rw [Hb.out])
    go_ret2
    exact ⟨rfl, Below.refl _ _⟩
  · obtain ⟨V, hV⟩ : ∃ V, V = optV s.data.toList spellO := ⟨_, rfl⟩
    rw [← hV]
    have HV := Lib.hid hV
    clear hV
    have hcall := fun W => l2Spells_calls f.size f s 0 [] 0 W (Nat.le_refl _) (by simpa using hf) hs4 rfl
    have Hcall := Lib.hid hcall
    have Hb := Lib.hid hb
    have Hf := Lib.hid hf
    clear hcall hb hf
    go_enter Tryd.func8, Tryd.ntmps8
    go_wp2_with fail
    refine (FormulaValid_spec s _ hs2).mono ?_
    rintro e w' ⟨rfl, rfl⟩
    rw [Hb.out]
    go_wp2_with fail
    refine (Hcall.out _).mono ?_
    rintro e w1 ⟨⟨t, ok, rfl, hsp⟩, hb1⟩
    have ht : t.size ≤ 400000000 := by have := hsp.1; omega
    cases ok with
    | false =>
      have HVAL := Lib.hid (HV.out.trans (optV_none spellO Hf.out (by rw [Hf.out]; exact hl4) (by unfold spellO; rw [hsp.2.2 rfl]; rfl)))
      clear hsp
      go_wp2_with fail
      go_ret2
      exact ⟨by rw [HVAL.out]; rfl, hb1⟩
    | true =>
      obtain ⟨g, hg, rfl⟩ := hsp.2.1 rfl
      have hsz : (bs g.text).size = g.text.length := bs_size _
      clear hsp
      by_cases hlen : g.text.length ≤ 4000
      · have HVAL := Lib.hid (HV.out.trans (optV_yes spellO Hf.out (by rw [Hf.out]; exact hl4) (show spellO f = some g.text by unfold spellO; rw [hg]; rfl) hlen))
        have hsz2 : (bs g.text).size ≤ 4000 := by omega
        clear hsz hlen hg
        go_wp2_with fail
        go_ret2
        exact ⟨by rw [HVAL.out]; rfl, hb1⟩
      · have HVAL := Lib.hid (HV.out.trans (optV_long spellO Hf.out (by rw [Hf.out]; exact hl4) (show spellO f = some g.text by unfold spellO; rw [hg]; rfl) (by omega)))
        have hsz2 : 4000 < (bs g.text).size := by omega
        clear hsz hlen hg
        go_wp2_with fail
        go_ret2
        exact ⟨by rw [HVAL.out]; rfl, hb1⟩

set_option maxHeartbeats 4000000 in
set_option maxRecDepth 100000 in
theorem SpellCounts_impl (s : ByteArray) (w : World) :
    Calls Tryd.prog 7 #[.string s] w fun e w' => e = .returned (.tuple #[.string (optV s.data.toList spellO).1, .bool (optV s.data.toList spellO).2]) ∧ Below w.heap.size w w' := by
  rcases fm_cases s with ⟨hb, hno⟩ | ⟨f, hb, hf, hs4, hl4⟩
  · rw [optV_no spellO hno]
    have Hno := Lib.hid hno
    clear hb hno
    go_enter Tryd.func7, Tryd.ntmps7
    go_wp2_with (go_at_call 29; refine (parseFormula_no s w Hno.out).mono ?_; rintro e w1 ⟨rfl, hb1⟩)
    go_ret2
    exact ⟨rfl, hb1⟩
  · obtain ⟨V, hV⟩ : ∃ V, V = optV s.data.toList spellO := ⟨_, rfl⟩
    rw [← hV]
    have HV := Lib.hid hV
    clear hV
    have Hf := Lib.hid hf
    have hl5 : s.data.toList.length ≤ 4000 := by rw [hf]; exact hl4
    clear hb hf
    go_enter Tryd.func7, Tryd.ntmps7
    go_wp2_with fail
    refine (parseFormula_yes s f w hs4 Hf.out).mono ?_
    rintro e w1 ⟨b, rfl, htr, hb1⟩
    have Htr := Lib.hid htr
    clear htr
    go_wp2_with fail
    refine (spell_calls f.size f b _ _ (Nat.le_refl _) Htr.out hl4).mono ?_
    rintro e w2 ⟨hsp, hb2⟩
    rcases hsp with ⟨g, hg, hgl, rfl⟩ | ⟨hno, t, hts, rfl⟩
    · have HVAL := Lib.hid (HV.out.trans (optV_yes spellO Hf.out hl5 (show spellO f = some g.text by unfold spellO; rw [hg]; rfl) hgl))
      have hsz2 : (bs g.text).size ≤ 4000 := by rw [bs_size]; exact hgl
      clear hg hgl
      go_wp2_with (go_at_call 31; refine (shortFormula_yes _ _ hsz2).mono ?_; rintro e w3 ⟨rfl, rfl⟩)
      go_ret2
      exact ⟨by rw [HVAL.out]; rfl, hb1.trans (hb2.mono hb1.size)⟩
    · have hval : optV s.data.toList spellO = (bs [], false) := by
        cases hg : f.spell with
        | none => exact optV_none spellO Hf.out hl5 (by unfold spellO; rw [hg]; rfl)
        | some g => exact optV_long spellO Hf.out hl5 (show spellO f = some g.text by unfold spellO; rw [hg]; rfl) (hno g hg)
      have HVAL := Lib.hid (HV.out.trans hval)
      clear hno hval
      go_wp2_with (go_at_call 31; refine (shortFormula_no _ _ _ (fun e => by cases e)).mono ?_; rintro e w3 ⟨rfl, rfl⟩)
      go_ret2
      exact ⟨by rw [HVAL.out]; rfl, hb1.trans (hb2.mono hb1.size)⟩

end Go.Proofs.YtpaleogkgfclnaaDoor

namespace Go.Proofs.YtpaleogkgfclnaaDoor
open Go.ChangeMaps
set_option linter.unusedSimpArgs false
set_option linter.unusedVariables false

/-- keys of which it can be told whether they are the same -/
structure MKey (P : Program) (w : World) (k : TypeId) (S : Value → Prop) : Prop where
  check : ∀ (em : Bool) {v : Value}, S v → (Instr.checkKey em 10000 k v).run P w = .ok () w
  find : ∀ {x : Value}, S x → ∀ es : List MapEntry, (∀ e ∈ es, S e.key) →
    ((Instr.findKey k x es).run P w = .ok none w ∧ ∀ e ∈ es, e.key ≠ x) ∨ ∃ j e, (Instr.findKey k x es).run P w = .ok (some (j, e.val)) w ∧ es[j]? = some e ∧ e.key = x
  stays : ∀ {v : Value}, S v → (Instr.keyThatStays v v).run P w = .ok v w

/-- numbers as keys -/
def IKey (v : Value) : Prop := ∃ n : Nat, v = .int .i64 (n : Nat) ∧ n < 4096
/-- addresses of blocks as keys -/
def PKey (w : World) (v : Value) : Prop := ∃ b c t, v = .pointer (some ⟨b, 0, none⟩) ∧ w.heap[b]? = some (.cells c t (0, 0))

theorem ikey {P : Program} {w : World} {k : TypeId} (hk : P.underlying k = some (.int .i64)) : MKey P w k IKey := by
  have K := Maps.int_keyed hk
  have key : ∀ {v}, IKey v → ∃ l, keyOf P k v = some l := fun {v} ⟨n, hv, hn⟩ => by
    refine ⟨_, hv ▸ Maps.keyOf_int_mk hk (a := (n : Int)) ?_⟩
    simp [Lit.wf, IntKind.min, IntKind.max, IntKind.signed, IntKind.bits]
    omega
  exact ⟨fun em v h => by obtain ⟨l, hl⟩ := key h; exact K.check w em hl, fun {x} h es hes => by
    obtain ⟨l, hl⟩ := key h
    exact K.find w hl es fun e he => key (hes e he), fun {v} h => by obtain ⟨l, hl⟩ := key h; exact K.stays w hl⟩

theorem eq_ptr {P : Program} {w : World} {k e : TypeId} {j : TypeInfo} (hk : P.underlying k = some (.pointer e)) (he : P.info? e = some j) (hsz : j.size ≠ 0) {x y : Value} (hx : PKey w x) (hy : PKey w y) :
    ∃ r : Bool, (Op.equal k x y).run P w = .ok r w ∧ (r = true ↔ x = y) := by
  obtain ⟨a, ca, ta, rfl, ha⟩ := hx
  obtain ⟨b, cb, tb, rfl, hb⟩ := hy
  by_cases hab : a = b
  · subst hab
    refine ⟨true, ?_, by simp⟩
    have h : ∀ d : Nat, (Op.equalIn (d + 1) k (.pointer (some ⟨a, 0, none⟩)) (.pointer (some ⟨a, 0, none⟩))).run P w = .ok true w := fun d => by
      simp [Op.equalIn, run_underlying hk, sizeOf, typeInfo, he, run_sameAddr_same]
    simp only [Op.equal, Op.maxDepth]
    exact h 9999
  · refine ⟨false, ?_, by simp [hab]⟩
    have h := run_sameAddr_other (P := P) w (a := ⟨a, 0, none⟩) (b := ⟨b, 0, none⟩) (by simp [hab]) ha hb
    have h2 : ∀ d : Nat, (Op.equalIn (d + 1) k (.pointer (some ⟨a, 0, none⟩)) (.pointer (some ⟨b, 0, none⟩))).run P w = .ok false w := fun d => by
      simp [Op.equalIn, run_underlying hk, sizeOf, typeInfo, he, hsz, h]
    simp only [Op.equal, Op.maxDepth]
    exact h2 9999

theorem find_ptr {P : Program} {w : World} {k e : TypeId} {j : TypeInfo} (hk : P.underlying k = some (.pointer e)) (he : P.info? e = some j) (hsz : j.size ≠ 0) {x : Value} (hx : PKey w x) : ∀ (es : List MapEntry) (i : Nat), (∀ e ∈ es, PKey w e.key) →
    ((Instr.findAsking k x es i).run P w = .ok none w ∧ ∀ e ∈ es, e.key ≠ x) ∨ ∃ j e, (Instr.findAsking k x es i).run P w = .ok (some (i + j, e.val)) w ∧ es[j]? = some e ∧ e.key = x
  | [], i, _ => .inl ⟨by simp [Instr.findAsking], by simp⟩
  | y :: es, i, hall => by
    obtain ⟨r, hr, hiff⟩ := eq_ptr hk he hsz hx (hall y (by simp))
    cases r with
    | false =>
      have hne : y.key ≠ x := fun h => by have := hiff.2 h.symm; cases this
      rcases find_ptr hk he hsz hx es (i + 1) (fun z hz => hall z (by simp [hz])) with ⟨h1, h2⟩ | ⟨j, e', h1, h2, h3⟩
      · refine .inl ⟨by simp [Instr.findAsking, hr, h1], fun z hz => ?_⟩
        rcases List.mem_cons.1 hz with rfl | hz
        · exact hne
        · exact h2 z hz
      · exact .inr ⟨j + 1, e', by simp [Instr.findAsking, hr, h1, Nat.add_assoc, Nat.add_comm 1 j], by simpa using h2, h3⟩
    | true => exact .inr ⟨0, y, by simp [Instr.findAsking, hr], rfl, (hiff.1 rfl).symm⟩

theorem findNow_ptr {d : TypeId} {x : Value} : ∀ (es : List MapEntry) (i : Nat), Instr.findNow (.pointer d) x es i = if es = [] then some none else none
  | [], i => rfl
  | y :: es, i => by simp [Instr.findNow, Instr.sameNow]

theorem pkey {P : Program} {w : World} {k e : TypeId} {j : TypeInfo} (hk : P.underlying k = some (.pointer e)) (he : P.info? e = some j) (hsz : j.size ≠ 0) : MKey P w k (PKey w) := by
  refine ⟨fun em v ⟨b, c, t, hv, _⟩ => ?_, fun {x} hx es hes => ?_, fun {v} ⟨b, c, t, hv, _⟩ => ?_⟩
  · subst hv
    have h : ∀ n : Nat, (Instr.checkKey em (n + 1) k (.pointer (some ⟨b, 0, none⟩))).run P w = .ok () w := fun n => by
      simp [Instr.checkKey, run_underlying hk]
    exact h 9999
  · cases es with
    | nil => exact .inl ⟨by simp [Instr.findKey, run_underlying hk, findNow_ptr], by simp⟩
    | cons y es =>
      have hf : (Instr.findKey k x (y :: es)).run P w = (Instr.findAsking k x (y :: es)).run P w := by simp [Instr.findKey, run_underlying hk, findNow_ptr]
      rw [hf]
      rcases find_ptr hk he hsz hx (y :: es) 0 hes with h | ⟨j, e', h1, h2, h3⟩
      · exact .inl h
      · exact .inr ⟨j, e', by simpa using h1, h2, h3⟩
  · subst hv
    have h : ∀ n : Nat, Instr.sameBits (n + 1) (.pointer (some ⟨b, 0, none⟩)) (.pointer (some ⟨b, 0, none⟩)) = true := fun n => by
      simp [Instr.sameBits]
    simp only [Instr.keyThatStays, h 9999]
    simp

section
variable {P : Program} {w : World} {k t e : TypeId} {S : Value → Prop} {b : Nat} {es : Array MapEntry} {clock : Nat} {key : Value}

theorem mlook (c : Bool) (K : MKey P w k S) (ht : P.underlying t = some (.map k e)) {z : Value} (hz : (zeroValue e).run P w = .ok z w) (hb : w.heap[b]? = some (.map es clock)) (hS : ∀ x ∈ es.toList, S x.key) (hkey : S key) :
    ((Instr.lookup t (.map (some b)) key c).run P w = .ok (if c then .tuple #[z, .bool false] else z) w ∧ ∀ x ∈ es.toList, x.key ≠ key) ∨
    ∃ e0, e0 ∈ es.toList ∧ e0.key = key ∧ (Instr.lookup t (.map (some b)) key c).run P w = .ok (if c then .tuple #[e0.val, .bool true] else e0.val) w := by
  rcases K.find hkey es.toList hS with ⟨h1, h2⟩ | ⟨j, e0, h1, h2, h3⟩
  · exact .inl ⟨by simp [Instr.lookup, run_underlying ht, MapKept.run_getObj_map hb, K.check _ hkey, h1, hz, Result.andThen], h2⟩
  · exact .inr ⟨e0, List.mem_of_getElem? h2, h3, by simp [Instr.lookup, run_underlying ht, MapKept.run_getObj_map hb, K.check _ hkey, h1, Result.andThen]⟩

theorem mlook_nil (c : Bool) (K : MKey P w k S) (ht : P.underlying t = some (.map k e)) {z : Value} (hz : (zeroValue e).run P w = .ok z w) (hkey : S key) :
    (Instr.lookup t (.map none) key c).run P w = .ok (if c then .tuple #[z, .bool false] else z) w := by
  rcases K.find hkey [] (by simp) with ⟨h1, h2⟩ | ⟨j, e0, h1, h2, h3⟩
  · simp [Instr.lookup, run_underlying ht, K.check _ hkey, h1, hz, Result.andThen]
  · simp at h2

theorem mput (K : MKey P w k S) (ht : P.underlying t = some (.map k e)) (hb : w.heap[b]? = some (.map es clock)) (hS : ∀ x ∈ es.toList, S x.key) (hkey : S key) (val : Value) :
    ∃ es' clock', (Instr.mapUpdate t (.map (some b)) key val).run P w = .ok () (setBlock w b (.map es' clock')) ∧ (∀ x ∈ es'.toList, (x ∈ es.toList ∧ (x.key ≠ key ∨ ∃ y ∈ es'.toList, y.key = key ∧ y.val = val)) ∨ (x.key = key ∧ x.val = val)) ∧ ∃ x ∈ es'.toList, x.key = key ∧ x.val = val := by
  rcases K.find hkey es.toList hS with ⟨h1, h2⟩ | ⟨j, e0, h1, h2, h3⟩
  · refine ⟨es.push ⟨key, val, clock⟩, clock + 1, ?_, ?_, ⟨⟨key, val, clock⟩, by simp, rfl, rfl⟩⟩
    · simp [Instr.mapUpdate, run_underlying ht, MapKept.run_getObj_map hb, K.check false hkey, h1, MapKept.run_setObj_map _ hb, Result.andThen, setBlock]
    · intro x hx
      simp only [Array.toList_push, List.mem_append, List.mem_singleton] at hx
      rcases hx with hx | rfl
      · exact .inl ⟨hx, .inl (h2 x hx)⟩
      · exact .inr ⟨rfl, rfl⟩
  · have hj : es[j]? = some e0 := by simpa using h2
    have hkey2 : (((es[j]?).map (·.key)).getD key) = key := by rw [hj]; exact h3
    have hst := K.stays (v := key) hkey
    have hlt : j < es.size := (Array.getElem?_eq_some_iff.1 hj).1
    have hnew : ({ e0 with key := key, val := val } : MapEntry) ∈ (es.modify j fun x => { x with key, val := val }).toList := by
      have h : (es.modify j fun x => { x with key, val := val })[j]? = some { e0 with key := key, val := val } := by
        simp [Array.getElem?_modify, hj]
      exact Array.mem_toList_iff.2 (Array.mem_of_getElem? h)
    refine ⟨es.modify j fun x => { x with key, val := val }, clock, ?_, ?_, ⟨_, hnew, rfl, rfl⟩⟩
    · simp [Instr.mapUpdate, run_underlying ht, MapKept.run_getObj_map hb, K.check false hkey, h1, MapKept.run_setObj_map _ hb, Result.andThen, setBlock, hj, h3, hst]
    · intro x hx
      obtain ⟨i, hi, rfl⟩ := List.getElem_of_mem hx
      simp only [Array.getElem_toList, Array.getElem_modify]
      split
      · exact .inr ⟨rfl, rfl⟩
      · exact .inl ⟨by simp, .inr ⟨_, hnew, rfl, rfl⟩⟩

end

end Go.Proofs.YtpaleogkgfclnaaDoor

namespace Go.Proofs.YtpaleogkgfclnaaDoor
namespace Pl
set_option linter.unusedVariables false

theorem nodup_len_le {α : Type} [DecidableEq α] : ∀ (l m : List α), l.Nodup → (∀ x ∈ l, x ∈ m) → l.length ≤ m.length := by
  intro l
  induction l with
  | nil => intro m _ _; simp
  | cons x l ih =>
    intro m hnd hs
    obtain ⟨h1, h2⟩ := List.nodup_cons.1 hnd
    have hx := hs x (by simp)
    have h3 := ih (m.erase x) h2 (fun y hy => (List.mem_erase_of_ne (by rintro rfl; exact h1 hy)).2 (hs y (by simp [hy])))
    rw [List.length_erase_of_mem hx] at h3
    have : 0 < m.length := List.length_pos_of_mem hx
    simp only [List.length_cons]
    omega

theorem nodup_len_eq {α : Type} [DecidableEq α] {l m : List α} (hl : l.Nodup) (hm : m.Nodup) (h : ∀ x, x ∈ l ↔ x ∈ m) : l.length = m.length :=
  Nat.le_antisymm (nodup_len_le l m hl fun x hx => (h x).1 hx) (nodup_len_le m l hm fun x hx => (h x).2 hx)

/-- an order of all elements -/
structure IsPerm (n : Nat) (l : List Nat) : Prop where
  len : l.length = n
  nodup : l.Nodup
  lt : ∀ x ∈ l, x < n

def app (l : List Nat) (x : Nat) : Nat := l.getD x 0
def comp (l m : List Nat) : List Nat := m.map (app l)
def inv (l : List Nat) : List Nat := (List.range l.length).map fun y => l.idxOf y

theorem app_mem {l : List Nat} {x : Nat} (h : x < l.length) : app l x ∈ l := by
  unfold app
  simp only [List.getD_eq_getElem?_getD, List.getElem?_eq_getElem h, Option.getD_some]
  exact List.getElem_mem h

theorem IsPerm.app_lt {n : Nat} {l : List Nat} (h : IsPerm n l) {x : Nat} (hx : x < n) : app l x < n := h.lt _ (app_mem (by rw [h.len]; exact hx))

theorem IsPerm.mem {n : Nat} {l : List Nat} (h : IsPerm n l) {y : Nat} (hy : y < n) : y ∈ l := by
  rcases Classical.em (y ∈ l) with h1 | h1
  · exact h1
  · have h2 := nodup_len_le (y :: l) (List.range n) (List.nodup_cons.2 ⟨h1, h.nodup⟩) (fun x hx => by
      rcases List.mem_cons.1 hx with rfl | hx
      · exact List.mem_range.2 hy
      · exact List.mem_range.2 (h.lt x hx))
    have := h.len
    simp only [List.length_cons, List.length_range] at h2
    omega

theorem IsPerm.inj {n : Nat} {l : List Nat} (h : IsPerm n l) {x y : Nat} (hx : x < n) (hy : y < n) (e : app l x = app l y) : x = y := by
  unfold app at e
  have h1 := h.len
  simp only [List.getD_eq_getElem?_getD, List.getElem?_eq_getElem (show x < l.length by omega), List.getElem?_eq_getElem (show y < l.length by omega), Option.getD_some] at e
  have hp := List.pairwise_iff_getElem.1 h.nodup
  rcases Nat.lt_trichotomy x y with hlt | heq | hlt
  · exact absurd e (hp x y (by omega) (by omega) hlt)
  · exact heq
  · exact absurd e.symm (hp y x (by omega) (by omega) hlt)

theorem app_comp {l m : List Nat} {x : Nat} (h : x < m.length) : app (comp l m) x = app l (app m x) := by
  unfold app comp
  simp [List.getD, h, app]

theorem app_ext {n : Nat} {l m : List Nat} (h1 : l.length = n) (h2 : m.length = n) (h : ∀ x, x < n → app l x = app m x) : l = m := by
  apply List.ext_getElem (by omega)
  intro i hi hi2
  have := h i (by omega)
  unfold app at this
  simpa [List.getD, hi, hi2] using this

theorem app_idx {l : List Nat} {y : Nat} (h : y ∈ l) : l.idxOf y < l.length ∧ app l (l.idxOf y) = y := by
  have h1 := List.idxOf_lt_length_of_mem h
  refine ⟨h1, ?_⟩
  unfold app
  simp [List.getD, h1]

theorem len_comp (l m : List Nat) : (comp l m).length = m.length := by simp [comp]
theorem len_inv (l : List Nat) : (inv l).length = l.length := by simp [inv]

theorem app_inv {n : Nat} {l : List Nat} (h : IsPerm n l) {y : Nat} (hy : y < n) : app (inv l) y < n ∧ app l (app (inv l) y) = y := by
  have h1 := app_idx (h.mem hy)
  have e : app (inv l) y = l.idxOf y := by
    unfold app inv
    have := h.len
    simp [List.getD, show y < l.length by omega]
  rw [e, ← h.len]
  exact h1

theorem inv_app {n : Nat} {l : List Nat} (h : IsPerm n l) {x : Nat} (hx : x < n) : app (inv l) (app l x) = x := by
  have h1 := app_inv h (h.app_lt hx)
  exact h.inj h1.1 hx h1.2

theorem nodup_of_inj {n : Nat} {l : List Nat} (hl : l.length = n) (h : ∀ x y, x < n → y < n → app l x = app l y → x = y) : l.Nodup := by
  refine List.pairwise_iff_getElem.2 fun i j hi hj hij e => ?_
  have := h i j (by omega) (by omega) (by
    unfold app
    simp only [List.getD_eq_getElem?_getD, List.getElem?_eq_getElem hi, List.getElem?_eq_getElem hj, Option.getD_some, e])
  omega

theorem mem_app {l : List Nat} {y : Nat} (h : y ∈ l) : ∃ x, x < l.length ∧ app l x = y := ⟨_, app_idx h⟩

theorem IsPerm.of {n : Nat} {l : List Nat} (hl : l.length = n) (hlt : ∀ x, x < n → app l x < n) (h : ∀ x y, x < n → y < n → app l x = app l y → x = y) : IsPerm n l :=
  ⟨hl, nodup_of_inj hl h, fun y hy => by obtain ⟨x, hx, rfl⟩ := mem_app hy; exact hlt x (by omega)⟩

theorem IsPerm.comp {n : Nat} {l m : List Nat} (hl : IsPerm n l) (hm : IsPerm n m) : IsPerm n (comp l m) := by
  have e : ∀ x, x < n → app (Pl.comp l m) x = app l (app m x) := fun x hx => app_comp (by rw [hm.len]; exact hx)
  refine .of (by rw [len_comp, hm.len]) (fun x hx => ?_) (fun x y hx hy h => ?_)
  · rw [e x hx]; exact hl.app_lt (hm.app_lt hx)
  · rw [e x hx, e y hy] at h
    exact hm.inj hx hy (hl.inj (hm.app_lt hx) (hm.app_lt hy) h)

theorem IsPerm.inv {n : Nat} {l : List Nat} (hl : IsPerm n l) : IsPerm n (inv l) := by
  refine .of (by rw [len_inv, hl.len]) (fun x hx => (app_inv hl hx).1) (fun x y hx hy h => ?_)
  rw [← (app_inv hl hx).2, ← (app_inv hl hy).2, h]

theorem app_range {n x : Nat} (h : x < n) : app (List.range n) x = x := by
  unfold app; simp [List.getD, h]

theorem IsPerm.range (n : Nat) : IsPerm n (List.range n) := .of (by simp) (fun x hx => by rw [app_range hx]; exact hx) (fun x y hx hy h => by rwa [app_range hx, app_range hy] at h)

theorem comp_assoc {n : Nat} {l m k : List Nat} (hm : IsPerm n m) (hk : IsPerm n k) : comp (comp l m) k = comp l (comp m k) := by
  apply app_ext (n := n) (by rw [len_comp, hk.len]) (by rw [len_comp, len_comp, hk.len])
  intro x hx
  rw [app_comp (by rw [hk.len]; exact hx), app_comp (by rw [hm.len]; exact hk.app_lt hx), app_comp (by rw [len_comp, hk.len]; exact hx), app_comp (by rw [hk.len]; exact hx)]

theorem comp_inv {n : Nat} {l : List Nat} (h : IsPerm n l) : comp l (inv l) = List.range n := by
  apply app_ext (n := n) (by rw [len_comp, len_inv, h.len]) (by simp)
  intro x hx
  rw [app_comp (by rw [len_inv, h.len]; exact hx), (app_inv h hx).2, app_range hx]

theorem inv_comp {n : Nat} {l : List Nat} (h : IsPerm n l) : comp (inv l) l = List.range n := by
  apply app_ext (n := n) (by rw [len_comp, h.len]) (by simp)
  intro x hx
  rw [app_comp (by rw [h.len]; exact hx), inv_app h hx, app_range hx]

theorem comp_range {n : Nat} {l : List Nat} (h : IsPerm n l) : comp l (List.range n) = l := by
  apply app_ext (n := n) (by rw [len_comp]; simp) h.len
  intro x hx
  rw [app_comp (by simpa using hx), app_range hx]

theorem range_comp {n : Nat} {l : List Nat} (h : IsPerm n l) : comp (List.range n) l = l := by
  apply app_ext (n := n) (by rw [len_comp, h.len]) h.len
  intro x hx
  rw [app_comp (by rw [h.len]; exact hx), app_range (h.app_lt hx)]

theorem comp_left_inj {n : Nat} {g l m : List Nat} (hg : IsPerm n g) (hl : IsPerm n l) (hm : IsPerm n m) (e : comp g l = comp g m) : l = m := by
  have : comp (inv g) (comp g l) = comp (inv g) (comp g m) := by rw [e]
  rwa [← comp_assoc hg hl, ← comp_assoc hg hm, inv_comp hg, range_comp hl, range_comp hm] at this

/-- a group of orders -/
structure Grp (n : Nat) (G : List (List Nat)) : Prop where
  nodup : G.Nodup
  perm : ∀ l ∈ G, IsPerm n l
  one : List.range n ∈ G
  comp : ∀ l ∈ G, ∀ m ∈ G, Pl.comp l m ∈ G
  inv : ∀ l ∈ G, Pl.inv l ∈ G

theorem map_nodup {α β : Type} {f : α → β} : ∀ (l : List α), l.Nodup → (∀ x ∈ l, ∀ y ∈ l, f x = f y → x = y) → (l.map f).Nodup := by
  intro l
  induction l with
  | nil => intro _ _; simp
  | cons x l ih =>
    intro h hi
    obtain ⟨h1, h2⟩ := List.nodup_cons.1 h
    rw [List.map_cons, List.nodup_cons]
    refine ⟨fun hm => ?_, ih h2 (fun y hy z hz => hi y (by simp [hy]) z (by simp [hz]))⟩
    obtain ⟨y, hy, e⟩ := List.mem_map.1 hm
    have := hi y (by simp [hy]) x (by simp) e
    subst this
    exact h1 hy

theorem filter_len {α : Type} (p : α → Bool) : ∀ (l : List α), l.length = (l.filter p).length + (l.filter fun x => !p x).length := by
  intro l
  induction l with
  | nil => rfl
  | cons x l ih =>
    cases h : p x <;> simp [h] <;> omega

theorem cosets {n : Nat} {H : List (List Nat)} (hH : Grp n H) : ∀ (k : Nat) (S : List (List Nat)), S.length ≤ k → S.Nodup → (∀ g ∈ S, IsPerm n g) → (∀ g ∈ S, ∀ h ∈ H, comp g h ∈ S) → H.length ∣ S.length := by
  intro k
  induction k with
  | zero =>
    intro S hk _ _ _
    rw [Nat.le_zero.1 hk]
    exact Nat.dvd_zero _
  | succ k ih =>
    intro S hk hnd hp hc
    match S, hk, hnd, hp, hc with
    | [], _, _, _, _ => exact Nat.dvd_zero _
    | g :: S0, hk, hnd, hp, hc =>
      generalize hS : g :: S0 = S at *
      have hg : g ∈ S := by rw [← hS]; simp
      have hC : (H.map (comp g)).Nodup := map_nodup H hH.nodup fun x hx y hy e => comp_left_inj (hp g hg) (hH.perm x hx) (hH.perm y hy) e
      have hlen : (S.filter fun l => decide (l ∈ H.map (comp g))).length = H.length := by
        rw [show H.length = (H.map (comp g)).length by simp]
        refine nodup_len_eq (hnd.filter _) hC fun x => ?_
        rw [List.mem_filter]
        constructor
        · rintro ⟨_, h⟩; simpa using h
        · intro h
          refine ⟨?_, by simpa using h⟩
          obtain ⟨y, hy, rfl⟩ := List.mem_map.1 h
          exact hc g hg y hy
      have hsum := filter_len (fun l => decide (l ∈ H.map (comp g))) S
      have hpos : 0 < H.length := List.length_pos_of_mem hH.one
      have := ih (S.filter fun l => !decide (l ∈ H.map (comp g))) (by omega) (hnd.filter _) (fun x hx => hp x (List.mem_filter.1 hx).1) (fun x hx h hh => by
        obtain ⟨h1, h2⟩ := List.mem_filter.1 hx
        refine List.mem_filter.2 ⟨hc x h1 h hh, ?_⟩
        simp only [Bool.not_eq_true', decide_eq_false_iff_not] at h2 ⊢
        intro hm
        apply h2
        obtain ⟨y, hy, e⟩ := List.mem_map.1 hm
        refine List.mem_map.2 ⟨comp y (inv h), hH.comp _ hy _ (hH.inv _ hh), ?_⟩
        rw [← comp_assoc (hH.perm y hy) (hH.perm h hh).inv, e, comp_assoc (hH.perm h hh) (hH.perm h hh).inv, comp_inv (hH.perm h hh), comp_range (hp x h1)])
      rw [hsum, hlen]
      exact Nat.dvd_add (Nat.dvd_refl _) this

theorem lagrange {n : Nat} {H G : List (List Nat)} (hH : Grp n H) (hG : Grp n G) (hs : ∀ l ∈ H, l ∈ G) : H.length ∣ G.length :=
  cosets hH G.length G (Nat.le_refl _) hG.nodup hG.perm fun g hg h hh => hG.comp g hg h (hs h hh)

theorem fibers {α : Type} (key : α → Nat) (s : Nat) : ∀ (O : List Nat), O.Nodup → ∀ (S : List α), (∀ g ∈ S, key g ∈ O) → (∀ y ∈ O, (S.filter fun g => key g == y).length = s) → S.length = O.length * s := by
  intro O
  induction O with
  | nil =>
    intro _ S h _
    match S, h with
    | [], _ => simp
    | g :: S, h => exact absurd (h g (by simp)) (by simp)
  | cons y O ih =>
    intro hnd S h hf
    obtain ⟨h1, h2⟩ := List.nodup_cons.1 hnd
    have hsum := filter_len (fun g => key g == y) S
    have h3 := ih h2 (S.filter fun g => !(key g == y)) (fun g hg => by
      obtain ⟨h4, h5⟩ := List.mem_filter.1 hg
      rcases List.mem_cons.1 (h g h4) with e | e
      · simp [e] at h5
      · exact e) (fun z hz => by
      rw [← hf z (by simp [hz]), List.filter_filter]
      congr 1
      apply List.filter_congr
      intro g _
      have hzy : z ≠ y := by rintro rfl; exact h1 hz
      by_cases e : key g = z
      · simp [e, hzy]
      · simp [e])
    rw [hsum, hf y (by simp), h3, List.length_cons, Nat.succ_mul]
    omega

/-- the elements to which a group moves one -/
def orbL (n : Nat) (G : List (List Nat)) (x : Nat) : List Nat := (List.range n).filter fun y => G.any fun l => app l x == y

theorem mem_orbL {n : Nat} {G : List (List Nat)} (hG : Grp n G) {x y : Nat} (hx : x < n) : y ∈ orbL n G x ↔ ∃ l ∈ G, app l x = y := by
  unfold orbL
  rw [List.mem_filter, List.mem_range, List.any_eq_true]
  constructor
  · rintro ⟨_, l, hl, e⟩; exact ⟨l, hl, by simpa using e⟩
  · rintro ⟨l, hl, e⟩; exact ⟨by rw [← e]; exact (hG.perm l hl).app_lt hx, l, hl, by simpa using e⟩

theorem orb_dvd {n : Nat} {G : List (List Nat)} (hG : Grp n G) {x : Nat} (hx : x < n) : (orbL n G x).length ∣ G.length := by
  have hf := fibers (fun l => app l x) (G.filter fun l => app l x == x).length (orbL n G x) (List.nodup_range.filter _) G (fun g hg => (mem_orbL hG hx).2 ⟨g, hg, rfl⟩) (fun y hy => by
    obtain ⟨s, hs, rfl⟩ := (mem_orbL hG hx).1 hy
    have hps := hG.perm s hs
    apply Nat.le_antisymm
    · rw [show (G.filter fun l => app l x == app s x).length = ((G.filter fun l => app l x == app s x).map (comp (inv s))).length by simp]
      refine nodup_len_le _ _ (map_nodup _ (hG.nodup.filter _) fun a ha b hb e => comp_left_inj hps.inv (hG.perm a (List.mem_filter.1 ha).1) (hG.perm b (List.mem_filter.1 hb).1) e) fun a ha => ?_
      obtain ⟨b, hb, rfl⟩ := List.mem_map.1 ha
      obtain ⟨h1, h2⟩ := List.mem_filter.1 hb
      have h3 : app b x = app s x := by simpa using h2
      refine List.mem_filter.2 ⟨hG.comp _ (hG.inv _ hs) _ h1, ?_⟩
      rw [app_comp (by rw [(hG.perm b h1).len]; exact hx), h3, inv_app hps hx]
      simp
    · rw [show (G.filter fun l => app l x == x).length = ((G.filter fun l => app l x == x).map (comp s)).length by simp]
      refine nodup_len_le _ _ (map_nodup _ (hG.nodup.filter _) fun a ha b hb e => comp_left_inj hps (hG.perm a (List.mem_filter.1 ha).1) (hG.perm b (List.mem_filter.1 hb).1) e) fun a ha => ?_
      obtain ⟨b, hb, rfl⟩ := List.mem_map.1 ha
      obtain ⟨h1, h2⟩ := List.mem_filter.1 hb
      have h3 : app b x = x := by simpa using h2
      refine List.mem_filter.2 ⟨hG.comp _ hs _ h1, ?_⟩
      rw [app_comp (by rw [(hG.perm b h1).len]; exact hx), h3]
      simp)
  rw [hf]
  exact Nat.dvd_mul_right _ _

/-! ### isomorphisms -/

theorem iso_perm {a b : St} {l : List Nat} (h : l ∈ isos a b) : IsPerm a.n l := by
  obtain ⟨h1, h2⟩ := mem_isos.1 h
  exact ⟨h1, h2.nodup, h2.lt⟩

theorem mem_isos_iff {a b : St} {l : List Nat} : l ∈ isos a b ↔ IsPerm a.n l ∧ (∀ i, i < a.n → a.inS (app l i) = b.inS i) ∧ ∀ i j, i < a.n → j < a.n → a.inR (app l i) (app l j) = b.inR i j := by
  rw [mem_isos]
  constructor
  · rintro ⟨h1, h2⟩; exact ⟨⟨h1, h2.nodup, h2.lt⟩, fun i hi => h2.set i (by omega), fun i j hi hj => h2.rel i j (by omega) (by omega)⟩
  · rintro ⟨h1, h2, h3⟩; exact ⟨h1.len, h1.nodup, h1.lt, fun i hi => h2 i (by rw [← h1.len]; exact hi), fun i j hi hj => h3 i j (by rw [← h1.len]; exact hi) (by rw [← h1.len]; exact hj)⟩

theorem iso_comp {a b c : St} (hab : a.n = b.n) {l m : List Nat} (hl : l ∈ isos a b) (hm : m ∈ isos b c) : comp l m ∈ isos a c := by
  obtain ⟨h1, h2, h3⟩ := mem_isos_iff.1 hl
  obtain ⟨g1, g2, g3⟩ := mem_isos_iff.1 hm
  rw [← hab] at g1 g2 g3
  have e : ∀ x, x < a.n → app (comp l m) x = app l (app m x) := fun x hx => app_comp (by rw [g1.len]; exact hx)
  exact mem_isos_iff.2 ⟨h1.comp g1, fun i hi => by rw [e i hi, h2 _ (g1.app_lt hi), g2 i hi], fun i j hi hj => by rw [e i hi, e j hj, h3 _ _ (g1.app_lt hi) (g1.app_lt hj), g3 i j hi hj]⟩

theorem iso_inv {a b : St} (hab : a.n = b.n) {l : List Nat} (hl : l ∈ isos a b) : inv l ∈ isos b a := by
  obtain ⟨h1, h2, h3⟩ := mem_isos_iff.1 hl
  refine mem_isos_iff.2 ⟨by rw [← hab]; exact h1.inv, fun i hi => ?_, fun i j hi hj => ?_⟩
  · rw [← hab] at hi
    obtain ⟨g1, g2⟩ := app_inv h1 hi
    rw [← h2 _ g1, g2]
  · rw [← hab] at hi hj
    obtain ⟨g1, g2⟩ := app_inv h1 hi
    obtain ⟨g3, g4⟩ := app_inv h1 hj
    rw [← h3 _ _ g1 g3, g2, g4]

theorem iso_refl (a : St) : List.range a.n ∈ isos a a :=
  mem_isos_iff.2 ⟨.range _, fun i hi => by rw [app_range hi], fun i j hi hj => by rw [app_range hi, app_range hj]⟩

theorem aut_grp (a : St) : Grp a.n (isos a a) where
  nodup := isos_nodup a a
  perm l h := iso_perm h
  one := iso_refl a
  comp l hl m hm := iso_comp rfl hl hm
  inv l hl := iso_inv rfl hl

/-- isomorphic structures have as many symmetries -/
theorem isos_count {a b : St} (hab : a.n = b.n) {l : List Nat} (hl : l ∈ isos a b) : (isos a a).length = (isos b b).length := by
  have key : ∀ {a b : St} (_ : a.n = b.n) {l : List Nat} (_ : l ∈ isos a b), (isos a a).length ≤ (isos b b).length := by
    intro a b hab l hl
    have hli := iso_inv hab hl
    have hp := iso_perm hl
    rw [show (isos a a).length = ((isos a a).map fun m => comp (inv l) (comp m l)).length by simp]
    refine nodup_len_le _ _ (map_nodup _ (isos_nodup a a) fun x hx y hy e => ?_) fun x hx => ?_
    · have hx' := iso_perm hx
      have hy' := iso_perm hy
      have e2 := comp_left_inj hp.inv (hx'.comp hp) (hy'.comp hp) e
      have e3 : comp (comp x l) (inv l) = comp (comp y l) (inv l) := by rw [e2]
      rwa [comp_assoc hp hp.inv, comp_assoc hp hp.inv, comp_inv hp, comp_range hx', comp_range hy'] at e3
    · obtain ⟨m, hm, rfl⟩ := List.mem_map.1 hx
      exact iso_comp hab.symm hli (iso_comp rfl hm hl)
  exact Nat.le_antisymm (key hab hl) (key hab.symm (iso_inv hab hl))

/-! ### the number of all orders -/

def fact : Nat → Nat
  | 0 => 1
  | n + 1 => (n + 1) * fact n

def noSt (n : Nat) : St := mkSt n (fun _ => false) (fun _ _ => false)

theorem flatMap_len {α : Type} (f : α → List (List Nat)) (k : Nat) : ∀ (l : List α), (∀ x ∈ l, (f x).length = k) → (l.flatMap f).length = l.length * k := by
  intro l
  induction l with
  | nil => intro _; simp
  | cons x l ih =>
    intro h
    rw [List.flatMap_cons, List.length_append, h x (by simp), ih (fun y hy => h y (by simp [hy])), List.length_cons, Nat.succ_mul]
    omega

theorem flatMap_if {α : Type} (p : α → Bool) (f : α → List (List Nat)) : ∀ (l : List α), (l.flatMap fun x => if p x then f x else []) = (l.filter p).flatMap f := by
  intro l
  induction l with
  | nil => rfl
  | cons x l ih =>
    cases h : p x <;> simp [h, ih]

theorem noSt_shapes {n : Nat} : ∀ (m : Nat) (o : List Nat), o.length + m = n → o.Nodup → (∀ x ∈ o, x < n) → (shapes (noSt n) (noSt n) m o).length = fact m := by
  intro m
  induction m with
  | zero => intro o _ _ _; rfl
  | succ m ih =>
    intro o hl hnd hlt
    have hn : ∀ x, x < n → nextB (noSt n) (noSt n) o x = !o.contains x := by
      intro x hx
      have hS : ∀ y, y < n → (noSt n).inS y = false := fun y hy => mkSt_inS hy
      have hR : ∀ y z, y < n → z < n → (noSt n).inR y z = false := fun y z hy hz => mkSt_inR hy hz
      unfold nextB fitsB
      have hol : o.length < n := by omega
      have hall : ((List.range o.length).all fun k => (noSt n).inR x (o.getD k 0) == (noSt n).inR o.length k && (noSt n).inR (o.getD k 0) x == (noSt n).inR k o.length) = true := by
        rw [List.all_eq_true]
        intro k hk
        have hk' := List.mem_range.1 hk
        have hok : o.getD k 0 < n := hlt _ (by
          rw [List.getD_eq_getElem?_getD, List.getElem?_eq_getElem hk', Option.getD_some]
          exact List.getElem_mem hk')
        rw [hR _ _ hx hok, hR _ _ hol (by omega), hR _ _ hok hx, hR _ _ (by omega) hol]
        rfl
      rw [hall, hS _ hx, hS _ hol, hR _ _ hx hx, hR _ _ hol hol]
      simp
    simp only [shapes]
    rw [flatMap_if]
    have hfil : ((List.range (noSt n).n).filter (nextB (noSt n) (noSt n) o)).length = m + 1 := by
      have h1 : (List.range (noSt n).n).filter (nextB (noSt n) (noSt n) o) = (List.range n).filter fun x => !o.contains x := by
        apply List.filter_congr
        intro x hx
        exact hn x (List.mem_range.1 hx)
      rw [h1]
      have h2 := filter_len (fun x => o.contains x) (List.range n)
      have h3 : ((List.range n).filter fun x => o.contains x).length = o.length := by
        refine nodup_len_eq (List.nodup_range.filter _) hnd fun x => ?_
        rw [List.mem_filter, List.mem_range]
        simp only [List.contains_eq_mem, decide_eq_true_eq]
        exact ⟨fun h => h.2, fun h => ⟨hlt x h, h⟩⟩
      simp only [List.length_range] at h2
      omega
    rw [flatMap_len _ (fact m) _ (fun x hx => by
      obtain ⟨h1, h2⟩ := List.mem_filter.1 hx
      have hxn : x < n := List.mem_range.1 h1
      rw [hn x hxn] at h2
      have hxo : x ∉ o := by simpa using h2
      refine ih _ (by simp; omega) ?_ ?_
      · rw [List.nodup_append]
        exact ⟨hnd, by simp, fun y hy z hz => by simp only [List.mem_singleton] at hz; subst hz; rintro rfl; exact hxo hy⟩
      · intro y hy
        rcases List.mem_append.1 hy with hy | hy
        · exact hlt y hy
        · simp only [List.mem_singleton] at hy; subst hy; exact hxn), hfil]
    rfl

theorem noSt_count (n : Nat) : (isos (noSt n) (noSt n)).length = fact n := noSt_shapes n [] (by simp) (by simp) (by simp)

theorem count_dvd_fact (a : St) : (isos a a).length ∣ fact a.n := by
  rw [← noSt_count]
  refine lagrange (aut_grp a) (aut_grp (noSt a.n)) fun l hl => ?_
  have hp := iso_perm hl
  refine mem_isos_iff.2 ⟨hp, fun i hi => ?_, fun i j hi hj => ?_⟩
  · have hi2 : i < a.n := hi
    have h1 : (noSt a.n).inS (app l i) = false := mkSt_inS (f := fun _ => false) (hp.app_lt hi2)
    have h2 : (noSt a.n).inS i = false := mkSt_inS (f := fun _ => false) hi2
    rw [h1, h2]
  · have hi2 : i < a.n := hi
    have hj2 : j < a.n := hj
    have h1 : (noSt a.n).inR (app l i) (app l j) = false := mkSt_inR (g := fun _ _ => false) (hp.app_lt hi2) (hp.app_lt hj2)
    have h2 : (noSt a.n).inR i j = false := mkSt_inR (g := fun _ _ => false) hi2 hj2
    rw [h1, h2]

end Pl
end Go.Proofs.YtpaleogkgfclnaaDoor

namespace Go.Proofs.YtpaleogkgfclnaaDoor
open Pl

/-- elements for the variables -/
abbrev Pl.Env := Fin 4 → Nat

def Pl.upd (e : Env) (v : Fin 4) (x : Nat) : Env := fun u => if u = v then x else e u

def Pl.cnt (n : Nat) (p : Nat → Bool) : Nat := ((List.range n).filter p).length

/-- a quantifier's word on how many elements there are -/
def Pl.Qn.says (k : Qn) (n c : Nat) : Bool := match k with
  | .A => c == n
  | .S => decide (0 < c)
  | .c2 => decide (2 ≤ c)
  | .c3 => decide (3 ≤ c)
  | .c4 => decide (4 ≤ c)

/-- a formula is true -/
def Pl.Fm.holds (a : St) : Fm → Env → Bool
  | .tru, _ => true
  | .fls, _ => false
  | .pr v, e => a.inS (e v)
  | .eq v w, e => e v == e w
  | .rel v w, e => a.inR (e v) (e w)
  | .neg p, e => !(p.holds a e)
  | .con p q, e => p.holds a e && q.holds a e
  | .dis p q, e => p.holds a e || q.holds a e
  | .qu k v p, e => k.says a.n (cnt a.n fun x => p.holds a (upd e v x))

theorem Pl.cnt_congr {n : Nat} {p q : Nat → Bool} (h : ∀ x, x < n → p x = q x) : cnt n p = cnt n q := by
  unfold cnt
  rw [List.filter_congr fun x hx => h x (List.mem_range.1 hx)]

theorem Pl.cnt_le (n : Nat) (p : Nat → Bool) : cnt n p ≤ n := by
  unfold cnt
  have := List.length_filter_le p (List.range n)
  simpa using this

theorem Pl.cnt_succ (n : Nat) (p : Nat → Bool) : cnt (n + 1) p = cnt n p + if p n then 1 else 0 := by
  unfold cnt
  rw [List.range_succ, List.filter_append, List.length_append]
  cases h : p n <;> simp [h]

theorem Pl.cnt_all {n : Nat} {p : Nat → Bool} : cnt n p = n ↔ ∀ x, x < n → p x = true := by
  induction n with
  | zero => simp [cnt]
  | succ n ih =>
    rw [cnt_succ]
    have hle := cnt_le n p
    constructor
    · intro h x hx
      cases hp : p n with
      | false => rw [hp] at h; simp at h; omega
      | true =>
        rw [hp] at h
        simp at h
        by_cases e : x = n
        · subst e; exact hp
        · exact ih.1 h x (by omega)
    · intro h
      rw [h n (by omega), ih.2 fun x hx => h x (by omega)]
      rfl

theorem Pl.cnt_pos {n : Nat} {p : Nat → Bool} : 0 < cnt n p ↔ ∃ x, x < n ∧ p x = true := by
  unfold cnt
  rw [List.length_pos_iff_exists_mem]
  constructor
  · rintro ⟨x, hx⟩; obtain ⟨h1, h2⟩ := List.mem_filter.1 hx; exact ⟨x, List.mem_range.1 h1, h2⟩
  · rintro ⟨x, h1, h2⟩; exact ⟨x, List.mem_filter.2 ⟨List.mem_range.2 h1, h2⟩⟩

theorem Pl.cnt_not (n : Nat) (p : Nat → Bool) : cnt n p + cnt n (fun x => !p x) = n := by
  unfold cnt
  have := filter_len p (List.range n)
  simpa using this.symm

theorem Pl.cnt_perm {n : Nat} {l : List Nat} (hl : IsPerm n l) (p : Nat → Bool) : cnt n (fun x => p (app l x)) = cnt n p := by
  unfold cnt
  rw [show ((List.range n).filter fun x => p (app l x)).length = (((List.range n).filter fun x => p (app l x)).map (app l)).length by simp]
  refine nodup_len_eq (map_nodup _ (List.nodup_range.filter _) fun x hx y hy e => hl.inj (List.mem_range.1 (List.mem_filter.1 hx).1) (List.mem_range.1 (List.mem_filter.1 hy).1) e) (List.nodup_range.filter _) fun x => ?_
  rw [List.mem_map, List.mem_filter, List.mem_range]
  constructor
  · rintro ⟨y, hy, rfl⟩
    obtain ⟨h1, h2⟩ := List.mem_filter.1 hy
    exact ⟨hl.app_lt (List.mem_range.1 h1), h2⟩
  · rintro ⟨h1, h2⟩
    obtain ⟨g1, g2⟩ := app_inv hl h1
    exact ⟨app (inv l) x, List.mem_filter.2 ⟨List.mem_range.2 g1, by rw [g2]; exact h2⟩, g2⟩

theorem Pl.upd_same (e : Env) (v : Fin 4) (x : Nat) : upd e v x v = x := by simp [upd]
theorem Pl.upd_other {e : Env} {v u : Fin 4} {x : Nat} (h : u ≠ v) : upd e v x u = e u := by simp [upd, h]

/-- the variables that are free -/
def Pl.Fm.isFree (f : Fm) (v : Fin 4) : Prop := f.freeBits.testBit v.val = true

theorem bit_test (v u : Fin 4) : (1 <<< v.val).testBit u.val = decide (v = u) := by revert v u; decide

theorem free_qu (k : Qn) (v : Fin 4) (p : Fm) (u : Fin 4) : (Fm.qu k v p).isFree u ↔ p.isFree u ∧ u ≠ v := by
  unfold Fm.isFree
  simp only [Fm.freeBits, Nat.testBit_and, Nat.testBit_xor, bit_test]
  have h15 : (15 : Nat).testBit u.val = true := by revert u; decide
  rw [h15]
  by_cases h : v = u
  · subst h; simp
  · simp [h, Ne.symm h]

/-- only the free variables matter -/
theorem holds_free (a : St) : ∀ (f : Fm) (e e' : Env), (∀ v, f.isFree v → e v = e' v) → f.holds a e = f.holds a e' := by
  intro f
  induction f with
  | tru => intros; rfl
  | fls => intros; rfl
  | pr v => intro e e' h; simp only [Fm.holds]; rw [h v (by simp [Fm.isFree, Fm.freeBits, bit_test])]
  | eq v w => intro e e' h; simp only [Fm.holds]; rw [h v (by simp [Fm.isFree, Fm.freeBits, bit_test]), h w (by simp [Fm.isFree, Fm.freeBits, bit_test])]
  | rel v w => intro e e' h; simp only [Fm.holds]; rw [h v (by simp [Fm.isFree, Fm.freeBits, bit_test]), h w (by simp [Fm.isFree, Fm.freeBits, bit_test])]
  | neg p ih => intro e e' h; simp only [Fm.holds]; rw [ih e e' h]
  | con p q ihp ihq =>
    intro e e' h
    simp only [Fm.holds]
    rw [ihp e e' fun v hv => h v (by unfold Fm.isFree at *; simp [Fm.freeBits, hv]), ihq e e' fun v hv => h v (by unfold Fm.isFree at *; simp [Fm.freeBits, hv])]
  | dis p q ihp ihq =>
    intro e e' h
    simp only [Fm.holds]
    rw [ihp e e' fun v hv => h v (by unfold Fm.isFree at *; simp [Fm.freeBits, hv]), ihq e e' fun v hv => h v (by unfold Fm.isFree at *; simp [Fm.freeBits, hv])]
  | qu k v p ih =>
    intro e e' h
    simp only [Fm.holds]
    rw [cnt_congr fun x _ => ih (upd e v x) (upd e' v x) fun u hu => ?_]
    by_cases huv : u = v
    · subst huv; rw [upd_same, upd_same]
    · rw [upd_other huv, upd_other huv]; exact h u ((free_qu k v p u).2 ⟨hu, huv⟩)

/-- a structure that is turned into another one: the same formulas are true of the elements that are turned -/
theorem holds_iso {a b : St} (hab : a.n = b.n) {l : List Nat} (hl : l ∈ isos a b) : ∀ (f : Fm) (e : Env), (∀ v, f.isFree v → e v < b.n) → f.holds b e = f.holds a (fun v => app l (e v)) := by
  obtain ⟨h1, h2, h3⟩ := mem_isos_iff.1 hl
  intro f
  induction f with
  | tru => intros; rfl
  | fls => intros; rfl
  | pr v => intro e h; simp only [Fm.holds]; rw [h2 _ (by rw [hab]; exact h v (by simp [Fm.isFree, Fm.freeBits, bit_test]))]
  | eq v w =>
    intro e h
    have hv := h v (by simp [Fm.isFree, Fm.freeBits, bit_test])
    have hw := h w (by simp [Fm.isFree, Fm.freeBits, bit_test])
    rw [← hab] at hv hw
    simp only [Fm.holds]
    rw [Bool.eq_iff_iff, beq_iff_eq, beq_iff_eq]
    exact ⟨fun e1 => by rw [e1], fun e1 => h1.inj hv hw e1⟩
  | rel v w =>
    intro e h
    simp only [Fm.holds]
    rw [h3 _ _ (by rw [hab]; exact h v (by simp [Fm.isFree, Fm.freeBits, bit_test])) (by rw [hab]; exact h w (by simp [Fm.isFree, Fm.freeBits, bit_test]))]
  | neg p ih => intro e h; simp only [Fm.holds]; rw [ih e h]
  | con p q ihp ihq =>
    intro e h
    simp only [Fm.holds]
    rw [ihp e fun v hv => h v (by unfold Fm.isFree at *; simp [Fm.freeBits, hv]), ihq e fun v hv => h v (by unfold Fm.isFree at *; simp [Fm.freeBits, hv])]
  | dis p q ihp ihq =>
    intro e h
    simp only [Fm.holds]
    rw [ihp e fun v hv => h v (by unfold Fm.isFree at *; simp [Fm.freeBits, hv]), ihq e fun v hv => h v (by unfold Fm.isFree at *; simp [Fm.freeBits, hv])]
  | qu k v p ih =>
    intro e h
    simp only [Fm.holds]
    rw [← hab]
    congr 1
    rw [← cnt_perm h1 (fun y => p.holds a (upd (fun u => app l (e u)) v y))]
    refine cnt_congr fun x hx => ?_
    rw [ih (upd e v x) fun u hu => ?_]
    · apply holds_free
      intro u hu
      by_cases huv : u = v
      · subst huv; rw [upd_same, upd_same]
      · rw [upd_other huv, upd_other huv]
    · by_cases huv : u = v
      · subst huv; rw [upd_same, ← hab]; exact hx
      · rw [upd_other huv]; exact h u ((free_qu k v p u).2 ⟨hu, huv⟩)

/-- pushed negations -/
theorem holds_push (a : St) : ∀ (f : Fm) (b : Bool) (e : Env), (f.push b).holds a e = (if b then !(f.holds a e) else f.holds a e) := by
  intro f
  induction f with
  | tru => intro b e; cases b <;> rfl
  | fls => intro b e; cases b <;> rfl
  | pr v => intro b e; cases b <;> rfl
  | eq v w => intro b e; cases b <;> rfl
  | rel v w => intro b e; cases b <;> rfl
  | neg p ih => intro b e; simp only [Fm.push, Fm.holds, ih]; cases b <;> simp
  | con p q ihp ihq => intro b e; cases b <;> simp [Fm.push, Fm.holds, ihp, ihq]
  | dis p q ihp ihq => intro b e; cases b <;> simp [Fm.push, Fm.holds, ihp, ihq]
  | qu k v p ih =>
    intro b e
    have h2 : cnt a.n (fun x => !(p.holds a (upd e v x))) + cnt a.n (fun x => p.holds a (upd e v x)) = a.n := by
      have := cnt_not a.n (fun x => p.holds a (upd e v x)); omega
    cases k <;> cases b <;> simp only [Fm.push, Fm.holds, ih, if_true, if_false, Bool.false_eq_true, Bool.not_true, Bool.not_false, Bool.not_not] <;> try rfl
    · simp only [Qn.says]
      rw [Bool.eq_iff_iff]
      simp only [decide_eq_true_eq, Bool.not_eq_true', beq_eq_false_iff_ne]
      omega
    · simp only [Qn.says]
      rw [Bool.eq_iff_iff]
      simp only [beq_iff_eq, Bool.not_eq_true', decide_eq_false_iff_not]
      omega

end Go.Proofs.YtpaleogkgfclnaaDoor

namespace Go.Proofs.YtpaleogkgfclnaaDoor
open Go.RowKit
open Pl
set_option linter.unusedSimpArgs false
set_option linter.unusedVariables false

/-- the elements of the first free variables as octal digits -/
def keyTo (fr : Nat) (e : Nat → Nat) : Nat → Nat
  | 0 => 0
  | k + 1 => if fr.testBit k then keyTo fr e k ||| (e k * 8 ^ k) else keyTo fr e k

theorem or_add {a x k : Nat} (h : a < 8 ^ k) : a ||| (x * 8 ^ k) = a + x * 8 ^ k := by
  have e : (8 : Nat) ^ k = 2 ^ (3 * k) := by rw [Nat.pow_mul]
  rw [e] at h ⊢
  have := Nat.shiftLeft_add_eq_or_of_lt h x
  rw [Nat.shiftLeft_eq] at this
  rw [Nat.or_comm, ← this, Nat.add_comm]

theorem keyTo_lt {fr : Nat} {e : Nat → Nat} (he : ∀ i, e i < 8) : ∀ k, keyTo fr e k < 8 ^ k
  | 0 => by simp [keyTo]
  | k + 1 => by
    have h := keyTo_lt (fr := fr) he k
    have hx := he k
    have hp : (8 : Nat) ^ (k + 1) = 8 * 8 ^ k := by rw [Nat.pow_succ, Nat.mul_comm]
    have hm : e k * 8 ^ k ≤ 7 * 8 ^ k := Nat.mul_le_mul_right _ (by omega)
    unfold keyTo
    split
    · rw [or_add h]; omega
    · omega

theorem keyTo_inj {fr : Nat} {e e' : Nat → Nat} (he : ∀ i, e i < 8) (he' : ∀ i, e' i < 8) : ∀ k, keyTo fr e k = keyTo fr e' k → ∀ i, i < k → fr.testBit i = true → e i = e' i
  | 0, _, i, hi, _ => absurd hi (Nat.not_lt_zero _)
  | k + 1, h, i, hi, hb => by
    have h1 := keyTo_lt (fr := fr) he k
    have h2 := keyTo_lt (fr := fr) he' k
    unfold keyTo at h
    cases hk : fr.testBit k with
    | false =>
      rw [hk] at h
      simp only [Bool.false_eq_true, if_false] at h
      have : i ≠ k := fun e => by rw [e, hk] at hb; cases hb
      exact keyTo_inj he he' k h i (by omega) hb
    | true =>
      rw [hk] at h
      simp only [if_true] at h
      rw [or_add h1, or_add h2] at h
      have hd1 : (keyTo fr e k + e k * 8 ^ k) / 8 ^ k = e k := by
        rw [Nat.add_mul_div_right _ _ (Nat.pow_pos (by decide)), Nat.div_eq_of_lt h1, Nat.zero_add]
      have hd2 : (keyTo fr e' k + e' k * 8 ^ k) / 8 ^ k = e' k := by
        rw [Nat.add_mul_div_right _ _ (Nat.pow_pos (by decide)), Nat.div_eq_of_lt h2, Nat.zero_add]
      have hk2 : e k = e' k := by rw [← hd1, ← hd2, h]
      by_cases hik : i = k
      · subst hik; exact hk2
      · refine keyTo_inj he he' k ?_ i (by omega) hb
        rw [hk2] at h
        omega

/-- an environment as a function of numbers -/
def eN (e : Env) (i : Nat) : Nat := if h : i < 4 then e ⟨i, h⟩ else 0
theorem eN_lt {e : Env} (he : ∀ v, e v < 8) (i : Nat) : eN e i < 8 := by
  unfold eN
  split
  · exact he _
  · omega
theorem eN_fin (e : Env) (v : Fin 4) : eN e v.val = e v := by simp [eN]
/-- the number under which truth is kept -/
def keyN (fr : Nat) (e : Env) : Nat := keyTo fr (eN e) 4
theorem keyN_lt {fr : Nat} {e : Env} (he : ∀ v, e v < 8) : keyN fr e < 4096 := keyTo_lt (eN_lt he) 4
theorem keyN_holds (a : St) (f : Fm) {e e' : Env} (he : ∀ v, e v < 8) (he' : ∀ v, e' v < 8) (h : keyN f.freeBits e = keyN f.freeBits e') : f.holds a e = f.holds a e' :=
  holds_free a f e e' fun v hv => by
    have := keyTo_inj (eN_lt he) (eN_lt he') 4 h v.val v.isLt hv
    rwa [eN_fin, eN_fin] at this

/-! ### one tree at most -/

theorem own_same {W : World} {base base' n n' : Nat} {e : TypeId} {v : Value} {xs xs' : List Value} (h : W.ownsRow base e 1 v n xs) (h' : W.ownsRow base' e 1 v n' xs') : xs = xs' := by
  obtain ⟨hl, h2⟩ := h
  obtain ⟨hl', h2'⟩ := h'
  rcases h2 with ⟨rfl, h0⟩ | ⟨g, cap, cur, rfl, _, hh, _, _, _, ht⟩
  · rcases h2' with ⟨_, h0'⟩ | ⟨g, cap, cur, hv, _⟩
    · have e1 : xs = [] := List.length_eq_zero_iff.1 (by rw [hl, h0])
      have e2 : xs' = [] := List.length_eq_zero_iff.1 (by rw [hl', h0'])
      rw [e1, e2]
    · cases hv
  · rcases h2' with ⟨hv, _⟩ | ⟨g', cap', cur', hv, _, hh', _, _, _, ht'⟩
    · cases hv
    · simp only [Value.slice.injEq, Option.some.injEq, Addr.mk.injEq] at hv
      obtain ⟨⟨rfl, _⟩, hn, _⟩ := hv
      rw [hh] at hh'
      simp only [Option.some.injEq, Obj.cells.injEq] at hh'
      obtain ⟨rfl, _⟩ := hh'
      rw [hn, ht'] at ht
      exact ht.symm

theorem vb_inj {v w : Fin 4} (h : byteV (vb v) = byteV (vb w)) : v = w := by
  unfold byteV at h
  injection h with _ h
  revert v w
  decide

theorem node_same {S S' : Nat → Prop} {w : World} {op op' : UInt8} {vars vars' : List (Fin 4)} {fr fr' al al' b : Nat} {ks ks' : List Nat} (h : NodeIn S w op vars fr al b ks) (h' : NodeIn S' w op' vars' fr' al' b ks') : op = op' ∧ vars = vars' ∧ ks = ks' := by
  obtain ⟨_, vs, ps, hh, hv, _, hp, _⟩ := h
  obtain ⟨_, vs', ps', hh', hv', _, hp', _⟩ := h'
  rw [hh] at hh'
  simp only [Option.some.injEq, Obj.cells.injEq, Array.mk.injEq, List.cons.injEq, Value.int.injEq, true_and, and_true] at hh'
  obtain ⟨h1, rfl, rfl, _⟩ := hh'
  refine ⟨UInt8.toNat_inj.1 (by omega), ?_, ?_⟩
  · exact (List.map_inj_right (fun a b hab => vb_inj hab)).1 (own_same hv hv')
  · exact (List.map_inj_right (fun a b hab => by injection hab with e; injection e with e; injection e)).1 (own_same hp hp')

theorem qb_inj {k l : Qn} (h : k.b = l.b) : k = l := by
  cases k <;> cases l <;> first | rfl | exact absurd h (by decide)
theorem qb_out (k : Qn) : k.b ≠ 116 ∧ k.b ≠ 102 ∧ k.b ≠ 80 ∧ k.b ≠ 61 ∧ k.b ≠ 69 ∧ k.b ≠ 33 ∧ k.b ≠ 38 ∧ k.b ≠ 124 := by
  cases k <;> decide
theorem fm_same {f g : Fm} (h1 : f.op = g.op) (h2 : f.vars = g.vars) (h3 : f.parts = g.parts) : f = g := by
  cases f <;> cases g <;> simp only [Fm.op] at h1 <;> first
    | exact absurd h1 (by decide)
    | (rename_i k _ _; have q := qb_out k; simp_all; done)
    | (rename_i k _ _ _; have q := qb_out k; simp_all; done)
    | (rename_i k _ _ _ _; have q := qb_out k; simp_all; done)
    | (rename_i k _ _; have q := qb_out k; obtain ⟨q1, q2, q3, q4, q5, q6, q7, q8⟩ := q; first | exact absurd h1 q1 | exact absurd h1.symm q1 | exact absurd h1 q2 | exact absurd h1.symm q2 | exact absurd h1 q3 | exact absurd h1 q4 | exact absurd h1 q5 | exact absurd h1 q6 | exact absurd h1 q7 | exact absurd h1 q8)
    | (simp_all [Fm.vars, Fm.parts]; done)
    | (obtain rfl := qb_inj h1; simp_all [Fm.vars, Fm.parts]; done)

theorem part_size {f p : Fm} (h : p ∈ f.parts) : p.size < f.size := by
  cases f <;> simp [Fm.parts] at h <;> (try rcases h with rfl | rfl) <;> (try subst h) <;> simp [Fm.size] <;> omega

theorem tree_same {S S' : Nat → Prop} {w : World} : ∀ (n : Nat) (f g : Fm) (b : Nat), f.size ≤ n → TreeIn S w f b → TreeIn S' w g b → f = g
  | 0, f, g, b, hn, _, _ => by cases f <;> simp [Fm.size] at hn
  | n + 1, f, g, b, hn, h, h' => by
    obtain ⟨ks, hf, hl, ht⟩ := h.open
    obtain ⟨ks', hg, hl', ht'⟩ := h'.open
    obtain ⟨h1, h2, rfl⟩ := node_same hf hg
    refine fm_same h1 h2 (List.ext_getElem (by omega) fun i hi hi' => ?_)
    have hk : i < ks.length := by omega
    exact tree_same n _ _ ks[i] (by have := part_size (List.getElem_mem hi); omega) (ht i _ _ (List.getElem?_eq_getElem hi) (List.getElem?_eq_getElem hk)) (ht' i _ _ (List.getElem?_eq_getElem hi') (List.getElem?_eq_getElem hk))

/-- what is kept at a number is right for whatever tree lies there -/
def Good (lo : Nat) (w0 : World) (a : St) (nb k : Nat) (v : Bool) : Prop := ∀ f, TreeAt lo w0 f nb → ∀ e : Env, (∀ u, e u < 8) → keyN f.freeBits e = k → f.holds a e = v
theorem good_new {lo : Nat} {w0 : World} (a : St) {f : Fm} {nb : Nat} (h : TreeAt lo w0 f nb) {e : Env} (he : ∀ u, e u < 8) : Good lo w0 a nb (keyN f.freeBits e) (f.holds a e) := fun g hg e' he' hk => by
  have := tree_same g.size g f nb (Nat.le_refl _) hg h
  subst this
  exact keyN_holds a g he' he hk

end Go.Proofs.YtpaleogkgfclnaaDoor

namespace Go.Proofs.YtpaleogkgfclnaaDoor
open Go.RowKit
open Go.ChangeMaps
open Pl
set_option linter.unusedSimpArgs false
set_option linter.unusedVariables false

/-- a map from numbers to truth, of which each entry is right -/
def InnerOK (G : Nat → Bool → Prop) (es : Array MapEntry) : Prop := ∀ x ∈ es.toList, ∃ (k : Nat) (v : Bool), k < 4096 ∧ x.key = .int .i64 (k : Nat) ∧ x.val = .bool v ∧ G k v

/-- the holder's map of maps -/
structure Cache (G : Nat → Nat → Bool → Prop) (hb : Nat) (w : World) : Prop where
  at_ : ∃ (es : Array MapEntry) (clock : Nat), w.heap[hb]? = some (.map es clock) ∧
    (∀ x ∈ es.toList, ∃ (nb ib : Nat) (c : Array Value) (t : TypeId) (esi : Array MapEntry) (ci : Nat), x.key = kidV nb ∧ w.heap[nb]? = some (.cells c t (0, 0)) ∧ x.val = .map (some ib) ∧ hb < ib ∧ w.heap[ib]? = some (.map esi ci) ∧ InnerOK (G nb) esi) ∧
    ((∀ x ∈ es.toList, ∀ y ∈ es.toList, x.val = y.val → x.key = y.key) ∧ ∀ x ∈ es.toList, ∃ nb, x.key = kidV nb ∧ nb < hb)

/-- an inner map that the holder keeps for a formula -/
def Kept (G : Nat → Nat → Bool → Prop) (hb nb ib : Nat) (w : World) : Prop := ∃ (es : Array MapEntry) (clock : Nat), w.heap[hb]? = some (.map es clock) ∧ ∃ x ∈ es.toList, x.key = kidV nb ∧ x.val = .map (some ib)

/-- what a call of the holder leaves as it was: all below its map, and all cells -/
structure Fz (B : Nat) (w w' : World) : Prop where
  below : Below B w w'
  cells : ∀ (j : Nat) (c : Array Value) (t : TypeId) (k : Nat × Nat), w.heap[j]? = some (.cells c t k) → w'.heap[j]? = some (.cells c t k)

theorem Fz.refl (B : Nat) (w : World) : Fz B w w := ⟨Below.refl _ _, fun _ _ _ _ h => h⟩
theorem Fz.trans {B : Nat} {w w' w'' : World} (h : Fz B w w') (h' : Fz B w' w'') : Fz B w w'' := ⟨h.below.trans h'.below, fun j c t k hj => h'.cells j c t k (h.cells j c t k hj)⟩
theorem Fz.call {B : Nat} {w w' : World} (hB : B ≤ w.heap.size) (h : Below w.heap.size w w') : Fz B w w' := ⟨h.mono hB, fun j c t k hj => (h.block j (Array.getElem?_eq_some_iff.1 hj).1).trans hj⟩
theorem Fz.alloc {B : Nat} {w : World} (hB : B ≤ w.heap.size) (o : Obj) : Fz B w (w.alloc o) := Fz.call hB ((Below.refl _ _).alloc (Nat.le_refl _) o)
theorem Fz.drew {B : Nat} {w w' : World} (h : Fz B w w') : Fz B w w'.drew := ⟨h.below.drew, h.cells⟩
theorem Fz.bx {B : Nat} {w w' : World} {g : Nat} {t : TypeId} {cs : Array Value} (h : Fz B w w') (hx : Bx w g t cs) : Bx w' g t cs := h.cells g cs t (0, 0) hx

theorem Cache.keep {G : Nat → Nat → Bool → Prop} {hb : Nat} {w w' : World} (h : Cache G hb w) (hm : ∀ (j : Nat) (es : Array MapEntry) (c : Nat), w.heap[j]? = some (.map es c) → w'.heap[j]? = some (.map es c)) (hc : ∀ (j : Nat) (c : Array Value) (t : TypeId), w.heap[j]? = some (.cells c t (0, 0)) → ∃ (c' : Array Value) (t' : TypeId), w'.heap[j]? = some (.cells c' t' (0, 0))) : Cache G hb w' := by
  obtain ⟨es, clock, h1, h2, h3⟩ := h.at_
  refine ⟨es, clock, hm _ _ _ h1, fun x hx => ?_, h3⟩
  obtain ⟨nb, ib, c, t, esi, ci, a1, a2, a3, a4, a5, a6⟩ := h2 x hx
  obtain ⟨c', t', e⟩ := hc _ _ _ a2
  exact ⟨nb, ib, c', t', esi, ci, a1, e, a3, a4, hm _ _ _ a5, a6⟩
theorem Cache.call {G : Nat → Nat → Bool → Prop} {hb : Nat} {w w' : World} (h : Cache G hb w) (hb' : Below w.heap.size w w') : Cache G hb w' :=
  h.keep (fun j es c hj => (hb'.block j (Array.getElem?_eq_some_iff.1 hj).1).trans hj) (fun j c t hj => ⟨c, t, (hb'.block j (Array.getElem?_eq_some_iff.1 hj).1).trans hj⟩)
theorem Cache.alloc {G : Nat → Nat → Bool → Prop} {hb : Nat} {w : World} (h : Cache G hb w) (o : Obj) : Cache G hb (w.alloc o) := h.call ((Below.refl _ _).alloc (Nat.le_refl _) o)
theorem Cache.drew {G : Nat → Nat → Bool → Prop} {hb : Nat} {w : World} (h : Cache G hb w) : Cache G hb w.drew := ⟨h.at_⟩
/-- behind a list outside the cache that has grown -/
theorem Cache.app {G : Nat → Nat → Bool → Prop} {hb : Nat} {w w' : World} {row : Option Nat} (h : Cache G hb w) (hg : w.grownBy w' row) (hr : ∀ k, row = some k → hb < k ∧ ∃ c t, w.heap[k]? = some (.cells c t (0, 0))) : Cache G hb w' := by
  obtain ⟨es, clock, h1, h2, h3⟩ := h.at_
  have hm : ∀ (j : Nat) (es : Array MapEntry) (c : Nat), w.heap[j]? = some (.map es c) → w'.heap[j]? = some (.map es c) := fun j es c hj => (hg.block j (Array.getElem?_eq_some_iff.1 hj).1 (fun e => by
    obtain ⟨_, c', t', e2⟩ := hr j e.symm
    rw [hj] at e2; cases e2)).trans hj
  refine ⟨es, clock, hm _ _ _ h1, fun x hx => ?_, h3⟩
  obtain ⟨nb, ib, c, t, esi, ci, a1, a2, a3, a4, a5, a6⟩ := h2 x hx
  obtain ⟨nb', b1, b2⟩ := h3.2 x hx
  have hnb : nb' = nb := by
    rw [a1] at b1
    simp only [kidV, Value.pointer.injEq, Option.some.injEq, Addr.mk.injEq] at b1
    exact b1.1.symm
  subst hnb
  exact ⟨nb', ib, c, t, esi, ci, a1, (hg.block nb' (Array.getElem?_eq_some_iff.1 a2).1 (fun e => by
    have := (hr nb' e.symm).1; omega)).trans a2, a3, a4, hm _ _ _ a5, a6⟩
theorem Cache.lt {G : Nat → Nat → Bool → Prop} {hb : Nat} {w : World} (h : Cache G hb w) : hb < w.heap.size := by
  obtain ⟨es, clock, h1, _⟩ := h.at_
  exact (Array.getElem?_eq_some_iff.1 h1).1

section
variable {P : Program} {G : Nat → Nat → Bool → Prop} {hb nb : Nat} {w : World} {tm ko ti ki tb e : TypeId} {j : TypeInfo} {c : Array Value} {t : TypeId}

/-- looking up a formula's map -/
theorem Cache.look (h : Cache G hb w) (hto : P.underlying tm = some (.map ko ti)) (hko : P.underlying ko = some (.pointer e)) (he : P.info? e = some j) (hsz : j.size ≠ 0) (hz : (zeroValue ti).run P w = .ok (.map none) w) (hn : w.heap[nb]? = some (.cells c t (0, 0))) :
    (Instr.lookup tm (.map (some hb)) (kidV nb) false).run P w = .ok (.map none) w ∨
    ∃ (ib : Nat) (esi : Array MapEntry) (ci : Nat), (Instr.lookup tm (.map (some hb)) (kidV nb) false).run P w = .ok (.map (some ib)) w ∧ Kept G hb nb ib w ∧ hb < ib ∧ w.heap[ib]? = some (.map esi ci) ∧ InnerOK (G nb) esi := by
  obtain ⟨es, clock, h1, h2, h3⟩ := h.at_
  have hS : ∀ x ∈ es.toList, PKey w x.key := fun x hx => by
    obtain ⟨nb, ib, c, t, esi, ci, a1, a2, _⟩ := h2 x hx
    exact ⟨nb, c, t, a1, a2⟩
  rcases mlook false (pkey hko he hsz) hto hz h1 hS (key := kidV nb) ⟨nb, c, t, rfl, hn⟩ with ⟨hr, _⟩ | ⟨x, hx, hk, hr⟩
  · exact .inl (by simpa using hr)
  · obtain ⟨nb', ib, c', t', esi, ci, a1, a2, a3, a4, a5, a6⟩ := h2 x hx
    have hnb : nb' = nb := by
      rw [hk] at a1
      simp only [kidV, Value.pointer.injEq, Option.some.injEq, Addr.mk.injEq] at a1
      exact a1.1.symm
    subst hnb
    rw [a3] at hr
    exact .inr ⟨ib, esi, ci, by simpa using hr, ⟨es, clock, h1, x, hx, hk, a3⟩, a4, a5, a6⟩

/-- looking up a number -/
theorem inner_look {G : Nat → Bool → Prop} {ib : Nat} {esi : Array MapEntry} {ci k : Nat} (hi : w.heap[ib]? = some (.map esi ci)) (hok : InnerOK G esi) (hti : P.underlying ti = some (.map ki tb)) (hki : P.underlying ki = some (.int .i64)) (hz : (zeroValue tb).run P w = .ok (.bool false) w) (hk : k < 4096) :
    (Instr.lookup ti (.map (some ib)) (.int .i64 (k : Nat)) true).run P w = .ok (.tuple #[.bool false, .bool false]) w ∨
    ∃ v, (Instr.lookup ti (.map (some ib)) (.int .i64 (k : Nat)) true).run P w = .ok (.tuple #[.bool v, .bool true]) w ∧ G k v := by
  have hS : ∀ x ∈ esi.toList, IKey x.key := fun x hx => by
    obtain ⟨k, v, a1, a2, _⟩ := hok x hx
    exact ⟨k, a2, a1⟩
  rcases mlook true (ikey hki) hti hz hi hS (key := .int .i64 (k : Nat)) ⟨k, rfl, hk⟩ with ⟨hr, _⟩ | ⟨x, hx, hkx, hr⟩
  · exact .inl (by simpa using hr)
  · obtain ⟨k', v, a1, a2, a3, a4⟩ := hok x hx
    have : k' = k := by
      rw [hkx] at a2
      simp only [Value.int.injEq, true_and] at a2
      omega
    subst this
    rw [a3] at hr
    exact .inr ⟨v, by simpa using hr, a4⟩
theorem inner_look_nil {k : Nat} (hti : P.underlying ti = some (.map ki tb)) (hki : P.underlying ki = some (.int .i64)) (hz : (zeroValue tb).run P w = .ok (.bool false) w) (hk : k < 4096) :
    (Instr.lookup ti (.map none) (.int .i64 (k : Nat)) true).run P w = .ok (.tuple #[.bool false, .bool false]) w := by
  have := mlook_nil true (ikey (w := w) hki) hti hz (key := .int .i64 (k : Nat)) ⟨k, rfl, hk⟩
  simpa using this

theorem fz_set {B b : Nat} {es es' : Array MapEntry} {ci ci' : Nat} (hb : w.heap[b]? = some (.map es ci)) (hB : B ≤ b) : Fz B w (setBlock w b (.map es' ci')) := by
  refine ⟨⟨rfl, rfl, rfl, by simp [setBlock], fun i hi => heap_setBlock_other hb _ (by omega)⟩, fun j c t k hj => ?_⟩
  by_cases hjb : j = b
  · subst hjb; rw [hb] at hj; cases hj
  · rw [heap_setBlock_other hb _ hjb]; exact hj

/-- keeping a formula's truth at a number -/
theorem Cache.put {ib k : Nat} {esi : Array MapEntry} {ci : Nat} (h : Cache G hb w) (hkept : Kept G hb nb ib w) (hlt : hb < ib) (hi : w.heap[ib]? = some (.map esi ci)) (hok : InnerOK (G nb) esi) (hti : P.underlying ti = some (.map ki tb)) (hki : P.underlying ki = some (.int .i64)) (hk : k < 4096) {v : Bool} (hv : G nb k v) :
    ∃ W, (Instr.mapUpdate ti (.map (some ib)) (.int .i64 (k : Nat)) (.bool v)).run P w = .ok () W ∧ Cache G hb W ∧ Fz hb w W := by
  have hS : ∀ x ∈ esi.toList, IKey x.key := fun x hx => by
    obtain ⟨k, v, a1, a2, _⟩ := hok x hx
    exact ⟨k, a2, a1⟩
  obtain ⟨es', clock', hr, hes, _⟩ := mput (ikey hki) hti hi hS (key := .int .i64 (k : Nat)) ⟨k, rfl, hk⟩ (.bool v)
  have hok' : InnerOK (G nb) es' := fun x hx => by
    rcases hes x hx with ⟨hx, _⟩ | ⟨h1, h2⟩
    · exact hok x hx
    · exact ⟨k, v, hk, h1, h2, hv⟩
  refine ⟨_, hr, ?_, fz_set hi (Nat.le_of_lt hlt)⟩
  obtain ⟨es, clock, h1, h2, h3⟩ := h.at_
  obtain ⟨es0, clock0, h1', x0, hx0, hk0, hv0⟩ := hkept
  rw [h1] at h1'
  simp only [Option.some.injEq, Obj.map.injEq] at h1'
  obtain ⟨rfl, rfl⟩ := h1'
  refine ⟨es, clock, by rw [heap_setBlock_other hi _ (by omega)]; exact h1, fun x hx => ?_, h3⟩
  obtain ⟨nb', ib', c', t', esi', ci', a1, a2, a3, a4, a5, a6⟩ := h2 x hx
  have hc : (setBlock w ib (.map es' clock')).heap[nb']? = some (.cells c' t' (0, 0)) := (fz_set (B := hb) hi (Nat.le_of_lt hlt)).cells _ _ _ _ a2
  by_cases hib : ib' = ib
  · subst hib
    have hkk := h3.1 x hx x0 hx0 (by rw [a3, hv0])
    rw [a1, hk0] at hkk
    simp only [kidV, Value.pointer.injEq, Option.some.injEq, Addr.mk.injEq] at hkk
    obtain ⟨rfl, _⟩ := hkk
    exact ⟨nb', ib', c', t', es', clock', a1, hc, a3, a4, heap_setBlock_same hi _, hok'⟩
  · exact ⟨nb', ib', c', t', esi', ci', a1, hc, a3, a4, by rw [heap_setBlock_other hi _ hib]; exact a5, a6⟩

/-- a new map for a formula -/
theorem Cache.grow (h : Cache G hb w) (hto : P.underlying tm = some (.map ko ti)) (hko : P.underlying ko = some (.pointer e)) (he : P.info? e = some j) (hsz : j.size ≠ 0) (hn : w.heap[nb]? = some (.cells c t (0, 0))) (hnb : nb < hb) :
    ∃ W, (Instr.mapUpdate tm (.map (some hb)) (kidV nb) (.map (some w.heap.size))).run P (w.alloc (.map #[] 0)) = .ok () W ∧ Cache G hb W ∧ Fz hb w W ∧ ∃ (es : Array MapEntry) (clock : Nat), W.heap[hb]? = some (.map es clock) ∧ ∃ x ∈ es.toList, x.key = kidV nb := by
  have hA := h.alloc (.map #[] 0)
  have hlt := h.lt
  obtain ⟨es, clock, h1, h2, h3⟩ := h.at_
  have hkeep : ∀ (i : Nat) (o : Obj), w.heap[i]? = some o → (w.alloc (.map #[] 0)).heap[i]? = some o := fun i o hi => (((Below.refl w.heap.size w).alloc (Nat.le_refl _) (.map #[] 0)).block i (Array.getElem?_eq_some_iff.1 hi).1).trans hi
  have h1' := hkeep _ _ h1
  have hS : ∀ x ∈ es.toList, PKey (w.alloc (.map #[] 0)) x.key := fun x hx => by
    obtain ⟨nb, ib, c, t, esi, ci, a1, a2, _⟩ := h2 x hx
    exact ⟨nb, c, t, a1, hkeep _ _ a2⟩
  obtain ⟨es', clock', hr, hes, x0, hx0, hk0, hv0⟩ := mput (pkey hko he hsz) hto h1' hS (key := kidV nb) ⟨nb, c, t, rfl, hkeep _ _ hn⟩ (.map (some w.heap.size))
  have hnew : (w.alloc (.map #[] 0)).heap[w.heap.size]? = some (.map #[] 0) := heap_alloc_new w _
  have hfz : Fz hb (w.alloc (.map #[] 0)) (setBlock (w.alloc (.map #[] 0)) hb (.map es' clock')) := fz_set h1' (Nat.le_refl _)
  have hset : ∀ i, i ≠ hb → (setBlock (w.alloc (.map #[] 0)) hb (.map es' clock')).heap[i]? = (w.alloc (.map #[] 0)).heap[i]? := fun i hi => heap_setBlock_other h1' _ hi
  refine ⟨_, hr, ⟨es', clock', heap_setBlock_same h1' _, fun x hx => ?_, fun x hx y hy hxy => ?_, fun x hx => ?_⟩, (Fz.alloc (Nat.le_of_lt hlt) _).trans hfz, es', clock', heap_setBlock_same h1' _, x0, hx0, hk0⟩
  · rcases hes x hx with ⟨hx, _⟩ | ⟨e1, e2⟩
    · obtain ⟨nb', ib', c', t', esi', ci', a1, a2, a3, a4, a5, a6⟩ := h2 x hx
      exact ⟨nb', ib', c', t', esi', ci', a1, hfz.cells _ _ _ _ (hkeep _ _ a2), a3, a4, by rw [hset _ (by omega)]; exact hkeep _ _ a5, a6⟩
    · exact ⟨nb, w.heap.size, c, t, #[], 0, e1, hfz.cells _ _ _ _ (hkeep _ _ hn), e2, hlt, by rw [hset _ (by omega)]; exact hnew, fun x hx => by simp at hx⟩
  · have old : ∀ z, z ∈ es.toList → z.val ≠ .map (some w.heap.size) := fun z hz e => by
      obtain ⟨nb', ib', c', t', esi', ci', a1, a2, a3, a4, a5, a6⟩ := h2 z hz
      rw [a3] at e
      have := (Array.getElem?_eq_some_iff.1 a5).1
      simp only [Value.map.injEq, Option.some.injEq] at e
      omega
    rcases hes x hx with ⟨hx', _⟩ | ⟨e1, e2⟩ <;> rcases hes y hy with ⟨hy', _⟩ | ⟨f1, f2⟩
    · exact h3.1 x hx' y hy' hxy
    · exact absurd (hxy.trans f2) (old x hx')
    · exact absurd (hxy.symm.trans e2) (old y hy')
    · rw [e1, f1]
  · rcases hes x hx with ⟨hx', _⟩ | ⟨e1, _⟩
    · exact h3.2 x hx'
    · exact ⟨nb, e1, hnb⟩

/-- behind that the formula's map is found -/
theorem Cache.found (h : Cache G hb w) (hto : P.underlying tm = some (.map ko ti)) (hko : P.underlying ko = some (.pointer e)) (he : P.info? e = some j) (hsz : j.size ≠ 0) (hz : (zeroValue ti).run P w = .ok (.map none) w) (hn : w.heap[nb]? = some (.cells c t (0, 0)))
    (hx : ∃ (es : Array MapEntry) (clock : Nat), w.heap[hb]? = some (.map es clock) ∧ ∃ x ∈ es.toList, x.key = kidV nb) :
    ∃ (ib : Nat) (esi : Array MapEntry) (ci : Nat), (Instr.lookup tm (.map (some hb)) (kidV nb) false).run P w = .ok (.map (some ib)) w ∧ Kept G hb nb ib w ∧ hb < ib ∧ w.heap[ib]? = some (.map esi ci) ∧ InnerOK (G nb) esi := by
  obtain ⟨es, clock, h1, h2, h3⟩ := h.at_
  obtain ⟨es0, clock0, h1', x0, hx0, hk0⟩ := hx
  rw [h1] at h1'
  simp only [Option.some.injEq, Obj.map.injEq] at h1'
  obtain ⟨rfl, rfl⟩ := h1'
  have hS : ∀ x ∈ es.toList, PKey w x.key := fun x hx => by
    obtain ⟨nb, ib, c, t, esi, ci, a1, a2, _⟩ := h2 x hx
    exact ⟨nb, c, t, a1, a2⟩
  rcases mlook false (pkey hko he hsz) hto hz h1 hS (key := kidV nb) ⟨nb, c, t, rfl, hn⟩ with ⟨_, hno⟩ | ⟨x, hx, hk, hr⟩
  · exact absurd hk0 (hno x0 hx0)
  · obtain ⟨nb', ib, c', t', esi, ci, a1, a2, a3, a4, a5, a6⟩ := h2 x hx
    have hnb : nb' = nb := by
      rw [hk] at a1
      simp only [kidV, Value.pointer.injEq, Option.some.injEq, Addr.mk.injEq] at a1
      exact a1.1.symm
    subst hnb
    rw [a3] at hr
    exact ⟨ib, esi, ci, by simpa using hr, ⟨es, clock, h1, x, hx, hk, a3⟩, a4, a5, a6⟩

/-- a new holder's map -/
theorem cache_new (G : Nat → Nat → Bool → Prop) (w : World) : Cache G w.heap.size (w.alloc (.map #[] 0)) :=
  ⟨#[], 0, heap_alloc_new w _, fun x hx => by simp at hx, fun x hx => by simp at hx, fun x hx => by simp at hx⟩

end

end Go.Proofs.YtpaleogkgfclnaaDoor
