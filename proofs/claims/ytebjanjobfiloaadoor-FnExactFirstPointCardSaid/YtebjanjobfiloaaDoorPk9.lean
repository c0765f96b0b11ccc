/-
  Laws of the functions that the claim reaches, one after the other (packed by a program of the prover's: WFirst). Conditions: texts below the reach.
-/
import Derived.Test.YtebjanjobfiloaaDoorPk7
import Derived.Test.YtebjanjobfiloaaDoorPk8
import Derived.Test.YtebjanjobfiloaaDoorPk6
set_option linter.unusedSimpArgs false
set_option linter.unusedVariables false

namespace Go.Proofs.YtebjanjobfiloaaDoor
open Go.RowKit
open Pl
set_option linter.unusedSimpArgs false
set_option linter.unusedVariables false

set_option maxHeartbeats 4000000 in
set_option maxRecDepth 100000 in
theorem FnExactFirstPoint_walk (i : Int) (s r : ByteArray) (f : ByteArray) (x : Int) (w : World) (hi : (Lit.int .i64 i).wf = true) (hs : s.size ≤ maxLen) (hr : r.size ≤ maxLen) (h_f : f.size ≤ maxLen) (h_x : (Lit.int .i64 x).wf = true) :
    Calls Tryd.prog 9 #[stV i s r, .string f, .int .i64 x] w fun e w' => e = .returned (.bool true) ∧ Below w.heap.size w w' := by
  have Hs := Lib.hid hs
  have Hr := Lib.hid hr
  clear hs hr hi
  by_cases hg0 : f.size ≤ 1048576
  case neg =>
    have hgi : 1048576 < (f.size : Int) := by omega
    clear Hs Hr
    go_enter Tryd.func9, Tryd.ntmps9
    go_wp2_with fail
    go_ret
    exact ⟨rfl, (Below.refl _ _).alloc (Nat.le_refl _) _⟩
  case pos =>
  have hgi0 : (f.size : Int) ≤ 1048576 := by omega
  have h8 := fst_le i s r f x
  have c1' := fun W => FirstPoint_spec i s r f x W Hs.out Hr.out h_f
  have c2' := fun W => FirstPoint_impl i s r f x W Hs.out Hr.out
  obtain ⟨R, hR⟩ : ∃ R, R = fstV i s r f x := ⟨_, rfl⟩
  obtain ⟨VB, hVB⟩ : ∃ VB, VB = fstB i s r f x := ⟨_, rfl⟩
  simp only [← hR, ← hVB] at c1' c2'
  rw [← hR] at h8
  have hbb : (VB != VB) = false := by cases VB <;> rfl
  have c1 : ∀ W, Calls Tryd.prog 28 #[stV i s r, .string f, .int .i64 x] W fun e w' => (∃ A cap, e = .returned (.tuple #[.slice A R.length cap, .bool VB]) ∧ LRow w' A (natsI R) ∧ ∀ g, A = some ⟨g, 0, none⟩ → g < w'.heap.size) ∧ Below W.heap.size W w' := c1'
  have c2 : ∀ W, Calls Tryd.prog 29 #[stV i s r, .string f, .int .i64 x] W fun e w' => (∃ A cap, e = .returned (.tuple #[.slice A R.length cap, .bool VB]) ∧ w'.ownsRow W.heap.size 3 1 (.slice A R.length cap) R.length (intsV (natsI R))) ∧ Below W.heap.size W w' := fun W =>
    (c2' W).mono fun e w' ⟨⟨v, h1, h2⟩, h3⟩ => by
      obtain ⟨A, cap, rfl, _⟩ := own_open h2
      exact ⟨⟨A, cap, h1, h2⟩, h3⟩
  have cm : ∀ (base : Nat) (A : Option Addr) (cap : Nat) (W : World), W.ownsRow base 3 1 (.slice A R.length cap) R.length (intsV (natsI R)) → base ≤ W.heap.size → Calls Tryd.prog 22 #[.slice A R.length cap, .int .i64 1] W fun e w' => e = .returned (.int .i64 (1 + (R.length : Int))) ∧ w'.ownsRow base 3 1 (.slice A R.length cap) R.length (intsV (marksI R.length)) ∧ Below base W w' :=
    fun base A cap W h hb => markIntS_calls base A R.length cap _ W (by omega) h hb
  have ch : ∀ (A : Option Addr) (cap : Nat) (W : World), LRow W A (marksI R.length) → Calls Tryd.prog 23 #[.slice A R.length cap, .int .i64 1] W fun e w' => e = .returned (.int .i64 (1 + (R.length : Int))) ∧ W = w' :=
    fun A cap W h => heldIntS_calls A R.length cap W (by omega) h
  have ce : ∀ (A C : Option Addr) (c1 c2 : Nat) (W : World), LRow W A (natsI R) → LRow W C (natsI R) → Calls Tryd.prog 15 #[.slice A R.length c1, .slice C R.length c2] W fun e w' => e = .returned (.bool true) ∧ Below W.heap.size W w' := fun A C c1 c2 W h1 h2 => by
    have h := eqIntS_calls A C c1 c2 (natsI R) W (by rw [natsI_len]; omega) h1 h2
    rwa [natsI_len] at h
  have C1 := Lib.hid c1
  have C2 := Lib.hid c2
  have CM := Lib.hid cm
  have CH := Lib.hid ch
  have CE := Lib.hid ce
  have Xa := Lib.hid (Bx.new w 23 #[.int .i64 i, .string s, .string r])
  have B0 := Lib.hid ((Below.refl w.heap.size w).alloc (Nat.le_refl _) (.cells #[.int .i64 i, .string s, .string r] 23))
  clear c1 c2 cm ch ce c1' c2' hR hVB
  go_enter Tryd.func9, Tryd.ntmps9
  obtain ⟨a0, a1, a2⟩ := box_load Xa.out
  go_wp2_with fail
  refine (szStructure_calls i s r 1048576 _ (Nat.le_refl _) Hs.out Hr.out).mono ?_
  clear a0 a1 a2
  rintro e w1 ⟨⟨m, rfl, hm⟩, hz⟩
  have B2 := Lib.hid (B0.out.trans (hz.mono B0.out.size))
  have Xa2 := Lib.hid (Xa.out.call hz)
  clear hm
  clear hz
  obtain ⟨a0, a1, a2⟩ := box_load Xa2.out
  by_cases h0 : 0 ≤ m
  · have hn : ¬ m < 0 := by omega
    have hR0 : (0 : Int) ≤ (R.length : Int) := by omega
    have hRb : (R.length : Int) ≤ 8 := by omega
    go_wp2_with fail
    refine (toStructure_calls i s r _).mono ?_
    clear a0 a1 a2
    rintro e w2 ⟨rfl, hz⟩
    have B3 := Lib.hid (B2.out.trans (hz.mono B2.out.size))
    have Xa3 := Lib.hid (Xa2.out.call hz)
    clear hz
    obtain ⟨a0, a1, a2⟩ := box_load Xa3.out
    go_wp2_with fail
    refine (C1.out _).mono ?_
    clear a0 a1 a2
    rintro e w3 ⟨⟨A3, cap3, rfl, ho, hg⟩, hz⟩
    have B4 := Lib.hid (B3.out.trans (hz.mono B3.out.size))
    have Xa4 := Lib.hid (Xa3.out.call hz)
    have L3 := Lib.hid ho
    have G3 := Lib.hid hg
    clear ho hg
    clear hz
    obtain ⟨a0, a1, a2⟩ := box_load Xa4.out
    go_wp2_with fail
    refine (toStructure_calls i s r _).mono ?_
    clear a0 a1 a2
    rintro e w4 ⟨rfl, hz⟩
    have B5 := Lib.hid (B4.out.trans (hz.mono B4.out.size))
    have Xa5 := Lib.hid (Xa4.out.call hz)
    have Lu5 := Lib.hid (L3.out.call hz)
    have Hz4 := Lib.hid hz.size
    clear hz
    obtain ⟨a0, a1, a2⟩ := box_load Xa5.out
    go_wp2_with fail
    refine (C2.out _).mono ?_
    clear a0 a1 a2
    rintro e w5 ⟨⟨A5, cap5, rfl, ho⟩, hz⟩
    have B6 := Lib.hid (B5.out.trans (hz.mono B5.out.size))
    have Xa6 := Lib.hid (Xa5.out.call hz)
    have Lu6 := Lib.hid (Lu5.out.call hz)
    have O5 := Lib.hid ho
    have Hz5 := Lib.hid hz.size
    clear ho
    clear hz
    obtain ⟨a0, a1, a2⟩ := box_load Xa6.out
    go_wp2_with fail
    refine (CE.out A5 _ _ _ _ (LRow_of O5.out) Lu6.out).mono ?_
    clear a0 a1 a2
    rintro e w6 ⟨rfl, hz⟩
    have B7 := Lib.hid (B6.out.trans (hz.mono B6.out.size))
    have Xa7 := Lib.hid (Xa6.out.call hz)
    have Lu7 := Lib.hid (Lu6.out.call hz)
    have O6 := Lib.hid (own_kp (B := 0) O5.out (.of_below hz) (Nat.zero_le _))
    have Hz6 := Lib.hid (Nat.le_trans Hz5.out hz.size)
    clear hz
    obtain ⟨a0, a1, a2⟩ := box_load Xa7.out
    go_wp2_with fail
    refine (CM.out w4.heap.size _ _ _ O6.out Hz6.out).mono ?_
    clear a0 a1 a2
    rintro e w7 ⟨rfl, ho, hz⟩
    have B7 := Lib.hid (B7.out.trans (hz.mono B5.out.size))
    have L7 := Lib.hid (Lu7.out.below (fun g hg => Nat.lt_of_lt_of_le (G3.out g hg) Hz4.out) hz)
    have M7 := Lib.hid (LRow_of ho)
    have X7 := Lib.hid (Xa7.out.below hz Xa5.out.lt)
    clear hz ho
    go_wp2_with fail
    refine (CH.out _ _ _ M7.out).mono ?_
    rintro e w8 ⟨rfl, rfl⟩
    obtain ⟨a0, a1, a2⟩ := box_load X7.out
    go_wp2_with fail
    refine (toStructure_calls i s r _).mono ?_
    clear a0 a1 a2
    rintro e w9 ⟨rfl, hz⟩
    have B21 := Lib.hid (B7.out.trans (hz.mono B7.out.size))
    have Xa21 := Lib.hid (X7.out.call hz)
    have Lu21 := Lib.hid (L7.out.call hz)
    have Lm21 := Lib.hid (M7.out.call hz)
    clear hz
    obtain ⟨a0, a1, a2⟩ := box_load Xa21.out
    go_wp2_with fail
    refine (C2.out _).mono ?_
    clear a0 a1 a2
    rintro e w10 ⟨⟨A10, cap10, rfl, ho⟩, hz⟩
    have B22 := Lib.hid (B21.out.trans (hz.mono B21.out.size))
    have Xa22 := Lib.hid (Xa21.out.call hz)
    have Lu22 := Lib.hid (Lu21.out.call hz)
    have Lm22 := Lib.hid (Lm21.out.call hz)
    have O10 := Lib.hid (LRow_of ho)
    clear ho
    clear hz
    obtain ⟨a0, a1, a2⟩ := box_load Xa22.out
    go_wp2_with fail
    refine (CE.out A10 _ _ _ _ O10.out Lu22.out).mono ?_
    clear a0 a1 a2
    rintro e w11 ⟨rfl, hz⟩
    have B23 := Lib.hid (B22.out.trans (hz.mono B22.out.size))
    have Xa23 := Lib.hid (Xa22.out.call hz)
    have Lu23 := Lib.hid (Lu22.out.call hz)
    have Lm23 := Lib.hid (Lm22.out.call hz)
    clear hz
    obtain ⟨a0, a1, a2⟩ := box_load Xa23.out
    go_wp2_with fail
    refine (CH.out _ _ _ Lm23.out).mono ?_
    rintro e w12 ⟨rfl, rfl⟩
    go_wp2_with fail
    go_ret
    exact ⟨rfl, B23.out⟩
  · go_wp2_with fail
    go_ret
    exact ⟨rfl, B2.out⟩

end Go.Proofs.YtebjanjobfiloaaDoor
