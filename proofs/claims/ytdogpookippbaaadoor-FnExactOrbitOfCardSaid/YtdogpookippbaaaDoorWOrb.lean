/-
  OrbitOf of the reference, and the walk of FnExactOrbitOf. Condition: texts below the reach.
-/
import Derived.Test.YtdogpookippbaaaDoorOrbS
import Derived.Test.YtdogpookippbaaaDoorMark
namespace Go.Proofs.YtdogpookippbaaaDoor
open Go.RowKit
open Pl
set_option linter.unusedSimpArgs false
set_option linter.unusedVariables false

theorem orb_none (w : World) (c : Array Value) (V : World) (h : Below (w.heap.size + 2) ((w.alloc (.cells c 26)).alloc (.cells #[] 3)) V) :
    V.ownsRow w.heap.size 3 1 (.slice (some ⟨w.heap.size + 1, 0, none⟩) 0 0) 0 [] ∧ Below w.heap.size w V := by
  have hb : Bx V (w.heap.size + 1) 3 #[] := (bx_two w (.cells c 26) #[] (t := 3)).below h (by omega)
  exact ⟨⟨rfl, .inr ⟨_, 0, #[], rfl, by omega, hb, Nat.le_refl _, Nat.zero_le _, rfl, rfl⟩⟩, (((Below.refl w.heap.size w).alloc (Nat.le_refl _) _).alloc (by simp) _).trans (h.mono (by omega))⟩

set_option maxHeartbeats 1000000 in
theorem OrbitOf_spec (i : Int) (s r : ByteArray) (x : Int) (w : World) (hs : s.size ≤ maxLen) (hr : r.size ≤ maxLen) :
    Calls Tryd.prog 19 #[stV i s r, .int .i64 x] w fun e w' => (∃ v, e = .returned v ∧ w'.ownsRow w.heap.size 3 1 v (orbV i s r x).length (intsV (natsI (orbV i s r x)))) ∧ Below w.heap.size w w' := by
  have hv : ∀ W, Calls Tryd.prog 39 #[stV i s r] W fun e w' => e = .returned (.bool (okB i s r)) ∧ Below W.heap.size W w' := fun W => StructureValid_spec i s r W hs hr
  rcases ok_cases i s r with hok | ⟨a, ha, rfl, rfl, rfl⟩
  · have ho : orbV i s r x = [] := by unfold orbV; rw [hok]; rfl
    rw [ho]
    rw [hok] at hv
    have Hv := Lib.hid hv
    have B0 := Lib.hid (Below.refl (w.heap.size + 2) ((w.alloc (.cells #[.int .i64 i, .string s, .string r] 26)).alloc (.cells #[] 3)))
    obtain ⟨k0, k1, k2⟩ := box_load ((Bx.new w 26 #[.int .i64 i, .string s, .string r]).alloc (.cells #[] 3))
    clear hv hs hr hok ho
    go_enter Tryd.func19, Tryd.ntmps19
    go_wp2_with fail
    refine (Hv.out _).mono ?_
    rintro e w1 ⟨rfl, hz⟩
    have B1 := Lib.hid (B0.out.trans (hz.mono (by simp)))
    clear hz k0 k1 k2
    go_wp2_with fail
    go_ret
    exact ⟨⟨_, rfl, (orb_none w _ _ B1.out).1⟩, (orb_none w _ _ B1.out).2⟩
  · have hok := okB_true ha
    rcases el_cases a.n x with hx | ⟨k, rfl, hk, hx⟩
    · have ho : orbV a.n (bs a.set) (bs a.rel) x = [] := by unfold orbV; rw [hok, hx]; rfl
      rw [ho]
      rw [hok] at hv
      have hin : ∀ W, Calls Tryd.prog 46 #[.int .i64 x, .int .i64 0, .int .i64 ((a.n : Int) - 1)] W fun e w' => e = .returned (.bool false) ∧ W = w' := fun W => by
        have h := l1In_calls x 0 ((a.n : Int) - 1) W
        rwa [el_in ha.lo, hx] at h
      have hn1 := ha.lo
      have hn8 := ha.hi
      have Hv := Lib.hid hv
      have Hin := Lib.hid hin
      have B0 := Lib.hid (Below.refl (w.heap.size + 2) ((w.alloc (.cells #[.int .i64 a.n, .string (bs a.set), .string (bs a.rel)] 26)).alloc (.cells #[] 3)))
      have xa := (Bx.new w 26 #[.int .i64 a.n, .string (bs a.set), .string (bs a.rel)]).alloc (.cells #[] 3)
      obtain ⟨k0, k1, k2⟩ := box_load xa
      have Xa := Lib.hid xa
      have hw1 : IntKind.i64.wrap ((a.n : Int) - 1) = (a.n : Int) - 1 := IntWalk.i64_in _ (by omega)
      clear hv hin hs hr hok ho hx xa
      clear ha
      go_enter Tryd.func19, Tryd.ntmps19
      go_wp2_with fail
      refine (Hv.out _).mono ?_
      rintro e w1 ⟨rfl, hz⟩
      have B1 := Lib.hid (B0.out.trans (hz.mono (by simp)))
      have xa1 := Xa.out.call hz
      clear hz k0 k1 k2
      obtain ⟨k0, k1, k2⟩ := box_load xa1
      clear xa1
      go_wp2_with fail
      refine (Hin.out _).mono ?_
      rintro e w2 ⟨rfl, rfl⟩
      clear hw1 k0 k1 k2
      go_wp2_with fail
      go_ret
      exact ⟨⟨_, rfl, (orb_none w _ _ B1.out).1⟩, (orb_none w _ _ B1.out).2⟩
    · have ho : orbV a.n (bs a.set) (bs a.rel) (k : Nat) = orbS a k := by unfold orbV; rw [hok, hx, ofSt_eq, orbS_eq hk]; rfl
      rw [ho]
      exact OrbitOf_ok a ha k hk w hs hr

theorem orbV_le (i : Int) (s r : ByteArray) (x : Int) : (orbV i s r x).length ≤ 8 := by
  unfold orbV
  split
  · rename_i h
    rcases ok_cases i s r with h1 | ⟨a, ha, rfl, rfl, rfl⟩
    · rw [h1] at h; cases h
    · have h8 := ha.hi
      rw [ofSt_eq]
      unfold orbL
      exact Nat.le_trans (List.length_filter_le _ _) (by simpa using h8)
  · simp

theorem own_slice2 {W : World} {base : Nat} {v : Value} {o : List Nat} (h : W.ownsRow base 3 1 v o.length (intsV (natsI o))) : ∃ A cap, v = .slice A o.length cap := by
  obtain ⟨A, cap, h, _⟩ := own_open h
  exact ⟨A, cap, h⟩

set_option maxHeartbeats 4000000 in
set_option maxRecDepth 100000 in
theorem FnExactOrbitOf_walk (i : Int) (s r : ByteArray) (x : Int) (w : World) (hi : (Lit.int .i64 i).wf = true) (hs : s.size ≤ maxLen) (hr : r.size ≤ maxLen) (hx : (Lit.int .i64 x).wf = true) :
    Calls Tryd.prog 5 #[stV i s r, .int .i64 x] w fun e w' => e = .returned (.bool true) ∧ Below w.heap.size w w' := by
  have h8 := orbV_le i s r x
  have c1 : ∀ W, Calls Tryd.prog 19 #[stV i s r, .int .i64 x] W fun e w' => (∃ A cap, e = .returned (.slice A (orbV i s r x).length cap) ∧ w'.ownsRow W.heap.size 3 1 (.slice A (orbV i s r x).length cap) (orbV i s r x).length (intsV (natsI (orbV i s r x)))) ∧ Below W.heap.size W w' := fun W =>
    (OrbitOf_spec i s r x W hs hr).mono fun e w' ⟨⟨v, h1, h2⟩, h3⟩ => by
      obtain ⟨A, cap, rfl⟩ := own_slice2 h2
      exact ⟨⟨A, cap, h1, h2⟩, h3⟩
  have c2 : ∀ W, Calls Tryd.prog 20 #[stV i s r, .int .i64 x] W fun e w' => (∃ A cap, e = .returned (.slice A (orbV i s r x).length cap) ∧ w'.ownsRow W.heap.size 3 1 (.slice A (orbV i s r x).length cap) (orbV i s r x).length (intsV (natsI (orbV i s r x)))) ∧ Below W.heap.size W w' := fun W =>
    (OrbitOf_impl i s r x W hs hr).mono fun e w' ⟨⟨v, h1, h2⟩, h3⟩ => by
      obtain ⟨A, cap, rfl⟩ := own_slice2 h2
      exact ⟨⟨A, cap, h1, h2⟩, h3⟩
  generalize orbV i s r x = R at *
  have cm : ∀ (base : Nat) (A : Option Addr) (cap : Nat) (W : World), W.ownsRow base 3 1 (.slice A R.length cap) R.length (intsV (natsI R)) → base ≤ W.heap.size → Calls Tryd.prog 17 #[.slice A R.length cap, .int .i64 1] W fun e w' => e = .returned (.int .i64 (1 + (R.length : Int))) ∧ w'.ownsRow base 3 1 (.slice A R.length cap) R.length (intsV (marksI R.length)) ∧ Below base W w' :=
    fun base A cap W h hb => markIntS_calls base A R.length cap _ W (by omega) h hb
  have ch : ∀ (A : Option Addr) (cap : Nat) (W : World), LRow W A (marksI R.length) → Calls Tryd.prog 18 #[.slice A R.length cap, .int .i64 1] W fun e w' => e = .returned (.int .i64 (1 + (R.length : Int))) ∧ W = w' :=
    fun A cap W h => heldIntS_calls A R.length cap W (by omega) h
  have ce : ∀ (A C : Option Addr) (c1 c2 : Nat) (W : World), LRow W A (natsI R) → LRow W C (natsI R) → Calls Tryd.prog 16 #[.slice A R.length c1, .slice C R.length c2] W fun e w' => e = .returned (.bool true) ∧ Below W.heap.size W w' := fun A C c1 c2 W h1 h2 => by
    have h := eqIntS_calls A C c1 c2 (natsI R) W (by rw [natsI_len]; omega) h1 h2
    rwa [natsI_len] at h
  have Hs := Lib.hid hs
  have Hr := Lib.hid hr
  have C1 := Lib.hid c1
  have C2 := Lib.hid c2
  have CM := Lib.hid cm
  have CH := Lib.hid ch
  have CE := Lib.hid ce
  clear c1 c2 cm ch ce hs hr hi hx
  go_enter Tryd.func5, Tryd.ntmps5
  go_wp2_with fail
  refine (szStructure_calls i s r 1048576 _ (Nat.le_refl _) Hs.out Hr.out).mono ?_
  rintro e w1 ⟨⟨m, rfl, hm⟩, hb⟩
  have HB1 := Lib.hid (box_next (box_refl w _) hb)
  clear hb hm
  obtain ⟨k0, k1, k2⟩ := box3 HB1.out
  by_cases h0 : 0 ≤ m
  · have hn : ¬ m < 0 := by omega
    have hR0 : (0 : Int) ≤ (R.length : Int) := by omega
    have hRb : (R.length : Int) ≤ 8 := by omega
    go_wp2_with fail
    refine (toStructure_calls i s r _).mono ?_
    rintro e w2 ⟨rfl, hz⟩
    have HB2 := Lib.hid (box_next HB1.out hz)
    clear hz k0 k1 k2
    go_wp2_with fail
    refine (C1.out _).mono ?_
    rintro e w3 ⟨⟨A3, cap3, rfl, ho⟩, hz⟩
    have HB3 := Lib.hid (box_next HB2.out hz)
    have L3 := Lib.hid (LRow_of ho)
    have G3 := Lib.hid (show ∀ g, A3 = some ⟨g, 0, none⟩ → g < w3.heap.size from fun g hg => (ho.lt g (by rw [hg]; rfl)).2)
    clear hz ho
    obtain ⟨k0, k1, k2⟩ := box3 HB3.out
    go_wp2_with fail
    refine (toStructure_calls i s r _).mono ?_
    rintro e w4 ⟨rfl, hz⟩
    have HB4 := Lib.hid (box_next HB3.out hz)
    have L4 := Lib.hid (L3.out.call hz)
    have hs34 := hz.size
    clear hz k0 k1 k2
    go_wp2_with fail
    refine (C2.out _).mono ?_
    rintro e w5 ⟨⟨A5, cap5, rfl, ho⟩, hz⟩
    have HB5 := Lib.hid (box_next HB4.out hz)
    have L5 := Lib.hid (L4.out.call hz)
    have O5 := Lib.hid ho
    have hs45 := hz.size
    clear hz ho
    go_wp2_with fail
    refine (CE.out A5 _ _ _ _ (LRow_of O5.out) L5.out).mono ?_
    rintro e w6 ⟨rfl, hz⟩
    have HB6 := Lib.hid (box_next HB5.out hz)
    have L6 := Lib.hid (L5.out.call hz)
    have O6 := Lib.hid (own_kp (B := 0) O5.out (.of_below hz) (Nat.zero_le _))
    have hs46 : w4.heap.size ≤ w6.heap.size := Nat.le_trans hs45 hz.size
    clear hz
    go_wp2_with fail
    refine (CM.out w4.heap.size _ _ _ O6.out hs46).mono ?_
    rintro e w7 ⟨rfl, ho, hz⟩
    have HB7 := Lib.hid (HB6.out.trans (hz.mono (by have := HB4.out.size; simpa using this)))
    have L7 := Lib.hid (L6.out.below (fun g hg => Nat.lt_of_lt_of_le (G3.out g hg) hs34) hz)
    have M7 := Lib.hid (LRow_of ho)
    clear hz ho
    go_wp2_with fail
    refine (CH.out _ _ _ M7.out).mono ?_
    rintro e w8 ⟨rfl, rfl⟩
    obtain ⟨k0, k1, k2⟩ := box3 HB7.out
    go_wp2_with fail
    refine (toStructure_calls i s r _).mono ?_
    rintro e w9 ⟨rfl, hz⟩
    have HB9 := Lib.hid (box_next HB7.out hz)
    have L9 := Lib.hid (L7.out.call hz)
    have M9 := Lib.hid (M7.out.call hz)
    clear hz k0 k1 k2
    go_wp2_with fail
    refine (C2.out _).mono ?_
    rintro e w10 ⟨⟨A10, cap10, rfl, ho⟩, hz⟩
    have HB10 := Lib.hid (box_next HB9.out hz)
    have L10 := Lib.hid (L9.out.call hz)
    have M10 := Lib.hid (M9.out.call hz)
    have O10 := Lib.hid (LRow_of ho)
    clear hz ho
    go_wp2_with fail
    refine (CE.out A10 _ _ _ _ O10.out L10.out).mono ?_
    rintro e w11 ⟨rfl, hz⟩
    have HB11 := Lib.hid (box_next HB10.out hz)
    have M11 := Lib.hid (M10.out.call hz)
    clear hz
    go_wp2_with fail
    refine (CH.out _ _ _ M11.out).mono ?_
    rintro e w12 ⟨rfl, rfl⟩
    go_wp2_with fail
    go_ret
    exact ⟨rfl, box_down HB11.out⟩
  · go_wp2_with fail
    go_ret
    exact ⟨rfl, box_down HB1.out⟩

end Go.Proofs.YtdogpookippbaaaDoor
