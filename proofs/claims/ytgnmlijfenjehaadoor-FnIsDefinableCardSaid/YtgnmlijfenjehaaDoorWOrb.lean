/-
  OrbitOf of the reference, and the walk of FnExactOrbitOf. Condition: texts below the reach.
-/
import Derived.Test.YtgnmlijfenjehaaDoorOrbS
import Derived.Test.YtgnmlijfenjehaaDoorMark
namespace Go.Proofs.YtgnmlijfenjehaaDoor
open Go.RowKit
open Pl
set_option linter.unusedSimpArgs false
set_option linter.unusedVariables false

theorem orb_none (w : World) (c : Array Value) (V : World) (h : Below (w.heap.size + 2) ((w.alloc (.cells c 27)).alloc (.cells #[] 3)) V) :
    V.ownsRow w.heap.size 3 1 (.slice (some ⟨w.heap.size + 1, 0, none⟩) 0 0) 0 [] ∧ Below w.heap.size w V := by
  have hb : Bx V (w.heap.size + 1) 3 #[] := (bx_two w (.cells c 27) #[] (t := 3)).below h (by omega)
  exact ⟨⟨rfl, .inr ⟨_, 0, #[], rfl, by omega, hb, Nat.le_refl _, Nat.zero_le _, rfl, rfl⟩⟩, (((Below.refl w.heap.size w).alloc (Nat.le_refl _) _).alloc (by simp) _).trans (h.mono (by omega))⟩

set_option maxHeartbeats 1000000 in
theorem OrbitOf_spec (i : Int) (s r : ByteArray) (x : Int) (w : World) (hs : s.size ≤ maxLen) (hr : r.size ≤ maxLen) :
    Calls Tryd.prog 29 #[stV i s r, .int .i64 x] w fun e w' => (∃ v, e = .returned v ∧ w'.ownsRow w.heap.size 3 1 v (orbV i s r x).length (intsV (natsI (orbV i s r x)))) ∧ Below w.heap.size w w' := by
  have hv : ∀ W, Calls Tryd.prog 28 #[stV i s r] W fun e w' => e = .returned (.bool (okB i s r)) ∧ Below W.heap.size W w' := fun W => StructureValid_spec i s r W hs hr
  rcases ok_cases i s r with hok | ⟨a, ha, rfl, rfl, rfl⟩
  · have ho : orbV i s r x = [] := by unfold orbV; rw [hok]; rfl
    rw [ho]
    rw [hok] at hv
    have Hv := Lib.hid hv
    have B0 := Lib.hid (Below.refl (w.heap.size + 2) ((w.alloc (.cells #[.int .i64 i, .string s, .string r] 27)).alloc (.cells #[] 3)))
    obtain ⟨k0, k1, k2⟩ := box_load ((Bx.new w 27 #[.int .i64 i, .string s, .string r]).alloc (.cells #[] 3))
    clear hv hs hr hok ho
    go_enter Tryd.func29, Tryd.ntmps29
    go_wp2_with fail
    refine (Hv.out _).mono ?_
    rintro e w1 ⟨rfl, hz⟩
    have B1 := Lib.hid (B0.out.trans (hz.mono (by simp)))
    clear hz k0 k1 k2
    go_wp2_with fail
    go_ret
    exact ⟨⟨_, rfl, (orb_none w _ _ B1.out).1⟩, (orb_none w _ _ B1.out).2⟩
  · have hok := okB_true ha
    rcases el_cases a.n x with hx | ⟨k, rfl, hk, hx⟩
    · have ho : orbV a.n (bs a.set) (bs a.rel) x = [] := by unfold orbV; rw [hok, hx]; rfl
      rw [ho]
      rw [hok] at hv
      have hin : ∀ W, Calls Tryd.prog 48 #[.int .i64 x, .int .i64 0, .int .i64 ((a.n : Int) - 1)] W fun e w' => e = .returned (.bool false) ∧ W = w' := fun W => by
        have h := l1In_calls x 0 ((a.n : Int) - 1) W
        rwa [el_in ha.lo, hx] at h
      have hn1 := ha.lo
      have hn8 := ha.hi
      have Hv := Lib.hid hv
      have Hin := Lib.hid hin
      have B0 := Lib.hid (Below.refl (w.heap.size + 2) ((w.alloc (.cells #[.int .i64 a.n, .string (bs a.set), .string (bs a.rel)] 27)).alloc (.cells #[] 3)))
      have xa := (Bx.new w 27 #[.int .i64 a.n, .string (bs a.set), .string (bs a.rel)]).alloc (.cells #[] 3)
      obtain ⟨k0, k1, k2⟩ := box_load xa
      have Xa := Lib.hid xa
      have hw1 : IntKind.i64.wrap ((a.n : Int) - 1) = (a.n : Int) - 1 := IntWalk.i64_in _ (by omega)
      clear hv hin hs hr hok ho hx xa
      clear ha
      go_enter Tryd.func29, Tryd.ntmps29
      go_wp2_with fail
      refine (Hv.out _).mono ?_
      rintro e w1 ⟨rfl, hz⟩
      have B1 := Lib.hid (B0.out.trans (hz.mono (by simp)))
      have xa1 := Xa.out.call hz
      clear hz k0 k1 k2
      obtain ⟨k0, k1, k2⟩ := box_load xa1
      clear xa1
      go_wp2_with fail
      refine (Hin.out _).mono ?_
      rintro e w2 ⟨rfl, rfl⟩
      clear hw1 k0 k1 k2
      go_wp2_with fail
      go_ret
      exact ⟨⟨_, rfl, (orb_none w _ _ B1.out).1⟩, (orb_none w _ _ B1.out).2⟩
    · have ho : orbV a.n (bs a.set) (bs a.rel) (k : Nat) = orbS a k := by unfold orbV; rw [hok, hx, ofSt_eq, orbS_eq hk]; rfl
      rw [ho]
      exact OrbitOf_ok a ha k hk w hs hr

theorem orbV_le (i : Int) (s r : ByteArray) (x : Int) : (orbV i s r x).length ≤ 8 := by
  unfold orbV
  split
  · rename_i h
    rcases ok_cases i s r with h1 | ⟨a, ha, rfl, rfl, rfl⟩
    · rw [h1] at h; cases h
    · have h8 := ha.hi
      rw [ofSt_eq]
      unfold orbL
      exact Nat.le_trans (List.length_filter_le _ _) (by simpa using h8)
  · simp

theorem own_slice2 {W : World} {base : Nat} {v : Value} {o : List Nat} (h : W.ownsRow base 3 1 v o.length (intsV (natsI o))) : ∃ A cap, v = .slice A o.length cap := by
  obtain ⟨A, cap, h, _⟩ := own_open h
  exact ⟨A, cap, h⟩

end Go.Proofs.YtgnmlijfenjehaaDoor
