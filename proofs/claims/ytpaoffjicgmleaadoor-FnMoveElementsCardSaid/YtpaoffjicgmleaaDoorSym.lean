/-
  CountSymmetries of the reference. Condition: texts below the reach.
-/
import Derived.Test.YtpaoffjicgmleaaDoorSame
namespace Go.Proofs.YtpaoffjicgmleaaDoor
open Go.RowKit
open Pl
set_option linter.unusedSimpArgs false
set_option linter.unusedVariables false

set_option maxHeartbeats 1000000 in
theorem CountSymmetries_spec (i : Int) (s r : ByteArray) (w : World) (hs : s.size ≤ maxLen) (hr : r.size ≤ maxLen) :
    Calls Tryd.prog 37 #[stV i s r] w fun e w' => e = .returned (.int .i64 (symV i s r)) ∧ Below w.heap.size w w' := by
  have hc : ∀ W, Calls Tryd.prog 57 #[stV i s r] W fun e w' => e = .returned (.bool (okB i s r)) ∧ Below W.heap.size W w' := fun W => StructureValid_spec i s r W hs hr
  cases hok : okB i s r with
  | false =>
    rw [symV_no hok]
    rw [hok] at hc
    have Hc := Lib.hid hc
    clear hc hs hr hok
    go_enter Tryd.func37, Tryd.ntmps37
    go_wp2_with fail
    refine (Hc.out _).mono ?_
    rintro e w1 ⟨rfl, hz⟩
    have HB := Lib.hid (box_next (box_refl w _) hz)
    clear hz
    go_wp2_with fail
    go_ret
    exact ⟨rfl, box_down HB.out⟩
  | true =>
    rcases ok_cases i s r with h | ⟨a, ha, rfl, rfl, rfl⟩
    · rw [h] at hok; cases hok
    have hv : symV a.n (bs a.set) (bs a.rel) = ((isos a a).length : Nat) := by
      unfold symV
      rw [hok, ofSt_eq]
      rfl
    rw [hv]
    rw [hok] at hc
    have hord : ∀ (W : World) (g1 g2 : Nat), Calls Tryd.prog 74 #[stV (a.n : Int) (bs a.set) (bs a.rel), .slice (some ⟨g1, 0, none⟩) 0 0, stV (a.n : Int) (bs a.set) (bs a.rel), .slice (some ⟨g2, 0, none⟩) 0 0] W fun e w' => NumL (isos a a).length e ∧ Below W.heap.size W w' := fun W g1 g2 =>
      l1Orders_calls a a ha ha rfl (fits_c a a ha ha rfl) a.n [] g1 g2 0 0 W (by simp) (by simp) (fun h => absurd h (by simp [natsI])) (fun h => absurd h (by simp [natsI]))
    have Hc := Lib.hid hc
    have Hord := Lib.hid hord
    generalize (isos a a).length = N at *
    clear hc hord hs hr hok hv ha
    go_enter Tryd.func37, Tryd.ntmps37
    go_wp2_with fail
    refine (Hc.out _).mono ?_
    rintro e w1 ⟨rfl, hz⟩
    have HB := Lib.hid (box_next (box_refl w _) hz)
    have HB2 := Lib.hid (HB.out.alloc (by have := HB.out.size; simpa using this) (.cells #[] 3))
    clear hz
    obtain ⟨k0, k1, k2⟩ := box3 HB.out
    obtain ⟨m0, m1, m2⟩ := box3 HB2.out
    go_wp2_with fail
    refine (Hord.out _ _ _).mono ?_
    rintro e w2 ⟨⟨F, k, cap, rfl⟩, hz⟩
    have HB3 := Lib.hid (box_next (HB2.out.alloc (by have := HB2.out.size; simpa using this) (.cells #[] 3)) hz)
    clear hz k0 k1 k2 m0 m1 m2
    go_wp2_with fail
    go_ret
    exact ⟨rfl, box_down HB3.out⟩

end Go.Proofs.YtpaoffjicgmleaaDoor
