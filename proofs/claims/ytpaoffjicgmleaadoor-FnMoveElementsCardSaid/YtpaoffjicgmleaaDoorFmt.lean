/-
  FormatStructure, the program's and the reference's, and equal structures. Condition: texts below the reach.
-/
import Derived.Test.YtpaoffjicgmleaaDoorOther
import Derived.Test.YtpaoffjicgmleaaDoorTurnS
namespace Go.Proofs.YtpaoffjicgmleaaDoor
open Go.RowKit
open Pl
set_option linter.unusedSimpArgs false
set_option linter.unusedVariables false

theorem fmt_no {i : Int} {s r : ByteArray} (h : okB i s r = false) : fmtV i s r = bs [] := by unfold fmtV; rw [h]; rfl
theorem fmt_yes {i : Int} {s r : ByteArray} (h : okB i s r = true) : fmtV i s r = s ++ ⟨#[58]⟩ ++ r := by unfold fmtV; rw [h]; rfl

set_option maxHeartbeats 400000 in
theorem FormatStructure_impl (i : Int) (s r : ByteArray) (w : World) (hs : s.size ≤ maxLen) (hr : r.size ≤ maxLen) :
    Calls Tryd.prog 23 #[stV i s r] w fun e w' => e = .returned (.string (fmtV i s r)) ∧ Below w.heap.size w w' := by
  have hc : ∀ W, Calls Tryd.prog 46 #[stV i s r] W fun e w' => e = .returned (.bool (okB i s r)) ∧ Below W.heap.size W w' := fun W => isStructure_calls i s r W hs hr
  cases hok : okB i s r with
  | false =>
    rw [fmt_no hok]
    rw [hok] at hc
    have Hc := Lib.hid hc
    clear hc hs hr hok
    go_enter Tryd.func23, Tryd.ntmps23
    go_wp2_with fail
    refine (Hc.out _).mono ?_
    rintro e w1 ⟨rfl, hz⟩
    have HB := Lib.hid (box_next (box_refl w _) hz)
    clear hz
    go_wp2_with fail
    go_ret
    exact ⟨rfl, box_down HB.out⟩
  | true =>
    rw [fmt_yes hok]
    have hsz : s.size ≤ 64 ∧ r.size ≤ 64 := by
      rcases ok_cases i s r with h | ⟨a, ha, rfl, rfl, rfl⟩
      · rw [h] at hok; cases hok
      · exact st_small ha
    obtain ⟨s1, s2⟩ := hsz
    rw [hok] at hc
    have Hc := Lib.hid hc
    clear hc hs hr hok
    go_enter Tryd.func23, Tryd.ntmps23
    go_wp2_with fail
    refine (Hc.out _).mono ?_
    rintro e w1 ⟨rfl, hz⟩
    have HB := Lib.hid (box_next (box_refl w _) hz)
    clear hz
    obtain ⟨k0, k1, k2⟩ := box3 HB.out
    go_wp2_with fail
    go_ret
    exact ⟨rfl, box_down HB.out⟩

set_option maxHeartbeats 400000 in
theorem FormatStructure_spec (i : Int) (s r : ByteArray) (w : World) (hs : s.size ≤ maxLen) (hr : r.size ≤ maxLen) :
    Calls Tryd.prog 24 #[stV i s r] w fun e w' => e = .returned (.string (fmtV i s r)) ∧ Below w.heap.size w w' := by
  have hc : ∀ W, Calls Tryd.prog 57 #[stV i s r] W fun e w' => e = .returned (.bool (okB i s r)) ∧ Below W.heap.size W w' := fun W => StructureValid_spec i s r W hs hr
  cases hok : okB i s r with
  | false =>
    rw [fmt_no hok]
    rw [hok] at hc
    have Hc := Lib.hid hc
    clear hc hs hr hok
    go_enter Tryd.func24, Tryd.ntmps24
    go_wp2_with fail
    refine (Hc.out _).mono ?_
    rintro e w1 ⟨rfl, hz⟩
    have HB := Lib.hid (box_next (box_refl w _) hz)
    clear hz
    go_wp2_with fail
    go_ret
    exact ⟨rfl, box_down HB.out⟩
  | true =>
    rw [fmt_yes hok]
    have hsz : s.size ≤ 64 ∧ r.size ≤ 64 := by
      rcases ok_cases i s r with h | ⟨a, ha, rfl, rfl, rfl⟩
      · rw [h] at hok; cases hok
      · exact st_small ha
    obtain ⟨s1, s2⟩ := hsz
    rw [hok] at hc
    have Hc := Lib.hid hc
    clear hc hs hr hok
    go_enter Tryd.func24, Tryd.ntmps24
    go_wp2_with fail
    refine (Hc.out _).mono ?_
    rintro e w1 ⟨rfl, hz⟩
    have HB := Lib.hid (box_next (box_refl w _) hz)
    clear hz
    obtain ⟨k0, k1, k2⟩ := box3 HB.out
    go_wp2_with fail
    go_ret
    exact ⟨rfl, box_down HB.out⟩

theorem resV_form (o : Option St) : ∃ (j : Int) (S R : ByteArray) (b : Bool), resV o = .tuple #[stV j S R, .bool b] := by
  cases o with
  | none => exact ⟨_, _, _, _, rfl⟩
  | some a => exact ⟨_, _, _, _, rfl⟩

end Go.Proofs.YtpaoffjicgmleaaDoor
