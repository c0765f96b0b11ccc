/-
  The walk of FnExactCountSymmetries. Condition: texts below the reach.
-/
import Derived.Test.YtdogpookippbaaaDoorSym
namespace Go.Proofs.YtdogpookippbaaaDoor
open Go.RowKit
open Pl
set_option linter.unusedSimpArgs false
set_option linter.unusedVariables false

set_option maxHeartbeats 1000000 in
theorem FnExactCountSymmetries_walk (i : Int) (s r : ByteArray) (w : World) (hi : (Lit.int .i64 i).wf = true) (hs : s.size ≤ maxLen) (hr : r.size ≤ maxLen) :
    Calls Tryd.prog 3 #[stV i s r] w fun e w' => e = .returned (.bool true) ∧ Below w.heap.size w w' := by
  have Hs := Lib.hid hs
  have Hr := Lib.hid hr
  clear hs hr hi 
  have c1 := fun W => CountSymmetries_spec i s r  W Hs.out Hr.out
  have c2 := fun W => CountSymmetries_impl i s r  W Hs.out Hr.out
  have C1 := Lib.hid c1
  have C2 := Lib.hid c2
  clear c1 c2
  go_enter Tryd.func3, Tryd.ntmps3
  go_wp2_with fail
  refine (szStructure_calls i s r 1048576 _ (Nat.le_refl _) Hs.out Hr.out).mono ?_
  rintro e w1 ⟨⟨m, rfl, hm⟩, hb⟩
  have HB := Lib.hid (box_next (box_refl w _) hb)
  clear hb hm
  obtain ⟨k0, k1, k2⟩ := box3 HB.out
  by_cases h0 : 0 ≤ m
  · have hn : ¬ m < 0 := by omega
    go_wp2_with fail
    have HB1 := HB
    refine (toStructure_calls i s r _).mono ?_
    rintro e w2 ⟨rfl, hz⟩
    have HB2 := Lib.hid (box_next (HB1.out) hz)
    clear k0 k1 k2
    clear hz
    obtain ⟨k0, k1, k2⟩ := box3 HB2.out
    go_wp2_with fail
    refine (C1.out _).mono ?_
    rintro e w3 ⟨rfl, hz⟩
    have HB3 := Lib.hid (box_next (HB2.out) hz)
    clear k0 k1 k2
    clear hz
    obtain ⟨k0, k1, k2⟩ := box3 HB3.out
    go_wp2_with fail
    refine (toStructure_calls i s r _).mono ?_
    rintro e w4 ⟨rfl, hz⟩
    have HB4 := Lib.hid (box_next (HB3.out) hz)
    clear k0 k1 k2
    clear hz
    obtain ⟨k0, k1, k2⟩ := box3 HB4.out
    go_wp2_with fail
    refine (C2.out _).mono ?_
    rintro e w5 ⟨rfl, hz⟩
    have HB5 := Lib.hid (box_next (HB4.out) hz)
    clear k0 k1 k2
    clear hz
    obtain ⟨k0, k1, k2⟩ := box3 HB5.out
    go_wp2_with fail
    go_ret
    exact ⟨rfl, box_down HB5.out⟩
  · go_wp2_with fail
    go_ret
    exact ⟨rfl, box_down HB.out⟩

end Go.Proofs.YtdogpookippbaaaDoor
