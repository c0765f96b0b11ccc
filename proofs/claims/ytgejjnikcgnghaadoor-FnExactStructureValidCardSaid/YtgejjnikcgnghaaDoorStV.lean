/-
  The walk of FnExactStructureValid. Condition: texts below the reach.
-/
import Derived.Test.YtgejjnikcgnghaaDoorStruct
namespace Go.Proofs.YtgejjnikcgnghaaDoor
open Go.RowKit
open Pl
set_option linter.unusedSimpArgs false

set_option maxHeartbeats 1000000 in
theorem FnExactStructureValid_walk (i : Int) (s r : ByteArray) (w : World) (hi : (Lit.int .i64 i).wf = true) (hs : s.size ≤ maxLen) (hr : r.size ≤ maxLen) :
    Calls Tryd.prog 3 #[stV i s r] w fun e w' => e = .returned (.bool true) ∧ Below w.heap.size w w' := by
  have Hs := Lib.hid hs
  have Hr := Lib.hid hr
  clear hs hr hi
  go_enter Tryd.func3, Tryd.ntmps3
  go_wp2_with fail
  refine (szStructure_calls i s r 1048576 _ (Nat.le_refl _) Hs.out Hr.out).mono ?_
  rintro e w1 ⟨⟨m, rfl, hm⟩, hb⟩
  have HB := Lib.hid (box_next (box_refl w _) hb)
  clear hb hm
  obtain ⟨k0, k1, k2⟩ := box3 HB.out
  by_cases h0 : 0 ≤ m
  · have hn : ¬ m < 0 := by omega
    go_wp2_with fail
    refine (toStructure_calls i s r _).mono ?_
    rintro e w2 ⟨rfl, hb⟩
    have HB2 := Lib.hid (box_next HB.out hb)
    clear hb k0 k1 k2
    go_wp2_with fail
    refine (StructureValid_spec i s r _ Hs.out Hr.out).mono ?_
    rintro e w3 ⟨rfl, hb⟩
    have HB3 := Lib.hid (box_next HB2.out hb)
    clear hb
    obtain ⟨k0, k1, k2⟩ := box3 HB3.out
    go_wp2_with fail
    refine (toStructure_calls i s r _).mono ?_
    rintro e w4 ⟨rfl, hb⟩
    have HB4 := Lib.hid (box_next HB3.out hb)
    clear hb k0 k1 k2
    go_wp2_with fail
    refine (StructureValid_impl i s r _ Hs.out Hr.out).mono ?_
    rintro e w5 ⟨rfl, hb⟩
    have HB5 := Lib.hid (box_next HB4.out hb)
    clear hb
    go_wp2_with fail
    go_ret
    exact ⟨rfl, box_down HB5.out⟩
  · go_wp2_with fail
    go_ret
    exact ⟨rfl, box_down HB.out⟩

end Go.Proofs.YtgejjnikcgnghaaDoor
