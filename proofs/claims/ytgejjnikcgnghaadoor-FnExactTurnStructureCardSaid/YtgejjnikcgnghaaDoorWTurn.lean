/-
  The walk of FnExactTurnStructure. Condition: texts below the reach.
-/
import Derived.Test.YtgejjnikcgnghaaDoorFmt
namespace Go.Proofs.YtgejjnikcgnghaaDoor
open Go.RowKit
open Pl
set_option linter.unusedSimpArgs false
set_option linter.unusedVariables false

set_option maxHeartbeats 1000000 in
theorem FnExactTurnStructure_walk (i : Int) (s r : ByteArray) (w : World) (hi : (Lit.int .i64 i).wf = true) (hs : s.size ≤ maxLen) (hr : r.size ≤ maxLen) :
    Calls Tryd.prog 8 #[stV i s r] w fun e w' => e = .returned (.bool true) ∧ Below w.heap.size w w' := by
  have Hs := Lib.hid hs
  have Hr := Lib.hid hr
  clear hs hr hi 
  have c1 := fun W => TurnStructure_spec i s r  W Hs.out Hr.out
  have c2 := fun W => TurnStructure_impl i s r  W Hs.out Hr.out
  obtain ⟨j, S, R, b, hres⟩ := resV_form (turnO i s r)
  simp only [hres] at c1 c2
  clear hres
  have C1 := Lib.hid c1
  have C2 := Lib.hid c2
  clear c1 c2
  go_enter Tryd.func8, Tryd.ntmps8
  go_wp2_with fail
  refine (szStructure_calls i s r 1048576 _ (Nat.le_refl _) Hs.out Hr.out).mono ?_
  rintro e w1 ⟨⟨m, rfl, hm⟩, hb⟩
  have HB := Lib.hid (box_next (box_refl w _) hb)
  clear hb hm
  obtain ⟨k0, k1, k2⟩ := box3 HB.out
  by_cases h0 : 0 ≤ m
  · have hn : ¬ m < 0 := by omega
    go_wp2_with fail
    have HB1 := HB
    refine (toStructure_calls i s r _).mono ?_
    rintro e w2 ⟨rfl, hz⟩
    have HB2 := Lib.hid (box_next (HB1.out) hz)
    clear k0 k1 k2
    clear hz
    obtain ⟨k0, k1, k2⟩ := box3 HB2.out
    go_wp2_with fail
    refine (C1.out _).mono ?_
    rintro e w3 ⟨rfl, hz⟩
    have HB3 := Lib.hid ((box_next HB2.out hz).alloc (by have := (box_next HB2.out hz).size; simpa using this) (.cells #[.int .i64 j, .string S, .string R] 26))
    have X3 := Lib.hid (Bx.new w3 26 #[.int .i64 j, .string S, .string R])
    clear hz k0 k1 k2
    obtain ⟨k0, k1, k2⟩ := box3 HB3.out
    go_wp2_with fail
    refine (toStructure_calls i s r _).mono ?_
    rintro e w4 ⟨rfl, hz⟩
    have HB4 := Lib.hid (box_next HB3.out hz)
    have X4 := Lib.hid (X3.out.call hz)
    clear hz k0 k1 k2
    go_wp2_with fail
    refine (C2.out _).mono ?_
    rintro e w5 ⟨rfl, hz⟩
    have HB5 := Lib.hid ((box_next HB4.out hz).alloc (by have := (box_next HB4.out hz).size; simpa using this) (.cells #[.int .i64 j, .string S, .string R] 26))
    have X5 := Lib.hid ((X4.out.call hz).alloc (.cells #[.int .i64 j, .string S, .string R] 26))
    have Y5 := Lib.hid (Bx.new w5 26 #[.int .i64 j, .string S, .string R])
    clear hz
    obtain ⟨k0, k1, k2⟩ := box_load X5.out
    obtain ⟨m0, m1, m2⟩ := box_load Y5.out
    go_wp2_with fail
    refine (eqStructure_calls _ _ _ _).mono ?_
    rintro e w6 ⟨rfl, hz⟩
    have HB6 := Lib.hid (box_next HB5.out hz)
    clear hz k0 k1 k2 m0 m1 m2
    go_wp2_with fail
    go_ret
    exact ⟨rfl, box_down HB6.out⟩
  · go_wp2_with fail
    go_ret
    exact ⟨rfl, box_down HB.out⟩

end Go.Proofs.YtgejjnikcgnghaaDoor
