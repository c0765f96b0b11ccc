/-
  The walk of FnExactParseStructure. Condition: texts below the reach.
-/
import Derived.Test.YtdogpookippbaaaDoorParseSt
namespace Go.Proofs.YtdogpookippbaaaDoor
open Go.RowKit
open Pl
set_option linter.unusedSimpArgs false
set_option linter.unusedVariables false

set_option maxHeartbeats 1000000 in
theorem FnExactParseStructure_walk (s : ByteArray) (w : World) (hs : s.size ≤ maxLen) :
    Calls Tryd.prog 6 #[.string s] w fun e w' => e = .returned (.bool true) ∧ Below w.heap.size w w' := by
  by_cases hl : s.size ≤ 1048576
  · have c1 := fun W => ParseStructure_spec s W hl
    have c2 := fun W => ParseStructure_impl s W hl
    obtain ⟨j, S, R, b, hres⟩ := resV_form (parseO s)
    simp only [hres] at c1 c2
    have hbb : (b != b) = false := by cases b <;> rfl
    have h2 : ¬ (1048576 < (s.size : Int)) := by omega
    have h3 : (s.size : Int) ≤ 1048576 := by omega
    have C1 := Lib.hid c1
    have C2 := Lib.hid c2
    clear hres c1 c2 hs hl
    go_enter Tryd.func6, Tryd.ntmps6
    go_wp2_with fail
    refine (C1.out _).mono ?_
    rintro e w3 ⟨rfl, hz⟩
    have HB3 := Lib.hid (hz.alloc hz.size (.cells #[.int .i64 j, .string S, .string R] 26))
    have X3 := Lib.hid (Bx.new w3 26 #[.int .i64 j, .string S, .string R])
    clear hz
    go_wp2_with fail
    refine (C2.out _).mono ?_
    rintro e w5 ⟨rfl, hz⟩
    have HB5 := Lib.hid ((HB3.out.trans (hz.mono HB3.out.size)).alloc (HB3.out.trans (hz.mono HB3.out.size)).size (.cells #[.int .i64 j, .string S, .string R] 26))
    have X5 := Lib.hid ((X3.out.call hz).alloc (.cells #[.int .i64 j, .string S, .string R] 26))
    have Y5 := Lib.hid (Bx.new w5 26 #[.int .i64 j, .string S, .string R])
    clear hz
    obtain ⟨k0, k1, k2⟩ := box_load X5.out
    obtain ⟨m0, m1, m2⟩ := box_load Y5.out
    go_wp2_with fail
    refine (eqStructure_calls _ _ _ _).mono ?_
    rintro e w6 ⟨rfl, hz⟩
    have HB6 := Lib.hid (HB5.out.trans (hz.mono HB5.out.size))
    clear hz k0 k1 k2 m0 m1 m2
    go_wp2_with fail
    go_ret
    exact ⟨rfl, HB6.out⟩
  · have h2 : 1048576 < (s.size : Int) := by omega
    clear hs hl
    go_enter Tryd.func6, Tryd.ntmps6
    go_wp2_with fail
    go_ret
    exact ⟨rfl, Below.refl _ _⟩

end Go.Proofs.YtdogpookippbaaaDoor
