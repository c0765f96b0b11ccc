/-
  The walk of FnExactJoinFormulas. Condition: the operator's bytes are below the reach, the slice names a row of strings.
-/
import Derived.Test.YtjmfldakfokoaaaJoinF
namespace Go.Proofs.Ytjmfldakfokoaaa
open Go.RowKit
open Pl
set_option linter.unusedSimpArgs false

set_option maxHeartbeats 1000000 in
theorem FnExactJoinFormulas_walk (op : ByteArray) (v : Value) (zs : List ByteArray) (w : World) (hs : op.size ≤ maxLen) (hv : SRow w v zs) :
    Calls Try.prog 5 #[.string op, v] w fun e w' => e = .returned (.bool true) ∧ Below w.heap.size w w' := by
  have Hs := Lib.hid hs
  have Hv := Lib.hid hv
  clear hs hv
  by_cases h : op.size ≤ 1048576
  · go_enter Try.func5, Try.ntmps5
    go_wp2_with fail
    refine (szStringS_calls v zs _ 1048576 (Nat.le_refl _) Hv.out).mono ?_
    rintro e w' ⟨⟨m, rfl, hm⟩, rfl⟩
    have Hm := Lib.hid hm
    clear hm
    by_cases hm0 : 0 ≤ m
    · have hn : zs.length ≤ 1048576 := by have := Hm.out hm0; omega
      go_wp2_with fail
      refine (toStringS_calls v zs _ hn Hv.out).mono ?_
      rintro e w1 ⟨g1, rfl, _, hr1, hb1⟩
      have Hr1 := Lib.hid hr1
      have Hb1 := Lib.hid hb1
      clear hr1 hb1
      go_wp2_with fail
      refine (JoinFormulas_spec op g1 zs _ hn Hr1.out).mono ?_
      rintro e w2 ⟨rfl, hb2⟩
      have Hb2 := Lib.hid (Hb1.out.trans (hb2.mono Hb1.out.size))
      clear hb2
      go_wp2_with fail
      refine (toStringS_calls v zs _ hn (Hv.out.lt _ Hb2.out)).mono ?_
      rintro e w3 ⟨g3, rfl, _, hr3, hb3⟩
      have Hb3 := Lib.hid (Hb2.out.trans (hb3.mono Hb2.out.size))
      have Hr3 := Lib.hid hr3
      clear hr3 hb3
      go_wp2_with fail
      refine (JoinFormulas_impl op g3 zs _ hn Hr3.out).mono ?_
      rintro e w4 ⟨rfl, hb4⟩
      have Hr4 := Lib.hid (Hr3.out.lt _ hb4)
      have Hb4 := Lib.hid (Hb3.out.trans (hb4.mono Hb3.out.size))
      clear hb4
      go_wp2_with fail
      refine (toStringS_calls v zs _ hn (Hv.out.lt _ Hb4.out)).mono ?_
      rintro e w5 ⟨g5, rfl, _, hr5, hb5⟩
      have Hr6 := Lib.hid (Hr4.out.lt _ hb5)
      have Hb5 := Lib.hid (Hb4.out.trans (hb5.mono Hb4.out.size))
      have Hr5 := Lib.hid hr5
      clear hr5 hb5
      go_wp2_with fail
      refine (eqStringS_calls g3 g5 zs _ hn Hr6.out Hr5.out).mono ?_
      rintro e w6 ⟨rfl, hb6⟩
      have Hb6 := Lib.hid (Hb5.out.trans (hb6.mono Hb5.out.size))
      clear hb6
      go_wp2_with fail
      go_ret
      exact ⟨rfl, Hb6.out⟩
    · go_wp2_with fail
      go_ret
      exact ⟨rfl, Below.refl _ _⟩
  · go_enter Try.func5, Try.ntmps5
    go_wp2_with fail
    go_ret
    exact ⟨rfl, Below.refl _ _⟩

end Go.Proofs.Ytjmfldakfokoaaa
