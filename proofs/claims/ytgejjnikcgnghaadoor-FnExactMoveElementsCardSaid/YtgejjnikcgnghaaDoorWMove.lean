/-
  The walk of FnExactMoveElements. Condition: texts below the reach.
-/
import Derived.Test.YtgejjnikcgnghaaDoorArg
import Derived.Test.YtgejjnikcgnghaaDoorSPartOf
namespace Go.Proofs.YtgejjnikcgnghaaDoor
open Go.RowKit
open Pl
set_option linter.unusedSimpArgs false
set_option linter.unusedVariables false

set_option maxHeartbeats 2000000 in
theorem FnExactMoveElements_walk (i : Int) (s r : ByteArray) (A : Option Addr) (len cap : Nat) (zs : List Int) (w : World) (hi : (Lit.int .i64 i).wf = true) (hs : s.size ≤ maxLen) (hr : r.size ≤ maxLen) (hA0 : zs.length = len ∧ len ≤ cap ∧ cap ≤ maxLen ∧ ARow w A zs) :
    Calls Tryd.prog 11 #[stV i s r, .slice A len cap] w fun e w' => e = .returned (.bool true) ∧ Below w.heap.size w w' := by
  obtain ⟨rfl, hcap, hmax, hA⟩ := hA0
  have Hs := Lib.hid hs
  have Hr := Lib.hid hr
  clear hs hr hi
  by_cases hq : zs.length ≤ 1048576
  case neg =>
    have hq2 : 1048576 < zs.length := by omega
    clear hA Hs Hr hq
    go_enter Tryd.func11, Tryd.ntmps11
    go_wp2_with fail
    go_ret
    exact ⟨rfl, (Below.refl _ _).alloc (Nat.le_refl _) _⟩
  case pos =>
  have c1 := fun (W : World) (g : Nat) (hW : LRow W (some ⟨g, 0, none⟩) zs) => MoveElements_spec i s r (some ⟨g, 0, none⟩) zs zs.length W Hs.out Hr.out hq (Nat.le_refl _) hW
  have c2 := fun (W : World) (g : Nat) (hW : LRow W (some ⟨g, 0, none⟩) zs) => MoveElements_impl i s r (some ⟨g, 0, none⟩) zs zs.length W Hs.out Hr.out hq (Nat.le_refl _) hW
  have ct : ∀ (W : World), ARow W A zs → Calls Tryd.prog 33 #[.slice A zs.length cap] W fun e w' => (∃ g, e = .returned (.slice (some ⟨g, 0, none⟩) zs.length zs.length) ∧ LRow w' (some ⟨g, 0, none⟩) zs) ∧ Below W.heap.size W w' := fun W hW =>
    (toIntS_arg A cap zs W hq hW).mono fun e w' h => ⟨⟨_, h.1, LRow_of h.2.1⟩, h.2.2⟩
  have ce : ∀ (W : World) (g h : Nat), LRow W (some ⟨g, 0, none⟩) zs → LRow W (some ⟨h, 0, none⟩) zs → Calls Tryd.prog 35 #[.slice (some ⟨g, 0, none⟩) zs.length zs.length, .slice (some ⟨h, 0, none⟩) zs.length zs.length] W fun e w' => e = .returned (.bool true) ∧ Below W.heap.size W w' := fun W g h h1 h2 =>
    eqIntS_calls (some ⟨g, 0, none⟩) (some ⟨h, 0, none⟩) zs.length zs.length zs W hq h1 h2
  obtain ⟨j, S, R, b, hres⟩ := resV_form (moveO i s r zs)
  simp only [hres] at c1 c2
  clear hres
  have C1 := Lib.hid c1
  have C2 := Lib.hid c2
  have CT := Lib.hid ct
  have CE := Lib.hid ce
  have HA := Lib.hid (hA.alloc (.cells #[.int .i64 i, .string s, .string r] 23))
  clear c1 c2 ct ce hA hmax hcap
  go_enter Tryd.func11, Tryd.ntmps11
  go_wp2_with fail
  refine (szStructure_calls i s r 1048576 _ (Nat.le_refl _) Hs.out Hr.out).mono ?_
  rintro e w1 ⟨⟨m, rfl, hm⟩, hb⟩
  have HB1 := Lib.hid (box_next (box_refl w _) hb)
  have A1 := Lib.hid (HA.out.call hb)
  clear hb hm HA
  obtain ⟨k0, k1, k2⟩ := box3 HB1.out
  by_cases h0 : 0 ≤ m
  · have hn : ¬ m < 0 := by omega
    go_wp2_with fail
    refine (toStructure_calls i s r _).mono ?_
    rintro e w2 ⟨rfl, hz⟩
    have HB2 := Lib.hid (box_next HB1.out hz)
    have A2 := Lib.hid (A1.out.call hz)
    clear k0 k1 k2 hz A1
    go_wp2_with fail
    refine (CT.out _ A2.out).mono ?_
    rintro e w3 ⟨⟨g3, rfl, hl⟩, hz⟩
    have HB3 := Lib.hid (box_next HB2.out hz)
    have A3 := Lib.hid (A2.out.call hz)
    have L3 := Lib.hid hl
    clear hz hl A2
    go_wp2_with fail
    refine (C1.out _ _ L3.out).mono ?_
    rintro e w4 ⟨rfl, hz⟩
    have HB4 := Lib.hid ((box_next HB3.out hz).alloc (by have := (box_next HB3.out hz).size; simpa using this) (.cells #[.int .i64 j, .string S, .string R] 26))
    have X4 := Lib.hid (Bx.new w4 26 #[.int .i64 j, .string S, .string R])
    have A4 := Lib.hid ((A3.out.call hz).alloc (.cells #[.int .i64 j, .string S, .string R] 26))
    clear hz A3 L3
    go_wp2_with fail
    refine (CT.out _ A4.out).mono ?_
    rintro e w5 ⟨⟨g5, rfl, hl⟩, hz⟩
    have HB5 := Lib.hid (box_next HB4.out hz)
    have X5 := Lib.hid (X4.out.call hz)
    have A5 := Lib.hid (A4.out.call hz)
    have L5 := Lib.hid hl
    clear hz hl A4
    obtain ⟨k0, k1, k2⟩ := box3 HB5.out
    go_wp2_with fail
    refine (toStructure_calls i s r _).mono ?_
    rintro e w6 ⟨rfl, hz⟩
    have HB6 := Lib.hid (box_next HB5.out hz)
    have X6 := Lib.hid (X5.out.call hz)
    have A6 := Lib.hid (A5.out.call hz)
    have L6 := Lib.hid (L5.out.call hz)
    clear hz k0 k1 k2 A5 L5
    go_wp2_with fail
    refine (C2.out _ _ L6.out).mono ?_
    rintro e w7 ⟨rfl, hz⟩
    have HB7 := Lib.hid ((box_next HB6.out hz).alloc (by have := (box_next HB6.out hz).size; simpa using this) (.cells #[.int .i64 j, .string S, .string R] 26))
    have X7 := Lib.hid ((X6.out.call hz).alloc (.cells #[.int .i64 j, .string S, .string R] 26))
    have Y7 := Lib.hid (Bx.new w7 26 #[.int .i64 j, .string S, .string R])
    have A7 := Lib.hid ((A6.out.call hz).alloc (.cells #[.int .i64 j, .string S, .string R] 26))
    have L7 := Lib.hid ((L6.out.call hz).alloc (.cells #[.int .i64 j, .string S, .string R] 26))
    clear hz A6 L6
    obtain ⟨k0, k1, k2⟩ := box_load X7.out
    obtain ⟨m0, m1, m2⟩ := box_load Y7.out
    go_wp2_with fail
    refine (eqStructure_calls _ _ _ _).mono ?_
    rintro e w8 ⟨rfl, hz⟩
    have HB8 := Lib.hid (box_next HB7.out hz)
    have A8 := Lib.hid (A7.out.call hz)
    have L8 := Lib.hid (L7.out.call hz)
    clear hz k0 k1 k2 m0 m1 m2 A7 L7
    go_wp2_with fail
    refine (CT.out _ A8.out).mono ?_
    rintro e w9 ⟨⟨g9, rfl, hl⟩, hz⟩
    have HB9 := Lib.hid (box_next HB8.out hz)
    have L9 := Lib.hid (L8.out.call hz)
    have M9 := Lib.hid hl
    clear hz hl L8
    go_wp2_with fail
    refine (CE.out _ _ _ L9.out M9.out).mono ?_
    rintro e w10 ⟨rfl, hz⟩
    have HB10 := Lib.hid (box_next HB9.out hz)
    clear hz
    go_wp2_with fail
    go_ret
    exact ⟨rfl, box_down HB10.out⟩
  · go_wp2_with fail
    go_ret
    exact ⟨rfl, box_down HB1.out⟩

end Go.Proofs.YtgejjnikcgnghaaDoor
