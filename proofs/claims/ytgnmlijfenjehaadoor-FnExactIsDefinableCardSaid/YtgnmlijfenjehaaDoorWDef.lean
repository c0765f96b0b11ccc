/-
  The walk of FnExactIsDefinable. Condition: texts below the reach.
-/
import Derived.Test.YtgnmlijfenjehaaDoorDefI
import Derived.Test.YtgnmlijfenjehaaDoorDefS
import Derived.Test.YtgnmlijfenjehaaDoorArg
namespace Go.Proofs.YtgnmlijfenjehaaDoor
open Go.RowKit
open Pl
set_option linter.unusedSimpArgs false
set_option linter.unusedVariables false

set_option maxHeartbeats 2000000 in
theorem FnExactIsDefinable_walk (i : Int) (s r : ByteArray) (A : Option Addr) (len cap : Nat) (zs : List Int) (w : World) (hi : (Lit.int .i64 i).wf = true) (hs : s.size ≤ maxLen) (hr : r.size ≤ maxLen) (hA0 : zs.length = len ∧ len ≤ cap ∧ cap ≤ maxLen ∧ ARow w A zs) :
    Calls Tryd.prog 3 #[stV i s r, .slice A len cap] w fun e w' => e = .returned (.bool true) ∧ Below w.heap.size w w' := by
  obtain ⟨rfl, hcap, hmax, hA⟩ := hA0
  have Hs := Lib.hid hs
  have Hr := Lib.hid hr
  clear hs hr hi
  by_cases hq : zs.length ≤ 1048576
  case neg =>
    have hq2 : 1048576 < zs.length := by omega
    clear hA Hs Hr hq
    go_enter Tryd.func3, Tryd.ntmps3
    go_wp2_with fail
    go_ret
    exact ⟨rfl, (Below.refl _ _).alloc (Nat.le_refl _) _⟩
  case pos =>
  have c1 := fun (W : World) (g : Nat) (hW : LRow W (some ⟨g, 0, none⟩) zs) => IsDefinable_spec i s r (some ⟨g, 0, none⟩) zs zs.length W Hs.out Hr.out hq (Nat.le_refl _) hW
  have c2 := fun (W : World) (g : Nat) (hW : LRow W (some ⟨g, 0, none⟩) zs) => IsDefinable_impl i s r (some ⟨g, 0, none⟩) zs zs.length W Hs.out Hr.out hq (Nat.le_refl _) hW
  have ct : ∀ (W : World), ARow W A zs → Calls Tryd.prog 12 #[.slice A zs.length cap] W fun e w' => (∃ g, e = .returned (.slice (some ⟨g, 0, none⟩) zs.length zs.length) ∧ LRow w' (some ⟨g, 0, none⟩) zs) ∧ Below W.heap.size W w' := fun W hW =>
    (toIntS_arg A cap zs W hq hW).mono fun e w' h => ⟨⟨_, h.1, LRow_of h.2.1⟩, h.2.2⟩
  have ce : ∀ (W : World) (g h : Nat), LRow W (some ⟨g, 0, none⟩) zs → LRow W (some ⟨h, 0, none⟩) zs → Calls Tryd.prog 14 #[.slice (some ⟨g, 0, none⟩) zs.length zs.length, .slice (some ⟨h, 0, none⟩) zs.length zs.length] W fun e w' => e = .returned (.bool true) ∧ Below W.heap.size W w' := fun W g h h1 h2 =>
    eqIntS_calls (some ⟨g, 0, none⟩) (some ⟨h, 0, none⟩) zs.length zs.length zs W hq h1 h2
  obtain ⟨V, hV⟩ : ∃ V, V = defB i s r zs := ⟨_, rfl⟩
  simp only [← hV] at c1 c2
  clear hV
  have C1 := Lib.hid c1
  have C2 := Lib.hid c2
  have CT := Lib.hid ct
  have CE := Lib.hid ce
  have Lz1 := Lib.hid (hA.alloc (.cells #[.int .i64 i, .string s, .string r] 23))
  have B1 := Lib.hid ((Below.refl w.heap.size w).alloc (Nat.le_refl _) (.cells #[.int .i64 i, .string s, .string r] 23))
  have Xa1 := Lib.hid (Bx.new w 23 #[.int .i64 i, .string s, .string r])
  clear c1 c2 ct ce hA hmax hcap
  go_enter Tryd.func3, Tryd.ntmps3
  obtain ⟨a0, a1, a2⟩ := box_load Xa1.out
  go_wp2_with fail
  refine (szStructure_calls i s r 1048576 _ (Nat.le_refl _) Hs.out Hr.out).mono ?_
  clear a0 a1 a2
  rintro e w1 ⟨⟨m, rfl, hm⟩, hz⟩
  have B2 := Lib.hid (B1.out.trans (hz.mono B1.out.size))
  have Xa2 := Lib.hid (Xa1.out.call hz)
  have Lz2 := Lib.hid (Lz1.out.call hz)
  clear hm
  clear hz
  obtain ⟨a0, a1, a2⟩ := box_load Xa2.out
  by_cases h0 : 0 ≤ m
  · have hn : ¬ m < 0 := by omega
    go_wp2_with fail
    refine (toStructure_calls i s r _).mono ?_
    clear a0 a1 a2
    rintro e w2 ⟨rfl, hz⟩
    have B3 := Lib.hid (B2.out.trans (hz.mono B2.out.size))
    have Xa3 := Lib.hid (Xa2.out.call hz)
    have Lz3 := Lib.hid (Lz2.out.call hz)
    clear hz
    obtain ⟨a0, a1, a2⟩ := box_load Xa3.out
    go_wp2_with fail
    refine (CT.out _ Lz3.out).mono ?_
    clear a0 a1 a2
    rintro e w3 ⟨⟨g3, rfl, hl⟩, hz⟩
    have B4 := Lib.hid (B3.out.trans (hz.mono B3.out.size))
    have Xa4 := Lib.hid (Xa3.out.call hz)
    have Lz4 := Lib.hid (Lz3.out.call hz)
    have Lu := Lib.hid hl
    clear hl
    clear hz
    obtain ⟨a0, a1, a2⟩ := box_load Xa4.out
    go_wp2_with fail
    refine (C1.out _ _ Lu.out).mono ?_
    clear a0 a1 a2
    rintro e w4 ⟨rfl, hz⟩
    have B5 := Lib.hid (B4.out.trans (hz.mono B4.out.size))
    have Xa5 := Lib.hid (Xa4.out.call hz)
    have Lz5 := Lib.hid (Lz4.out.call hz)
    have Lu5 := Lib.hid (Lu.out.call hz)
    clear hz
    obtain ⟨a0, a1, a2⟩ := box_load Xa5.out
    go_wp2_with fail
    refine (CT.out _ Lz5.out).mono ?_
    clear a0 a1 a2
    rintro e w5 ⟨⟨g5, rfl, hl⟩, hz⟩
    have B6 := Lib.hid (B5.out.trans (hz.mono B5.out.size))
    have Xa6 := Lib.hid (Xa5.out.call hz)
    have Lz6 := Lib.hid (Lz5.out.call hz)
    have Lv := Lib.hid hl
    clear hl
    clear hz
    obtain ⟨a0, a1, a2⟩ := box_load Xa6.out
    go_wp2_with fail
    refine (toStructure_calls i s r _).mono ?_
    clear a0 a1 a2
    rintro e w6 ⟨rfl, hz⟩
    have B7 := Lib.hid (B6.out.trans (hz.mono B6.out.size))
    have Xa7 := Lib.hid (Xa6.out.call hz)
    have Lz7 := Lib.hid (Lz6.out.call hz)
    have Lv7 := Lib.hid (Lv.out.call hz)
    clear hz
    obtain ⟨a0, a1, a2⟩ := box_load Xa7.out
    go_wp2_with fail
    refine (C2.out _ _ Lv7.out).mono ?_
    clear a0 a1 a2
    rintro e w7 ⟨rfl, hz⟩
    have B8 := Lib.hid (B7.out.trans (hz.mono B7.out.size))
    have Xa8 := Lib.hid (Xa7.out.call hz)
    have Lz8 := Lib.hid (Lz7.out.call hz)
    have Lv8 := Lib.hid (Lv7.out.call hz)
    clear hz
    obtain ⟨a0, a1, a2⟩ := box_load Xa8.out
    go_wp2_with fail
    refine (CT.out _ Lz8.out).mono ?_
    clear a0 a1 a2
    rintro e w8 ⟨⟨g6, rfl, hl⟩, hz⟩
    have B9 := Lib.hid (B8.out.trans (hz.mono B8.out.size))
    have Xa9 := Lib.hid (Xa8.out.call hz)
    have Lz9 := Lib.hid (Lz8.out.call hz)
    have Lv9 := Lib.hid (Lv8.out.call hz)
    have Lx := Lib.hid hl
    clear hl
    clear hz
    obtain ⟨a0, a1, a2⟩ := box_load Xa9.out
    go_wp2_with fail
    refine (CE.out _ _ _ Lv9.out Lx.out).mono ?_
    clear a0 a1 a2
    rintro e w9 ⟨rfl, hz⟩
    have B10 := Lib.hid (B9.out.trans (hz.mono B9.out.size))
    have Xa10 := Lib.hid (Xa9.out.call hz)
    have Lz10 := Lib.hid (Lz9.out.call hz)
    have Lv10 := Lib.hid (Lv9.out.call hz)
    have Lx10 := Lib.hid (Lx.out.call hz)
    clear hz
    obtain ⟨a0, a1, a2⟩ := box_load Xa10.out
    go_wp2_with fail
    go_ret
    exact ⟨rfl, B10.out⟩
  · go_wp2_with fail
    go_ret
    exact ⟨rfl, B2.out⟩

end Go.Proofs.YtgnmlijfenjehaaDoor
