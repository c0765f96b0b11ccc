/-
  The walk of FnStructureText. Condition: texts below the reach.
-/
import Derived.Test.YtpaoffjicgmleaaDoorDraw6
import Derived.Test.YtpaoffjicgmleaaDoorPstLaw
namespace Go.Proofs.YtpaoffjicgmleaaDoor
open Go.RowKit
open Pl
set_option linter.unusedSimpArgs false
set_option linter.unusedVariables false


set_option maxHeartbeats 4000000 in
set_option maxRecDepth 100000 in
theorem FnStructureText_walk (A : Option Addr) (n cap : Nat) (A2 : Option Addr) (n2 cap2 : Nat) (w : World) (h : ByRow w A n) (hc : n ≤ cap) (hm : cap ≤ maxLen) (h2 : ByRow w A2 n2) (hc2 : n2 ≤ cap2) (hm2 : cap2 ≤ maxLen) :
    Calls Tryd.prog 5 #[.slice A n cap, .slice A2 n2 cap2] w fun e w' => e = .returned (.bool true) ∧ Below w.heap.size w w' := by
  by_cases hn : n ≤ 1048576
  · by_cases hn2 : n2 ≤ 1048576
    · have hd := DrawFormatStructure_calls A n cap w h hn hc hm
      have hp := fun W (hb : Below w.heap.size w W) => DrawParseStructure_calls A2 n2 cap2 W (h2.call hb) hn2 hc2 hm2
      have hp2 := fun W (hb : ByRow W A2 n2) => DrawParseStructure_calls A2 n2 cap2 W hb hn2 hc2 hm2
      have HD := Lib.hid hd
      have HP := Lib.hid hp2
      have HM := Lib.hid h2
      have hni : ¬ (1048576 : Int) < (n : Int) := by omega
      have hni2 : ¬ (1048576 : Int) < (n2 : Int) := by omega
      clear hd hp hp2 h h2 hc hm hc2 hm2
      go_enter Tryd.func5, Tryd.ntmps5
      go_wp2_with fail
      refine (HD.out).mono ?_
      rintro e w1 ⟨⟨i, s, r, rfl, hi, hs, hr⟩, hz⟩
      have B0 := Lib.hid hz
      clear hz
      rcases ok_cases i s r with hok | ⟨a, ha, rfl, rfl, rfl⟩
      · have hZ : fmtV i s r = bs [] := fmt_no hok
        have hV := hok
        obtain ⟨Z, hE⟩ : ∃ Z : ByteArray, Z = bs [] := ⟨_, rfl⟩
        rw [← hE] at hZ
        have z1 : Z.toList = [] := by rw [hE, ByteArray.toList_eq]; rfl
        have z2 : Z.toList.isEmpty = true := by rw [z1]; rfl
        clear hE
        have cf : ∀ W, Calls Tryd.prog 23 #[stV i s r] W fun e w' => e = .returned (.string Z) ∧ Below W.heap.size W w' := fun W => by
          have h := FormatStructure_impl i s r W (by unfold maxLen; omega) (by unfold maxLen; omega)
          rwa [hZ] at h
        have cg : ∀ W, Calls Tryd.prog 24 #[stV i s r] W fun e w' => e = .returned (.string Z) ∧ Below W.heap.size W w' := fun W => by
          have h := FormatStructure_spec i s r W (by unfold maxLen; omega) (by unfold maxLen; omega)
          rwa [hZ] at h
        have cv : ∀ W, Calls Tryd.prog 15 #[stV i s r] W fun e w' => e = .returned (.bool false) ∧ Below W.heap.size W w' := fun W => by
          have h := StructureValid_impl i s r W (by unfold maxLen; omega) (by unfold maxLen; omega)
          rwa [hV] at h
        have CF := Lib.hid cf
        have CG := Lib.hid cg
        have CV := Lib.hid cv
        clear cf cg cv hZ hV
        clear hok
        have B1 := Lib.hid (B0.out.alloc B0.out.size (.cells #[.int .i64 i, .string s, .string r] 24))
        have Xa1 := Lib.hid (Bx.new w1 24 #[.int .i64 i, .string s, .string r])
        obtain ⟨a0, a1, a2⟩ := box_load Xa1.out
        go_wp2_with fail
        refine (CF.out _).mono ?_
        clear a0 a1 a2
        rintro e w2 ⟨rfl, hz⟩
        have B2 := Lib.hid (B1.out.trans (hz.mono B1.out.size))
        have Xa2 := Lib.hid (Xa1.out.call hz)
        clear hz
        obtain ⟨a0, a1, a2⟩ := box_load Xa2.out
        go_wp2_with fail
        refine (CG.out _).mono ?_
        clear a0 a1 a2
        rintro e w3 ⟨rfl, hz⟩
        have B3 := Lib.hid (B2.out.trans (hz.mono B2.out.size))
        have Xa3 := Lib.hid (Xa2.out.call hz)
        clear hz
        obtain ⟨a0, a1, a2⟩ := box_load Xa3.out
        go_wp2_with fail
        refine (CV.out _).mono ?_
        clear a0 a1 a2
        rintro e w4 ⟨rfl, hz⟩
        have B4 := Lib.hid (B3.out.trans (hz.mono B3.out.size))
        have Xa4 := Lib.hid (Xa3.out.call hz)
        clear hz
        obtain ⟨a0, a1, a2⟩ := box_load Xa4.out
        go_wp2_with fail
        refine (HP.out _ (HM.out.call B4.out)).mono ?_
        clear a0 a1 a2
        rintro e w5 ⟨⟨t, rfl, ht⟩, hz⟩
        have B5 := Lib.hid (B4.out.trans (hz.mono B4.out.size))
        clear hz
        have ht2 : t.size ≤ 1048576 := by omega
        have pi : ∀ W, Calls Tryd.prog 25 #[.string t] W fun e w' => e = .returned (resV (parseO t)) ∧ Below W.heap.size W w' := fun W => ParseStructure_impl t W ht2
        have ps : ∀ W, Calls Tryd.prog 27 #[.string t] W fun e w' => e = .returned (resV (parseO t)) ∧ Below W.heap.size W w' := fun W => ParseStructure_spec t W ht2
        cases hpo : parseO t with
        | none =>
          rw [hpo] at pi ps
          have pi2 : ∀ W, Calls Tryd.prog 25 #[.string t] W fun e w' => e = .returned (.tuple #[stV 0 (bs []) (bs []), .bool false]) ∧ Below W.heap.size W w' := pi
          have ps2 : ∀ W, Calls Tryd.prog 27 #[.string t] W fun e w' => e = .returned (.tuple #[stV 0 (bs []) (bs []), .bool false]) ∧ Below W.heap.size W w' := ps
          have PI := Lib.hid pi2
          have PS := Lib.hid ps2
          clear pi ps pi2 ps2 hpo
          go_wp2_with fail
          refine (PI.out _).mono ?_
          rintro e w6 ⟨rfl, hz⟩
          have B6 := Lib.hid (B5.out.trans (hz.mono B5.out.size))
          clear hz
          have B7 := Lib.hid (B6.out.alloc B6.out.size (.cells #[.int .i64 0, .string (bs []), .string (bs [])] 24))
          have Xg7 := Lib.hid (Bx.new w6 24 #[.int .i64 0, .string (bs []), .string (bs [])])
          obtain ⟨g0, g1, g2⟩ := box_load Xg7.out
          go_wp2_with fail
          refine (PS.out _).mono ?_
          clear g0 g1 g2
          rintro e w7 ⟨rfl, hz⟩
          have B8 := Lib.hid (B7.out.trans (hz.mono B7.out.size))
          have Xg8 := Lib.hid (Xg7.out.call hz)
          clear hz
          obtain ⟨g0, g1, g2⟩ := box_load Xg8.out
          clear g0 g1 g2
          have B9 := Lib.hid (B8.out.alloc B8.out.size (.cells #[.int .i64 0, .string (bs []), .string (bs [])] 24))
          have Xg9 := Lib.hid (Xg8.out.alloc (.cells #[.int .i64 0, .string (bs []), .string (bs [])] 24))
          have Xh9 := Lib.hid (Bx.new w7 24 #[.int .i64 0, .string (bs []), .string (bs [])])
          obtain ⟨g0, g1, g2⟩ := box_load Xg9.out
          obtain ⟨h0, h1, h2⟩ := box_load Xh9.out
          go_wp2_with fail
          go_ret
          exact ⟨rfl, B9.out⟩
        | some b =>
          obtain ⟨hb1, hb2⟩ := fmt_parse hpo
          rw [hpo] at pi ps
          have hz : (bs b.set).size ≤ 100 ∧ (bs b.rel).size ≤ 100 := by
            have h1 := st_small hb1
            omega
          obtain ⟨hz1, hz2⟩ := hz
          have fm : ∀ W, Calls Tryd.prog 23 #[stV (b.n : Int) (bs b.set) (bs b.rel)] W fun e w' => e = .returned (.string t) ∧ Below W.heap.size W w' := fun W => by
            have h := FormatStructure_impl (b.n : Int) (bs b.set) (bs b.rel) W (by unfold maxLen; omega) (by unfold maxLen; omega)
            rwa [hb2] at h
          have pi2 : ∀ W, Calls Tryd.prog 25 #[.string t] W fun e w' => e = .returned (.tuple #[stV (b.n : Int) (bs b.set) (bs b.rel), .bool true]) ∧ Below W.heap.size W w' := pi
          have ps2 : ∀ W, Calls Tryd.prog 27 #[.string t] W fun e w' => e = .returned (.tuple #[stV (b.n : Int) (bs b.set) (bs b.rel), .bool true]) ∧ Below W.heap.size W w' := ps
          clear pi ps hpo hb1 hb2
          generalize (b.n : Int) = j at *
          generalize bs b.set = u at *
          generalize bs b.rel = v at *
          have PI := Lib.hid pi2
          have PS := Lib.hid ps2
          have FM := Lib.hid fm
          clear pi2 ps2 fm
          go_wp2_with fail
          refine (PI.out _).mono ?_
          rintro e w6 ⟨rfl, hz⟩
          have B6 := Lib.hid (B5.out.trans (hz.mono B5.out.size))
          clear hz
          have B7 := Lib.hid (B6.out.alloc B6.out.size (.cells #[.int .i64 j, .string u, .string v] 24))
          have Xg7 := Lib.hid (Bx.new w6 24 #[.int .i64 j, .string u, .string v])
          obtain ⟨g0, g1, g2⟩ := box_load Xg7.out
          go_wp2_with fail
          refine (PS.out _).mono ?_
          clear g0 g1 g2
          rintro e w7 ⟨rfl, hz⟩
          have B8 := Lib.hid (B7.out.trans (hz.mono B7.out.size))
          have Xg8 := Lib.hid (Xg7.out.call hz)
          clear hz
          obtain ⟨g0, g1, g2⟩ := box_load Xg8.out
          clear g0 g1 g2
          have B9 := Lib.hid (B8.out.alloc B8.out.size (.cells #[.int .i64 j, .string u, .string v] 24))
          have Xg9 := Lib.hid (Xg8.out.alloc (.cells #[.int .i64 j, .string u, .string v] 24))
          have Xh9 := Lib.hid (Bx.new w7 24 #[.int .i64 j, .string u, .string v])
          obtain ⟨g0, g1, g2⟩ := box_load Xg9.out
          obtain ⟨h0, h1, h2⟩ := box_load Xh9.out
          go_wp2_with fail
          refine (FM.out _).mono ?_
          clear g0 g1 g2 h0 h1 h2
          rintro e w8 ⟨rfl, hz⟩
          have B10 := Lib.hid (B9.out.trans (hz.mono B9.out.size))
          have Xg10 := Lib.hid (Xg9.out.call hz)
          have Xh10 := Lib.hid (Xh9.out.call hz)
          clear hz
          obtain ⟨g0, g1, g2⟩ := box_load Xg10.out
          obtain ⟨h0, h1, h2⟩ := box_load Xh10.out
          go_wp2_with fail
          go_ret
          exact ⟨rfl, B10.out⟩

      · have hok := okB_true ha
        have hV := hok
        have hpf := parse_fmt ha
        have hne : ¬ fmtV (a.n : Int) (bs a.set) (bs a.rel) = bs [] := fun e => by rw [fmt_empty, hok] at e; cases e
        have hzs : (fmtV (a.n : Int) (bs a.set) (bs a.rel)).size ≤ 1048576 := by
          rw [fmt_yes hok, ByteArray.size_append, ByteArray.size_append]
          have h4 : (ByteArray.mk #[58]).size = 1 := rfl
          omega
        obtain ⟨Z, hZ⟩ : ∃ Z, fmtV (a.n : Int) (bs a.set) (bs a.rel) = Z := ⟨_, rfl⟩
        rw [hZ] at hpf hne hzs
        have cb : ∀ W, Calls Tryd.prog 25 #[.string Z] W fun e w' => e = .returned (.tuple #[stV (a.n : Int) (bs a.set) (bs a.rel), .bool true]) ∧ Below W.heap.size W w' := fun W => by
          have h := ParseStructure_impl Z W hzs
          rwa [hpf] at h
        clear hpf hok ha
        generalize (a.n : Int) = i at *
        generalize bs a.set = s at *
        generalize bs a.rel = r at *
        have CB := Lib.hid cb
        clear cb
        have cf : ∀ W, Calls Tryd.prog 23 #[stV i s r] W fun e w' => e = .returned (.string Z) ∧ Below W.heap.size W w' := fun W => by
          have h := FormatStructure_impl i s r W (by unfold maxLen; omega) (by unfold maxLen; omega)
          rwa [hZ] at h
        have cg : ∀ W, Calls Tryd.prog 24 #[stV i s r] W fun e w' => e = .returned (.string Z) ∧ Below W.heap.size W w' := fun W => by
          have h := FormatStructure_spec i s r W (by unfold maxLen; omega) (by unfold maxLen; omega)
          rwa [hZ] at h
        have cv : ∀ W, Calls Tryd.prog 15 #[stV i s r] W fun e w' => e = .returned (.bool true) ∧ Below W.heap.size W w' := fun W => by
          have h := StructureValid_impl i s r W (by unfold maxLen; omega) (by unfold maxLen; omega)
          rwa [hV] at h
        have CF := Lib.hid cf
        have CG := Lib.hid cg
        have CV := Lib.hid cv
        clear cf cg cv hZ hV
        have z1 : ¬ Z.toList = [] := fun e => hne (eq_bs (by rw [← ByteArray.toList_eq]; exact e))
        have z2 : Z.toList.isEmpty = false := by
          cases hq : Z.toList with
          | nil => exact absurd hq z1
          | cons => rfl
        clear hne
        have B1 := Lib.hid (B0.out.alloc B0.out.size (.cells #[.int .i64 i, .string s, .string r] 24))
        have Xa1 := Lib.hid (Bx.new w1 24 #[.int .i64 i, .string s, .string r])
        obtain ⟨a0, a1, a2⟩ := box_load Xa1.out
        go_wp2_with fail
        refine (CF.out _).mono ?_
        clear a0 a1 a2
        rintro e w2 ⟨rfl, hz⟩
        have B2 := Lib.hid (B1.out.trans (hz.mono B1.out.size))
        have Xa2 := Lib.hid (Xa1.out.call hz)
        clear hz
        obtain ⟨a0, a1, a2⟩ := box_load Xa2.out
        go_wp2_with fail
        refine (CG.out _).mono ?_
        clear a0 a1 a2
        rintro e w3 ⟨rfl, hz⟩
        have B3 := Lib.hid (B2.out.trans (hz.mono B2.out.size))
        have Xa3 := Lib.hid (Xa2.out.call hz)
        clear hz
        obtain ⟨a0, a1, a2⟩ := box_load Xa3.out
        go_wp2_with fail
        refine (CV.out _).mono ?_
        clear a0 a1 a2
        rintro e w4 ⟨rfl, hz⟩
        have B4 := Lib.hid (B3.out.trans (hz.mono B3.out.size))
        have Xa4 := Lib.hid (Xa3.out.call hz)
        clear hz
        obtain ⟨a0, a1, a2⟩ := box_load Xa4.out
        go_wp2_with fail
        refine (CB.out _).mono ?_
        clear a0 a1 a2
        rintro e w5 ⟨rfl, hz⟩
        have B5 := Lib.hid (B4.out.trans (hz.mono B4.out.size))
        have Xa5 := Lib.hid (Xa4.out.call hz)
        clear hz
        obtain ⟨a0, a1, a2⟩ := box_load Xa5.out
        clear a0 a1 a2
        have B6 := Lib.hid (B5.out.alloc B5.out.size (.cells #[.int .i64 i, .string s, .string r] 24))
        have Xa6 := Lib.hid (Xa5.out.alloc (.cells #[.int .i64 i, .string s, .string r] 24))
        have Xb6 := Lib.hid (Bx.new w5 24 #[.int .i64 i, .string s, .string r])
        obtain ⟨a0, a1, a2⟩ := box_load Xa6.out
        obtain ⟨b0, b1, b2⟩ := box_load Xb6.out
        go_wp2_with fail
        refine (HP.out _ (HM.out.call B6.out)).mono ?_
        clear a0 a1 a2 b0 b1 b2
        rintro e w6 ⟨⟨t, rfl, ht⟩, hz⟩
        have B7 := Lib.hid (B6.out.trans (hz.mono B6.out.size))
        clear hz
        have ht2 : t.size ≤ 1048576 := by omega
        have pi : ∀ W, Calls Tryd.prog 25 #[.string t] W fun e w' => e = .returned (resV (parseO t)) ∧ Below W.heap.size W w' := fun W => ParseStructure_impl t W ht2
        have ps : ∀ W, Calls Tryd.prog 27 #[.string t] W fun e w' => e = .returned (resV (parseO t)) ∧ Below W.heap.size W w' := fun W => ParseStructure_spec t W ht2
        cases hpo : parseO t with
        | none =>
          rw [hpo] at pi ps
          have pi2 : ∀ W, Calls Tryd.prog 25 #[.string t] W fun e w' => e = .returned (.tuple #[stV 0 (bs []) (bs []), .bool false]) ∧ Below W.heap.size W w' := pi
          have ps2 : ∀ W, Calls Tryd.prog 27 #[.string t] W fun e w' => e = .returned (.tuple #[stV 0 (bs []) (bs []), .bool false]) ∧ Below W.heap.size W w' := ps
          have PI := Lib.hid pi2
          have PS := Lib.hid ps2
          clear pi ps pi2 ps2 hpo
          go_wp2_with fail
          refine (PI.out _).mono ?_
          rintro e w7 ⟨rfl, hz⟩
          have B8 := Lib.hid (B7.out.trans (hz.mono B7.out.size))
          clear hz
          have B9 := Lib.hid (B8.out.alloc B8.out.size (.cells #[.int .i64 0, .string (bs []), .string (bs [])] 24))
          have Xg9 := Lib.hid (Bx.new w7 24 #[.int .i64 0, .string (bs []), .string (bs [])])
          obtain ⟨g0, g1, g2⟩ := box_load Xg9.out
          go_wp2_with fail
          refine (PS.out _).mono ?_
          clear g0 g1 g2
          rintro e w8 ⟨rfl, hz⟩
          have B10 := Lib.hid (B9.out.trans (hz.mono B9.out.size))
          have Xg10 := Lib.hid (Xg9.out.call hz)
          clear hz
          obtain ⟨g0, g1, g2⟩ := box_load Xg10.out
          clear g0 g1 g2
          have B11 := Lib.hid (B10.out.alloc B10.out.size (.cells #[.int .i64 0, .string (bs []), .string (bs [])] 24))
          have Xg11 := Lib.hid (Xg10.out.alloc (.cells #[.int .i64 0, .string (bs []), .string (bs [])] 24))
          have Xh11 := Lib.hid (Bx.new w8 24 #[.int .i64 0, .string (bs []), .string (bs [])])
          obtain ⟨g0, g1, g2⟩ := box_load Xg11.out
          obtain ⟨h0, h1, h2⟩ := box_load Xh11.out
          go_wp2_with fail
          go_ret
          exact ⟨rfl, B11.out⟩
        | some b =>
          obtain ⟨hb1, hb2⟩ := fmt_parse hpo
          rw [hpo] at pi ps
          have hz : (bs b.set).size ≤ 100 ∧ (bs b.rel).size ≤ 100 := by
            have h1 := st_small hb1
            omega
          obtain ⟨hz1, hz2⟩ := hz
          have fm : ∀ W, Calls Tryd.prog 23 #[stV (b.n : Int) (bs b.set) (bs b.rel)] W fun e w' => e = .returned (.string t) ∧ Below W.heap.size W w' := fun W => by
            have h := FormatStructure_impl (b.n : Int) (bs b.set) (bs b.rel) W (by unfold maxLen; omega) (by unfold maxLen; omega)
            rwa [hb2] at h
          have pi2 : ∀ W, Calls Tryd.prog 25 #[.string t] W fun e w' => e = .returned (.tuple #[stV (b.n : Int) (bs b.set) (bs b.rel), .bool true]) ∧ Below W.heap.size W w' := pi
          have ps2 : ∀ W, Calls Tryd.prog 27 #[.string t] W fun e w' => e = .returned (.tuple #[stV (b.n : Int) (bs b.set) (bs b.rel), .bool true]) ∧ Below W.heap.size W w' := ps
          clear pi ps hpo hb1 hb2
          generalize (b.n : Int) = j at *
          generalize bs b.set = u at *
          generalize bs b.rel = v at *
          have PI := Lib.hid pi2
          have PS := Lib.hid ps2
          have FM := Lib.hid fm
          clear pi2 ps2 fm
          go_wp2_with fail
          refine (PI.out _).mono ?_
          rintro e w7 ⟨rfl, hz⟩
          have B8 := Lib.hid (B7.out.trans (hz.mono B7.out.size))
          clear hz
          have B9 := Lib.hid (B8.out.alloc B8.out.size (.cells #[.int .i64 j, .string u, .string v] 24))
          have Xg9 := Lib.hid (Bx.new w7 24 #[.int .i64 j, .string u, .string v])
          obtain ⟨g0, g1, g2⟩ := box_load Xg9.out
          go_wp2_with fail
          refine (PS.out _).mono ?_
          clear g0 g1 g2
          rintro e w8 ⟨rfl, hz⟩
          have B10 := Lib.hid (B9.out.trans (hz.mono B9.out.size))
          have Xg10 := Lib.hid (Xg9.out.call hz)
          clear hz
          obtain ⟨g0, g1, g2⟩ := box_load Xg10.out
          clear g0 g1 g2
          have B11 := Lib.hid (B10.out.alloc B10.out.size (.cells #[.int .i64 j, .string u, .string v] 24))
          have Xg11 := Lib.hid (Xg10.out.alloc (.cells #[.int .i64 j, .string u, .string v] 24))
          have Xh11 := Lib.hid (Bx.new w8 24 #[.int .i64 j, .string u, .string v])
          obtain ⟨g0, g1, g2⟩ := box_load Xg11.out
          obtain ⟨h0, h1, h2⟩ := box_load Xh11.out
          go_wp2_with fail
          refine (FM.out _).mono ?_
          clear g0 g1 g2 h0 h1 h2
          rintro e w9 ⟨rfl, hz⟩
          have B12 := Lib.hid (B11.out.trans (hz.mono B11.out.size))
          have Xg12 := Lib.hid (Xg11.out.call hz)
          have Xh12 := Lib.hid (Xh11.out.call hz)
          clear hz
          obtain ⟨g0, g1, g2⟩ := box_load Xg12.out
          obtain ⟨h0, h1, h2⟩ := box_load Xh12.out
          go_wp2_with fail
          go_ret
          exact ⟨rfl, B12.out⟩

    · have hni : ¬ (1048576 : Int) < (n : Int) := by omega
      have hni2 : (1048576 : Int) < (n2 : Int) := by omega
      go_enter Tryd.func5, Tryd.ntmps5
      go_wp2_with fail
      go_ret
      exact ⟨rfl, Below.refl _ _⟩
  · have hni : (1048576 : Int) < (n : Int) := by omega
    go_enter Tryd.func5, Tryd.ntmps5
    go_wp2_with fail
    go_ret
    exact ⟨rfl, Below.refl _ _⟩

end Go.Proofs.YtpaoffjicgmleaaDoor
