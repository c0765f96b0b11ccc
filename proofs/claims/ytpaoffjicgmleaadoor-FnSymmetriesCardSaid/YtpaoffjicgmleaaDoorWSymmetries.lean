/-
  The walk of FnSymmetries. Condition: texts below the reach.
-/
import Derived.Test.YtpaoffjicgmleaaDoorDraw6
import Derived.Test.YtpaoffjicgmleaaDoorLawAny
namespace Go.Proofs.YtpaoffjicgmleaaDoor
open Go.RowKit
open Pl
set_option linter.unusedSimpArgs false
set_option linter.unusedVariables false


set_option maxHeartbeats 4000000 in
set_option maxRecDepth 100000 in
theorem FnSymmetries_walk (A : Option Addr) (n cap : Nat) (w : World) (h : ByRow w A n) (hc : n ≤ cap) (hm : cap ≤ maxLen) :
    Calls Tryd.prog 8 #[.slice A n cap] w fun e w' => e = .returned (.bool true) ∧ Below w.heap.size w w' := by
  by_cases hn : n ≤ 1048576
  · have hd := DrawOrbitOf_calls A n cap w h hn hc hm
    have HD := Lib.hid hd
    have hni : ¬ (1048576 : Int) < (n : Int) := by omega
    clear hd h
    go_enter Tryd.func8, Tryd.ntmps8
    go_wp2_with fail
    refine (HD.out).mono ?_
    rintro e w1 ⟨⟨i, s, r, x, rfl, hi, hs, hr, hx⟩, hz⟩
    have B0 := Lib.hid hz
    clear hz

    rcases ok_cases i s r with hok | ⟨a, ha, rfl, rfl, rfl⟩
    · have hO : orbV i s r x = [] := by unfold orbV; rw [hok]; rfl
      have hN : symV i s r = -1 := by unfold symV; rw [hok]; rfl
      have hV := hok
      have hl8 : ([] : List Nat).length ≤ 100 := by simp
      have cn : ∀ W, Calls Tryd.prog 21 #[stV i s r] W fun e w' => e = .returned (.int .i64 (-1)) ∧ Below W.heap.size W w' := fun W => by
        have h := CountSymmetries_impl i s r W (by unfold maxLen; omega) (by unfold maxLen; omega)
        rwa [hN] at h
      have cm : ∀ W, Calls Tryd.prog 37 #[stV i s r] W fun e w' => e = .returned (.int .i64 (-1)) ∧ Below W.heap.size W w' := fun W => by
        have h := CountSymmetries_spec i s r W (by unfold maxLen; omega) (by unfold maxLen; omega)
        rwa [hN] at h
      have cv : ∀ W, Calls Tryd.prog 15 #[stV i s r] W fun e w' => e = .returned (.bool false) ∧ Below W.heap.size W w' := fun W => by
        have h := StructureValid_impl i s r W (by unfold maxLen; omega) (by unfold maxLen; omega)
        rwa [hV] at h
      have co : ∀ W, Calls Tryd.prog 29 #[stV i s r, .int .i64 x] W fun e w' => (∃ A cap, e = .returned (.slice A ([] : List Nat).length cap) ∧ LRow w' A (natsI ([] : List Nat))) ∧ Below W.heap.size W w' := fun W => by
        have h := orbI_any i s r x hs hr W
        rwa [hO] at h
      have cp : ∀ W, Calls Tryd.prog 31 #[stV i s r, .int .i64 x] W fun e w' => (∃ A cap, e = .returned (.slice A ([] : List Nat).length cap) ∧ LRow w' A (natsI ([] : List Nat))) ∧ Below W.heap.size W w' := fun W => by
        have h := orbS_any i s r x hs hr W
        rwa [hO] at h
      have ce : ∀ (A C : Option Addr) (c1 c2 : Nat) (W : World), LRow W A (natsI ([] : List Nat)) → LRow W C (natsI ([] : List Nat)) → Calls Tryd.prog 30 #[.slice A ([] : List Nat).length c1, .slice C ([] : List Nat).length c2] W fun e w' => e = .returned (.bool true) ∧ Below W.heap.size W w' := fun A C c1 c2 W h1 h2 => by
        have h := same_any A C c1 c2 ([] : List Nat) ([] : List Nat) W hl8 hl8 h1 h2
        rwa [decide_eq_true rfl] at h
      have CN := Lib.hid cn
      have CM := Lib.hid cm
      have CV := Lib.hid cv
      have CO := Lib.hid co
      have CP := Lib.hid cp
      have CE := Lib.hid ce
      clear cn cm cv co cp ce hO hN hV hl8
      clear hok
      have B1 := Lib.hid (B0.out.alloc B0.out.size (.cells #[.int .i64 i, .string s, .string r] 24))
      have Xa1 := Lib.hid (Bx.new w1 24 #[.int .i64 i, .string s, .string r])
      obtain ⟨a0, a1, a2⟩ := box_load Xa1.out
      go_wp2_with fail
      refine (CN.out _).mono ?_
      clear a0 a1 a2
      rintro e w2 ⟨rfl, hz⟩
      have B2 := Lib.hid (B1.out.trans (hz.mono B1.out.size))
      have Xa2 := Lib.hid (Xa1.out.call hz)
      clear hz
      obtain ⟨a0, a1, a2⟩ := box_load Xa2.out
      go_wp2_with fail
      refine (CO.out _).mono ?_
      clear a0 a1 a2
      rintro e w3 ⟨⟨A1, cap1, rfl, hl⟩, hz⟩
      have B3 := Lib.hid (B2.out.trans (hz.mono B2.out.size))
      have Xa3 := Lib.hid (Xa2.out.call hz)
      have La := Lib.hid hl
      clear hl
      clear hz
      obtain ⟨a0, a1, a2⟩ := box_load Xa3.out
      go_wp2_with fail
      refine (CM.out _).mono ?_
      clear a0 a1 a2
      rintro e w4 ⟨rfl, hz⟩
      have B4 := Lib.hid (B3.out.trans (hz.mono B3.out.size))
      have Xa4 := Lib.hid (Xa3.out.call hz)
      have La4 := Lib.hid (La.out.call hz)
      clear hz
      obtain ⟨a0, a1, a2⟩ := box_load Xa4.out
      go_wp2_with fail
      refine (CP.out _).mono ?_
      clear a0 a1 a2
      rintro e w5 ⟨⟨A2, cap2, rfl, hl⟩, hz⟩
      have B5 := Lib.hid (B4.out.trans (hz.mono B4.out.size))
      have Xa5 := Lib.hid (Xa4.out.call hz)
      have La5 := Lib.hid (La4.out.call hz)
      have Lb := Lib.hid hl
      clear hl
      clear hz
      obtain ⟨a0, a1, a2⟩ := box_load Xa5.out
      go_wp2_with fail
      refine (CE.out _ _ _ _ _ La5.out Lb.out).mono ?_
      clear a0 a1 a2
      rintro e w6 ⟨rfl, hz⟩
      have B6 := Lib.hid (B5.out.trans (hz.mono B5.out.size))
      have Xa6 := Lib.hid (Xa5.out.call hz)
      have La6 := Lib.hid (La5.out.call hz)
      have Lb6 := Lib.hid (Lb.out.call hz)
      clear hz
      obtain ⟨a0, a1, a2⟩ := box_load Xa6.out
      go_wp2_with fail
      refine (CM.out _).mono ?_
      clear a0 a1 a2
      rintro e w7 ⟨rfl, hz⟩
      have B7 := Lib.hid (B6.out.trans (hz.mono B6.out.size))
      have Xa7 := Lib.hid (Xa6.out.call hz)
      have La7 := Lib.hid (La6.out.call hz)
      have Lb7 := Lib.hid (Lb6.out.call hz)
      clear hz
      obtain ⟨a0, a1, a2⟩ := box_load Xa7.out
      go_wp2_with fail
      refine (CP.out _).mono ?_
      clear a0 a1 a2
      rintro e w8 ⟨⟨A3, cap3, rfl, hl⟩, hz⟩
      have B8 := Lib.hid (B7.out.trans (hz.mono B7.out.size))
      have Xa8 := Lib.hid (Xa7.out.call hz)
      have La8 := Lib.hid (La7.out.call hz)
      have Lb8 := Lib.hid (Lb7.out.call hz)
      have Lc := Lib.hid hl
      clear hl
      clear hz
      obtain ⟨a0, a1, a2⟩ := box_load Xa8.out
      go_wp2_with fail
      refine (CE.out _ _ _ _ _ La8.out Lc.out).mono ?_
      clear a0 a1 a2
      rintro e w9 ⟨rfl, hz⟩
      have B9 := Lib.hid (B8.out.trans (hz.mono B8.out.size))
      have Xa9 := Lib.hid (Xa8.out.call hz)
      have La9 := Lib.hid (La8.out.call hz)
      have Lb9 := Lib.hid (Lb8.out.call hz)
      have Lc9 := Lib.hid (Lc.out.call hz)
      clear hz
      obtain ⟨a0, a1, a2⟩ := box_load Xa9.out
      go_wp2_with fail
      refine (CV.out _).mono ?_
      clear a0 a1 a2
      rintro e w10 ⟨rfl, hz⟩
      have B10 := Lib.hid (B9.out.trans (hz.mono B9.out.size))
      have Xa10 := Lib.hid (Xa9.out.call hz)
      have La10 := Lib.hid (La9.out.call hz)
      have Lb10 := Lib.hid (Lb9.out.call hz)
      have Lc10 := Lib.hid (Lc9.out.call hz)
      clear hz
      obtain ⟨a0, a1, a2⟩ := box_load Xa10.out
      go_wp2_with fail
      go_ret
      exact ⟨rfl, B10.out⟩

    · have hok := okB_true ha
      have hV := hok
      have hpos := sym_pos a
      have hdv := count_dvd_fact a
      obtain ⟨hf1, hf2⟩ := fact_le8 ha.hi
      have hle := Nat.le_of_dvd hf2 hdv
      have hN : symV a.n (bs a.set) (bs a.rel) = (((isos a a).length : Nat) : Int) := by unfold symV; rw [hok, ofSt_eq]; rfl
      have hn1 := ha.lo
      have hn8 := ha.hi
      rcases el_cases a.n x with hx0 | ⟨k, rfl, hk, hx0⟩
      · have hO : orbV a.n (bs a.set) (bs a.rel) x = [] := by unfold orbV; rw [hok, hx0]; rfl
        have hl8 : ([] : List Nat).length ≤ 100 := by simp
        obtain ⟨N, hNN⟩ : ∃ N, N = (isos a a).length := ⟨_, rfl⟩
        rw [← hNN] at hpos hle hN
        generalize hi2 : (a.n : Int) = i at *
        generalize hs2 : bs a.set = s at *
        generalize hr2 : bs a.rel = r at *
        have cn : ∀ W, Calls Tryd.prog 21 #[stV i s r] W fun e w' => e = .returned (.int .i64 ((N : Nat))) ∧ Below W.heap.size W w' := fun W => by
          have h := CountSymmetries_impl i s r W (by unfold maxLen; omega) (by unfold maxLen; omega)
          rwa [hN] at h
        have cm : ∀ W, Calls Tryd.prog 37 #[stV i s r] W fun e w' => e = .returned (.int .i64 ((N : Nat))) ∧ Below W.heap.size W w' := fun W => by
          have h := CountSymmetries_spec i s r W (by unfold maxLen; omega) (by unfold maxLen; omega)
          rwa [hN] at h
        have cv : ∀ W, Calls Tryd.prog 15 #[stV i s r] W fun e w' => e = .returned (.bool true) ∧ Below W.heap.size W w' := fun W => by
          have h := StructureValid_impl i s r W (by unfold maxLen; omega) (by unfold maxLen; omega)
          rwa [hV] at h
        have co : ∀ W, Calls Tryd.prog 29 #[stV i s r, .int .i64 x] W fun e w' => (∃ A cap, e = .returned (.slice A ([] : List Nat).length cap) ∧ LRow w' A (natsI ([] : List Nat))) ∧ Below W.heap.size W w' := fun W => by
          have h := orbI_any i s r x hs hr W
          rwa [hO] at h
        have cp : ∀ W, Calls Tryd.prog 31 #[stV i s r, .int .i64 x] W fun e w' => (∃ A cap, e = .returned (.slice A ([] : List Nat).length cap) ∧ LRow w' A (natsI ([] : List Nat))) ∧ Below W.heap.size W w' := fun W => by
          have h := orbS_any i s r x hs hr W
          rwa [hO] at h
        have ce : ∀ (A C : Option Addr) (c1 c2 : Nat) (W : World), LRow W A (natsI ([] : List Nat)) → LRow W C (natsI ([] : List Nat)) → Calls Tryd.prog 30 #[.slice A ([] : List Nat).length c1, .slice C ([] : List Nat).length c2] W fun e w' => e = .returned (.bool true) ∧ Below W.heap.size W w' := fun A C c1 c2 W h1 h2 => by
          have h := same_any A C c1 c2 ([] : List Nat) ([] : List Nat) W hl8 hl8 h1 h2
          rwa [decide_eq_true rfl] at h
        have CN := Lib.hid cn
        have CM := Lib.hid cm
        have CV := Lib.hid cv
        have CO := Lib.hid co
        have CP := Lib.hid cp
        have CE := Lib.hid ce
        clear cn cm cv co cp ce hO hN hV hl8
        have hNi : ¬ (N : Int) < 1 := by omega
        have hNi2 : (1 : Int) ≤ (N : Int) := by omega
        have hx1 : x < 0 ∨ (0 ≤ x ∧ i ≤ x) := by
          unfold elB at hx0
          have h2 : ¬ (0 ≤ x ∧ x < i) := by simpa using hx0
          omega
        clear hok hx0 hi2 hs2 hr2 hdv hNN ha
        rcases hx1 with hx1 | ⟨hx1, hx2⟩
        all_goals
          have B1 := Lib.hid (B0.out.alloc B0.out.size (.cells #[.int .i64 i, .string s, .string r] 24))
          have Xa1 := Lib.hid (Bx.new w1 24 #[.int .i64 i, .string s, .string r])
          obtain ⟨a0, a1, a2⟩ := box_load Xa1.out
          go_wp2_with fail
          refine (CN.out _).mono ?_
          clear a0 a1 a2
          rintro e w2 ⟨rfl, hz⟩
          have B2 := Lib.hid (B1.out.trans (hz.mono B1.out.size))
          have Xa2 := Lib.hid (Xa1.out.call hz)
          clear hz
          obtain ⟨a0, a1, a2⟩ := box_load Xa2.out
          go_wp2_with fail
          refine (CO.out _).mono ?_
          clear a0 a1 a2
          rintro e w3 ⟨⟨A1, cap1, rfl, hl⟩, hz⟩
          have B3 := Lib.hid (B2.out.trans (hz.mono B2.out.size))
          have Xa3 := Lib.hid (Xa2.out.call hz)
          have La := Lib.hid hl
          clear hl
          clear hz
          obtain ⟨a0, a1, a2⟩ := box_load Xa3.out
          go_wp2_with fail
          refine (CM.out _).mono ?_
          clear a0 a1 a2
          rintro e w4 ⟨rfl, hz⟩
          have B4 := Lib.hid (B3.out.trans (hz.mono B3.out.size))
          have Xa4 := Lib.hid (Xa3.out.call hz)
          have La4 := Lib.hid (La.out.call hz)
          clear hz
          obtain ⟨a0, a1, a2⟩ := box_load Xa4.out
          go_wp2_with fail
          refine (CP.out _).mono ?_
          clear a0 a1 a2
          rintro e w5 ⟨⟨A2, cap2, rfl, hl⟩, hz⟩
          have B5 := Lib.hid (B4.out.trans (hz.mono B4.out.size))
          have Xa5 := Lib.hid (Xa4.out.call hz)
          have La5 := Lib.hid (La4.out.call hz)
          have Lb := Lib.hid hl
          clear hl
          clear hz
          obtain ⟨a0, a1, a2⟩ := box_load Xa5.out
          go_wp2_with fail
          refine (CE.out _ _ _ _ _ La5.out Lb.out).mono ?_
          clear a0 a1 a2
          rintro e w6 ⟨rfl, hz⟩
          have B6 := Lib.hid (B5.out.trans (hz.mono B5.out.size))
          have Xa6 := Lib.hid (Xa5.out.call hz)
          have La6 := Lib.hid (La5.out.call hz)
          have Lb6 := Lib.hid (Lb.out.call hz)
          clear hz
          obtain ⟨a0, a1, a2⟩ := box_load Xa6.out
          go_wp2_with fail
          refine (CM.out _).mono ?_
          clear a0 a1 a2
          rintro e w7 ⟨rfl, hz⟩
          have B7 := Lib.hid (B6.out.trans (hz.mono B6.out.size))
          have Xa7 := Lib.hid (Xa6.out.call hz)
          have La7 := Lib.hid (La6.out.call hz)
          have Lb7 := Lib.hid (Lb6.out.call hz)
          clear hz
          obtain ⟨a0, a1, a2⟩ := box_load Xa7.out
          go_wp2_with fail
          refine (CP.out _).mono ?_
          clear a0 a1 a2
          rintro e w8 ⟨⟨A3, cap3, rfl, hl⟩, hz⟩
          have B8 := Lib.hid (B7.out.trans (hz.mono B7.out.size))
          have Xa8 := Lib.hid (Xa7.out.call hz)
          have La8 := Lib.hid (La7.out.call hz)
          have Lb8 := Lib.hid (Lb7.out.call hz)
          have Lc := Lib.hid hl
          clear hl
          clear hz
          obtain ⟨a0, a1, a2⟩ := box_load Xa8.out
          go_wp2_with fail
          refine (CE.out _ _ _ _ _ La8.out Lc.out).mono ?_
          clear a0 a1 a2
          rintro e w9 ⟨rfl, hz⟩
          have B9 := Lib.hid (B8.out.trans (hz.mono B8.out.size))
          have Xa9 := Lib.hid (Xa8.out.call hz)
          have La9 := Lib.hid (La8.out.call hz)
          have Lb9 := Lib.hid (Lb8.out.call hz)
          have Lc9 := Lib.hid (Lc.out.call hz)
          clear hz
          obtain ⟨a0, a1, a2⟩ := box_load Xa9.out
          go_wp2_with fail
          refine (CV.out _).mono ?_
          clear a0 a1 a2
          rintro e w10 ⟨rfl, hz⟩
          have B10 := Lib.hid (B9.out.trans (hz.mono B9.out.size))
          have Xa10 := Lib.hid (Xa9.out.call hz)
          have La10 := Lib.hid (La9.out.call hz)
          have Lb10 := Lib.hid (Lb9.out.call hz)
          have Lc10 := Lib.hid (Lc9.out.call hz)
          clear hz
          obtain ⟨a0, a1, a2⟩ := box_load Xa10.out
          go_wp2_with fail
          go_ret
          exact ⟨rfl, B10.out⟩

      · have hO : orbV a.n (bs a.set) (bs a.rel) (k : Nat) = orbL a.n (isos a a) k := by unfold orbV; rw [hok, hx0, ofSt_eq]; rfl
        have hdl := orb_dvd (aut_grp a) hk
        have hin := orb_self (aut_grp a) hk
        have hl0 := orb_pos (aut_grp a) hk
        have hl9 : (orbL a.n (isos a a) k).length ≤ a.n := by
          have := List.length_filter_le (fun y => (isos a a).any fun l => app l k == y) (List.range a.n)
          simpa [orbL] using this
        obtain ⟨N, hNN⟩ : ∃ N, N = (isos a a).length := ⟨_, rfl⟩
        rw [← hNN] at hpos hle hN hdl hdv
        clear hok hx0 hNN
        generalize orbL a.n (isos a a) k = L at *
        generalize bs a.set = s at *
        generalize bs a.rel = r at *
        clear ha
        generalize a.n = m at *
        have hl8 : L.length ≤ 100 := by omega
        have hl10 : L.length ≤ 8 := by omega
        have ch : ∀ (A : Option Addr) (c : Nat) (W : World), LRow W A (natsI L) → Calls Tryd.prog 32 #[.slice A L.length c, .int .i64 (k : Nat)] W fun e w' => e = .returned (.bool true) ∧ W = w' := fun A c W h1 => by
          have h := has_any A c L k W (by omega) h1
          rwa [decide_eq_true hin] at h
        have CH := Lib.hid ch
        clear ch hin
        generalize hxx : ((k : Nat) : Int) = x at *
        have cn : ∀ W, Calls Tryd.prog 21 #[stV (m : Int) s r] W fun e w' => e = .returned (.int .i64 ((N : Nat))) ∧ Below W.heap.size W w' := fun W => by
          have h := CountSymmetries_impl (m : Int) s r W (by unfold maxLen; omega) (by unfold maxLen; omega)
          rwa [hN] at h
        have cm : ∀ W, Calls Tryd.prog 37 #[stV (m : Int) s r] W fun e w' => e = .returned (.int .i64 ((N : Nat))) ∧ Below W.heap.size W w' := fun W => by
          have h := CountSymmetries_spec (m : Int) s r W (by unfold maxLen; omega) (by unfold maxLen; omega)
          rwa [hN] at h
        have cv : ∀ W, Calls Tryd.prog 15 #[stV (m : Int) s r] W fun e w' => e = .returned (.bool true) ∧ Below W.heap.size W w' := fun W => by
          have h := StructureValid_impl (m : Int) s r W (by unfold maxLen; omega) (by unfold maxLen; omega)
          rwa [hV] at h
        have co : ∀ W, Calls Tryd.prog 29 #[stV (m : Int) s r, .int .i64 x] W fun e w' => (∃ A cap, e = .returned (.slice A (L).length cap) ∧ LRow w' A (natsI (L))) ∧ Below W.heap.size W w' := fun W => by
          have h := orbI_any (m : Int) s r x hs hr W
          rwa [hO] at h
        have cp : ∀ W, Calls Tryd.prog 31 #[stV (m : Int) s r, .int .i64 x] W fun e w' => (∃ A cap, e = .returned (.slice A (L).length cap) ∧ LRow w' A (natsI (L))) ∧ Below W.heap.size W w' := fun W => by
          have h := orbS_any (m : Int) s r x hs hr W
          rwa [hO] at h
        have ce : ∀ (A C : Option Addr) (c1 c2 : Nat) (W : World), LRow W A (natsI (L)) → LRow W C (natsI (L)) → Calls Tryd.prog 30 #[.slice A (L).length c1, .slice C (L).length c2] W fun e w' => e = .returned (.bool true) ∧ Below W.heap.size W w' := fun A C c1 c2 W h1 h2 => by
          have h := same_any A C c1 c2 (L) (L) W hl8 hl8 h1 h2
          rwa [decide_eq_true rfl] at h
        have CN := Lib.hid cn
        have CM := Lib.hid cm
        have CV := Lib.hid cv
        have CO := Lib.hid co
        have CP := Lib.hid cp
        have CE := Lib.hid ce
        clear cn cm cv co cp ce hO hN hV hl8
        have hNi : ¬ (N : Int) < 1 := by omega
        have hNi2 : (1 : Int) ≤ (N : Int) := by omega
        have hx1 : ¬ x < 0 := by omega
        have hx2 : ¬ (m : Int) ≤ x := by omega
        have hx3 : x < (m : Int) := by omega
        have hx4 : 0 ≤ x := by omega
        clear hxx
        have B1 := Lib.hid (B0.out.alloc B0.out.size (.cells #[.int .i64 (m : Int), .string s, .string r] 24))
        have Xa1 := Lib.hid (Bx.new w1 24 #[.int .i64 (m : Int), .string s, .string r])
        obtain ⟨a0, a1, a2⟩ := box_load Xa1.out
        go_wp2_with fail
        refine (CN.out _).mono ?_
        clear a0 a1 a2
        rintro e w2 ⟨rfl, hz⟩
        have B2 := Lib.hid (B1.out.trans (hz.mono B1.out.size))
        have Xa2 := Lib.hid (Xa1.out.call hz)
        clear hz
        obtain ⟨a0, a1, a2⟩ := box_load Xa2.out
        go_wp2_with fail
        refine (CO.out _).mono ?_
        clear a0 a1 a2
        rintro e w3 ⟨⟨A1, cap1, rfl, hl⟩, hz⟩
        have B3 := Lib.hid (B2.out.trans (hz.mono B2.out.size))
        have Xa3 := Lib.hid (Xa2.out.call hz)
        have La := Lib.hid hl
        clear hl
        clear hz
        obtain ⟨a0, a1, a2⟩ := box_load Xa3.out
        go_wp2_with fail
        refine (CM.out _).mono ?_
        clear a0 a1 a2
        rintro e w4 ⟨rfl, hz⟩
        have B4 := Lib.hid (B3.out.trans (hz.mono B3.out.size))
        have Xa4 := Lib.hid (Xa3.out.call hz)
        have La4 := Lib.hid (La.out.call hz)
        clear hz
        obtain ⟨a0, a1, a2⟩ := box_load Xa4.out
        go_wp2_with fail
        refine (CP.out _).mono ?_
        clear a0 a1 a2
        rintro e w5 ⟨⟨A2, cap2, rfl, hl⟩, hz⟩
        have B5 := Lib.hid (B4.out.trans (hz.mono B4.out.size))
        have Xa5 := Lib.hid (Xa4.out.call hz)
        have La5 := Lib.hid (La4.out.call hz)
        have Lb := Lib.hid hl
        clear hl
        clear hz
        obtain ⟨a0, a1, a2⟩ := box_load Xa5.out
        go_wp2_with fail
        refine (CE.out _ _ _ _ _ La5.out Lb.out).mono ?_
        clear a0 a1 a2
        rintro e w6 ⟨rfl, hz⟩
        have B6 := Lib.hid (B5.out.trans (hz.mono B5.out.size))
        have Xa6 := Lib.hid (Xa5.out.call hz)
        have La6 := Lib.hid (La5.out.call hz)
        have Lb6 := Lib.hid (Lb.out.call hz)
        clear hz
        obtain ⟨a0, a1, a2⟩ := box_load Xa6.out
        go_wp2_with fail
        go_loopg [7, 8] (m - 1) (fun c al i wr => ∃ j : Nat, j + c = m ∧ 1 ≤ j ∧ al = .int .i64 ((fact j : Nat) : Int) ∧ i = .int .i64 ((j : Int) + 1) ∧ w6 = wr)
        case atStart => exact ⟨1, by omega, by omega, rfl, rfl, rfl⟩
        case round =>
          obtain ⟨j, hj, hj1, rfl, rfl, rfl⟩ := hrel
          by_cases hlt : j < m
          · have hji : (j : Int) + 1 ≤ (m : Int) := by omega
            obtain ⟨hz1, hz2⟩ := fact_le8 (n := j + 1) (by omega)
            have hz3 : fact (j + 1) = (j + 1) * fact j := rfl
            obtain ⟨F1, hF1⟩ : ∃ F1 : Int, F1 = ((fact j : Nat) : Int) := ⟨_, rfl⟩
            obtain ⟨F2, hF2⟩ : ∃ F2 : Int, F2 = ((fact (j + 1) : Nat) : Int) := ⟨_, rfl⟩
            have hmul : F1 * ((j : Int) + 1) = F2 := by rw [hF1, hF2, hz3, Int.natCast_mul, Int.mul_comm]; rfl
            have hw : IntKind.i64.wrap (F1 * ((j : Int) + 1)) = F2 := by rw [hmul]; exact IntWalk.i64_in _ (by omega)
            rw [← hF1]
            have HF2 := Lib.hid hF2
            clear hF1 hF2 hmul hz1 hz2 hz3
            go_wp2_with fail
            go_roundg (m - j - 1)
            case rel => exact ⟨j + 1, by omega, by omega, by rw [HF2.out], by go_num, rfl⟩
            case measure => omega
          · obtain rfl : m = j := by omega
            have hji : ¬ (m : Int) + 1 ≤ (m : Int) := by omega
            obtain ⟨FA, hFA⟩ : ∃ FA : Nat, FA = fact m := ⟨_, rfl⟩
            rw [← hFA] at hdv hf1 hf2
            rw [← hFA]
            have hm1 : ((FA : Int) % (N : Int) == 0) = true := by
              rw [beq_iff_eq]; exact Int.emod_eq_zero_of_dvd (Int.natCast_dvd_natCast.2 hdv)
            have hm2 : ((N : Int) % (L.length : Int) == 0) = true := by
              rw [beq_iff_eq]; exact Int.emod_eq_zero_of_dvd (Int.natCast_dvd_natCast.2 hdl)
            have hm3 : ((L.length : Int) == 0) = false := beq_eq_false_iff_ne.2 (by omega)
            have hm4 : ((N : Int) == 0) = false := beq_eq_false_iff_ne.2 (by omega)
            have e1 : (0 : Int) < (N : Int) := by omega
            have e2 : (0 : Int) < (L.length : Int) := by omega
            have e3 : (FA : Int) ≤ 40320 := by omega
            have e4 : (N : Int) ≤ 40320 := by omega
            have e5 : (0 : Int) ≤ (FA : Int) := by omega
            clear hFA hdv hdl hj hlt
            go_wp2_with fail
            refine (CH.out _ _ _ La6.out).mono ?_
            rintro e wz ⟨rfl, rfl⟩
            go_wp2_with fail
            go_ret
            exact ⟨rfl, B6.out⟩

  · have hni : (1048576 : Int) < (n : Int) := by omega
    go_enter Tryd.func8, Tryd.ntmps8
    go_wp2_with fail
    go_ret
    exact ⟨rfl, Below.refl _ _⟩

end Go.Proofs.YtpaoffjicgmleaaDoor
