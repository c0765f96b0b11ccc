/-
  The walk of FnOrbits. Condition: texts below the reach.
-/
import Derived.Test.YtpaoffjicgmleaaDoorDraw6
import Derived.Test.YtpaoffjicgmleaaDoorLawAny
import Derived.Test.YtpaoffjicgmleaaDoorIn
namespace Go.Proofs.YtpaoffjicgmleaaDoor
open Go.RowKit
open Pl
set_option linter.unusedSimpArgs false
set_option linter.unusedVariables false


set_option maxHeartbeats 4000000 in
set_option maxRecDepth 100000 in
theorem FnOrbits_walk (A : Option Addr) (n cap : Nat) (w : World) (h : ByRow w A n) (hc : n ≤ cap) (hm : cap ≤ maxLen) :
    Calls Tryd.prog 6 #[.slice A n cap] w fun e w' => e = .returned (.bool true) ∧ Below w.heap.size w w' := by
  by_cases hn : n ≤ 1048576
  · have hd := DrawOrbitOf_calls A n cap w h hn hc hm
    have HD := Lib.hid hd
    have hni : ¬ (1048576 : Int) < (n : Int) := by omega
    clear hd h
    go_enter Tryd.func6, Tryd.ntmps6
    go_wp2_with fail
    refine (HD.out).mono ?_
    rintro e w1 ⟨⟨i, s, r, x, rfl, hi, hs, hr, hx⟩, hz⟩
    have B0 := Lib.hid hz
    clear hz

    rcases ok_cases i s r with hok | ⟨a, ha, rfl, rfl, rfl⟩
    · have hO : orbV i s r x = [] := by unfold orbV; rw [hok]; rfl
      have hV := hok
      have hl8 : ([] : List Nat).length ≤ 100 := by simp
      have cv : ∀ W, Calls Tryd.prog 15 #[stV i s r] W fun e w' => e = .returned (.bool false) ∧ Below W.heap.size W w' := fun W => by
        have h := StructureValid_impl i s r W (by unfold maxLen; omega) (by unfold maxLen; omega)
        rwa [hV] at h
      have co : ∀ W, Calls Tryd.prog 29 #[stV i s r, .int .i64 x] W fun e w' => (∃ A cap, e = .returned (.slice A ([] : List Nat).length cap) ∧ LRow w' A (natsI ([] : List Nat))) ∧ Below W.heap.size W w' := fun W => by
        have h := orbI_any i s r x hs hr W
        rwa [hO] at h
      have cp : ∀ W, Calls Tryd.prog 31 #[stV i s r, .int .i64 x] W fun e w' => (∃ A cap, e = .returned (.slice A ([] : List Nat).length cap) ∧ LRow w' A (natsI ([] : List Nat))) ∧ Below W.heap.size W w' := fun W => by
        have h := orbS_any i s r x hs hr W
        rwa [hO] at h
      have ce : ∀ (A C : Option Addr) (c1 c2 : Nat) (W : World), LRow W A (natsI ([] : List Nat)) → LRow W C (natsI ([] : List Nat)) → Calls Tryd.prog 30 #[.slice A ([] : List Nat).length c1, .slice C ([] : List Nat).length c2] W fun e w' => e = .returned (.bool true) ∧ Below W.heap.size W w' := fun A C c1 c2 W h1 h2 => by
        have h := same_any A C c1 c2 ([] : List Nat) ([] : List Nat) W hl8 hl8 h1 h2
        rwa [decide_eq_true rfl] at h
      have CV := Lib.hid cv
      have CO := Lib.hid co
      have CP := Lib.hid cp
      have CE := Lib.hid ce
      clear cv co cp ce hO hV hl8
      clear hok
      have B1 := Lib.hid (B0.out.alloc B0.out.size (.cells #[.int .i64 i, .string s, .string r] 24))
      have Xa1 := Lib.hid (Bx.new w1 24 #[.int .i64 i, .string s, .string r])
      obtain ⟨a0, a1, a2⟩ := box_load Xa1.out
      go_wp2_with fail
      refine (CO.out _).mono ?_
      clear a0 a1 a2
      rintro e w2 ⟨⟨A1, cap1, rfl, hl⟩, hz⟩
      have B2 := Lib.hid (B1.out.trans (hz.mono B1.out.size))
      have Xa2 := Lib.hid (Xa1.out.call hz)
      have La := Lib.hid hl
      clear hl
      clear hz
      obtain ⟨a0, a1, a2⟩ := box_load Xa2.out
      go_wp2_with fail
      refine (CP.out _).mono ?_
      clear a0 a1 a2
      rintro e w3 ⟨⟨A2, cap2, rfl, hl⟩, hz⟩
      have B3 := Lib.hid (B2.out.trans (hz.mono B2.out.size))
      have Xa3 := Lib.hid (Xa2.out.call hz)
      have La3 := Lib.hid (La.out.call hz)
      have Lb := Lib.hid hl
      clear hl
      clear hz
      obtain ⟨a0, a1, a2⟩ := box_load Xa3.out
      go_wp2_with fail
      refine (CE.out _ _ _ _ _ La3.out Lb.out).mono ?_
      clear a0 a1 a2
      rintro e w4 ⟨rfl, hz⟩
      have B4 := Lib.hid (B3.out.trans (hz.mono B3.out.size))
      have Xa4 := Lib.hid (Xa3.out.call hz)
      have La4 := Lib.hid (La3.out.call hz)
      have Lb4 := Lib.hid (Lb.out.call hz)
      clear hz
      obtain ⟨a0, a1, a2⟩ := box_load Xa4.out
      go_wp2_with fail
      refine (CP.out _).mono ?_
      clear a0 a1 a2
      rintro e w5 ⟨⟨A3, cap3, rfl, hl⟩, hz⟩
      have B5 := Lib.hid (B4.out.trans (hz.mono B4.out.size))
      have Xa5 := Lib.hid (Xa4.out.call hz)
      have La5 := Lib.hid (La4.out.call hz)
      have Lb5 := Lib.hid (Lb4.out.call hz)
      have Lc := Lib.hid hl
      clear hl
      clear hz
      obtain ⟨a0, a1, a2⟩ := box_load Xa5.out
      go_wp2_with fail
      refine (CE.out _ _ _ _ _ La5.out Lc.out).mono ?_
      clear a0 a1 a2
      rintro e w6 ⟨rfl, hz⟩
      have B6 := Lib.hid (B5.out.trans (hz.mono B5.out.size))
      have Xa6 := Lib.hid (Xa5.out.call hz)
      have La6 := Lib.hid (La5.out.call hz)
      have Lb6 := Lib.hid (Lb5.out.call hz)
      have Lc6 := Lib.hid (Lc.out.call hz)
      clear hz
      obtain ⟨a0, a1, a2⟩ := box_load Xa6.out
      go_wp2_with fail
      refine (CV.out _).mono ?_
      clear a0 a1 a2
      rintro e w7 ⟨rfl, hz⟩
      have B7 := Lib.hid (B6.out.trans (hz.mono B6.out.size))
      have Xa7 := Lib.hid (Xa6.out.call hz)
      have La7 := Lib.hid (La6.out.call hz)
      have Lb7 := Lib.hid (Lb6.out.call hz)
      have Lc7 := Lib.hid (Lc6.out.call hz)
      clear hz
      obtain ⟨a0, a1, a2⟩ := box_load Xa7.out
      go_wp2_with fail
      go_ret
      exact ⟨rfl, B7.out⟩

    · have hok := okB_true ha
      have hV := hok
      have hn1 := ha.lo
      have hn8 := ha.hi
      rcases el_cases a.n x with hx0 | ⟨k, rfl, hk, hx0⟩
      · have hO : orbV a.n (bs a.set) (bs a.rel) x = [] := by unfold orbV; rw [hok, hx0]; rfl
        have hl8 : ([] : List Nat).length ≤ 100 := by simp
        generalize hi2 : (a.n : Int) = i at *
        generalize hs2 : bs a.set = s at *
        generalize hr2 : bs a.rel = r at *
        have cv : ∀ W, Calls Tryd.prog 15 #[stV i s r] W fun e w' => e = .returned (.bool true) ∧ Below W.heap.size W w' := fun W => by
          have h := StructureValid_impl i s r W (by unfold maxLen; omega) (by unfold maxLen; omega)
          rwa [hV] at h
        have co : ∀ W, Calls Tryd.prog 29 #[stV i s r, .int .i64 x] W fun e w' => (∃ A cap, e = .returned (.slice A ([] : List Nat).length cap) ∧ LRow w' A (natsI ([] : List Nat))) ∧ Below W.heap.size W w' := fun W => by
          have h := orbI_any i s r x hs hr W
          rwa [hO] at h
        have cp : ∀ W, Calls Tryd.prog 31 #[stV i s r, .int .i64 x] W fun e w' => (∃ A cap, e = .returned (.slice A ([] : List Nat).length cap) ∧ LRow w' A (natsI ([] : List Nat))) ∧ Below W.heap.size W w' := fun W => by
          have h := orbS_any i s r x hs hr W
          rwa [hO] at h
        have ce : ∀ (A C : Option Addr) (c1 c2 : Nat) (W : World), LRow W A (natsI ([] : List Nat)) → LRow W C (natsI ([] : List Nat)) → Calls Tryd.prog 30 #[.slice A ([] : List Nat).length c1, .slice C ([] : List Nat).length c2] W fun e w' => e = .returned (.bool true) ∧ Below W.heap.size W w' := fun A C c1 c2 W h1 h2 => by
          have h := same_any A C c1 c2 ([] : List Nat) ([] : List Nat) W hl8 hl8 h1 h2
          rwa [decide_eq_true rfl] at h
        have CV := Lib.hid cv
        have CO := Lib.hid co
        have CP := Lib.hid cp
        have CE := Lib.hid ce
        clear cv co cp ce hO hV hl8
        have hx1 : x < 0 ∨ (0 ≤ x ∧ i ≤ x) := by
          unfold elB at hx0
          have h2 : ¬ (0 ≤ x ∧ x < i) := by simpa using hx0
          omega
        clear hok hx0 hi2 hs2 hr2 ha
        rcases hx1 with hx1 | ⟨hx1, hx2⟩
        all_goals
          have B1 := Lib.hid (B0.out.alloc B0.out.size (.cells #[.int .i64 i, .string s, .string r] 24))
          have Xa1 := Lib.hid (Bx.new w1 24 #[.int .i64 i, .string s, .string r])
          obtain ⟨a0, a1, a2⟩ := box_load Xa1.out
          go_wp2_with fail
          refine (CO.out _).mono ?_
          clear a0 a1 a2
          rintro e w2 ⟨⟨A1, cap1, rfl, hl⟩, hz⟩
          have B2 := Lib.hid (B1.out.trans (hz.mono B1.out.size))
          have Xa2 := Lib.hid (Xa1.out.call hz)
          have La := Lib.hid hl
          clear hl
          clear hz
          obtain ⟨a0, a1, a2⟩ := box_load Xa2.out
          go_wp2_with fail
          refine (CP.out _).mono ?_
          clear a0 a1 a2
          rintro e w3 ⟨⟨A2, cap2, rfl, hl⟩, hz⟩
          have B3 := Lib.hid (B2.out.trans (hz.mono B2.out.size))
          have Xa3 := Lib.hid (Xa2.out.call hz)
          have La3 := Lib.hid (La.out.call hz)
          have Lb := Lib.hid hl
          clear hl
          clear hz
          obtain ⟨a0, a1, a2⟩ := box_load Xa3.out
          go_wp2_with fail
          refine (CE.out _ _ _ _ _ La3.out Lb.out).mono ?_
          clear a0 a1 a2
          rintro e w4 ⟨rfl, hz⟩
          have B4 := Lib.hid (B3.out.trans (hz.mono B3.out.size))
          have Xa4 := Lib.hid (Xa3.out.call hz)
          have La4 := Lib.hid (La3.out.call hz)
          have Lb4 := Lib.hid (Lb.out.call hz)
          clear hz
          obtain ⟨a0, a1, a2⟩ := box_load Xa4.out
          go_wp2_with fail
          refine (CP.out _).mono ?_
          clear a0 a1 a2
          rintro e w5 ⟨⟨A3, cap3, rfl, hl⟩, hz⟩
          have B5 := Lib.hid (B4.out.trans (hz.mono B4.out.size))
          have Xa5 := Lib.hid (Xa4.out.call hz)
          have La5 := Lib.hid (La4.out.call hz)
          have Lb5 := Lib.hid (Lb4.out.call hz)
          have Lc := Lib.hid hl
          clear hl
          clear hz
          obtain ⟨a0, a1, a2⟩ := box_load Xa5.out
          go_wp2_with fail
          refine (CE.out _ _ _ _ _ La5.out Lc.out).mono ?_
          clear a0 a1 a2
          rintro e w6 ⟨rfl, hz⟩
          have B6 := Lib.hid (B5.out.trans (hz.mono B5.out.size))
          have Xa6 := Lib.hid (Xa5.out.call hz)
          have La6 := Lib.hid (La5.out.call hz)
          have Lb6 := Lib.hid (Lb5.out.call hz)
          have Lc6 := Lib.hid (Lc.out.call hz)
          clear hz
          obtain ⟨a0, a1, a2⟩ := box_load Xa6.out
          go_wp2_with fail
          refine (CV.out _).mono ?_
          clear a0 a1 a2
          rintro e w7 ⟨rfl, hz⟩
          have B7 := Lib.hid (B6.out.trans (hz.mono B6.out.size))
          have Xa7 := Lib.hid (Xa6.out.call hz)
          have La7 := Lib.hid (La6.out.call hz)
          have Lb7 := Lib.hid (Lb6.out.call hz)
          have Lc7 := Lib.hid (Lc6.out.call hz)
          clear hz
          obtain ⟨a0, a1, a2⟩ := box_load Xa7.out
          go_wp2_with fail
          go_ret
          exact ⟨rfl, B7.out⟩

      · have hO : orbV a.n (bs a.set) (bs a.rel) (k : Nat) = orbL a.n (isos a a) k := by unfold orbV; rw [hok, hx0, ofSt_eq]; rfl
        have hOy : ∀ j, j < a.n → orbV a.n (bs a.set) (bs a.rel) (j : Nat) = orbL a.n (isos a a) j := fun j hj => by
          rcases el_cases a.n (j : Nat) with h1 | ⟨j', h1, h2, h3⟩
          · exfalso
            unfold elB at h1
            have : ¬ (0 ≤ (j : Int) ∧ (j : Int) < (a.n : Int)) := by simpa using h1
            omega
          · unfold orbV; rw [hok, h3, ofSt_eq]; rfl
        have his : ∀ j, j < a.n → inSetV a.n (bs a.set) (bs a.rel) (j : Nat) = a.inS j := fun j hj => by
          rcases el_cases a.n (j : Nat) with h1 | ⟨j', h1, h2, h3⟩
          · exfalso
            unfold elB at h1
            have : ¬ (0 ≤ (j : Int) ∧ (j : Int) < (a.n : Int)) := by simpa using h1
            omega
          · unfold inSetV; rw [hok, h3, ofSt_eq]; rfl
        have hself : ∀ j, j < a.n → j ∈ orbL a.n (isos a a) j := fun j hj => orb_self (aut_grp a) hj
        have hiff : ∀ j, j < a.n → (j ∈ orbL a.n (isos a a) k ↔ orbL a.n (isos a a) j = orbL a.n (isos a a) k) := fun j hj => orb_iff (aut_grp a) hk hj
        have hin0 : ∀ j, j < a.n → j ∈ orbL a.n (isos a a) k → a.inS j = a.inS k := fun j hj h => orb_inS hk h
        have h80 : ∀ j, (orbL a.n (isos a a) j).length ≤ 8 := fun j => by
          have := List.length_filter_le (fun y => (isos a a).any fun l => app l j == y) (List.range a.n)
          have h2 : (orbL a.n (isos a a) j).length ≤ a.n := by simpa [orbL] using this
          omega
        have hl0 := orb_pos (aut_grp a) hk
        have hcis : ∀ j, j < a.n → ∀ W, Calls Tryd.prog 13 #[stV (a.n : Int) (bs a.set) (bs a.rel), .int .i64 (j : Nat)] W fun e w' => e = .returned (.bool (a.inS j)) ∧ Below W.heap.size W w' := fun j hj W => by
          have h := InSet_impl (a.n : Int) (bs a.set) (bs a.rel) (j : Nat) W (by unfold maxLen; omega) (by unfold maxLen; omega)
          rwa [his j hj] at h
        have hcy : ∀ j, j < a.n → ∀ W, Calls Tryd.prog 29 #[stV (a.n : Int) (bs a.set) (bs a.rel), .int .i64 (j : Nat)] W fun e w' => (∃ A cap, e = .returned (.slice A (orbL a.n (isos a a) j).length cap) ∧ LRow w' A (natsI (orbL a.n (isos a a) j))) ∧ Below W.heap.size W w' := fun j hj W => by
          have h := orbI_any (a.n : Int) (bs a.set) (bs a.rel) (j : Nat) hs hr W
          rwa [hOy j hj] at h
        clear hOy his hx0 hok
        generalize (fun j => orbL a.n (isos a a) j) = ly' at *
        generalize hly : orbL a.n (isos a a) = ly at *
        generalize hbb : a.inS = f at *
        generalize bs a.set = s at *
        generalize bs a.rel = r at *
        clear ha hly hbb
        generalize a.n = m at *
        have ci2 : ∀ W, Calls Tryd.prog 13 #[stV (m : Int) s r, .int .i64 (k : Nat)] W fun e w' => e = .returned (.bool (f k)) ∧ Below W.heap.size W w' := fun W => hcis k hk W
        obtain ⟨b, hb⟩ : ∃ b, b = f k := ⟨_, rfl⟩
        rw [← hb] at ci2
        have hin1 : ∀ j, j < m → j ∈ ly k → f j = b := fun j hj h => by rw [hb]; exact hin0 j hj h
        obtain ⟨L, hL⟩ : ∃ L, L = ly k := ⟨_, rfl⟩
        rw [← hL] at hO hl0 hin1 hiff
        have hl8 : L.length ≤ 100 := by have := h80 k; rw [← hL] at this; omega
        have hL8 : L.length ≤ 8 := by have := h80 k; rwa [← hL] at this
        have HIS := Lib.hid hcis
        have CI2 := Lib.hid ci2
        have CY := Lib.hid hcy
        have H8 := Lib.hid h80
        have HSelf := Lib.hid hself
        have HIff := Lib.hid hiff
        have HIn := Lib.hid hin1
        clear hcis ci2 hcy h80 hself hiff hin1 hin0 hb hL
        generalize hxx : ((k : Nat) : Int) = x at *
        have cv : ∀ W, Calls Tryd.prog 15 #[stV (m : Int) s r] W fun e w' => e = .returned (.bool true) ∧ Below W.heap.size W w' := fun W => by
          have h := StructureValid_impl (m : Int) s r W (by unfold maxLen; omega) (by unfold maxLen; omega)
          rwa [hV] at h
        have co : ∀ W, Calls Tryd.prog 29 #[stV (m : Int) s r, .int .i64 x] W fun e w' => (∃ A cap, e = .returned (.slice A (L).length cap) ∧ LRow w' A (natsI (L))) ∧ Below W.heap.size W w' := fun W => by
          have h := orbI_any (m : Int) s r x hs hr W
          rwa [hO] at h
        have cp : ∀ W, Calls Tryd.prog 31 #[stV (m : Int) s r, .int .i64 x] W fun e w' => (∃ A cap, e = .returned (.slice A (L).length cap) ∧ LRow w' A (natsI (L))) ∧ Below W.heap.size W w' := fun W => by
          have h := orbS_any (m : Int) s r x hs hr W
          rwa [hO] at h
        have ce : ∀ (A C : Option Addr) (c1 c2 : Nat) (W : World), LRow W A (natsI (L)) → LRow W C (natsI (L)) → Calls Tryd.prog 30 #[.slice A (L).length c1, .slice C (L).length c2] W fun e w' => e = .returned (.bool true) ∧ Below W.heap.size W w' := fun A C c1 c2 W h1 h2 => by
          have h := same_any A C c1 c2 (L) (L) W hl8 hl8 h1 h2
          rwa [decide_eq_true rfl] at h
        have CV := Lib.hid cv
        have CO := Lib.hid co
        have CP := Lib.hid cp
        have CE := Lib.hid ce
        clear cv co cp ce hO hV hl8
        have e2 : ¬ (L.length : Int) = 0 := by omega
        have e3 : ((L.length : Int) == 0) = false := beq_eq_false_iff_ne.2 e2
        clear hxx
        have B1 := Lib.hid (B0.out.alloc B0.out.size (.cells #[.int .i64 (m : Int), .string s, .string r] 24))
        have Xa1 := Lib.hid (Bx.new w1 24 #[.int .i64 (m : Int), .string s, .string r])
        obtain ⟨a0, a1, a2⟩ := box_load Xa1.out
        go_wp2_with fail
        refine (CO.out _).mono ?_
        clear a0 a1 a2
        rintro e w2 ⟨⟨A1, cap1, rfl, hl⟩, hz⟩
        have B2 := Lib.hid (B1.out.trans (hz.mono B1.out.size))
        have Xa2 := Lib.hid (Xa1.out.call hz)
        have La := Lib.hid hl
        clear hl
        clear hz
        obtain ⟨a0, a1, a2⟩ := box_load Xa2.out
        go_wp2_with fail
        refine (CP.out _).mono ?_
        clear a0 a1 a2
        rintro e w3 ⟨⟨A2, cap2, rfl, hl⟩, hz⟩
        have B3 := Lib.hid (B2.out.trans (hz.mono B2.out.size))
        have Xa3 := Lib.hid (Xa2.out.call hz)
        have La3 := Lib.hid (La.out.call hz)
        have Lb := Lib.hid hl
        clear hl
        clear hz
        obtain ⟨a0, a1, a2⟩ := box_load Xa3.out
        go_wp2_with fail
        refine (CE.out _ _ _ _ _ La3.out Lb.out).mono ?_
        clear a0 a1 a2
        rintro e w4 ⟨rfl, hz⟩
        have B4 := Lib.hid (B3.out.trans (hz.mono B3.out.size))
        have Xa4 := Lib.hid (Xa3.out.call hz)
        have La4 := Lib.hid (La3.out.call hz)
        have Lb4 := Lib.hid (Lb.out.call hz)
        clear hz
        obtain ⟨a0, a1, a2⟩ := box_load Xa4.out
        go_wp2_with fail
        go_loopg [6] m (fun c y wr => ∃ j : Nat, j + c = m ∧ y = .int .i64 (j : Nat) ∧ Below w.heap.size w wr ∧ Bx wr w1.heap.size 24 #[.int .i64 (m : Int), .string s, .string r] ∧ LRow wr A1 (natsI L))
        case atStart => exact ⟨0, by omega, rfl, B4.out, Xa4.out, La4.out⟩
        case round =>
          clear a0 a1 a2
          obtain ⟨j, hj, rfl, hb, hxx2, hll⟩ := hrel
          have B0' := Lib.hid hb
          have X0 := Lib.hid hxx2
          have L0 := Lib.hid hll
          obtain ⟨a0, a1, a2⟩ := box_load hxx2
          clear hb hxx2 hll
          by_cases hlt : j < m
          · have hji : (j : Int) < (m : Int) := by omega
            have hj0 : (0 : Int) ≤ (j : Int) := by omega
            obtain ⟨Y, hY⟩ : ∃ Y, Y = ly j := ⟨_, rfl⟩
            have co2 := CY.out j hlt
            have h8 := H8.out j
            have hs := HSelf.out j hlt
            have hi := HIff.out j hlt
            have hin := HIn.out j hlt
            rw [← hY] at co2 h8 hs hi
            have CO2 := Lib.hid co2
            clear hY co2
            have ch2 : ∀ (A : Option Addr) (c : Nat) (W : World), LRow W A (natsI Y) → Calls Tryd.prog 32 #[.slice A Y.length c, .int .i64 (j : Nat)] W fun e w' => e = .returned (.bool true) ∧ W = w' := fun A c W h1 => by
              have h := has_any A c Y j W (by omega) h1
              rwa [decide_eq_true hs] at h
            have CH2 := Lib.hid ch2
            clear ch2 hs
            go_wp2_with fail
            refine (CO2.out _).mono ?_
            clear a0 a1 a2
            rintro e wy ⟨⟨A2', cap2', rfl, hl⟩, hz⟩
            have B1 := Lib.hid (B0'.out.trans (hz.mono B0'.out.size))
            have X1 := Lib.hid (X0.out.call hz)
            have L1 := Lib.hid (L0.out.call hz)
            have O1 := Lib.hid hl
            clear hz hl
            obtain ⟨a0, a1, a2⟩ := box_load X1.out
            by_cases hm : j ∈ L
            · have hYL := hi.1 hm
              subst hYL
              have hin2 := hin hm
              have ch1 : ∀ (A : Option Addr) (c : Nat) (W : World), LRow W A (natsI Y) → Calls Tryd.prog 32 #[.slice A Y.length c, .int .i64 (j : Nat)] W fun e w' => e = .returned (.bool true) ∧ W = w' := fun A c W h1 => by
                have h := has_any A c Y j W (by omega) h1
                rwa [decide_eq_true hm] at h
              have cs1 : ∀ (A C : Option Addr) (c1 c2 : Nat) (W : World), LRow W A (natsI Y) → LRow W C (natsI Y) → Calls Tryd.prog 30 #[.slice A Y.length c1, .slice C Y.length c2] W fun e w' => e = .returned (.bool true) ∧ Below W.heap.size W w' := fun A C c1 c2 W h1 h2 => by
                have h := same_any A C c1 c2 Y Y W (by omega) (by omega) h1 h2
                rwa [decide_eq_true rfl] at h
              have ci1 : ∀ W, Calls Tryd.prog 13 #[stV (m : Int) s r, .int .i64 (j : Nat)] W fun e w' => e = .returned (.bool b) ∧ Below W.heap.size W w' := fun W => by
                have h := HIS.out j hlt W
                rwa [hin2] at h
              have CH1 := Lib.hid ch1
              have CS1 := Lib.hid cs1
              have CI1 := Lib.hid ci1
              clear ch1 cs1 ci1 hi hin hm hin2
              go_upto_region 11 with (fail)
              have B1 := Lib.hid B1.out.drew
              have X1 := Lib.hid X1.out.drew
              have L1 := Lib.hid L1.out.drew
              have O1 := Lib.hid O1.out.drew
              clear a0 a1 a2
              obtain ⟨a0, a1, a2⟩ := box_load X1.out
              refine region_sched [(0, true), (1, true), (3, true), (4, true), (2, false), (5, false), (6, true), (7, true), (8, true), (9, true), (10, false), (11, true), (12, true), (13, true), (14, true), (15, true), (16, false), (17, true), (18, true), (19, true), (21, true), (22, true), (20, false), (23, false), (24, true), (25, true), (26, true)] (fun w' : World => w'.cell? ⟨w1.heap.size, 0, none⟩ = some (.int .i64 (m : Int)) ∧ w'.cell? ⟨w1.heap.size, 1, none⟩ = some (.string s) ∧ w'.cell? ⟨w1.heap.size, 2, none⟩ = some (.string r)) (by kernel_rfl) (by kernel_rfl) (by kernel_rfl) (by kernel_rfl) (fun _ _ _ _ h => h) ?_ (fun Q1 hQ1 => ?_)
              · exact ⟨a0, a1, a2⟩
              try simp only [List.append]
              refine sched_take' (v := ?_) (a' := ?_) rfl (by kernel_rfl) ?_ rfl ?_ ?_
              rotate_left 2
              · intro w hSw
                (try dsimp only at hSw)
                go_simp
                try with_reducible rfl
              · (try simp only [Act.put, List.setIfInBounds_toArray, List.set_cons_zero, List.set_cons_succ])
                try rfl
              refine sched_take' (v := ?_) (a' := ?_) rfl (by kernel_rfl) ?_ rfl ?_ ?_
              rotate_left 2
              · intro w hSw
                (try dsimp only at hSw)
                go_simp
                try with_reducible rfl
              · (try simp only [Act.put, List.setIfInBounds_toArray, List.set_cons_zero, List.set_cons_succ])
                try rfl
              refine sched_take' (v := ?_) (a' := ?_) rfl (by kernel_rfl) ?_ rfl ?_ ?_
              rotate_left 2
              · intro w hSw
                (try dsimp only at hSw)
                go_simp
                try with_reducible rfl
              · (try simp only [Act.put, List.setIfInBounds_toArray, List.set_cons_zero, List.set_cons_succ])
                try rfl
              refine sched_take' (v := ?_) (a' := ?_) rfl (by kernel_rfl) ?_ rfl ?_ ?_
              rotate_left 2
              · intro w hSw
                (try dsimp only at hSw)
                go_simp
                try with_reducible rfl
              · (try simp only [Act.put, List.setIfInBounds_toArray, List.set_cons_zero, List.set_cons_succ])
                try rfl
              refine sched_call rfl (by kernel_rfl) (fun K1 hK1 => ?_)
              go_simp
              refine (CH1.out _ _ _ L1.out).mono ?_
              rintro e wa ⟨rfl, rfl⟩
              go_wp2_with fail
              refine hK1.out _ _ ?_ (sched_lay (a' := ?_) ?_ ?_)
              · exact ⟨a0, a1, a2⟩
              rotate_left 1
              · (try simp only [Act.put, List.getElem_toArray, List.getElem_cons_succ, List.getElem_cons_zero, List.setIfInBounds_toArray, List.set_cons_zero, List.set_cons_succ])
                try rfl
              clear hK1 K1
              refine sched_call rfl (by kernel_rfl) (fun K1 hK1 => ?_)
              go_simp
              refine (CS1.out _ _ _ _ _ O1.out L1.out).mono ?_
              rintro e wb ⟨rfl, hz⟩
              have B2 := Lib.hid (B1.out.trans (hz.mono B1.out.size))
              have X2 := Lib.hid (X1.out.call hz)
              have L2 := Lib.hid (L1.out.call hz)
              have O2 := Lib.hid (O1.out.call hz)
              clear hz a0 a1 a2
              obtain ⟨a0, a1, a2⟩ := box_load X2.out
              go_wp2_with fail
              refine hK1.out _ _ ?_ (sched_lay (a' := ?_) ?_ ?_)
              · exact ⟨a0, a1, a2⟩
              rotate_left 1
              · (try simp only [Act.put, List.getElem_toArray, List.getElem_cons_succ, List.getElem_cons_zero, List.setIfInBounds_toArray, List.set_cons_zero, List.set_cons_succ])
                try rfl
              clear hK1 K1
              refine sched_take' (v := ?_) (a' := ?_) rfl (by kernel_rfl) ?_ rfl ?_ ?_
              rotate_left 2
              · intro w hSw
                (try dsimp only at hSw)
                go_simp
                try with_reducible rfl
              · (try simp only [Act.put, List.setIfInBounds_toArray, List.set_cons_zero, List.set_cons_succ])
                try rfl
              refine sched_take' (v := ?_) (a' := ?_) rfl (by kernel_rfl) ?_ rfl ?_ ?_
              rotate_left 2
              · intro w hSw
                (try dsimp only at hSw)
                go_simp
                try with_reducible rfl
              · (try simp only [Act.put, List.setIfInBounds_toArray, List.set_cons_zero, List.set_cons_succ])
                try rfl
              refine sched_take' (v := ?_) (a' := ?_) rfl (by kernel_rfl) ?_ rfl ?_ ?_
              rotate_left 2
              · intro w hSw
                (try dsimp only at hSw)
                go_simp
                try with_reducible rfl
              · (try simp only [Act.put, List.setIfInBounds_toArray, List.set_cons_zero, List.set_cons_succ])
                try rfl
              refine sched_take' (v := ?_) (a' := ?_) rfl (by kernel_rfl) ?_ rfl ?_ ?_
              rotate_left 2
              · intro w hSw
                (try dsimp only at hSw)
                go_simp
                try with_reducible rfl
              · (try simp only [Act.put, List.setIfInBounds_toArray, List.set_cons_zero, List.set_cons_succ])
                try rfl
              refine sched_call rfl (by kernel_rfl) (fun K1 hK1 => ?_)
              go_simp
              refine (CH2.out _ _ _ O2.out).mono ?_
              rintro e wa ⟨rfl, rfl⟩
              go_wp2_with fail
              refine hK1.out _ _ ?_ (sched_lay (a' := ?_) ?_ ?_)
              · exact ⟨a0, a1, a2⟩
              rotate_left 1
              · (try simp only [Act.put, List.getElem_toArray, List.getElem_cons_succ, List.getElem_cons_zero, List.setIfInBounds_toArray, List.set_cons_zero, List.set_cons_succ])
                try rfl
              clear hK1 K1
              refine sched_take' (v := ?_) (a' := ?_) rfl (by kernel_rfl) ?_ rfl ?_ ?_
              rotate_left 2
              · intro w hSw
                (try dsimp only at hSw)
                go_simp
                try with_reducible rfl
              · (try simp only [Act.put, List.setIfInBounds_toArray, List.set_cons_zero, List.set_cons_succ])
                try rfl
              refine sched_take' (v := ?_) (a' := ?_) rfl (by kernel_rfl) ?_ rfl ?_ ?_
              rotate_left 2
              · intro w hSw
                (try dsimp only at hSw)
                go_simp
                try with_reducible rfl
              · (try simp only [Act.put, List.setIfInBounds_toArray, List.set_cons_zero, List.set_cons_succ])
                try rfl
              refine sched_take' (v := ?_) (a' := ?_) rfl (by kernel_rfl) ?_ rfl ?_ ?_
              rotate_left 2
              · intro w hSw
                (try dsimp only at hSw)
                go_simp
                try with_reducible rfl
              · (try simp only [Act.put, List.setIfInBounds_toArray, List.set_cons_zero, List.set_cons_succ])
                try rfl
              refine sched_take' (v := ?_) (a' := ?_) rfl (by kernel_rfl) ?_ rfl ?_ ?_
              rotate_left 2
              · intro w hSw
                (try dsimp only at hSw)
                go_simp
                try with_reducible rfl
              · (try simp only [Act.put, List.setIfInBounds_toArray, List.set_cons_zero, List.set_cons_succ])
                try rfl
              refine sched_take' (v := ?_) (a' := ?_) rfl (by kernel_rfl) ?_ rfl ?_ ?_
              rotate_left 2
              · intro w hSw
                (try dsimp only at hSw)
                go_simp
                try with_reducible rfl
              · (try simp only [Act.put, List.setIfInBounds_toArray, List.set_cons_zero, List.set_cons_succ])
                try rfl
              refine sched_call rfl (by kernel_rfl) (fun K1 hK1 => ?_)
              go_simp
              refine (CH1.out _ _ _ L2.out).mono ?_
              rintro e wa ⟨rfl, rfl⟩
              go_wp2_with fail
              refine hK1.out _ _ ?_ (sched_lay (a' := ?_) ?_ ?_)
              · exact ⟨a0, a1, a2⟩
              rotate_left 1
              · (try simp only [Act.put, List.getElem_toArray, List.getElem_cons_succ, List.getElem_cons_zero, List.setIfInBounds_toArray, List.set_cons_zero, List.set_cons_succ])
                try rfl
              clear hK1 K1
              refine sched_take' (v := ?_) (a' := ?_) rfl (by kernel_rfl) ?_ rfl ?_ ?_
              rotate_left 2
              · intro w hSw
                (try dsimp only at hSw)
                go_simp
                try with_reducible rfl
              · (try simp only [Act.put, List.setIfInBounds_toArray, List.set_cons_zero, List.set_cons_succ])
                try rfl
              refine sched_take' (v := .agg #[.int .i64 (m : Int), .string s, .string r]) (a' := ?_) rfl (by kernel_rfl) ?_ rfl ?_ ?_
              rotate_left 1
              · intro w hSw
                (try dsimp only at hSw)
                go_simp
                first | done | (obtain ⟨u0, u1, u2⟩ := hSw; simp [u0, u1, u2])
              · (try simp only [Act.put, List.setIfInBounds_toArray, List.set_cons_zero, List.set_cons_succ])
                try rfl
              refine sched_take' (v := ?_) (a' := ?_) rfl (by kernel_rfl) ?_ rfl ?_ ?_
              rotate_left 2
              · intro w hSw
                (try dsimp only at hSw)
                go_simp
                try with_reducible rfl
              · (try simp only [Act.put, List.setIfInBounds_toArray, List.set_cons_zero, List.set_cons_succ])
                try rfl
              refine sched_take' (v := .agg #[.int .i64 (m : Int), .string s, .string r]) (a' := ?_) rfl (by kernel_rfl) ?_ rfl ?_ ?_
              rotate_left 1
              · intro w hSw
                (try dsimp only at hSw)
                go_simp
                first | done | (obtain ⟨u0, u1, u2⟩ := hSw; simp [u0, u1, u2])
              · (try simp only [Act.put, List.setIfInBounds_toArray, List.set_cons_zero, List.set_cons_succ])
                try rfl
              refine sched_take' (v := ?_) (a' := ?_) rfl (by kernel_rfl) ?_ rfl ?_ ?_
              rotate_left 2
              · intro w hSw
                (try dsimp only at hSw)
                go_simp
                try with_reducible rfl
              · (try simp only [Act.put, List.setIfInBounds_toArray, List.set_cons_zero, List.set_cons_succ])
                try rfl
              refine sched_call rfl (by kernel_rfl) (fun K1 hK1 => ?_)
              go_simp
              refine (CI1.out _).mono ?_
              rintro e wc ⟨rfl, hz⟩
              have B3 := Lib.hid (B2.out.trans (hz.mono B2.out.size))
              have X3 := Lib.hid (X2.out.call hz)
              have L3 := Lib.hid (L2.out.call hz)
              clear hz a0 a1 a2
              obtain ⟨a0, a1, a2⟩ := box_load X3.out
              go_wp2_with fail
              refine hK1.out _ _ ?_ (sched_lay (a' := ?_) ?_ ?_)
              · exact ⟨a0, a1, a2⟩
              rotate_left 1
              · (try simp only [Act.put, List.getElem_toArray, List.getElem_cons_succ, List.getElem_cons_zero, List.setIfInBounds_toArray, List.set_cons_zero, List.set_cons_succ])
                try rfl
              clear hK1 K1
              refine sched_call rfl (by kernel_rfl) (fun K1 hK1 => ?_)
              go_simp
              refine (CI2.out _).mono ?_
              rintro e wd ⟨rfl, hz⟩
              have B4 := Lib.hid (B3.out.trans (hz.mono B3.out.size))
              have X4 := Lib.hid (X3.out.call hz)
              have L4 := Lib.hid (L3.out.call hz)
              clear hz a0 a1 a2
              obtain ⟨a0, a1, a2⟩ := box_load X4.out
              go_wp2_with fail
              refine hK1.out _ _ ?_ (sched_lay (a' := ?_) ?_ ?_)
              · exact ⟨a0, a1, a2⟩
              rotate_left 1
              · (try simp only [Act.put, List.getElem_toArray, List.getElem_cons_succ, List.getElem_cons_zero, List.setIfInBounds_toArray, List.set_cons_zero, List.set_cons_succ])
                try rfl
              clear hK1 K1
              refine sched_take' (v := ?_) (a' := ?_) rfl (by kernel_rfl) ?_ rfl ?_ ?_
              rotate_left 2
              · intro w hSw
                (try dsimp only at hSw)
                go_simp
                try with_reducible rfl
              · (try simp only [Act.put, List.setIfInBounds_toArray, List.set_cons_zero, List.set_cons_succ])
                try rfl
              refine sched_take' (v := ?_) (a' := ?_) rfl (by kernel_rfl) ?_ rfl ?_ ?_
              rotate_left 2
              · intro w hSw
                (try dsimp only at hSw)
                go_simp
                try with_reducible rfl
              · (try simp only [Act.put, List.setIfInBounds_toArray, List.set_cons_zero, List.set_cons_succ])
                try rfl
              refine sched_take' (v := ?_) (a' := ?_) rfl (by kernel_rfl) ?_ rfl ?_ ?_
              rotate_left 2
              · intro w hSw
                (try dsimp only at hSw)
                go_simp
                try with_reducible rfl
              · (try simp only [Act.put, List.setIfInBounds_toArray, List.set_cons_zero, List.set_cons_succ])
                try rfl
              refine sched_done (hQ1.out _ _ ?_)
              go_wp2_with fail
              go_roundg (m - j - 1)
              case rel => exact ⟨j + 1, by omega, by go_num, B4.out, X4.out, L4.out⟩
              case measure => omega
            · have hYL : ¬ Y = L := fun e => hm (hi.2 e)
              have ch1 : ∀ (A : Option Addr) (c : Nat) (W : World), LRow W A (natsI L) → Calls Tryd.prog 32 #[.slice A L.length c, .int .i64 (j : Nat)] W fun e w' => e = .returned (.bool false) ∧ W = w' := fun A c W h1 => by
                have h := has_any A c L j W (by omega) h1
                rwa [decide_eq_false hm] at h
              have cs1 : ∀ (A C : Option Addr) (c1 c2 : Nat) (W : World), LRow W A (natsI Y) → LRow W C (natsI L) → Calls Tryd.prog 30 #[.slice A Y.length c1, .slice C L.length c2] W fun e w' => e = .returned (.bool false) ∧ Below W.heap.size W w' := fun A C c1 c2 W h1 h2 => by
                have h := same_any A C c1 c2 Y L W (by omega) (by omega) h1 h2
                rwa [decide_eq_false hYL] at h
              have CH1 := Lib.hid ch1
              have CS1 := Lib.hid cs1
              clear ch1 cs1 hi hin hm hYL
              go_upto_region 11 with (fail)
              have B1 := Lib.hid B1.out.drew
              have X1 := Lib.hid X1.out.drew
              have L1 := Lib.hid L1.out.drew
              have O1 := Lib.hid O1.out.drew
              clear a0 a1 a2
              obtain ⟨a0, a1, a2⟩ := box_load X1.out
              refine region_sched [(0, true), (1, true), (3, true), (4, true), (2, false), (5, false), (6, true), (7, true), (8, true), (9, true), (10, false), (11, true), (12, true), (13, true), (14, true), (15, true), (16, false), (17, true), (18, true), (19, true), (21, true), (22, true), (20, false), (23, false), (24, true), (25, true), (26, true)] (fun w' : World => w'.cell? ⟨w1.heap.size, 0, none⟩ = some (.int .i64 (m : Int)) ∧ w'.cell? ⟨w1.heap.size, 1, none⟩ = some (.string s) ∧ w'.cell? ⟨w1.heap.size, 2, none⟩ = some (.string r)) (by kernel_rfl) (by kernel_rfl) (by kernel_rfl) (by kernel_rfl) (fun _ _ _ _ h => h) ?_ (fun Q1 hQ1 => ?_)
              · exact ⟨a0, a1, a2⟩
              try simp only [List.append]
              refine sched_take' (v := ?_) (a' := ?_) rfl (by kernel_rfl) ?_ rfl ?_ ?_
              rotate_left 2
              · intro w hSw
                (try dsimp only at hSw)
                go_simp
                try with_reducible rfl
              · (try simp only [Act.put, List.setIfInBounds_toArray, List.set_cons_zero, List.set_cons_succ])
                try rfl
              refine sched_take' (v := ?_) (a' := ?_) rfl (by kernel_rfl) ?_ rfl ?_ ?_
              rotate_left 2
              · intro w hSw
                (try dsimp only at hSw)
                go_simp
                try with_reducible rfl
              · (try simp only [Act.put, List.setIfInBounds_toArray, List.set_cons_zero, List.set_cons_succ])
                try rfl
              refine sched_take' (v := ?_) (a' := ?_) rfl (by kernel_rfl) ?_ rfl ?_ ?_
              rotate_left 2
              · intro w hSw
                (try dsimp only at hSw)
                go_simp
                try with_reducible rfl
              · (try simp only [Act.put, List.setIfInBounds_toArray, List.set_cons_zero, List.set_cons_succ])
                try rfl
              refine sched_take' (v := ?_) (a' := ?_) rfl (by kernel_rfl) ?_ rfl ?_ ?_
              rotate_left 2
              · intro w hSw
                (try dsimp only at hSw)
                go_simp
                try with_reducible rfl
              · (try simp only [Act.put, List.setIfInBounds_toArray, List.set_cons_zero, List.set_cons_succ])
                try rfl
              refine sched_call rfl (by kernel_rfl) (fun K1 hK1 => ?_)
              go_simp
              refine (CH1.out _ _ _ L1.out).mono ?_
              rintro e wa ⟨rfl, rfl⟩
              go_wp2_with fail
              refine hK1.out _ _ ?_ (sched_lay (a' := ?_) ?_ ?_)
              · exact ⟨a0, a1, a2⟩
              rotate_left 1
              · (try simp only [Act.put, List.getElem_toArray, List.getElem_cons_succ, List.getElem_cons_zero, List.setIfInBounds_toArray, List.set_cons_zero, List.set_cons_succ])
                try rfl
              clear hK1 K1
              refine sched_call rfl (by kernel_rfl) (fun K1 hK1 => ?_)
              go_simp
              refine (CS1.out _ _ _ _ _ O1.out L1.out).mono ?_
              rintro e wb ⟨rfl, hz⟩
              have B2 := Lib.hid (B1.out.trans (hz.mono B1.out.size))
              have X2 := Lib.hid (X1.out.call hz)
              have L2 := Lib.hid (L1.out.call hz)
              have O2 := Lib.hid (O1.out.call hz)
              clear hz a0 a1 a2
              obtain ⟨a0, a1, a2⟩ := box_load X2.out
              go_wp2_with fail
              refine hK1.out _ _ ?_ (sched_lay (a' := ?_) ?_ ?_)
              · exact ⟨a0, a1, a2⟩
              rotate_left 1
              · (try simp only [Act.put, List.getElem_toArray, List.getElem_cons_succ, List.getElem_cons_zero, List.setIfInBounds_toArray, List.set_cons_zero, List.set_cons_succ])
                try rfl
              clear hK1 K1
              refine sched_take' (v := ?_) (a' := ?_) rfl (by kernel_rfl) ?_ rfl ?_ ?_
              rotate_left 2
              · intro w hSw
                (try dsimp only at hSw)
                go_simp
                try with_reducible rfl
              · (try simp only [Act.put, List.setIfInBounds_toArray, List.set_cons_zero, List.set_cons_succ])
                try rfl
              refine sched_take' (v := ?_) (a' := ?_) rfl (by kernel_rfl) ?_ rfl ?_ ?_
              rotate_left 2
              · intro w hSw
                (try dsimp only at hSw)
                go_simp
                try with_reducible rfl
              · (try simp only [Act.put, List.setIfInBounds_toArray, List.set_cons_zero, List.set_cons_succ])
                try rfl
              refine sched_take' (v := ?_) (a' := ?_) rfl (by kernel_rfl) ?_ rfl ?_ ?_
              rotate_left 2
              · intro w hSw
                (try dsimp only at hSw)
                go_simp
                try with_reducible rfl
              · (try simp only [Act.put, List.setIfInBounds_toArray, List.set_cons_zero, List.set_cons_succ])
                try rfl
              refine sched_take' (v := ?_) (a' := ?_) rfl (by kernel_rfl) ?_ rfl ?_ ?_
              rotate_left 2
              · intro w hSw
                (try dsimp only at hSw)
                go_simp
                try with_reducible rfl
              · (try simp only [Act.put, List.setIfInBounds_toArray, List.set_cons_zero, List.set_cons_succ])
                try rfl
              refine sched_call rfl (by kernel_rfl) (fun K1 hK1 => ?_)
              go_simp
              refine (CH2.out _ _ _ O2.out).mono ?_
              rintro e wa ⟨rfl, rfl⟩
              go_wp2_with fail
              refine hK1.out _ _ ?_ (sched_lay (a' := ?_) ?_ ?_)
              · exact ⟨a0, a1, a2⟩
              rotate_left 1
              · (try simp only [Act.put, List.getElem_toArray, List.getElem_cons_succ, List.getElem_cons_zero, List.setIfInBounds_toArray, List.set_cons_zero, List.set_cons_succ])
                try rfl
              clear hK1 K1
              refine sched_take' (v := ?_) (a' := ?_) rfl (by kernel_rfl) ?_ rfl ?_ ?_
              rotate_left 2
              · intro w hSw
                (try dsimp only at hSw)
                go_simp
                try with_reducible rfl
              · (try simp only [Act.put, List.setIfInBounds_toArray, List.set_cons_zero, List.set_cons_succ])
                try rfl
              refine sched_take' (v := ?_) (a' := ?_) rfl (by kernel_rfl) ?_ rfl ?_ ?_
              rotate_left 2
              · intro w hSw
                (try dsimp only at hSw)
                go_simp
                try with_reducible rfl
              · (try simp only [Act.put, List.setIfInBounds_toArray, List.set_cons_zero, List.set_cons_succ])
                try rfl
              refine sched_take' (v := ?_) (a' := ?_) rfl (by kernel_rfl) ?_ rfl ?_ ?_
              rotate_left 2
              · intro w hSw
                (try dsimp only at hSw)
                go_simp
                try with_reducible rfl
              · (try simp only [Act.put, List.setIfInBounds_toArray, List.set_cons_zero, List.set_cons_succ])
                try rfl
              refine sched_take' (v := ?_) (a' := ?_) rfl (by kernel_rfl) ?_ rfl ?_ ?_
              rotate_left 2
              · intro w hSw
                (try dsimp only at hSw)
                go_simp
                try with_reducible rfl
              · (try simp only [Act.put, List.setIfInBounds_toArray, List.set_cons_zero, List.set_cons_succ])
                try rfl
              refine sched_take' (v := ?_) (a' := ?_) rfl (by kernel_rfl) ?_ rfl ?_ ?_
              rotate_left 2
              · intro w hSw
                (try dsimp only at hSw)
                go_simp
                try with_reducible rfl
              · (try simp only [Act.put, List.setIfInBounds_toArray, List.set_cons_zero, List.set_cons_succ])
                try rfl
              refine sched_call rfl (by kernel_rfl) (fun K1 hK1 => ?_)
              go_simp
              refine (CH1.out _ _ _ L2.out).mono ?_
              rintro e wa ⟨rfl, rfl⟩
              go_wp2_with fail
              refine hK1.out _ _ ?_ (sched_lay (a' := ?_) ?_ ?_)
              · exact ⟨a0, a1, a2⟩
              rotate_left 1
              · (try simp only [Act.put, List.getElem_toArray, List.getElem_cons_succ, List.getElem_cons_zero, List.setIfInBounds_toArray, List.set_cons_zero, List.set_cons_succ])
                try rfl
              clear hK1 K1
              refine sched_take' (v := ?_) (a' := ?_) rfl (by kernel_rfl) ?_ rfl ?_ ?_
              rotate_left 2
              · intro w hSw
                (try dsimp only at hSw)
                go_simp
                try with_reducible rfl
              · (try simp only [Act.put, List.setIfInBounds_toArray, List.set_cons_zero, List.set_cons_succ])
                try rfl
              refine sched_skip' (a' := ?_) rfl (by kernel_rfl) rfl ?_ ?_
              rotate_left 1
              · (try simp only [Act.put, List.setIfInBounds_toArray, List.set_cons_zero, List.set_cons_succ])
                try rfl
              refine sched_skip' (a' := ?_) rfl (by kernel_rfl) rfl ?_ ?_
              rotate_left 1
              · (try simp only [Act.put, List.setIfInBounds_toArray, List.set_cons_zero, List.set_cons_succ])
                try rfl
              refine sched_skip' (a' := ?_) rfl (by kernel_rfl) rfl ?_ ?_
              rotate_left 1
              · (try simp only [Act.put, List.setIfInBounds_toArray, List.set_cons_zero, List.set_cons_succ])
                try rfl
              refine sched_skip' (a' := ?_) rfl (by kernel_rfl) rfl ?_ ?_
              rotate_left 1
              · (try simp only [Act.put, List.setIfInBounds_toArray, List.set_cons_zero, List.set_cons_succ])
                try rfl
              refine sched_skipC' (a' := ?_) rfl (by kernel_rfl) ?_ rfl ?_ ?_
              rotate_left 1
              · exact ⟨a0, a1, a2⟩
              · (try simp only [Act.put, List.setIfInBounds_toArray, List.set_cons_zero, List.set_cons_succ])
                try rfl
              refine sched_skipC' (a' := ?_) rfl (by kernel_rfl) ?_ rfl ?_ ?_
              rotate_left 1
              · exact ⟨a0, a1, a2⟩
              · (try simp only [Act.put, List.setIfInBounds_toArray, List.set_cons_zero, List.set_cons_succ])
                try rfl
              refine sched_skip' (a' := ?_) rfl (by kernel_rfl) rfl ?_ ?_
              rotate_left 1
              · (try simp only [Act.put, List.setIfInBounds_toArray, List.set_cons_zero, List.set_cons_succ])
                try rfl
              refine sched_take' (v := ?_) (a' := ?_) rfl (by kernel_rfl) ?_ rfl ?_ ?_
              rotate_left 2
              · intro w hSw
                (try dsimp only at hSw)
                go_simp
                try with_reducible rfl
              · (try simp only [Act.put, List.setIfInBounds_toArray, List.set_cons_zero, List.set_cons_succ])
                try rfl
              refine sched_take' (v := ?_) (a' := ?_) rfl (by kernel_rfl) ?_ rfl ?_ ?_
              rotate_left 2
              · intro w hSw
                (try dsimp only at hSw)
                go_simp
                try with_reducible rfl
              · (try simp only [Act.put, List.setIfInBounds_toArray, List.set_cons_zero, List.set_cons_succ])
                try rfl
              refine sched_done (hQ1.out _ _ ?_)
              go_wp2_with fail
              go_roundg (m - j - 1)
              case rel => exact ⟨j + 1, by omega, by go_num, B2.out, X2.out, L2.out⟩
              case measure => omega
          · have hji : ¬ (j : Int) < (m : Int) := by omega
            go_wp2_with fail
            go_ret
            exact ⟨rfl, B0'.out⟩

  · have hni : (1048576 : Int) < (n : Int) := by omega
    go_enter Tryd.func6, Tryd.ntmps6
    go_wp2_with fail
    go_ret
    exact ⟨rfl, Below.refl _ _⟩

end Go.Proofs.YtpaoffjicgmleaaDoor
