/-
  The walk of FnOtherTurn. Condition: texts below the reach.
-/
import Derived.Test.YtpaoffjicgmleaaDoorDraw6
import Derived.Test.YtpaoffjicgmleaaDoorLawAny
import Derived.Test.YtpaoffjicgmleaaDoorIn
import Derived.Test.YtpaoffjicgmleaaDoorOther
import Derived.Test.YtpaoffjicgmleaaDoorTurnS
namespace Go.Proofs.YtpaoffjicgmleaaDoor
open Go.RowKit
open Pl
set_option linter.unusedSimpArgs false
set_option linter.unusedVariables false

theorem elB_lt {n j : Nat} (h : j < n) : elB n (j : Nat) = true := by
  unfold elB
  simp
  omega
theorem inSet_st (a : St) (ha : a.ok) (h100 : (bs a.set).size ≤ 100 ∧ (bs a.rel).size ≤ 100) (x : Nat) (hx : x < a.n) (W : World) :
    Calls Tryd.prog 13 #[stA a, .int .i64 (x : Nat)] W fun e w' => e = .returned (.bool (a.inS x)) ∧ Below W.heap.size W w' := by
  have h := InSet_impl (a.n : Int) (bs a.set) (bs a.rel) (x : Nat) W (by unfold maxLen; omega) (by unfold maxLen; omega)
  have e : inSetV (a.n : Int) (bs a.set) (bs a.rel) (x : Nat) = a.inS x := by unfold inSetV; rw [okB_true ha, elB_lt hx, ofSt_eq]; rfl
  rwa [e] at h
theorem inRel_st (a : St) (ha : a.ok) (h100 : (bs a.set).size ≤ 100 ∧ (bs a.rel).size ≤ 100) (x y : Nat) (hx : x < a.n) (hy : y < a.n) (W : World) :
    Calls Tryd.prog 14 #[stA a, .int .i64 (x : Nat), .int .i64 (y : Nat)] W fun e w' => e = .returned (.bool (a.inR x y)) ∧ Below W.heap.size W w' := by
  have h := InRel_impl (a.n : Int) (bs a.set) (bs a.rel) (x : Nat) (y : Nat) W (by unfold maxLen; omega) (by unfold maxLen; omega)
  have e : inRelV (a.n : Int) (bs a.set) (bs a.rel) (x : Nat) (y : Nat) = a.inR x y := by unfold inRelV; rw [okB_true ha, elB_lt hx, elB_lt hy, ofSt_eq]; rfl
  rwa [e] at h
theorem st_100 {a : St} (ha : a.ok) : (bs a.set).size ≤ 100 ∧ (bs a.rel).size ≤ 100 := by have := st_small ha; omega
theorem sym_st (a : St) (ha : a.ok) (W : World) : Calls Tryd.prog 21 #[stA a] W fun e w' => e = .returned (.int .i64 (((isos a a).length : Nat) : Int)) ∧ Below W.heap.size W w' := by
  have h2 := st_100 ha
  have h := CountSymmetries_impl (a.n : Int) (bs a.set) (bs a.rel) W (by unfold maxLen; omega) (by unfold maxLen; omega)
  have e : symV (a.n : Int) (bs a.set) (bs a.rel) = (((isos a a).length : Nat) : Int) := by unfold symV; rw [okB_true ha, ofSt_eq]; rfl
  rwa [e] at h
theorem other_st (a : St) (ha : a.ok) (W : World) : Calls Tryd.prog 17 #[stA a] W fun e w' => e = .returned (.tuple #[stA a.other, .bool true]) ∧ Below W.heap.size W w' := by
  have h2 := st_100 ha
  have h := OtherStructure_impl (a.n : Int) (bs a.set) (bs a.rel) W (by unfold maxLen; omega) (by unfold maxLen; omega)
  have e : otherO (a.n : Int) (bs a.set) (bs a.rel) = some a.other := by unfold otherO; rw [okB_true ha, ofSt_eq]; rfl
  rwa [e] at h
theorem turn_st (a : St) (ha : a.ok) (W : World) : Calls Tryd.prog 19 #[stA a] W fun e w' => e = .returned (.tuple #[stA a.turn, .bool true]) ∧ Below W.heap.size W w' := by
  have h2 := st_100 ha
  have h := TurnStructure_impl (a.n : Int) (bs a.set) (bs a.rel) W (by unfold maxLen; omega) (by unfold maxLen; omega)
  have e : turnO (a.n : Int) (bs a.set) (bs a.rel) = some a.turn := by unfold turnO; rw [okB_true ha, ofSt_eq]; rfl
  rwa [e] at h


set_option maxHeartbeats 8000000 in
set_option maxRecDepth 100000 in
theorem FnOtherTurn_walk (A : Option Addr) (n cap : Nat) (w : World) (h : ByRow w A n) (hc : n ≤ cap) (hm : cap ≤ maxLen) :
    Calls Tryd.prog 4 #[.slice A n cap] w fun e w' => e = .returned (.bool true) ∧ Below w.heap.size w w' := by
  by_cases hn : n ≤ 1048576
  · have hd := DrawOtherStructure_calls A n cap w h hn hc hm
    have HD := Lib.hid hd
    have hni : ¬ (1048576 : Int) < (n : Int) := by omega
    clear hd h hc hm
    go_enter Tryd.func4, Tryd.ntmps4
    go_wp2_with fail
    refine (HD.out).mono ?_
    rintro e w1 ⟨⟨i, s, r, rfl, hi, hs, hr⟩, hz⟩
    have B0 := Lib.hid hz
    clear hz
    rcases ok_cases i s r with hok | ⟨a, ha, rfl, rfl, rfl⟩
    · have ho : otherO i s r = none := by unfold otherO; rw [hok]; rfl
      have ht : turnO i s r = none := by unfold turnO; rw [hok]; rfl
      have co : ∀ W, Calls Tryd.prog 17 #[stV i s r] W fun e w' => e = .returned (.tuple #[stV 0 (bs []) (bs []), .bool false]) ∧ Below W.heap.size W w' := fun W => by
        have h := OtherStructure_impl i s r W (by unfold maxLen; omega) (by unfold maxLen; omega)
        rwa [ho] at h
      have cp : ∀ W, Calls Tryd.prog 18 #[stV i s r] W fun e w' => e = .returned (.tuple #[stV 0 (bs []) (bs []), .bool false]) ∧ Below W.heap.size W w' := fun W => by
        have h := OtherStructure_spec i s r W (by unfold maxLen; omega) (by unfold maxLen; omega)
        rwa [ho] at h
      have ct : ∀ W, Calls Tryd.prog 19 #[stV i s r] W fun e w' => e = .returned (.tuple #[stV 0 (bs []) (bs []), .bool false]) ∧ Below W.heap.size W w' := fun W => by
        have h := TurnStructure_impl i s r W (by unfold maxLen; omega) (by unfold maxLen; omega)
        rwa [ht] at h
      have cu : ∀ W, Calls Tryd.prog 20 #[stV i s r] W fun e w' => e = .returned (.tuple #[stV 0 (bs []) (bs []), .bool false]) ∧ Below W.heap.size W w' := fun W => by
        have h := TurnStructure_spec i s r W (by unfold maxLen; omega) (by unfold maxLen; omega)
        rwa [ht] at h
      have CO := Lib.hid co
      have CP := Lib.hid cp
      have CT := Lib.hid ct
      have CU := Lib.hid cu
      clear co cp ct cu ho ht hok
      have B1 := Lib.hid (B0.out.alloc B0.out.size (.cells #[.int .i64 i, .string s, .string r] 24))
      have Xa1 := Lib.hid (Bx.new w1 24 #[.int .i64 i, .string s, .string r])
      obtain ⟨a0, a1, a2⟩ := box_load Xa1.out
      go_wp2_with fail
      refine (CO.out _).mono ?_
      clear a0 a1 a2
      rintro e w2 ⟨rfl, hz⟩
      have B2 := Lib.hid (B1.out.trans (hz.mono B1.out.size))
      have Xa2 := Lib.hid (Xa1.out.call hz)
      clear hz
      obtain ⟨a0, a1, a2⟩ := box_load Xa2.out
      clear a0 a1 a2
      have B3 := Lib.hid (B2.out.alloc B2.out.size (.cells #[.int .i64 0, .string (bs []), .string (bs [])] 24))
      have Xa3 := Lib.hid (Xa2.out.alloc (.cells #[.int .i64 0, .string (bs []), .string (bs [])] 24))
      have Xb3 := Lib.hid (Bx.new w2 24 #[.int .i64 0, .string (bs []), .string (bs [])])
      obtain ⟨a0, a1, a2⟩ := box_load Xa3.out
      obtain ⟨b0, b1, b2⟩ := box_load Xb3.out
      go_wp2_with fail
      refine (CP.out _).mono ?_
      clear a0 a1 a2 b0 b1 b2
      rintro e w3 ⟨rfl, hz⟩
      have B4 := Lib.hid (B3.out.trans (hz.mono B3.out.size))
      have Xa4 := Lib.hid (Xa3.out.call hz)
      have Xb4 := Lib.hid (Xb3.out.call hz)
      clear hz
      obtain ⟨a0, a1, a2⟩ := box_load Xa4.out
      obtain ⟨b0, b1, b2⟩ := box_load Xb4.out
      clear a0 a1 a2 b0 b1 b2
      have B5 := Lib.hid (B4.out.alloc B4.out.size (.cells #[.int .i64 0, .string (bs []), .string (bs [])] 24))
      have Xa5 := Lib.hid (Xa4.out.alloc (.cells #[.int .i64 0, .string (bs []), .string (bs [])] 24))
      have Xb5 := Lib.hid (Xb4.out.alloc (.cells #[.int .i64 0, .string (bs []), .string (bs [])] 24))
      have XB5 := Lib.hid (Bx.new w3 24 #[.int .i64 0, .string (bs []), .string (bs [])])
      obtain ⟨a0, a1, a2⟩ := box_load Xa5.out
      obtain ⟨b0, b1, b2⟩ := box_load Xb5.out
      obtain ⟨B0, B1, B2⟩ := box_load XB5.out
      go_wp2_with fail
      refine (CT.out _).mono ?_
      clear B0 B1 B2 a0 a1 a2 b0 b1 b2
      rintro e w4 ⟨rfl, hz⟩
      have B6 := Lib.hid (B5.out.trans (hz.mono B5.out.size))
      have Xa6 := Lib.hid (Xa5.out.call hz)
      have Xb6 := Lib.hid (Xb5.out.call hz)
      have XB6 := Lib.hid (XB5.out.call hz)
      clear hz
      obtain ⟨a0, a1, a2⟩ := box_load Xa6.out
      obtain ⟨b0, b1, b2⟩ := box_load Xb6.out
      obtain ⟨B0, B1, B2⟩ := box_load XB6.out
      clear B0 B1 B2 a0 a1 a2 b0 b1 b2
      have B7 := Lib.hid (B6.out.alloc B6.out.size (.cells #[.int .i64 0, .string (bs []), .string (bs [])] 24))
      have Xa7 := Lib.hid (Xa6.out.alloc (.cells #[.int .i64 0, .string (bs []), .string (bs [])] 24))
      have Xb7 := Lib.hid (Xb6.out.alloc (.cells #[.int .i64 0, .string (bs []), .string (bs [])] 24))
      have XB7 := Lib.hid (XB6.out.alloc (.cells #[.int .i64 0, .string (bs []), .string (bs [])] 24))
      have Xc7 := Lib.hid (Bx.new w4 24 #[.int .i64 0, .string (bs []), .string (bs [])])
      obtain ⟨a0, a1, a2⟩ := box_load Xa7.out
      obtain ⟨b0, b1, b2⟩ := box_load Xb7.out
      obtain ⟨B0, B1, B2⟩ := box_load XB7.out
      obtain ⟨c0, c1, c2⟩ := box_load Xc7.out
      go_wp2_with fail
      refine (CU.out _).mono ?_
      clear B0 B1 B2 a0 a1 a2 b0 b1 b2 c0 c1 c2
      rintro e w5 ⟨rfl, hz⟩
      have B8 := Lib.hid (B7.out.trans (hz.mono B7.out.size))
      have Xa8 := Lib.hid (Xa7.out.call hz)
      have Xb8 := Lib.hid (Xb7.out.call hz)
      have XB8 := Lib.hid (XB7.out.call hz)
      have Xc8 := Lib.hid (Xc7.out.call hz)
      clear hz
      obtain ⟨a0, a1, a2⟩ := box_load Xa8.out
      obtain ⟨b0, b1, b2⟩ := box_load Xb8.out
      obtain ⟨B0, B1, B2⟩ := box_load XB8.out
      obtain ⟨c0, c1, c2⟩ := box_load Xc8.out
      clear B0 B1 B2 a0 a1 a2 b0 b1 b2 c0 c1 c2
      have B9 := Lib.hid (B8.out.alloc B8.out.size (.cells #[.int .i64 0, .string (bs []), .string (bs [])] 24))
      have Xa9 := Lib.hid (Xa8.out.alloc (.cells #[.int .i64 0, .string (bs []), .string (bs [])] 24))
      have Xb9 := Lib.hid (Xb8.out.alloc (.cells #[.int .i64 0, .string (bs []), .string (bs [])] 24))
      have XB9 := Lib.hid (XB8.out.alloc (.cells #[.int .i64 0, .string (bs []), .string (bs [])] 24))
      have Xc9 := Lib.hid (Xc8.out.alloc (.cells #[.int .i64 0, .string (bs []), .string (bs [])] 24))
      have XC9 := Lib.hid (Bx.new w5 24 #[.int .i64 0, .string (bs []), .string (bs [])])
      obtain ⟨a0, a1, a2⟩ := box_load Xa9.out
      obtain ⟨b0, b1, b2⟩ := box_load Xb9.out
      obtain ⟨B0, B1, B2⟩ := box_load XB9.out
      obtain ⟨c0, c1, c2⟩ := box_load Xc9.out
      obtain ⟨C0, C1, C2⟩ := box_load XC9.out
      go_wp2_with fail
      go_ret
      exact ⟨rfl, B9.out⟩

    · have hok := okB_true ha
      have hn8 := ha.hi
      have hn1 := ha.lo
      have ho : otherO (a.n : Int) (bs a.set) (bs a.rel) = some a.other := by unfold otherO; rw [hok, ofSt_eq]; rfl
      have ht : turnO (a.n : Int) (bs a.set) (bs a.rel) = some a.turn := by unfold turnO; rw [hok, ofSt_eq]; rfl
      have oo := other_ok ha
      have ot := turn_ok ha
      have hin : ∀ x y, x < a.n → y < a.n → ∃ p1 p2 u q1 q2 : Bool, (p1 == p2) = false ∧ (q1 == q2) = false ∧
          (∀ W, Calls Tryd.prog 14 #[stA a.other, .int .i64 (x : Nat), .int .i64 (y : Nat)] W fun e w' => e = .returned (.bool p1) ∧ Below W.heap.size W w') ∧
          (∀ W, Calls Tryd.prog 14 #[stA a, .int .i64 (x : Nat), .int .i64 (y : Nat)] W fun e w' => e = .returned (.bool p2) ∧ Below W.heap.size W w') ∧
          (∀ W, Calls Tryd.prog 14 #[stA a.turn, .int .i64 (x : Nat), .int .i64 (y : Nat)] W fun e w' => e = .returned (.bool u) ∧ Below W.heap.size W w') ∧
          (∀ W, Calls Tryd.prog 14 #[stA a, .int .i64 (y : Nat), .int .i64 (x : Nat)] W fun e w' => e = .returned (.bool u) ∧ Below W.heap.size W w') ∧
          (∀ W, Calls Tryd.prog 13 #[stA a.other, .int .i64 (x : Nat)] W fun e w' => e = .returned (.bool q1) ∧ Below W.heap.size W w') ∧
          (∀ W, Calls Tryd.prog 13 #[stA a, .int .i64 (x : Nat)] W fun e w' => e = .returned (.bool q2) ∧ Below W.heap.size W w') := fun x y hx hy => by
        refine ⟨a.other.inR x y, a.inR x y, a.turn.inR x y, a.other.inS x, a.inS x, ?_, ?_, fun W => inRel_st a.other oo (st_100 oo) x y hx hy W, fun W => inRel_st a ha (st_100 ha) x y hx hy W, fun W => inRel_st a.turn ot (st_100 ot) x y hx hy W, fun W => ?_, fun W => inSet_st a.other oo (st_100 oo) x hx W, fun W => inSet_st a ha (st_100 ha) x hx W⟩
        · rw [other_inR hx hy]; cases a.inR x y <;> rfl
        · rw [other_inS hx]; cases a.inS x <;> rfl
        · rw [turn_inR hx hy]; exact inRel_st a ha (st_100 ha) y x hy hx W
      have co : ∀ W, Calls Tryd.prog 17 #[stA a] W fun e w' => e = .returned (.tuple #[stA a.other, .bool true]) ∧ Below W.heap.size W w' := fun W => other_st a ha W
      have cp : ∀ W, Calls Tryd.prog 18 #[stA a] W fun e w' => e = .returned (.tuple #[stA a.other, .bool true]) ∧ Below W.heap.size W w' := fun W => by
        have h := OtherStructure_spec (a.n : Int) (bs a.set) (bs a.rel) W (by unfold maxLen; omega) (by unfold maxLen; omega)
        rwa [ho] at h
      have ct : ∀ W, Calls Tryd.prog 19 #[stA a] W fun e w' => e = .returned (.tuple #[stA a.turn, .bool true]) ∧ Below W.heap.size W w' := fun W => turn_st a ha W
      have cu : ∀ W, Calls Tryd.prog 20 #[stA a] W fun e w' => e = .returned (.tuple #[stA a.turn, .bool true]) ∧ Below W.heap.size W w' := fun W => by
        have h := TurnStructure_spec (a.n : Int) (bs a.set) (bs a.rel) W (by unfold maxLen; omega) (by unfold maxLen; omega)
        rwa [ht] at h
      have cd : ∀ W, Calls Tryd.prog 17 #[stA a.other] W fun e w' => e = .returned (.tuple #[stA a, .bool true]) ∧ Below W.heap.size W w' := fun W => by
        have h := other_st a.other oo W
        rwa [other_other ha] at h
      have ce : ∀ W, Calls Tryd.prog 19 #[stA a.turn] W fun e w' => e = .returned (.tuple #[stA a, .bool true]) ∧ Below W.heap.size W w' := fun W => by
        have h := turn_st a.turn ot W
        rwa [turn_turn ha] at h
      have cf : ∀ W, Calls Tryd.prog 19 #[stA a.other] W fun e w' => e = .returned (.tuple #[stA a.turn.other, .bool true]) ∧ Below W.heap.size W w' := fun W => by
        have h := turn_st a.other oo W
        rwa [other_turn] at h
      have cg : ∀ W, Calls Tryd.prog 17 #[stA a.turn] W fun e w' => e = .returned (.tuple #[stA a.turn.other, .bool true]) ∧ Below W.heap.size W w' := fun W => other_st a.turn ot W
      obtain ⟨N, hN⟩ : ∃ N : Int, N = (((isos a a).length : Nat) : Int) := ⟨_, rfl⟩
      have n1 : ∀ W, Calls Tryd.prog 21 #[stA a] W fun e w' => e = .returned (.int .i64 N) ∧ Below W.heap.size W w' := fun W => by rw [hN]; exact sym_st a ha W
      have n2 : ∀ W, Calls Tryd.prog 21 #[stA a.other] W fun e w' => e = .returned (.int .i64 N) ∧ Below W.heap.size W w' := fun W => by rw [hN, ← sym_other a]; exact sym_st a.other oo W
      have n3 : ∀ W, Calls Tryd.prog 21 #[stA a.turn] W fun e w' => e = .returned (.int .i64 N) ∧ Below W.heap.size W w' := fun W => by rw [hN, ← sym_turn a]; exact sym_st a.turn ot W
      have k1 : a.other.n = a.n := rfl
      have k2 : a.turn.n = a.n := rfl
      have k3 : a.turn.other.n = a.n := rfl
      unfold stA at hin co cp ct cu cd ce cf cg n1 n2 n3
      rw [k1] at hin co cp cd cf n2
      rw [k2] at hin ct cu ce cg n3
      rw [k3] at cf cg
      clear ho ht hok oo ot hN k1 k2 k3
      generalize bs a.turn.other.set = s4 at *
      generalize bs a.turn.other.rel = r4 at *
      generalize bs a.other.set = s2 at *
      generalize bs a.other.rel = r2 at *
      generalize bs a.turn.set = s3 at *
      generalize bs a.turn.rel = r3 at *
      generalize bs a.set = s at *
      generalize bs a.rel = r at *
      clear ha
      generalize a.n = n0 at *
      have CO := Lib.hid co
      have CP := Lib.hid cp
      have CT := Lib.hid ct
      have CU := Lib.hid cu
      have CD := Lib.hid cd
      have CE := Lib.hid ce
      have CF := Lib.hid cf
      have CG := Lib.hid cg
      have N1 := Lib.hid n1
      have N2 := Lib.hid n2
      have N3 := Lib.hid n3
      have HIN := Lib.hid hin
      clear co cp ct cu cd ce cf cg n1 n2 n3 hin
      have B1 := Lib.hid (B0.out.alloc B0.out.size (.cells #[.int .i64 (n0 : Int), .string s, .string r] 24))
      have Xa1 := Lib.hid (Bx.new w1 24 #[.int .i64 (n0 : Int), .string s, .string r])
      obtain ⟨a0, a1, a2⟩ := box_load Xa1.out
      go_wp2_with fail
      refine (CO.out _).mono ?_
      clear a0 a1 a2
      rintro e w2 ⟨rfl, hz⟩
      have B2 := Lib.hid (B1.out.trans (hz.mono B1.out.size))
      have Xa2 := Lib.hid (Xa1.out.call hz)
      clear hz
      obtain ⟨a0, a1, a2⟩ := box_load Xa2.out
      clear a0 a1 a2
      have B3 := Lib.hid (B2.out.alloc B2.out.size (.cells #[.int .i64 (n0 : Int), .string s2, .string r2] 24))
      have Xa3 := Lib.hid (Xa2.out.alloc (.cells #[.int .i64 (n0 : Int), .string s2, .string r2] 24))
      have Xb3 := Lib.hid (Bx.new w2 24 #[.int .i64 (n0 : Int), .string s2, .string r2])
      obtain ⟨a0, a1, a2⟩ := box_load Xa3.out
      obtain ⟨b0, b1, b2⟩ := box_load Xb3.out
      go_wp2_with fail
      refine (CP.out _).mono ?_
      clear a0 a1 a2 b0 b1 b2
      rintro e w3 ⟨rfl, hz⟩
      have B4 := Lib.hid (B3.out.trans (hz.mono B3.out.size))
      have Xa4 := Lib.hid (Xa3.out.call hz)
      have Xb4 := Lib.hid (Xb3.out.call hz)
      clear hz
      obtain ⟨a0, a1, a2⟩ := box_load Xa4.out
      obtain ⟨b0, b1, b2⟩ := box_load Xb4.out
      clear a0 a1 a2 b0 b1 b2
      have B5 := Lib.hid (B4.out.alloc B4.out.size (.cells #[.int .i64 (n0 : Int), .string s2, .string r2] 24))
      have Xa5 := Lib.hid (Xa4.out.alloc (.cells #[.int .i64 (n0 : Int), .string s2, .string r2] 24))
      have Xb5 := Lib.hid (Xb4.out.alloc (.cells #[.int .i64 (n0 : Int), .string s2, .string r2] 24))
      have XB5 := Lib.hid (Bx.new w3 24 #[.int .i64 (n0 : Int), .string s2, .string r2])
      obtain ⟨a0, a1, a2⟩ := box_load Xa5.out
      obtain ⟨b0, b1, b2⟩ := box_load Xb5.out
      obtain ⟨B0, B1, B2⟩ := box_load XB5.out
      go_wp2_with fail
      refine (CT.out _).mono ?_
      clear B0 B1 B2 a0 a1 a2 b0 b1 b2
      rintro e w4 ⟨rfl, hz⟩
      have B6 := Lib.hid (B5.out.trans (hz.mono B5.out.size))
      have Xa6 := Lib.hid (Xa5.out.call hz)
      have Xb6 := Lib.hid (Xb5.out.call hz)
      have XB6 := Lib.hid (XB5.out.call hz)
      clear hz
      obtain ⟨a0, a1, a2⟩ := box_load Xa6.out
      obtain ⟨b0, b1, b2⟩ := box_load Xb6.out
      obtain ⟨B0, B1, B2⟩ := box_load XB6.out
      clear B0 B1 B2 a0 a1 a2 b0 b1 b2
      have B7 := Lib.hid (B6.out.alloc B6.out.size (.cells #[.int .i64 (n0 : Int), .string s3, .string r3] 24))
      have Xa7 := Lib.hid (Xa6.out.alloc (.cells #[.int .i64 (n0 : Int), .string s3, .string r3] 24))
      have Xb7 := Lib.hid (Xb6.out.alloc (.cells #[.int .i64 (n0 : Int), .string s3, .string r3] 24))
      have XB7 := Lib.hid (XB6.out.alloc (.cells #[.int .i64 (n0 : Int), .string s3, .string r3] 24))
      have Xc7 := Lib.hid (Bx.new w4 24 #[.int .i64 (n0 : Int), .string s3, .string r3])
      obtain ⟨a0, a1, a2⟩ := box_load Xa7.out
      obtain ⟨b0, b1, b2⟩ := box_load Xb7.out
      obtain ⟨B0, B1, B2⟩ := box_load XB7.out
      obtain ⟨c0, c1, c2⟩ := box_load Xc7.out
      go_wp2_with fail
      refine (CU.out _).mono ?_
      clear B0 B1 B2 a0 a1 a2 b0 b1 b2 c0 c1 c2
      rintro e w5 ⟨rfl, hz⟩
      have B8 := Lib.hid (B7.out.trans (hz.mono B7.out.size))
      have Xa8 := Lib.hid (Xa7.out.call hz)
      have Xb8 := Lib.hid (Xb7.out.call hz)
      have XB8 := Lib.hid (XB7.out.call hz)
      have Xc8 := Lib.hid (Xc7.out.call hz)
      clear hz
      obtain ⟨a0, a1, a2⟩ := box_load Xa8.out
      obtain ⟨b0, b1, b2⟩ := box_load Xb8.out
      obtain ⟨B0, B1, B2⟩ := box_load XB8.out
      obtain ⟨c0, c1, c2⟩ := box_load Xc8.out
      clear B0 B1 B2 a0 a1 a2 b0 b1 b2 c0 c1 c2
      have B9 := Lib.hid (B8.out.alloc B8.out.size (.cells #[.int .i64 (n0 : Int), .string s3, .string r3] 24))
      have Xa9 := Lib.hid (Xa8.out.alloc (.cells #[.int .i64 (n0 : Int), .string s3, .string r3] 24))
      have Xb9 := Lib.hid (Xb8.out.alloc (.cells #[.int .i64 (n0 : Int), .string s3, .string r3] 24))
      have XB9 := Lib.hid (XB8.out.alloc (.cells #[.int .i64 (n0 : Int), .string s3, .string r3] 24))
      have Xc9 := Lib.hid (Xc8.out.alloc (.cells #[.int .i64 (n0 : Int), .string s3, .string r3] 24))
      have XC9 := Lib.hid (Bx.new w5 24 #[.int .i64 (n0 : Int), .string s3, .string r3])
      obtain ⟨a0, a1, a2⟩ := box_load Xa9.out
      obtain ⟨b0, b1, b2⟩ := box_load Xb9.out
      obtain ⟨B0, B1, B2⟩ := box_load XB9.out
      obtain ⟨c0, c1, c2⟩ := box_load Xc9.out
      obtain ⟨C0, C1, C2⟩ := box_load XC9.out
      go_wp2_with fail
      go_loopg [12] n0 (fun c x wr => ∃ jx : Nat, jx + c = n0 ∧ x = .int .i64 (jx : Nat) ∧ Below w.heap.size w wr ∧ Bx wr w1.heap.size 24 #[.int .i64 (n0 : Int), .string s, .string r] ∧ Bx wr w2.heap.size 24 #[.int .i64 (n0 : Int), .string s2, .string r2] ∧ Bx wr w4.heap.size 24 #[.int .i64 (n0 : Int), .string s3, .string r3])
      case atStart => exact ⟨0, by omega, rfl, B9.out, Xa9.out, Xb9.out, Xc9.out⟩
      case round =>
        clear B0 B1 B2 C0 C1 C2 a0 a1 a2 b0 b1 b2 c0 c1 c2
        obtain ⟨jx, hjx, rfl, hb, hxa, hxb, hxc⟩ := hrel
        have B100 := Lib.hid hb
        have Xa100 := Lib.hid hxa
        have Xb100 := Lib.hid hxb
        have Xc100 := Lib.hid hxc
        clear hb hxa hxb hxc
        obtain ⟨a0, a1, a2⟩ := box_load Xa100.out
        obtain ⟨b0, b1, b2⟩ := box_load Xb100.out
        obtain ⟨c0, c1, c2⟩ := box_load Xc100.out
        by_cases hlx : jx < n0
        · have hxi : (jx : Int) < (n0 : Int) := by omega
          go_wp2_with fail
          go_loopg [13] n0 (fun c y wr => ∃ jy : Nat, jy + c = n0 ∧ y = .int .i64 (jy : Nat) ∧ Below w.heap.size w wr ∧ Bx wr w1.heap.size 24 #[.int .i64 (n0 : Int), .string s, .string r] ∧ Bx wr w2.heap.size 24 #[.int .i64 (n0 : Int), .string s2, .string r2] ∧ Bx wr w4.heap.size 24 #[.int .i64 (n0 : Int), .string s3, .string r3])
          case atStart => exact ⟨0, by omega, rfl, B100.out, Xa100.out, Xb100.out, Xc100.out⟩
          case round =>
            clear a0 a1 a2 b0 b1 b2 c0 c1 c2
            obtain ⟨jy, hjy, rfl, hb, hxa, hxb, hxc⟩ := hrel
            have B199 := Lib.hid hb
            have Xa199 := Lib.hid hxa
            have Xb199 := Lib.hid hxb
            have Xc199 := Lib.hid hxc
            clear hb hxa hxb hxc
            obtain ⟨a0, a1, a2⟩ := box_load Xa199.out
            obtain ⟨b0, b1, b2⟩ := box_load Xb199.out
            obtain ⟨c0, c1, c2⟩ := box_load Xc199.out
            by_cases hly : jy < n0
            · have hyi : (jy : Int) < (n0 : Int) := by omega
              obtain ⟨p1, p2, u, q1, q2, hp, hq, k1, k2, k3, k4, k5, k6⟩ := HIN.out jx jy hlx hly
              have Z1 := Lib.hid k1
              have Z2 := Lib.hid k2
              have Z3 := Lib.hid k3
              have Z4 := Lib.hid k4
              have Z5 := Lib.hid k5
              have Z6 := Lib.hid k6
              clear k1 k2 k3 k4 k5 k6
              go_upto_region 16 with (fail)
              have B200 := Lib.hid B199.out.drew
              have Xa200 := Lib.hid Xa199.out.drew
              have Xb200 := Lib.hid Xb199.out.drew
              have Xc200 := Lib.hid Xc199.out.drew
              clear a0 a1 a2 b0 b1 b2 c0 c1 c2
              obtain ⟨a0, a1, a2⟩ := box_load Xa200.out
              obtain ⟨b0, b1, b2⟩ := box_load Xb200.out
              obtain ⟨c0, c1, c2⟩ := box_load Xc200.out
              refine region_sched [(0, true), (1, true), (2, true), (4, true), (5, true), (6, true), (3, false), (7, false), (8, true), (9, true), (10, true), (11, true), (12, true), (14, true), (15, true), (16, true), (13, false), (17, false), (18, true), (19, true), (20, true), (21, true), (22, true), (24, true), (25, true), (23, false), (26, false), (27, true), (28, true)] (fun w' : World => w'.cell? ⟨w1.heap.size, 0, none⟩ = some (.int .i64 (n0 : Int)) ∧ w'.cell? ⟨w1.heap.size, 1, none⟩ = some (.string s) ∧ w'.cell? ⟨w1.heap.size, 2, none⟩ = some (.string r) ∧ w'.cell? ⟨w2.heap.size, 0, none⟩ = some (.int .i64 (n0 : Int)) ∧ w'.cell? ⟨w2.heap.size, 1, none⟩ = some (.string s2) ∧ w'.cell? ⟨w2.heap.size, 2, none⟩ = some (.string r2) ∧ w'.cell? ⟨w4.heap.size, 0, none⟩ = some (.int .i64 (n0 : Int)) ∧ w'.cell? ⟨w4.heap.size, 1, none⟩ = some (.string s3) ∧ w'.cell? ⟨w4.heap.size, 2, none⟩ = some (.string r3)) (by kernel_rfl) (by kernel_rfl) (by kernel_rfl) (by kernel_rfl) (fun _ _ _ _ h => h) ?_ (fun Q1 hQ1 => ?_)
              · exact ⟨a0, a1, a2, b0, b1, b2, c0, c1, c2⟩
              try simp only [List.append]
              refine sched_take' (v := .agg #[.int .i64 (n0 : Int), .string s2, .string r2]) (a' := ?_) rfl (by kernel_rfl) ?_ rfl ?_ ?_
              rotate_left 1
              · intro w hSw
                (try dsimp only at hSw)
                go_simp
                first | done | (obtain ⟨ua0, ua1, ua2, ub0, ub1, ub2, uc0, uc1, uc2⟩ := hSw; simp [*])
              · (try simp only [Act.put, List.setIfInBounds_toArray, List.set_cons_zero, List.set_cons_succ])
                try rfl
              refine sched_take' (v := ?_) (a' := ?_) rfl (by kernel_rfl) ?_ rfl ?_ ?_
              rotate_left 2
              · intro w hSw
                (try dsimp only at hSw)
                go_simp
                try with_reducible rfl
              · (try simp only [Act.put, List.setIfInBounds_toArray, List.set_cons_zero, List.set_cons_succ])
                try rfl
              refine sched_take' (v := ?_) (a' := ?_) rfl (by kernel_rfl) ?_ rfl ?_ ?_
              rotate_left 2
              · intro w hSw
                (try dsimp only at hSw)
                go_simp
                try with_reducible rfl
              · (try simp only [Act.put, List.setIfInBounds_toArray, List.set_cons_zero, List.set_cons_succ])
                try rfl
              refine sched_take' (v := .agg #[.int .i64 (n0 : Int), .string s, .string r]) (a' := ?_) rfl (by kernel_rfl) ?_ rfl ?_ ?_
              rotate_left 1
              · intro w hSw
                (try dsimp only at hSw)
                go_simp
                first | done | (obtain ⟨ua0, ua1, ua2, ub0, ub1, ub2, uc0, uc1, uc2⟩ := hSw; simp [*])
              · (try simp only [Act.put, List.setIfInBounds_toArray, List.set_cons_zero, List.set_cons_succ])
                try rfl
              refine sched_take' (v := ?_) (a' := ?_) rfl (by kernel_rfl) ?_ rfl ?_ ?_
              rotate_left 2
              · intro w hSw
                (try dsimp only at hSw)
                go_simp
                try with_reducible rfl
              · (try simp only [Act.put, List.setIfInBounds_toArray, List.set_cons_zero, List.set_cons_succ])
                try rfl
              refine sched_take' (v := ?_) (a' := ?_) rfl (by kernel_rfl) ?_ rfl ?_ ?_
              rotate_left 2
              · intro w hSw
                (try dsimp only at hSw)
                go_simp
                try with_reducible rfl
              · (try simp only [Act.put, List.setIfInBounds_toArray, List.set_cons_zero, List.set_cons_succ])
                try rfl
              refine sched_call rfl (by kernel_rfl) (fun K1 hK1 => ?_)
              go_simp
              refine (Z1.out _).mono ?_
              rintro e wa ⟨rfl, hz⟩
              have B201 := Lib.hid (B200.out.trans (hz.mono B200.out.size))
              have Xa201 := Lib.hid (Xa200.out.call hz)
              have Xb201 := Lib.hid (Xb200.out.call hz)
              have Xc201 := Lib.hid (Xc200.out.call hz)
              clear hz
              clear a0 a1 a2 b0 b1 b2 c0 c1 c2
              obtain ⟨a0, a1, a2⟩ := box_load Xa201.out
              obtain ⟨b0, b1, b2⟩ := box_load Xb201.out
              obtain ⟨c0, c1, c2⟩ := box_load Xc201.out
              go_wp2_with fail
              refine hK1.out _ _ ?_ (sched_lay (a' := ?_) ?_ ?_)
              · exact ⟨a0, a1, a2, b0, b1, b2, c0, c1, c2⟩
              rotate_left 1
              · (try simp only [Act.put, List.getElem_toArray, List.getElem_cons_succ, List.getElem_cons_zero, List.setIfInBounds_toArray, List.set_cons_zero, List.set_cons_succ])
                try rfl
              clear hK1 K1
              refine sched_call rfl (by kernel_rfl) (fun K1 hK1 => ?_)
              go_simp
              refine (Z2.out _).mono ?_
              rintro e wb ⟨rfl, hz⟩
              have B202 := Lib.hid (B201.out.trans (hz.mono B201.out.size))
              have Xa202 := Lib.hid (Xa201.out.call hz)
              have Xb202 := Lib.hid (Xb201.out.call hz)
              have Xc202 := Lib.hid (Xc201.out.call hz)
              clear hz
              clear a0 a1 a2 b0 b1 b2 c0 c1 c2
              obtain ⟨a0, a1, a2⟩ := box_load Xa202.out
              obtain ⟨b0, b1, b2⟩ := box_load Xb202.out
              obtain ⟨c0, c1, c2⟩ := box_load Xc202.out
              go_wp2_with fail
              refine hK1.out _ _ ?_ (sched_lay (a' := ?_) ?_ ?_)
              · exact ⟨a0, a1, a2, b0, b1, b2, c0, c1, c2⟩
              rotate_left 1
              · (try simp only [Act.put, List.getElem_toArray, List.getElem_cons_succ, List.getElem_cons_zero, List.setIfInBounds_toArray, List.set_cons_zero, List.set_cons_succ])
                try rfl
              clear hK1 K1
              refine sched_take' (v := ?_) (a' := ?_) rfl (by kernel_rfl) ?_ rfl ?_ ?_
              rotate_left 2
              · intro w hSw
                (try dsimp only at hSw)
                go_simp
                try with_reducible rfl
              · (try simp only [Act.put, List.setIfInBounds_toArray, List.set_cons_zero, List.set_cons_succ])
                try rfl
              refine sched_take' (v := ?_) (a' := ?_) rfl (by kernel_rfl) ?_ rfl ?_ ?_
              rotate_left 2
              · intro w hSw
                (try dsimp only at hSw)
                go_simp
                try with_reducible rfl
              · (try simp only [Act.put, List.setIfInBounds_toArray, List.set_cons_zero, List.set_cons_succ])
                try rfl
              refine sched_take' (v := .agg #[.int .i64 (n0 : Int), .string s3, .string r3]) (a' := ?_) rfl (by kernel_rfl) ?_ rfl ?_ ?_
              rotate_left 1
              · intro w hSw
                (try dsimp only at hSw)
                go_simp
                first | done | (obtain ⟨ua0, ua1, ua2, ub0, ub1, ub2, uc0, uc1, uc2⟩ := hSw; simp [*])
              · (try simp only [Act.put, List.setIfInBounds_toArray, List.set_cons_zero, List.set_cons_succ])
                try rfl
              refine sched_take' (v := ?_) (a' := ?_) rfl (by kernel_rfl) ?_ rfl ?_ ?_
              rotate_left 2
              · intro w hSw
                (try dsimp only at hSw)
                go_simp
                try with_reducible rfl
              · (try simp only [Act.put, List.setIfInBounds_toArray, List.set_cons_zero, List.set_cons_succ])
                try rfl
              refine sched_take' (v := ?_) (a' := ?_) rfl (by kernel_rfl) ?_ rfl ?_ ?_
              rotate_left 2
              · intro w hSw
                (try dsimp only at hSw)
                go_simp
                try with_reducible rfl
              · (try simp only [Act.put, List.setIfInBounds_toArray, List.set_cons_zero, List.set_cons_succ])
                try rfl
              refine sched_take' (v := .agg #[.int .i64 (n0 : Int), .string s, .string r]) (a' := ?_) rfl (by kernel_rfl) ?_ rfl ?_ ?_
              rotate_left 1
              · intro w hSw
                (try dsimp only at hSw)
                go_simp
                first | done | (obtain ⟨ua0, ua1, ua2, ub0, ub1, ub2, uc0, uc1, uc2⟩ := hSw; simp [*])
              · (try simp only [Act.put, List.setIfInBounds_toArray, List.set_cons_zero, List.set_cons_succ])
                try rfl
              refine sched_take' (v := ?_) (a' := ?_) rfl (by kernel_rfl) ?_ rfl ?_ ?_
              rotate_left 2
              · intro w hSw
                (try dsimp only at hSw)
                go_simp
                try with_reducible rfl
              · (try simp only [Act.put, List.setIfInBounds_toArray, List.set_cons_zero, List.set_cons_succ])
                try rfl
              refine sched_take' (v := ?_) (a' := ?_) rfl (by kernel_rfl) ?_ rfl ?_ ?_
              rotate_left 2
              · intro w hSw
                (try dsimp only at hSw)
                go_simp
                try with_reducible rfl
              · (try simp only [Act.put, List.setIfInBounds_toArray, List.set_cons_zero, List.set_cons_succ])
                try rfl
              refine sched_call rfl (by kernel_rfl) (fun K1 hK1 => ?_)
              go_simp
              refine (Z3.out _).mono ?_
              rintro e wc ⟨rfl, hz⟩
              have B203 := Lib.hid (B202.out.trans (hz.mono B202.out.size))
              have Xa203 := Lib.hid (Xa202.out.call hz)
              have Xb203 := Lib.hid (Xb202.out.call hz)
              have Xc203 := Lib.hid (Xc202.out.call hz)
              clear hz
              clear a0 a1 a2 b0 b1 b2 c0 c1 c2
              obtain ⟨a0, a1, a2⟩ := box_load Xa203.out
              obtain ⟨b0, b1, b2⟩ := box_load Xb203.out
              obtain ⟨c0, c1, c2⟩ := box_load Xc203.out
              go_wp2_with fail
              refine hK1.out _ _ ?_ (sched_lay (a' := ?_) ?_ ?_)
              · exact ⟨a0, a1, a2, b0, b1, b2, c0, c1, c2⟩
              rotate_left 1
              · (try simp only [Act.put, List.getElem_toArray, List.getElem_cons_succ, List.getElem_cons_zero, List.setIfInBounds_toArray, List.set_cons_zero, List.set_cons_succ])
                try rfl
              clear hK1 K1
              refine sched_call rfl (by kernel_rfl) (fun K1 hK1 => ?_)
              go_simp
              refine (Z4.out _).mono ?_
              rintro e wd ⟨rfl, hz⟩
              have B204 := Lib.hid (B203.out.trans (hz.mono B203.out.size))
              have Xa204 := Lib.hid (Xa203.out.call hz)
              have Xb204 := Lib.hid (Xb203.out.call hz)
              have Xc204 := Lib.hid (Xc203.out.call hz)
              clear hz
              clear a0 a1 a2 b0 b1 b2 c0 c1 c2
              obtain ⟨a0, a1, a2⟩ := box_load Xa204.out
              obtain ⟨b0, b1, b2⟩ := box_load Xb204.out
              obtain ⟨c0, c1, c2⟩ := box_load Xc204.out
              go_wp2_with fail
              refine hK1.out _ _ ?_ (sched_lay (a' := ?_) ?_ ?_)
              · exact ⟨a0, a1, a2, b0, b1, b2, c0, c1, c2⟩
              rotate_left 1
              · (try simp only [Act.put, List.getElem_toArray, List.getElem_cons_succ, List.getElem_cons_zero, List.setIfInBounds_toArray, List.set_cons_zero, List.set_cons_succ])
                try rfl
              clear hK1 K1
              refine sched_take' (v := ?_) (a' := ?_) rfl (by kernel_rfl) ?_ rfl ?_ ?_
              rotate_left 2
              · intro w hSw
                (try dsimp only at hSw)
                go_simp
                try with_reducible rfl
              · (try simp only [Act.put, List.setIfInBounds_toArray, List.set_cons_zero, List.set_cons_succ])
                try rfl
              refine sched_take' (v := ?_) (a' := ?_) rfl (by kernel_rfl) ?_ rfl ?_ ?_
              rotate_left 2
              · intro w hSw
                (try dsimp only at hSw)
                go_simp
                try with_reducible rfl
              · (try simp only [Act.put, List.setIfInBounds_toArray, List.set_cons_zero, List.set_cons_succ])
                try rfl
              refine sched_take' (v := ?_) (a' := ?_) rfl (by kernel_rfl) ?_ rfl ?_ ?_
              rotate_left 2
              · intro w hSw
                (try dsimp only at hSw)
                go_simp
                try with_reducible rfl
              · (try simp only [Act.put, List.setIfInBounds_toArray, List.set_cons_zero, List.set_cons_succ])
                try rfl
              refine sched_take' (v := .agg #[.int .i64 (n0 : Int), .string s2, .string r2]) (a' := ?_) rfl (by kernel_rfl) ?_ rfl ?_ ?_
              rotate_left 1
              · intro w hSw
                (try dsimp only at hSw)
                go_simp
                first | done | (obtain ⟨ua0, ua1, ua2, ub0, ub1, ub2, uc0, uc1, uc2⟩ := hSw; simp [*])
              · (try simp only [Act.put, List.setIfInBounds_toArray, List.set_cons_zero, List.set_cons_succ])
                try rfl
              refine sched_take' (v := ?_) (a' := ?_) rfl (by kernel_rfl) ?_ rfl ?_ ?_
              rotate_left 2
              · intro w hSw
                (try dsimp only at hSw)
                go_simp
                try with_reducible rfl
              · (try simp only [Act.put, List.setIfInBounds_toArray, List.set_cons_zero, List.set_cons_succ])
                try rfl
              refine sched_take' (v := .agg #[.int .i64 (n0 : Int), .string s, .string r]) (a' := ?_) rfl (by kernel_rfl) ?_ rfl ?_ ?_
              rotate_left 1
              · intro w hSw
                (try dsimp only at hSw)
                go_simp
                first | done | (obtain ⟨ua0, ua1, ua2, ub0, ub1, ub2, uc0, uc1, uc2⟩ := hSw; simp [*])
              · (try simp only [Act.put, List.setIfInBounds_toArray, List.set_cons_zero, List.set_cons_succ])
                try rfl
              refine sched_take' (v := ?_) (a' := ?_) rfl (by kernel_rfl) ?_ rfl ?_ ?_
              rotate_left 2
              · intro w hSw
                (try dsimp only at hSw)
                go_simp
                try with_reducible rfl
              · (try simp only [Act.put, List.setIfInBounds_toArray, List.set_cons_zero, List.set_cons_succ])
                try rfl
              refine sched_call rfl (by kernel_rfl) (fun K1 hK1 => ?_)
              go_simp
              refine (Z5.out _).mono ?_
              rintro e we ⟨rfl, hz⟩
              have B205 := Lib.hid (B204.out.trans (hz.mono B204.out.size))
              have Xa205 := Lib.hid (Xa204.out.call hz)
              have Xb205 := Lib.hid (Xb204.out.call hz)
              have Xc205 := Lib.hid (Xc204.out.call hz)
              clear hz
              clear a0 a1 a2 b0 b1 b2 c0 c1 c2
              obtain ⟨a0, a1, a2⟩ := box_load Xa205.out
              obtain ⟨b0, b1, b2⟩ := box_load Xb205.out
              obtain ⟨c0, c1, c2⟩ := box_load Xc205.out
              go_wp2_with fail
              refine hK1.out _ _ ?_ (sched_lay (a' := ?_) ?_ ?_)
              · exact ⟨a0, a1, a2, b0, b1, b2, c0, c1, c2⟩
              rotate_left 1
              · (try simp only [Act.put, List.getElem_toArray, List.getElem_cons_succ, List.getElem_cons_zero, List.setIfInBounds_toArray, List.set_cons_zero, List.set_cons_succ])
                try rfl
              clear hK1 K1
              refine sched_call rfl (by kernel_rfl) (fun K1 hK1 => ?_)
              go_simp
              refine (Z6.out _).mono ?_
              rintro e wf ⟨rfl, hz⟩
              have B206 := Lib.hid (B205.out.trans (hz.mono B205.out.size))
              have Xa206 := Lib.hid (Xa205.out.call hz)
              have Xb206 := Lib.hid (Xb205.out.call hz)
              have Xc206 := Lib.hid (Xc205.out.call hz)
              clear hz
              clear a0 a1 a2 b0 b1 b2 c0 c1 c2
              obtain ⟨a0, a1, a2⟩ := box_load Xa206.out
              obtain ⟨b0, b1, b2⟩ := box_load Xb206.out
              obtain ⟨c0, c1, c2⟩ := box_load Xc206.out
              go_wp2_with fail
              refine hK1.out _ _ ?_ (sched_lay (a' := ?_) ?_ ?_)
              · exact ⟨a0, a1, a2, b0, b1, b2, c0, c1, c2⟩
              rotate_left 1
              · (try simp only [Act.put, List.getElem_toArray, List.getElem_cons_succ, List.getElem_cons_zero, List.setIfInBounds_toArray, List.set_cons_zero, List.set_cons_succ])
                try rfl
              clear hK1 K1
              refine sched_take' (v := ?_) (a' := ?_) rfl (by kernel_rfl) ?_ rfl ?_ ?_
              rotate_left 2
              · intro w hSw
                (try dsimp only at hSw)
                go_simp
                try with_reducible rfl
              · (try simp only [Act.put, List.setIfInBounds_toArray, List.set_cons_zero, List.set_cons_succ])
                try rfl
              refine sched_take' (v := ?_) (a' := ?_) rfl (by kernel_rfl) ?_ rfl ?_ ?_
              rotate_left 2
              · intro w hSw
                (try dsimp only at hSw)
                go_simp
                try with_reducible rfl
              · (try simp only [Act.put, List.setIfInBounds_toArray, List.set_cons_zero, List.set_cons_succ])
                try rfl
              refine sched_done (hQ1.out _ _ ?_)
              go_wp2_with fail
              go_roundg (n0 - jy - 1)
              case rel => exact ⟨jy + 1, by omega, by go_num, B206.out, Xa206.out, Xb206.out, Xc206.out⟩
              case measure => omega
            · have hyi : ¬ (jy : Int) < (n0 : Int) := by omega
              go_wp2_with fail
              go_roundg (n0 - jx - 1)
              case rel => exact ⟨jx + 1, by omega, by go_num, B199.out, Xa199.out, Xb199.out, Xc199.out⟩
              case measure => omega
        · have hxi : ¬ (jx : Int) < (n0 : Int) := by omega
          go_wp2_with fail
          refine (CD.out _).mono ?_
          clear a0 a1 a2 b0 b1 b2 c0 c1 c2
          rintro e w301 ⟨rfl, hz⟩
          have B301 := Lib.hid (B100.out.trans (hz.mono B100.out.size))
          have Xa301 := Lib.hid (Xa100.out.call hz)
          have Xb301 := Lib.hid (Xb100.out.call hz)
          have Xc301 := Lib.hid (Xc100.out.call hz)
          clear hz
          obtain ⟨a0, a1, a2⟩ := box_load Xa301.out
          obtain ⟨b0, b1, b2⟩ := box_load Xb301.out
          obtain ⟨c0, c1, c2⟩ := box_load Xc301.out
          clear a0 a1 a2 b0 b1 b2 c0 c1 c2
          have B302 := Lib.hid (B301.out.alloc B301.out.size (.cells #[.int .i64 (n0 : Int), .string s, .string r] 24))
          have Xa302 := Lib.hid (Xa301.out.alloc (.cells #[.int .i64 (n0 : Int), .string s, .string r] 24))
          have Xb302 := Lib.hid (Xb301.out.alloc (.cells #[.int .i64 (n0 : Int), .string s, .string r] 24))
          have Xc302 := Lib.hid (Xc301.out.alloc (.cells #[.int .i64 (n0 : Int), .string s, .string r] 24))
          have Xd302 := Lib.hid (Bx.new w301 24 #[.int .i64 (n0 : Int), .string s, .string r])
          obtain ⟨a0, a1, a2⟩ := box_load Xa302.out
          obtain ⟨b0, b1, b2⟩ := box_load Xb302.out
          obtain ⟨c0, c1, c2⟩ := box_load Xc302.out
          obtain ⟨d0, d1, d2⟩ := box_load Xd302.out
          go_wp2_with fail
          refine (CE.out _).mono ?_
          clear a0 a1 a2 b0 b1 b2 c0 c1 c2 d0 d1 d2
          rintro e w302 ⟨rfl, hz⟩
          have B303 := Lib.hid (B302.out.trans (hz.mono B302.out.size))
          have Xa303 := Lib.hid (Xa302.out.call hz)
          have Xb303 := Lib.hid (Xb302.out.call hz)
          have Xc303 := Lib.hid (Xc302.out.call hz)
          have Xd303 := Lib.hid (Xd302.out.call hz)
          clear hz
          obtain ⟨a0, a1, a2⟩ := box_load Xa303.out
          obtain ⟨b0, b1, b2⟩ := box_load Xb303.out
          obtain ⟨c0, c1, c2⟩ := box_load Xc303.out
          obtain ⟨d0, d1, d2⟩ := box_load Xd303.out
          clear a0 a1 a2 b0 b1 b2 c0 c1 c2 d0 d1 d2
          have B304 := Lib.hid (B303.out.alloc B303.out.size (.cells #[.int .i64 (n0 : Int), .string s, .string r] 24))
          have Xa304 := Lib.hid (Xa303.out.alloc (.cells #[.int .i64 (n0 : Int), .string s, .string r] 24))
          have Xb304 := Lib.hid (Xb303.out.alloc (.cells #[.int .i64 (n0 : Int), .string s, .string r] 24))
          have Xc304 := Lib.hid (Xc303.out.alloc (.cells #[.int .i64 (n0 : Int), .string s, .string r] 24))
          have Xd304 := Lib.hid (Xd303.out.alloc (.cells #[.int .i64 (n0 : Int), .string s, .string r] 24))
          have Xe304 := Lib.hid (Bx.new w302 24 #[.int .i64 (n0 : Int), .string s, .string r])
          obtain ⟨a0, a1, a2⟩ := box_load Xa304.out
          obtain ⟨b0, b1, b2⟩ := box_load Xb304.out
          obtain ⟨c0, c1, c2⟩ := box_load Xc304.out
          obtain ⟨d0, d1, d2⟩ := box_load Xd304.out
          obtain ⟨e0, e1, e2⟩ := box_load Xe304.out
          go_wp2_with fail
          refine (CF.out _).mono ?_
          clear a0 a1 a2 b0 b1 b2 c0 c1 c2 d0 d1 d2 e0 e1 e2
          rintro e w303 ⟨rfl, hz⟩
          have B305 := Lib.hid (B304.out.trans (hz.mono B304.out.size))
          have Xa305 := Lib.hid (Xa304.out.call hz)
          have Xb305 := Lib.hid (Xb304.out.call hz)
          have Xc305 := Lib.hid (Xc304.out.call hz)
          have Xd305 := Lib.hid (Xd304.out.call hz)
          have Xe305 := Lib.hid (Xe304.out.call hz)
          clear hz
          obtain ⟨a0, a1, a2⟩ := box_load Xa305.out
          obtain ⟨b0, b1, b2⟩ := box_load Xb305.out
          obtain ⟨c0, c1, c2⟩ := box_load Xc305.out
          obtain ⟨d0, d1, d2⟩ := box_load Xd305.out
          obtain ⟨e0, e1, e2⟩ := box_load Xe305.out
          clear a0 a1 a2 b0 b1 b2 c0 c1 c2 d0 d1 d2 e0 e1 e2
          have B306 := Lib.hid (B305.out.alloc B305.out.size (.cells #[.int .i64 (n0 : Int), .string s4, .string r4] 24))
          have Xa306 := Lib.hid (Xa305.out.alloc (.cells #[.int .i64 (n0 : Int), .string s4, .string r4] 24))
          have Xb306 := Lib.hid (Xb305.out.alloc (.cells #[.int .i64 (n0 : Int), .string s4, .string r4] 24))
          have Xc306 := Lib.hid (Xc305.out.alloc (.cells #[.int .i64 (n0 : Int), .string s4, .string r4] 24))
          have Xd306 := Lib.hid (Xd305.out.alloc (.cells #[.int .i64 (n0 : Int), .string s4, .string r4] 24))
          have Xe306 := Lib.hid (Xe305.out.alloc (.cells #[.int .i64 (n0 : Int), .string s4, .string r4] 24))
          have Xf306 := Lib.hid (Bx.new w303 24 #[.int .i64 (n0 : Int), .string s4, .string r4])
          obtain ⟨a0, a1, a2⟩ := box_load Xa306.out
          obtain ⟨b0, b1, b2⟩ := box_load Xb306.out
          obtain ⟨c0, c1, c2⟩ := box_load Xc306.out
          obtain ⟨d0, d1, d2⟩ := box_load Xd306.out
          obtain ⟨e0, e1, e2⟩ := box_load Xe306.out
          obtain ⟨f0, f1, f2⟩ := box_load Xf306.out
          go_wp2_with fail
          refine (CG.out _).mono ?_
          clear a0 a1 a2 b0 b1 b2 c0 c1 c2 d0 d1 d2 e0 e1 e2 f0 f1 f2
          rintro e w304 ⟨rfl, hz⟩
          have B307 := Lib.hid (B306.out.trans (hz.mono B306.out.size))
          have Xa307 := Lib.hid (Xa306.out.call hz)
          have Xb307 := Lib.hid (Xb306.out.call hz)
          have Xc307 := Lib.hid (Xc306.out.call hz)
          have Xd307 := Lib.hid (Xd306.out.call hz)
          have Xe307 := Lib.hid (Xe306.out.call hz)
          have Xf307 := Lib.hid (Xf306.out.call hz)
          clear hz
          obtain ⟨a0, a1, a2⟩ := box_load Xa307.out
          obtain ⟨b0, b1, b2⟩ := box_load Xb307.out
          obtain ⟨c0, c1, c2⟩ := box_load Xc307.out
          obtain ⟨d0, d1, d2⟩ := box_load Xd307.out
          obtain ⟨e0, e1, e2⟩ := box_load Xe307.out
          obtain ⟨f0, f1, f2⟩ := box_load Xf307.out
          clear a0 a1 a2 b0 b1 b2 c0 c1 c2 d0 d1 d2 e0 e1 e2 f0 f1 f2
          have B308 := Lib.hid (B307.out.alloc B307.out.size (.cells #[.int .i64 (n0 : Int), .string s4, .string r4] 24))
          have Xa308 := Lib.hid (Xa307.out.alloc (.cells #[.int .i64 (n0 : Int), .string s4, .string r4] 24))
          have Xb308 := Lib.hid (Xb307.out.alloc (.cells #[.int .i64 (n0 : Int), .string s4, .string r4] 24))
          have Xc308 := Lib.hid (Xc307.out.alloc (.cells #[.int .i64 (n0 : Int), .string s4, .string r4] 24))
          have Xd308 := Lib.hid (Xd307.out.alloc (.cells #[.int .i64 (n0 : Int), .string s4, .string r4] 24))
          have Xe308 := Lib.hid (Xe307.out.alloc (.cells #[.int .i64 (n0 : Int), .string s4, .string r4] 24))
          have Xf308 := Lib.hid (Xf307.out.alloc (.cells #[.int .i64 (n0 : Int), .string s4, .string r4] 24))
          have Xg308 := Lib.hid (Bx.new w304 24 #[.int .i64 (n0 : Int), .string s4, .string r4])
          obtain ⟨a0, a1, a2⟩ := box_load Xa308.out
          obtain ⟨b0, b1, b2⟩ := box_load Xb308.out
          obtain ⟨c0, c1, c2⟩ := box_load Xc308.out
          obtain ⟨d0, d1, d2⟩ := box_load Xd308.out
          obtain ⟨e0, e1, e2⟩ := box_load Xe308.out
          obtain ⟨f0, f1, f2⟩ := box_load Xf308.out
          obtain ⟨g0, g1, g2⟩ := box_load Xg308.out
          clear a0 a1 a2 b0 b1 b2 c0 c1 c2 d0 d1 d2 e0 e1 e2 f0 f1 f2 g0 g1 g2
          obtain ⟨a0, a1, a2⟩ := box_load Xa308.out
          obtain ⟨b0, b1, b2⟩ := box_load Xb308.out
          obtain ⟨c0, c1, c2⟩ := box_load Xc308.out
          obtain ⟨d0, d1, d2⟩ := box_load Xd308.out
          obtain ⟨e0, e1, e2⟩ := box_load Xe308.out
          obtain ⟨f0, f1, f2⟩ := box_load Xf308.out
          obtain ⟨g0, g1, g2⟩ := box_load Xg308.out
          go_upto_region 22 with (fail)
          clear a0 a1 a2 b0 b1 b2 c0 c1 c2 d0 d1 d2 e0 e1 e2 f0 f1 f2 g0 g1 g2
          have B400 := Lib.hid B308.out.drew
          have Xa400 := Lib.hid Xa308.out.drew
          have Xb400 := Lib.hid Xb308.out.drew
          have Xc400 := Lib.hid Xc308.out.drew
          have Xd400 := Lib.hid Xd308.out.drew
          have Xe400 := Lib.hid Xe308.out.drew
          have Xf400 := Lib.hid Xf308.out.drew
          have Xg400 := Lib.hid Xg308.out.drew
          obtain ⟨a0, a1, a2⟩ := box_load Xa400.out
          obtain ⟨b0, b1, b2⟩ := box_load Xb400.out
          obtain ⟨c0, c1, c2⟩ := box_load Xc400.out
          obtain ⟨d0, d1, d2⟩ := box_load Xd400.out
          obtain ⟨e0, e1, e2⟩ := box_load Xe400.out
          obtain ⟨f0, f1, f2⟩ := box_load Xf400.out
          obtain ⟨g0, g1, g2⟩ := box_load Xg400.out
          refine region_sched [(0, true), (1, true), (2, true), (3, true), (4, true), (5, true), (6, true), (7, true), (8, true), (9, true), (10, true), (11, true), (12, true), (13, true), (14, true), (16, true), (15, false), (17, false), (18, true), (19, true), (20, true), (21, true), (23, true), (22, false), (24, false), (25, true), (26, true), (27, true)] (fun w' : World => w'.cell? ⟨w1.heap.size, 0, none⟩ = some (.int .i64 (n0 : Int)) ∧ w'.cell? ⟨w1.heap.size, 1, none⟩ = some (.string s) ∧ w'.cell? ⟨w1.heap.size, 2, none⟩ = some (.string r) ∧ w'.cell? ⟨w2.heap.size, 0, none⟩ = some (.int .i64 (n0 : Int)) ∧ w'.cell? ⟨w2.heap.size, 1, none⟩ = some (.string s2) ∧ w'.cell? ⟨w2.heap.size, 2, none⟩ = some (.string r2) ∧ w'.cell? ⟨w4.heap.size, 0, none⟩ = some (.int .i64 (n0 : Int)) ∧ w'.cell? ⟨w4.heap.size, 1, none⟩ = some (.string s3) ∧ w'.cell? ⟨w4.heap.size, 2, none⟩ = some (.string r3) ∧ w'.cell? ⟨w301.heap.size, 0, none⟩ = some (.int .i64 (n0 : Int)) ∧ w'.cell? ⟨w301.heap.size, 1, none⟩ = some (.string s) ∧ w'.cell? ⟨w301.heap.size, 2, none⟩ = some (.string r) ∧ w'.cell? ⟨w302.heap.size, 0, none⟩ = some (.int .i64 (n0 : Int)) ∧ w'.cell? ⟨w302.heap.size, 1, none⟩ = some (.string s) ∧ w'.cell? ⟨w302.heap.size, 2, none⟩ = some (.string r) ∧ w'.cell? ⟨w303.heap.size, 0, none⟩ = some (.int .i64 (n0 : Int)) ∧ w'.cell? ⟨w303.heap.size, 1, none⟩ = some (.string s4) ∧ w'.cell? ⟨w303.heap.size, 2, none⟩ = some (.string r4) ∧ w'.cell? ⟨w304.heap.size, 0, none⟩ = some (.int .i64 (n0 : Int)) ∧ w'.cell? ⟨w304.heap.size, 1, none⟩ = some (.string s4) ∧ w'.cell? ⟨w304.heap.size, 2, none⟩ = some (.string r4)) (by kernel_rfl) (by kernel_rfl) (by kernel_rfl) (by kernel_rfl) (fun _ _ _ _ h => h) ?_ (fun Q1 hQ1 => ?_)
          · exact ⟨a0, a1, a2, b0, b1, b2, c0, c1, c2, d0, d1, d2, e0, e1, e2, f0, f1, f2, g0, g1, g2⟩
          try simp only [List.append]
          refine sched_take' (v := .agg #[.int .i64 (n0 : Int), .string s, .string r]) (a' := ?_) rfl (by kernel_rfl) ?_ rfl ?_ ?_
          rotate_left 1
          · intro w hSw
            (try dsimp only at hSw)
            go_simp
            first | done | (obtain ⟨ua0, ua1, ua2, ub0, ub1, ub2, uc0, uc1, uc2, ud0, ud1, ud2, ue0, ue1, ue2, uf0, uf1, uf2, ug0, ug1, ug2⟩ := hSw; simp [*])
          · (try simp only [Act.put, List.setIfInBounds_toArray, List.set_cons_zero, List.set_cons_succ])
            try rfl
          refine sched_take' (v := .agg #[.int .i64 (n0 : Int), .string s, .string r]) (a' := ?_) rfl (by kernel_rfl) ?_ rfl ?_ ?_
          rotate_left 1
          · intro w hSw
            (try dsimp only at hSw)
            go_simp
            first | done | (obtain ⟨ua0, ua1, ua2, ub0, ub1, ub2, uc0, uc1, uc2, ud0, ud1, ud2, ue0, ue1, ue2, uf0, uf1, uf2, ug0, ug1, ug2⟩ := hSw; simp [*])
          · (try simp only [Act.put, List.setIfInBounds_toArray, List.set_cons_zero, List.set_cons_succ])
            try rfl
          refine sched_take' (v := ?_) (a' := ?_) rfl (by kernel_rfl) ?_ rfl ?_ ?_
          rotate_left 2
          · intro w hSw
            (try dsimp only at hSw)
            go_simp
            try with_reducible rfl
          · (try simp only [Act.put, List.setIfInBounds_toArray, List.set_cons_zero, List.set_cons_succ])
            try rfl
          refine sched_take' (v := ?_) (a' := ?_) rfl (by kernel_rfl) ?_ rfl ?_ ?_
          rotate_left 2
          · intro w hSw
            (try dsimp only at hSw)
            go_simp
            try with_reducible rfl
          · (try simp only [Act.put, List.setIfInBounds_toArray, List.set_cons_zero, List.set_cons_succ])
            try rfl
          refine sched_take' (v := .agg #[.int .i64 (n0 : Int), .string s, .string r]) (a' := ?_) rfl (by kernel_rfl) ?_ rfl ?_ ?_
          rotate_left 1
          · intro w hSw
            (try dsimp only at hSw)
            go_simp
            first | done | (obtain ⟨ua0, ua1, ua2, ub0, ub1, ub2, uc0, uc1, uc2, ud0, ud1, ud2, ue0, ue1, ue2, uf0, uf1, uf2, ug0, ug1, ug2⟩ := hSw; simp [*])
          · (try simp only [Act.put, List.setIfInBounds_toArray, List.set_cons_zero, List.set_cons_succ])
            try rfl
          refine sched_take' (v := .agg #[.int .i64 (n0 : Int), .string s, .string r]) (a' := ?_) rfl (by kernel_rfl) ?_ rfl ?_ ?_
          rotate_left 1
          · intro w hSw
            (try dsimp only at hSw)
            go_simp
            first | done | (obtain ⟨ua0, ua1, ua2, ub0, ub1, ub2, uc0, uc1, uc2, ud0, ud1, ud2, ue0, ue1, ue2, uf0, uf1, uf2, ug0, ug1, ug2⟩ := hSw; simp [*])
          · (try simp only [Act.put, List.setIfInBounds_toArray, List.set_cons_zero, List.set_cons_succ])
            try rfl
          refine sched_take' (v := ?_) (a' := ?_) rfl (by kernel_rfl) ?_ rfl ?_ ?_
          rotate_left 2
          · intro w hSw
            (try dsimp only at hSw)
            go_simp
            try with_reducible rfl
          · (try simp only [Act.put, List.setIfInBounds_toArray, List.set_cons_zero, List.set_cons_succ])
            try rfl
          refine sched_take' (v := ?_) (a' := ?_) rfl (by kernel_rfl) ?_ rfl ?_ ?_
          rotate_left 2
          · intro w hSw
            (try dsimp only at hSw)
            go_simp
            try with_reducible rfl
          · (try simp only [Act.put, List.setIfInBounds_toArray, List.set_cons_zero, List.set_cons_succ])
            try rfl
          refine sched_take' (v := ?_) (a' := ?_) rfl (by kernel_rfl) ?_ rfl ?_ ?_
          rotate_left 2
          · intro w hSw
            (try dsimp only at hSw)
            go_simp
            try with_reducible rfl
          · (try simp only [Act.put, List.setIfInBounds_toArray, List.set_cons_zero, List.set_cons_succ])
            try rfl
          refine sched_take' (v := .agg #[.int .i64 (n0 : Int), .string s4, .string r4]) (a' := ?_) rfl (by kernel_rfl) ?_ rfl ?_ ?_
          rotate_left 1
          · intro w hSw
            (try dsimp only at hSw)
            go_simp
            first | done | (obtain ⟨ua0, ua1, ua2, ub0, ub1, ub2, uc0, uc1, uc2, ud0, ud1, ud2, ue0, ue1, ue2, uf0, uf1, uf2, ug0, ug1, ug2⟩ := hSw; simp [*])
          · (try simp only [Act.put, List.setIfInBounds_toArray, List.set_cons_zero, List.set_cons_succ])
            try rfl
          refine sched_take' (v := .agg #[.int .i64 (n0 : Int), .string s4, .string r4]) (a' := ?_) rfl (by kernel_rfl) ?_ rfl ?_ ?_
          rotate_left 1
          · intro w hSw
            (try dsimp only at hSw)
            go_simp
            first | done | (obtain ⟨ua0, ua1, ua2, ub0, ub1, ub2, uc0, uc1, uc2, ud0, ud1, ud2, ue0, ue1, ue2, uf0, uf1, uf2, ug0, ug1, ug2⟩ := hSw; simp [*])
          · (try simp only [Act.put, List.setIfInBounds_toArray, List.set_cons_zero, List.set_cons_succ])
            try rfl
          refine sched_take' (v := ?_) (a' := ?_) rfl (by kernel_rfl) ?_ rfl ?_ ?_
          rotate_left 2
          · intro w hSw
            (try dsimp only at hSw)
            go_simp
            try with_reducible rfl
          · (try simp only [Act.put, List.setIfInBounds_toArray, List.set_cons_zero, List.set_cons_succ])
            try rfl
          refine sched_take' (v := ?_) (a' := ?_) rfl (by kernel_rfl) ?_ rfl ?_ ?_
          rotate_left 2
          · intro w hSw
            (try dsimp only at hSw)
            go_simp
            try with_reducible rfl
          · (try simp only [Act.put, List.setIfInBounds_toArray, List.set_cons_zero, List.set_cons_succ])
            try rfl
          refine sched_take' (v := ?_) (a' := ?_) rfl (by kernel_rfl) ?_ rfl ?_ ?_
          rotate_left 2
          · intro w hSw
            (try dsimp only at hSw)
            go_simp
            try with_reducible rfl
          · (try simp only [Act.put, List.setIfInBounds_toArray, List.set_cons_zero, List.set_cons_succ])
            try rfl
          refine sched_take' (v := .agg #[.int .i64 (n0 : Int), .string s2, .string r2]) (a' := ?_) rfl (by kernel_rfl) ?_ rfl ?_ ?_
          rotate_left 1
          · intro w hSw
            (try dsimp only at hSw)
            go_simp
            first | done | (obtain ⟨ua0, ua1, ua2, ub0, ub1, ub2, uc0, uc1, uc2, ud0, ud1, ud2, ue0, ue1, ue2, uf0, uf1, uf2, ug0, ug1, ug2⟩ := hSw; simp [*])
          · (try simp only [Act.put, List.setIfInBounds_toArray, List.set_cons_zero, List.set_cons_succ])
            try rfl
          refine sched_take' (v := .agg #[.int .i64 (n0 : Int), .string s, .string r]) (a' := ?_) rfl (by kernel_rfl) ?_ rfl ?_ ?_
          rotate_left 1
          · intro w hSw
            (try dsimp only at hSw)
            go_simp
            first | done | (obtain ⟨ua0, ua1, ua2, ub0, ub1, ub2, uc0, uc1, uc2, ud0, ud1, ud2, ue0, ue1, ue2, uf0, uf1, uf2, ug0, ug1, ug2⟩ := hSw; simp [*])
          · (try simp only [Act.put, List.setIfInBounds_toArray, List.set_cons_zero, List.set_cons_succ])
            try rfl
          refine sched_call rfl (by kernel_rfl) (fun K1 hK1 => ?_)
          go_simp
          refine (N2.out _).mono ?_
          rintro e wg ⟨rfl, hz⟩
          have B401 := Lib.hid (B400.out.trans (hz.mono B400.out.size))
          have Xa401 := Lib.hid (Xa400.out.call hz)
          have Xb401 := Lib.hid (Xb400.out.call hz)
          have Xc401 := Lib.hid (Xc400.out.call hz)
          have Xd401 := Lib.hid (Xd400.out.call hz)
          have Xe401 := Lib.hid (Xe400.out.call hz)
          have Xf401 := Lib.hid (Xf400.out.call hz)
          have Xg401 := Lib.hid (Xg400.out.call hz)
          clear hz
          clear a0 a1 a2 b0 b1 b2 c0 c1 c2 d0 d1 d2 e0 e1 e2 f0 f1 f2 g0 g1 g2
          obtain ⟨a0, a1, a2⟩ := box_load Xa401.out
          obtain ⟨b0, b1, b2⟩ := box_load Xb401.out
          obtain ⟨c0, c1, c2⟩ := box_load Xc401.out
          obtain ⟨d0, d1, d2⟩ := box_load Xd401.out
          obtain ⟨e0, e1, e2⟩ := box_load Xe401.out
          obtain ⟨f0, f1, f2⟩ := box_load Xf401.out
          obtain ⟨g0, g1, g2⟩ := box_load Xg401.out
          go_wp2_with fail
          refine hK1.out _ _ ?_ (sched_lay (a' := ?_) ?_ ?_)
          · exact ⟨a0, a1, a2, b0, b1, b2, c0, c1, c2, d0, d1, d2, e0, e1, e2, f0, f1, f2, g0, g1, g2⟩
          rotate_left 1
          · (try simp only [Act.put, List.getElem_toArray, List.getElem_cons_succ, List.getElem_cons_zero, List.setIfInBounds_toArray, List.set_cons_zero, List.set_cons_succ])
            try rfl
          clear hK1 K1
          refine sched_call rfl (by kernel_rfl) (fun K1 hK1 => ?_)
          go_simp
          refine (N1.out _).mono ?_
          rintro e wh ⟨rfl, hz⟩
          have B402 := Lib.hid (B401.out.trans (hz.mono B401.out.size))
          have Xa402 := Lib.hid (Xa401.out.call hz)
          have Xb402 := Lib.hid (Xb401.out.call hz)
          have Xc402 := Lib.hid (Xc401.out.call hz)
          have Xd402 := Lib.hid (Xd401.out.call hz)
          have Xe402 := Lib.hid (Xe401.out.call hz)
          have Xf402 := Lib.hid (Xf401.out.call hz)
          have Xg402 := Lib.hid (Xg401.out.call hz)
          clear hz
          clear a0 a1 a2 b0 b1 b2 c0 c1 c2 d0 d1 d2 e0 e1 e2 f0 f1 f2 g0 g1 g2
          obtain ⟨a0, a1, a2⟩ := box_load Xa402.out
          obtain ⟨b0, b1, b2⟩ := box_load Xb402.out
          obtain ⟨c0, c1, c2⟩ := box_load Xc402.out
          obtain ⟨d0, d1, d2⟩ := box_load Xd402.out
          obtain ⟨e0, e1, e2⟩ := box_load Xe402.out
          obtain ⟨f0, f1, f2⟩ := box_load Xf402.out
          obtain ⟨g0, g1, g2⟩ := box_load Xg402.out
          go_wp2_with fail
          refine hK1.out _ _ ?_ (sched_lay (a' := ?_) ?_ ?_)
          · exact ⟨a0, a1, a2, b0, b1, b2, c0, c1, c2, d0, d1, d2, e0, e1, e2, f0, f1, f2, g0, g1, g2⟩
          rotate_left 1
          · (try simp only [Act.put, List.getElem_toArray, List.getElem_cons_succ, List.getElem_cons_zero, List.setIfInBounds_toArray, List.set_cons_zero, List.set_cons_succ])
            try rfl
          clear hK1 K1
          refine sched_take' (v := ?_) (a' := ?_) rfl (by kernel_rfl) ?_ rfl ?_ ?_
          rotate_left 2
          · intro w hSw
            (try dsimp only at hSw)
            go_simp
            try with_reducible rfl
          · (try simp only [Act.put, List.setIfInBounds_toArray, List.set_cons_zero, List.set_cons_succ])
            try rfl
          refine sched_take' (v := ?_) (a' := ?_) rfl (by kernel_rfl) ?_ rfl ?_ ?_
          rotate_left 2
          · intro w hSw
            (try dsimp only at hSw)
            go_simp
            try with_reducible rfl
          · (try simp only [Act.put, List.setIfInBounds_toArray, List.set_cons_zero, List.set_cons_succ])
            try rfl
          refine sched_take' (v := ?_) (a' := ?_) rfl (by kernel_rfl) ?_ rfl ?_ ?_
          rotate_left 2
          · intro w hSw
            (try dsimp only at hSw)
            go_simp
            try with_reducible rfl
          · (try simp only [Act.put, List.setIfInBounds_toArray, List.set_cons_zero, List.set_cons_succ])
            try rfl
          refine sched_take' (v := .agg #[.int .i64 (n0 : Int), .string s3, .string r3]) (a' := ?_) rfl (by kernel_rfl) ?_ rfl ?_ ?_
          rotate_left 1
          · intro w hSw
            (try dsimp only at hSw)
            go_simp
            first | done | (obtain ⟨ua0, ua1, ua2, ub0, ub1, ub2, uc0, uc1, uc2, ud0, ud1, ud2, ue0, ue1, ue2, uf0, uf1, uf2, ug0, ug1, ug2⟩ := hSw; simp [*])
          · (try simp only [Act.put, List.setIfInBounds_toArray, List.set_cons_zero, List.set_cons_succ])
            try rfl
          refine sched_take' (v := .agg #[.int .i64 (n0 : Int), .string s, .string r]) (a' := ?_) rfl (by kernel_rfl) ?_ rfl ?_ ?_
          rotate_left 1
          · intro w hSw
            (try dsimp only at hSw)
            go_simp
            first | done | (obtain ⟨ua0, ua1, ua2, ub0, ub1, ub2, uc0, uc1, uc2, ud0, ud1, ud2, ue0, ue1, ue2, uf0, uf1, uf2, ug0, ug1, ug2⟩ := hSw; simp [*])
          · (try simp only [Act.put, List.setIfInBounds_toArray, List.set_cons_zero, List.set_cons_succ])
            try rfl
          refine sched_call rfl (by kernel_rfl) (fun K1 hK1 => ?_)
          go_simp
          refine (N3.out _).mono ?_
          rintro e wi ⟨rfl, hz⟩
          have B403 := Lib.hid (B402.out.trans (hz.mono B402.out.size))
          have Xa403 := Lib.hid (Xa402.out.call hz)
          have Xb403 := Lib.hid (Xb402.out.call hz)
          have Xc403 := Lib.hid (Xc402.out.call hz)
          have Xd403 := Lib.hid (Xd402.out.call hz)
          have Xe403 := Lib.hid (Xe402.out.call hz)
          have Xf403 := Lib.hid (Xf402.out.call hz)
          have Xg403 := Lib.hid (Xg402.out.call hz)
          clear hz
          clear a0 a1 a2 b0 b1 b2 c0 c1 c2 d0 d1 d2 e0 e1 e2 f0 f1 f2 g0 g1 g2
          obtain ⟨a0, a1, a2⟩ := box_load Xa403.out
          obtain ⟨b0, b1, b2⟩ := box_load Xb403.out
          obtain ⟨c0, c1, c2⟩ := box_load Xc403.out
          obtain ⟨d0, d1, d2⟩ := box_load Xd403.out
          obtain ⟨e0, e1, e2⟩ := box_load Xe403.out
          obtain ⟨f0, f1, f2⟩ := box_load Xf403.out
          obtain ⟨g0, g1, g2⟩ := box_load Xg403.out
          go_wp2_with fail
          refine hK1.out _ _ ?_ (sched_lay (a' := ?_) ?_ ?_)
          · exact ⟨a0, a1, a2, b0, b1, b2, c0, c1, c2, d0, d1, d2, e0, e1, e2, f0, f1, f2, g0, g1, g2⟩
          rotate_left 1
          · (try simp only [Act.put, List.getElem_toArray, List.getElem_cons_succ, List.getElem_cons_zero, List.setIfInBounds_toArray, List.set_cons_zero, List.set_cons_succ])
            try rfl
          clear hK1 K1
          refine sched_call rfl (by kernel_rfl) (fun K1 hK1 => ?_)
          go_simp
          refine (N1.out _).mono ?_
          rintro e wj ⟨rfl, hz⟩
          have B404 := Lib.hid (B403.out.trans (hz.mono B403.out.size))
          have Xa404 := Lib.hid (Xa403.out.call hz)
          have Xb404 := Lib.hid (Xb403.out.call hz)
          have Xc404 := Lib.hid (Xc403.out.call hz)
          have Xd404 := Lib.hid (Xd403.out.call hz)
          have Xe404 := Lib.hid (Xe403.out.call hz)
          have Xf404 := Lib.hid (Xf403.out.call hz)
          have Xg404 := Lib.hid (Xg403.out.call hz)
          clear hz
          clear a0 a1 a2 b0 b1 b2 c0 c1 c2 d0 d1 d2 e0 e1 e2 f0 f1 f2 g0 g1 g2
          obtain ⟨a0, a1, a2⟩ := box_load Xa404.out
          obtain ⟨b0, b1, b2⟩ := box_load Xb404.out
          obtain ⟨c0, c1, c2⟩ := box_load Xc404.out
          obtain ⟨d0, d1, d2⟩ := box_load Xd404.out
          obtain ⟨e0, e1, e2⟩ := box_load Xe404.out
          obtain ⟨f0, f1, f2⟩ := box_load Xf404.out
          obtain ⟨g0, g1, g2⟩ := box_load Xg404.out
          go_wp2_with fail
          refine hK1.out _ _ ?_ (sched_lay (a' := ?_) ?_ ?_)
          · exact ⟨a0, a1, a2, b0, b1, b2, c0, c1, c2, d0, d1, d2, e0, e1, e2, f0, f1, f2, g0, g1, g2⟩
          rotate_left 1
          · (try simp only [Act.put, List.getElem_toArray, List.getElem_cons_succ, List.getElem_cons_zero, List.setIfInBounds_toArray, List.set_cons_zero, List.set_cons_succ])
            try rfl
          clear hK1 K1
          refine sched_take' (v := ?_) (a' := ?_) rfl (by kernel_rfl) ?_ rfl ?_ ?_
          rotate_left 2
          · intro w hSw
            (try dsimp only at hSw)
            go_simp
            try with_reducible rfl
          · (try simp only [Act.put, List.setIfInBounds_toArray, List.set_cons_zero, List.set_cons_succ])
            try rfl
          refine sched_take' (v := ?_) (a' := ?_) rfl (by kernel_rfl) ?_ rfl ?_ ?_
          rotate_left 2
          · intro w hSw
            (try dsimp only at hSw)
            go_simp
            try with_reducible rfl
          · (try simp only [Act.put, List.setIfInBounds_toArray, List.set_cons_zero, List.set_cons_succ])
            try rfl
          refine sched_take' (v := ?_) (a' := ?_) rfl (by kernel_rfl) ?_ rfl ?_ ?_
          rotate_left 2
          · intro w hSw
            (try dsimp only at hSw)
            go_simp
            try with_reducible rfl
          · (try simp only [Act.put, List.setIfInBounds_toArray, List.set_cons_zero, List.set_cons_succ])
            try rfl
          refine sched_done (hQ1.out _ _ ?_)
          go_wp2_with fail
          go_ret
          exact ⟨rfl, B404.out⟩

  · have hni : (1048576 : Int) < (n : Int) := by omega
    go_enter Tryd.func4, Tryd.ntmps4
    go_wp2_with fail
    go_ret
    exact ⟨rfl, Below.refl _ _⟩

end Go.Proofs.YtpaoffjicgmleaaDoor
