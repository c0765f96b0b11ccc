/-
  InSet and InRel, the program's and the reference's, and the laws' walks. Condition: texts below the reach.
-/
import Derived.Test.YtpaoffjicgmleaaDoorElems
namespace Go.Proofs.YtpaoffjicgmleaaDoor
open Go.RowKit
open Pl
set_option linter.unusedSimpArgs false
set_option linter.unusedVariables false

/-- the structure that is meant -/
def ofSt (i : Int) (s r : ByteArray) : St := ⟨i.toNat, s.data.toList, r.data.toList⟩
theorem ofSt_eq (a : St) : ofSt (a.n : Int) (bs a.set) (bs a.rel) = a := rfl

def inSetV (i : Int) (s r : ByteArray) (x : Int) : Bool := okB i s r && (elB i x && (ofSt i s r).inS x.toNat)
def inRelV (i : Int) (s r : ByteArray) (x y : Int) : Bool := okB i s r && (elB i x && (elB i y && (ofSt i s r).inR x.toNat y.toNat))

theorem el_cases (n : Nat) (x : Int) : elB n x = false ∨ ∃ k : Nat, x = k ∧ k < n ∧ elB n x = true := by
  cases h : elB n x with
  | false => exact .inl rfl
  | true =>
    right
    unfold elB at h
    simp only [Bool.and_eq_true, decide_eq_true_eq] at h
    exact ⟨x.toNat, by omega, by omega, rfl⟩

theorem el_in {n : Nat} {x : Int} (h : 1 ≤ n) : (decide (0 ≤ x) && decide (x ≤ (n : Int) - 1)) = elB n x := by
  unfold elB
  rw [show decide (x ≤ (n : Int) - 1) = decide (x < (n : Int)) from by rw [decide_eq_decide]; omega]

theorem st_bounds {a : St} (ha : a.ok) : (bs a.set).size ≤ maxLen ∧ (bs a.rel).size ≤ maxLen := by
  have h8 := ha.hi; have h1 := ha.sl; have h2 := ha.rl; have h3 := sq_le h8
  rw [bs_size, bs_size]
  unfold maxLen
  constructor <;> omega

set_option maxHeartbeats 1000000 in
theorem InSet_impl (i : Int) (s r : ByteArray) (x : Int) (w : World) (hs : s.size ≤ maxLen) (hr : r.size ≤ maxLen) :
    Calls Tryd.prog 13 #[stV i s r, .int .i64 x] w fun e w' => e = .returned (.bool (inSetV i s r x)) ∧ Below w.heap.size w w' := by
  have hc : ∀ x W, Calls Tryd.prog 52 #[stV i s r, .int .i64 x] W fun e w' => e = .returned (.bool (okB i s r && elB i x)) ∧ Below W.heap.size W w' := fun x W => hasElement_calls i s r x W hs hr
  rcases ok_cases i s r with hok | ⟨a, ha, rfl, rfl, rfl⟩
  · have hv : inSetV i s r x = false := by unfold inSetV; rw [hok]; rfl
    rw [hv]
    simp only [hok, Bool.false_and] at hc
    have Hc := Lib.hid (hc x)
    clear hc hs hr hok hv
    go_enter Tryd.func13, Tryd.ntmps13
    go_wp2_with fail
    refine (Hc.out _).mono ?_
    rintro e w' ⟨rfl, hx1⟩
    have HB := Lib.hid (box_next (box_refl w _) hx1)
    clear hx1
    go_wp2_with fail
    go_ret
    exact ⟨rfl, box_down HB.out⟩
  · have hok := okB_true ha
    simp only [hok, Bool.true_and] at hc
    rcases el_cases a.n x with hx | ⟨k, rfl, hk, hx⟩
    · have hv : inSetV a.n (bs a.set) (bs a.rel) x = false := by unfold inSetV; rw [hx, Bool.false_and, Bool.and_false]
      rw [hv]
      have Hc := Lib.hid (hc x)
      rw [hx] at Hc
      clear hc hs hr hok hv hx
      go_enter Tryd.func13, Tryd.ntmps13
      go_wp2_with fail
      refine (Hc.out _).mono ?_
      rintro e w' ⟨rfl, hx1⟩
      have HB := Lib.hid (box_next (box_refl w _) hx1)
      clear hx1
      go_wp2_with fail
      go_ret
      exact ⟨rfl, box_down HB.out⟩
    · have hv : inSetV a.n (bs a.set) (bs a.rel) k = a.inS k := by unfold inSetV; rw [hx, hok]; rfl
      rw [hv]
      have Hc := Lib.hid (hc k)
      rw [hx] at Hc
      have hi := inSet_calls a ha k hk
      have Hi := Lib.hid hi
      clear hc hs hr hok hv hx hi
      go_enter Tryd.func13, Tryd.ntmps13
      go_wp2_with fail
      refine (Hc.out _).mono ?_
      rintro e w' ⟨rfl, hx1⟩
      have HB := Lib.hid (box_next (box_refl w _) hx1)
      clear hx1
      obtain ⟨k0, k1, k2⟩ := box3 HB.out
      go_wp2_with fail
      refine (Hi.out _).mono ?_
      rintro e w2 ⟨rfl, hx2⟩
      have HB2 := Lib.hid (box_next HB.out hx2)
      clear hx2 k0 k1 k2
      go_wp2_with fail
      go_ret
      exact ⟨rfl, box_down HB2.out⟩

set_option maxHeartbeats 1000000 in
theorem InRel_impl (i : Int) (s r : ByteArray) (x y : Int) (w : World) (hs : s.size ≤ maxLen) (hr : r.size ≤ maxLen) :
    Calls Tryd.prog 14 #[stV i s r, .int .i64 x, .int .i64 y] w fun e w' => e = .returned (.bool (inRelV i s r x y)) ∧ Below w.heap.size w w' := by
  have hc : ∀ x W, Calls Tryd.prog 52 #[stV i s r, .int .i64 x] W fun e w' => e = .returned (.bool (okB i s r && elB i x)) ∧ Below W.heap.size W w' := fun x W => hasElement_calls i s r x W hs hr
  rcases ok_cases i s r with hok | ⟨a, ha, rfl, rfl, rfl⟩
  · have hv : inRelV i s r x y = false := by unfold inRelV; rw [hok]; rfl
    rw [hv]
    simp only [hok, Bool.false_and] at hc
    have Hc := Lib.hid (hc x)
    clear hc hs hr hok hv
    go_enter Tryd.func14, Tryd.ntmps14
    go_wp2_with fail
    refine (Hc.out _).mono ?_
    rintro e w' ⟨rfl, hx1⟩
    have HB := Lib.hid (box_next (box_refl w _) hx1)
    clear hx1
    go_wp2_with fail
    go_ret
    exact ⟨rfl, box_down HB.out⟩
  · have hok := okB_true ha
    simp only [hok, Bool.true_and] at hc
    rcases el_cases a.n x with hx | ⟨k, rfl, hk, hx⟩
    · have hv : inRelV a.n (bs a.set) (bs a.rel) x y = false := by unfold inRelV; rw [hx, Bool.false_and, Bool.and_false]
      rw [hv]
      have Hc := Lib.hid (hc x)
      rw [hx] at Hc
      clear hc hs hr hok hv hx
      go_enter Tryd.func14, Tryd.ntmps14
      go_wp2_with fail
      refine (Hc.out _).mono ?_
      rintro e w' ⟨rfl, hx1⟩
      have HB := Lib.hid (box_next (box_refl w _) hx1)
      clear hx1
      go_wp2_with fail
      go_ret
      exact ⟨rfl, box_down HB.out⟩
    · rcases el_cases a.n y with hy | ⟨l, rfl, hl, hy⟩
      · have hv : inRelV a.n (bs a.set) (bs a.rel) k y = false := by unfold inRelV; rw [hy, Bool.false_and, Bool.and_false, Bool.and_false]
        rw [hv]
        have Hc := Lib.hid (hc k)
        rw [hx] at Hc
        have Hd := Lib.hid (hc y)
        rw [hy] at Hd
        clear hc hs hr hok hv hx hy
        go_enter Tryd.func14, Tryd.ntmps14
        go_wp2_with fail
        refine (Hc.out _).mono ?_
        rintro e w' ⟨rfl, hx1⟩
        have HB := Lib.hid (box_next (box_refl w _) hx1)
        clear hx1
        obtain ⟨k0, k1, k2⟩ := box3 HB.out
        go_wp2_with fail
        refine (Hd.out _).mono ?_
        rintro e w2 ⟨rfl, hx2⟩
        have HB2 := Lib.hid (box_next HB.out hx2)
        clear hx2 k0 k1 k2
        go_wp2_with fail
        go_ret
        exact ⟨rfl, box_down HB2.out⟩
      · have hv : inRelV a.n (bs a.set) (bs a.rel) k l = a.inR k l := by unfold inRelV; rw [hx, hy, hok]; rfl
        rw [hv]
        have Hc := Lib.hid (hc k)
        rw [hx] at Hc
        have Hd := Lib.hid (hc l)
        rw [hy] at Hd
        have hi := inRel_calls a ha k l hk hl
        have Hi := Lib.hid hi
        clear hc hs hr hok hv hx hy hi
        go_enter Tryd.func14, Tryd.ntmps14
        go_wp2_with fail
        refine (Hc.out _).mono ?_
        rintro e w' ⟨rfl, hx1⟩
        have HB := Lib.hid (box_next (box_refl w _) hx1)
        clear hx1
        obtain ⟨k0, k1, k2⟩ := box3 HB.out
        go_wp2_with fail
        refine (Hd.out _).mono ?_
        rintro e w2 ⟨rfl, hx2⟩
        have HB2 := Lib.hid (box_next HB.out hx2)
        clear hx2 k0 k1 k2
        obtain ⟨k0, k1, k2⟩ := box3 HB2.out
        go_wp2_with fail
        refine (Hi.out _).mono ?_
        rintro e w3 ⟨rfl, hx3⟩
        have HB3 := Lib.hid (box_next HB2.out hx3)
        clear hx3 k0 k1 k2
        go_wp2_with fail
        go_ret
        exact ⟨rfl, box_down HB3.out⟩

end Go.Proofs.YtpaoffjicgmleaaDoor
