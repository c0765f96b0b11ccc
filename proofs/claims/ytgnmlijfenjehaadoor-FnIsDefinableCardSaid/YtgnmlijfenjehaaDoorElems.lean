/-
  Elements of structures: in the set, related; InSet and InRel, the program's and the reference's. Condition: texts below the reach.
-/
import Derived.Test.YtgnmlijfenjehaaDoorStruct
namespace Go.Proofs.YtgnmlijfenjehaaDoor
open Go.RowKit
open Pl
set_option linter.unusedSimpArgs false
set_option linter.unusedVariables false

/-- a valid structure in Go -/
abbrev stA (a : St) : Value := stV (a.n : Int) (bs a.set) (bs a.rel)

theorem bitsL_iff (l : List UInt8) : bitsL l = true ↔ ∀ b ∈ l, IsBit b := by
  unfold bitsL IsBit
  rw [List.all_eq_true]
  simp only [Bool.or_eq_true, beq_iff_eq]

theorem okB_true {a : St} (h : a.ok) : okB (a.n : Int) (bs a.set) (bs a.rel) = true := by
  have h1 := h.lo; have h8 := h.hi
  unfold okB bitsB
  rw [decide_eq_true (show (1 : Int) ≤ a.n by omega), decide_eq_true (show (a.n : Int) ≤ 8 by omega), bs_data, bs_data, (bitsL_iff _).2 h.sb, (bitsL_iff _).2 h.rb, bs_size, bs_size, h.sl, h.rl]
  simp

theorem ok_cases (i : Int) (s r : ByteArray) : okB i s r = false ∨ ∃ a : St, a.ok ∧ i = a.n ∧ s = bs a.set ∧ r = bs a.rel := by
  cases hb : okB i s r with
  | false => exact .inl rfl
  | true =>
    right
    unfold okB bitsB at hb
    simp only [Bool.and_eq_true, decide_eq_true_eq] at hb
    obtain ⟨h1, h8, ⟨h2, h3⟩, h4, h5⟩ := hb
    have hn : i = (i.toNat : Int) := by omega
    refine ⟨⟨i.toNat, s.data.toList, r.data.toList⟩, ⟨by show 1 ≤ i.toNat; omega, by show i.toNat ≤ 8; omega, ?_, ?_, (bitsL_iff _).1 h3, (bitsL_iff _).1 h5⟩, hn, (bs_of s).symm, (bs_of r).symm⟩
    · show s.data.toList.length = i.toNat
      rw [← Lib.size_eq]; omega
    · show r.data.toList.length = i.toNat * i.toNat
      rw [← Lib.size_eq]
      rw [hn] at h4
      have : ((i.toNat * i.toNat : Nat) : Int) = (i.toNat : Int) * (i.toNat : Int) := by simp
      omega

theorem bs_get (l : List UInt8) (k : Nat) (h : k < l.length) : ∃ h2 : k < (bs l).size, (bs l)[k] = l[k] := ⟨by rw [bs_size]; exact h, rfl⟩

theorem bit_49 (b : Bool) : (((bitB b).toNat : Int) == 49) = b := by cases b <;> rfl

/-- what a walk asks of the set's byte -/
theorem set_byte {a : St} (h : a.ok) {x : Nat} (hx : x < a.n) : ∃ S : ByteArray, S = bs a.set ∧ ∃ h2 : x < S.size, ((S[x].toNat : Int) == 49) = a.inS x := by
  obtain ⟨hl, hg⟩ := inS_get h hx
  refine ⟨_, rfl, by rw [bs_size]; exact hl, ?_⟩
  show ((a.set[x].toNat : Int) == 49) = _
  rw [hg, bit_49]

theorem rel_byte {a : St} (h : a.ok) {x y : Nat} (hx : x < a.n) (hy : y < a.n) : ∃ (R : ByteArray) (m : Nat), R = bs a.rel ∧ IntKind.i64.wrap ((x : Int) * (a.n : Int)) = m ∧ m ≤ 64 ∧ R.size ≤ 64 ∧ ∃ h2 : m + y < R.size, ((R[m + y].toNat : Int) == 49) = a.inR x y := by
  obtain ⟨hl, hg⟩ := inR_get h hx hy
  have h8 := sq_le h.hi
  have hrl := h.rl
  refine ⟨_, x * a.n, rfl, ?_, by omega, by rw [bs_size]; omega, by rw [bs_size]; exact hl, ?_⟩
  · rw [show ((x : Int) * (a.n : Int)) = ((x * a.n : Nat) : Int) by simp]
    exact IntWalk.i64_in _ (by omega)
  · show ((a.rel[x * a.n + y].toNat : Int) == 49) = _
    rw [hg, bit_49]

theorem inSet_calls (a : St) (ha : a.ok) (x : Nat) (hx : x < a.n) (w : World) :
    Calls Tryd.prog 77 #[stA a, .int .i64 x] w fun e w' => e = .returned (.bool (a.inS x)) ∧ Below w.heap.size w w' := by
  obtain ⟨S, hS, hlt, hv⟩ := set_byte ha hx
  have hn := ha.hi
  unfold stA
  rw [← hS]
  generalize bs a.rel = R
  generalize a.n = n at hx hn
  have Hv := Lib.hid hv
  clear hS hv
  go_enter Tryd.func77, Tryd.ntmps77
  go_wp2_with fail
  go_ret
  exact ⟨by rw [← Hv.out]; rfl, (Below.refl _ _).alloc (Nat.le_refl _) _⟩

theorem l1Set_calls (a : St) (ha : a.ok) (x : Nat) (hx : x < a.n) (w : World) :
    Calls Tryd.prog 58 #[stA a, .int .i64 x] w fun e w' => e = .returned (.bool (a.inS x)) ∧ Below w.heap.size w w' := by
  obtain ⟨S, hS, hlt, hv⟩ := set_byte ha hx
  have hn := ha.hi
  unfold stA
  rw [← hS]
  generalize bs a.rel = R
  generalize a.n = n at hx hn
  have Hv := Lib.hid hv
  clear hS hv
  go_enter Tryd.func58, Tryd.ntmps58
  go_wp2_with fail
  go_ret
  exact ⟨by rw [← Hv.out]; rfl, (Below.refl _ _).alloc (Nat.le_refl _) _⟩

set_option maxHeartbeats 400000 in
theorem inRel_calls (a : St) (ha : a.ok) (x y : Nat) (hx : x < a.n) (hy : y < a.n) (w : World) :
    Calls Tryd.prog 79 #[stA a, .int .i64 x, .int .i64 y] w fun e w' => e = .returned (.bool (a.inR x y)) ∧ Below w.heap.size w w' := by
  obtain ⟨R, m, hR, hm, hm64, hR64, hlt, hv⟩ := rel_byte ha hx hy
  have hn := ha.hi
  unfold stA
  rw [← hR]
  generalize bs a.set = S
  generalize a.inR x y = V at hv
  generalize a.n = n at hx hy hn hm
  have Hv := Lib.hid hv
  have e1 : (m : Int) + (y : Int) < (R.size : Int) := by omega
  have e2 : ((m : Int) + (y : Int)).toNat = m + y := by omega
  have e3 : IntKind.i64.wrap ((m : Int) + (y : Int)) = (m : Int) + (y : Int) := IntWalk.i64_in _ (by omega)
  clear hR hv
  go_enter Tryd.func79, Tryd.ntmps79
  go_wp2_with fail
  go_ret
  exact ⟨by rw [← Hv.out]; rfl, (Below.refl _ _).alloc (Nat.le_refl _) _⟩

set_option maxHeartbeats 400000 in
theorem l1Rel_calls (a : St) (ha : a.ok) (x y : Nat) (hx : x < a.n) (hy : y < a.n) (w : World) :
    Calls Tryd.prog 59 #[stA a, .int .i64 x, .int .i64 y] w fun e w' => e = .returned (.bool (a.inR x y)) ∧ Below w.heap.size w w' := by
  obtain ⟨R, m, hR, hm, hm64, hR64, hlt, hv⟩ := rel_byte ha hx hy
  have hn := ha.hi
  unfold stA
  rw [← hR]
  generalize bs a.set = S
  generalize a.inR x y = V at hv
  generalize a.n = n at hx hy hn hm
  have Hv := Lib.hid hv
  have e1 : (m : Int) + (y : Int) < (R.size : Int) := by omega
  have e2 : ((m : Int) + (y : Int)).toNat = m + y := by omega
  have e3 : IntKind.i64.wrap ((m : Int) + (y : Int)) = (m : Int) + (y : Int) := IntWalk.i64_in _ (by omega)
  clear hR hv
  go_enter Tryd.func59, Tryd.ntmps59
  go_wp2_with fail
  go_ret
  exact ⟨by rw [← Hv.out]; rfl, (Below.refl _ _).alloc (Nat.le_refl _) _⟩

/-- a number is an element -/
def elB (i x : Int) : Bool := decide (0 ≤ x) && decide (x < i)

set_option maxHeartbeats 1000000 in
theorem hasElement_calls (i : Int) (s r : ByteArray) (x : Int) (w : World) (hs : s.size ≤ maxLen) (hr : r.size ≤ maxLen) :
    Calls Tryd.prog 42 #[stV i s r, .int .i64 x] w fun e w' => e = .returned (.bool (okB i s r && elB i x)) ∧ Below w.heap.size w w' := by
  have hc : ∀ W, Calls Tryd.prog 31 #[stV i s r] W fun e w' => e = .returned (.bool (okB i s r)) ∧ Below W.heap.size W w' := fun W => isStructure_calls i s r W hs hr
  cases hok : okB i s r with
  | false =>
    rw [hok] at hc
    have Hc := Lib.hid hc
    clear hc hs hr hok
    go_enter Tryd.func42, Tryd.ntmps42
    go_wp2_with (go_at_call 31; (with_reducible refine (Hc.out _).mono ?_); rintro e w' ⟨rfl, hx1⟩)
    go_ret
    exact ⟨rfl, box_down (box_next (box_refl w _) hx1)⟩
  | true =>
    rw [hok] at hc
    have Hc := Lib.hid hc
    rw [Bool.true_and]
    clear hc hs hr hok
    unfold elB
    by_cases h0 : 0 ≤ x
    · have d0 : decide (0 ≤ x) = true := decide_eq_true h0
      cases d1 : decide (x < i)
      all_goals
        rw [d0]
        go_enter Tryd.func42, Tryd.ntmps42
        go_wp2_with fail
        refine (Hc.out _).mono ?_
        rintro e w' ⟨rfl, hx1⟩
        have HB := Lib.hid (box_next (box_refl w _) hx1)
        clear hx1
        obtain ⟨k0, k1, k2⟩ := box3 HB.out
        go_wp2_with fail
        go_ret
        exact ⟨rfl, box_down HB.out⟩
    · have d0 : decide (0 ≤ x) = false := decide_eq_false h0
      rw [d0]
      go_enter Tryd.func42, Tryd.ntmps42
      go_wp2_with fail
      refine (Hc.out _).mono ?_
      rintro e w' ⟨rfl, hx1⟩
      have HB := Lib.hid (box_next (box_refl w _) hx1)
      clear hx1
      obtain ⟨k0, k1, k2⟩ := box3 HB.out
      go_wp2_with fail
      go_ret
      exact ⟨rfl, box_down HB.out⟩

end Go.Proofs.YtgnmlijfenjehaaDoor
