/-
  Walks of the reference's readers: what l15Find, l2Var, l2End and FormulaValid return. Condition: strings of a length below 2^62 in l2End.
-/
import Derived.Test.YtpaoffjicgmleaaDoorPlain
import Derived.Test.YtpaoffjicgmleaaDoorRows
import Derived.WalkKit
import Derived.WalkSpells
import Derived.Lib.Hide
namespace Go.Proofs.YtpaoffjicgmleaaDoor
open Go.RowKit
open Pl

theorem ret_int {k : IntKind} {a b : Int} (h : a = b) : Ending.returned (.int k a) = .returned (.int k b) := by rw [h]
theorem ret_bool {a b : Bool} (h : a = b) : Ending.returned (.bool a) = .returned (.bool b) := by rw [h]

theorem u8_eq {a : UInt8} {n : Nat} (h : ((a.toNat : Int) == (n : Int)) = true) (hn : n < 256) : a = UInt8.ofNat n := by
  have h1 : a.toNat = n := by have := beq_iff_eq.1 h; omega
  apply UInt8.toNat_inj.1
  rw [h1, UInt8.toNat_ofNat']
  omega

theorem u8_eqv {a c : UInt8} (h : ((a.toNat : Int) == (c.toNat : Int)) = true) : a = c := by
  apply UInt8.toNat_inj.1
  have := beq_iff_eq.1 h; omega

theorem u8_nev {a c : UInt8} (h : ((a.toNat : Int) == (c.toNat : Int)) = false) : a ≠ c := by
  rintro rfl
  simp at h

theorem u8_ne {a : UInt8} {n : Nat} (h : ((a.toNat : Int) == (n : Int)) = false) (hn : n < 256) : a ≠ UInt8.ofNat n := by
  rintro rfl
  have : (UInt8.ofNat n).toNat = n := by rw [UInt8.toNat_ofNat']; omega
  rw [this] at h
  simp at h

/-- the index of the first byte c, or -1 -/
def findB (c : UInt8) (l : List UInt8) : Int := match l.findIdx? (· == c) with | some k => (k : Int) | none => -1

theorem findB_at {c : UInt8} {l : List UInt8} {k : Nat} (h : l[k]? = some c) (hno : ∀ i, i < k → l[i]? ≠ some c) : findB c l = k := by
  unfold findB
  have : l.findIdx? (· == c) = some k := by
    rw [List.findIdx?_eq_some_iff_getElem]
    obtain ⟨hlt, he⟩ := List.getElem?_eq_some_iff.1 h
    refine ⟨hlt, by simp [he], fun j hj => ?_⟩
    have := hno j hj
    rw [List.getElem?_eq_getElem (by omega)] at this
    simpa using this
  rw [this]

theorem findB_no {c : UInt8} {l : List UInt8} (hno : ∀ i, i < l.length → l[i]? ≠ some c) : findB c l = -1 := by
  unfold findB
  have : l.findIdx? (· == c) = none := by
    rw [List.findIdx?_eq_none_iff]
    intro x hx
    obtain ⟨i, hi, rfl⟩ := List.getElem_of_mem hx
    have := hno i hi
    rw [List.getElem?_eq_getElem hi] at this
    simpa using this
  rw [this]

theorem findB_nonneg {c : UInt8} {l : List UInt8} : 0 ≤ findB c l ↔ c ∈ l := by
  unfold findB
  cases h : l.findIdx? (· == c) with
  | none =>
    rw [List.findIdx?_eq_none_iff] at h
    constructor
    · intro h2; simp at h2
    · intro hm; have := h c hm; simp at this
  | some k =>
    rw [List.findIdx?_eq_some_iff_getElem] at h
    obtain ⟨hlt, he, _⟩ := h
    constructor
    · intro _; have : l[k] = c := by simpa using he
      rw [← this]; exact List.getElem_mem hlt
    · intro _; simp

theorem findB_ge (c : UInt8) (l : List UInt8) : -1 ≤ findB c l := by unfold findB; split <;> omega

set_option maxHeartbeats 400000 in
theorem l15Find_calls (s : ByteArray) (c : UInt8) (w : World) (hs : s.size ≤ maxLen) :
    Calls Tryd.prog 67 #[.string s, .int .u8 c.toNat] w fun e w' => e = .returned (.int .i64 (findB c s.data.toList)) ∧ w = w' := by
  unfold maxLen at hs
  go_enter Tryd.func67, Tryd.ntmps67
  go_wp2
  go_loop [5] (fun i => ∃ k : Nat, k ≤ s.size ∧ i = .int .i64 k ∧ ∀ i, i < k → s.data.toList[i]? ≠ some c) (fun i => s.size - (intOf i).toNat)
  case atStart => exact ⟨0, Nat.zero_le _, rfl, fun i hi => absurd hi (Nat.not_lt_zero _)⟩
  case round =>
    obtain ⟨k, hk, rfl, hno⟩ := hrel
    have Hno := Lib.hid hno
    clear hno
    by_cases hlt : k < s.size
    · have hg : s.data.toList[k]? = some s[k] := by rw [List.getElem?_eq_getElem (by simpa using hlt)]; rfl
      have Hg := Lib.hid hg
      clear hg
      go_wp2
      · go_ret
        refine ⟨ret_int ?_, rfl⟩
        have he : s[k] = c := u8_eqv (by assumption)
        exact (findB_at (by rw [Hg.out, he]) Hno.out).symm
      · go_round
        case rel =>
          refine ⟨k + 1, by omega, by go_num, fun i hi => ?_⟩
          have he : s[k] ≠ c := u8_nev (by assumption)
          by_cases hik : i = k
          · subst hik; rw [Hg.out]; simpa using he
          · exact Hno.out i (by omega)
        case measure => simp [intOf]; omega
    · go_wp2
      go_ret
      refine ⟨ret_int (findB_no fun i hi => Hno.out i (by simp at hi; omega)).symm, rfl⟩

theorem findB_abcd (b : UInt8) : findB b [97, 98, 99, 100] = match varOf b with | some v => (v.val : Int) | none => -1 := by
  by_cases h0 : b = 97
  · subst h0; rfl
  by_cases h1 : b = 98
  · subst h1; rfl
  by_cases h2 : b = 99
  · subst h2; rfl
  by_cases h3 : b = 100
  · subst h3; rfl
  · simp only [varOf, h0, h1, h2, h3, if_false]
    refine findB_no fun i hi => ?_
    match i, hi with
    | 0, _ => simpa using fun e => h0 e.symm
    | 1, _ => simpa using fun e => h1 e.symm
    | 2, _ => simpa using fun e => h2 e.symm
    | 3, _ => simpa using fun e => h3 e.symm

theorem varI_at {s : ByteArray} {k : Nat} (h : k < s.size) : varI s.data.toList k = match varOf s[k] with | some v => (v.val : Int) | none => -1 := by
  unfold varI
  rw [List.getElem?_eq_getElem (by simpa using h)]
  rfl

theorem varI_out {s : ByteArray} {k : Nat} (h : s.size ≤ k) : varI s.data.toList k = -1 := by
  unfold varI
  rw [List.getElem?_eq_none (by simpa using h)]

theorem toNat_add (k j : Nat) : ((k : Int) + (j : Int)).toNat = k + j := by omega
theorem toNat_add1 (k : Nat) : ((k : Int) + 1).toNat = k + 1 := by omega
theorem toNat_add2 (k : Nat) : ((k : Int) + 2).toNat = k + 2 := by omega

theorem drop_at {s : ByteArray} {k : Nat} (h : k < s.size) : s.data.toList.drop k = s[k] :: s.data.toList.drop (k + 1) := by
  rw [List.drop_eq_getElem_cons (by simpa using h)]
  rfl

theorem ar_of {a : UInt8} {n : Int} {x : Nat × Nat} (h : ((a.toNat : Int) == n) = true) (hx : arity (UInt8.ofNat n.toNat) = some x) : arity a = some x := by
  have h1 : (a.toNat : Int) = n := beq_iff_eq.1 h
  subst h1
  simpa using hx

theorem arity_no {a : UInt8} (h : ∀ n ∈ [116, 102, 80, 61, 69, 33, 38, 124, 65, 83, 50, 51, (52 : Int)], ((a.toNat : Int) == n) = false) : arity a = none := by
  have g : ∀ n : Nat, n < 256 → ((a.toNat : Int) == (n : Int)) = false → a ≠ UInt8.ofNat n := fun n hn hh => u8_ne hh hn
  unfold arity
  rw [if_neg (show ¬ a = 116 from g 116 (by decide) (h 116 (by simp))), if_neg (show ¬ a = 102 from g 102 (by decide) (h 102 (by simp))), if_neg (show ¬ a = 80 from g 80 (by decide) (h 80 (by simp))), if_neg (show ¬ a = 61 from g 61 (by decide) (h 61 (by simp))), if_neg (show ¬ a = 69 from g 69 (by decide) (h 69 (by simp))), if_neg (show ¬ a = 33 from g 33 (by decide) (h 33 (by simp))), if_neg (show ¬ a = 38 from g 38 (by decide) (h 38 (by simp))), if_neg (show ¬ a = 124 from g 124 (by decide) (h 124 (by simp))), if_neg (show ¬ a = 65 from g 65 (by decide) (h 65 (by simp))), if_neg (show ¬ a = 83 from g 83 (by decide) (h 83 (by simp))), if_neg (show ¬ a = 50 from g 50 (by decide) (h 50 (by simp))), if_neg (show ¬ a = 51 from g 51 (by decide) (h 51 (by simp))), if_neg (show ¬ a = 52 from g 52 (by decide) (h 52 (by simp)))]

/-- where a formula ends, from an index that may be -1 -/
noncomputable def endZ (l : List UInt8) (m : Int) : Int := if m < 0 then -1 else endI l m.toNat

theorem endZ_pos {l : List UInt8} {m : Int} (h : 0 ≤ m) : endZ l m = endI l m.toNat := if_neg (by omega)
theorem endZ_neg {l : List UInt8} {m : Int} (h : m < 0) : endZ l m = -1 := if_pos h

theorem endI_twoZ {l : List UInt8} {k : Nat} {b : UInt8} {r : List UInt8} (h : l.drop k = b :: r) (ha : arity b = some (0, 2)) : endI l k = endZ l (endI l (k + 1)) := by
  by_cases h1 : endI l (k + 1) < 0
  · rw [endZ_neg h1, endI_two_no h ha h1]
  · obtain ⟨m, hm⟩ := Int.eq_ofNat_of_zero_le (show 0 ≤ endI l (k + 1) by omega)
    rw [endI_two h ha hm, hm, endZ_pos (by omega)]
    simp

theorem endI_gt {l : List UInt8} {k : Nat} : endI l k < 0 ∨ (k : Int) < endI l k := by
  rcases endI_cases l k with ⟨_, h⟩ | ⟨f, r, _, h⟩
  · left; omega
  · right; have := f.text_pos; omega

/-- is a text a formula, as a Bool -/
noncomputable def fmB (l : List UInt8) : Bool := decide (l.length ≤ 4000) && (endI l 0 == (l.length : Int))

theorem fmB_true {l : List UInt8} : fmB l = true ↔ IsFm l := by
  rw [isFm_iff]; simp [fmB]

theorem fmB_false {l : List UInt8} : fmB l = false ↔ ¬ IsFm l := by
  rw [← fmB_true]; simp

end Go.Proofs.YtpaoffjicgmleaaDoor
