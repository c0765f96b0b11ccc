/-
  Laws of the functions that the claim reaches, one after the other (packed by a program of the prover's: SpecA, ImplA, ParseA, RankA, Syn, Perms, Sem). Conditions: texts below the reach.
-/
import Derived.Test.YtpaleogkgfclnaaGreatDoorPg1
import Derived.Test.YtpaleogkgfclnaaGreatDoorRows
import Derived.WalkKit
import Derived.WalkSpells
import Derived.Lib.Hide
import Derived.Lib.Bytealg
import Derived.Lib.IndexBytes
import Derived.Deep.RegionHeld
import Derived.Test.YtpaleogkgfclnaaGreatDoorPg0
set_option linter.unusedSimpArgs false
set_option linter.unusedVariables false

namespace Go.Proofs.YtpaleogkgfclnaaGreatDoor
open Go.RowKit
open Pl

theorem ret_int {k : IntKind} {a b : Int} (h : a = b) : Ending.returned (.int k a) = .returned (.int k b) := by rw [h]
theorem ret_bool {a b : Bool} (h : a = b) : Ending.returned (.bool a) = .returned (.bool b) := by rw [h]

theorem u8_eq {a : UInt8} {n : Nat} (h : ((a.toNat : Int) == (n : Int)) = true) (hn : n < 256) : a = UInt8.ofNat n := by
  have h1 : a.toNat = n := by have := beq_iff_eq.1 h; omega
  apply UInt8.toNat_inj.1
  rw [h1, UInt8.toNat_ofNat']
  omega

theorem u8_eqv {a c : UInt8} (h : ((a.toNat : Int) == (c.toNat : Int)) = true) : a = c := by
  apply UInt8.toNat_inj.1
  have := beq_iff_eq.1 h; omega

theorem u8_nev {a c : UInt8} (h : ((a.toNat : Int) == (c.toNat : Int)) = false) : a ≠ c := by
  rintro rfl
  simp at h

theorem u8_ne {a : UInt8} {n : Nat} (h : ((a.toNat : Int) == (n : Int)) = false) (hn : n < 256) : a ≠ UInt8.ofNat n := by
  rintro rfl
  have : (UInt8.ofNat n).toNat = n := by rw [UInt8.toNat_ofNat']; omega
  rw [this] at h
  simp at h

/-- the index of the first byte c, or -1 -/
def findB (c : UInt8) (l : List UInt8) : Int := match l.findIdx? (· == c) with | some k => (k : Int) | none => -1

theorem findB_at {c : UInt8} {l : List UInt8} {k : Nat} (h : l[k]? = some c) (hno : ∀ i, i < k → l[i]? ≠ some c) : findB c l = k := by
  unfold findB
  have : l.findIdx? (· == c) = some k := by
    rw [List.findIdx?_eq_some_iff_getElem]
    obtain ⟨hlt, he⟩ := List.getElem?_eq_some_iff.1 h
    refine ⟨hlt, by simp [he], fun j hj => ?_⟩
    have := hno j hj
    rw [List.getElem?_eq_getElem (by omega)] at this
    simpa using this
  rw [this]

theorem findB_no {c : UInt8} {l : List UInt8} (hno : ∀ i, i < l.length → l[i]? ≠ some c) : findB c l = -1 := by
  unfold findB
  have : l.findIdx? (· == c) = none := by
    rw [List.findIdx?_eq_none_iff]
    intro x hx
    obtain ⟨i, hi, rfl⟩ := List.getElem_of_mem hx
    have := hno i hi
    rw [List.getElem?_eq_getElem hi] at this
    simpa using this
  rw [this]

theorem findB_nonneg {c : UInt8} {l : List UInt8} : 0 ≤ findB c l ↔ c ∈ l := by
  unfold findB
  cases h : l.findIdx? (· == c) with
  | none =>
    rw [List.findIdx?_eq_none_iff] at h
    constructor
    · intro h2; simp at h2
    · intro hm; have := h c hm; simp at this
  | some k =>
    rw [List.findIdx?_eq_some_iff_getElem] at h
    obtain ⟨hlt, he, _⟩ := h
    constructor
    · intro _; have : l[k] = c := by simpa using he
      rw [← this]; exact List.getElem_mem hlt
    · intro _; simp

theorem findB_ge (c : UInt8) (l : List UInt8) : -1 ≤ findB c l := by unfold findB; split <;> omega

set_option maxHeartbeats 400000 in
theorem l15Find_calls (s : ByteArray) (c : UInt8) (w : World) (hs : s.size ≤ maxLen) :
    Calls Tryz.prog 82 #[.string s, .int .u8 c.toNat] w fun e w' => e = .returned (.int .i64 (findB c s.data.toList)) ∧ w = w' := by
  unfold maxLen at hs
  go_enter Tryz.func82, Tryz.ntmps82
  go_wp2
  go_loop [5] (fun i => ∃ k : Nat, k ≤ s.size ∧ i = .int .i64 k ∧ ∀ i, i < k → s.data.toList[i]? ≠ some c) (fun i => s.size - (intOf i).toNat)
  case atStart => exact ⟨0, Nat.zero_le _, rfl, fun i hi => absurd hi (Nat.not_lt_zero _)⟩
  case round =>
    obtain ⟨k, hk, rfl, hno⟩ := hrel
    have Hno := Lib.hid hno
    clear hno
    by_cases hlt : k < s.size
    · have hg : s.data.toList[k]? = some s[k] := by rw [List.getElem?_eq_getElem (by simpa using hlt)]; rfl
      have Hg := Lib.hid hg
      clear hg
      go_wp2
      · go_ret
        refine ⟨ret_int ?_, rfl⟩
        have he : s[k] = c := u8_eqv (by assumption)
        exact (findB_at (by rw [Hg.out, he]) Hno.out).symm
      · go_round
        case rel =>
          refine ⟨k + 1, by omega, by go_num, fun i hi => ?_⟩
          have he : s[k] ≠ c := u8_nev (by assumption)
          by_cases hik : i = k
          · subst hik; rw [Hg.out]; simpa using he
          · exact Hno.out i (by omega)
        case measure => simp [intOf]; omega
    · go_wp2
      go_ret
      refine ⟨ret_int (findB_no fun i hi => Hno.out i (by simp at hi; omega)).symm, rfl⟩

theorem findB_abcd (b : UInt8) : findB b [97, 98, 99, 100] = match varOf b with | some v => (v.val : Int) | none => -1 := by
  by_cases h0 : b = 97
  · subst h0; rfl
  by_cases h1 : b = 98
  · subst h1; rfl
  by_cases h2 : b = 99
  · subst h2; rfl
  by_cases h3 : b = 100
  · subst h3; rfl
  · simp only [varOf, h0, h1, h2, h3, if_false]
    refine findB_no fun i hi => ?_
    match i, hi with
    | 0, _ => simpa using fun e => h0 e.symm
    | 1, _ => simpa using fun e => h1 e.symm
    | 2, _ => simpa using fun e => h2 e.symm
    | 3, _ => simpa using fun e => h3 e.symm

theorem varI_at {s : ByteArray} {k : Nat} (h : k < s.size) : varI s.data.toList k = match varOf s[k] with | some v => (v.val : Int) | none => -1 := by
  unfold varI
  rw [List.getElem?_eq_getElem (by simpa using h)]
  rfl

theorem varI_out {s : ByteArray} {k : Nat} (h : s.size ≤ k) : varI s.data.toList k = -1 := by
  unfold varI
  rw [List.getElem?_eq_none (by simpa using h)]

theorem toNat_add (k j : Nat) : ((k : Int) + (j : Int)).toNat = k + j := by omega
theorem toNat_add1 (k : Nat) : ((k : Int) + 1).toNat = k + 1 := by omega
theorem toNat_add2 (k : Nat) : ((k : Int) + 2).toNat = k + 2 := by omega

theorem drop_at {s : ByteArray} {k : Nat} (h : k < s.size) : s.data.toList.drop k = s[k] :: s.data.toList.drop (k + 1) := by
  rw [List.drop_eq_getElem_cons (by simpa using h)]
  rfl

theorem ar_of {a : UInt8} {n : Int} {x : Nat × Nat} (h : ((a.toNat : Int) == n) = true) (hx : arity (UInt8.ofNat n.toNat) = some x) : arity a = some x := by
  have h1 : (a.toNat : Int) = n := beq_iff_eq.1 h
  subst h1
  simpa using hx

theorem arity_no {a : UInt8} (h : ∀ n ∈ [116, 102, 80, 61, 69, 33, 38, 124, 65, 83, 50, 51, (52 : Int)], ((a.toNat : Int) == n) = false) : arity a = none := by
  have g : ∀ n : Nat, n < 256 → ((a.toNat : Int) == (n : Int)) = false → a ≠ UInt8.ofNat n := fun n hn hh => u8_ne hh hn
  unfold arity
  rw [if_neg (show ¬ a = 116 from g 116 (by decide) (h 116 (by simp))), if_neg (show ¬ a = 102 from g 102 (by decide) (h 102 (by simp))), if_neg (show ¬ a = 80 from g 80 (by decide) (h 80 (by simp))), if_neg (show ¬ a = 61 from g 61 (by decide) (h 61 (by simp))), if_neg (show ¬ a = 69 from g 69 (by decide) (h 69 (by simp))), if_neg (show ¬ a = 33 from g 33 (by decide) (h 33 (by simp))), if_neg (show ¬ a = 38 from g 38 (by decide) (h 38 (by simp))), if_neg (show ¬ a = 124 from g 124 (by decide) (h 124 (by simp))), if_neg (show ¬ a = 65 from g 65 (by decide) (h 65 (by simp))), if_neg (show ¬ a = 83 from g 83 (by decide) (h 83 (by simp))), if_neg (show ¬ a = 50 from g 50 (by decide) (h 50 (by simp))), if_neg (show ¬ a = 51 from g 51 (by decide) (h 51 (by simp))), if_neg (show ¬ a = 52 from g 52 (by decide) (h 52 (by simp)))]

/-- where a formula ends, from an index that may be -1 -/
noncomputable def endZ (l : List UInt8) (m : Int) : Int := if m < 0 then -1 else endI l m.toNat

theorem endZ_pos {l : List UInt8} {m : Int} (h : 0 ≤ m) : endZ l m = endI l m.toNat := if_neg (by omega)
theorem endZ_neg {l : List UInt8} {m : Int} (h : m < 0) : endZ l m = -1 := if_pos h

theorem endI_twoZ {l : List UInt8} {k : Nat} {b : UInt8} {r : List UInt8} (h : l.drop k = b :: r) (ha : arity b = some (0, 2)) : endI l k = endZ l (endI l (k + 1)) := by
  by_cases h1 : endI l (k + 1) < 0
  · rw [endZ_neg h1, endI_two_no h ha h1]
  · obtain ⟨m, hm⟩ := Int.eq_ofNat_of_zero_le (show 0 ≤ endI l (k + 1) by omega)
    rw [endI_two h ha hm, hm, endZ_pos (by omega)]
    simp

theorem endI_gt {l : List UInt8} {k : Nat} : endI l k < 0 ∨ (k : Int) < endI l k := by
  rcases endI_cases l k with ⟨_, h⟩ | ⟨f, r, _, h⟩
  · left; omega
  · right; have := f.text_pos; omega

/-- is a text a formula, as a Bool -/
noncomputable def fmB (l : List UInt8) : Bool := decide (l.length ≤ 4000) && (endI l 0 == (l.length : Int))

theorem fmB_true {l : List UInt8} : fmB l = true ↔ IsFm l := by
  rw [isFm_iff]; simp [fmB]

theorem fmB_false {l : List UInt8} : fmB l = false ↔ ¬ IsFm l := by
  rw [← fmB_true]; simp

end Go.Proofs.YtpaleogkgfclnaaGreatDoor

namespace Go.Proofs.YtpaleogkgfclnaaGreatDoor
open Go.RowKit
open Pl
set_option maxRecDepth 100000

theorem slIndexByte_calls (s : ByteArray) (c : Int) (w : World) :
    Calls Tryz.prog 102 #[.string s, .int .u8 c] w fun e w' => e = .returned (.int .i64 (Lib.indexByte s.data.toList c.toNat.toUInt8)) ∧ w = w' := by
  go_enter Tryz.func102, Tryz.ntmps102
  go_wp2
  rw [run_callFunc_extern Tryz.func109 (by kernel_rfl) (by kernel_rfl) (by kernel_rfl) (by kernel_rfl), Lib.run_indexByteString]
  simp only [Result.andThen]
  rw [Oper.upon_value]
  go_wp2
  go_ret
  exact ⟨rfl, rfl⟩

theorem IndexByte_calls (s : ByteArray) (c : UInt8) (w : World) :
    Calls Tryz.prog 85 #[.string s, .int .u8 c.toNat] w fun e w' => e = .returned (.int .i64 (Lib.indexByte s.data.toList c)) ∧ w = w' := by
  go_enter Tryz.func85, Tryz.ntmps85
  go_wp2_with (go_at_call 102; refine (slIndexByte_calls _ _ _).mono ?_; rintro e w' ⟨rfl, rfl⟩)
  go_ret
  exact ⟨ret_int (by simp), rfl⟩

theorem slIndex_one (s t : ByteArray) (b : UInt8) (ht : t.data.toList = [b]) (w : World) :
    Calls Tryz.prog 108 #[.string s, .string t] w fun e w' => e = .returned (.int .i64 (Lib.indexByte s.data.toList b)) ∧ w = w' := by
  have hsz : t.size = 1 := by have := congrArg List.length ht; simpa using this
  have hb : ∀ h : 0 < t.size, t[0] = b := fun h => by
    have h1 : t.data.toList[0]? = some b := by rw [ht]; rfl
    rw [List.getElem?_eq_getElem (by simpa using h)] at h1
    injection h1
  have Hb := Lib.hid hb
  have Ht := Lib.hid ht
  clear hb ht
  go_enter Tryz.func108, Tryz.ntmps108
  go_wp2_with (go_at_call 102; refine (slIndexByte_calls _ _ _).mono ?_; rintro e w' ⟨rfl, rfl⟩)
  · go_ret
    refine ⟨ret_int ?_, rfl⟩
    have he : (t.toList == s.toList) = true := by assumption
    have he2 : t.toList = s.toList := eq_of_beq he
    rw [ByteArray.toList_eq, ByteArray.toList_eq, Ht.out] at he2
    rw [← he2]
    simp [Lib.indexByte]
  · go_ret
    exact ⟨ret_int (by rw [Hb.out (by omega)]), rfl⟩

theorem Contains_one (s t : ByteArray) (b : UInt8) (ht : t.data.toList = [b]) (w : World) :
    Calls Tryz.prog 84 #[.string s, .string t] w fun e w' => e = .returned (.bool (decide (0 ≤ Lib.indexByte s.data.toList b))) ∧ w = w' := by
  have Ht := Lib.hid ht
  clear ht
  have h36 : ∀ w, Calls Tryz.prog 101 #[.string s, .string t] w fun e w' => e = .returned (.int .i64 (Lib.indexByte s.data.toList b)) ∧ w = w' := fun w => by
    go_enter Tryz.func101, Tryz.ntmps101
    go_wp2_with (go_at_call 108; refine (slIndex_one _ _ b Ht.out _).mono ?_; rintro e w' ⟨rfl, rfl⟩)
    go_ret
    exact ⟨rfl, rfl⟩
  have H36 := Lib.hid h36
  clear h36
  go_enter Tryz.func84, Tryz.ntmps84
  go_wp2_with (go_at_call 101; refine (H36.out _).mono ?_; rintro e w' ⟨rfl, rfl⟩)
  go_ret
  exact ⟨rfl, rfl⟩

/-! ### the tree in memory -/

/-- the variables that are free, as bits -/
def Pl.Fm.freeBits : Fm → Nat
  | .tru => 0 | .fls => 0 | .pr v => 1 <<< v.val | .eq v w => 1 <<< v.val ||| 1 <<< w.val | .rel v w => 1 <<< v.val ||| 1 <<< w.val
  | .neg p => p.freeBits | .con p q => p.freeBits ||| q.freeBits | .dis p q => p.freeBits ||| q.freeBits
  | .qu _ v p => p.freeBits &&& (15 ^^^ 1 <<< v.val)

/-- all variables, as bits -/
def Pl.Fm.allBits : Fm → Nat
  | .tru => 0 | .fls => 0 | .pr v => 1 <<< v.val | .eq v w => 1 <<< v.val ||| 1 <<< w.val | .rel v w => 1 <<< v.val ||| 1 <<< w.val
  | .neg p => p.allBits | .con p q => p.allBits ||| q.allBits | .dis p q => p.allBits ||| q.allBits
  | .qu _ v p => 1 <<< v.val ||| p.allBits

abbrev kidV (k : Nat) : Value := .pointer (some ⟨k, 0, none⟩)
def byteV (b : UInt8) : Value := .int .u8 b.toNat

/-- block b holds a node with this operator, these variables, these masks and these children; all blocks that it owns are in S -/
def NodeIn (S : Nat → Prop) (w : World) (op : UInt8) (vars : List (Fin 4)) (free all : Nat) (b : Nat) (ks : List Nat) : Prop :=
  S b ∧ ∃ vs ps, w.heap[b]? = some (.cells #[.int .u8 op.toNat, vs, ps, .int .i64 free, .int .i64 all] 64 (0, 0)) ∧
    w.ownsRow 0 5 1 vs vars.length (vars.map fun v => byteV (vb v)) ∧ (∀ k, vs.ownBlock = some k → S k) ∧
    w.ownsRow 0 60 1 ps ks.length (ks.map kidV) ∧ (∀ k, ps.ownBlock = some k → S k)

def FmNode (S : Nat → Prop) (w : World) (f : Fm) (b : Nat) (ks : List Nat) : Prop := NodeIn S w f.op f.vars f.freeBits f.allBits b ks

/-- block b holds the tree of a formula, whose blocks are all in S -/
def TreeIn (S : Nat → Prop) (w : World) : Fm → Nat → Prop
  | .neg p, b => ∃ k, FmNode S w (.neg p) b [k] ∧ TreeIn S w p k
  | .qu q v p, b => ∃ k, FmNode S w (.qu q v p) b [k] ∧ TreeIn S w p k
  | .con p q, b => ∃ k l, FmNode S w (.con p q) b [k, l] ∧ TreeIn S w p k ∧ TreeIn S w q l
  | .dis p q, b => ∃ k l, FmNode S w (.dis p q) b [k, l] ∧ TreeIn S w p k ∧ TreeIn S w q l
  | .tru, b => FmNode S w .tru b []
  | .fls, b => FmNode S w .fls b []
  | .pr v, b => FmNode S w (.pr v) b []
  | .eq v u, b => FmNode S w (.eq v u) b []
  | .rel v u, b => FmNode S w (.rel v u) b []

/-- the trees of a list of formulas -/
def TreesIn (S : Nat → Prop) (w : World) (ps : List Fm) (ks : List Nat) : Prop := ks.length = ps.length ∧ ∀ (i : Nat) (p : Fm) (k : Nat), ps[i]? = some p → ks[i]? = some k → TreeIn S w p k

theorem treesIn_nil (S : Nat → Prop) (w : World) : TreesIn S w [] [] := ⟨rfl, fun i p k h => by simp at h⟩
theorem treesIn_one {S : Nat → Prop} {w : World} {p : Fm} {k : Nat} (h : TreeIn S w p k) : TreesIn S w [p] [k] := ⟨rfl, fun i p' k' h1 h2 => by
  match i, h1, h2 with
  | 0, h1, h2 => simp at h1 h2; subst h1 h2; exact h⟩
theorem treesIn_two {S : Nat → Prop} {w : World} {p q : Fm} {k l : Nat} (h : TreeIn S w p k) (h' : TreeIn S w q l) : TreesIn S w [p, q] [k, l] := ⟨rfl, fun i p' k' h1 h2 => by
  match i, h1, h2 with
  | 0, h1, h2 => simp at h1 h2; subst h1 h2; exact h
  | 1, h1, h2 => simp at h1 h2; subst h1 h2; exact h'⟩
theorem treesIn_snoc {S : Nat → Prop} {w : World} {ps : List Fm} {ks : List Nat} {p : Fm} {k : Nat} (hs : TreesIn S w ps ks) (h : TreeIn S w p k) : TreesIn S w (ps ++ [p]) (ks ++ [k]) :=
  ⟨by simp [hs.1], fun i p' k' h1 h2 => by
    by_cases hi : i < ps.length
    · rw [List.getElem?_append_left hi] at h1
      rw [List.getElem?_append_left (by rw [hs.1]; exact hi)] at h2
      exact hs.2 i p' k' h1 h2
    · rw [List.getElem?_append_right (by omega)] at h1
      rw [List.getElem?_append_right (by rw [hs.1]; omega), hs.1] at h2
      match i - ps.length, h1, h2 with
      | 0, h1, h2 => simp at h1 h2; subst h1 h2; exact h
      | j + 1, h1, h2 => simp at h1⟩

theorem TreeIn.open {S : Nat → Prop} {w : World} {f : Fm} {b : Nat} (h : TreeIn S w f b) : ∃ ks, FmNode S w f b ks ∧ TreesIn S w f.parts ks := by
  cases f with
  | tru => exact ⟨[], h, treesIn_nil _ _⟩
  | fls => exact ⟨[], h, treesIn_nil _ _⟩
  | pr v => exact ⟨[], h, treesIn_nil _ _⟩
  | eq v u => exact ⟨[], h, treesIn_nil _ _⟩
  | rel v u => exact ⟨[], h, treesIn_nil _ _⟩
  | neg p => obtain ⟨k, h1, h2⟩ := h; exact ⟨_, h1, treesIn_one h2⟩
  | qu q v p => obtain ⟨k, h1, h2⟩ := h; exact ⟨_, h1, treesIn_one h2⟩
  | con p q => obtain ⟨k, l, h1, h2, h3⟩ := h; exact ⟨_, h1, treesIn_two h2 h3⟩
  | dis p q => obtain ⟨k, l, h1, h2, h3⟩ := h; exact ⟨_, h1, treesIn_two h2 h3⟩

theorem TreeIn.shut {S : Nat → Prop} {w : World} {f : Fm} {b : Nat} {ks : List Nat} (h : FmNode S w f b ks) (ht : TreesIn S w f.parts ks) : TreeIn S w f b := by
  obtain ⟨hl, ht⟩ := ht
  cases f with
  | tru => match ks, hl with | [], _ => exact h
  | fls => match ks, hl with | [], _ => exact h
  | pr v => match ks, hl with | [], _ => exact h
  | eq v u => match ks, hl with | [], _ => exact h
  | rel v u => match ks, hl with | [], _ => exact h
  | neg p => match ks, hl with | [k], _ => exact ⟨k, h, ht 0 p k rfl rfl⟩
  | qu q v p => match ks, hl with | [k], _ => exact ⟨k, h, ht 0 p k rfl rfl⟩
  | con p q => match ks, hl with | [k, l], _ => exact ⟨k, l, h, ht 0 p k rfl rfl, ht 1 q l rfl rfl⟩
  | dis p q => match ks, hl with | [k, l], _ => exact ⟨k, l, h, ht 0 p k rfl rfl, ht 1 q l rfl rfl⟩

theorem block_lt {w : World} {b : Nat} {x : Obj} (h : w.heap[b]? = some x) : b < w.heap.size := by
  rcases Nat.lt_or_ge b w.heap.size with hlt | hge
  · exact hlt
  · rw [Array.getElem?_eq_none hge] at h; cases h

/-- a row keeps, where its block does -/
theorem ownsRow_keep {w w' : World} {base base' : Nat} {e : TypeId} {size : Nat} {v : Value} {n : Nat} {xs : List Value} (h : w.ownsRow base e size v n xs)
    (hk : ∀ g, v.ownBlock = some g → w'.heap[g]? = w.heap[g]? ∧ base' ≤ g) : w'.ownsRow base' e size v n xs := by
  obtain ⟨hl, h | ⟨g, cap, cur, rfl, h2, h3, h4⟩⟩ := h
  · exact ⟨hl, .inl h⟩
  · obtain ⟨e1, e2⟩ := hk g rfl
    exact ⟨hl, .inr ⟨g, cap, cur, rfl, e2, e1.trans h3, h4⟩⟩

theorem ownsRow_lt {w : World} {base : Nat} {e : TypeId} {size : Nat} {v : Value} {n : Nat} {xs : List Value} (h : w.ownsRow base e size v n xs) {k : Nat} (hk : v.ownBlock = some k) : base ≤ k ∧ k < w.heap.size := h.lt k hk

/-- what a node's keeping asks -/
theorem NodeIn.keep {S S' : Nat → Prop} {w w' : World} {op : UInt8} {vars : List (Fin 4)} {free all b : Nat} {ks : List Nat} (h : NodeIn S w op vars free all b ks)
    (hk : ∀ g, S g → g < w.heap.size → w'.heap[g]? = w.heap[g]? ∧ S' g) : NodeIn S' w' op vars free all b ks := by
  obtain ⟨h0, vs, ps, h1, h2, h3, h4, h5⟩ := h
  have e := hk b h0 (block_lt h1)
  exact ⟨e.2, vs, ps, e.1.trans h1,
    ownsRow_keep h2 (fun g hg => ⟨(hk g (h3 g hg) (ownsRow_lt h2 hg).2).1, Nat.zero_le _⟩), fun g hg => (hk g (h3 g hg) (ownsRow_lt h2 hg).2).2,
    ownsRow_keep h4 (fun g hg => ⟨(hk g (h5 g hg) (ownsRow_lt h4 hg).2).1, Nat.zero_le _⟩), fun g hg => (hk g (h5 g hg) (ownsRow_lt h4 hg).2).2⟩

theorem TreeIn.keep {S S' : Nat → Prop} {w w' : World} (hk : ∀ g, S g → g < w.heap.size → w'.heap[g]? = w.heap[g]? ∧ S' g) : ∀ (f : Fm) (b : Nat), TreeIn S w f b → TreeIn S' w' f b := by
  intro f
  induction f with
  | tru => intro b h; exact NodeIn.keep h hk
  | fls => intro b h; exact NodeIn.keep h hk
  | pr v => intro b h; exact NodeIn.keep h hk
  | eq v u => intro b h; exact NodeIn.keep h hk
  | rel v u => intro b h; exact NodeIn.keep h hk
  | neg p ih => intro b h; obtain ⟨k, h1, h2⟩ := h; exact ⟨k, NodeIn.keep h1 hk, ih _ h2⟩
  | qu q v p ih => intro b h; obtain ⟨k, h1, h2⟩ := h; exact ⟨k, NodeIn.keep h1 hk, ih _ h2⟩
  | con p q ihp ihq => intro b h; obtain ⟨k, l, h1, h2, h3⟩ := h; exact ⟨k, l, NodeIn.keep h1 hk, ihp _ h2, ihq _ h3⟩
  | dis p q ihp ihq => intro b h; obtain ⟨k, l, h1, h2, h3⟩ := h; exact ⟨k, l, NodeIn.keep h1 hk, ihp _ h2, ihq _ h3⟩

theorem TreesIn.keep {S S' : Nat → Prop} {w w' : World} (hk : ∀ g, S g → g < w.heap.size → w'.heap[g]? = w.heap[g]? ∧ S' g) {ps : List Fm} {ks : List Nat} (h : TreesIn S w ps ks) : TreesIn S' w' ps ks :=
  ⟨h.1, fun i p k h1 h2 => TreeIn.keep hk p k (h.2 i p k h1 h2)⟩

/-- the tree lies from block lo on -/
def TreeAt (lo : Nat) (w : World) (f : Fm) (b : Nat) : Prop := TreeIn (fun g => lo ≤ g) w f b

theorem TreeAt.below {lo : Nat} {w w' : World} {f : Fm} {b : Nat} (h : TreeAt lo w f b) (hb : Below w.heap.size w w') : TreeAt lo w' f b :=
  TreeIn.keep (fun g hs hg => ⟨hb.block g hg, hs⟩) f b h

theorem TreeAt.base {lo lo' : Nat} {w : World} {f : Fm} {b : Nat} (h : TreeAt lo w f b) (hl : lo' ≤ lo) : TreeAt lo' w f b :=
  TreeIn.keep (fun _ hs _ => ⟨rfl, Nat.le_trans hl hs⟩) f b h

theorem TreeAt.drew {lo : Nat} {w : World} {f : Fm} {b : Nat} (h : TreeAt lo w f b) : TreeAt lo w.drew f b := TreeIn.keep (w := w) (w' := w.drew) (fun _ hs _ => ⟨rfl, hs⟩) f b h

end Go.Proofs.YtpaleogkgfclnaaGreatDoor

namespace Go.Proofs.YtpaleogkgfclnaaGreatDoor
open Go.RowKit
open Pl

/-- what parsePart leaves -/
def PartPost (s : ByteArray) (w : World) (e : Ending) (w' : World) : Prop :=
  Below w.heap.size w w' ∧
  ((parse s.data.toList = none ∧ ∃ rest : ByteArray, e = .returned (.tuple #[.pointer none, .string rest])) ∨
   ∃ (f : Fm) (rest : ByteArray) (b : Nat), parse s.data.toList = some (f, rest.data.toList) ∧ TreeAt w.heap.size w' f b ∧
     e = .returned (.tuple #[kidV b, .string rest]))

/-- a byte that is a variable's, or not -/
theorem indexByte_abcd (b : UInt8) : decide (0 ≤ Lib.indexByte [97, 98, 99, 100] b) = (varOf b).isSome := by
  by_cases h0 : b = 97
  · subst h0; rfl
  by_cases h1 : b = 98
  · subst h1; rfl
  by_cases h2 : b = 99
  · subst h2; rfl
  by_cases h3 : b = 100
  · subst h3; rfl
  · have g0 : (97 == b) = false := by simpa using fun e => h0 e.symm
    have g1 : (98 == b) = false := by simpa using fun e => h1 e.symm
    have g2 : (99 == b) = false := by simpa using fun e => h2 e.symm
    have g3 : (100 == b) = false := by simpa using fun e => h3 e.symm
    simp [Lib.indexByte, g0, g1, g2, g3, varOf, h0, h1, h2, h3]

theorem isVar_calls (t : ByteArray) (b : UInt8) (r : Bool) (ht : t.data.toList = [b]) (hr : (varOf b).isSome = r) (w : World) :
    Calls Tryz.prog 84 #[.string ⟨#[97, 98, 99, 100]⟩, .string t] w fun e w' => e = .returned (.bool r) ∧ w = w' := by
  refine (Contains_one _ t b ht w).mono ?_
  rintro e w' ⟨rfl, rfl⟩
  exact ⟨ret_bool (by rw [← hr]; exact indexByte_abcd b), rfl⟩

/-- the bits of variables -/
def maskV (vs : List (Fin 4)) : Nat := vs.foldl (fun m v => m ||| 1 <<< v.val) 0

theorem maskV_snoc (vs : List (Fin 4)) (v : Fin 4) : maskV (vs ++ [v]) = maskV vs ||| 1 <<< v.val := by simp [maskV]

theorem maskV_lt (vs : List (Fin 4)) : maskV vs < 16 := by
  have h : ∀ (vs : List (Fin 4)) (m : Nat), m < 16 → vs.foldl (fun m v => m ||| 1 <<< v.val) m < 16 := by
    intro vs
    induction vs with
    | nil => intro m h; exact h
    | cons v vs ih =>
      intro m h
      refine ih _ (Nat.or_lt_two_pow (n := 4) h ?_)
      revert v; decide
  exact h vs 0 (by decide)

theorem cell_at {w : World} {b : Nat} {cs : Array Value} {t : TypeId} (h : w.heap[b]? = some (.cells cs t (0, 0))) (j : Nat) : w.cell? ⟨b, j, none⟩ = cs[j]? := cell_of_row w b j cs t _ h
theorem free_at {w : World} {b : Nat} {cs : Array Value} {t : TypeId} (h : w.heap[b]? = some (.cells cs t (0, 0))) (j : Nat) : w.frozen? ⟨b, j, none⟩ = false := by simp [World.frozen?, h]

theorem empty_facts {s : ByteArray} (h0 : 0 < s.size) : (s.toList == []) = false ∧ s.toList.isEmpty = false := by
  have hne : s.toList ≠ [] := by
    intro h
    rw [ByteArray.toList_eq] at h
    rw [Lib.size_eq, h] at h0
    simp at h0
  cases h : s.toList with
  | nil => exact (hne h).elim
  | cons a l => exact ⟨rfl, rfl⟩

theorem Tryz.infoU8 : (Tryz.prog.info? 5).map (fun i => (i.zero, i.size, i.bytes)) = some (some (.int .u8 0), 1, 1) := by kernel_rfl
theorem Tryz.infoPF : (Tryz.prog.info? 60).map (fun i => (i.zero, i.size, i.bytes)) = some (some (.pointer none), 1, 8) := by kernel_rfl

theorem ownsRow_ne {w : World} {base : Nat} {e : TypeId} {size : Nat} {v : Value} {n : Nat} {xs : List Value} (h : w.ownsRow base e size v n xs)
    {b : Nat} {cs : Array Value} {t : TypeId} {fr : Nat × Nat} (hb : w.heap[b]? = some (.cells cs t fr)) (hne : t ≠ e) : v.ownBlock ≠ some b := by
  obtain ⟨_, ⟨rfl, _⟩ | ⟨g, cap, cur, rfl, _, hg, _⟩⟩ := h
  · intro h; cases h
  · intro h
    have : g = b := by simpa [Value.ownBlock] using h
    subst this
    rw [hb] at hg
    simp at hg
    exact hne hg.2.1

theorem grown_block {wr : World} {o : Obj} {w1 : World} {row : Option Nat} (h : ((wr.alloc o).drew).grownBy w1 row) {b : Nat} {x : Obj} (hb : wr.heap[b]? = some x) (hne : row ≠ some b) : w1.heap[b]? = some x := by
  have hlt : b < wr.heap.size := by
    rcases Nat.lt_or_ge b wr.heap.size with hlt | hge
    · exact hlt
    · rw [Array.getElem?_eq_none hge] at hb; cases hb
  rw [h.block b (by show b < (wr.alloc o).heap.size; simp; omega) (fun e => hne e.symm)]
  show (wr.alloc o).heap[b]? = _
  rw [Below.heap_alloc _ _ _ hlt, hb]

theorem row_set {w : World} {lo : Nat} {e : TypeId} {size : Nat} {v : Value} {n : Nat} {xs : List Value} (h : w.ownsRow lo e size v n xs) {b : Nat} {cs : Array Value} {t : TypeId}
    (hb : w.heap[b]? = some (.cells cs t (0, 0))) (hne : t ≠ e) (j : Nat) (u : Value) : (w.setCell ⟨b, j, none⟩ u).ownsRow lo e size v n xs := by
  have hn := ownsRow_ne h hb hne
  exact ownsRow_setCell_other h (a := ⟨b, j, none⟩) hn u

/-- a row of another element type keeps where one grows -/
theorem row_grown {w w1 : World} {o : Obj} {lo lo' : Nat} {e e' : TypeId} {size size' : Nat} {v v' : Value} {n n' : Nat} {xs xs' : List Value} (h : w.ownsRow lo e size v n xs)
    (h' : w.ownsRow lo' e' size' v' n' xs') (hne : e ≠ e') (hg : ((w.alloc o).drew).grownBy w1 v'.ownBlock) : w1.ownsRow lo e size v n xs := by
  refine ownsRow_keep h fun g hk => ?_
  obtain ⟨h1, h2⟩ := ownsRow_lt h hk
  refine ⟨?_, h1⟩
  obtain ⟨_, ⟨rfl, _⟩ | ⟨g', cap, cur, rfl, _, hg', _⟩⟩ := h
  · cases hk
  · have e0 : g' = g := by simpa [Value.ownBlock] using hk
    subst e0
    rw [grown_block hg hg' (ownsRow_ne h' hg' hne), hg']

/-- the tree's block does not matter to a row of its own -/
theorem node_var {S : Nat → Prop} {w : World} {op : UInt8} {vars : List (Fin 4)} {free all b : Nat} {ks : List Nat} {vs ps nv : Value} (v : Fin 4)
    (hS : S b) (hb : w.heap[b]? = some (.cells #[.int .u8 op.toNat, vs, ps, .int .i64 free, .int .i64 all] 64 (0, 0)))
    (hv : w.ownsRow 0 5 1 nv (vars.length + 1) ((vars.map fun v => byteV (vb v)) ++ [byteV (vb v)])) (hvS : ∀ k, nv.ownBlock = some k → S k)
    (hp : w.ownsRow 0 60 1 ps ks.length (ks.map kidV)) (hpS : ∀ k, ps.ownBlock = some k → S k) :
    NodeIn S (w.setCell ⟨b, 1, none⟩ nv) op (vars ++ [v]) free all b ks := by
  refine ⟨hS, nv, ps, ?_, ?_, hvS, row_set hp hb (by decide) _ _, hpS⟩
  · rw [heap_setCell_same _ _ _ _ _ _ hb]; rfl
  · have := row_set hv hb (by decide) 1 nv
    simpa using this

/-- another mask of all variables -/
theorem NodeIn.setAll {S : Nat → Prop} {w : World} {op : UInt8} {vars : List (Fin 4)} {free all b : Nat} {ks : List Nat} (h : NodeIn S w op vars free all b ks) (m : Nat) :
    NodeIn S (w.setCell ⟨b, 4, none⟩ (.int .i64 m)) op vars free m b ks := by
  obtain ⟨hlo, vs, ps, hb, hv, hvS, hp, hpS⟩ := h
  exact ⟨hlo, vs, ps, by rw [heap_setCell_same _ _ _ _ _ _ hb]; rfl, row_set hv hb (by decide) _ _, hvS, row_set hp hb (by decide) _ _, hpS⟩

/-- another mask of the free ones -/
theorem NodeIn.setFree {S : Nat → Prop} {w : World} {op : UInt8} {vars : List (Fin 4)} {free all b : Nat} {ks : List Nat} (h : NodeIn S w op vars free all b ks) (m : Nat) :
    NodeIn S (w.setCell ⟨b, 3, none⟩ (.int .i64 m)) op vars m all b ks := by
  obtain ⟨hlo, vs, ps, hb, hv, hvS, hp, hpS⟩ := h
  exact ⟨hlo, vs, ps, by rw [heap_setCell_same _ _ _ _ _ _ hb]; rfl, row_set hv hb (by decide) _ _, hvS, row_set hp hb (by decide) _ _, hpS⟩

/-- one more part -/
theorem node_part {S : Nat → Prop} {w : World} {op : UInt8} {vars : List (Fin 4)} {free all b : Nat} {ks : List Nat} {vs ps np : Value} (k : Nat)
    (hS : S b) (hb : w.heap[b]? = some (.cells #[.int .u8 op.toNat, vs, ps, .int .i64 free, .int .i64 all] 64 (0, 0)))
    (hv : w.ownsRow 0 5 1 vs vars.length (vars.map fun v => byteV (vb v))) (hvS : ∀ k, vs.ownBlock = some k → S k)
    (hp : w.ownsRow 0 60 1 np (ks.length + 1) (ks.map kidV ++ [kidV k])) (hpS : ∀ k, np.ownBlock = some k → S k) :
    NodeIn S (w.setCell ⟨b, 2, none⟩ np) op vars free all b (ks ++ [k]) := by
  refine ⟨hS, vs, np, ?_, row_set hv hb (by decide) _ _, hvS, ?_, hpS⟩
  · rw [heap_setCell_same _ _ _ _ _ _ hb]; rfl
  · have := row_set hp hb (by decide) 2 np
    simpa using this

/-- a mask or'ed with a variable's bit, in the walk's own words -/
theorem or_bit (m : Nat) (v : Fin 4) (hm : m < 16) : bits .or .i64 (m : Int) (wrap64 (2 ^ v.val)) = ((m ||| 1 <<< v.val : Nat) : Int) := by
  have h : ∀ (m : Fin 16) (v : Fin 4), bits .or .i64 (m.val : Int) (wrap64 (2 ^ v.val)) = ((m.val ||| 1 <<< v.val : Nat) : Int) := by decide +kernel
  exact h ⟨m, hm⟩ v

theorem or_nat (a b : Nat) (ha : a < 16) (hb : b < 16) : bits .or .i64 (a : Int) (b : Int) = ((a ||| b : Nat) : Int) := by
  have h : ∀ (a b : Fin 16), bits .or .i64 (a.val : Int) (b.val : Int) = ((a.val ||| b.val : Nat) : Int) := by decide +kernel
  exact h ⟨a, ha⟩ ⟨b, hb⟩

theorem andNot_bit (a : Nat) (v : Fin 4) (ha : a < 16) : bits .andNot .i64 (a : Int) (wrap64 (2 ^ v.val)) = ((a &&& (15 ^^^ 1 <<< v.val) : Nat) : Int) := by
  have h : ∀ (a : Fin 16) (v : Fin 4), bits .andNot .i64 (a.val : Int) (wrap64 (2 ^ v.val)) = ((a.val &&& (15 ^^^ 1 <<< v.val) : Nat) : Int) := by decide +kernel
  exact h ⟨a, ha⟩ v

theorem vb_int (v : Fin 4) : ((vb v).toNat : Int) = 97 + (v.val : Int) := by revert v; decide

theorem bit_lt (v : Fin 4) : 1 <<< v.val < 16 := by revert v; decide
theorem or_lt {a b : Nat} (ha : a < 16) (hb : b < 16) : a ||| b < 16 := Nat.or_lt_two_pow (n := 4) ha hb

theorem freeBits_lt : ∀ f : Fm, f.freeBits < 16 := by
  intro f
  induction f with
  | tru => decide
  | fls => decide
  | pr v => exact bit_lt v
  | eq v u => exact or_lt (bit_lt v) (bit_lt u)
  | rel v u => exact or_lt (bit_lt v) (bit_lt u)
  | neg p ih => exact ih
  | con p q ihp ihq => exact or_lt ihp ihq
  | dis p q ihp ihq => exact or_lt ihp ihq
  | qu k v p ih => exact Nat.lt_of_le_of_lt Nat.and_le_left ih

theorem allBits_lt : ∀ f : Fm, f.allBits < 16 := by
  intro f
  induction f with
  | tru => decide
  | fls => decide
  | pr v => exact bit_lt v
  | eq v u => exact or_lt (bit_lt v) (bit_lt u)
  | rel v u => exact or_lt (bit_lt v) (bit_lt u)
  | neg p ih => exact ih
  | con p q ihp ihq => exact or_lt ihp ihq
  | dis p q ihp ihq => exact or_lt ihp ihq
  | qu k v p ih => exact or_lt (bit_lt v) ih

def orAll (m : Nat) (ps : List Fm) : Nat := ps.foldl (fun m p => m ||| p.allBits) m
def orFree (m : Nat) (ps : List Fm) : Nat := ps.foldl (fun m p => m ||| p.freeBits) m

theorem orAll_snoc (m : Nat) (ps : List Fm) (p : Fm) : orAll m (ps ++ [p]) = orAll m ps ||| p.allBits := by simp [orAll]
theorem orFree_snoc (m : Nat) (ps : List Fm) (p : Fm) : orFree m (ps ++ [p]) = orFree m ps ||| p.freeBits := by simp [orFree]
theorem orAll_lt {m : Nat} (hm : m < 16) (ps : List Fm) : orAll m ps < 16 := by
  induction ps generalizing m with
  | nil => exact hm
  | cons p ps ih => exact ih (or_lt hm (allBits_lt p))
theorem orFree_lt {m : Nat} (hm : m < 16) (ps : List Fm) : orFree m ps < 16 := by
  induction ps generalizing m with
  | nil => exact hm
  | cons p ps ih => exact ih (or_lt hm (freeBits_lt p))

/-- is a byte a quantifier's -/
def isQuB (b : UInt8) : Bool := b == 65 || b == 83 || b == 50 || b == 51 || b == 52
def isCoB (b : UInt8) : Bool := b == 50 || b == 51 || b == 52

theorem allBits_eq (f : Fm) : f.allBits = orAll (maskV f.vars) f.parts := by
  cases f <;> simp [Fm.allBits, orAll, maskV, Fm.vars, Fm.parts]

theorem freeBits_no (f : Fm) (h : isQuB f.op = false) : f.freeBits = orFree (if 0 < f.parts.length then 0 else maskV f.vars) f.parts := by
  cases f <;> simp [Fm.freeBits, orFree, maskV, Fm.vars, Fm.parts]
  rename_i k _ _
  cases k <;> simp [Fm.op, Qn.b, isQuB] at h

theorem freeBits_yes (f : Fm) (h : isQuB f.op = true) : ∃ v, f.vars = [v] ∧ f.freeBits = orFree (if 0 < f.parts.length then 0 else maskV f.vars) f.parts &&& (15 ^^^ 1 <<< v.val) := by
  cases f with
  | qu k v p => exact ⟨v, rfl, by simp [Fm.freeBits, orFree, Fm.parts]⟩
  | _ => simp [Fm.op, isQuB] at h

theorem isQuB_vars {b : UInt8} {nv np : Nat} (h : arity b = some (nv, np)) (hq : isQuB b = true) : nv = 1 ∧ np = 1 := by
  simp only [isQuB, Bool.or_eq_true, beq_iff_eq] at hq
  rcases hq with (((rfl | rfl) | rfl) | rfl) | rfl <;> (simp [arity] at h; omega)

theorem indexByte_quant (b : UInt8) : decide (0 ≤ Lib.indexByte [65, 83, 50, 51, 52] b) = isQuB b := by
  by_cases h0 : b = 65
  · subst h0; rfl
  by_cases h1 : b = 83
  · subst h1; rfl
  by_cases h2 : b = 50
  · subst h2; rfl
  by_cases h3 : b = 51
  · subst h3; rfl
  by_cases h4 : b = 52
  · subst h4; rfl
  · have g0 : (65 == b) = false := by simpa using fun e => h0 e.symm
    have g1 : (83 == b) = false := by simpa using fun e => h1 e.symm
    have g2 : (50 == b) = false := by simpa using fun e => h2 e.symm
    have g3 : (51 == b) = false := by simpa using fun e => h3 e.symm
    have g4 : (52 == b) = false := by simpa using fun e => h4 e.symm
    simp [Lib.indexByte, g0, g1, g2, g3, g4, isQuB, h0, h1, h2, h3, h4]

theorem indexByte_count (b : UInt8) : decide (0 ≤ Lib.indexByte [50, 51, 52] b) = isCoB b := by
  by_cases h2 : b = 50
  · subst h2; rfl
  by_cases h3 : b = 51
  · subst h3; rfl
  by_cases h4 : b = 52
  · subst h4; rfl
  · have g2 : (50 == b) = false := by simpa using fun e => h2 e.symm
    have g3 : (51 == b) = false := by simpa using fun e => h3 e.symm
    have g4 : (52 == b) = false := by simpa using fun e => h4 e.symm
    simp [Lib.indexByte, g2, g3, g4, isCoB, h2, h3, h4]

theorem isQuantifier_at (b : UInt8) (r : Bool) (hr : isQuB b = r) (a : Nat) (w : World) (hc : w.cell? ⟨a, 0, none⟩ = some (.int .u8 b.toNat)) :
    Calls Tryz.prog 67 #[kidV a] w fun e w' => e = .returned (.bool r) ∧ w = w' := by
  unfold kidV
  have Hr := Lib.hid hr
  clear hr
  go_enter Tryz.func67, Tryz.ntmps67
  go_wp2_with (go_at_call 85; refine (IndexByte_calls _ _ _).mono ?_; rintro e w' ⟨rfl, rfl⟩)
  go_ret
  exact ⟨ret_bool (by rw [← Hr.out]; exact indexByte_quant b), rfl⟩

theorem isCounting_at (b : UInt8) (r : Bool) (hr : isCoB b = r) (a : Nat) (w : World) (hc : w.cell? ⟨a, 0, none⟩ = some (.int .u8 b.toNat)) :
    Calls Tryz.prog 66 #[kidV a] w fun e w' => e = .returned (.bool r) ∧ w = w' := by
  unfold kidV
  have Hr := Lib.hid hr
  clear hr
  go_enter Tryz.func66, Tryz.ntmps66
  go_wp2_with (go_at_call 85; refine (IndexByte_calls _ _ _).mono ?_; rintro e w' ⟨rfl, rfl⟩)
  go_ret
  exact ⟨ret_bool (by rw [← Hr.out]; exact indexByte_count b), rfl⟩

/-- a new node -/
theorem node_new {S : Nat → Prop} (w : World) (op : UInt8) (hS : S w.heap.size) :
    NodeIn S (w.alloc (.cells #[.int .u8 op.toNat, .slice none 0 0, .slice none 0 0, .int .i64 0, .int .i64 0] 64)) op [] 0 0 w.heap.size [] :=
  ⟨hS, .slice none 0 0, .slice none 0 0, heap_alloc_new w _, World.ownsRow_nil _ _ _ _, (fun k h => by cases h), World.ownsRow_nil _ _ _ _, (fun k h => by cases h)⟩

/-- a node under way: block B, its children's trees in other blocks -/
def NodeT (B : Nat) (w : World) (op : UInt8) (vars : List (Fin 4)) (free all : Nat) (ps : List Fm) : Prop :=
  ∃ ks vsv psv, w.heap[B]? = some (.cells #[.int .u8 op.toNat, vsv, psv, .int .i64 free, .int .i64 all] 64 (0, 0)) ∧
    w.ownsRow 0 5 1 vsv vars.length (vars.map fun v => byteV (vb v)) ∧ (∀ k, vsv.ownBlock = some k → B ≤ k) ∧
    w.ownsRow 0 60 1 psv ks.length (ks.map kidV) ∧ (∀ k, psv.ownBlock = some k → B ≤ k) ∧
    TreesIn (fun g => B < g ∧ psv.ownBlock ≠ some g) w ps ks

theorem NodeT.of {B : Nat} {w : World} {op : UInt8} {vars : List (Fin 4)} {free all : Nat} (h : NodeIn (fun g => B ≤ g) w op vars free all B []) : NodeT B w op vars free all [] := by
  obtain ⟨_, vsv, psv, hb, h1, h2, h3, h4⟩ := h
  exact ⟨[], vsv, psv, hb, h1, h2, h3, h4, treesIn_nil _ _⟩

theorem NodeT.node {B : Nat} {w : World} {op : UInt8} {vars : List (Fin 4)} {free all : Nat} {ps : List Fm} (h : NodeT B w op vars free all ps) :
    ∃ ks, NodeIn (fun g => B ≤ g) w op vars free all B ks ∧ TreesIn (fun g => B ≤ g) w ps ks := by
  obtain ⟨ks, vsv, psv, hb, h1, h2, h3, h4, h5⟩ := h
  exact ⟨ks, ⟨Nat.le_refl _, vsv, psv, hb, h1, h2, h3, h4⟩, h5.keep fun g hg _ => ⟨rfl, Nat.le_of_lt hg.1⟩⟩

theorem NodeT.below {B : Nat} {w w' : World} {op : UInt8} {vars : List (Fin 4)} {free all : Nat} {ps : List Fm} (h : NodeT B w op vars free all ps) (hb : Below w.heap.size w w') : NodeT B w' op vars free all ps := by
  obtain ⟨ks, vsv, psv, h0, h1, h2, h3, h4, h5⟩ := h
  exact ⟨ks, vsv, psv, (hb.block B (block_lt h0)).trans h0, ownsRow_keep h1 (fun g hg => ⟨hb.block g (ownsRow_lt h1 hg).2, Nat.zero_le _⟩), h2,
    ownsRow_keep h3 (fun g hg => ⟨hb.block g (ownsRow_lt h3 hg).2, Nat.zero_le _⟩), h4, h5.keep fun g hg hl => ⟨hb.block g hl, hg⟩⟩

theorem NodeT.setAll {B : Nat} {w : World} {op : UInt8} {vars : List (Fin 4)} {free all : Nat} {ps : List Fm} (h : NodeT B w op vars free all ps) (m : Nat) :
    NodeT B (w.setCell ⟨B, 4, none⟩ (.int .i64 m)) op vars free m ps := by
  obtain ⟨ks, vsv, psv, hb, h1, h2, h3, h4, h5⟩ := h
  exact ⟨ks, vsv, psv, by rw [heap_setCell_same _ _ _ _ _ _ hb]; rfl, row_set h1 hb (by decide) _ _, h2, row_set h3 hb (by decide) _ _, h4,
    h5.keep fun g hg _ => ⟨heap_setCell_other _ _ _ _ (Nat.ne_of_gt hg.1), hg⟩⟩

theorem NodeT.setFree {B : Nat} {w : World} {op : UInt8} {vars : List (Fin 4)} {free all : Nat} {ps : List Fm} (h : NodeT B w op vars free all ps) (m : Nat) :
    NodeT B (w.setCell ⟨B, 3, none⟩ (.int .i64 m)) op vars m all ps := by
  obtain ⟨ks, vsv, psv, hb, h1, h2, h3, h4, h5⟩ := h
  exact ⟨ks, vsv, psv, by rw [heap_setCell_same _ _ _ _ _ _ hb]; rfl, row_set h1 hb (by decide) _ _, h2, row_set h3 hb (by decide) _ _, h4,
    h5.keep fun g hg _ => ⟨heap_setCell_other _ _ _ _ (Nat.ne_of_gt hg.1), hg⟩⟩

theorem grown_heap {w : World} {o : Obj} {w1 : World} {row : Option Nat} (h : (w.alloc o).grownBy w1 row) {g : Nat} (hg : g < w.heap.size) (hne : row ≠ some g) : w1.heap[g]? = w.heap[g]? := by
  rw [h.block g (by simp; omega) (fun e => hne e.symm), Below.heap_alloc _ _ _ hg]

theorem nodeT_part {B lo : Nat} {w1 w2 : World} {op : UInt8} {vars : List (Fin 4)} {free all : Nat} {ps : List Fm} {ks : List Nat} {vsv psv : Value} {f : Fm} {b g cap : Nat}
    (hb : w1.heap[B]? = some (.cells #[.int .u8 op.toNat, vsv, psv, .int .i64 free, .int .i64 all] 64 (0, 0)))
    (h1 : w1.ownsRow 0 5 1 vsv vars.length (vars.map fun v => byteV (vb v))) (h2 : ∀ k, vsv.ownBlock = some k → B ≤ k)
    (h3 : w1.ownsRow 0 60 1 psv ks.length (ks.map kidV)) (h4 : ∀ k, psv.ownBlock = some k → B ≤ k ∧ k < lo)
    (h5 : TreesIn (fun g => B < g ∧ psv.ownBlock ≠ some g ∧ g < lo) w1 ps ks) (hlo : lo ≤ w1.heap.size) (hBlo : B < lo)
    (ht : TreeIn (fun g => lo ≤ g) w1 f b)
    (hown : w2.ownsRow 0 60 1 (.slice (some ⟨g, 0, none⟩) (ks.length + 1) cap) (ks.length + 1) (ks.map kidV ++ [kidV b]))
    (hgrow : (w1.alloc (.cells #[kidV b] 60)).grownBy w2 psv.ownBlock) (hat : psv.ownBlock = some g ∨ g = w1.heap.size + 1) :
    NodeT B (w2.setCell ⟨B, 2, none⟩ (.slice (some ⟨g, 0, none⟩) (ks.length + 1) cap)) op vars free all (ps ++ [f]) := by
  have hBw : B < w1.heap.size := Nat.lt_of_lt_of_le hBlo hlo
  have hb2 : w2.heap[B]? = some (.cells #[.int .u8 op.toNat, vsv, psv, .int .i64 free, .int .i64 all] 64 (0, 0)) := by
    rw [grown_heap hgrow hBw (ownsRow_ne h3 hb (by decide)), hb]
  have hrow2 : w2.ownsRow 0 5 1 vsv vars.length (vars.map fun v => byteV (vb v)) :=
    row_grown h1 h3 (by decide) (o := .cells #[kidV b] 60) ⟨hgrow.os, hgrow.tape, hgrow.output, hgrow.size, hgrow.block⟩
  refine ⟨ks ++ [b], vsv, .slice (some ⟨g, 0, none⟩) (ks.length + 1) cap, ?_, row_set hrow2 hb2 (by decide) _ _, h2, ?_, ?_, ?_⟩
  · rw [heap_setCell_same _ _ _ _ _ _ hb2]; rfl
  · have := row_set hown hb2 (by decide) 2 (.slice (some ⟨g, 0, none⟩) (ks.length + 1) cap)
    simpa using this
  · intro k hk
    have e0 : g = k := by simpa [Value.ownBlock] using hk
    subst e0
    rcases hat with h | h
    · exact (h4 _ h).1
    · omega
  · have k1 : ∀ k, (B < k ∧ psv.ownBlock ≠ some k ∧ k < lo) → k < w1.heap.size →
        (w2.setCell ⟨B, 2, none⟩ (.slice (some ⟨g, 0, none⟩) (ks.length + 1) cap)).heap[k]? = w1.heap[k]? ∧ (B < k ∧ (Value.slice (some ⟨g, 0, none⟩) (ks.length + 1) cap).ownBlock ≠ some k) := by
      intro k hk hl
      refine ⟨?_, hk.1, ?_⟩
      · rw [heap_setCell_other _ _ _ _ (Nat.ne_of_gt hk.1), grown_heap hgrow hl hk.2.1]
      · intro e
        have e0 : g = k := by simpa [Value.ownBlock] using e
        subst e0
        rcases hat with h | h
        · exact hk.2.1 h
        · omega
    have k2 : ∀ k, lo ≤ k → k < w1.heap.size →
        (w2.setCell ⟨B, 2, none⟩ (.slice (some ⟨g, 0, none⟩) (ks.length + 1) cap)).heap[k]? = w1.heap[k]? ∧ (B < k ∧ (Value.slice (some ⟨g, 0, none⟩) (ks.length + 1) cap).ownBlock ≠ some k) := by
      intro k hk hl
      have hne : psv.ownBlock ≠ some k := fun e => by have := (h4 k e).2; omega
      refine ⟨?_, by omega, ?_⟩
      · rw [heap_setCell_other _ _ _ _ (by show k ≠ B; omega), grown_heap hgrow hl hne]
      · intro e
        have e0 : g = k := by simpa [Value.ownBlock] using e
        subst e0
        rcases hat with h | h
        · have := (h4 _ h).2; omega
        · omega
    exact treesIn_snoc (h5.keep k1) (TreeIn.keep k2 f b ht)

/-- what of a child the walk reads -/
def KidCells (w : World) (B b : Nat) (f : Fm) : Prop := b ≠ B ∧ w.cell? ⟨b, 3, none⟩ = some (.int .i64 f.freeBits) ∧ w.cell? ⟨b, 4, none⟩ = some (.int .i64 f.allBits)

theorem kidCells_of {S : Nat → Prop} {w : World} {f : Fm} {b B : Nat} (h : TreeIn S w f b) (hB : ¬ S B) : KidCells w B b f := by
  obtain ⟨ks, ⟨hS, vs, ps, hb, _⟩, _⟩ := h.open
  exact ⟨fun e => hB (e ▸ hS), cell_at hb 3, cell_at hb 4⟩

theorem KidCells.set {w : World} {B b : Nat} {f : Fm} (h : KidCells w B b f) (j : Nat) (u : Value) : KidCells (w.setCell ⟨B, j, none⟩ u) B b f := by
  obtain ⟨h0, h1, h2⟩ := h
  refine ⟨h0, ?_, ?_⟩
  · rw [World.cell?_setCell_far _ _ _ _ (by simpa using fun e => h0 e.symm)]; exact h1
  · rw [World.cell?_setCell_far _ _ _ _ (by simpa using fun e => h0 e.symm)]; exact h2

theorem kidCells_heap {w w' : World} {B b : Nat} {f : Fm} (h : KidCells w B b f) (e : w'.heap[b]? = w.heap[b]?) : KidCells w' B b f := by
  obtain ⟨h0, h1, h2⟩ := h
  exact ⟨h0, (World.cell?_of_block (a := ⟨b, 3, none⟩) e).trans h1, (World.cell?_of_block (a := ⟨b, 4, none⟩) e).trans h2⟩

theorem KidCells.drew {w : World} {B b : Nat} {f : Fm} (h : KidCells w B b f) : KidCells w.drew B b f := h

theorem NodeT.drew {B : Nat} {w : World} {op : UInt8} {vars : List (Fin 4)} {free all : Nat} {ps : List Fm} (h : NodeT B w op vars free all ps) : NodeT B w.drew op vars free all ps := NodeT.below h ((Below.refl _ _).drew)

theorem arity_le {b : UInt8} {nv np : Nat} (h : arity b = some (nv, np)) : nv ≤ 2 ∧ np ≤ 2 := by
  obtain ⟨f, rfl, rfl, rfl⟩ : ∃ f : Fm, f.op = b ∧ f.vars.length = nv ∧ f.parts.length = np := by
    obtain ⟨f, h1, h2, h3⟩ := arity_mk h (List.replicate nv 0) (List.replicate np .tru) (by simp) (by simp)
    exact ⟨f, h1, by rw [h2]; simp, by rw [h3]; simp⟩
  cases f <;> simp [Fm.vars, Fm.parts]

/-- a row of cells of size one that is not empty -/
theorem row_open {w : World} {base : Nat} {e : TypeId} {v : Value} {n : Nat} {xs : List Value} (h : w.ownsRow base e 1 v n xs) (hn : 0 < n) :
    ∃ g cap, v = .slice (some ⟨g, 0, none⟩) n cap ∧ n ≤ cap ∧ cap ≤ maxLen ∧ base ≤ g ∧ g < w.heap.size ∧ ∀ j, j < n → w.cell? ⟨g, j, none⟩ = xs[j]? := by
  obtain ⟨hl, ⟨_, h0⟩ | ⟨g, cap, cur, rfl, h2, h3, h4, h5, h6, h7⟩⟩ := h
  · omega
  · refine ⟨g, cap, rfl, h4, h5, h2, block_lt h3, fun j hj => ?_⟩
    rw [cell_at h3 j, ← h7, List.getElem?_take, if_pos (by omega)]
    simp

theorem tree_done {B : Nat} {w : World} {f : Fm} (h : NodeT B w f.op f.vars f.freeBits f.allBits f.parts) : TreeAt B w f B := by
  obtain ⟨ks, h1, h2⟩ := h.node
  exact TreeIn.shut h1 h2

end Go.Proofs.YtpaleogkgfclnaaGreatDoor

namespace Go.Proofs.YtpaleogkgfclnaaGreatDoor
open Pl

def Pl.Fm.rank : Fm → Nat
  | .neg p => p.rank | .con p q => max p.rank q.rank | .dis p q => max p.rank q.rank | .qu k _ p => p.rank + k.n | _ => 0

def Pl.Fm.counts : Fm → Bool
  | .neg p => p.counts | .con p q => p.counts || q.counts | .dis p q => p.counts || q.counts
  | .qu k _ p => isCoB k.b || p.counts | _ => false

/-- what an operator adds to the rank -/
def rankAdd (b : UInt8) : Nat := if isCoB b then b.toNat - 48 else if isQuB b then 1 else 0

theorem rank_eq (f : Fm) : f.rank = f.parts.foldl (fun m p => max m p.rank) 0 + rankAdd f.op := by
  cases f with
  | qu k v p => cases k <;> simp [Fm.rank, Fm.parts, Fm.op, rankAdd, isCoB, isQuB, Qn.b, Qn.n]
  | _ => simp [Fm.rank, Fm.parts, Fm.op, rankAdd, isCoB, isQuB]

theorem counts_eq (f : Fm) : f.counts = (isCoB f.op || f.parts.any Fm.counts) := by
  cases f with
  | qu k v p => cases k <;> simp [Fm.counts, Fm.parts, Fm.op, isCoB, Qn.b]
  | _ => simp [Fm.counts, Fm.parts, Fm.op, isCoB]

theorem rank_le (f : Fm) : f.rank ≤ 4 * f.text.length := by
  induction f with
  | qu k v p ih => cases k <;> simp [Fm.rank, Fm.text, Qn.n] <;> omega
  | neg p ih => simp [Fm.rank, Fm.text]; omega
  | con p q ihp ihq => simp [Fm.rank, Fm.text]; omega
  | dis p q ihp ihq => simp [Fm.rank, Fm.text]; omega
  | _ => simp [Fm.rank]

theorem vb_ge (v : Fin 4) : 97 ≤ (vb v).toNat := by revert v; decide

theorem counts_text (f : Fm) : f.counts = true ↔ ((50 : UInt8) ∈ f.text ∨ (51 : UInt8) ∈ f.text ∨ (52 : UInt8) ∈ f.text) := by
  have hv : ∀ v : Fin 4, (50 : UInt8) ≠ vb v ∧ (51 : UInt8) ≠ vb v ∧ (52 : UInt8) ≠ vb v := by decide
  induction f with
  | tru => simp [Fm.counts, Fm.text]
  | fls => simp [Fm.counts, Fm.text]
  | pr v => simp [Fm.counts, Fm.text, hv v]
  | eq v u => simp [Fm.counts, Fm.text, hv v, hv u]
  | rel v u => simp [Fm.counts, Fm.text, hv v, hv u]
  | neg p ih => simp [Fm.counts, Fm.text, ih]
  | con p q ihp ihq =>
    simp only [Fm.counts, Bool.or_eq_true, ihp, ihq, Fm.text, List.mem_cons, List.mem_append]
    constructor
    · rintro ((h | h | h) | (h | h | h)) <;> simp [h]
    · rintro ((h | h | h) | (h | h | h) | (h | h | h)) <;> first | (exact absurd h (by decide)) | simp [h]
  | dis p q ihp ihq =>
    simp only [Fm.counts, Bool.or_eq_true, ihp, ihq, Fm.text, List.mem_cons, List.mem_append]
    constructor
    · rintro ((h | h | h) | (h | h | h)) <;> simp [h]
    · rintro ((h | h | h) | (h | h | h) | (h | h | h)) <;> first | (exact absurd h (by decide)) | simp [h]
  | qu k v p ih =>
    cases k <;> simp [Fm.counts, Fm.text, Qn.b, isCoB, ih, hv v]

theorem bit_or (a b i : Nat) : (a ||| b).testBit i = (a.testBit i || b.testBit i) := Nat.testBit_or a b i

theorem bit_one (v w : Fin 4) : (1 <<< v.val).testBit w.val = decide (w = v) := by revert v w; decide

theorem all_text (f : Fm) (v : Fin 4) : f.allBits.testBit v.val = true ↔ vb v ∈ f.text := by
  have hb : ∀ u w : Fin 4, vb u = vb w ↔ u = w := fun u w => ⟨vb_inj, fun h => by rw [h]⟩
  have h1 : ∀ b ∈ [(116 : UInt8), 102, 80, 61, 69, 33, 38, 124, 65, 83, 50, 51, 52], vb v ≠ b := by revert v; decide
  induction f with
  | tru => simp [Fm.allBits, Fm.text, h1]
  | fls => simp [Fm.allBits, Fm.text, h1]
  | pr u => simp [Fm.allBits, Fm.text, h1, bit_one, hb, -Nat.testBit_shiftLeft]
  | eq u w => simp [Fm.allBits, Fm.text, h1, bit_one, hb, -Nat.testBit_shiftLeft]
  | rel u w => simp [Fm.allBits, Fm.text, h1, bit_one, hb, -Nat.testBit_shiftLeft]
  | neg p ih => simp [Fm.allBits, Fm.text, h1, ih]
  | con p q ihp ihq => simp [Fm.allBits, Fm.text, h1, ihp, ihq]
  | dis p q ihp ihq => simp [Fm.allBits, Fm.text, h1, ihp, ihq]
  | qu k u p ih => cases k <;> simp [Fm.allBits, Fm.text, Qn.b, h1, ih, bit_one, hb, -Nat.testBit_shiftLeft]

/-- the first k variables of a set -/
def varsL (m k : Nat) : List UInt8 := ((List.range k).filter fun i => m.testBit i).map fun i => UInt8.ofNat (97 + i)

theorem varsL_yes {m k : Nat} (h : m.testBit k = true) : varsL m (k + 1) = varsL m k ++ [UInt8.ofNat (97 + k)] := by
  simp [varsL, List.range_succ, List.filter_append, h]
theorem varsL_no {m k : Nat} (h : m.testBit k = false) : varsL m (k + 1) = varsL m k := by
  simp [varsL, List.range_succ, List.filter_append, h]

theorem varsL_len (m k : Nat) : (varsL m k).length ≤ k := by
  unfold varsL
  rw [List.length_map]
  exact Nat.le_trans (List.length_filter_le _ _) (by simp)

end Go.Proofs.YtpaleogkgfclnaaGreatDoor

namespace Go.Proofs.YtpaleogkgfclnaaGreatDoor
open Pl

/-- a formula in words -/
def Pl.Fm.showL : Fm → List UInt8
  | .tru => [116, 114, 117, 101]
  | .fls => [102, 97, 108, 115, 101]
  | .pr v => [80, 40, vb v, 41]
  | .eq v w => [vb v, 61, vb w]
  | .rel v w => [69, 40, vb v, 44, vb w, 41]
  | .neg p => [110, 111, 116, 32] ++ p.showL
  | .con p q => [40] ++ p.showL ++ [32, 97, 110, 100, 32] ++ q.showL ++ [41]
  | .dis p q => [40] ++ p.showL ++ [32, 111, 114, 32] ++ q.showL ++ [41]
  | .qu .A v p => [97, 108, 108, 32] ++ [vb v] ++ [58, 32] ++ p.showL
  | .qu .S v p => [115, 111, 109, 101, 32] ++ [vb v] ++ [58, 32] ++ p.showL
  | .qu k v p => [97, 116, 32, 108, 101, 97, 115, 116, 32] ++ [k.b] ++ [32] ++ [vb v] ++ [58, 32] ++ p.showL

theorem show_le (f : Fm) : f.showL.length ≤ 20 * f.text.length := by
  induction f with
  | qu k v p ih => cases k <;> simp [Fm.showL, Fm.text] <;> omega
  | neg p ih => simp [Fm.showL, Fm.text]; omega
  | con p q ihp ihq => simp [Fm.showL, Fm.text]; omega
  | dis p q ihp ihq => simp [Fm.showL, Fm.text]; omega
  | _ => simp [Fm.showL, Fm.text]

theorem show_ne (f : Fm) : f.showL ≠ [] := by
  cases f with
  | qu k v p => cases k <;> simp [Fm.showL]
  | _ => simp [Fm.showL]

/-- negations pushed -/
def Pl.Fm.push : Bool → Fm → Fm
  | b, .tru => if b then .fls else .tru
  | b, .fls => if b then .tru else .fls
  | b, .pr v => if b then .neg (.pr v) else .pr v
  | b, .eq v w => if b then .neg (.eq v w) else .eq v w
  | b, .rel v w => if b then .neg (.rel v w) else .rel v w
  | b, .neg p => p.push (!b)
  | b, .con p q => if b then .dis (p.push b) (q.push b) else .con (p.push b) (q.push b)
  | b, .dis p q => if b then .con (p.push b) (q.push b) else .dis (p.push b) (q.push b)
  | b, .qu .A v p => if b then .qu .S v (p.push b) else .qu .A v (p.push b)
  | b, .qu .S v p => if b then .qu .A v (p.push b) else .qu .S v (p.push b)
  | b, .qu k v p => if b then .neg (.qu k v (p.push false)) else .qu k v (p.push false)

theorem push_le (f : Fm) : ∀ b, (f.push b).text.length ≤ 2 * f.text.length := by
  induction f with
  | qu k v p ih => intro b; have := ih b; have := ih false; cases k <;> cases b <;> simp [Fm.push, Fm.text] <;> omega
  | neg p ih => intro b; have := ih (!b); simp [Fm.push, Fm.text]; omega
  | con p q ihp ihq => intro b; have := ihp b; have := ihq b; cases b <;> simp [Fm.push, Fm.text] <;> omega
  | dis p q ihp ihq => intro b; have := ihp b; have := ihq b; cases b <;> simp [Fm.push, Fm.text] <;> omega
  | _ => intro b; cases b <;> simp [Fm.push, Fm.text]

/-- w in place of v where it is free -/
def Pl.Fm.repl (v w : Fin 4) : Fm → Fm
  | .tru => .tru
  | .fls => .fls
  | .pr u => .pr (if u = v then w else u)
  | .eq u t => .eq (if u = v then w else u) (if t = v then w else t)
  | .rel u t => .rel (if u = v then w else u) (if t = v then w else t)
  | .neg p => .neg (p.repl v w)
  | .con p q => .con (p.repl v w) (q.repl v w)
  | .dis p q => .dis (p.repl v w) (q.repl v w)
  | .qu k u p => if u = v then .qu k u p else .qu k u (p.repl v w)

theorem repl_len (v w : Fin 4) (f : Fm) : (f.repl v w).text.length = f.text.length := by
  induction f with
  | qu k u p ih => by_cases h : u = v <;> simp [Fm.repl, Fm.text, h, ih]
  | neg p ih => simp [Fm.repl, Fm.text, ih]
  | con p q ihp ihq => simp [Fm.repl, Fm.text, ihp, ihq]
  | dis p q ihp ihq => simp [Fm.repl, Fm.text, ihp, ihq]
  | _ => simp [Fm.repl, Fm.text]

/-- the first variable that is not in a set of variables and is not v -/
def freshV (m : Nat) (v : Fin 4) : Option (Fin 4) :=
  if m.testBit 0 = false ∧ v ≠ 0 then some 0 else if m.testBit 1 = false ∧ v ≠ 1 then some 1 else if m.testBit 2 = false ∧ v ≠ 2 then some 2 else if m.testBit 3 = false ∧ v ≠ 3 then some 3 else none

theorem freshV_some {m : Nat} {v w : Fin 4} (h : freshV m v = some w) : m.testBit w.val = false ∧ v ≠ w := by
  unfold freshV at h
  split at h
  · rename_i hh; injection h with h; subst h; exact hh
  split at h
  · rename_i hh; injection h with h; subst h; exact hh
  split at h
  · rename_i hh; injection h with h; subst h; exact hh
  split at h
  · rename_i hh; injection h with h; subst h; exact hh
  · cases h

/-- spelled out without counting -/
def Pl.Fm.spell : Fm → Option Fm
  | .neg p => match p.spell with | some p' => some (.neg p') | none => none
  | .con p q => match p.spell with | some p' => (match q.spell with | some q' => some (.con p' q') | none => none) | none => none
  | .dis p q => match p.spell with | some p' => (match q.spell with | some q' => some (.dis p' q') | none => none) | none => none
  | .qu .A v p => match p.spell with | some p' => some (.qu .A v p') | none => none
  | .qu .S v p => match p.spell with | some p' => some (.qu .S v p') | none => none
  | .qu .c2 v p => match p.spell with
    | some p' => (match freshV p'.allBits v with | some w => some (.qu .S v (.qu .S w (.con (.neg (.eq v w)) (.con p' (p'.repl v w))))) | none => none)
    | none => none
  | .qu .c3 _ _ => none
  | .qu .c4 _ _ => none
  | f => some f

/-! ### how long a formula that is spelled out can be -/

def cardB (m : Nat) : Nat := (varsL m 4).length

theorem cardB_or (a b : Nat) (ha : a < 16) (hb : b < 16) : cardB a ≤ cardB (a ||| b) ∧ cardB b ≤ cardB (a ||| b) := by
  have h : ∀ a b : Fin 16, cardB a.val ≤ cardB (a.val ||| b.val) ∧ cardB b.val ≤ cardB (a.val ||| b.val) := by decide +kernel
  exact h ⟨a, ha⟩ ⟨b, hb⟩

theorem cardB_new (a : Nat) (v w : Fin 4) (ha : a < 16) (hw : a.testBit w.val = false) (hv : v ≠ w) : cardB a + 1 ≤ cardB (1 <<< v.val ||| (1 <<< w.val ||| a)) := by
  have h : ∀ (a : Fin 16) (v w : Fin 4), a.val.testBit w.val = false → v ≠ w → cardB a.val + 1 ≤ cardB (1 <<< v.val ||| (1 <<< w.val ||| a.val)) := by decide +kernel
  exact h ⟨a, ha⟩ v w hw hv

theorem repl_all_or (v w : Fin 4) (f : Fm) : ((f.repl v w).allBits ||| f.allBits) ||| 1 <<< w.val = f.allBits ||| 1 <<< w.val := by
  have hb : ∀ (i : Nat), ((((f.repl v w).allBits ||| f.allBits) ||| 1 <<< w.val).testBit i) = (f.allBits ||| 1 <<< w.val).testBit i := by
    intro i
    simp only [Nat.testBit_or]
    suffices h : (f.repl v w).allBits.testBit i = true → (f.allBits.testBit i || (1 <<< w.val).testBit i) = true by
      cases h1 : (f.repl v w).allBits.testBit i with
      | false => simp
      | true => have := h h1; revert this; cases f.allBits.testBit i <;> cases (1 <<< w.val).testBit i <;> simp
    induction f with
    | tru => simp [Fm.repl, Fm.allBits]
    | fls => simp [Fm.repl, Fm.allBits]
    | pr u =>
      by_cases h : u = v <;> simp only [Fm.repl, Fm.allBits, h, if_true, if_false] <;> intro h <;> simp [h]
    | eq u t =>
      by_cases h : u = v <;> by_cases h2 : t = v <;> simp only [Fm.repl, Fm.allBits, h, h2, if_true, if_false, Nat.testBit_or, Bool.or_eq_true] <;> grind
    | rel u t =>
      by_cases h : u = v <;> by_cases h2 : t = v <;> simp only [Fm.repl, Fm.allBits, h, h2, if_true, if_false, Nat.testBit_or, Bool.or_eq_true] <;> grind
    | neg p ih => exact ih
    | con p q ihp ihq => simp only [Fm.repl, Fm.allBits, Nat.testBit_or, Bool.or_eq_true] at *; grind
    | dis p q ihp ihq => simp only [Fm.repl, Fm.allBits, Nat.testBit_or, Bool.or_eq_true] at *; grind
    | qu k u p ih =>
      by_cases h : u = v <;> simp only [Fm.repl, Fm.allBits, h, if_true, if_false, Nat.testBit_or, Bool.or_eq_true] at * <;> grind
  exact Nat.eq_of_testBit_eq hb

theorem pow_mono16 {a b : Nat} (h : a ≤ b) : 16 ^ a ≤ 16 ^ b := Nat.pow_le_pow_right (by decide) h

theorem spell_grow : ∀ (f g : Fm), f.spell = some g → g.text.length ≤ 16 ^ cardB g.allBits * f.text.length := by
  intro f
  have one : ∀ n : Nat, 1 ≤ 16 ^ n := fun n => Nat.one_le_pow _ _ (by decide)
  have leaf : ∀ (n k : Nat), k ≤ 16 ^ n * k := fun n k => by have := Nat.mul_le_mul_right k (one n); simpa using this
  induction f with
  | tru => intro g h; simp [Fm.spell] at h; subst h; exact leaf _ _
  | fls => intro g h; simp [Fm.spell] at h; subst h; exact leaf _ _
  | pr v => intro g h; simp [Fm.spell] at h; subst h; exact leaf _ _
  | eq v w => intro g h; simp [Fm.spell] at h; subst h; exact leaf _ _
  | rel v w => intro g h; simp [Fm.spell] at h; subst h; exact leaf _ _
  | neg p ih =>
    intro g h
    simp only [Fm.spell] at h
    split at h
    · rename_i p' hp
      injection h with h; subst h
      have := ih p' hp
      have h1 := one (cardB p'.allBits)
      simp only [Fm.text, Fm.allBits, List.length_cons, Nat.mul_add, Nat.mul_one]
      omega
    · cases h
  | con p q ihp ihq =>
    intro g h
    simp only [Fm.spell] at h
    split at h
    · rename_i p' hp
      split at h
      · rename_i q' hq
        injection h with h; subst h
        have h1 := ihp p' hp
        have h2 := ihq q' hq
        have hc := cardB_or _ _ (allBits_lt p') (allBits_lt q')
        have h3 := Nat.mul_le_mul_right p.text.length (pow_mono16 hc.1)
        have h4 := Nat.mul_le_mul_right q.text.length (pow_mono16 hc.2)
        have h5 := one (cardB (p'.allBits ||| q'.allBits))
        simp only [Fm.text, Fm.allBits, List.length_cons, List.length_append, Nat.mul_add, Nat.mul_one]
        omega
      · cases h
    · cases h
  | dis p q ihp ihq =>
    intro g h
    simp only [Fm.spell] at h
    split at h
    · rename_i p' hp
      split at h
      · rename_i q' hq
        injection h with h; subst h
        have h1 := ihp p' hp
        have h2 := ihq q' hq
        have hc := cardB_or _ _ (allBits_lt p') (allBits_lt q')
        have h3 := Nat.mul_le_mul_right p.text.length (pow_mono16 hc.1)
        have h4 := Nat.mul_le_mul_right q.text.length (pow_mono16 hc.2)
        have h5 := one (cardB (p'.allBits ||| q'.allBits))
        simp only [Fm.text, Fm.allBits, List.length_cons, List.length_append, Nat.mul_add, Nat.mul_one]
        omega
      · cases h
    · cases h
  | qu k v p ih =>
    intro g h
    cases k with
    | c3 => simp [Fm.spell] at h
    | c4 => simp [Fm.spell] at h
    | A =>
      simp only [Fm.spell] at h
      split at h
      · rename_i p' hp
        injection h with h; subst h
        have h1 := ih p' hp
        have hc := cardB_or _ _ (bit_lt v) (allBits_lt p')
        have h3 := Nat.mul_le_mul_right p.text.length (pow_mono16 hc.2)
        have h5 := one (cardB (1 <<< v.val ||| p'.allBits))
        simp only [Fm.text, Fm.allBits, List.length_cons, Nat.mul_add, Nat.mul_one]
        omega
      · cases h
    | S =>
      simp only [Fm.spell] at h
      split at h
      · rename_i p' hp
        injection h with h; subst h
        have h1 := ih p' hp
        have hc := cardB_or _ _ (bit_lt v) (allBits_lt p')
        have h3 := Nat.mul_le_mul_right p.text.length (pow_mono16 hc.2)
        have h5 := one (cardB (1 <<< v.val ||| p'.allBits))
        simp only [Fm.text, Fm.allBits, List.length_cons, Nat.mul_add, Nat.mul_one]
        omega
      · cases h
    | c2 =>
      simp only [Fm.spell] at h
      split at h
      · rename_i p' hp
        split at h
        · rename_i w hw
          injection h with h; subst h
          obtain ⟨hw1, hw2⟩ := freshV_some hw
          have h1 := ih p' hp
          have hc := cardB_new _ v w (allBits_lt p') hw1 hw2
          have hl : 1 <<< v.val ||| (1 <<< w.val ||| p'.allBits) ≤ 15 := by
            have := or_lt (bit_lt v) (or_lt (bit_lt w) (allBits_lt p')); omega
          have hall : (Fm.qu .S v (.qu .S w (.con (.neg (.eq v w)) (.con p' (p'.repl v w))))).allBits = 1 <<< v.val ||| (1 <<< w.val ||| p'.allBits) := by
            have h7 := repl_all_or v w p'
            simp only [Fm.allBits]
            apply Nat.eq_of_testBit_eq
            intro i
            have h8 := congrArg (fun n => n.testBit i) h7
            simp only [Nat.testBit_or] at h8 ⊢
            revert h8
            cases (1 <<< v.val).testBit i <;> cases (1 <<< w.val).testBit i <;> cases p'.allBits.testBit i <;> cases (p'.repl v w).allBits.testBit i <;> simp
          rw [hall]
          have h3 := pow_mono16 hc
          rw [Nat.pow_succ] at h3
          have h4 := Nat.mul_le_mul_right p.text.length h3
          have h5 := one (cardB p'.allBits)
          have h6 := repl_len v w p'
          simp only [Fm.text, List.length_cons, List.length_append, List.length_nil, Nat.mul_add, Nat.mul_one] at *
          have h9 : 16 ^ cardB p'.allBits * 16 * p.text.length = 16 * (16 ^ cardB p'.allBits * p.text.length) := by
            rw [Nat.mul_comm (16 ^ cardB p'.allBits) 16, Nat.mul_assoc]
          omega
        · cases h
      · cases h

theorem spell_len {f g : Fm} (h : f.spell = some g) : g.text.length ≤ 65536 * f.text.length := by
  refine Nat.le_trans (spell_grow f g h) (Nat.mul_le_mul_right _ ?_)
  have := varsL_len g.allBits 4
  exact Nat.le_trans (pow_mono16 (b := 4) this) (by decide)

end Go.Proofs.YtpaleogkgfclnaaGreatDoor

namespace Go.Proofs.YtpaleogkgfclnaaGreatDoor
namespace Pl
set_option linter.unusedVariables false

theorem nodup_len_le {α : Type} [DecidableEq α] : ∀ (l m : List α), l.Nodup → (∀ x ∈ l, x ∈ m) → l.length ≤ m.length := by
  intro l
  induction l with
  | nil => intro m _ _; simp
  | cons x l ih =>
    intro m hnd hs
    obtain ⟨h1, h2⟩ := List.nodup_cons.1 hnd
    have hx := hs x (by simp)
    have h3 := ih (m.erase x) h2 (fun y hy => (List.mem_erase_of_ne (by rintro rfl; exact h1 hy)).2 (hs y (by simp [hy])))
    rw [List.length_erase_of_mem hx] at h3
    have : 0 < m.length := List.length_pos_of_mem hx
    simp only [List.length_cons]
    omega

theorem nodup_len_eq {α : Type} [DecidableEq α] {l m : List α} (hl : l.Nodup) (hm : m.Nodup) (h : ∀ x, x ∈ l ↔ x ∈ m) : l.length = m.length :=
  Nat.le_antisymm (nodup_len_le l m hl fun x hx => (h x).1 hx) (nodup_len_le m l hm fun x hx => (h x).2 hx)

/-- an order of all elements -/
structure IsPerm (n : Nat) (l : List Nat) : Prop where
  len : l.length = n
  nodup : l.Nodup
  lt : ∀ x ∈ l, x < n

def app (l : List Nat) (x : Nat) : Nat := l.getD x 0
def comp (l m : List Nat) : List Nat := m.map (app l)
def inv (l : List Nat) : List Nat := (List.range l.length).map fun y => l.idxOf y

theorem app_mem {l : List Nat} {x : Nat} (h : x < l.length) : app l x ∈ l := by
  unfold app
  simp only [List.getD_eq_getElem?_getD, List.getElem?_eq_getElem h, Option.getD_some]
  exact List.getElem_mem h

theorem IsPerm.app_lt {n : Nat} {l : List Nat} (h : IsPerm n l) {x : Nat} (hx : x < n) : app l x < n := h.lt _ (app_mem (by rw [h.len]; exact hx))

theorem IsPerm.mem {n : Nat} {l : List Nat} (h : IsPerm n l) {y : Nat} (hy : y < n) : y ∈ l := by
  rcases Classical.em (y ∈ l) with h1 | h1
  · exact h1
  · have h2 := nodup_len_le (y :: l) (List.range n) (List.nodup_cons.2 ⟨h1, h.nodup⟩) (fun x hx => by
      rcases List.mem_cons.1 hx with rfl | hx
      · exact List.mem_range.2 hy
      · exact List.mem_range.2 (h.lt x hx))
    have := h.len
    simp only [List.length_cons, List.length_range] at h2
    omega

theorem IsPerm.inj {n : Nat} {l : List Nat} (h : IsPerm n l) {x y : Nat} (hx : x < n) (hy : y < n) (e : app l x = app l y) : x = y := by
  unfold app at e
  have h1 := h.len
  simp only [List.getD_eq_getElem?_getD, List.getElem?_eq_getElem (show x < l.length by omega), List.getElem?_eq_getElem (show y < l.length by omega), Option.getD_some] at e
  have hp := List.pairwise_iff_getElem.1 h.nodup
  rcases Nat.lt_trichotomy x y with hlt | heq | hlt
  · exact absurd e (hp x y (by omega) (by omega) hlt)
  · exact heq
  · exact absurd e.symm (hp y x (by omega) (by omega) hlt)

theorem app_comp {l m : List Nat} {x : Nat} (h : x < m.length) : app (comp l m) x = app l (app m x) := by
  unfold app comp
  simp [List.getD, h, app]

theorem app_ext {n : Nat} {l m : List Nat} (h1 : l.length = n) (h2 : m.length = n) (h : ∀ x, x < n → app l x = app m x) : l = m := by
  apply List.ext_getElem (by omega)
  intro i hi hi2
  have := h i (by omega)
  unfold app at this
  simpa [List.getD, hi, hi2] using this

theorem app_idx {l : List Nat} {y : Nat} (h : y ∈ l) : l.idxOf y < l.length ∧ app l (l.idxOf y) = y := by
  have h1 := List.idxOf_lt_length_of_mem h
  refine ⟨h1, ?_⟩
  unfold app
  simp [List.getD, h1]

theorem len_comp (l m : List Nat) : (comp l m).length = m.length := by simp [comp]
theorem len_inv (l : List Nat) : (inv l).length = l.length := by simp [inv]

theorem app_inv {n : Nat} {l : List Nat} (h : IsPerm n l) {y : Nat} (hy : y < n) : app (inv l) y < n ∧ app l (app (inv l) y) = y := by
  have h1 := app_idx (h.mem hy)
  have e : app (inv l) y = l.idxOf y := by
    unfold app inv
    have := h.len
    simp [List.getD, show y < l.length by omega]
  rw [e, ← h.len]
  exact h1

theorem inv_app {n : Nat} {l : List Nat} (h : IsPerm n l) {x : Nat} (hx : x < n) : app (inv l) (app l x) = x := by
  have h1 := app_inv h (h.app_lt hx)
  exact h.inj h1.1 hx h1.2

theorem nodup_of_inj {n : Nat} {l : List Nat} (hl : l.length = n) (h : ∀ x y, x < n → y < n → app l x = app l y → x = y) : l.Nodup := by
  refine List.pairwise_iff_getElem.2 fun i j hi hj hij e => ?_
  have := h i j (by omega) (by omega) (by
    unfold app
    simp only [List.getD_eq_getElem?_getD, List.getElem?_eq_getElem hi, List.getElem?_eq_getElem hj, Option.getD_some, e])
  omega

theorem mem_app {l : List Nat} {y : Nat} (h : y ∈ l) : ∃ x, x < l.length ∧ app l x = y := ⟨_, app_idx h⟩

theorem IsPerm.of {n : Nat} {l : List Nat} (hl : l.length = n) (hlt : ∀ x, x < n → app l x < n) (h : ∀ x y, x < n → y < n → app l x = app l y → x = y) : IsPerm n l :=
  ⟨hl, nodup_of_inj hl h, fun y hy => by obtain ⟨x, hx, rfl⟩ := mem_app hy; exact hlt x (by omega)⟩

theorem IsPerm.comp {n : Nat} {l m : List Nat} (hl : IsPerm n l) (hm : IsPerm n m) : IsPerm n (comp l m) := by
  have e : ∀ x, x < n → app (Pl.comp l m) x = app l (app m x) := fun x hx => app_comp (by rw [hm.len]; exact hx)
  refine .of (by rw [len_comp, hm.len]) (fun x hx => ?_) (fun x y hx hy h => ?_)
  · rw [e x hx]; exact hl.app_lt (hm.app_lt hx)
  · rw [e x hx, e y hy] at h
    exact hm.inj hx hy (hl.inj (hm.app_lt hx) (hm.app_lt hy) h)

theorem IsPerm.inv {n : Nat} {l : List Nat} (hl : IsPerm n l) : IsPerm n (inv l) := by
  refine .of (by rw [len_inv, hl.len]) (fun x hx => (app_inv hl hx).1) (fun x y hx hy h => ?_)
  rw [← (app_inv hl hx).2, ← (app_inv hl hy).2, h]

theorem app_range {n x : Nat} (h : x < n) : app (List.range n) x = x := by
  unfold app; simp [List.getD, h]

theorem IsPerm.range (n : Nat) : IsPerm n (List.range n) := .of (by simp) (fun x hx => by rw [app_range hx]; exact hx) (fun x y hx hy h => by rwa [app_range hx, app_range hy] at h)

theorem comp_assoc {n : Nat} {l m k : List Nat} (hm : IsPerm n m) (hk : IsPerm n k) : comp (comp l m) k = comp l (comp m k) := by
  apply app_ext (n := n) (by rw [len_comp, hk.len]) (by rw [len_comp, len_comp, hk.len])
  intro x hx
  rw [app_comp (by rw [hk.len]; exact hx), app_comp (by rw [hm.len]; exact hk.app_lt hx), app_comp (by rw [len_comp, hk.len]; exact hx), app_comp (by rw [hk.len]; exact hx)]

theorem comp_inv {n : Nat} {l : List Nat} (h : IsPerm n l) : comp l (inv l) = List.range n := by
  apply app_ext (n := n) (by rw [len_comp, len_inv, h.len]) (by simp)
  intro x hx
  rw [app_comp (by rw [len_inv, h.len]; exact hx), (app_inv h hx).2, app_range hx]

theorem inv_comp {n : Nat} {l : List Nat} (h : IsPerm n l) : comp (inv l) l = List.range n := by
  apply app_ext (n := n) (by rw [len_comp, h.len]) (by simp)
  intro x hx
  rw [app_comp (by rw [h.len]; exact hx), inv_app h hx, app_range hx]

theorem comp_range {n : Nat} {l : List Nat} (h : IsPerm n l) : comp l (List.range n) = l := by
  apply app_ext (n := n) (by rw [len_comp]; simp) h.len
  intro x hx
  rw [app_comp (by simpa using hx), app_range hx]

theorem range_comp {n : Nat} {l : List Nat} (h : IsPerm n l) : comp (List.range n) l = l := by
  apply app_ext (n := n) (by rw [len_comp, h.len]) h.len
  intro x hx
  rw [app_comp (by rw [h.len]; exact hx), app_range (h.app_lt hx)]

theorem comp_left_inj {n : Nat} {g l m : List Nat} (hg : IsPerm n g) (hl : IsPerm n l) (hm : IsPerm n m) (e : comp g l = comp g m) : l = m := by
  have : comp (inv g) (comp g l) = comp (inv g) (comp g m) := by rw [e]
  rwa [← comp_assoc hg hl, ← comp_assoc hg hm, inv_comp hg, range_comp hl, range_comp hm] at this

/-- a group of orders -/
structure Grp (n : Nat) (G : List (List Nat)) : Prop where
  nodup : G.Nodup
  perm : ∀ l ∈ G, IsPerm n l
  one : List.range n ∈ G
  comp : ∀ l ∈ G, ∀ m ∈ G, Pl.comp l m ∈ G
  inv : ∀ l ∈ G, Pl.inv l ∈ G

theorem map_nodup {α β : Type} {f : α → β} : ∀ (l : List α), l.Nodup → (∀ x ∈ l, ∀ y ∈ l, f x = f y → x = y) → (l.map f).Nodup := by
  intro l
  induction l with
  | nil => intro _ _; simp
  | cons x l ih =>
    intro h hi
    obtain ⟨h1, h2⟩ := List.nodup_cons.1 h
    rw [List.map_cons, List.nodup_cons]
    refine ⟨fun hm => ?_, ih h2 (fun y hy z hz => hi y (by simp [hy]) z (by simp [hz]))⟩
    obtain ⟨y, hy, e⟩ := List.mem_map.1 hm
    have := hi y (by simp [hy]) x (by simp) e
    subst this
    exact h1 hy

theorem filter_len {α : Type} (p : α → Bool) : ∀ (l : List α), l.length = (l.filter p).length + (l.filter fun x => !p x).length := by
  intro l
  induction l with
  | nil => rfl
  | cons x l ih =>
    cases h : p x <;> simp [h] <;> omega

theorem cosets {n : Nat} {H : List (List Nat)} (hH : Grp n H) : ∀ (k : Nat) (S : List (List Nat)), S.length ≤ k → S.Nodup → (∀ g ∈ S, IsPerm n g) → (∀ g ∈ S, ∀ h ∈ H, comp g h ∈ S) → H.length ∣ S.length := by
  intro k
  induction k with
  | zero =>
    intro S hk _ _ _
    rw [Nat.le_zero.1 hk]
    exact Nat.dvd_zero _
  | succ k ih =>
    intro S hk hnd hp hc
    match S, hk, hnd, hp, hc with
    | [], _, _, _, _ => exact Nat.dvd_zero _
    | g :: S0, hk, hnd, hp, hc =>
      generalize hS : g :: S0 = S at *
      have hg : g ∈ S := by rw [← hS]; simp
      have hC : (H.map (comp g)).Nodup := map_nodup H hH.nodup fun x hx y hy e => comp_left_inj (hp g hg) (hH.perm x hx) (hH.perm y hy) e
      have hlen : (S.filter fun l => decide (l ∈ H.map (comp g))).length = H.length := by
        rw [show H.length = (H.map (comp g)).length by simp]
        refine nodup_len_eq (hnd.filter _) hC fun x => ?_
        rw [List.mem_filter]
        constructor
        · rintro ⟨_, h⟩; simpa using h
        · intro h
          refine ⟨?_, by simpa using h⟩
          obtain ⟨y, hy, rfl⟩ := List.mem_map.1 h
          exact hc g hg y hy
      have hsum := filter_len (fun l => decide (l ∈ H.map (comp g))) S
      have hpos : 0 < H.length := List.length_pos_of_mem hH.one
      have := ih (S.filter fun l => !decide (l ∈ H.map (comp g))) (by omega) (hnd.filter _) (fun x hx => hp x (List.mem_filter.1 hx).1) (fun x hx h hh => by
        obtain ⟨h1, h2⟩ := List.mem_filter.1 hx
        refine List.mem_filter.2 ⟨hc x h1 h hh, ?_⟩
        simp only [Bool.not_eq_true', decide_eq_false_iff_not] at h2 ⊢
        intro hm
        apply h2
        obtain ⟨y, hy, e⟩ := List.mem_map.1 hm
        refine List.mem_map.2 ⟨comp y (inv h), hH.comp _ hy _ (hH.inv _ hh), ?_⟩
        rw [← comp_assoc (hH.perm y hy) (hH.perm h hh).inv, e, comp_assoc (hH.perm h hh) (hH.perm h hh).inv, comp_inv (hH.perm h hh), comp_range (hp x h1)])
      rw [hsum, hlen]
      exact Nat.dvd_add (Nat.dvd_refl _) this

theorem lagrange {n : Nat} {H G : List (List Nat)} (hH : Grp n H) (hG : Grp n G) (hs : ∀ l ∈ H, l ∈ G) : H.length ∣ G.length :=
  cosets hH G.length G (Nat.le_refl _) hG.nodup hG.perm fun g hg h hh => hG.comp g hg h (hs h hh)

theorem fibers {α : Type} (key : α → Nat) (s : Nat) : ∀ (O : List Nat), O.Nodup → ∀ (S : List α), (∀ g ∈ S, key g ∈ O) → (∀ y ∈ O, (S.filter fun g => key g == y).length = s) → S.length = O.length * s := by
  intro O
  induction O with
  | nil =>
    intro _ S h _
    match S, h with
    | [], _ => simp
    | g :: S, h => exact absurd (h g (by simp)) (by simp)
  | cons y O ih =>
    intro hnd S h hf
    obtain ⟨h1, h2⟩ := List.nodup_cons.1 hnd
    have hsum := filter_len (fun g => key g == y) S
    have h3 := ih h2 (S.filter fun g => !(key g == y)) (fun g hg => by
      obtain ⟨h4, h5⟩ := List.mem_filter.1 hg
      rcases List.mem_cons.1 (h g h4) with e | e
      · simp [e] at h5
      · exact e) (fun z hz => by
      rw [← hf z (by simp [hz]), List.filter_filter]
      congr 1
      apply List.filter_congr
      intro g _
      have hzy : z ≠ y := by rintro rfl; exact h1 hz
      by_cases e : key g = z
      · simp [e, hzy]
      · simp [e])
    rw [hsum, hf y (by simp), h3, List.length_cons, Nat.succ_mul]
    omega

/-- the elements to which a group moves one -/
def orbL (n : Nat) (G : List (List Nat)) (x : Nat) : List Nat := (List.range n).filter fun y => G.any fun l => app l x == y

theorem mem_orbL {n : Nat} {G : List (List Nat)} (hG : Grp n G) {x y : Nat} (hx : x < n) : y ∈ orbL n G x ↔ ∃ l ∈ G, app l x = y := by
  unfold orbL
  rw [List.mem_filter, List.mem_range, List.any_eq_true]
  constructor
  · rintro ⟨_, l, hl, e⟩; exact ⟨l, hl, by simpa using e⟩
  · rintro ⟨l, hl, e⟩; exact ⟨by rw [← e]; exact (hG.perm l hl).app_lt hx, l, hl, by simpa using e⟩

theorem orb_dvd {n : Nat} {G : List (List Nat)} (hG : Grp n G) {x : Nat} (hx : x < n) : (orbL n G x).length ∣ G.length := by
  have hf := fibers (fun l => app l x) (G.filter fun l => app l x == x).length (orbL n G x) (List.nodup_range.filter _) G (fun g hg => (mem_orbL hG hx).2 ⟨g, hg, rfl⟩) (fun y hy => by
    obtain ⟨s, hs, rfl⟩ := (mem_orbL hG hx).1 hy
    have hps := hG.perm s hs
    apply Nat.le_antisymm
    · rw [show (G.filter fun l => app l x == app s x).length = ((G.filter fun l => app l x == app s x).map (comp (inv s))).length by simp]
      refine nodup_len_le _ _ (map_nodup _ (hG.nodup.filter _) fun a ha b hb e => comp_left_inj hps.inv (hG.perm a (List.mem_filter.1 ha).1) (hG.perm b (List.mem_filter.1 hb).1) e) fun a ha => ?_
      obtain ⟨b, hb, rfl⟩ := List.mem_map.1 ha
      obtain ⟨h1, h2⟩ := List.mem_filter.1 hb
      have h3 : app b x = app s x := by simpa using h2
      refine List.mem_filter.2 ⟨hG.comp _ (hG.inv _ hs) _ h1, ?_⟩
      rw [app_comp (by rw [(hG.perm b h1).len]; exact hx), h3, inv_app hps hx]
      simp
    · rw [show (G.filter fun l => app l x == x).length = ((G.filter fun l => app l x == x).map (comp s)).length by simp]
      refine nodup_len_le _ _ (map_nodup _ (hG.nodup.filter _) fun a ha b hb e => comp_left_inj hps (hG.perm a (List.mem_filter.1 ha).1) (hG.perm b (List.mem_filter.1 hb).1) e) fun a ha => ?_
      obtain ⟨b, hb, rfl⟩ := List.mem_map.1 ha
      obtain ⟨h1, h2⟩ := List.mem_filter.1 hb
      have h3 : app b x = x := by simpa using h2
      refine List.mem_filter.2 ⟨hG.comp _ hs _ h1, ?_⟩
      rw [app_comp (by rw [(hG.perm b h1).len]; exact hx), h3]
      simp)
  rw [hf]
  exact Nat.dvd_mul_right _ _

/-! ### isomorphisms -/

theorem iso_perm {a b : St} {l : List Nat} (h : l ∈ isos a b) : IsPerm a.n l := by
  obtain ⟨h1, h2⟩ := mem_isos.1 h
  exact ⟨h1, h2.nodup, h2.lt⟩

theorem mem_isos_iff {a b : St} {l : List Nat} : l ∈ isos a b ↔ IsPerm a.n l ∧ (∀ i, i < a.n → a.inS (app l i) = b.inS i) ∧ ∀ i j, i < a.n → j < a.n → a.inR (app l i) (app l j) = b.inR i j := by
  rw [mem_isos]
  constructor
  · rintro ⟨h1, h2⟩; exact ⟨⟨h1, h2.nodup, h2.lt⟩, fun i hi => h2.set i (by omega), fun i j hi hj => h2.rel i j (by omega) (by omega)⟩
  · rintro ⟨h1, h2, h3⟩; exact ⟨h1.len, h1.nodup, h1.lt, fun i hi => h2 i (by rw [← h1.len]; exact hi), fun i j hi hj => h3 i j (by rw [← h1.len]; exact hi) (by rw [← h1.len]; exact hj)⟩

theorem iso_comp {a b c : St} (hab : a.n = b.n) {l m : List Nat} (hl : l ∈ isos a b) (hm : m ∈ isos b c) : comp l m ∈ isos a c := by
  obtain ⟨h1, h2, h3⟩ := mem_isos_iff.1 hl
  obtain ⟨g1, g2, g3⟩ := mem_isos_iff.1 hm
  rw [← hab] at g1 g2 g3
  have e : ∀ x, x < a.n → app (comp l m) x = app l (app m x) := fun x hx => app_comp (by rw [g1.len]; exact hx)
  exact mem_isos_iff.2 ⟨h1.comp g1, fun i hi => by rw [e i hi, h2 _ (g1.app_lt hi), g2 i hi], fun i j hi hj => by rw [e i hi, e j hj, h3 _ _ (g1.app_lt hi) (g1.app_lt hj), g3 i j hi hj]⟩

theorem iso_inv {a b : St} (hab : a.n = b.n) {l : List Nat} (hl : l ∈ isos a b) : inv l ∈ isos b a := by
  obtain ⟨h1, h2, h3⟩ := mem_isos_iff.1 hl
  refine mem_isos_iff.2 ⟨by rw [← hab]; exact h1.inv, fun i hi => ?_, fun i j hi hj => ?_⟩
  · rw [← hab] at hi
    obtain ⟨g1, g2⟩ := app_inv h1 hi
    rw [← h2 _ g1, g2]
  · rw [← hab] at hi hj
    obtain ⟨g1, g2⟩ := app_inv h1 hi
    obtain ⟨g3, g4⟩ := app_inv h1 hj
    rw [← h3 _ _ g1 g3, g2, g4]

theorem iso_refl (a : St) : List.range a.n ∈ isos a a :=
  mem_isos_iff.2 ⟨.range _, fun i hi => by rw [app_range hi], fun i j hi hj => by rw [app_range hi, app_range hj]⟩

theorem aut_grp (a : St) : Grp a.n (isos a a) where
  nodup := isos_nodup a a
  perm l h := iso_perm h
  one := iso_refl a
  comp l hl m hm := iso_comp rfl hl hm
  inv l hl := iso_inv rfl hl

/-- isomorphic structures have as many symmetries -/
theorem isos_count {a b : St} (hab : a.n = b.n) {l : List Nat} (hl : l ∈ isos a b) : (isos a a).length = (isos b b).length := by
  have key : ∀ {a b : St} (_ : a.n = b.n) {l : List Nat} (_ : l ∈ isos a b), (isos a a).length ≤ (isos b b).length := by
    intro a b hab l hl
    have hli := iso_inv hab hl
    have hp := iso_perm hl
    rw [show (isos a a).length = ((isos a a).map fun m => comp (inv l) (comp m l)).length by simp]
    refine nodup_len_le _ _ (map_nodup _ (isos_nodup a a) fun x hx y hy e => ?_) fun x hx => ?_
    · have hx' := iso_perm hx
      have hy' := iso_perm hy
      have e2 := comp_left_inj hp.inv (hx'.comp hp) (hy'.comp hp) e
      have e3 : comp (comp x l) (inv l) = comp (comp y l) (inv l) := by rw [e2]
      rwa [comp_assoc hp hp.inv, comp_assoc hp hp.inv, comp_inv hp, comp_range hx', comp_range hy'] at e3
    · obtain ⟨m, hm, rfl⟩ := List.mem_map.1 hx
      exact iso_comp hab.symm hli (iso_comp rfl hm hl)
  exact Nat.le_antisymm (key hab hl) (key hab.symm (iso_inv hab hl))

/-! ### the number of all orders -/

def fact : Nat → Nat
  | 0 => 1
  | n + 1 => (n + 1) * fact n

def noSt (n : Nat) : St := mkSt n (fun _ => false) (fun _ _ => false)

theorem flatMap_len {α : Type} (f : α → List (List Nat)) (k : Nat) : ∀ (l : List α), (∀ x ∈ l, (f x).length = k) → (l.flatMap f).length = l.length * k := by
  intro l
  induction l with
  | nil => intro _; simp
  | cons x l ih =>
    intro h
    rw [List.flatMap_cons, List.length_append, h x (by simp), ih (fun y hy => h y (by simp [hy])), List.length_cons, Nat.succ_mul]
    omega

theorem flatMap_if {α : Type} (p : α → Bool) (f : α → List (List Nat)) : ∀ (l : List α), (l.flatMap fun x => if p x then f x else []) = (l.filter p).flatMap f := by
  intro l
  induction l with
  | nil => rfl
  | cons x l ih =>
    cases h : p x <;> simp [h, ih]

theorem noSt_shapes {n : Nat} : ∀ (m : Nat) (o : List Nat), o.length + m = n → o.Nodup → (∀ x ∈ o, x < n) → (shapes (noSt n) (noSt n) m o).length = fact m := by
  intro m
  induction m with
  | zero => intro o _ _ _; rfl
  | succ m ih =>
    intro o hl hnd hlt
    have hn : ∀ x, x < n → nextB (noSt n) (noSt n) o x = !o.contains x := by
      intro x hx
      have hS : ∀ y, y < n → (noSt n).inS y = false := fun y hy => mkSt_inS hy
      have hR : ∀ y z, y < n → z < n → (noSt n).inR y z = false := fun y z hy hz => mkSt_inR hy hz
      unfold nextB fitsB
      have hol : o.length < n := by omega
      have hall : ((List.range o.length).all fun k => (noSt n).inR x (o.getD k 0) == (noSt n).inR o.length k && (noSt n).inR (o.getD k 0) x == (noSt n).inR k o.length) = true := by
        rw [List.all_eq_true]
        intro k hk
        have hk' := List.mem_range.1 hk
        have hok : o.getD k 0 < n := hlt _ (by
          rw [List.getD_eq_getElem?_getD, List.getElem?_eq_getElem hk', Option.getD_some]
          exact List.getElem_mem hk')
        rw [hR _ _ hx hok, hR _ _ hol (by omega), hR _ _ hok hx, hR _ _ (by omega) hol]
        rfl
      rw [hall, hS _ hx, hS _ hol, hR _ _ hx hx, hR _ _ hol hol]
      simp
    simp only [shapes]
    rw [flatMap_if]
    have hfil : ((List.range (noSt n).n).filter (nextB (noSt n) (noSt n) o)).length = m + 1 := by
      have h1 : (List.range (noSt n).n).filter (nextB (noSt n) (noSt n) o) = (List.range n).filter fun x => !o.contains x := by
        apply List.filter_congr
        intro x hx
        exact hn x (List.mem_range.1 hx)
      rw [h1]
      have h2 := filter_len (fun x => o.contains x) (List.range n)
      have h3 : ((List.range n).filter fun x => o.contains x).length = o.length := by
        refine nodup_len_eq (List.nodup_range.filter _) hnd fun x => ?_
        rw [List.mem_filter, List.mem_range]
        simp only [List.contains_eq_mem, decide_eq_true_eq]
        exact ⟨fun h => h.2, fun h => ⟨hlt x h, h⟩⟩
      simp only [List.length_range] at h2
      omega
    rw [flatMap_len _ (fact m) _ (fun x hx => by
      obtain ⟨h1, h2⟩ := List.mem_filter.1 hx
      have hxn : x < n := List.mem_range.1 h1
      rw [hn x hxn] at h2
      have hxo : x ∉ o := by simpa using h2
      refine ih _ (by simp; omega) ?_ ?_
      · rw [List.nodup_append]
        exact ⟨hnd, by simp, fun y hy z hz => by simp only [List.mem_singleton] at hz; subst hz; rintro rfl; exact hxo hy⟩
      · intro y hy
        rcases List.mem_append.1 hy with hy | hy
        · exact hlt y hy
        · simp only [List.mem_singleton] at hy; subst hy; exact hxn), hfil]
    rfl

theorem noSt_count (n : Nat) : (isos (noSt n) (noSt n)).length = fact n := noSt_shapes n [] (by simp) (by simp) (by simp)

theorem count_dvd_fact (a : St) : (isos a a).length ∣ fact a.n := by
  rw [← noSt_count]
  refine lagrange (aut_grp a) (aut_grp (noSt a.n)) fun l hl => ?_
  have hp := iso_perm hl
  refine mem_isos_iff.2 ⟨hp, fun i hi => ?_, fun i j hi hj => ?_⟩
  · have hi2 : i < a.n := hi
    have h1 : (noSt a.n).inS (app l i) = false := mkSt_inS (f := fun _ => false) (hp.app_lt hi2)
    have h2 : (noSt a.n).inS i = false := mkSt_inS (f := fun _ => false) hi2
    rw [h1, h2]
  · have hi2 : i < a.n := hi
    have hj2 : j < a.n := hj
    have h1 : (noSt a.n).inR (app l i) (app l j) = false := mkSt_inR (g := fun _ _ => false) (hp.app_lt hi2) (hp.app_lt hj2)
    have h2 : (noSt a.n).inR i j = false := mkSt_inR (g := fun _ _ => false) hi2 hj2
    rw [h1, h2]

end Pl
end Go.Proofs.YtpaleogkgfclnaaGreatDoor

namespace Go.Proofs.YtpaleogkgfclnaaGreatDoor
open Pl

/-- elements for the variables -/
abbrev Pl.Env := Fin 4 → Nat

def Pl.upd (e : Env) (v : Fin 4) (x : Nat) : Env := fun u => if u = v then x else e u

def Pl.cnt (n : Nat) (p : Nat → Bool) : Nat := ((List.range n).filter p).length

/-- a quantifier's word on how many elements there are -/
def Pl.Qn.says (k : Qn) (n c : Nat) : Bool := match k with
  | .A => c == n
  | .S => decide (0 < c)
  | .c2 => decide (2 ≤ c)
  | .c3 => decide (3 ≤ c)
  | .c4 => decide (4 ≤ c)

/-- a formula is true -/
def Pl.Fm.holds (a : St) : Fm → Env → Bool
  | .tru, _ => true
  | .fls, _ => false
  | .pr v, e => a.inS (e v)
  | .eq v w, e => e v == e w
  | .rel v w, e => a.inR (e v) (e w)
  | .neg p, e => !(p.holds a e)
  | .con p q, e => p.holds a e && q.holds a e
  | .dis p q, e => p.holds a e || q.holds a e
  | .qu k v p, e => k.says a.n (cnt a.n fun x => p.holds a (upd e v x))

theorem Pl.cnt_congr {n : Nat} {p q : Nat → Bool} (h : ∀ x, x < n → p x = q x) : cnt n p = cnt n q := by
  unfold cnt
  rw [List.filter_congr fun x hx => h x (List.mem_range.1 hx)]

theorem Pl.cnt_le (n : Nat) (p : Nat → Bool) : cnt n p ≤ n := by
  unfold cnt
  have := List.length_filter_le p (List.range n)
  simpa using this

theorem Pl.cnt_succ (n : Nat) (p : Nat → Bool) : cnt (n + 1) p = cnt n p + if p n then 1 else 0 := by
  unfold cnt
  rw [List.range_succ, List.filter_append, List.length_append]
  cases h : p n <;> simp [h]

theorem Pl.cnt_all {n : Nat} {p : Nat → Bool} : cnt n p = n ↔ ∀ x, x < n → p x = true := by
  induction n with
  | zero => simp [cnt]
  | succ n ih =>
    rw [cnt_succ]
    have hle := cnt_le n p
    constructor
    · intro h x hx
      cases hp : p n with
      | false => rw [hp] at h; simp at h; omega
      | true =>
        rw [hp] at h
        simp at h
        by_cases e : x = n
        · subst e; exact hp
        · exact ih.1 h x (by omega)
    · intro h
      rw [h n (by omega), ih.2 fun x hx => h x (by omega)]
      rfl

theorem Pl.cnt_pos {n : Nat} {p : Nat → Bool} : 0 < cnt n p ↔ ∃ x, x < n ∧ p x = true := by
  unfold cnt
  rw [List.length_pos_iff_exists_mem]
  constructor
  · rintro ⟨x, hx⟩; obtain ⟨h1, h2⟩ := List.mem_filter.1 hx; exact ⟨x, List.mem_range.1 h1, h2⟩
  · rintro ⟨x, h1, h2⟩; exact ⟨x, List.mem_filter.2 ⟨List.mem_range.2 h1, h2⟩⟩

theorem Pl.cnt_not (n : Nat) (p : Nat → Bool) : cnt n p + cnt n (fun x => !p x) = n := by
  unfold cnt
  have := filter_len p (List.range n)
  simpa using this.symm

theorem Pl.cnt_perm {n : Nat} {l : List Nat} (hl : IsPerm n l) (p : Nat → Bool) : cnt n (fun x => p (app l x)) = cnt n p := by
  unfold cnt
  rw [show ((List.range n).filter fun x => p (app l x)).length = (((List.range n).filter fun x => p (app l x)).map (app l)).length by simp]
  refine nodup_len_eq (map_nodup _ (List.nodup_range.filter _) fun x hx y hy e => hl.inj (List.mem_range.1 (List.mem_filter.1 hx).1) (List.mem_range.1 (List.mem_filter.1 hy).1) e) (List.nodup_range.filter _) fun x => ?_
  rw [List.mem_map, List.mem_filter, List.mem_range]
  constructor
  · rintro ⟨y, hy, rfl⟩
    obtain ⟨h1, h2⟩ := List.mem_filter.1 hy
    exact ⟨hl.app_lt (List.mem_range.1 h1), h2⟩
  · rintro ⟨h1, h2⟩
    obtain ⟨g1, g2⟩ := app_inv hl h1
    exact ⟨app (inv l) x, List.mem_filter.2 ⟨List.mem_range.2 g1, by rw [g2]; exact h2⟩, g2⟩

theorem Pl.upd_same (e : Env) (v : Fin 4) (x : Nat) : upd e v x v = x := by simp [upd]
theorem Pl.upd_other {e : Env} {v u : Fin 4} {x : Nat} (h : u ≠ v) : upd e v x u = e u := by simp [upd, h]

/-- the variables that are free -/
def Pl.Fm.isFree (f : Fm) (v : Fin 4) : Prop := f.freeBits.testBit v.val = true

theorem bit_test (v u : Fin 4) : (1 <<< v.val).testBit u.val = decide (v = u) := by revert v u; decide

theorem free_qu (k : Qn) (v : Fin 4) (p : Fm) (u : Fin 4) : (Fm.qu k v p).isFree u ↔ p.isFree u ∧ u ≠ v := by
  unfold Fm.isFree
  simp only [Fm.freeBits, Nat.testBit_and, Nat.testBit_xor, bit_test]
  have h15 : (15 : Nat).testBit u.val = true := by revert u; decide
  rw [h15]
  by_cases h : v = u
  · subst h; simp
  · simp [h, Ne.symm h]

/-- only the free variables matter -/
theorem holds_free (a : St) : ∀ (f : Fm) (e e' : Env), (∀ v, f.isFree v → e v = e' v) → f.holds a e = f.holds a e' := by
  intro f
  induction f with
  | tru => intros; rfl
  | fls => intros; rfl
  | pr v => intro e e' h; simp only [Fm.holds]; rw [h v (by simp [Fm.isFree, Fm.freeBits, bit_test])]
  | eq v w => intro e e' h; simp only [Fm.holds]; rw [h v (by simp [Fm.isFree, Fm.freeBits, bit_test]), h w (by simp [Fm.isFree, Fm.freeBits, bit_test])]
  | rel v w => intro e e' h; simp only [Fm.holds]; rw [h v (by simp [Fm.isFree, Fm.freeBits, bit_test]), h w (by simp [Fm.isFree, Fm.freeBits, bit_test])]
  | neg p ih => intro e e' h; simp only [Fm.holds]; rw [ih e e' h]
  | con p q ihp ihq =>
    intro e e' h
    simp only [Fm.holds]
    rw [ihp e e' fun v hv => h v (by unfold Fm.isFree at *; simp [Fm.freeBits, hv]), ihq e e' fun v hv => h v (by unfold Fm.isFree at *; simp [Fm.freeBits, hv])]
  | dis p q ihp ihq =>
    intro e e' h
    simp only [Fm.holds]
    rw [ihp e e' fun v hv => h v (by unfold Fm.isFree at *; simp [Fm.freeBits, hv]), ihq e e' fun v hv => h v (by unfold Fm.isFree at *; simp [Fm.freeBits, hv])]
  | qu k v p ih =>
    intro e e' h
    simp only [Fm.holds]
    rw [cnt_congr fun x _ => ih (upd e v x) (upd e' v x) fun u hu => ?_]
    by_cases huv : u = v
    · subst huv; rw [upd_same, upd_same]
    · rw [upd_other huv, upd_other huv]; exact h u ((free_qu k v p u).2 ⟨hu, huv⟩)

/-- a structure that is turned into another one: the same formulas are true of the elements that are turned -/
theorem holds_iso {a b : St} (hab : a.n = b.n) {l : List Nat} (hl : l ∈ isos a b) : ∀ (f : Fm) (e : Env), (∀ v, f.isFree v → e v < b.n) → f.holds b e = f.holds a (fun v => app l (e v)) := by
  obtain ⟨h1, h2, h3⟩ := mem_isos_iff.1 hl
  intro f
  induction f with
  | tru => intros; rfl
  | fls => intros; rfl
  | pr v => intro e h; simp only [Fm.holds]; rw [h2 _ (by rw [hab]; exact h v (by simp [Fm.isFree, Fm.freeBits, bit_test]))]
  | eq v w =>
    intro e h
    have hv := h v (by simp [Fm.isFree, Fm.freeBits, bit_test])
    have hw := h w (by simp [Fm.isFree, Fm.freeBits, bit_test])
    rw [← hab] at hv hw
    simp only [Fm.holds]
    rw [Bool.eq_iff_iff, beq_iff_eq, beq_iff_eq]
    exact ⟨fun e1 => by rw [e1], fun e1 => h1.inj hv hw e1⟩
  | rel v w =>
    intro e h
    simp only [Fm.holds]
    rw [h3 _ _ (by rw [hab]; exact h v (by simp [Fm.isFree, Fm.freeBits, bit_test])) (by rw [hab]; exact h w (by simp [Fm.isFree, Fm.freeBits, bit_test]))]
  | neg p ih => intro e h; simp only [Fm.holds]; rw [ih e h]
  | con p q ihp ihq =>
    intro e h
    simp only [Fm.holds]
    rw [ihp e fun v hv => h v (by unfold Fm.isFree at *; simp [Fm.freeBits, hv]), ihq e fun v hv => h v (by unfold Fm.isFree at *; simp [Fm.freeBits, hv])]
  | dis p q ihp ihq =>
    intro e h
    simp only [Fm.holds]
    rw [ihp e fun v hv => h v (by unfold Fm.isFree at *; simp [Fm.freeBits, hv]), ihq e fun v hv => h v (by unfold Fm.isFree at *; simp [Fm.freeBits, hv])]
  | qu k v p ih =>
    intro e h
    simp only [Fm.holds]
    rw [← hab]
    congr 1
    rw [← cnt_perm h1 (fun y => p.holds a (upd (fun u => app l (e u)) v y))]
    refine cnt_congr fun x hx => ?_
    rw [ih (upd e v x) fun u hu => ?_]
    · apply holds_free
      intro u hu
      by_cases huv : u = v
      · subst huv; rw [upd_same, upd_same]
      · rw [upd_other huv, upd_other huv]
    · by_cases huv : u = v
      · subst huv; rw [upd_same, ← hab]; exact hx
      · rw [upd_other huv]; exact h u ((free_qu k v p u).2 ⟨hu, huv⟩)

/-- pushed negations -/
theorem holds_push (a : St) : ∀ (f : Fm) (b : Bool) (e : Env), (f.push b).holds a e = (if b then !(f.holds a e) else f.holds a e) := by
  intro f
  induction f with
  | tru => intro b e; cases b <;> rfl
  | fls => intro b e; cases b <;> rfl
  | pr v => intro b e; cases b <;> rfl
  | eq v w => intro b e; cases b <;> rfl
  | rel v w => intro b e; cases b <;> rfl
  | neg p ih => intro b e; simp only [Fm.push, Fm.holds, ih]; cases b <;> simp
  | con p q ihp ihq => intro b e; cases b <;> simp [Fm.push, Fm.holds, ihp, ihq]
  | dis p q ihp ihq => intro b e; cases b <;> simp [Fm.push, Fm.holds, ihp, ihq]
  | qu k v p ih =>
    intro b e
    have h2 : cnt a.n (fun x => !(p.holds a (upd e v x))) + cnt a.n (fun x => p.holds a (upd e v x)) = a.n := by
      have := cnt_not a.n (fun x => p.holds a (upd e v x)); omega
    cases k <;> cases b <;> simp only [Fm.push, Fm.holds, ih, if_true, if_false, Bool.false_eq_true, Bool.not_true, Bool.not_false, Bool.not_not] <;> try rfl
    · simp only [Qn.says]
      rw [Bool.eq_iff_iff]
      simp only [decide_eq_true_eq, Bool.not_eq_true', beq_eq_false_iff_ne]
      omega
    · simp only [Qn.says]
      rw [Bool.eq_iff_iff]
      simp only [beq_iff_eq, Bool.not_eq_true', decide_eq_false_iff_not]
      omega

end Go.Proofs.YtpaleogkgfclnaaGreatDoor
