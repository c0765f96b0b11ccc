/-
  Laws of the functions that the claim reaches, one after the other (packed by a program of the prover's: Struct, Elems, In, Mk, Cache, IsTrue, DecA, Reg). Conditions: texts below the reach.
-/
import Derived.Test.YtpaleogkgfclnaaDoorPd2
import Derived.Deep.RegionHeld3
import Derived.Deep.RegionWith
import Derived.RegionTactic
import Derived.Deep.DrawnRows
import Derived.Deep.LoopGhost
import Derived.Deep.DeepCutAuto
import Derived.OrdersHeld
set_option linter.unusedSimpArgs false
set_option linter.unusedVariables false

namespace Go.Proofs.YtpaleogkgfclnaaDoor
open Go.RowKit
open Pl
set_option linter.unusedSimpArgs false
set_option linter.unusedVariables false

/-- a structure in Go -/
abbrev stV (i : Int) (s r : ByteArray) : Value := .agg #[.int .i64 i, .string s, .string r]

/-- a structure is valid -/
def okB (i : Int) (s r : ByteArray) : Bool := decide (1 ≤ i) && (decide (i ≤ 8) && (bitsB s i && bitsB r (i * i)))

theorem sq_bd {i : Int} (h1 : 1 ≤ i) (h2 : i ≤ 8) : 1 ≤ i * i ∧ i * i ≤ 64 := by
  have : i = 1 ∨ i = 2 ∨ i = 3 ∨ i = 4 ∨ i = 5 ∨ i = 6 ∨ i = 7 ∨ i = 8 := by omega
  rcases this with rfl | rfl | rfl | rfl | rfl | rfl | rfl | rfl <;> decide

theorem bits_get (s : ByteArray) (k : Nat) (h : k < s.size) : bitsL (s.data.toList.take (k + 1)) = (bitsL (s.data.toList.take k) && (s[k] == 48 || s[k] == 49)) := by
  unfold bitsL
  rw [List.take_succ_eq_append_getElem (by simpa using h), List.all_append]
  simp [List.all_cons]
  rfl

theorem bits_no (s : ByteArray) (k : Nat) (h : k < s.size) (hb : (s[k] == 48 || s[k] == 49) = false) : bitsL s.data.toList = false := by
  rw [Bool.eq_false_iff]
  intro e
  unfold bitsL at e
  have := List.all_eq_true.1 e s[k] (by rw [show s[k] = s.data.toList[k]'(by simpa using h) from rfl]; exact List.getElem_mem _)
  rw [hb] at this
  cases this

theorem bit_ne {b : UInt8} {m : Int} {c : UInt8} (hm : m = c.toNat) : ((b.toNat : Int) == m) = (b == c) := by
  subst hm
  rw [Bool.eq_iff_iff, beq_iff_eq, beq_iff_eq]
  exact ⟨fun h => UInt8.toNat_inj.1 (by omega), fun h => by rw [h]⟩

set_option maxHeartbeats 1000000 in
theorem isStructure_calls (i : Int) (s r : ByteArray) (w : World) (hs : s.size ≤ maxLen) (hr : r.size ≤ maxLen) :
    Calls Tryd.prog 35 #[stV i s r] w fun e w' => e = .returned (.bool (okB i s r)) ∧ Below w.heap.size w w' := by
  have Hs := Lib.hid hs
  have Hr := Lib.hid hr
  clear hs hr
  by_cases h1 : 1 ≤ i
  · by_cases h2 : i ≤ 8
    · obtain ⟨g1, g2⟩ := sq_bd h1 h2
      have c1 := areBits_calls s i
      have c2 := areBits_calls r (i * i)
      obtain ⟨q, hq⟩ : ∃ q, q = i * i := ⟨_, rfl⟩
      have hv : okB i s r = (bitsB s i && bitsB r q) := by unfold okB; rw [decide_eq_true h1, decide_eq_true h2, hq]; rfl
      rw [hv]
      rw [← hq] at g1 g2 c2
      have hmul : IntKind.i64.wrap (i * i) = q := by rw [← hq]; exact IntWalk.i64_in _ (by omega)
      have C1 := Lib.hid c1
      have C2 := Lib.hid c2
      clear c1 c2 hv
      cases hb1 : bitsB s i with
      | false =>
        rw [hb1] at C1
        clear hq hmul hb1
        go_enter Tryd.func35, Tryd.ntmps35
        go_wp2_with (go_at_call 56; (with_reducible refine (C1.out _ Hs.out).mono ?_); rintro e w' ⟨rfl, hx1⟩)
        go_ret
        exact ⟨rfl, ((Below.refl _ _).alloc (Nat.le_refl _) _).trans (hx1.mono (by simp))⟩
      | true =>
        rw [hb1] at C1
        have Hq := Lib.hid hq
        clear hq hb1
        go_enter Tryd.func35, Tryd.ntmps35
        go_wp2_with fail
        refine (C1.out _ Hs.out).mono ?_
        rintro e w1 ⟨rfl, hx1⟩
        obtain ⟨hc, hf⟩ := bcell hx1
        have Hx1 := Lib.hid hx1
        clear hx1
        go_wp2_with fail
        refine (C2.out _ Hr.out).mono ?_
        rintro e w2 ⟨rfl, hx2⟩
        have Hx2 := Lib.hid hx2
        clear hx2 hc hf
        go_wp2_with fail
        go_ret
        exact ⟨rfl, (((Below.refl _ _).alloc (Nat.le_refl _) _).trans (Hx1.out.mono (by simp))).trans (Hx2.out.mono (by have := Hx1.out.size; simp at this; omega))⟩
    · have hv : okB i s r = false := by unfold okB; rw [decide_eq_false h2]; simp
      rw [hv]
      have hd : decide (i ≤ 8) = false := decide_eq_false h2
      clear hv
      go_enter Tryd.func35, Tryd.ntmps35
      go_wp2_with fail
      go_ret
      exact ⟨rfl, (Below.refl _ _).alloc (Nat.le_refl _) _⟩
  · have hv : okB i s r = false := by unfold okB; rw [decide_eq_false h1]; simp
    rw [hv]
    have hd : decide (1 ≤ i) = false := decide_eq_false h1
    clear hv
    go_enter Tryd.func35, Tryd.ntmps35
    go_wp2_with fail
    go_ret
    exact ⟨rfl, (Below.refl _ _).alloc (Nat.le_refl _) _⟩

theorem StructureValid_impl (i : Int) (s r : ByteArray) (w : World) (hs : s.size ≤ maxLen) (hr : r.size ≤ maxLen) :
    Calls Tryd.prog 10 #[stV i s r] w fun e w' => e = .returned (.bool (okB i s r)) ∧ Below w.heap.size w w' := by
  have hc : ∀ W, Calls Tryd.prog 35 #[stV i s r] W fun e w' => e = .returned (.bool (okB i s r)) ∧ Below W.heap.size W w' := fun W => isStructure_calls i s r W hs hr
  have Hc := Lib.hid hc
  clear hc hs hr
  go_enter Tryd.func10, Tryd.ntmps10
  go_wp2_with (go_at_call 35; (with_reducible refine (Hc.out _).mono ?_); rintro e w' ⟨rfl, hx1⟩)
  go_ret
  exact ⟨rfl, ((Below.refl _ _).alloc (Nat.le_refl _) _).trans (hx1.mono (by simp))⟩

theorem l1In_calls (n lo hi : Int) (w : World) :
    Calls Tryd.prog 45 #[.int .i64 n, .int .i64 lo, .int .i64 hi] w fun e w' => e = .returned (.bool (decide (lo ≤ n) && decide (n ≤ hi))) ∧ w = w' := by
  by_cases h1 : lo ≤ n
  · by_cases h2 : n ≤ hi
    · rw [decide_eq_true h1, decide_eq_true h2]
      go_enter Tryd.func45, Tryd.ntmps45
      go_wp2_with fail
      go_ret
      exact ⟨rfl, rfl⟩
    · rw [decide_eq_true h1, decide_eq_false h2]
      have hd : decide (n ≤ hi) = false := decide_eq_false h2
      go_enter Tryd.func45, Tryd.ntmps45
      go_wp2_with fail
      go_ret
      exact ⟨rfl, rfl⟩
  · rw [decide_eq_false h1]
    have hd : decide (lo ≤ n) = false := decide_eq_false h1
    go_enter Tryd.func45, Tryd.ntmps45
    go_wp2_with fail
    go_ret
    exact ⟨rfl, rfl⟩

set_option maxHeartbeats 400000 in
theorem l1Bits_calls (s : ByteArray) (n : Int) (w : World) (hs : s.size ≤ maxLen) :
    Calls Tryd.prog 63 #[.string s, .int .i64 n] w fun e w' => e = .returned (.bool (bitsB s n)) ∧ w = w' := by
  unfold maxLen at hs
  have hv1 : bitsL s.data.toList = false → bitsB s n = false := fun h => by unfold bitsB; rw [h, Bool.and_false]
  have hv2 : bitsL s.data.toList = true → bitsB s n = decide ((s.size : Int) = n) := fun h => by unfold bitsB; rw [h, Bool.and_true]
  obtain ⟨V, hV⟩ : ∃ V, V = bitsB s n := ⟨_, rfl⟩
  rw [← hV] at hv1 hv2 ⊢
  have Hv1 := Lib.hid hv1
  have Hv2 := Lib.hid hv2
  clear hv1 hv2 hV
  go_enter Tryd.func63, Tryd.ntmps63
  go_wp2
  go_loop [5] (fun i => ∃ k : Nat, k ≤ s.size ∧ i = .int .i64 k ∧ bitsL (s.data.toList.take k) = true) (fun i => s.size - (intOf i).toNat)
  case atStart => exact ⟨0, Nat.zero_le _, rfl, rfl⟩
  case round =>
    obtain ⟨k, hk, rfl, hb⟩ := hrel
    have Hb := Lib.hid hb
    clear hb
    by_cases hlt : k < s.size
    · have hg := bits_get s k hlt
      have hn := bits_no s k hlt
      rw [← bit_ne (m := 48) rfl, ← bit_ne (m := 49) rfl] at hg hn
      cases h48 : ((s[k].toNat : Int) == 48) with
      | true =>
        rw [h48] at hg
        have n48 : ((s[k].toNat : Int) != 48) = false := by simp only [bne, h48]; rfl
        have Hg := Lib.hid hg
        clear hg hn
        go_wp2
        go_round
        case rel => exact ⟨k + 1, by omega, by go_num, by rw [Hg.out, Hb.out]; rfl⟩
        case measure => simp [intOf]; omega
      | false =>
        cases h49 : ((s[k].toNat : Int) == 49) with
        | true =>
          rw [h48, h49] at hg
          have n48 : ((s[k].toNat : Int) != 48) = true := by simp only [bne, h48]; rfl
          have n49 : ((s[k].toNat : Int) != 49) = false := by simp only [bne, h49]; rfl
          have Hg := Lib.hid hg
          clear hg hn
          go_wp2
          go_round
          case rel => exact ⟨k + 1, by omega, by go_num, by rw [Hg.out, Hb.out]; rfl⟩
          case measure => simp [intOf]; omega
        | false =>
          rw [h48, h49] at hn
          have n48 : ((s[k].toNat : Int) != 48) = true := by simp only [bne, h48]; rfl
          have n49 : ((s[k].toNat : Int) != 49) = true := by simp only [bne, h49]; rfl
          have Hn := Lib.hid (hn rfl)
          clear hg hn
          go_wp2
          go_ret
          exact ⟨by rw [Hv1.out Hn.out]; rfl, rfl⟩
    · have hall : bitsL s.data.toList = true := by
        have := Hb.out
        rwa [List.take_of_length_le (by simp; omega)] at this
      have Hall := Lib.hid hall
      clear hall
      go_wp2
      go_ret
      refine ⟨?_, rfl⟩
      rw [Hv2.out Hall.out]
      congr 2

set_option maxHeartbeats 1000000 in
theorem StructureValid_spec (i : Int) (s r : ByteArray) (w : World) (hs : s.size ≤ maxLen) (hr : r.size ≤ maxLen) :
    Calls Tryd.prog 40 #[stV i s r] w fun e w' => e = .returned (.bool (okB i s r)) ∧ Below w.heap.size w w' := by
  have Hs := Lib.hid hs
  have Hr := Lib.hid hr
  clear hs hr
  by_cases h1 : 1 ≤ i ∧ i ≤ 8
  · obtain ⟨h1, h2⟩ := h1
    obtain ⟨g1, g2⟩ := sq_bd h1 h2
    have c0 : ∀ W, Calls Tryd.prog 45 #[.int .i64 i, .int .i64 1, .int .i64 8] W fun e w' => e = .returned (.bool true) ∧ W = w' := fun W => by
      have := l1In_calls i 1 8 W
      rwa [decide_eq_true h1, decide_eq_true h2] at this
    have c1 := l1Bits_calls s i
    have c2 := l1Bits_calls r (i * i)
    obtain ⟨q, hq⟩ : ∃ q, q = i * i := ⟨_, rfl⟩
    have hv : okB i s r = (bitsB s i && bitsB r q) := by unfold okB; rw [decide_eq_true h1, decide_eq_true h2, hq]; rfl
    rw [hv]
    rw [← hq] at g1 g2 c2
    have hmul : IntKind.i64.wrap (i * i) = q := by rw [← hq]; exact IntWalk.i64_in _ (by omega)
    have C0 := Lib.hid c0
    have C1 := Lib.hid c1
    have C2 := Lib.hid c2
    clear c0 c1 c2 hv
    cases hb1 : bitsB s i with
    | false =>
      rw [hb1] at C1
      clear hq hmul hb1
      go_enter Tryd.func40, Tryd.ntmps40
      go_wp2_with (first | (go_at_call 45; (with_reducible refine (C0.out _).mono ?_); rintro e w' ⟨rfl, rfl⟩) | (go_at_call 63; (with_reducible refine (C1.out _ Hs.out).mono ?_); rintro e w' ⟨rfl, rfl⟩))
      go_ret
      exact ⟨rfl, (Below.refl _ _).alloc (Nat.le_refl _) _⟩
    | true =>
      rw [hb1] at C1
      have Hq := Lib.hid hq
      clear hq hb1
      go_enter Tryd.func40, Tryd.ntmps40
      go_wp2_with fail
      refine (C0.out _).mono ?_
      rintro e w1 ⟨rfl, rfl⟩
      go_wp2_with fail
      refine (C1.out _ Hs.out).mono ?_
      rintro e w1 ⟨rfl, rfl⟩
      go_wp2_with fail
      refine (C2.out _ Hr.out).mono ?_
      rintro e w2 ⟨rfl, rfl⟩
      go_wp2_with fail
      go_ret
      exact ⟨rfl, (Below.refl _ _).alloc (Nat.le_refl _) _⟩
  · have hv : okB i s r = false := by
      unfold okB
      by_cases h2 : 1 ≤ i
      · rw [decide_eq_false (p := i ≤ 8) (fun h => h1 ⟨h2, h⟩)]; simp
      · rw [decide_eq_false h2]; simp
    rw [hv]
    have c0 : ∀ W, Calls Tryd.prog 45 #[.int .i64 i, .int .i64 1, .int .i64 8] W fun e w' => e = .returned (.bool false) ∧ W = w' := fun W => by
      have := l1In_calls i 1 8 W
      have e : (decide (1 ≤ i) && decide (i ≤ 8)) = false := by
        rw [Bool.eq_false_iff]; simp only [ne_eq, Bool.and_eq_true, decide_eq_true_eq]; exact h1
      rwa [e] at this
    have C0 := Lib.hid c0
    clear hv c0 h1
    go_enter Tryd.func40, Tryd.ntmps40
    go_wp2_with (go_at_call 45; (with_reducible refine (C0.out _).mono ?_); rintro e w' ⟨rfl, rfl⟩)
    go_ret
    exact ⟨rfl, (Below.refl _ _).alloc (Nat.le_refl _) _⟩

theorem szStructure_calls (i : Int) (s r : ByteArray) (left : Nat) (w : World) (hl : left ≤ 1048576) (hs : s.size ≤ maxLen) (hr : r.size ≤ maxLen) :
    Calls Tryd.prog 17 #[stV i s r, .int .i64 left] w fun e w' => (∃ m : Int, e = .returned (.int .i64 m) ∧ (0 ≤ m → s.size + r.size ≤ left ∧ m = left - s.size - r.size)) ∧ Below w.heap.size w w' := by
  unfold maxLen at hs hr
  go_enter Tryd.func17, Tryd.ntmps17
  go_wp2_with fail
  · go_ret
    exact ⟨⟨_, rfl, fun h => absurd h (by decide)⟩, (Below.refl _ _).alloc (Nat.le_refl _) _⟩
  · go_ret
    exact ⟨⟨_, rfl, fun h => absurd h (by decide)⟩, (Below.refl _ _).alloc (Nat.le_refl _) _⟩
  · go_ret
    exact ⟨⟨_, rfl, fun h => ⟨by omega, rfl⟩⟩, (Below.refl _ _).alloc (Nat.le_refl _) _⟩

theorem toStructure_calls (i : Int) (s r : ByteArray) (w : World) :
    Calls Tryd.prog 19 #[stV i s r] w fun e w' => e = .returned (stV i s r) ∧ Below w.heap.size w w' := by
  go_enter Tryd.func19, Tryd.ntmps19
  go_wp2_with fail
  exact bodyPost_ret (v := stV i s r) (by simp [results, Tryd.results19, go_sem]) rfl ⟨rfl, by first | exact (Below.refl _ _).alloc (Nat.le_refl _) _ | exact ((Below.refl _ _).alloc (Nat.le_refl _) _).alloc (by simp) _ | exact (((Below.refl _ _).alloc (Nat.le_refl _) _).alloc (by simp) _).alloc (by simp; omega) _⟩

end Go.Proofs.YtpaleogkgfclnaaDoor

namespace Go.Proofs.YtpaleogkgfclnaaDoor
open Go.RowKit
open Pl
set_option linter.unusedSimpArgs false
set_option linter.unusedVariables false

/-- a valid structure in Go -/
abbrev stA (a : St) : Value := stV (a.n : Int) (bs a.set) (bs a.rel)

theorem bitsL_iff (l : List UInt8) : bitsL l = true ↔ ∀ b ∈ l, IsBit b := by
  unfold bitsL IsBit
  rw [List.all_eq_true]
  simp only [Bool.or_eq_true, beq_iff_eq]

theorem okB_true {a : St} (h : a.ok) : okB (a.n : Int) (bs a.set) (bs a.rel) = true := by
  have h1 := h.lo; have h8 := h.hi
  unfold okB bitsB
  rw [decide_eq_true (show (1 : Int) ≤ a.n by omega), decide_eq_true (show (a.n : Int) ≤ 8 by omega), bs_data, bs_data, (bitsL_iff _).2 h.sb, (bitsL_iff _).2 h.rb, bs_size, bs_size, h.sl, h.rl]
  simp

theorem ok_cases (i : Int) (s r : ByteArray) : okB i s r = false ∨ ∃ a : St, a.ok ∧ i = a.n ∧ s = bs a.set ∧ r = bs a.rel := by
  cases hb : okB i s r with
  | false => exact .inl rfl
  | true =>
    right
    unfold okB bitsB at hb
    simp only [Bool.and_eq_true, decide_eq_true_eq] at hb
    obtain ⟨h1, h8, ⟨h2, h3⟩, h4, h5⟩ := hb
    have hn : i = (i.toNat : Int) := by omega
    refine ⟨⟨i.toNat, s.data.toList, r.data.toList⟩, ⟨by show 1 ≤ i.toNat; omega, by show i.toNat ≤ 8; omega, ?_, ?_, (bitsL_iff _).1 h3, (bitsL_iff _).1 h5⟩, hn, (bs_of s).symm, (bs_of r).symm⟩
    · show s.data.toList.length = i.toNat
      rw [← Lib.size_eq]; omega
    · show r.data.toList.length = i.toNat * i.toNat
      rw [← Lib.size_eq]
      rw [hn] at h4
      have : ((i.toNat * i.toNat : Nat) : Int) = (i.toNat : Int) * (i.toNat : Int) := by simp
      omega

theorem bs_get (l : List UInt8) (k : Nat) (h : k < l.length) : ∃ h2 : k < (bs l).size, (bs l)[k] = l[k] := ⟨by rw [bs_size]; exact h, rfl⟩

theorem bit_49 (b : Bool) : (((bitB b).toNat : Int) == 49) = b := by cases b <;> rfl

/-- what a walk asks of the set's byte -/
theorem set_byte {a : St} (h : a.ok) {x : Nat} (hx : x < a.n) : ∃ S : ByteArray, S = bs a.set ∧ ∃ h2 : x < S.size, ((S[x].toNat : Int) == 49) = a.inS x := by
  obtain ⟨hl, hg⟩ := inS_get h hx
  refine ⟨_, rfl, by rw [bs_size]; exact hl, ?_⟩
  show ((a.set[x].toNat : Int) == 49) = _
  rw [hg, bit_49]

theorem rel_byte {a : St} (h : a.ok) {x y : Nat} (hx : x < a.n) (hy : y < a.n) : ∃ (R : ByteArray) (m : Nat), R = bs a.rel ∧ IntKind.i64.wrap ((x : Int) * (a.n : Int)) = m ∧ m ≤ 64 ∧ R.size ≤ 64 ∧ ∃ h2 : m + y < R.size, ((R[m + y].toNat : Int) == 49) = a.inR x y := by
  obtain ⟨hl, hg⟩ := inR_get h hx hy
  have h8 := sq_le h.hi
  have hrl := h.rl
  refine ⟨_, x * a.n, rfl, ?_, by omega, by rw [bs_size]; omega, by rw [bs_size]; exact hl, ?_⟩
  · rw [show ((x : Int) * (a.n : Int)) = ((x * a.n : Nat) : Int) by simp]
    exact IntWalk.i64_in _ (by omega)
  · show ((a.rel[x * a.n + y].toNat : Int) == 49) = _
    rw [hg, bit_49]

theorem inSet_calls (a : St) (ha : a.ok) (x : Nat) (hx : x < a.n) (w : World) :
    Calls Tryd.prog 71 #[stA a, .int .i64 x] w fun e w' => e = .returned (.bool (a.inS x)) ∧ Below w.heap.size w w' := by
  obtain ⟨S, hS, hlt, hv⟩ := set_byte ha hx
  have hn := ha.hi
  unfold stA
  rw [← hS]
  generalize bs a.rel = R
  generalize a.n = n at hx hn
  have Hv := Lib.hid hv
  clear hS hv
  go_enter Tryd.func71, Tryd.ntmps71
  go_wp2_with fail
  go_ret
  exact ⟨by rw [← Hv.out]; rfl, (Below.refl _ _).alloc (Nat.le_refl _) _⟩

theorem l1Set_calls (a : St) (ha : a.ok) (x : Nat) (hx : x < a.n) (w : World) :
    Calls Tryd.prog 106 #[stA a, .int .i64 x] w fun e w' => e = .returned (.bool (a.inS x)) ∧ Below w.heap.size w w' := by
  obtain ⟨S, hS, hlt, hv⟩ := set_byte ha hx
  have hn := ha.hi
  unfold stA
  rw [← hS]
  generalize bs a.rel = R
  generalize a.n = n at hx hn
  have Hv := Lib.hid hv
  clear hS hv
  go_enter Tryd.func106, Tryd.ntmps106
  go_wp2_with fail
  go_ret
  exact ⟨by rw [← Hv.out]; rfl, (Below.refl _ _).alloc (Nat.le_refl _) _⟩

set_option maxHeartbeats 400000 in
theorem inRel_calls (a : St) (ha : a.ok) (x y : Nat) (hx : x < a.n) (hy : y < a.n) (w : World) :
    Calls Tryd.prog 73 #[stA a, .int .i64 x, .int .i64 y] w fun e w' => e = .returned (.bool (a.inR x y)) ∧ Below w.heap.size w w' := by
  obtain ⟨R, m, hR, hm, hm64, hR64, hlt, hv⟩ := rel_byte ha hx hy
  have hn := ha.hi
  unfold stA
  rw [← hR]
  generalize bs a.set = S
  generalize a.inR x y = V at hv
  generalize a.n = n at hx hy hn hm
  have Hv := Lib.hid hv
  have e1 : (m : Int) + (y : Int) < (R.size : Int) := by omega
  have e2 : ((m : Int) + (y : Int)).toNat = m + y := by omega
  have e3 : IntKind.i64.wrap ((m : Int) + (y : Int)) = (m : Int) + (y : Int) := IntWalk.i64_in _ (by omega)
  clear hR hv
  go_enter Tryd.func73, Tryd.ntmps73
  go_wp2_with fail
  go_ret
  exact ⟨by rw [← Hv.out]; rfl, (Below.refl _ _).alloc (Nat.le_refl _) _⟩

set_option maxHeartbeats 400000 in
theorem l1Rel_calls (a : St) (ha : a.ok) (x y : Nat) (hx : x < a.n) (hy : y < a.n) (w : World) :
    Calls Tryd.prog 107 #[stA a, .int .i64 x, .int .i64 y] w fun e w' => e = .returned (.bool (a.inR x y)) ∧ Below w.heap.size w w' := by
  obtain ⟨R, m, hR, hm, hm64, hR64, hlt, hv⟩ := rel_byte ha hx hy
  have hn := ha.hi
  unfold stA
  rw [← hR]
  generalize bs a.set = S
  generalize a.inR x y = V at hv
  generalize a.n = n at hx hy hn hm
  have Hv := Lib.hid hv
  have e1 : (m : Int) + (y : Int) < (R.size : Int) := by omega
  have e2 : ((m : Int) + (y : Int)).toNat = m + y := by omega
  have e3 : IntKind.i64.wrap ((m : Int) + (y : Int)) = (m : Int) + (y : Int) := IntWalk.i64_in _ (by omega)
  clear hR hv
  go_enter Tryd.func107, Tryd.ntmps107
  go_wp2_with fail
  go_ret
  exact ⟨by rw [← Hv.out]; rfl, (Below.refl _ _).alloc (Nat.le_refl _) _⟩

/-- a number is an element -/
def elB (i x : Int) : Bool := decide (0 ≤ x) && decide (x < i)

set_option maxHeartbeats 1000000 in
theorem hasElement_calls (i : Int) (s r : ByteArray) (x : Int) (w : World) (hs : s.size ≤ maxLen) (hr : r.size ≤ maxLen) :
    Calls Tryd.prog 46 #[stV i s r, .int .i64 x] w fun e w' => e = .returned (.bool (okB i s r && elB i x)) ∧ Below w.heap.size w w' := by
  have hc : ∀ W, Calls Tryd.prog 35 #[stV i s r] W fun e w' => e = .returned (.bool (okB i s r)) ∧ Below W.heap.size W w' := fun W => isStructure_calls i s r W hs hr
  cases hok : okB i s r with
  | false =>
    rw [hok] at hc
    have Hc := Lib.hid hc
    clear hc hs hr hok
    go_enter Tryd.func46, Tryd.ntmps46
    go_wp2_with (go_at_call 35; (with_reducible refine (Hc.out _).mono ?_); rintro e w' ⟨rfl, hx1⟩)
    go_ret
    exact ⟨rfl, box_down (box_next (box_refl w _) hx1)⟩
  | true =>
    rw [hok] at hc
    have Hc := Lib.hid hc
    rw [Bool.true_and]
    clear hc hs hr hok
    unfold elB
    by_cases h0 : 0 ≤ x
    · have d0 : decide (0 ≤ x) = true := decide_eq_true h0
      cases d1 : decide (x < i)
      all_goals
        rw [d0]
        go_enter Tryd.func46, Tryd.ntmps46
        go_wp2_with fail
        refine (Hc.out _).mono ?_
        rintro e w' ⟨rfl, hx1⟩
        have HB := Lib.hid (box_next (box_refl w _) hx1)
        clear hx1
        obtain ⟨k0, k1, k2⟩ := box3 HB.out
        go_wp2_with fail
        go_ret
        exact ⟨rfl, box_down HB.out⟩
    · have d0 : decide (0 ≤ x) = false := decide_eq_false h0
      rw [d0]
      go_enter Tryd.func46, Tryd.ntmps46
      go_wp2_with fail
      refine (Hc.out _).mono ?_
      rintro e w' ⟨rfl, hx1⟩
      have HB := Lib.hid (box_next (box_refl w _) hx1)
      clear hx1
      obtain ⟨k0, k1, k2⟩ := box3 HB.out
      go_wp2_with fail
      go_ret
      exact ⟨rfl, box_down HB.out⟩

end Go.Proofs.YtpaleogkgfclnaaDoor

namespace Go.Proofs.YtpaleogkgfclnaaDoor
open Go.RowKit
open Pl
set_option linter.unusedSimpArgs false
set_option linter.unusedVariables false

/-- the structure that is meant -/
def ofSt (i : Int) (s r : ByteArray) : St := ⟨i.toNat, s.data.toList, r.data.toList⟩
theorem ofSt_eq (a : St) : ofSt (a.n : Int) (bs a.set) (bs a.rel) = a := rfl

def inSetV (i : Int) (s r : ByteArray) (x : Int) : Bool := okB i s r && (elB i x && (ofSt i s r).inS x.toNat)
def inRelV (i : Int) (s r : ByteArray) (x y : Int) : Bool := okB i s r && (elB i x && (elB i y && (ofSt i s r).inR x.toNat y.toNat))

theorem el_cases (n : Nat) (x : Int) : elB n x = false ∨ ∃ k : Nat, x = k ∧ k < n ∧ elB n x = true := by
  cases h : elB n x with
  | false => exact .inl rfl
  | true =>
    right
    unfold elB at h
    simp only [Bool.and_eq_true, decide_eq_true_eq] at h
    exact ⟨x.toNat, by omega, by omega, rfl⟩

theorem el_in {n : Nat} {x : Int} (h : 1 ≤ n) : (decide (0 ≤ x) && decide (x ≤ (n : Int) - 1)) = elB n x := by
  unfold elB
  rw [show decide (x ≤ (n : Int) - 1) = decide (x < (n : Int)) from by rw [decide_eq_decide]; omega]

theorem st_bounds {a : St} (ha : a.ok) : (bs a.set).size ≤ maxLen ∧ (bs a.rel).size ≤ maxLen := by
  have h8 := ha.hi; have h1 := ha.sl; have h2 := ha.rl; have h3 := sq_le h8
  rw [bs_size, bs_size]
  unfold maxLen
  constructor <;> omega

end Go.Proofs.YtpaleogkgfclnaaDoor

namespace Go.Proofs.YtpaleogkgfclnaaDoor
open Go.RowKit
open Pl
set_option linter.unusedSimpArgs false
set_option linter.unusedVariables false

theorem bitOf_calls (b : Bool) (w : World) : Calls Tryd.prog 91 #[.bool b] w fun e w' => e = .returned (.string (bs [bitB b])) ∧ w = w' := by
  cases b
  all_goals
    go_enter Tryd.func91, Tryd.ntmps91
    go_wp2_with fail
    go_ret
    exact ⟨rfl, rfl⟩

theorem l1Bit_calls (b : Bool) (w : World) : Calls Tryd.prog 94 #[.bool b] w fun e w' => e = .returned (.string (bs [bitB b])) ∧ w = w' := by
  cases b
  all_goals
    go_enter Tryd.func94, Tryd.ntmps94
    go_wp2_with fail
    go_ret
    exact ⟨rfl, rfl⟩

/-- the set's bits up to k, the relation's bits up to row k, up to place j of row k -/
def setTo (f : Nat → Bool) (k : Nat) : List UInt8 := (List.range k).map fun x => bitB (f x)
def relTo (n : Nat) (g : Nat → Nat → Bool) (k : Nat) : List UInt8 := (List.range k).flatMap fun x => (List.range n).map fun y => bitB (g x y)
def relAt (n : Nat) (g : Nat → Nat → Bool) (k j : Nat) : List UInt8 := relTo n g k ++ (List.range j).map fun y => bitB (g k y)

theorem setTo_succ (f : Nat → Bool) (k : Nat) : setTo f (k + 1) = setTo f k ++ [bitB (f k)] := by simp [setTo, List.range_succ]
theorem relAt_succ (n : Nat) (g : Nat → Nat → Bool) (k j : Nat) : relAt n g k (j + 1) = relAt n g k j ++ [bitB (g k j)] := by simp [relAt, List.range_succ]
theorem relAt_zero (n : Nat) (g : Nat → Nat → Bool) (k : Nat) : relAt n g k 0 = relTo n g k := by simp [relAt]
theorem relTo_succ (n : Nat) (g : Nat → Nat → Bool) (k : Nat) : relTo n g (k + 1) = relAt n g k n := by simp [relTo, relAt, List.range_succ]
theorem setTo_len (f : Nat → Bool) (k : Nat) : (setTo f k).length = k := by simp [setTo]
theorem relTo_len (n : Nat) (g : Nat → Nat → Bool) (k : Nat) : (relTo n g k).length = k * n := (flat_get (fun x y => bitB (g x y)) k).1
theorem relAt_len (n : Nat) (g : Nat → Nat → Bool) (k j : Nat) : (relAt n g k j).length = k * n + j := by simp [relAt, relTo_len]

theorem enter_of {P : Program} {F : FuncId} {fn : Func} (hf : P.funcs[F]? = some fn) (hn : (fn.name == "runtime.NumGoroutine") = false) (hb : fn.body.isNone = false) : ∀ (args : Array Value) (w : World), (callFunc F args).run P w = .ok (.enter F args) w := by
  intro args w
  have hn2 : ¬ fn.name = "runtime.NumGoroutine" := beq_eq_false_iff_ne.1 hn
  have hb2 : ¬ fn.body = none := by intro e; rw [e] at hb; cases hb
  simp [callFunc, hf, hn2, hb2]

/-- a block that is known whole -/
def Bx (w : World) (g : Nat) (t : TypeId) (cs : Array Value) : Prop := w.heap[g]? = some (.cells cs t (0, 0))

theorem Bx.lt {w : World} {g : Nat} {t : TypeId} {cs : Array Value} (h : Bx w g t cs) : g < w.heap.size := by
  rcases Nat.lt_or_ge g w.heap.size with h1 | h1
  · exact h1
  · unfold Bx at h; rw [Array.getElem?_eq_none h1] at h; cases h
theorem Bx.cell {w : World} {g : Nat} {t : TypeId} {cs : Array Value} (h : Bx w g t cs) (i : Nat) : w.cell? ⟨g, i, none⟩ = cs[i]? := by
  unfold Bx at h; simp [World.cell?, h]
theorem Bx.free {w : World} {g : Nat} {t : TypeId} {cs : Array Value} (h : Bx w g t cs) (i : Nat) : w.frozen? ⟨g, i, none⟩ = false := by
  unfold Bx at h; simp [World.frozen?, h]
theorem Bx.new (w : World) (t : TypeId) (cs : Array Value) : Bx (w.alloc (.cells cs t)) w.heap.size t cs := heap_alloc_new w _
theorem bx_two (w : World) (o : Obj) (cs : Array Value) {t : TypeId} : Bx ((w.alloc o).alloc (.cells cs t)) (w.heap.size + 1) t cs := by
  have h := Bx.new (w.alloc o) t cs
  rwa [World.size_alloc] at h
theorem Bx.alloc {w : World} {g : Nat} {t : TypeId} {cs : Array Value} (h : Bx w g t cs) (o : Obj) : Bx (w.alloc o) g t cs := (Below.heap_alloc w o g h.lt).trans h
theorem Bx.drew {w : World} {g : Nat} {t : TypeId} {cs : Array Value} (h : Bx w g t cs) : Bx w.drew g t cs := h
theorem Bx.drewN {w : World} {g : Nat} {t : TypeId} {cs : Array Value} (h : Bx w g t cs) (k : Nat) : Bx (w.drewN k) g t cs := h
theorem Bx.below {w w' : World} {g B : Nat} {t : TypeId} {cs : Array Value} (h : Bx w g t cs) (hb : Below B w w') (hg : g < B) : Bx w' g t cs := (hb.block g hg).trans h
theorem Bx.call {w w' : World} {g : Nat} {t : TypeId} {cs : Array Value} (h : Bx w g t cs) (hb : Below w.heap.size w w') : Bx w' g t cs := h.below hb h.lt
theorem Bx.set {w : World} {g : Nat} {t : TypeId} {cs : Array Value} (h : Bx w g t cs) (i : Nat) (u : Value) : Bx (w.setCell ⟨g, i, none⟩ u) g t (cs.setIfInBounds i u) := by
  unfold Bx at h ⊢
  simp [World.setCell, Array.getElem?_modify, h]
theorem Bx.far {w : World} {g : Nat} {t : TypeId} {cs : Array Value} (h : Bx w g t cs) {p : Addr} (hp : g ≠ p.block) (u : Value) : Bx (w.setCell p u) g t cs := (Below.heap_setCell w p u g hp).trans h

set_option maxHeartbeats 1000000 in
set_option maxRecDepth 100000 in
theorem makeStructure_calls (n : Nat) (hn : n ≤ 8) (f : Nat → Bool) (g : Nat → Nat → Bool) (F G : FuncId) (fF cF fG cG : Array Value) (w : World)
    (eF : ∀ (args : Array Value) (W : World), (callFunc F args).run Tryd.prog W = .ok (.enter F args) W) (eG : ∀ (args : Array Value) (W : World), (callFunc G args).run Tryd.prog W = .ok (.enter G args) W)
    (hF : ∀ (x : Nat) (W : World), x < n → Below w.heap.size w W → Calls Tryd.prog F (fF.push (.int .i64 x) ++ cF) W fun e W' => e = .returned (.bool (f x)) ∧ Below W.heap.size W W')
    (hG : ∀ (x y : Nat) (W : World), x < n → y < n → Below w.heap.size w W → Calls Tryd.prog G (fG ++ (#[.int .i64 x, .int .i64 y] ++ cG)) W fun e W' => e = .returned (.bool (g x y)) ∧ Below W.heap.size W W') :
    Calls Tryd.prog 69 #[.int .i64 n, .func (.func F) fF cF, .func (.func G) fG cG] w fun e w' => e = .returned (stA (mkSt n f g)) ∧ Below w.heap.size w w' := by
  have HF := Lib.hid hF
  have HG := Lib.hid hG
  clear hF hG
  go_enter Tryd.func69, Tryd.ntmps69
  go_wp2_with fail
  go_loopg [13] n (fun c i wr => ∃ k : Nat, k + c = n ∧ i = .int .i64 k ∧ Bx wr w.heap.size 27 #[.int .i64 0, .string (bs []), .string (bs [])] ∧ Bx wr (w.heap.size + 1) 27 #[.int .i64 n, .string (bs (setTo f k)), .string (bs (relTo n g k))] ∧ Below w.heap.size w wr)
  case atStart => exact ⟨0, by omega, rfl, (Bx.new w _ _).alloc _, bx_two _ _ _, ((Below.refl _ _).alloc (Nat.le_refl _) _).alloc (by simp) _⟩
  case round =>
    obtain ⟨k, hk, rfl, hr0, hb0, hbw⟩ := hrel
    have Hr0 := Lib.hid hr0
    have Hb0 := Lib.hid hb0
    have Hbw := Lib.hid hbw
    clear hr0 hb0 hbw
    by_cases hlt : k < n
    · have c1 := Hb0.out.cell 1
      have f1 := Hb0.out.free 1
      simp at c1
      have s1 : (bs (setTo f k)).size ≤ 8 := by rw [bs_size, setTo_len]; omega
      have s2 : (bs [bitB (f k)]).size ≤ 1 := by rw [bs_size]; simp
      have hs3 : bs (setTo f k) ++ bs [bitB (f k)] = bs (setTo f (k + 1)) := by rw [append_bs, bs_data, bs_data, setTo_succ]
      have Hs3 := Lib.hid hs3
      clear hs3
      go_upto_region 5 with (fail)
      go_cut [22] (fun v wx => v = .string (bs (setTo f (k + 1))) ∧ Bx wx w.heap.size 27 #[.int .i64 0, .string (bs []), .string (bs [])] ∧ Bx wx (w.heap.size + 1) 27 #[.int .i64 n, .string (bs (setTo f (k + 1))), .string (bs (relTo n g k))] ∧ Below w.heap.size w wx)
      case first =>
        go_region_with (first | (go_at_call 91; refine (bitOf_calls _ _).mono ?_; rintro e w2 ⟨rfl, rfl⟩) | (go_simp; refine (HF.out k _ hlt Hbw.out.drew).mono ?_; rintro e w1 ⟨rfl, hz⟩; have c2 := (Hb0.out.drew.call hz).cell 1; have f2 := (Hb0.out.drew.call hz).free 1; simp at c2; have Hz := Lib.hid hz; clear hz))
        all_goals
          go_wp2_with fail
          go_meet
          case rel => exact ⟨str_eq Hs3.out, (Hr0.out.drew.call Hz.out).far (by simp) _, by rw [← Hs3.out]; exact (Hb0.out.drew.call Hz.out).set 1 _, (Hbw.out.drew.trans (Hz.out.mono Hbw.out.drew.size)).setCell (by simp) _⟩
      case rest =>
        obtain ⟨rfl, hr1, hb1, hbw1⟩ := hcut
        have Hr1 := Lib.hid hr1
        have Hb1 := Lib.hid hb1
        have Hbw1 := Lib.hid hbw1
        clear hr1 hb1 hbw1 c1 f1 s1 s2
        go_wp2_with fail
        go_loopg [25] n (fun c i wr => ∃ j : Nat, j + c = n ∧ i = .int .i64 j ∧ Bx wr w.heap.size 27 #[.int .i64 0, .string (bs []), .string (bs [])] ∧ Bx wr (w.heap.size + 1) 27 #[.int .i64 n, .string (bs (setTo f (k + 1))), .string (bs (relAt n g k j))] ∧ Below w.heap.size w wr)
        case atStart => exact ⟨0, by omega, rfl, Hr1.out, by rw [relAt_zero]; exact Hb1.out, Hbw1.out⟩
        case round =>
          clear Hr0 Hb0 Hbw Hr1 Hb1 Hbw1 Hs3
          obtain ⟨j, hj, rfl, hr0, hb0, hbw⟩ := hrel
          have Hr0 := Lib.hid hr0
          have Hb0 := Lib.hid hb0
          have Hbw := Lib.hid hbw
          clear hr0 hb0 hbw
          by_cases hlj : j < n
          · have c1 := Hb0.out.cell 2
            have f1 := Hb0.out.free 2
            simp at c1
            have s1 : (bs (relAt n g k j)).size ≤ 100 := by
              rw [bs_size, relAt_len]
              have h64 := sq_le hn
              have hkn : k * n ≤ n * n := Nat.mul_le_mul_right n (by omega)
              omega
            have s2 : (bs [bitB (g k j)]).size ≤ 1 := by rw [bs_size]; simp
            have hs3 : bs (relAt n g k j) ++ bs [bitB (g k j)] = bs (relAt n g k (j + 1)) := by rw [append_bs, bs_data, bs_data, relAt_succ]
            have Hs3 := Lib.hid hs3
            clear hs3
            go_upto_region 9 with (fail)
            go_region_with (first | (go_at_call 91; refine (bitOf_calls _ _).mono ?_; rintro e w2 ⟨rfl, rfl⟩) | (go_simp; refine (HG.out k j _ hlt hlj Hbw.out.drew).mono ?_; rintro e w1 ⟨rfl, hz⟩; have c2 := (Hb0.out.drew.call hz).cell 2; have f2 := (Hb0.out.drew.call hz).free 2; simp at c2; have Hz := Lib.hid hz; clear hz))
            all_goals
              go_wp2_with fail
              go_roundg (n - j - 1)
              case rel => exact ⟨j + 1, by omega, by go_num, (Hr0.out.drew.call Hz.out).far (by simp) _, by rw [← Hs3.out]; exact (Hb0.out.drew.call Hz.out).set 2 _, (Hbw.out.drew.trans (Hz.out.mono Hbw.out.drew.size)).setCell (by simp) _⟩
              case measure => omega
          · obtain rfl : n = j := by omega
            go_wp2_with fail
            go_roundg (n - k - 1)
            case rel => exact ⟨k + 1, by omega, by go_num, Hr0.out, by rw [relTo_succ]; exact Hb0.out, Hbw.out⟩
            case measure => omega
    · obtain rfl : n = k := by omega
      have c0 := Hb0.out.cell 0
      have c1 := Hb0.out.cell 1
      have c2 := Hb0.out.cell 2
      simp at c0 c1 c2
      have d0 := Hr0.out.cell 0
      have d1 := Hr0.out.cell 1
      have d2 := Hr0.out.cell 2
      have e0 := Hr0.out.free 0
      have e1 := Hr0.out.free 1
      have e2 := Hr0.out.free 2
      simp at d0 d1 d2
      go_wp2_with fail
      have x3 := ((Hr0.out.set 0 (.int .i64 n)).set 1 (.string (bs (setTo f n)))).set 2 (.string (bs (relTo n g n)))
      have q0 := x3.cell 0
      have q1 := x3.cell 1
      have q2 := x3.cell 2
      simp at q0 q1 q2
      refine bodyPost_ret (v := stA (mkSt n f g)) ?_ rfl ⟨rfl, ?_⟩
      · simp [results, Tryd.results69, go_sem, q0, q1, q2]
        exact ⟨rfl, rfl, rfl⟩
      · exact ((Hbw.out.setCell (Nat.le_refl _) _).setCell (Nat.le_refl _) _).setCell (Nat.le_refl _) _

end Go.Proofs.YtpaleogkgfclnaaDoor

namespace Go.Proofs.YtpaleogkgfclnaaDoor
open Go.RowKit
open Go.ChangeMaps
open Pl
set_option linter.unusedSimpArgs false
set_option linter.unusedVariables false

/-- a map from numbers to truth, of which each entry is right -/
def InnerOK (G : Nat → Bool → Prop) (es : Array MapEntry) : Prop := ∀ x ∈ es.toList, ∃ (k : Nat) (v : Bool), k < 4096 ∧ x.key = .int .i64 (k : Nat) ∧ x.val = .bool v ∧ G k v

/-- the holder's map of maps -/
structure Cache (G : Nat → Nat → Bool → Prop) (hb : Nat) (w : World) : Prop where
  at_ : ∃ (es : Array MapEntry) (clock : Nat), w.heap[hb]? = some (.map es clock) ∧
    (∀ x ∈ es.toList, ∃ (nb ib : Nat) (c : Array Value) (t : TypeId) (esi : Array MapEntry) (ci : Nat), x.key = kidV nb ∧ w.heap[nb]? = some (.cells c t (0, 0)) ∧ x.val = .map (some ib) ∧ hb < ib ∧ w.heap[ib]? = some (.map esi ci) ∧ InnerOK (G nb) esi) ∧
    ((∀ x ∈ es.toList, ∀ y ∈ es.toList, x.val = y.val → x.key = y.key) ∧ ∀ x ∈ es.toList, ∃ nb, x.key = kidV nb ∧ nb < hb)

/-- an inner map that the holder keeps for a formula -/
def Kept (G : Nat → Nat → Bool → Prop) (hb nb ib : Nat) (w : World) : Prop := ∃ (es : Array MapEntry) (clock : Nat), w.heap[hb]? = some (.map es clock) ∧ ∃ x ∈ es.toList, x.key = kidV nb ∧ x.val = .map (some ib)

/-- what a call of the holder leaves as it was: all below its map, and all cells -/
structure Fz (B : Nat) (w w' : World) : Prop where
  below : Below B w w'
  cells : ∀ (j : Nat) (c : Array Value) (t : TypeId) (k : Nat × Nat), w.heap[j]? = some (.cells c t k) → w'.heap[j]? = some (.cells c t k)

theorem Fz.refl (B : Nat) (w : World) : Fz B w w := ⟨Below.refl _ _, fun _ _ _ _ h => h⟩
theorem Fz.trans {B : Nat} {w w' w'' : World} (h : Fz B w w') (h' : Fz B w' w'') : Fz B w w'' := ⟨h.below.trans h'.below, fun j c t k hj => h'.cells j c t k (h.cells j c t k hj)⟩
theorem Fz.call {B : Nat} {w w' : World} (hB : B ≤ w.heap.size) (h : Below w.heap.size w w') : Fz B w w' := ⟨h.mono hB, fun j c t k hj => (h.block j (Array.getElem?_eq_some_iff.1 hj).1).trans hj⟩
theorem Fz.alloc {B : Nat} {w : World} (hB : B ≤ w.heap.size) (o : Obj) : Fz B w (w.alloc o) := Fz.call hB ((Below.refl _ _).alloc (Nat.le_refl _) o)
theorem Fz.drew {B : Nat} {w w' : World} (h : Fz B w w') : Fz B w w'.drew := ⟨h.below.drew, h.cells⟩
theorem Fz.bx {B : Nat} {w w' : World} {g : Nat} {t : TypeId} {cs : Array Value} (h : Fz B w w') (hx : Bx w g t cs) : Bx w' g t cs := h.cells g cs t (0, 0) hx

theorem Cache.keep {G : Nat → Nat → Bool → Prop} {hb : Nat} {w w' : World} (h : Cache G hb w) (hm : ∀ (j : Nat) (es : Array MapEntry) (c : Nat), w.heap[j]? = some (.map es c) → w'.heap[j]? = some (.map es c)) (hc : ∀ (j : Nat) (c : Array Value) (t : TypeId), w.heap[j]? = some (.cells c t (0, 0)) → ∃ (c' : Array Value) (t' : TypeId), w'.heap[j]? = some (.cells c' t' (0, 0))) : Cache G hb w' := by
  obtain ⟨es, clock, h1, h2, h3⟩ := h.at_
  refine ⟨es, clock, hm _ _ _ h1, fun x hx => ?_, h3⟩
  obtain ⟨nb, ib, c, t, esi, ci, a1, a2, a3, a4, a5, a6⟩ := h2 x hx
  obtain ⟨c', t', e⟩ := hc _ _ _ a2
  exact ⟨nb, ib, c', t', esi, ci, a1, e, a3, a4, hm _ _ _ a5, a6⟩
theorem Cache.call {G : Nat → Nat → Bool → Prop} {hb : Nat} {w w' : World} (h : Cache G hb w) (hb' : Below w.heap.size w w') : Cache G hb w' :=
  h.keep (fun j es c hj => (hb'.block j (Array.getElem?_eq_some_iff.1 hj).1).trans hj) (fun j c t hj => ⟨c, t, (hb'.block j (Array.getElem?_eq_some_iff.1 hj).1).trans hj⟩)
theorem Cache.alloc {G : Nat → Nat → Bool → Prop} {hb : Nat} {w : World} (h : Cache G hb w) (o : Obj) : Cache G hb (w.alloc o) := h.call ((Below.refl _ _).alloc (Nat.le_refl _) o)
theorem Cache.drew {G : Nat → Nat → Bool → Prop} {hb : Nat} {w : World} (h : Cache G hb w) : Cache G hb w.drew := ⟨h.at_⟩
/-- behind a list outside the cache that has grown -/
theorem Cache.app {G : Nat → Nat → Bool → Prop} {hb : Nat} {w w' : World} {row : Option Nat} (h : Cache G hb w) (hg : w.grownBy w' row) (hr : ∀ k, row = some k → hb < k ∧ ∃ c t, w.heap[k]? = some (.cells c t (0, 0))) : Cache G hb w' := by
  obtain ⟨es, clock, h1, h2, h3⟩ := h.at_
  have hm : ∀ (j : Nat) (es : Array MapEntry) (c : Nat), w.heap[j]? = some (.map es c) → w'.heap[j]? = some (.map es c) := fun j es c hj => (hg.block j (Array.getElem?_eq_some_iff.1 hj).1 (fun e => by
    obtain ⟨_, c', t', e2⟩ := hr j e.symm
    rw [hj] at e2; cases e2)).trans hj
  refine ⟨es, clock, hm _ _ _ h1, fun x hx => ?_, h3⟩
  obtain ⟨nb, ib, c, t, esi, ci, a1, a2, a3, a4, a5, a6⟩ := h2 x hx
  obtain ⟨nb', b1, b2⟩ := h3.2 x hx
  have hnb : nb' = nb := by
    rw [a1] at b1
    simp only [kidV, Value.pointer.injEq, Option.some.injEq, Addr.mk.injEq] at b1
    exact b1.1.symm
  subst hnb
  exact ⟨nb', ib, c, t, esi, ci, a1, (hg.block nb' (Array.getElem?_eq_some_iff.1 a2).1 (fun e => by
    have := (hr nb' e.symm).1; omega)).trans a2, a3, a4, hm _ _ _ a5, a6⟩
theorem Cache.lt {G : Nat → Nat → Bool → Prop} {hb : Nat} {w : World} (h : Cache G hb w) : hb < w.heap.size := by
  obtain ⟨es, clock, h1, _⟩ := h.at_
  exact (Array.getElem?_eq_some_iff.1 h1).1

section
variable {P : Program} {G : Nat → Nat → Bool → Prop} {hb nb : Nat} {w : World} {tm ko ti ki tb e : TypeId} {j : TypeInfo} {c : Array Value} {t : TypeId}

/-- looking up a formula's map -/
theorem Cache.look (h : Cache G hb w) (hto : P.underlying tm = some (.map ko ti)) (hko : P.underlying ko = some (.pointer e)) (he : P.info? e = some j) (hsz : j.size ≠ 0) (hz : (zeroValue ti).run P w = .ok (.map none) w) (hn : w.heap[nb]? = some (.cells c t (0, 0))) :
    (Instr.lookup tm (.map (some hb)) (kidV nb) false).run P w = .ok (.map none) w ∨
    ∃ (ib : Nat) (esi : Array MapEntry) (ci : Nat), (Instr.lookup tm (.map (some hb)) (kidV nb) false).run P w = .ok (.map (some ib)) w ∧ Kept G hb nb ib w ∧ hb < ib ∧ w.heap[ib]? = some (.map esi ci) ∧ InnerOK (G nb) esi := by
  obtain ⟨es, clock, h1, h2, h3⟩ := h.at_
  have hS : ∀ x ∈ es.toList, PKey w x.key := fun x hx => by
    obtain ⟨nb, ib, c, t, esi, ci, a1, a2, _⟩ := h2 x hx
    exact ⟨nb, c, t, a1, a2⟩
  rcases mlook false (pkey hko he hsz) hto hz h1 hS (key := kidV nb) ⟨nb, c, t, rfl, hn⟩ with ⟨hr, _⟩ | ⟨x, hx, hk, hr⟩
  · exact .inl (by simpa using hr)
  · obtain ⟨nb', ib, c', t', esi, ci, a1, a2, a3, a4, a5, a6⟩ := h2 x hx
    have hnb : nb' = nb := by
      rw [hk] at a1
      simp only [kidV, Value.pointer.injEq, Option.some.injEq, Addr.mk.injEq] at a1
      exact a1.1.symm
    subst hnb
    rw [a3] at hr
    exact .inr ⟨ib, esi, ci, by simpa using hr, ⟨es, clock, h1, x, hx, hk, a3⟩, a4, a5, a6⟩

/-- looking up a number -/
theorem inner_look {G : Nat → Bool → Prop} {ib : Nat} {esi : Array MapEntry} {ci k : Nat} (hi : w.heap[ib]? = some (.map esi ci)) (hok : InnerOK G esi) (hti : P.underlying ti = some (.map ki tb)) (hki : P.underlying ki = some (.int .i64)) (hz : (zeroValue tb).run P w = .ok (.bool false) w) (hk : k < 4096) :
    (Instr.lookup ti (.map (some ib)) (.int .i64 (k : Nat)) true).run P w = .ok (.tuple #[.bool false, .bool false]) w ∨
    ∃ v, (Instr.lookup ti (.map (some ib)) (.int .i64 (k : Nat)) true).run P w = .ok (.tuple #[.bool v, .bool true]) w ∧ G k v := by
  have hS : ∀ x ∈ esi.toList, IKey x.key := fun x hx => by
    obtain ⟨k, v, a1, a2, _⟩ := hok x hx
    exact ⟨k, a2, a1⟩
  rcases mlook true (ikey hki) hti hz hi hS (key := .int .i64 (k : Nat)) ⟨k, rfl, hk⟩ with ⟨hr, _⟩ | ⟨x, hx, hkx, hr⟩
  · exact .inl (by simpa using hr)
  · obtain ⟨k', v, a1, a2, a3, a4⟩ := hok x hx
    have : k' = k := by
      rw [hkx] at a2
      simp only [Value.int.injEq, true_and] at a2
      omega
    subst this
    rw [a3] at hr
    exact .inr ⟨v, by simpa using hr, a4⟩
theorem inner_look_nil {k : Nat} (hti : P.underlying ti = some (.map ki tb)) (hki : P.underlying ki = some (.int .i64)) (hz : (zeroValue tb).run P w = .ok (.bool false) w) (hk : k < 4096) :
    (Instr.lookup ti (.map none) (.int .i64 (k : Nat)) true).run P w = .ok (.tuple #[.bool false, .bool false]) w := by
  have := mlook_nil true (ikey (w := w) hki) hti hz (key := .int .i64 (k : Nat)) ⟨k, rfl, hk⟩
  simpa using this

theorem fz_set {B b : Nat} {es es' : Array MapEntry} {ci ci' : Nat} (hb : w.heap[b]? = some (.map es ci)) (hB : B ≤ b) : Fz B w (setBlock w b (.map es' ci')) := by
  refine ⟨⟨rfl, rfl, rfl, by simp [setBlock], fun i hi => heap_setBlock_other hb _ (by omega)⟩, fun j c t k hj => ?_⟩
  by_cases hjb : j = b
  · subst hjb; rw [hb] at hj; cases hj
  · rw [heap_setBlock_other hb _ hjb]; exact hj

/-- keeping a formula's truth at a number -/
theorem Cache.put {ib k : Nat} {esi : Array MapEntry} {ci : Nat} (h : Cache G hb w) (hkept : Kept G hb nb ib w) (hlt : hb < ib) (hi : w.heap[ib]? = some (.map esi ci)) (hok : InnerOK (G nb) esi) (hti : P.underlying ti = some (.map ki tb)) (hki : P.underlying ki = some (.int .i64)) (hk : k < 4096) {v : Bool} (hv : G nb k v) :
    ∃ W, (Instr.mapUpdate ti (.map (some ib)) (.int .i64 (k : Nat)) (.bool v)).run P w = .ok () W ∧ Cache G hb W ∧ Fz hb w W := by
  have hS : ∀ x ∈ esi.toList, IKey x.key := fun x hx => by
    obtain ⟨k, v, a1, a2, _⟩ := hok x hx
    exact ⟨k, a2, a1⟩
  obtain ⟨es', clock', hr, hes, _⟩ := mput (ikey hki) hti hi hS (key := .int .i64 (k : Nat)) ⟨k, rfl, hk⟩ (.bool v)
  have hok' : InnerOK (G nb) es' := fun x hx => by
    rcases hes x hx with ⟨hx, _⟩ | ⟨h1, h2⟩
    · exact hok x hx
    · exact ⟨k, v, hk, h1, h2, hv⟩
  refine ⟨_, hr, ?_, fz_set hi (Nat.le_of_lt hlt)⟩
  obtain ⟨es, clock, h1, h2, h3⟩ := h.at_
  obtain ⟨es0, clock0, h1', x0, hx0, hk0, hv0⟩ := hkept
  rw [h1] at h1'
  simp only [Option.some.injEq, Obj.map.injEq] at h1'
  obtain ⟨rfl, rfl⟩ := h1'
  refine ⟨es, clock, by rw [heap_setBlock_other hi _ (by omega)]; exact h1, fun x hx => ?_, h3⟩
  obtain ⟨nb', ib', c', t', esi', ci', a1, a2, a3, a4, a5, a6⟩ := h2 x hx
  have hc : (setBlock w ib (.map es' clock')).heap[nb']? = some (.cells c' t' (0, 0)) := (fz_set (B := hb) hi (Nat.le_of_lt hlt)).cells _ _ _ _ a2
  by_cases hib : ib' = ib
  · subst hib
    have hkk := h3.1 x hx x0 hx0 (by rw [a3, hv0])
    rw [a1, hk0] at hkk
    simp only [kidV, Value.pointer.injEq, Option.some.injEq, Addr.mk.injEq] at hkk
    obtain ⟨rfl, _⟩ := hkk
    exact ⟨nb', ib', c', t', es', clock', a1, hc, a3, a4, heap_setBlock_same hi _, hok'⟩
  · exact ⟨nb', ib', c', t', esi', ci', a1, hc, a3, a4, by rw [heap_setBlock_other hi _ hib]; exact a5, a6⟩

/-- a new map for a formula -/
theorem Cache.grow (h : Cache G hb w) (hto : P.underlying tm = some (.map ko ti)) (hko : P.underlying ko = some (.pointer e)) (he : P.info? e = some j) (hsz : j.size ≠ 0) (hn : w.heap[nb]? = some (.cells c t (0, 0))) (hnb : nb < hb) :
    ∃ W, (Instr.mapUpdate tm (.map (some hb)) (kidV nb) (.map (some w.heap.size))).run P (w.alloc (.map #[] 0)) = .ok () W ∧ Cache G hb W ∧ Fz hb w W ∧ ∃ (es : Array MapEntry) (clock : Nat), W.heap[hb]? = some (.map es clock) ∧ ∃ x ∈ es.toList, x.key = kidV nb := by
  have hA := h.alloc (.map #[] 0)
  have hlt := h.lt
  obtain ⟨es, clock, h1, h2, h3⟩ := h.at_
  have hkeep : ∀ (i : Nat) (o : Obj), w.heap[i]? = some o → (w.alloc (.map #[] 0)).heap[i]? = some o := fun i o hi => (((Below.refl w.heap.size w).alloc (Nat.le_refl _) (.map #[] 0)).block i (Array.getElem?_eq_some_iff.1 hi).1).trans hi
  have h1' := hkeep _ _ h1
  have hS : ∀ x ∈ es.toList, PKey (w.alloc (.map #[] 0)) x.key := fun x hx => by
    obtain ⟨nb, ib, c, t, esi, ci, a1, a2, _⟩ := h2 x hx
    exact ⟨nb, c, t, a1, hkeep _ _ a2⟩
  obtain ⟨es', clock', hr, hes, x0, hx0, hk0, hv0⟩ := mput (pkey hko he hsz) hto h1' hS (key := kidV nb) ⟨nb, c, t, rfl, hkeep _ _ hn⟩ (.map (some w.heap.size))
  have hnew : (w.alloc (.map #[] 0)).heap[w.heap.size]? = some (.map #[] 0) := heap_alloc_new w _
  have hfz : Fz hb (w.alloc (.map #[] 0)) (setBlock (w.alloc (.map #[] 0)) hb (.map es' clock')) := fz_set h1' (Nat.le_refl _)
  have hset : ∀ i, i ≠ hb → (setBlock (w.alloc (.map #[] 0)) hb (.map es' clock')).heap[i]? = (w.alloc (.map #[] 0)).heap[i]? := fun i hi => heap_setBlock_other h1' _ hi
  refine ⟨_, hr, ⟨es', clock', heap_setBlock_same h1' _, fun x hx => ?_, fun x hx y hy hxy => ?_, fun x hx => ?_⟩, (Fz.alloc (Nat.le_of_lt hlt) _).trans hfz, es', clock', heap_setBlock_same h1' _, x0, hx0, hk0⟩
  · rcases hes x hx with ⟨hx, _⟩ | ⟨e1, e2⟩
    · obtain ⟨nb', ib', c', t', esi', ci', a1, a2, a3, a4, a5, a6⟩ := h2 x hx
      exact ⟨nb', ib', c', t', esi', ci', a1, hfz.cells _ _ _ _ (hkeep _ _ a2), a3, a4, by rw [hset _ (by omega)]; exact hkeep _ _ a5, a6⟩
    · exact ⟨nb, w.heap.size, c, t, #[], 0, e1, hfz.cells _ _ _ _ (hkeep _ _ hn), e2, hlt, by rw [hset _ (by omega)]; exact hnew, fun x hx => by simp at hx⟩
  · have old : ∀ z, z ∈ es.toList → z.val ≠ .map (some w.heap.size) := fun z hz e => by
      obtain ⟨nb', ib', c', t', esi', ci', a1, a2, a3, a4, a5, a6⟩ := h2 z hz
      rw [a3] at e
      have := (Array.getElem?_eq_some_iff.1 a5).1
      simp only [Value.map.injEq, Option.some.injEq] at e
      omega
    rcases hes x hx with ⟨hx', _⟩ | ⟨e1, e2⟩ <;> rcases hes y hy with ⟨hy', _⟩ | ⟨f1, f2⟩
    · exact h3.1 x hx' y hy' hxy
    · exact absurd (hxy.trans f2) (old x hx')
    · exact absurd (hxy.symm.trans e2) (old y hy')
    · rw [e1, f1]
  · rcases hes x hx with ⟨hx', _⟩ | ⟨e1, _⟩
    · exact h3.2 x hx'
    · exact ⟨nb, e1, hnb⟩

/-- behind that the formula's map is found -/
theorem Cache.found (h : Cache G hb w) (hto : P.underlying tm = some (.map ko ti)) (hko : P.underlying ko = some (.pointer e)) (he : P.info? e = some j) (hsz : j.size ≠ 0) (hz : (zeroValue ti).run P w = .ok (.map none) w) (hn : w.heap[nb]? = some (.cells c t (0, 0)))
    (hx : ∃ (es : Array MapEntry) (clock : Nat), w.heap[hb]? = some (.map es clock) ∧ ∃ x ∈ es.toList, x.key = kidV nb) :
    ∃ (ib : Nat) (esi : Array MapEntry) (ci : Nat), (Instr.lookup tm (.map (some hb)) (kidV nb) false).run P w = .ok (.map (some ib)) w ∧ Kept G hb nb ib w ∧ hb < ib ∧ w.heap[ib]? = some (.map esi ci) ∧ InnerOK (G nb) esi := by
  obtain ⟨es, clock, h1, h2, h3⟩ := h.at_
  obtain ⟨es0, clock0, h1', x0, hx0, hk0⟩ := hx
  rw [h1] at h1'
  simp only [Option.some.injEq, Obj.map.injEq] at h1'
  obtain ⟨rfl, rfl⟩ := h1'
  have hS : ∀ x ∈ es.toList, PKey w x.key := fun x hx => by
    obtain ⟨nb, ib, c, t, esi, ci, a1, a2, _⟩ := h2 x hx
    exact ⟨nb, c, t, a1, a2⟩
  rcases mlook false (pkey hko he hsz) hto hz h1 hS (key := kidV nb) ⟨nb, c, t, rfl, hn⟩ with ⟨_, hno⟩ | ⟨x, hx, hk, hr⟩
  · exact absurd hk0 (hno x0 hx0)
  · obtain ⟨nb', ib, c', t', esi, ci, a1, a2, a3, a4, a5, a6⟩ := h2 x hx
    have hnb : nb' = nb := by
      rw [hk] at a1
      simp only [kidV, Value.pointer.injEq, Option.some.injEq, Addr.mk.injEq] at a1
      exact a1.1.symm
    subst hnb
    rw [a3] at hr
    exact ⟨ib, esi, ci, by simpa using hr, ⟨es, clock, h1, x, hx, hk, a3⟩, a4, a5, a6⟩

/-- a new holder's map -/
theorem cache_new (G : Nat → Nat → Bool → Prop) (w : World) : Cache G w.heap.size (w.alloc (.map #[] 0)) :=
  ⟨#[], 0, heap_alloc_new w _, fun x hx => by simp at hx, fun x hx => by simp at hx, fun x hx => by simp at hx⟩

end

end Go.Proofs.YtpaleogkgfclnaaDoor

namespace Go.Proofs.YtpaleogkgfclnaaDoor
open Go.RowKit
open Go.ChangeMaps
open Pl
set_option linter.unusedSimpArgs false
set_option linter.unusedVariables false

theorem or_at {fr : Nat} {e : Nat → Nat} (he : ∀ i, e i < 8) {k : Nat} (hk : k < 4) (hb : fr.testBit k = true) : bits .or .i64 ((keyTo fr e k : Nat) : Int) ((e k * 8 ^ k : Nat) : Int) = ((keyTo fr e (k + 1) : Nat) : Int) := by
  have h1 := keyTo_lt (fr := fr) he k
  have h2 := keyTo_lt (fr := fr) he (k + 1)
  have e1 : keyTo fr e (k + 1) = keyTo fr e k ||| (e k * 8 ^ k) := by rw [show keyTo fr e (k + 1) = if fr.testBit k then keyTo fr e k ||| (e k * 8 ^ k) else keyTo fr e k from rfl, hb]; rfl
  rw [e1] at h2 ⊢
  have hp : (8 : Nat) ^ (k + 1) ≤ 4096 := by
    have : k = 0 ∨ k = 1 ∨ k = 2 ∨ k = 3 := by omega
    rcases this with rfl | rfl | rfl | rfl <;> decide
  have hp1 : (8 : Nat) ^ (k + 1) = 8 * 8 ^ k := by rw [Nat.pow_succ, Nat.mul_comm]
  have hx : e k * 8 ^ k ≤ 7 * 8 ^ k := Nat.mul_le_mul_right _ (by have := he k; omega)
  generalize e k * 8 ^ k = y at *
  generalize keyTo fr e k = m at *
  have g1 : (BitVec.ofInt 64 (m : Int)).toNat = m := by
    rw [BitVec.ofInt_natCast, BitVec.toNat_ofNat]; exact Nat.mod_eq_of_lt (by omega)
  have g2 : (BitVec.ofInt 64 (y : Int)).toNat = y := by
    rw [BitVec.ofInt_natCast, BitVec.toNat_ofNat]; exact Nat.mod_eq_of_lt (by omega)
  show IntKind.i64.wrap ((BitVec.ofInt 64 (m : Int) ||| BitVec.ofInt 64 (y : Int)).toNat : Int) = _
  rw [BitVec.toNat_or, g1, g2, IntWalk.i64_in _ (by omega)]

theorem keyTo_no {fr : Nat} {e : Nat → Nat} {k : Nat} (hb : fr.testBit k = false) : keyTo fr e (k + 1) = keyTo fr e k := by
  rw [show keyTo fr e (k + 1) = if fr.testBit k then keyTo fr e k ||| (e k * 8 ^ k) else keyTo fr e k from rfl, hb]; rfl

theorem index4 (W : World) (E : Nat → Nat) (k : Nat) (hk : k < 4) : (Instr.index 106 (.agg #[.int .i64 (E 0 : Nat), .int .i64 (E 1 : Nat), .int .i64 (E 2 : Nat), .int .i64 (E 3 : Nat)]) (.int .i64 (k : Nat))).run Tryd.prog W = .ok (.int .i64 (E k : Nat)) W := by
  obtain ⟨i0, hi, hz0, hz1, hz2⟩ := info_parts (P := Tryd.prog) (e := 3) (z := .int .i64 0) (size := 1) (bytes := 8) (by kernel_rfl)
  have hu := Tryd.underlying106
  have : k = 0 ∨ k = 1 ∨ k = 2 ∨ k = 3 := by omega
  rcases this with rfl | rfl | rfl | rfl <;> simp [Instr.index, run_underlying hu, asIntOf, part, isAgg, sizeOf, typeInfo, hi, hz1, hz0, go_sem]

theorem eql_map (W : World) (m : Option Nat) : (binOp .eql 127 (.map m) (.map none)).run Tryd.prog W = .ok (.bool m.isNone) W := by
  have hu := Tryd.underlying127
  have h : ∀ d : Nat, (Op.equalIn (d + 1) 127 (.map m) (.map none)).run Tryd.prog W = .ok m.isNone W := fun d => by
    cases m <;> simp [Op.equalIn, run_underlying hu]
  simp only [binOp]
  simp [Op.equal, Op.maxDepth, h 9999]

/-- the holder, of a structure, for trees in a world -/
structure HoldW (lo : Nat) (w0 : World) (a : St) (hb : Nat) (w : World) : Prop where
  tr : Below w0.heap.size w0 w
  ge : w0.heap.size ≤ hb
  box : Bx w (hb + 1) 105 #[.int .i64 (a.n : Int), .string (bs a.set), .string (bs a.rel), .map (some hb)]
  cache : Cache (Good lo w0 a) hb w

theorem HoldW.step {lo : Nat} {w0 : World} {a : St} {hb : Nat} {w w' : World} (h : HoldW lo w0 a hb w) (hf : Fz hb w w') (hc : Cache (Good lo w0 a) hb w') : HoldW lo w0 a hb w' :=
  ⟨h.tr.trans (hf.below.mono h.ge), h.ge, hf.bx h.box, hc⟩
theorem HoldW.call {lo : Nat} {w0 : World} {a : St} {hb : Nat} {w w' : World} (h : HoldW lo w0 a hb w) (hf : Below w.heap.size w w') : HoldW lo w0 a hb w' :=
  h.step (Fz.call (Nat.le_of_lt h.cache.lt) hf) (h.cache.call hf)
theorem HoldW.alloc {lo : Nat} {w0 : World} {a : St} {hb : Nat} {w : World} (h : HoldW lo w0 a hb w) (o : Obj) : HoldW lo w0 a hb (w.alloc o) := h.call ((Below.refl _ _).alloc (Nat.le_refl _) o)
theorem HoldW.tree {lo : Nat} {w0 : World} {a : St} {hb : Nat} {w : World} (h : HoldW lo w0 a hb w) {f : Fm} {nb : Nat} (ht : TreeAt lo w0 f nb) : TreeAt lo w f nb := ht.below h.tr

/-- the elements of the four variables, as a value -/
def envA (e : Env) : Array Value := #[.int .i64 (e 0 : Nat), .int .i64 (e 1 : Nat), .int .i64 (e 2 : Nat), .int .i64 (e 3 : Nat)]

/-- what isTrue and decide give back for a formula -/
def HoldsBy (F : FuncId) (lo : Nat) (w0 : World) (a : St) (hb : Nat) (f : Fm) : Prop :=
  ∀ (nb : Nat) (e : Env) (w : World), TreeAt lo w0 f nb → (∀ v, e v < a.n) → HoldW lo w0 a hb w →
    Calls Tryd.prog F #[.pointer (some ⟨hb + 1, 0, none⟩), kidV nb, .agg (envA e)] w fun ed w' => ed = .returned (.bool (f.holds a e)) ∧ HoldW lo w0 a hb w' ∧ Fz hb w w'

set_option maxRecDepth 100000 in
set_option maxHeartbeats 4000000 in
theorem isTrue_of (lo : Nat) (w0 : World) (a : St) (ha : a.ok) (hb : Nat) (f : Fm) (hd : HoldsBy 103 lo w0 a hb f) : HoldsBy 85 lo w0 a hb f := by
  intro nb e w ht he hw
  have h8 := ha.hi
  have he8 : ∀ v, e v < 8 := fun v => Nat.lt_of_lt_of_le (he v) h8
  have hfr : f.freeBits < 16 := freeBits_lt f
  have hg := good_new a ht he8
  have hkl := keyN_lt (fr := f.freeBits) he8
  obtain ⟨E, hE⟩ : ∃ E, E = eN e := ⟨_, rfl⟩
  have hA : envA e = #[.int .i64 (E 0 : Nat), .int .i64 (E 1 : Nat), .int .i64 (E 2 : Nat), .int .i64 (E 3 : Nat)] := by rw [hE]; rfl
  have hd2 := fun (W : World) (hW : HoldW lo w0 a hb W) => hd nb e W ht he hW
  simp only [hA] at hd2 ⊢
  have Hd := Lib.hid hd2
  clear hd2 hA
  have Hnlt := Lib.hid (show nb < hb from by
    obtain ⟨ks, ⟨_, vs, ps, hh, _⟩, _⟩ := ht.open
    have h1 := (Array.getElem?_eq_some_iff.1 hh).1
    have h2 := hw.ge
    omega)
  have T0 := Lib.hid ht
  have W1 := Lib.hid (hw.alloc (.cells #[.int .i64 (E 0 : Nat), .int .i64 (E 1 : Nat), .int .i64 (E 2 : Nat), .int .i64 (E 3 : Nat)] 106))
  have hx := Bx.new w 106 #[.int .i64 (E 0 : Nat), .int .i64 (E 1 : Nat), .int .i64 (E 2 : Nat), .int .i64 (E 3 : Nat)]
  have F1 := Lib.hid (Fz.alloc (Nat.le_of_lt hw.cache.lt) (.cells #[.int .i64 (E 0 : Nat), .int .i64 (E 1 : Nat), .int .i64 (E 2 : Nat), .int .i64 (E 3 : Nat)] 106))
  obtain ⟨ks, vsv, psv, hc0, hc1, hc2, hc3, hc4, _⟩ := node_cells (W1.out.tree ht)
  obtain ⟨jf, hinf, hsz⟩ : ∃ j, Tryd.prog.info? 66 = some j ∧ j.size ≠ 0 := by
    have h : (Tryd.prog.info? 66).map (·.size) = some 5 := by kernel_rfl
    cases hi : Tryd.prog.info? 66 with
    | none => rw [hi] at h; cases h
    | some j => exact ⟨j, rfl, by rw [hi] at h; simp at h; omega⟩
  have hzm : ∀ W, (zeroValue 127).run Tryd.prog W = .ok (.map none) W := fun W => by kernel_rfl
  have hzb : ∀ W, (zeroValue 4).run Tryd.prog W = .ok (.bool false) W := fun W => by kernel_rfl
  obtain ⟨ks0, ⟨_, vs0, ps0, hbk, _⟩, _⟩ := (W1.out.tree ht).open
  have Hn := Lib.hid hbk
  clear hbk
  have b3 := W1.out.box.cell 3
  simp only [List.getElem?_toArray, List.getElem?_cons_zero, List.getElem?_cons_succ] at b3
  have v0 := hx.cell 0
  have v1 := hx.cell 1
  have v2 := hx.cell 2
  have v3 := hx.cell 3
  have Hx := Lib.hid hx
  have eE := eN_lt he8
  obtain ⟨fr, hfr2⟩ : ∃ fr, fr = f.freeBits := ⟨_, rfl⟩
  rw [← hfr2] at hc3 hfr
  rw [← hE] at eE
  have He8 := Lib.hid he8
  have Hg := Lib.hid hg
  have Hkl := Lib.hid hkl
  have HE := Lib.hid hE
  have Hfr := Lib.hid hfr2
  simp only [List.getElem?_toArray, List.getElem?_cons_zero, List.getElem?_cons_succ] at v0 v1 v2 v3
  clear hd ht hw hx hg hkl hE hfr2 he8 he h8 hc0 hc1 hc2 hc4
  go_enter Tryd.func85, Tryd.ntmps85
  go_wp2_with fail
  go_loop [7, 14] (fun o i => ∃ k : Nat, k ≤ 4 ∧ i = .int .i64 (k : Nat) ∧ o = .int .i64 (keyTo fr E k : Nat)) (fun _ i => 4 - (intOf i).toNat)
  case atStart => exact ⟨0, by omega, rfl, rfl⟩
  case round =>
    obtain ⟨k, hk, rfl, rfl⟩ := hrel
    by_cases hlt : k < 4
    · have hbit := shr_bit fr k hfr hlt
      have hx8 := eE k
      have hix := fun W => index4 W E k hlt
      have hor := fun h => or_at (fr := fr) eE hlt h
      have hno := fun h => keyTo_no (fr := fr) (e := E) (k := k) h
      have hsh : IntKind.i64.wrap (3 * (k : Int)) = ((3 * k : Nat) : Int) := by rw [IntWalk.i64_in _ (by omega)]; omega
      have hpw : wrap64 ((E k : Int) * 2 ^ (3 * k)) = ((E k * 8 ^ k : Nat) : Int) := by
        have hp : (8 : Nat) ^ k ≤ 512 := by
          have : k = 0 ∨ k = 1 ∨ k = 2 ∨ k = 3 := by omega
          rcases this with rfl | rfl | rfl | rfl <;> decide
        have e1 : ((E k : Int) * 2 ^ (3 * k)) = ((E k * 8 ^ k : Nat) : Int) := by rw [Int.natCast_mul, Int.natCast_pow, Int.pow_mul]; rfl
        have hm : E k * 8 ^ k ≤ 7 * 512 := Nat.mul_le_mul (by omega) hp
        rw [e1]
        unfold wrap64
        omega
      cases hb' : fr.testBit k with
      | true =>
        rw [hb'] at hbit
        have Hor := Lib.hid (hor hb')
        have Hpw := Lib.hid hpw
        clear hno hb' hor hpw
        go_wp2_with fail
        go_round
        case rel => exact ⟨k + 1, by omega, by go_num, congrArg _ (by rw [Hpw.out]; exact Hor.out)⟩
        case measure => simp [intOf]; omega
      | false =>
        rw [hb'] at hbit
        have hno := hno hb'
        have Hno := Lib.hid hno
        clear hor hb' hno
        go_wp2_with fail
        go_round
        case rel => exact ⟨k + 1, by omega, by go_num, by rw [Hno.out]⟩
        case measure => simp [intOf]; omega
    · obtain rfl : k = 4 := by omega
      obtain ⟨K, hK⟩ : ∃ K, K = keyTo fr E 4 := ⟨_, rfl⟩
      have hK2 : keyN f.freeBits e = K := by rw [hK, Hfr.out, HE.out]; rfl
      rw [← hK]
      rw [hK2] at Hg Hkl
      have HK := Lib.hid hK2
      clear hK hK2
      rcases W1.out.cache.look Tryd.underlying103 Tryd.underlying52 hinf hsz (hzm _) Hn.out with hr | ⟨ib, esi, ci, hr, hkept, hlt2, hi, hok⟩
      · have hr2 := inner_look_nil (P := Tryd.prog) (w := w.alloc (.cells #[.int .i64 (E 0 : Nat), .int .i64 (E 1 : Nat), .int .i64 (E 2 : Nat), .int .i64 (E 3 : Nat)] 106)) Tryd.underlying127 Tryd.underlying3 (hzb _) Hkl.out
        go_wp2_with fail
        refine (Hd.out _ W1.out).mono ?_
        clear hr hr2 b3
        rintro ed w2 ⟨rfl, hW2, hF2⟩
        have W2 := Lib.hid hW2
        have F2 := Lib.hid (F1.out.trans hF2)
        have b3 := hW2.box.cell 3
        simp only [List.getElem?_toArray, List.getElem?_cons_zero, List.getElem?_cons_succ] at b3
        have hq0 := eql_map w2 none
        have hq1 := fun m => eql_map w2 (some m)
        simp only [Option.isNone_none, Option.isNone_some] at hq0 hq1
        have hn2 := hF2.cells _ _ _ _ Hn.out
        clear hW2 hF2
        rcases W2.out.cache.look Tryd.underlying103 Tryd.underlying52 hinf hsz (hzm _) hn2 with hr | ⟨ib, esi, ci, hr, hkept, hlt, hi, hok⟩
        · obtain ⟨W, hr4, hcW, hfW, hin⟩ := W2.out.cache.grow Tryd.underlying103 Tryd.underlying52 hinf hsz hn2 Hnlt.out
          have W3 := Lib.hid (W2.out.step hfW hcW)
          obtain ⟨ib, esi, ci, hr5, hkept, hlt, hi, hok⟩ := hcW.found Tryd.underlying103 Tryd.underlying52 hinf hsz (hzm _) (hfW.cells _ _ _ _ hn2) hin
          obtain ⟨W', hr6, hcW', hfW'⟩ := hcW.put hkept hlt hi hok Tryd.underlying127 Tryd.underlying3 Hkl.out Hg.out
          have W4 := Lib.hid (W3.out.step hfW' hcW')
          have F4 := Lib.hid ((F2.out.trans hfW).trans hfW')
          have c3 := W3.out.box.cell 3
          have d3 := (W2.out.alloc (.map #[] 0)).box.cell 3
          simp only [List.getElem?_toArray, List.getElem?_cons_zero, List.getElem?_cons_succ] at c3 d3
          have hmk := run_makeMap (P := Tryd.prog) 127 w2
          clear hcW hfW hin hkept hlt hi hok hcW' hfW' hn2
          go_wp2_with fail
          go_ret
          exact ⟨rfl, W4.out, F4.out⟩
        · obtain ⟨W', hr6, hcW', hfW'⟩ := W2.out.cache.put hkept hlt hi hok Tryd.underlying127 Tryd.underlying3 Hkl.out Hg.out
          have W4 := Lib.hid (W2.out.step hfW' hcW')
          have F4 := Lib.hid (F2.out.trans hfW')
          clear hkept hlt hi hok hcW' hfW' hn2
          go_wp2_with fail
          go_ret
          exact ⟨rfl, W4.out, F4.out⟩
      · rcases inner_look (P := Tryd.prog) hi hok Tryd.underlying127 Tryd.underlying3 (hzb _) Hkl.out with hr2 | ⟨v, hr2, hv⟩
        · clear hkept hlt2 hi hok
          go_wp2_with fail
          refine (Hd.out _ W1.out).mono ?_
          clear hr hr2 b3
          rintro ed w2 ⟨rfl, hW2, hF2⟩
          have W2 := Lib.hid hW2
          have F2 := Lib.hid (F1.out.trans hF2)
          have b3 := hW2.box.cell 3
          simp only [List.getElem?_toArray, List.getElem?_cons_zero, List.getElem?_cons_succ] at b3
          have hq0 := eql_map w2 none
          have hq1 := fun m => eql_map w2 (some m)
          simp only [Option.isNone_none, Option.isNone_some] at hq0 hq1
          have hn2 := hF2.cells _ _ _ _ Hn.out
          clear hW2 hF2
          rcases W2.out.cache.look Tryd.underlying103 Tryd.underlying52 hinf hsz (hzm _) hn2 with hr | ⟨ib, esi, ci, hr, hkept, hlt, hi, hok⟩
          · obtain ⟨W, hr4, hcW, hfW, hin⟩ := W2.out.cache.grow Tryd.underlying103 Tryd.underlying52 hinf hsz hn2 Hnlt.out
            have W3 := Lib.hid (W2.out.step hfW hcW)
            obtain ⟨ib, esi, ci, hr5, hkept, hlt, hi, hok⟩ := hcW.found Tryd.underlying103 Tryd.underlying52 hinf hsz (hzm _) (hfW.cells _ _ _ _ hn2) hin
            obtain ⟨W', hr6, hcW', hfW'⟩ := hcW.put hkept hlt hi hok Tryd.underlying127 Tryd.underlying3 Hkl.out Hg.out
            have W4 := Lib.hid (W3.out.step hfW' hcW')
            have F4 := Lib.hid ((F2.out.trans hfW).trans hfW')
            have c3 := W3.out.box.cell 3
            have d3 := (W2.out.alloc (.map #[] 0)).box.cell 3
            simp only [List.getElem?_toArray, List.getElem?_cons_zero, List.getElem?_cons_succ] at c3 d3
            have hmk := run_makeMap (P := Tryd.prog) 127 w2
            clear hcW hfW hin hkept hlt hi hok hcW' hfW' hn2
            go_wp2_with fail
            go_ret
            exact ⟨rfl, W4.out, F4.out⟩
          · obtain ⟨W', hr6, hcW', hfW'⟩ := W2.out.cache.put hkept hlt hi hok Tryd.underlying127 Tryd.underlying3 Hkl.out Hg.out
            have W4 := Lib.hid (W2.out.step hfW' hcW')
            have F4 := Lib.hid (F2.out.trans hfW')
            clear hkept hlt hi hok hcW' hfW' hn2
            go_wp2_with fail
            go_ret
            exact ⟨rfl, W4.out, F4.out⟩
        · have hv2 := hv f T0.out e He8.out HK.out
          have Hv := Lib.hid hv2
          clear hkept hlt2 hi hok hv hv2
          go_wp2_with fail
          go_ret
          exact ⟨by rw [← Hv.out]; rfl, W1.out, F1.out⟩

end Go.Proofs.YtpaleogkgfclnaaDoor

namespace Go.Proofs.YtpaleogkgfclnaaDoor
open Go.RowKit
open Go.ChangeMaps
open Pl
set_option linter.unusedSimpArgs false
set_option linter.unusedVariables false

/-- the boxes of decide: the formula's address, the elements -/
structure DecB (w : World) (bn nb : Nat) (E : Nat → Nat) : Prop where
  node : Bx w bn 52 #[kidV nb]
  vals : Bx w (bn + 1) 106 #[.int .i64 (E 0 : Nat), .int .i64 (E 1 : Nat), .int .i64 (E 2 : Nat), .int .i64 (E 3 : Nat)]

theorem fin4 : ∀ v : Fin 4, v = 0 ∨ v = 1 ∨ v = 2 ∨ v = 3 := by decide

set_option maxRecDepth 100000 in
set_option maxHeartbeats 1000000 in
theorem at_calls {S : Nat → Prop} (f : Fm) (nb bn : Nat) (E : Nat → Nat) (w : World) (ht : TreeIn S w f nb) (hb : DecB w bn nb E) (i : Nat) (v : Fin 4) (hv : f.vars[i]? = some v) :
    Calls Tryd.prog 114 #[.int .i64 (i : Nat), .pointer (some ⟨bn + 1, 0, none⟩), .pointer (some ⟨bn, 0, none⟩)] w fun e w' => e = .returned (.int .i64 (E v.val : Nat)) ∧ w = w' := by
  obtain ⟨ks, vsv, psv, _, hc1, _, _, _, hrow, _⟩ := node_cells ht
  obtain ⟨a, cap, rfl, hl, hrow⟩ := row_slice hrow
  have hi : i < f.vars.length := (List.getElem?_eq_some_iff.1 hv).1
  have hl2 := vars_le f
  obtain ⟨g, rfl, hcell⟩ := hrow i hi
  have hcell2 : w.cell? ⟨g, i, none⟩ = some (byteV (vb v)) := by rw [hcell, List.getElem?_map, hv]; rfl
  have n0 := hb.node.cell 0
  have v0 := hb.vals.cell 0
  have v1 := hb.vals.cell 1
  have v2 := hb.vals.cell 2
  have v3 := hb.vals.cell 3
  simp only [List.getElem?_toArray, List.getElem?_cons_zero, List.getElem?_cons_succ] at n0 v0 v1 v2 v3
  unfold byteV at hcell2
  have i1 : (0 : Int) ≤ (i : Int) := by omega
  have i2 : (i : Int) < (f.vars.length : Int) := by omega
  generalize f.vars.length = nv at *
  clear hb ht hv hl hcell hrow hi hl2
  have : v = 0 ∨ v = 1 ∨ v = 2 ∨ v = 3 := fin4 v
  rcases this with rfl | rfl | rfl | rfl
  · have e : ((vb 0).toNat : Int) = 97 := by decide
    rw [e] at hcell2
    go_enter Tryd.func114, Tryd.ntmps114
    go_wp2_with fail
    go_ret
    exact ⟨rfl, rfl⟩
  · have e : ((vb 1).toNat : Int) = 98 := by decide
    rw [e] at hcell2
    go_enter Tryd.func114, Tryd.ntmps114
    go_wp2_with fail
    go_ret
    exact ⟨rfl, rfl⟩
  · have e : ((vb 2).toNat : Int) = 99 := by decide
    rw [e] at hcell2
    go_enter Tryd.func114, Tryd.ntmps114
    go_wp2_with fail
    go_ret
    exact ⟨rfl, rfl⟩
  · have e : ((vb 3).toNat : Int) = 100 := by decide
    rw [e] at hcell2
    go_enter Tryd.func114, Tryd.ntmps114
    go_wp2_with fail
    go_ret
    exact ⟨rfl, rfl⟩

end Go.Proofs.YtpaleogkgfclnaaDoor

namespace Go.Proofs.YtpaleogkgfclnaaDoor
open Go.RowKit
set_option linter.unusedVariables false

section
variable {P : Program} {ops : Array Oper} {Q : Exit → Act → World → Prop} {md : Region.Mode} {S : World → Prop}

/-- the order laid: numbers that are taken first where they yield, numbers that alone may come up -/
def schedOk (md : Region.Mode) (ops : Array Oper) : List (Nat × Bool) → Array Bool → Bool
  | [], listed => (Region.ready md ops listed).isEmpty
  | (i, true) :: is, listed => Region.free md ops listed i && ((Region.ready md ops listed).contains i && schedOk md ops is (listed.setIfInBounds i true))
  | (i, false) :: is, listed => (Region.ready md ops listed == [i]) && schedOk md ops is (listed.setIfInBounds i true)

def wpSched (P : Program) (ops : Array Oper) (Q : Exit → Act → World → Prop) (S : World → Prop) : List (Nat × Bool) → Act → World → Prop
  | [], a, w => Q .normal a w
  | (i, true) :: is, a, w => ∃ o v, ops[i]? = some o ∧ YieldsIf P ops S o v a ∧ wpSched P ops Q S is (a.put o.dst v) w
  | (i, false) :: is, a, w => wpOp P ops Q i (fun a' w' => S w' ∧ wpSched P ops Q S is a' w') a w

theorem wpAnyH_sched (hs : Region.noSelect ops = true) (hQ : ∀ t c a w, Q (.panic c) { a with tmps := t } w → Q (.panic c) a w) :
    ∀ (is : List (Nat × Bool)) (listed : Array Bool) (a : Act) (w : World), schedOk md ops is listed = true → S w → wpSched P ops Q S is a w → wpAnyH P md ops Q S is.length listed a w := by
  intro is
  induction is with
  | nil => intro listed a w h _ hw; exact ⟨by simpa [schedOk] using h, hw⟩
  | cons p is ih =>
    obtain ⟨i, b⟩ := p
    intro listed a w h hS hw
    cases b with
    | true =>
      simp only [schedOk, Bool.and_eq_true] at h
      obtain ⟨o, v, ho, hy, hr⟩ := hw
      exact wpAnyH_take ho hs h.1 h.2.1 (fun c a w h => by cases hd : o.dst with | none => rw [hd] at h; exact h | some d => rw [hd] at h; exact hQ _ c a w h) hy hS (ih _ _ _ h.2.2 hS hr)
    | false =>
      simp only [schedOk, Bool.and_eq_true, beq_iff_eq] at h
      refine wpAnyH_all h.1 (by simp) fun j hj => ?_
      obtain rfl : j = i := by simpa using hj
      exact wpOp_mono (fun a' w' hk => ⟨hk.1, ih _ _ _ h.2 hk.1 hk.2⟩) hw

/-- the same, behind a name that nothing unfolds -/
structure Sd (P : Program) (ops : Array Oper) (Q : Exit → Act → World → Prop) (S : World → Prop) (is : List (Nat × Bool)) (a : Act) (w : World) : Prop where
  out : wpSched P ops Q S is a w

/-- a region that draws, by an order that is laid; what follows stands behind a letter -/
theorem region_sched {id : Nat} {a : Act} {w : World} (is : List (Nat × Bool)) (S : World → Prop) (hm : P.follows .mixedOrders = true) (hs : Region.noSelect ops = true) (hl : is.length = ops.size)
    (hk : schedOk .any ops is (Array.replicate ops.size false) = true) (hQ : ∀ t c a w, Q (.panic c) { a with tmps := t } w → Q (.panic c) a w) (hS : S w.drew)
    (h : ∀ Q' : Exit → Act → World → Prop, Hid (∀ a' w', Q .normal a' w' → Q' .normal a' w') → Sd P ops Q' S is a w.drew) : (Code.region id ops true).wp P Q a w := by
  refine wp_region_held (S := S) hm ?_
  have h2 := wpAnyH_sched (md := .any) (S := S) hs hQ is (Array.replicate ops.size false) a w.drew hk hS (h Q (Lib.hid fun _ _ h => h)).out
  rw [hl] at h2
  exact h2

theorem sched_take {i : Nat} {is : List (Nat × Bool)} {a : Act} {w : World} {o : Oper} {v : Value} (ho : ops[i]? = some o) (hw : Region.wanted o (yielded ops a.tmps) = true) (hy : ∀ w, S w → (execOp a.eval o).run P w = .ok (.value v) w)
    (h : Sd P ops Q S is (a.put o.dst v) w) : Sd P ops Q S ((i, true) :: is) a w := ⟨⟨o, v, ho, .inl ⟨hw, hy⟩, h.out⟩⟩
theorem sched_skip {i : Nat} {is : List (Nat × Bool)} {a : Act} {w : World} {o : Oper} (ho : ops[i]? = some o) (hw : Region.wanted o (yielded ops a.tmps) = false)
    (h : Sd P ops Q S is (a.put o.dst undef) w) : Sd P ops Q S ((i, true) :: is) a w := ⟨⟨o, undef, ho, .inr ⟨hw, rfl⟩, h.out⟩⟩
theorem sched_call {i : Nat} {is : List (Nat × Bool)} {a : Act} {w : World} {o : Oper} (ho : ops[i]? = some o) (hw : Region.wanted o (yielded ops a.tmps) = true)
    (h : ∀ K : Act → World → Prop, Hid (∀ a' w', S w' → Sd P ops Q S is a' w' → K a' w') → o.wp P a w K Q) : Sd P ops Q S ((i, false) :: is) a w := by
  refine ⟨?_⟩
  show wpOp P ops Q i _ a w
  unfold wpOp
  simp only [ho, hw, if_true]
  exact .inl (h _ (Lib.hid fun _ _ h1 h2 => ⟨h1, h2.out⟩))
theorem sched_skipC {i : Nat} {is : List (Nat × Bool)} {a : Act} {w : World} {o : Oper} (ho : ops[i]? = some o) (hw : Region.wanted o (yielded ops a.tmps) = false) (hS : S w)
    (h : Sd P ops Q S is (a.put o.dst undef) w) : Sd P ops Q S ((i, false) :: is) a w := by
  refine ⟨?_⟩
  show wpOp P ops Q i _ a w
  unfold wpOp
  simp only [ho, hw]
  exact ⟨hS, h.out⟩
theorem sched_take' {i : Nat} {is : List (Nat × Bool)} {a : Act} {w : World} {o : Oper} {v : Value} {a' : Act} (ho : ops[i]? = some o) (hw : Region.wanted o (yielded ops a.tmps) = true) (hy : ∀ w, S w → (execOp a.eval o).run P w = .ok (.value v) w)
    {d : Tmp} (hd : o.dst = some d) (ha : a.put (some d) v = a') (h : Sd P ops Q S is a' w) : Sd P ops Q S ((i, true) :: is) a w := ⟨⟨o, v, ho, .inl ⟨hw, hy⟩, by rw [hd, ha]; exact h.out⟩⟩
theorem sched_skip' {i : Nat} {is : List (Nat × Bool)} {a : Act} {w : World} {o : Oper} {a' : Act} (ho : ops[i]? = some o) (hw : Region.wanted o (yielded ops a.tmps) = false) {d : Tmp} (hd : o.dst = some d) (ha : a.put (some d) undef = a')
    (h : Sd P ops Q S is a' w) : Sd P ops Q S ((i, true) :: is) a w := ⟨⟨o, undef, ho, .inr ⟨hw, rfl⟩, by rw [hd, ha]; exact h.out⟩⟩
theorem sched_lay {is : List (Nat × Bool)} {a a' : Act} {w : World} (ha : a = a') (h : Sd P ops Q S is a' w) : Sd P ops Q S is a w := by rw [ha]; exact h
theorem sched_skipC' {i : Nat} {is : List (Nat × Bool)} {a : Act} {w : World} {o : Oper} {a' : Act} (ho : ops[i]? = some o) (hw : Region.wanted o (yielded ops a.tmps) = false) (hS : S w) {d : Tmp} (hd : o.dst = some d) (ha : a.put (some d) undef = a')
    (h : Sd P ops Q S is a' w) : Sd P ops Q S ((i, false) :: is) a w := by
  refine ⟨?_⟩
  show wpOp P ops Q i _ a w
  unfold wpOp
  rw [← ha] at h
  simp only [ho, hw, hd] at *
  exact ⟨hS, h.out⟩
theorem sched_done {a : Act} {w : World} (h : Q .normal a w) : Sd P ops Q S [] a w := ⟨h⟩
end

end Go.Proofs.YtpaleogkgfclnaaDoor
