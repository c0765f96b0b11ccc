/-
  StructureValid, the program's and the reference's, and what the laws do with structures. Condition: texts below the reach.
-/
import Derived.Test.YtgnmlijfenjehaaDoorBits
namespace Go.Proofs.YtgnmlijfenjehaaDoor
open Go.RowKit
open Pl
set_option linter.unusedSimpArgs false
set_option linter.unusedVariables false

/-- a structure in Go -/
abbrev stV (i : Int) (s r : ByteArray) : Value := .agg #[.int .i64 i, .string s, .string r]

/-- a structure is valid -/
def okB (i : Int) (s r : ByteArray) : Bool := decide (1 ≤ i) && (decide (i ≤ 8) && (bitsB s i && bitsB r (i * i)))

theorem sq_bd {i : Int} (h1 : 1 ≤ i) (h2 : i ≤ 8) : 1 ≤ i * i ∧ i * i ≤ 64 := by
  have : i = 1 ∨ i = 2 ∨ i = 3 ∨ i = 4 ∨ i = 5 ∨ i = 6 ∨ i = 7 ∨ i = 8 := by omega
  rcases this with rfl | rfl | rfl | rfl | rfl | rfl | rfl | rfl <;> decide

theorem bits_get (s : ByteArray) (k : Nat) (h : k < s.size) : bitsL (s.data.toList.take (k + 1)) = (bitsL (s.data.toList.take k) && (s[k] == 48 || s[k] == 49)) := by
  unfold bitsL
  rw [List.take_succ_eq_append_getElem (by simpa using h), List.all_append]
  simp [List.all_cons]
  rfl

theorem bits_no (s : ByteArray) (k : Nat) (h : k < s.size) (hb : (s[k] == 48 || s[k] == 49) = false) : bitsL s.data.toList = false := by
  rw [Bool.eq_false_iff]
  intro e
  unfold bitsL at e
  have := List.all_eq_true.1 e s[k] (by rw [show s[k] = s.data.toList[k]'(by simpa using h) from rfl]; exact List.getElem_mem _)
  rw [hb] at this
  cases this

theorem bit_ne {b : UInt8} {m : Int} {c : UInt8} (hm : m = c.toNat) : ((b.toNat : Int) == m) = (b == c) := by
  subst hm
  rw [Bool.eq_iff_iff, beq_iff_eq, beq_iff_eq]
  exact ⟨fun h => UInt8.toNat_inj.1 (by omega), fun h => by rw [h]⟩

set_option maxHeartbeats 1000000 in
theorem isStructure_calls (i : Int) (s r : ByteArray) (w : World) (hs : s.size ≤ maxLen) (hr : r.size ≤ maxLen) :
    Calls Tryd.prog 31 #[stV i s r] w fun e w' => e = .returned (.bool (okB i s r)) ∧ Below w.heap.size w w' := by
  have Hs := Lib.hid hs
  have Hr := Lib.hid hr
  clear hs hr
  by_cases h1 : 1 ≤ i
  · by_cases h2 : i ≤ 8
    · obtain ⟨g1, g2⟩ := sq_bd h1 h2
      have c1 := areBits_calls s i
      have c2 := areBits_calls r (i * i)
      obtain ⟨q, hq⟩ : ∃ q, q = i * i := ⟨_, rfl⟩
      have hv : okB i s r = (bitsB s i && bitsB r q) := by unfold okB; rw [decide_eq_true h1, decide_eq_true h2, hq]; rfl
      rw [hv]
      rw [← hq] at g1 g2 c2
      have hmul : IntKind.i64.wrap (i * i) = q := by rw [← hq]; exact IntWalk.i64_in _ (by omega)
      have C1 := Lib.hid c1
      have C2 := Lib.hid c2
      clear c1 c2 hv
      cases hb1 : bitsB s i with
      | false =>
        rw [hb1] at C1
        clear hq hmul hb1
        go_enter Tryd.func31, Tryd.ntmps31
        go_wp2_with (go_at_call 61; (with_reducible refine (C1.out _ Hs.out).mono ?_); rintro e w' ⟨rfl, hx1⟩)
        go_ret
        exact ⟨rfl, ((Below.refl _ _).alloc (Nat.le_refl _) _).trans (hx1.mono (by simp))⟩
      | true =>
        rw [hb1] at C1
        have Hq := Lib.hid hq
        clear hq hb1
        go_enter Tryd.func31, Tryd.ntmps31
        go_wp2_with fail
        refine (C1.out _ Hs.out).mono ?_
        rintro e w1 ⟨rfl, hx1⟩
        obtain ⟨hc, hf⟩ := bcell hx1
        have Hx1 := Lib.hid hx1
        clear hx1
        go_wp2_with fail
        refine (C2.out _ Hr.out).mono ?_
        rintro e w2 ⟨rfl, hx2⟩
        have Hx2 := Lib.hid hx2
        clear hx2 hc hf
        go_wp2_with fail
        go_ret
        exact ⟨rfl, (((Below.refl _ _).alloc (Nat.le_refl _) _).trans (Hx1.out.mono (by simp))).trans (Hx2.out.mono (by have := Hx1.out.size; simp at this; omega))⟩
    · have hv : okB i s r = false := by unfold okB; rw [decide_eq_false h2]; simp
      rw [hv]
      have hd : decide (i ≤ 8) = false := decide_eq_false h2
      clear hv
      go_enter Tryd.func31, Tryd.ntmps31
      go_wp2_with fail
      go_ret
      exact ⟨rfl, (Below.refl _ _).alloc (Nat.le_refl _) _⟩
  · have hv : okB i s r = false := by unfold okB; rw [decide_eq_false h1]; simp
    rw [hv]
    have hd : decide (1 ≤ i) = false := decide_eq_false h1
    clear hv
    go_enter Tryd.func31, Tryd.ntmps31
    go_wp2_with fail
    go_ret
    exact ⟨rfl, (Below.refl _ _).alloc (Nat.le_refl _) _⟩

theorem StructureValid_impl (i : Int) (s r : ByteArray) (w : World) (hs : s.size ≤ maxLen) (hr : r.size ≤ maxLen) :
    Calls Tryd.prog 16 #[stV i s r] w fun e w' => e = .returned (.bool (okB i s r)) ∧ Below w.heap.size w w' := by
  have hc : ∀ W, Calls Tryd.prog 31 #[stV i s r] W fun e w' => e = .returned (.bool (okB i s r)) ∧ Below W.heap.size W w' := fun W => isStructure_calls i s r W hs hr
  have Hc := Lib.hid hc
  clear hc hs hr
  go_enter Tryd.func16, Tryd.ntmps16
  go_wp2_with (go_at_call 31; (with_reducible refine (Hc.out _).mono ?_); rintro e w' ⟨rfl, hx1⟩)
  go_ret
  exact ⟨rfl, ((Below.refl _ _).alloc (Nat.le_refl _) _).trans (hx1.mono (by simp))⟩

theorem l1In_calls (n lo hi : Int) (w : World) :
    Calls Tryd.prog 48 #[.int .i64 n, .int .i64 lo, .int .i64 hi] w fun e w' => e = .returned (.bool (decide (lo ≤ n) && decide (n ≤ hi))) ∧ w = w' := by
  by_cases h1 : lo ≤ n
  · by_cases h2 : n ≤ hi
    · rw [decide_eq_true h1, decide_eq_true h2]
      go_enter Tryd.func48, Tryd.ntmps48
      go_wp2_with fail
      go_ret
      exact ⟨rfl, rfl⟩
    · rw [decide_eq_true h1, decide_eq_false h2]
      have hd : decide (n ≤ hi) = false := decide_eq_false h2
      go_enter Tryd.func48, Tryd.ntmps48
      go_wp2_with fail
      go_ret
      exact ⟨rfl, rfl⟩
  · rw [decide_eq_false h1]
    have hd : decide (lo ≤ n) = false := decide_eq_false h1
    go_enter Tryd.func48, Tryd.ntmps48
    go_wp2_with fail
    go_ret
    exact ⟨rfl, rfl⟩

set_option maxHeartbeats 400000 in
theorem l1Bits_calls (s : ByteArray) (n : Int) (w : World) (hs : s.size ≤ maxLen) :
    Calls Tryd.prog 56 #[.string s, .int .i64 n] w fun e w' => e = .returned (.bool (bitsB s n)) ∧ w = w' := by
  unfold maxLen at hs
  have hv1 : bitsL s.data.toList = false → bitsB s n = false := fun h => by unfold bitsB; rw [h, Bool.and_false]
  have hv2 : bitsL s.data.toList = true → bitsB s n = decide ((s.size : Int) = n) := fun h => by unfold bitsB; rw [h, Bool.and_true]
  obtain ⟨V, hV⟩ : ∃ V, V = bitsB s n := ⟨_, rfl⟩
  rw [← hV] at hv1 hv2 ⊢
  have Hv1 := Lib.hid hv1
  have Hv2 := Lib.hid hv2
  clear hv1 hv2 hV
  go_enter Tryd.func56, Tryd.ntmps56
  go_wp2
  go_loop [5] (fun i => ∃ k : Nat, k ≤ s.size ∧ i = .int .i64 k ∧ bitsL (s.data.toList.take k) = true) (fun i => s.size - (intOf i).toNat)
  case atStart => exact ⟨0, Nat.zero_le _, rfl, rfl⟩
  case round =>
    obtain ⟨k, hk, rfl, hb⟩ := hrel
    have Hb := Lib.hid hb
    clear hb
    by_cases hlt : k < s.size
    · have hg := bits_get s k hlt
      have hn := bits_no s k hlt
      rw [← bit_ne (m := 48) rfl, ← bit_ne (m := 49) rfl] at hg hn
      cases h48 : ((s[k].toNat : Int) == 48) with
      | true =>
        rw [h48] at hg
        have n48 : ((s[k].toNat : Int) != 48) = false := by simp only [bne, h48]; rfl
        have Hg := Lib.hid hg
        clear hg hn
        go_wp2
        go_round
        case rel => exact ⟨k + 1, by omega, by go_num, by rw [Hg.out, Hb.out]; rfl⟩
        case measure => simp [intOf]; omega
      | false =>
        cases h49 : ((s[k].toNat : Int) == 49) with
        | true =>
          rw [h48, h49] at hg
          have n48 : ((s[k].toNat : Int) != 48) = true := by simp only [bne, h48]; rfl
          have n49 : ((s[k].toNat : Int) != 49) = false := by simp only [bne, h49]; rfl
          have Hg := Lib.hid hg
          clear hg hn
          go_wp2
          go_round
          case rel => exact ⟨k + 1, by omega, by go_num, by rw [Hg.out, Hb.out]; rfl⟩
          case measure => simp [intOf]; omega
        | false =>
          rw [h48, h49] at hn
          have n48 : ((s[k].toNat : Int) != 48) = true := by simp only [bne, h48]; rfl
          have n49 : ((s[k].toNat : Int) != 49) = true := by simp only [bne, h49]; rfl
          have Hn := Lib.hid (hn rfl)
          clear hg hn
          go_wp2
          go_ret
          exact ⟨by rw [Hv1.out Hn.out]; rfl, rfl⟩
    · have hall : bitsL s.data.toList = true := by
        have := Hb.out
        rwa [List.take_of_length_le (by simp; omega)] at this
      have Hall := Lib.hid hall
      clear hall
      go_wp2
      go_ret
      refine ⟨?_, rfl⟩
      rw [Hv2.out Hall.out]
      congr 2

set_option maxHeartbeats 1000000 in
theorem StructureValid_spec (i : Int) (s r : ByteArray) (w : World) (hs : s.size ≤ maxLen) (hr : r.size ≤ maxLen) :
    Calls Tryd.prog 28 #[stV i s r] w fun e w' => e = .returned (.bool (okB i s r)) ∧ Below w.heap.size w w' := by
  have Hs := Lib.hid hs
  have Hr := Lib.hid hr
  clear hs hr
  by_cases h1 : 1 ≤ i ∧ i ≤ 8
  · obtain ⟨h1, h2⟩ := h1
    obtain ⟨g1, g2⟩ := sq_bd h1 h2
    have c0 : ∀ W, Calls Tryd.prog 48 #[.int .i64 i, .int .i64 1, .int .i64 8] W fun e w' => e = .returned (.bool true) ∧ W = w' := fun W => by
      have := l1In_calls i 1 8 W
      rwa [decide_eq_true h1, decide_eq_true h2] at this
    have c1 := l1Bits_calls s i
    have c2 := l1Bits_calls r (i * i)
    obtain ⟨q, hq⟩ : ∃ q, q = i * i := ⟨_, rfl⟩
    have hv : okB i s r = (bitsB s i && bitsB r q) := by unfold okB; rw [decide_eq_true h1, decide_eq_true h2, hq]; rfl
    rw [hv]
    rw [← hq] at g1 g2 c2
    have hmul : IntKind.i64.wrap (i * i) = q := by rw [← hq]; exact IntWalk.i64_in _ (by omega)
    have C0 := Lib.hid c0
    have C1 := Lib.hid c1
    have C2 := Lib.hid c2
    clear c0 c1 c2 hv
    cases hb1 : bitsB s i with
    | false =>
      rw [hb1] at C1
      clear hq hmul hb1
      go_enter Tryd.func28, Tryd.ntmps28
      go_wp2_with (first | (go_at_call 48; (with_reducible refine (C0.out _).mono ?_); rintro e w' ⟨rfl, rfl⟩) | (go_at_call 56; (with_reducible refine (C1.out _ Hs.out).mono ?_); rintro e w' ⟨rfl, rfl⟩))
      go_ret
      exact ⟨rfl, (Below.refl _ _).alloc (Nat.le_refl _) _⟩
    | true =>
      rw [hb1] at C1
      have Hq := Lib.hid hq
      clear hq hb1
      go_enter Tryd.func28, Tryd.ntmps28
      go_wp2_with fail
      refine (C0.out _).mono ?_
      rintro e w1 ⟨rfl, rfl⟩
      go_wp2_with fail
      refine (C1.out _ Hs.out).mono ?_
      rintro e w1 ⟨rfl, rfl⟩
      go_wp2_with fail
      refine (C2.out _ Hr.out).mono ?_
      rintro e w2 ⟨rfl, rfl⟩
      go_wp2_with fail
      go_ret
      exact ⟨rfl, (Below.refl _ _).alloc (Nat.le_refl _) _⟩
  · have hv : okB i s r = false := by
      unfold okB
      by_cases h2 : 1 ≤ i
      · rw [decide_eq_false (p := i ≤ 8) (fun h => h1 ⟨h2, h⟩)]; simp
      · rw [decide_eq_false h2]; simp
    rw [hv]
    have c0 : ∀ W, Calls Tryd.prog 48 #[.int .i64 i, .int .i64 1, .int .i64 8] W fun e w' => e = .returned (.bool false) ∧ W = w' := fun W => by
      have := l1In_calls i 1 8 W
      have e : (decide (1 ≤ i) && decide (i ≤ 8)) = false := by
        rw [Bool.eq_false_iff]; simp only [ne_eq, Bool.and_eq_true, decide_eq_true_eq]; exact h1
      rwa [e] at this
    have C0 := Lib.hid c0
    clear hv c0 h1
    go_enter Tryd.func28, Tryd.ntmps28
    go_wp2_with (go_at_call 48; (with_reducible refine (C0.out _).mono ?_); rintro e w' ⟨rfl, rfl⟩)
    go_ret
    exact ⟨rfl, (Below.refl _ _).alloc (Nat.le_refl _) _⟩

theorem szStructure_calls (i : Int) (s r : ByteArray) (left : Nat) (w : World) (hl : left ≤ 1048576) (hs : s.size ≤ maxLen) (hr : r.size ≤ maxLen) :
    Calls Tryd.prog 9 #[stV i s r, .int .i64 left] w fun e w' => (∃ m : Int, e = .returned (.int .i64 m) ∧ (0 ≤ m → s.size + r.size ≤ left ∧ m = left - s.size - r.size)) ∧ Below w.heap.size w w' := by
  unfold maxLen at hs hr
  go_enter Tryd.func9, Tryd.ntmps9
  go_wp2_with fail
  · go_ret
    exact ⟨⟨_, rfl, fun h => absurd h (by decide)⟩, (Below.refl _ _).alloc (Nat.le_refl _) _⟩
  · go_ret
    exact ⟨⟨_, rfl, fun h => absurd h (by decide)⟩, (Below.refl _ _).alloc (Nat.le_refl _) _⟩
  · go_ret
    exact ⟨⟨_, rfl, fun h => ⟨by omega, rfl⟩⟩, (Below.refl _ _).alloc (Nat.le_refl _) _⟩

theorem toStructure_calls (i : Int) (s r : ByteArray) (w : World) :
    Calls Tryd.prog 11 #[stV i s r] w fun e w' => e = .returned (stV i s r) ∧ Below w.heap.size w w' := by
  go_enter Tryd.func11, Tryd.ntmps11
  go_wp2_with fail
  exact bodyPost_ret (v := stV i s r) (by simp [results, Tryd.results11, go_sem]) rfl ⟨rfl, by first | exact (Below.refl _ _).alloc (Nat.le_refl _) _ | exact ((Below.refl _ _).alloc (Nat.le_refl _) _).alloc (by simp) _ | exact (((Below.refl _ _).alloc (Nat.le_refl _) _).alloc (by simp) _).alloc (by simp; omega) _⟩

end Go.Proofs.YtgnmlijfenjehaaDoor
