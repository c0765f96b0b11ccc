/-
  Walks of CountsOf and WidthOf, the program's and the reference's, and of their laws. Condition: texts below the reach.
-/
import Derived.Test.YtndpclpjkechbaaSpecRank
namespace Go.Proofs.Ytndpclpjkechbaa
open Go.RowKit
open Pl

/-- does a text count, where it is a formula -/
noncomputable def cntV (l : List UInt8) : Bool := decide (numV l (fun f => if f.counts then 1 else 0) = 1)

theorem cntV_yes {l : List UInt8} {f : Fm} (h : l = f.text) (hl : l.length ≤ 4000) : cntV l = f.counts := by
  unfold cntV
  rw [numV_yes _ h hl]
  cases f.counts <;> simp

theorem cntV_no {l : List UInt8} (h : ¬ IsFm l) : cntV l = false := by
  unfold cntV
  rw [numV_no _ h]
  rfl

theorem findB_lt {c : UInt8} {l : List UInt8} (h : c ∉ l) : findB c l < 0 := by
  have := mt findB_nonneg.1 h
  omega

theorem CountsOf_spec (s : ByteArray) (w : World) (hs2 : s.size ≤ maxLen) :
    Calls Try.prog 13 #[.string s] w fun e w' => e = .returned (.bool (cntV s.data.toList)) ∧ w = w' := by
  rcases fm_cases s with ⟨hb, hno⟩ | ⟨f, hb, hf, hs4, hl4⟩
  · have hv := cntV_no hno
    rw [hv]
    have Hb := Lib.hid hb
    clear hb hv hno
    go_enter Try.func13, Try.ntmps13
    go_wp2_with (go_at_call 9; refine (FormulaValid_spec s _ hs2).mono ?_; rintro e w' ⟨rfl, rfl⟩; rw [Hb.out])
    go_ret
    exact ⟨rfl, rfl⟩
  · have hv := cntV_yes hf (by rw [hf]; exact hl4)
    have hct := counts_text f
    rw [← hf] at hct
    have Hb := Lib.hid hb
    clear hb hf
    have f50 : ∀ w, Calls Try.prog 22 #[.string s, .int .u8 50] w fun e w' => e = .returned (.int .i64 (findB 50 s.data.toList)) ∧ w = w' := fun w => l15Find_calls s 50 w hs2
    have f51 : ∀ w, Calls Try.prog 22 #[.string s, .int .u8 51] w fun e w' => e = .returned (.int .i64 (findB 51 s.data.toList)) ∧ w = w' := fun w => l15Find_calls s 51 w hs2
    have f52 : ∀ w, Calls Try.prog 22 #[.string s, .int .u8 52] w fun e w' => e = .returned (.int .i64 (findB 52 s.data.toList)) ∧ w = w' := fun w => l15Find_calls s 52 w hs2
    have F50 := Lib.hid f50
    have F51 := Lib.hid f51
    have F52 := Lib.hid f52
    clear f50 f51 f52
    by_cases m50 : (50 : UInt8) ∈ s.data.toList
    · have g := findB_nonneg.2 m50
      have hv2 : cntV s.data.toList = true := by rw [hv]; exact hct.2 (.inl m50)
      rw [hv2]
      clear hv hct m50 hv2
      go_enter Try.func13, Try.ntmps13
      go_wp2_with (first | (go_at_call 9; refine (FormulaValid_spec s _ hs2).mono ?_; rintro e w' ⟨rfl, rfl⟩; rw [Hb.out]) | (go_at_call 22; ((with_reducible refine (F50.out _).mono ?_); rintro e w' ⟨rfl, rfl⟩)))
      go_ret
      exact ⟨rfl, rfl⟩
    · have g := findB_lt m50
      by_cases m51 : (51 : UInt8) ∈ s.data.toList
      · have g2 := findB_nonneg.2 m51
        have hv2 : cntV s.data.toList = true := by rw [hv]; exact hct.2 (.inr (.inl m51))
        rw [hv2]
        clear hv hct m50 m51 hv2
        go_enter Try.func13, Try.ntmps13
        go_wp2_with (first | (go_at_call 9; refine (FormulaValid_spec s _ hs2).mono ?_; rintro e w' ⟨rfl, rfl⟩; rw [Hb.out]) | (go_at_call 22; ((with_reducible refine (F50.out _).mono ?_); rintro e w' ⟨rfl, rfl⟩)) | (go_at_call 22; ((with_reducible refine (F51.out _).mono ?_); rintro e w' ⟨rfl, rfl⟩)))
        go_ret
        exact ⟨rfl, rfl⟩
      · have g2 := findB_lt m51
        by_cases m52 : (52 : UInt8) ∈ s.data.toList
        · have g3 := findB_nonneg.2 m52
          have hv2 : cntV s.data.toList = true := by rw [hv]; exact hct.2 (.inr (.inr m52))
          rw [hv2]
          clear hv hct m50 m51 m52 hv2
          go_enter Try.func13, Try.ntmps13
          go_wp2_with (first | (go_at_call 9; refine (FormulaValid_spec s _ hs2).mono ?_; rintro e w' ⟨rfl, rfl⟩; rw [Hb.out]) | (go_at_call 22; ((with_reducible refine (F50.out _).mono ?_); rintro e w' ⟨rfl, rfl⟩)) | (go_at_call 22; ((with_reducible refine (F51.out _).mono ?_); rintro e w' ⟨rfl, rfl⟩)) | (go_at_call 22; ((with_reducible refine (F52.out _).mono ?_); rintro e w' ⟨rfl, rfl⟩)))
          go_ret
          exact ⟨rfl, rfl⟩
        · have g3 := findB_lt m52
          have hv2 : cntV s.data.toList = false := by
            rw [hv]
            cases hc : f.counts with
            | false => rfl
            | true => rcases hct.1 hc with h | h | h <;> contradiction
          rw [hv2]
          clear hv hct m50 m51 m52 hv2
          go_enter Try.func13, Try.ntmps13
          go_wp2_with (first | (go_at_call 9; refine (FormulaValid_spec s _ hs2).mono ?_; rintro e w' ⟨rfl, rfl⟩; rw [Hb.out]) | (go_at_call 22; ((with_reducible refine (F50.out _).mono ?_); rintro e w' ⟨rfl, rfl⟩)) | (go_at_call 22; ((with_reducible refine (F51.out _).mono ?_); rintro e w' ⟨rfl, rfl⟩)) | (go_at_call 22; ((with_reducible refine (F52.out _).mono ?_); rintro e w' ⟨rfl, rfl⟩)))
          go_ret
          exact ⟨ret_bool (by simp; omega), rfl⟩

theorem CountsOf_impl (s : ByteArray) (w : World) :
    Calls Try.prog 14 #[.string s] w fun e w' => e = .returned (.bool (cntV s.data.toList)) ∧ Below w.heap.size w w' := by
  rcases fm_cases s with ⟨hb, hno⟩ | ⟨f, hb, hf, hs4, hl4⟩
  · have hv := cntV_no hno
    rw [hv]
    have Hno := Lib.hid hno
    clear hb hv hno
    go_enter Try.func14, Try.ntmps14
    go_wp2_with (go_at_call 20; refine (parseFormula_no s w Hno.out).mono ?_; rintro e w1 ⟨rfl, hb1⟩)
    go_ret
    exact ⟨rfl, hb1⟩
  · have hv := cntV_yes hf (by rw [hf]; exact hl4)
    rw [hv]
    have Hf := Lib.hid hf
    clear hb hv hf
    go_enter Try.func14, Try.ntmps14
    go_wp2_with (first | (go_at_call 20; refine (parseFormula_yes s f w hs4 Hf.out).mono ?_; rintro e w1 ⟨b, rfl, htr, hb1⟩; have Htr := Lib.hid htr; clear htr) | (go_at_call 23; refine (counts_calls f.size f b _ _ (Nat.le_refl _) Htr.out).mono ?_; rintro e w' ⟨rfl, rfl⟩))
    go_ret
    exact ⟨rfl, hb1⟩

/-- how many variables -/
def Pl.Fm.width (f : Fm) : Nat := (varsL f.allBits 4).length

theorem WidthOf_impl (s : ByteArray) (w : World) :
    Calls Try.prog 16 #[.string s] w fun e w' => e = .returned (.int .i64 (numV s.data.toList Fm.width)) ∧ Below w.heap.size w w' := by
  rcases fm_cases s with ⟨hb, hno⟩ | ⟨f, hb, hf, hs4, hl4⟩
  · have hv := numV_no Fm.width hno
    rw [hv]
    have Hno := Lib.hid hno
    clear hb hv hno
    go_enter Try.func16, Try.ntmps16
    go_wp2_with (go_at_call 20; refine (parseFormula_no s w Hno.out).mono ?_; rintro e w1 ⟨rfl, hb1⟩)
    go_ret
    exact ⟨rfl, hb1⟩
  · have hv := numV_yes Fm.width hf (by rw [hf]; exact hl4)
    rw [hv]
    have Hf := Lib.hid hf
    have hsz : (bs (varsL f.allBits 4)).size = f.width := by rw [bs_size]; rfl
    have Hsz := Lib.hid hsz
    clear hb hv hf hsz
    go_enter Try.func16, Try.ntmps16
    go_wp2_with (first | (go_at_call 20; refine (parseFormula_yes s f w hs4 Hf.out).mono ?_; rintro e w1 ⟨b, rfl, htr, hb1⟩; obtain ⟨_, _, _, _, _, _, _, hc4, _⟩ := node_cells htr; clear htr) | (go_at_call 24; refine (varsText_calls _ (allBits_lt f) _).mono ?_; rintro e w' ⟨rfl, rfl⟩))
    go_ret
    exact ⟨ret_int (by rw [Hsz.out]), hb1⟩

theorem width_bit (f : Fm) (k : Nat) (hk : k < 4) : f.allBits.testBit k = decide (0 ≤ findB (UInt8.ofNat (97 + k)) f.text) := by
  rw [Bool.eq_iff_iff, decide_eq_true_iff, findB_nonneg]
  exact all_text f ⟨k, hk⟩

set_option maxHeartbeats 400000 in
theorem WidthOf_spec (s : ByteArray) (w : World) (hs2 : s.size ≤ maxLen) :
    Calls Try.prog 15 #[.string s] w fun e w' => e = .returned (.int .i64 (numV s.data.toList Fm.width)) ∧ w = w' := by
  rcases fm_cases s with ⟨hb, hno⟩ | ⟨f, hb, hf, hs4, hl4⟩
  · have hv := numV_no Fm.width hno
    rw [hv]
    have Hb := Lib.hid hb
    clear hb hv hno
    go_enter Try.func15, Try.ntmps15
    go_wp2_with (go_at_call 9; refine (FormulaValid_spec s _ hs2).mono ?_; rintro e w' ⟨rfl, rfl⟩; rw [Hb.out])
    go_ret
    exact ⟨rfl, rfl⟩
  · have hv := numV_yes Fm.width hf (by rw [hf]; exact hl4)
    rw [hv]
    have hbit : ∀ k, k < 4 → f.allBits.testBit k = decide (0 ≤ findB (UInt8.ofNat (97 + k)) s.data.toList) := fun k hk => by rw [hf]; exact width_bit f k hk
    have Hbit := Lib.hid hbit
    have Hb := Lib.hid hb
    clear hb hv hf hbit
    go_enter Try.func15, Try.ntmps15
    go_wp2_with (go_at_call 9; refine (FormulaValid_spec s _ hs2).mono ?_; rintro e w' ⟨rfl, rfl⟩; rw [Hb.out])
    go_loop [3, 4] (fun n i => ∃ k : Nat, k ≤ 4 ∧ i = .int .i64 k ∧ n = .int .i64 (varsL f.allBits k).length) (fun _ i => 4 - (intOf i).toNat)
    case atStart => exact ⟨0, by omega, rfl, rfl⟩
    case round =>
      obtain ⟨k, hk, rfl, rfl⟩ := hrel
      have hsz := varsL_len f.allBits k
      by_cases hlt : k < 4
      · obtain ⟨c, Hc⟩ : ∃ c, Hid (c = UInt8.ofNat (97 + k)) := ⟨_, rfl⟩
        have hcall : Calls Try.prog 22 #[.string s, .int .u8 c.toNat] w fun e w' => e = .returned (.int .i64 (findB c s.data.toList)) ∧ w = w' := l15Find_calls s _ w hs2
        have hch : ∀ h : k < (ByteArray.mk #[97, 98, 99, 100]).size, (ByteArray.mk #[97, 98, 99, 100])[k] = c := by
          intro h
          rw [Hc.out]
          match k, hlt with
          | 0, _ => rfl
          | 1, _ => rfl
          | 2, _ => rfl
          | 3, _ => rfl
        have Hcall := Lib.hid hcall
        have Hch := Lib.hid hch
        clear hcall hch
        cases hb2 : f.allBits.testBit k with
        | true =>
          have g : 0 ≤ findB c s.data.toList := by have := Hbit.out k hlt; rw [hb2, ← Hc.out] at this; simpa using this.symm
          have Hb2 := Lib.hid hb2
          clear hb2
          go_wp2_with (go_at_call 22; rw [Hch.out]; refine (Hcall.out).mono ?_; rintro e w' ⟨rfl, rfl⟩)
          go_round
          case rel => exact ⟨k + 1, by omega, by go_num, by rw [varsL_yes Hb2.out]; simp⟩
          case measure => simp [intOf]; omega
        | false =>
          have g : findB c s.data.toList < 0 := by have := Hbit.out k hlt; rw [hb2, ← Hc.out] at this; simpa using this.symm
          have Hb2 := Lib.hid hb2
          clear hb2
          go_wp2_with (go_at_call 22; rw [Hch.out]; refine (Hcall.out).mono ?_; rintro e w' ⟨rfl, rfl⟩)
          go_round
          case rel => exact ⟨k + 1, by omega, by go_num, by rw [varsL_no Hb2.out]⟩
          case measure => simp [intOf]; omega
      · obtain rfl : k = 4 := by omega
        go_wp2_with fail
        go_ret
        exact ⟨rfl, rfl⟩


theorem FnExactCountsOf_walk (s : ByteArray) (w : World) (hs : s.size ≤ maxLen) :
    Calls Try.prog 6 #[.string s] w fun e w' => e = .returned (.bool true) ∧ Below w.heap.size w w' := by
  have Hs := Lib.hid hs
  clear hs
  by_cases h : s.size ≤ 1048576
  · go_enter Try.func6, Try.ntmps6
    go_wp2_with (first | (go_at_call 13; refine (CountsOf_spec s _ Hs.out).mono ?_; rintro e w' ⟨rfl, rfl⟩) | (go_at_call 14; refine (CountsOf_impl s _).mono ?_; rintro e w' ⟨rfl, hb⟩))
    go_ret
    exact ⟨rfl, hb⟩
  · go_enter Try.func6, Try.ntmps6
    go_wp2_with fail
    go_ret
    exact ⟨rfl, Below.refl _ _⟩


theorem FnExactWidthOf_walk (s : ByteArray) (w : World) (hs : s.size ≤ maxLen) :
    Calls Try.prog 7 #[.string s] w fun e w' => e = .returned (.bool true) ∧ Below w.heap.size w w' := by
  have Hs := Lib.hid hs
  clear hs
  by_cases h : s.size ≤ 1048576
  · go_enter Try.func7, Try.ntmps7
    go_wp2_with (first | (go_at_call 15; refine (WidthOf_spec s _ Hs.out).mono ?_; rintro e w' ⟨rfl, rfl⟩) | (go_at_call 16; refine (WidthOf_impl s _).mono ?_; rintro e w' ⟨rfl, hb⟩))
    go_ret
    exact ⟨rfl, hb⟩
  · go_enter Try.func7, Try.ntmps7
    go_wp2_with fail
    go_ret
    exact ⟨rfl, Below.refl _ _⟩


end Go.Proofs.Ytndpclpjkechbaa
