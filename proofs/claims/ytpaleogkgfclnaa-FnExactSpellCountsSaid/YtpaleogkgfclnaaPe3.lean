/-
  Laws of the functions that the claim reaches, one after the other (packed by a program of the prover's: SSpl, SSpell, SpelI, SpellL). Conditions: texts below the reach.
-/
import Derived.Test.YtpaleogkgfclnaaPe1
import Derived.Test.YtpaleogkgfclnaaPe2
import Derived.OwnWalk
set_option linter.unusedSimpArgs false
set_option linter.unusedVariables false

namespace Go.Proofs.Ytpaleogkgfclnaa
open Go.RowKit
open Pl
set_option linter.unusedSimpArgs false
set_option linter.unusedVariables false

/-- a text and whether there is one; with a number between them -/
def OutP (Q : ByteArray → Bool → Prop) (e : Ending) : Prop := ∃ t ok, e = .returned (.tuple #[.string t, .bool ok]) ∧ Q t ok
def OutN (n : Nat) (Q : ByteArray → Bool → Prop) (e : Ending) : Prop := ∃ t ok, e = .returned (.tuple #[.string t, .int .i64 (n : Nat), .bool ok]) ∧ Q t ok
theorem abc_at {u : Fin 4} {k : Nat} (hk : k < 4) (h : u.val = k) : (((ByteArray.mk #[97, 98, 99, 100])[k]'hk).toNat : Int) = ((vb u).toNat : Int) := by
  subst h
  revert u
  decide
theorem abc_cut {u : Fin 4} {k : Nat} (h : u.val = k) : (ByteArray.mk #[97, 98, 99, 100]).extract k (k + 1) = bs [vb u] := by
  subst h
  match u with
  | 0 => exact eq_bs (by rw [Lib.extract_data]; rfl)
  | 1 => exact eq_bs (by rw [Lib.extract_data]; rfl)
  | 2 => exact eq_bs (by rw [Lib.extract_data]; rfl)
  | 3 => exact eq_bs (by rw [Lib.extract_data]; rfl)
/-- what the reference's l2Spell gives back -/
def TwoP (v : Fin 4) (q : Fm) (t : ByteArray) (ok : Bool) : Prop := (ok = true ∧ ∃ u, freshV q.allBits v = some u ∧ t = bs ([83, vb v, 83, vb u, 38, 33, 61, vb v, vb u, 38] ++ q.text ++ (q.repl v u).text)) ∨ (ok = false ∧ t = ⟨#[]⟩ ∧ freshV q.allBits v = none)
set_option maxHeartbeats 40000000 in
set_option maxRecDepth 100000 in
theorem l2Spell_calls (v : Fin 4) (q : Fm) (w : World) (hq : q.text.length ≤ 400000000) : Calls Try.prog 12 #[.string (bs (50 :: vb v :: q.text))] w fun e w' => OutP (TwoP v q) e ∧ Below w.heap.size w w' := by
  obtain ⟨s, hs⟩ : ∃ s, s = bs (50 :: vb v :: q.text) := ⟨_, rfl⟩
  have hdata : s.data.toList = 50 :: vb v :: q.text := by rw [hs, bs_data]
  have hsz : s.size = q.text.length + 2 := by rw [hs, bs_size]; simp
  have hk2 : 1 < s.size := by omega
  have hvb : (s[1].toNat : Int) = ((vb v).toNat : Nat) := by
    have h1 := drop_at hk2
    rw [hdata] at h1
    rw [← (List.cons.inj h1).1]
  have hd0 : s.data.toList.drop 0 = [50] ++ (vb v :: q.text) := by rw [hdata]; rfl
  have hx1 := piece_eq (show s.data.toList.drop 1 = [vb v] ++ q.text by rw [hdata]; rfl) 2 rfl
  have hz1 := piece_size (show s.data.toList.drop 1 = [vb v] ++ q.text by rw [hdata]; rfl) 2 rfl
  have hx2 := piece_eq (show s.data.toList.drop 2 = q.text ++ [] by rw [hdata]; simp) s.size (by omega)
  have hz2 := piece_size (show s.data.toList.drop 2 = q.text ++ [] by rw [hdata]; simp) s.size (by omega)
  simp only [List.length_cons, List.length_nil] at hz1
  have hren : ∀ (u : Fin 4) (W : World), q.allBits.testBit u.val = false → Calls Try.prog 19 #[.string (bs q.text), .int .i64 0, .int .u8 (vb v).toNat, .int .u8 (vb u).toNat] W fun e w' => e = .returned (.tuple #[.string (bs (q.repl v u).text), .int .i64 (0 + q.text.length : Nat), .bool true]) ∧ Below W.heap.size W w' := fun u W hu => by
    exact l2Rename_calls v u q.size q (bs q.text) 0 [] 0 W (Nat.le_refl _) (by simp [bs_data]) (by rw [bs_size]; omega) hu rfl
  have hfind : ∀ (c : UInt8) (W : World), Calls Try.prog 18 #[.string s, .int .u8 c.toNat] W fun e w' => e = .returned (.int .i64 (findB c s.data.toList)) ∧ W = w' := fun c W => l15Find_calls s c W (by unfold maxLen; omega)
  have hbit : ∀ u : Fin 4, v ≠ u → (0 ≤ findB (vb u) s.data.toList ↔ q.allBits.testBit u.val = true) := fun u hvu => by
    rw [findB_nonneg, all_text, hdata]
    have h1 : vb u ≠ 50 := (show ∀ u : Fin 4, vb u ≠ 50 by decide) u
    have h2 : vb u ≠ vb v := fun e => hvu (vb_inj e.symm)
    simp [h1, h2]
  have Hren := Lib.hid hren
  have Hfind := Lib.hid hfind
  have Hbit := Lib.hid hbit
  have Hx1 := Lib.hid hx1
  have hx2b := hx2
  rw [hsz] at hx2b
  have Hx2 := Lib.hid hx2b
  rw [← hs]
  clear hs hdata hd0 hx1 hx2 hx2b hren hfind hbit
  go_enter Try.func12, Try.ntmps12
  go_wp2_with fail
  go_loop [5] (fun i => ∃ k : Nat, k ≤ 4 ∧ i = .int .i64 k ∧ ∀ i : Fin 4, i.val < k → q.allBits.testBit i.val = true ∨ v = i) (fun i => 4 - (intOf i).toNat)
  case atStart => exact ⟨0, by omega, rfl, fun i hi => absurd hi (Nat.not_lt_zero _)⟩
  case round =>
    obtain ⟨k, hk, rfl, hall⟩ := hrel
    have Hall := Lib.hid hall
    clear hall
    by_cases hlt : k < 4
    · obtain ⟨u, hu⟩ : ∃ u : Fin 4, u.val = k := ⟨⟨k, hlt⟩, rfl⟩
      have hab := abc_at hlt hu
      have hcu := abc_cut hu
      have hk3 : (k : Int) + 1 ≤ 4 := by omega
      by_cases he : v = u
      · have hev : (((vb u).toNat : Int) == ((vb v).toNat : Int)) = true := by rw [he]; exact beq_self_eq_true _
        have He := Lib.hid he
        have Hu := Lib.hid hu
        clear he hu
        go_wp2_with fail
        go_round
        case rel => exact ⟨k + 1, by omega, by go_num, fun i hi => by
          by_cases hik : i.val < k
          · exact Hall.out i hik
          · exact .inr (He.out.trans (Fin.ext (by have := Hu.out; omega)))⟩
        case measure => simp [intOf]; omega
      · have hev : (((vb u).toNat : Int) == ((vb v).toNat : Int)) = false := by
          rw [beq_eq_false_iff_ne]
          intro e
          exact he (vb_inj (UInt8.toNat_inj.1 (by omega)))
        have hiff := Hbit.out u he
        have hf := fun W' => Hfind.out (vb u) W'
        have He := Lib.hid he
        have Hf := Lib.hid hf
        have Hu := Lib.hid hu
        cases hb2 : q.allBits.testBit u.val with
        | true =>
          have g : 0 ≤ findB (vb u) s.data.toList := hiff.2 hb2
          have Hb2 := Lib.hid hb2
          clear hb2 hiff hf he hu
          generalize findB (vb u) s.data.toList = FB at *
          go_wp2_with fail
          refine (Hf.out _).mono ?_
          rintro e w' ⟨rfl, rfl⟩
          go_wp2_with fail
          go_round
          case rel => exact ⟨k + 1, by omega, by go_num, fun i hi => by
            by_cases hik : i.val < k
            · exact Hall.out i hik
            · exact .inl (by rw [show i.val = u.val by have := Hu.out; omega]; exact Hb2.out)⟩
          case measure => simp [intOf]; omega
        | false =>
          have g : findB (vb u) s.data.toList < 0 := by
            rcases Int.lt_or_le (findB (vb u) s.data.toList) 0 with h | h
            · exact h
            · have h2 := hiff.1 h
              rw [hb2] at h2
              cases h2
          have hfr : freshV q.allBits v = some u := fresh_first hb2 he fun i hi => Hall.out i (by omega)
          have hr := fun W' => Hren.out u W' hb2
          have hrs : (bs (q.repl v u).text).size = q.text.length := by rw [bs_size, repl_len]
          have hqs : (bs q.text).size = q.text.length := bs_size _
          have Hfr := Lib.hid hfr
          have Hr := Lib.hid hr
          clear hb2 hiff hfr hr hf he hu
          generalize findB (vb u) s.data.toList = FB at *
          go_wp2_with fail
          refine (Hf.out _).mono ?_
          rintro e w' ⟨rfl, rfl⟩
          have hx2 := Hx2.out
          go_wp2_with fail
          refine (Hr.out _).mono ?_
          rintro e w1 ⟨rfl, hb1⟩
          have HB1 := Lib.hid hb1
          clear hb1
          have hx1 := Hx1.out
          have hsv : (bs [vb v]).size = 1 := rfl
          have hsu : (bs [vb u]).size = 1 := rfl
          have hqi : (q.text.length : Int) ≤ 400000000 := by omega
          go_upto_region 8 with (fail)
          refine region_sched [(0, true), (1, true), (2, true), (3, true), (4, true), (5, true), (6, true), (7, true), (8, true), (9, true), (10, true), (11, true), (12, true), (13, true), (14, true), (15, true), (16, true), (17, true), (18, true), (19, true), (20, true), (21, true), (22, true), (23, true), (24, true), (25, true), (26, true)] (fun _ : World => True) (by kernel_rfl) (by kernel_rfl) (by kernel_rfl) (by kernel_rfl) (fun _ _ _ _ h => h) ?_ (fun Q1 hQ1 => ?_)
          · trivial
          try simp only [List.append]
          refine sched_take' (v := ?_) (a' := ?_) rfl (by kernel_rfl) ?_ rfl ?_ ?_
          rotate_left 2
          · intro w hSw
            (try dsimp only at hSw)
            go_simp
            try with_reducible rfl
          · (try simp only [Act.put, List.setIfInBounds_toArray, List.set_cons_zero, List.set_cons_succ])
            try rfl
          refine sched_take' (v := .string (bs [vb v])) (a' := ?_) rfl (by kernel_rfl) ?_ rfl ?_ ?_
          rotate_left 1
          · intro w hSw
            (try dsimp only at hSw)
            go_simp
            first | done | (intro h; exfalso; omega) | (rw [hx1])
          · (try simp only [Act.put, List.setIfInBounds_toArray, List.set_cons_zero, List.set_cons_succ])
            try rfl
          refine sched_take' (v := .string (ByteArray.mk #[83] ++ bs [vb v])) (a' := ?_) rfl (by kernel_rfl) ?_ rfl ?_ ?_
          rotate_left 1
          · intro w hSw
            (try dsimp only at hSw)
            go_simp
            first | done | omega | (rw [if_neg (by omega)]) | (simp; omega)
          · (try simp only [Act.put, List.setIfInBounds_toArray, List.set_cons_zero, List.set_cons_succ])
            try rfl
          refine sched_take' (v := .string (ByteArray.mk #[83] ++ bs [vb v] ++ ByteArray.mk #[83])) (a' := ?_) rfl (by kernel_rfl) ?_ rfl ?_ ?_
          rotate_left 1
          · intro w hSw
            (try dsimp only at hSw)
            go_simp
            first | done | omega | (rw [if_neg (by omega)]) | (simp; omega)
          · (try simp only [Act.put, List.setIfInBounds_toArray, List.set_cons_zero, List.set_cons_succ])
            try rfl
          refine sched_take' (v := ?_) (a' := ?_) rfl (by kernel_rfl) ?_ rfl ?_ ?_
          rotate_left 2
          · intro w hSw
            (try dsimp only at hSw)
            go_simp
            try with_reducible rfl
          · (try simp only [Act.put, List.setIfInBounds_toArray, List.set_cons_zero, List.set_cons_succ])
            try rfl
          refine sched_take' (v := ?_) (a' := ?_) rfl (by kernel_rfl) ?_ rfl ?_ ?_
          rotate_left 2
          · intro w hSw
            (try dsimp only at hSw)
            go_simp
            try with_reducible rfl
          · (try simp only [Act.put, List.setIfInBounds_toArray, List.set_cons_zero, List.set_cons_succ])
            try rfl
          refine sched_take' (v := .int .i64 ((k : Int) + 1)) (a' := ?_) rfl (by kernel_rfl) ?_ rfl ?_ ?_
          rotate_left 1
          · intro w hSw
            (try dsimp only at hSw)
            go_simp
            first | done | (rw [IntWalk.i64_in _ (by omega)])
          · (try simp only [Act.put, List.setIfInBounds_toArray, List.set_cons_zero, List.set_cons_succ])
            try rfl
          refine sched_take' (v := .string (bs [vb u])) (a' := ?_) rfl (by kernel_rfl) ?_ rfl ?_ ?_
          rotate_left 1
          · intro w hSw
            (try dsimp only at hSw)
            go_simp
            first | done | (intro h; exfalso; omega) | (rw [if_pos (by omega), if_pos (by omega)]) | (rw [if_pos (by omega)])
          · (try simp only [Act.put, List.setIfInBounds_toArray, List.set_cons_zero, List.set_cons_succ])
            try rfl
          refine sched_take' (v := .string (ByteArray.mk #[83] ++ bs [vb v] ++ ByteArray.mk #[83] ++ bs [vb u])) (a' := ?_) rfl (by kernel_rfl) ?_ rfl ?_ ?_
          rotate_left 1
          · intro w hSw
            (try dsimp only at hSw)
            go_simp
            first | done | omega | (rw [if_neg (by omega)]) | (simp; omega)
          · (try simp only [Act.put, List.setIfInBounds_toArray, List.set_cons_zero, List.set_cons_succ])
            try rfl
          refine sched_take' (v := .string (ByteArray.mk #[83] ++ bs [vb v] ++ ByteArray.mk #[83] ++ bs [vb u] ++ ByteArray.mk #[38, 33, 61])) (a' := ?_) rfl (by kernel_rfl) ?_ rfl ?_ ?_
          rotate_left 1
          · intro w hSw
            (try dsimp only at hSw)
            go_simp
            first | done | omega | (rw [if_neg (by omega)]) | (simp; omega)
          · (try simp only [Act.put, List.setIfInBounds_toArray, List.set_cons_zero, List.set_cons_succ])
            try rfl
          refine sched_take' (v := ?_) (a' := ?_) rfl (by kernel_rfl) ?_ rfl ?_ ?_
          rotate_left 2
          · intro w hSw
            (try dsimp only at hSw)
            go_simp
            try with_reducible rfl
          · (try simp only [Act.put, List.setIfInBounds_toArray, List.set_cons_zero, List.set_cons_succ])
            try rfl
          refine sched_take' (v := .string (bs [vb v])) (a' := ?_) rfl (by kernel_rfl) ?_ rfl ?_ ?_
          rotate_left 1
          · intro w hSw
            (try dsimp only at hSw)
            go_simp
            first | done | (intro h; exfalso; omega) | (rw [hx1])
          · (try simp only [Act.put, List.setIfInBounds_toArray, List.set_cons_zero, List.set_cons_succ])
            try rfl
          refine sched_take' (v := .string (ByteArray.mk #[83] ++ bs [vb v] ++ ByteArray.mk #[83] ++ bs [vb u] ++ ByteArray.mk #[38, 33, 61] ++ bs [vb v])) (a' := ?_) rfl (by kernel_rfl) ?_ rfl ?_ ?_
          rotate_left 1
          · intro w hSw
            (try dsimp only at hSw)
            go_simp
            first | done | omega | (rw [if_neg (by omega)]) | (simp; omega)
          · (try simp only [Act.put, List.setIfInBounds_toArray, List.set_cons_zero, List.set_cons_succ])
            try rfl
          refine sched_take' (v := ?_) (a' := ?_) rfl (by kernel_rfl) ?_ rfl ?_ ?_
          rotate_left 2
          · intro w hSw
            (try dsimp only at hSw)
            go_simp
            try with_reducible rfl
          · (try simp only [Act.put, List.setIfInBounds_toArray, List.set_cons_zero, List.set_cons_succ])
            try rfl
          refine sched_take' (v := ?_) (a' := ?_) rfl (by kernel_rfl) ?_ rfl ?_ ?_
          rotate_left 2
          · intro w hSw
            (try dsimp only at hSw)
            go_simp
            try with_reducible rfl
          · (try simp only [Act.put, List.setIfInBounds_toArray, List.set_cons_zero, List.set_cons_succ])
            try rfl
          refine sched_take' (v := .int .i64 ((k : Int) + 1)) (a' := ?_) rfl (by kernel_rfl) ?_ rfl ?_ ?_
          rotate_left 1
          · intro w hSw
            (try dsimp only at hSw)
            go_simp
            first | done | (rw [IntWalk.i64_in _ (by omega)])
          · (try simp only [Act.put, List.setIfInBounds_toArray, List.set_cons_zero, List.set_cons_succ])
            try rfl
          refine sched_take' (v := .string (bs [vb u])) (a' := ?_) rfl (by kernel_rfl) ?_ rfl ?_ ?_
          rotate_left 1
          · intro w hSw
            (try dsimp only at hSw)
            go_simp
            first | done | (intro h; exfalso; omega) | (rw [if_pos (by omega), if_pos (by omega)]) | (rw [if_pos (by omega)])
          · (try simp only [Act.put, List.setIfInBounds_toArray, List.set_cons_zero, List.set_cons_succ])
            try rfl
          refine sched_take' (v := .string (ByteArray.mk #[83] ++ bs [vb v] ++ ByteArray.mk #[83] ++ bs [vb u] ++ ByteArray.mk #[38, 33, 61] ++ bs [vb v] ++ bs [vb u])) (a' := ?_) rfl (by kernel_rfl) ?_ rfl ?_ ?_
          rotate_left 1
          · intro w hSw
            (try dsimp only at hSw)
            go_simp
            first | done | omega | (rw [if_neg (by omega)]) | (simp; omega)
          · (try simp only [Act.put, List.setIfInBounds_toArray, List.set_cons_zero, List.set_cons_succ])
            try rfl
          refine sched_take' (v := .string (ByteArray.mk #[83] ++ bs [vb v] ++ ByteArray.mk #[83] ++ bs [vb u] ++ ByteArray.mk #[38, 33, 61] ++ bs [vb v] ++ bs [vb u] ++ ByteArray.mk #[38])) (a' := ?_) rfl (by kernel_rfl) ?_ rfl ?_ ?_
          rotate_left 1
          · intro w hSw
            (try dsimp only at hSw)
            go_simp
            first | done | omega | (rw [if_neg (by omega)]) | (simp; omega)
          · (try simp only [Act.put, List.setIfInBounds_toArray, List.set_cons_zero, List.set_cons_succ])
            try rfl
          refine sched_take' (v := ?_) (a' := ?_) rfl (by kernel_rfl) ?_ rfl ?_ ?_
          rotate_left 2
          · intro w hSw
            (try dsimp only at hSw)
            go_simp
            try with_reducible rfl
          · (try simp only [Act.put, List.setIfInBounds_toArray, List.set_cons_zero, List.set_cons_succ])
            try rfl
          refine sched_take' (v := .string (bs q.text)) (a' := ?_) rfl (by kernel_rfl) ?_ rfl ?_ ?_
          rotate_left 1
          · intro w hSw
            (try dsimp only at hSw)
            go_simp
            first | done | (intro h; exfalso; omega) | (rw [hx2])
          · (try simp only [Act.put, List.setIfInBounds_toArray, List.set_cons_zero, List.set_cons_succ])
            try rfl
          refine sched_take' (v := .string (ByteArray.mk #[83] ++ bs [vb v] ++ ByteArray.mk #[83] ++ bs [vb u] ++ ByteArray.mk #[38, 33, 61] ++ bs [vb v] ++ bs [vb u] ++ ByteArray.mk #[38] ++ bs q.text)) (a' := ?_) rfl (by kernel_rfl) ?_ rfl ?_ ?_
          rotate_left 1
          · intro w hSw
            (try dsimp only at hSw)
            go_simp
            first | done | omega | (rw [if_neg (by omega)]) | (simp; omega)
          · (try simp only [Act.put, List.setIfInBounds_toArray, List.set_cons_zero, List.set_cons_succ])
            try rfl
          refine sched_take' (v := ?_) (a' := ?_) rfl (by kernel_rfl) ?_ rfl ?_ ?_
          rotate_left 2
          · intro w hSw
            (try dsimp only at hSw)
            go_simp
            try with_reducible rfl
          · (try simp only [Act.put, List.setIfInBounds_toArray, List.set_cons_zero, List.set_cons_succ])
            try rfl
          refine sched_take' (v := .string (ByteArray.mk #[83] ++ bs [vb v] ++ ByteArray.mk #[83] ++ bs [vb u] ++ ByteArray.mk #[38, 33, 61] ++ bs [vb v] ++ bs [vb u] ++ ByteArray.mk #[38] ++ bs q.text ++ bs (q.repl v u).text)) (a' := ?_) rfl (by kernel_rfl) ?_ rfl ?_ ?_
          rotate_left 1
          · intro w hSw
            (try dsimp only at hSw)
            go_simp
            first | done | omega | (rw [if_neg (by omega)]) | (simp; omega)
          · (try simp only [Act.put, List.setIfInBounds_toArray, List.set_cons_zero, List.set_cons_succ])
            try rfl
          refine sched_take' (v := ?_) (a' := ?_) rfl (by kernel_rfl) ?_ rfl ?_ ?_
          rotate_left 2
          · intro w hSw
            (try dsimp only at hSw)
            go_simp
            try with_reducible rfl
          · (try simp only [Act.put, List.setIfInBounds_toArray, List.set_cons_zero, List.set_cons_succ])
            try rfl
          refine sched_take' (v := ?_) (a' := ?_) rfl (by kernel_rfl) ?_ rfl ?_ ?_
          rotate_left 2
          · intro w hSw
            (try dsimp only at hSw)
            go_simp
            try with_reducible rfl
          · (try simp only [Act.put, List.setIfInBounds_toArray, List.set_cons_zero, List.set_cons_succ])
            try rfl
          refine sched_take' (v := ?_) (a' := ?_) rfl (by kernel_rfl) ?_ rfl ?_ ?_
          rotate_left 2
          · intro w hSw
            (try dsimp only at hSw)
            go_simp
            try with_reducible rfl
          · (try simp only [Act.put, List.setIfInBounds_toArray, List.set_cons_zero, List.set_cons_succ])
            try rfl
          refine sched_done (hQ1.out _ _ ?_)
          go_wp2_with fail
          go_ret2
          refine ⟨⟨_, _, rfl, .inl ⟨rfl, u, Hfr.out, eq_bs ?_⟩⟩, HB1.out.drew⟩
          simp [bs_data]
    · obtain rfl : k = 4 := by omega
      have hfr : freshV q.allBits v = none := fresh_none fun i => Hall.out i i.isLt
      have Hfr := Lib.hid hfr
      clear hfr
      go_wp2_with fail
      (first | go_ret2 | go_ret3)
      exact ⟨⟨_, _, rfl, .inr ⟨rfl, rfl, Hfr.out⟩⟩, Below.refl _ _⟩

theorem SpS.leaf {f : Fm} (h : f.spell = some f) {t : ByteArray} (ht : t = bs f.text) : SpS f t true := by rw [ht]; exact SpS.yes h
theorem SpS.neg {p : Fm} {t : ByteArray} {ok : Bool} (h : SpS p t ok) : SpS (.neg p) (⟨#[33]⟩ ++ t) ok := by
  obtain ⟨h1, h2, h3⟩ := h
  refine ⟨?_, fun e => ?_, fun e => ?_⟩
  · rw [ByteArray.size_append]
    simp only [Fm.text, List.length_cons]
    show 1 + t.size ≤ _
    omega
  · obtain ⟨g, hg, rfl⟩ := h2 e
    exact ⟨.neg g, by simp [Fm.spell, hg], eq_bs (by simp [bs_data, Fm.text])⟩
  · simp [Fm.spell, h3 e]
theorem SpS.con {p q : Fm} {t x z : ByteArray} {ok ko : Bool} (h : SpS p t ok) (g : SpS q x ko) (hz : z = bs [38]) : SpS (.con p q) (z ++ t ++ x) (ok && ko) := by
  obtain ⟨h1, h2, h3⟩ := h
  obtain ⟨g1, g2, g3⟩ := g
  subst hz
  refine ⟨?_, fun e => ?_, fun e => ?_⟩
  · rw [ByteArray.size_append, ByteArray.size_append, bs_size]
    simp only [Fm.text, List.length_cons, List.length_append, List.length_nil]
    omega
  · rw [Bool.and_eq_true] at e
    obtain ⟨a, ha, rfl⟩ := h2 e.1
    obtain ⟨b, hb, rfl⟩ := g2 e.2
    exact ⟨.con a b, by simp [Fm.spell, ha, hb], eq_bs (by simp [bs_data, Fm.text])⟩
  · cases ok with
    | false => simp [Fm.spell, h3 rfl]
    | true => simp only [Fm.spell, g3 (by simpa using e)]; cases p.spell <;> rfl
theorem SpS.dis {p q : Fm} {t x z : ByteArray} {ok ko : Bool} (h : SpS p t ok) (g : SpS q x ko) (hz : z = bs [124]) : SpS (.dis p q) (z ++ t ++ x) (ok && ko) := by
  obtain ⟨h1, h2, h3⟩ := h
  obtain ⟨g1, g2, g3⟩ := g
  subst hz
  refine ⟨?_, fun e => ?_, fun e => ?_⟩
  · rw [ByteArray.size_append, ByteArray.size_append, bs_size]
    simp only [Fm.text, List.length_cons, List.length_append, List.length_nil]
    omega
  · rw [Bool.and_eq_true] at e
    obtain ⟨a, ha, rfl⟩ := h2 e.1
    obtain ⟨b, hb, rfl⟩ := g2 e.2
    exact ⟨.dis a b, by simp [Fm.spell, ha, hb], eq_bs (by simp [bs_data, Fm.text])⟩
  · cases ok with
    | false => simp [Fm.spell, h3 rfl]
    | true => simp only [Fm.spell, g3 (by simpa using e)]; cases p.spell <;> rfl
theorem SpS.qA {p : Fm} {v : Fin 4} {t z : ByteArray} {ok : Bool} (h : SpS p t ok) (hz : z = bs [65, vb v]) : SpS (.qu .A v p) (z ++ t) ok := by
  obtain ⟨h1, h2, h3⟩ := h
  subst hz
  refine ⟨?_, fun e => ?_, fun e => ?_⟩
  · rw [ByteArray.size_append, bs_size]
    simp only [Fm.text, List.length_cons, List.length_nil]
    omega
  · obtain ⟨g, hg, rfl⟩ := h2 e
    exact ⟨.qu .A v g, by simp [Fm.spell, hg], eq_bs (by simp [bs_data, Fm.text, Qn.b])⟩
  · simp [Fm.spell, h3 e]
theorem SpS.qS {p : Fm} {v : Fin 4} {t z : ByteArray} {ok : Bool} (h : SpS p t ok) (hz : z = bs [83, vb v]) : SpS (.qu .S v p) (z ++ t) ok := by
  obtain ⟨h1, h2, h3⟩ := h
  subst hz
  refine ⟨?_, fun e => ?_, fun e => ?_⟩
  · rw [ByteArray.size_append, bs_size]
    simp only [Fm.text, List.length_cons, List.length_nil]
    omega
  · obtain ⟨g, hg, rfl⟩ := h2 e
    exact ⟨.qu .S v g, by simp [Fm.spell, hg], eq_bs (by simp [bs_data, Fm.text, Qn.b])⟩
  · simp [Fm.spell, h3 e]
theorem SpS.two {p q : Fm} {v : Fin 4} {t : ByteArray} {ok : Bool} (hq : p.spell = some q) (h : TwoP v q t ok) : SpS (.qu .c2 v p) t ok := by
  rcases h with ⟨rfl, u, hu, rfl⟩ | ⟨rfl, rfl, hf⟩
  · rw [← two_text]
    exact SpS.yes (by rw [two_spell hq, hu])
  · exact SpS.no (by rw [two_spell hq, hf]) (by show 0 ≤ _; omega)
end Go.Proofs.Ytpaleogkgfclnaa

namespace Go.Proofs.Ytpaleogkgfclnaa
open Go.RowKit
open Pl
set_option linter.unusedSimpArgs false
set_option linter.unusedVariables false

set_option maxHeartbeats 4000000 in
set_option maxRecDepth 100000 in
theorem l2Spells_calls (n : Nat) : ∀ (f : Fm) (s : ByteArray) (k : Nat) (r : List UInt8) (m : Int) (w : World), f.size ≤ n → s.data.toList.drop k = f.text ++ r → s.size ≤ 4000 → m = k →
    Calls Try.prog 7 #[.string s, .int .i64 m] w fun e w' => OutN (k + f.text.length) (SpS f) e ∧ Below w.heap.size w w' := by
  induction n with
  | zero => intro f s k r m w hn; cases f <;> simp [Fm.size] at hn
  | succ n ih =>
    intro f s k r m w hn hd hs hm
    subst hm
    obtain ⟨hk1, hop, hle⟩ := at_op hd
    have hk := hk1
    have Ih := Lib.hid ih
    clear ih
    cases f with
    | tru  =>
      have hk := hk1
      have hb : (s[k].toNat : Int) = 116 := by rw [hop]; rfl
      have hend : Calls Try.prog 11 #[.string s, .int .i64 k] w fun e w' => e = .returned (.int .i64 (endI s.data.toList k)) ∧ w = w' := l2End_calls s.size s k w (by omega) (by unfold maxLen; omega) (by omega)
      rw [endI_some hd, show k + (Fm.text (.tru )).length = k + 1 from rfl] at hend
      have hq0 : ∀ w, Calls Try.prog 13 #[.int .u8 116] w fun e w' => e = .returned (.bool false) ∧ w = w' := fun w => l2Quant_calls 116 false rfl w
      have hx := piece_eq hd (k + 1) (by simp [Fm.text])
      have hz := piece_size hd (k + 1) (by simp [Fm.text])
      have Hend := Lib.hid hend
      have Hx := Lib.hid hx
      have Hq0 := Lib.hid hq0
      simp only [Fm.text, List.length_cons, List.length_nil] at hle hz
      clear hop hend hd hx hq0 hn
      go_enter Try.func7, Try.ntmps7
      go_wp2_with (first | (go_at_call 13; refine (Hq0.out _).mono ?_; rintro e w' ⟨rfl, rfl⟩) | (go_at_call 11; refine (Hend.out).mono ?_; rintro e w' ⟨rfl, rfl⟩))
      (first | go_ret2 | go_ret3)
      exact ⟨⟨_, _, rfl, SpS.leaf rfl Hx.out⟩, Below.refl _ _⟩
    | fls  =>
      have hk := hk1
      have hb : (s[k].toNat : Int) = 102 := by rw [hop]; rfl
      have hend : Calls Try.prog 11 #[.string s, .int .i64 k] w fun e w' => e = .returned (.int .i64 (endI s.data.toList k)) ∧ w = w' := l2End_calls s.size s k w (by omega) (by unfold maxLen; omega) (by omega)
      rw [endI_some hd, show k + (Fm.text (.fls )).length = k + 1 from rfl] at hend
      have hq0 : ∀ w, Calls Try.prog 13 #[.int .u8 102] w fun e w' => e = .returned (.bool false) ∧ w = w' := fun w => l2Quant_calls 102 false rfl w
      have hx := piece_eq hd (k + 1) (by simp [Fm.text])
      have hz := piece_size hd (k + 1) (by simp [Fm.text])
      have Hend := Lib.hid hend
      have Hx := Lib.hid hx
      have Hq0 := Lib.hid hq0
      simp only [Fm.text, List.length_cons, List.length_nil] at hle hz
      clear hop hend hd hx hq0 hn
      go_enter Try.func7, Try.ntmps7
      go_wp2_with (first | (go_at_call 13; refine (Hq0.out _).mono ?_; rintro e w' ⟨rfl, rfl⟩) | (go_at_call 11; refine (Hend.out).mono ?_; rintro e w' ⟨rfl, rfl⟩))
      (first | go_ret2 | go_ret3)
      exact ⟨⟨_, _, rfl, SpS.leaf rfl Hx.out⟩, Below.refl _ _⟩
    | pr a =>
      have hk := hk1
      have hb : (s[k].toNat : Int) = 80 := by rw [hop]; rfl
      have hend : Calls Try.prog 11 #[.string s, .int .i64 k] w fun e w' => e = .returned (.int .i64 (endI s.data.toList k)) ∧ w = w' := l2End_calls s.size s k w (by omega) (by unfold maxLen; omega) (by omega)
      rw [endI_some hd, show k + (Fm.text (.pr a)).length = k + 2 from rfl] at hend
      have hq0 : ∀ w, Calls Try.prog 13 #[.int .u8 80] w fun e w' => e = .returned (.bool false) ∧ w = w' := fun w => l2Quant_calls 80 false rfl w
      have hx := piece_eq hd (k + 2) (by simp [Fm.text])
      have hz := piece_size hd (k + 2) (by simp [Fm.text])
      have Hend := Lib.hid hend
      have Hx := Lib.hid hx
      have Hq0 := Lib.hid hq0
      simp only [Fm.text, List.length_cons, List.length_nil] at hle hz
      clear hop hend hd hx hq0 hn
      go_enter Try.func7, Try.ntmps7
      go_wp2_with (first | (go_at_call 13; refine (Hq0.out _).mono ?_; rintro e w' ⟨rfl, rfl⟩) | (go_at_call 11; refine (Hend.out).mono ?_; rintro e w' ⟨rfl, rfl⟩))
      (first | go_ret2 | go_ret3)
      exact ⟨⟨_, _, rfl, SpS.leaf rfl Hx.out⟩, Below.refl _ _⟩
    | eq a c =>
      have hk := hk1
      have hb : (s[k].toNat : Int) = 61 := by rw [hop]; rfl
      have hend : Calls Try.prog 11 #[.string s, .int .i64 k] w fun e w' => e = .returned (.int .i64 (endI s.data.toList k)) ∧ w = w' := l2End_calls s.size s k w (by omega) (by unfold maxLen; omega) (by omega)
      rw [endI_some hd, show k + (Fm.text (.eq a c)).length = k + 3 from rfl] at hend
      have hq0 : ∀ w, Calls Try.prog 13 #[.int .u8 61] w fun e w' => e = .returned (.bool false) ∧ w = w' := fun w => l2Quant_calls 61 false rfl w
      have hx := piece_eq hd (k + 3) (by simp [Fm.text])
      have hz := piece_size hd (k + 3) (by simp [Fm.text])
      have Hend := Lib.hid hend
      have Hx := Lib.hid hx
      have Hq0 := Lib.hid hq0
      simp only [Fm.text, List.length_cons, List.length_nil] at hle hz
      clear hop hend hd hx hq0 hn
      go_enter Try.func7, Try.ntmps7
      go_wp2_with (first | (go_at_call 13; refine (Hq0.out _).mono ?_; rintro e w' ⟨rfl, rfl⟩) | (go_at_call 11; refine (Hend.out).mono ?_; rintro e w' ⟨rfl, rfl⟩))
      (first | go_ret2 | go_ret3)
      exact ⟨⟨_, _, rfl, SpS.leaf rfl Hx.out⟩, Below.refl _ _⟩
    | rel a c =>
      have hk := hk1
      have hb : (s[k].toNat : Int) = 69 := by rw [hop]; rfl
      have hend : Calls Try.prog 11 #[.string s, .int .i64 k] w fun e w' => e = .returned (.int .i64 (endI s.data.toList k)) ∧ w = w' := l2End_calls s.size s k w (by omega) (by unfold maxLen; omega) (by omega)
      rw [endI_some hd, show k + (Fm.text (.rel a c)).length = k + 3 from rfl] at hend
      have hq0 : ∀ w, Calls Try.prog 13 #[.int .u8 69] w fun e w' => e = .returned (.bool false) ∧ w = w' := fun w => l2Quant_calls 69 false rfl w
      have hx := piece_eq hd (k + 3) (by simp [Fm.text])
      have hz := piece_size hd (k + 3) (by simp [Fm.text])
      have Hend := Lib.hid hend
      have Hx := Lib.hid hx
      have Hq0 := Lib.hid hq0
      simp only [Fm.text, List.length_cons, List.length_nil] at hle hz
      clear hop hend hd hx hq0 hn
      go_enter Try.func7, Try.ntmps7
      go_wp2_with (first | (go_at_call 13; refine (Hq0.out _).mono ?_; rintro e w' ⟨rfl, rfl⟩) | (go_at_call 11; refine (Hend.out).mono ?_; rintro e w' ⟨rfl, rfl⟩))
      (first | go_ret2 | go_ret3)
      exact ⟨⟨_, _, rfl, SpS.leaf rfl Hx.out⟩, Below.refl _ _⟩
    | neg p =>
      have hb : (s[k].toNat : Int) = 33 := by rw [hop]; rfl
      have hcall := Ih.out p s (k + 1) r ((k : Int) + 1) w (by simp [Fm.size] at hn; omega) (at_one hd) hs (by omega)
      have Hcall := Lib.hid hcall
      simp only [Fm.text, List.length_cons] at hle ⊢
      clear hop hcall hd hn
      go_enter Try.func7, Try.ntmps7
      go_wp2_with fail
      refine (Hcall.out).mono ?_
      rintro e w1 ⟨⟨t1, o1, rfl, hs1⟩, hb1⟩
      have ht1 : t1.size ≤ 400000000 := by have := hs1.1; omega
      have Hs1 := Lib.hid hs1
      clear hs1
      go_wp2_with fail
      (first | go_ret2 | go_ret3)
      exact ⟨⟨_, _, ret_tri rfl (int_eq (by omega)) rfl, Hs1.out.neg⟩, hb1⟩
    | con p q =>
      have hb : (s[k].toNat : Int) = 38 := by rw [hop]; rfl
      obtain ⟨hd1, hd2⟩ := at_two hd
      have hcall := fun w => Ih.out p s (k + 1) _ ((k : Int) + 1) w (by simp [Fm.size] at hn; omega) hd1 hs (by omega)
      have hcall2 := fun w => Ih.out q s (k + 1 + p.text.length) _ ((k + 1 + p.text.length : Nat) : Int) w (by simp [Fm.size] at hn; omega) hd2 hs rfl
      have hx := piece_eq (show s.data.toList.drop k = [38] ++ (p.text ++ q.text ++ r) by rw [hd]; simp [Fm.text]) (k + 1) rfl
      have hz := piece_size (show s.data.toList.drop k = [38] ++ (p.text ++ q.text ++ r) by rw [hd]; simp [Fm.text]) (k + 1) rfl
      have Hcall := Lib.hid hcall
      have Hcall2 := Lib.hid hcall2
      have Hx := Lib.hid hx
      simp only [Fm.text, List.length_cons, List.length_append, List.length_nil] at hle hz ⊢
      clear hop hcall hcall2 hd hd1 hd2 hx hn
      go_enter Try.func7, Try.ntmps7
      go_wp2_with fail
      refine (Hcall.out _).mono ?_
      rintro e w1 ⟨⟨t1, o1, rfl, hs1⟩, hb1⟩
      have ht1 : t1.size ≤ 400000000 := by have := hs1.1; omega
      have Hs1 := Lib.hid hs1
      clear hs1
      go_wp2_with fail
      refine (Hcall2.out _).mono ?_
      rintro e w2 ⟨⟨t2, o2, rfl, hs2⟩, hb2⟩
      have ht2 : t2.size ≤ 400000000 := by have := hs2.1; omega
      have Hs2 := Lib.hid hs2
      clear hs2
      have Hres := Lib.hid (SpS.con Hs1.out Hs2.out Hx.out)
      cases o1 with
      | false =>
        go_wp2_with fail
        (first | go_ret2 | go_ret3)
        exact ⟨⟨_, _, ret_tri rfl (int_eq (by omega)) rfl, Hres.out⟩, hb1.trans (hb2.mono hb1.size)⟩
      | true =>
        go_wp2_with fail
        (first | go_ret2 | go_ret3)
        exact ⟨⟨_, _, ret_tri rfl (int_eq (by omega)) rfl, Hres.out⟩, hb1.trans (hb2.mono hb1.size)⟩
    | dis p q =>
      have hb : (s[k].toNat : Int) = 124 := by rw [hop]; rfl
      obtain ⟨hd1, hd2⟩ := at_two hd
      have hcall := fun w => Ih.out p s (k + 1) _ ((k : Int) + 1) w (by simp [Fm.size] at hn; omega) hd1 hs (by omega)
      have hcall2 := fun w => Ih.out q s (k + 1 + p.text.length) _ ((k + 1 + p.text.length : Nat) : Int) w (by simp [Fm.size] at hn; omega) hd2 hs rfl
      have hx := piece_eq (show s.data.toList.drop k = [124] ++ (p.text ++ q.text ++ r) by rw [hd]; simp [Fm.text]) (k + 1) rfl
      have hz := piece_size (show s.data.toList.drop k = [124] ++ (p.text ++ q.text ++ r) by rw [hd]; simp [Fm.text]) (k + 1) rfl
      have Hcall := Lib.hid hcall
      have Hcall2 := Lib.hid hcall2
      have Hx := Lib.hid hx
      simp only [Fm.text, List.length_cons, List.length_append, List.length_nil] at hle hz ⊢
      clear hop hcall hcall2 hd hd1 hd2 hx hn
      go_enter Try.func7, Try.ntmps7
      go_wp2_with fail
      refine (Hcall.out _).mono ?_
      rintro e w1 ⟨⟨t1, o1, rfl, hs1⟩, hb1⟩
      have ht1 : t1.size ≤ 400000000 := by have := hs1.1; omega
      have Hs1 := Lib.hid hs1
      clear hs1
      go_wp2_with fail
      refine (Hcall2.out _).mono ?_
      rintro e w2 ⟨⟨t2, o2, rfl, hs2⟩, hb2⟩
      have ht2 : t2.size ≤ 400000000 := by have := hs2.1; omega
      have Hs2 := Lib.hid hs2
      clear hs2
      have Hres := Lib.hid (SpS.dis Hs1.out Hs2.out Hx.out)
      cases o1 with
      | false =>
        go_wp2_with fail
        (first | go_ret2 | go_ret3)
        exact ⟨⟨_, _, ret_tri rfl (int_eq (by omega)) rfl, Hres.out⟩, hb1.trans (hb2.mono hb1.size)⟩
      | true =>
        go_wp2_with fail
        (first | go_ret2 | go_ret3)
        exact ⟨⟨_, _, ret_tri rfl (int_eq (by omega)) rfl, Hres.out⟩, hb1.trans (hb2.mono hb1.size)⟩
    | qu q x p =>
      have hd1 := at_qu hd
      have hcall := fun w => Ih.out p s (k + 2) _ ((k : Int) + 2) w (by simp [Fm.size] at hn; omega) hd1 hs (by omega)
      have hend : Calls Try.prog 11 #[.string s, .int .i64 k] w fun e w' => e = .returned (.int .i64 (endI s.data.toList k)) ∧ w = w' := l2End_calls s.size s k w (by omega) (by unfold maxLen; omega) (by omega)
      rw [endI_some hd] at hend
      have hdx : s.data.toList.drop (k + 1) = vb x :: (p.text ++ r) := drop_add_of (p := [q.b]) (by simpa [Fm.text] using hd)
      have hy := piece_eq (show s.data.toList.drop (k + 1) = [vb x] ++ (p.text ++ r) from hdx) (k + 2) rfl
      have hyz := piece_size (show s.data.toList.drop (k + 1) = [vb x] ++ (p.text ++ r) from hdx) (k + 2) rfl
      have hu2 := piece_eq (show s.data.toList.drop k = [q.b, vb x] ++ (p.text ++ r) by rw [hd]; simp [Fm.text]) (k + 2) rfl
      have huz := piece_size (show s.data.toList.drop k = [q.b, vb x] ++ (p.text ++ r) by rw [hd]; simp [Fm.text]) (k + 2) rfl
      obtain ⟨T, hT⟩ : ∃ T, T = (Fm.text (.qu q x p)).length := ⟨_, rfl⟩
      have hT2 : T = p.text.length + 2 := by rw [hT]; simp [Fm.text]
      rw [← hT] at hend hle ⊢
      have Hcall := Lib.hid hcall
      have Hend := Lib.hid hend
      have Hy := Lib.hid hy
      have Hu2 := Lib.hid hu2
      simp only [List.length_cons, List.length_nil] at huz hyz
      clear hcall hend hd hd1 hdx hy hu2 hT hn
      cases q with
      | A =>
        have hb : (s[k].toNat : Int) = 65 := by rw [hop]; rfl
        clear hop
        go_enter Try.func7, Try.ntmps7
        go_wp2_with fail
        refine (Hcall.out _).mono ?_
        rintro e w1 ⟨⟨t1, o1, rfl, hs1⟩, hb1⟩
        have ht1 : t1.size ≤ 400000000 := by have := hs1.1; omega
        have Hs1 := Lib.hid hs1
        clear hs1
        go_wp2_with fail
        (first | go_ret2 | go_ret3)
        exact ⟨⟨_, _, ret_tri rfl (int_eq (by omega)) rfl, Hs1.out.qA Hu2.out⟩, hb1⟩
      | S =>
        have hb : (s[k].toNat : Int) = 83 := by rw [hop]; rfl
        clear hop
        go_enter Try.func7, Try.ntmps7
        go_wp2_with fail
        refine (Hcall.out _).mono ?_
        rintro e w1 ⟨⟨t1, o1, rfl, hs1⟩, hb1⟩
        have ht1 : t1.size ≤ 400000000 := by have := hs1.1; omega
        have Hs1 := Lib.hid hs1
        clear hs1
        go_wp2_with fail
        (first | go_ret2 | go_ret3)
        exact ⟨⟨_, _, ret_tri rfl (int_eq (by omega)) rfl, Hs1.out.qS Hu2.out⟩, hb1⟩
      | c2 =>
        have hb : (s[k].toNat : Int) = 50 := by rw [hop]; rfl
        clear hop
        go_enter Try.func7, Try.ntmps7
        go_wp2_with fail
        refine (Hcall.out _).mono ?_
        rintro e w1 ⟨⟨t1, o1, rfl, hs1⟩, hb1⟩
        cases o1 with
        | false =>
          have Hs1 := Lib.hid hs1
          clear hs1
          go_wp2_with fail
          (first | go_ret2 | go_ret3)
          exact ⟨⟨_, _, ret_tri rfl (int_eq (by omega)) rfl, SpS.no (two_none (Hs1.out.2.2 rfl)) (by show 0 ≤ _; omega)⟩, hb1⟩
        | true =>
          obtain ⟨q, hq, rfl⟩ := hs1.2.1 rfl
          have hql : q.text.length ≤ 400000000 := by have := hs1.1; rw [bs_size] at this; omega
          have hqz : (bs q.text).size ≤ 400000000 := by rw [bs_size]; exact hql
          have hcat : ⟨#[50]⟩ ++ s.extract (k + 1) (k + 2) ++ bs q.text = bs (50 :: vb x :: q.text) := eq_bs (by rw [Hy.out]; simp [bs_data])
          have hcall2 := fun W => l2Spell_calls x q W hql
          rw [← hcat] at hcall2
          have Hcall2 := Lib.hid hcall2
          have Hq := Lib.hid hq
          clear hs1 hql hcat hcall2 hq
          go_wp2_with fail
          refine (Hcall2.out _).mono ?_
          rintro e w2 ⟨⟨t2, o2, rfl, htw⟩, hb2⟩
          have Htw := Lib.hid htw
          clear htw
          go_wp2_with fail
          (first | go_ret2 | go_ret3)
          exact ⟨⟨_, _, ret_tri rfl (int_eq (by omega)) rfl, SpS.two Hq.out Htw.out⟩, hb1.trans (hb2.mono hb1.size)⟩
      | c3 =>
        have hb : (s[k].toNat : Int) = 51 := by rw [hop]; rfl
        have hq0 : ∀ w, Calls Try.prog 13 #[.int .u8 51] w fun e w' => e = .returned (.bool true) ∧ w = w' := fun w => l2Quant_calls 51 true rfl w
        have Hq0 := Lib.hid hq0
        clear hop hq0
        go_enter Try.func7, Try.ntmps7
        go_wp2_with (first | (go_at_call 13; refine (Hq0.out _).mono ?_; rintro e w' ⟨rfl, rfl⟩) | (go_at_call 11; refine (Hend.out).mono ?_; rintro e w' ⟨rfl, rfl⟩))
        (first | go_ret2 | go_ret3)
        exact ⟨⟨_, _, ret_tri rfl (int_eq (by omega)) rfl, SpS.no (by simp [Fm.spell]) (by show 0 ≤ _; omega)⟩, Below.refl _ _⟩
      | c4 =>
        have hb : (s[k].toNat : Int) = 52 := by rw [hop]; rfl
        have hq0 : ∀ w, Calls Try.prog 13 #[.int .u8 52] w fun e w' => e = .returned (.bool true) ∧ w = w' := fun w => l2Quant_calls 52 true rfl w
        have Hq0 := Lib.hid hq0
        clear hop hq0
        go_enter Try.func7, Try.ntmps7
        go_wp2_with (first | (go_at_call 13; refine (Hq0.out _).mono ?_; rintro e w' ⟨rfl, rfl⟩) | (go_at_call 11; refine (Hend.out).mono ?_; rintro e w' ⟨rfl, rfl⟩))
        (first | go_ret2 | go_ret3)
        exact ⟨⟨_, _, ret_tri rfl (int_eq (by omega)) rfl, SpS.no (by simp [Fm.spell]) (by show 0 ≤ _; omega)⟩, Below.refl _ _⟩

end Go.Proofs.Ytpaleogkgfclnaa

namespace Go.Proofs.Ytpaleogkgfclnaa
open Go.RowKit
open Pl
set_option linter.unusedSimpArgs false
set_option linter.unusedVariables false

theorem op_ne {f : Fm} {b : UInt8} (h : f.op ≠ b) : ((f.op.toNat : Int) == (b.toNat : Int)) = false := by
  rw [beq_eq_false_iff_ne]
  intro e
  exact h (UInt8.toNat_inj.1 (by omega))
theorem two_op {f : Fm} (h : f.op = 50) : ∃ v p, f = .qu .c2 v p := by
  cases f with
  | qu k v p => cases k <;> first | exact ⟨v, p, rfl⟩ | (simp [Fm.op, Qn.b] at h)
  | _ => simp [Fm.op] at h
theorem more_op {f : Fm} (h : f.op = 51 ∨ f.op = 52) : f.spell = none := by
  cases f with
  | qu k v p => cases k <;> first | rfl | (simp [Fm.op, Qn.b] at h)
  | _ => simp [Fm.op] at h
theorem spell_end {f g : Fm} (h : f.spell = some g) (hl : g.text.length ≤ 20000) : SpP f (.returned (.tuple #[.string (bs g.text), .bool (decide (((bs g.text).size : Int) ≤ 4000))])) := by
  have hs := bs_size g.text
  by_cases h4 : g.text.length ≤ 4000
  · exact .inl ⟨g, h, h4, by rw [decide_eq_true (by omega)]⟩
  · exact .inr ⟨fun g' hg' => by rw [h] at hg'; injection hg' with hg'; rw [← hg']; omega, bs g.text, by omega, by rw [decide_eq_false (by omega)]⟩
theorem spell_at {f g : Fm} {T : ByteArray} {z : Int} (h : f.spell = some g) (hT : T = bs g.text) (hz : z = (g.text.length : Int)) (hl : g.text.length ≤ 20000) : SpP f (.returned (.tuple #[.string T, .bool (decide (z ≤ 4000))])) := by
  subst hT
  subst hz
  rw [← bs_size]
  exact spell_end h hl
theorem fresh_lt (m : Nat) : 15 &&& m < 16 := Nat.lt_of_le_of_lt Nat.and_le_left (by decide)
theorem fresh_bits (q : Fm) (v : Fin 4) : bits .andNot .i64 15 (bits .or .i64 (q.allBits : Int) (wrap64 (2 ^ v.val))) = ((15 &&& (15 ^^^ (q.allBits ||| 1 <<< v.val)) : Nat) : Int) := by
  have h : ∀ (m : Fin 16) (v : Fin 4), bits .andNot .i64 15 (bits .or .i64 (m.val : Int) (wrap64 (2 ^ v.val))) = ((15 &&& (15 ^^^ (m.val ||| 1 <<< v.val)) : Nat) : Int) := by decide +kernel
  exact h ⟨q.allBits, allBits_lt q⟩ v

set_option maxHeartbeats 4000000 in
set_option maxRecDepth 100000 in
theorem spell_calls (n : Nat) : ∀ (f : Fm) (b : Nat) (S : Nat → Prop) (w : World), f.size ≤ n → TreeIn S w f b → f.text.length ≤ 4000 →
    Calls Try.prog 9 #[kidV b] w fun e w' => SpP f e ∧ Below w.heap.size w w' := by
  induction n with
  | zero => intro f b S w hn _ _; cases f <;> simp [Fm.size] at hn
  | succ n ih =>
    intro f b S w hn ht hl
    have Ht := Lib.hid ht
    have Ih := Lib.hid ih
    clear ih
    obtain ⟨ks0, vsv, psv0, hc0, hc1, hc2, _, _, hr1, hr0, hts0⟩ := node_cells ht
    have hcv1 : (convert 35 9 vsv).run Try.prog w.drew = .ok (.string (bs (f.vars.map vb))) w.drew := conv_row (w := w.drew) (base := 0) (n := f.vars.length) (by rw [← vars_bytes]; exact hr1)
    have hcv2 : ∀ o, (convert 35 9 vsv).run Try.prog (w.alloc o).drew = .ok (.string (bs (f.vars.map vb))) (w.alloc o).drew := fun o => conv_row (w := (w.alloc o).drew) (base := 0) (n := f.vars.length) (by rw [← vars_bytes]; exact ownsRow_world hr1 ((Below.refl _ _).alloc (Nat.le_refl _) _).drew)
    have hcv3 : (convert 35 9 (.slice (some ⟨w.heap.size, 0, none⟩) 1 1)).run Try.prog (w.alloc (.cells #[.int .u8 f.op.toNat] 5)).drew = .ok (.string (bs [f.op])) (w.alloc (.cells #[.int .u8 f.op.toNat] 5)).drew := conv_row (new_byte w f.op)
    have hlb := World.block_lt_of_cell? w _ hc0
    have ha0 : ∀ o, (w.alloc o).cell? ⟨b, 0, none⟩ = some (.int .u8 f.op.toNat) := fun o => (World.cell?_of_block (w := w) (Below.heap_alloc w o b hlb)).trans hc0
    have ha1 : ∀ o, (w.alloc o).cell? ⟨b, 1, none⟩ = some vsv := fun o => (World.cell?_of_block (w := w) (Below.heap_alloc w o b hlb)).trans hc1
    have hsz : (bs (f.vars.map vb)).size ≤ 2 := by rw [bs_size]; have := vars_le f; simp; omega
    have hsz1 : (bs [f.op]).size ≤ 1 := by rw [bs_size]; simp
    clear ht hr1 hr0 hts0
    go_enter Try.func9, Try.ntmps9
    go_upto_region 1 with (fail)
    go_cut [4] (fun s wx => s = .string (bs f.headL) ∧ Below w.heap.size w wx)
    case first =>
      go_region
      all_goals
        go_wp2_with fail
        go_meet
        case rel => exact ⟨str_eq (append_bs _ _), ((Below.refl _ _).alloc (Nat.le_refl _) _).drew⟩
    case rest =>
      obtain ⟨rfl, hbc⟩ := hcut
      have Hbc := Lib.hid hbc
      have ht2 := TreeIn.world Ht.out hbc
      clear hc0 hc1 hc2 hcv1 hcv2 hcv3 hlb ha0 ha1 hsz hsz1 hbc
      obtain ⟨ks, vsv2, psv, hc0, hc1, hc2, _, _, hr1, hr, hts⟩ := node_cells ht2
      by_cases h51 : f.op = 51
      · have hop : (f.op.toNat : Int) = 51 := by rw [h51]; rfl
        have Hm := Lib.hid (more_op (.inl h51))
        clear h51 hr1 hr hts ht2
        go_wp2_with fail
        go_ret2
        exact ⟨.inr ⟨fun g hg => (by rw [Hm.out] at hg; cases hg), ⟨#[]⟩, by decide, rfl⟩, Hbc.out⟩
      · by_cases h52 : f.op = 52
        · have hop : (f.op.toNat : Int) = 52 := by rw [h52]; rfl
          have Hm := Lib.hid (more_op (.inr h52))
          clear h51 h52 hr1 hr hts ht2
          go_wp2_with fail
          go_ret2
          exact ⟨.inr ⟨fun g hg => (by rw [Hm.out] at hg; cases hg), ⟨#[]⟩, by decide, rfl⟩, Hbc.out⟩
        · by_cases h50 : f.op = 50
          · obtain ⟨v, p, hfe⟩ := two_op h50
            have hop : (f.op.toNat : Int) = 50 := by rw [h50]; rfl
            have hvs : f.vars = [v] := by rw [hfe]; rfl
            have hps : f.parts = [p] := by rw [hfe]; rfl
            have hk0 := hts.1
            rw [hps] at hk0
            obtain ⟨k0, rfl⟩ : ∃ k0, ks = [k0] := by
              match ks, hk0 with
              | [k0], _ => exact ⟨k0, rfl⟩
            obtain ⟨g, cap, rfl, hcap, hcm, _, hglt, hcell⟩ := row_open hr (by simp)
            have hcell0 : wc.cell? ⟨g, 0, none⟩ = some (kidV k0) := by rw [hcell 0 (by simp)]; rfl
            have hvl : 0 < f.vars.length := by rw [hvs]; simp
            rw [vars_bytes] at hr1
            obtain ⟨g1, cap1, rfl, hcap1, hcm1, _, hglt1, hcelv⟩ := row_open hr1 hvl
            have hcx : wc.cell? ⟨g1, 0, none⟩ = some (.int .u8 ((vb v).toNat : Nat)) := by rw [hcelv 0 hvl, hvs]; rfl
            have hpk := hts.2 0 p k0 (by rw [hps]; rfl) rfl
            have hmem : p ∈ f.parts := by rw [hps]; simp
            have hsz := Fm.size_parts hmem
            have hcall := Ih.out p k0 S wc (by omega) hpk (by have := part_text_le hmem; omega)
            have hvl1 : f.vars.length = 1 := by rw [hvs]; rfl
            rw [hvl1] at hc1
            have Hcall := Lib.hid hcall
            have Hc1 := Lib.hid hc1
            have Hcx := Lib.hid hcx
            have Hfe := Lib.hid hfe
            have hlbc := World.block_lt_of_cell? wc _ hc1
            have Hlb := Lib.hid hlbc
            clear hcall hfe hps hvs hk0 hcell hr hr1 hts hpk hmem hsz hcelv hcap hcm hcap1 hcm1 hglt hvl ht2 h50 h51 h52 hvl1 hc1 hcx hlbc
            go_wp2_with fail
            refine (Hcall.out).mono ?_
            rintro e w1 ⟨hsp, hb1⟩
            rcases hsp with ⟨q, hq, hql, rfl⟩ | ⟨hno, t, hts, rfl⟩
            · have Hq := Lib.hid hq
              have hqs : (bs q.text).size ≤ 4000 := by rw [bs_size]; exact hql
              have Hql := Lib.hid hql
              have Hb1 := Lib.hid hb1
              clear hq hql hb1 hc0 hc2 hcell0
              go_wp2_with fail
              refine (parseFormula_yes (bs q.text) q _ hqs rfl).mono ?_
              rintro e w2 ⟨b2, rfl, htr, hb2⟩
              have Hb2 := Lib.hid (Hb1.out.trans (hb2.mono Hb1.out.size))
              have hd1 : w2.cell? ⟨b, 1, none⟩ = some (.slice (some ⟨g1, 0, none⟩) 1 cap1) := (Hb2.out.cell Hlb.out).trans Hc1.out
              have hdx : w2.cell? ⟨g1, 0, none⟩ = some (.int .u8 ((vb v).toNat : Nat)) := (Hb2.out.cell (World.block_lt_of_cell? wc _ Hcx.out)).trans Hcx.out
              obtain ⟨ks2, vsq, psq, hq0, hq1, hq2, hq3, hq4, _, _, _⟩ := node_cells htr
              have Htr := Lib.hid htr
              have hbits := fresh_bits q v
              have hvt : ∀ W, Calls Try.prog 15 #[.int .i64 ((15 &&& (15 ^^^ (q.allBits ||| 1 <<< v.val)) : Nat) : Int)] W fun e w' => e = .returned (.string (bs (varsL (15 &&& (15 ^^^ (q.allBits ||| 1 <<< v.val))) 4))) ∧ W = w' := fun W => varsText_calls _ (by exact fresh_lt _) W
              have Hvt := Lib.hid hvt
              have hfr := fresh_vars ⟨q.allBits, allBits_lt q⟩ v
              have Hfr := Lib.hid hfr
              have Hbits := Lib.hid hbits
              have hv3 : (v.val : Int) < 4 := by omega
              have hvb1 : ((vb v).toNat : Int) = 97 + (v.val : Int) := vb_int v
              clear htr hb2 hvt hfr hq0 hq1 hq2 hq3 hbits
              go_wp2_with fail
              rw [Hbits.out]
              refine (Hvt.out _).mono ?_
              rintro e w' ⟨rfl, rfl⟩
              rcases Hfr.out with ⟨hz, hfn⟩ | ⟨u, hfu, r, hz⟩
              · have hz : varsL (15 &&& (15 ^^^ (q.allBits ||| 1 <<< v.val))) 4 = [] := hz
                rw [hz, show bs [] = (⟨#[]⟩ : ByteArray) from rfl]
                have Hfn := Lib.hid hfn
                clear hz hfn
                go_wp2_with fail
                go_ret2
                refine ⟨.inr ⟨fun g' hg => ?_, ⟨#[]⟩, by decide, rfl⟩, Hbc.out.trans (Hb2.out.mono Hbc.out.size)⟩
                rw [Hfe.out, two_spell Hq.out, Hfn.out] at hg
                cases hg
              · have hz : varsL (15 &&& (15 ^^^ (q.allBits ||| 1 <<< v.val))) 4 = vb u :: r := hz
                have hvn := varsL_len (15 &&& (15 ^^^ (q.allBits ||| 1 <<< v.val))) 4
                rw [hz] at hvn ⊢
                have Hfu := Lib.hid hfu
                obtain ⟨F, hF⟩ : ∃ F, F = bs (vb u :: r) := ⟨_, rfl⟩
                have hFs : 0 < F.size := by rw [hF, bs_size]; simp
                have hF4 : F.size ≤ 4 := by rw [hF, bs_size]; exact hvn
                obtain ⟨hce, hce2⟩ := empty_facts hFs
                have hx1 : F.extract 0 1 = bs [vb u] := by rw [hF]; exact eq_bs (by rw [Lib.extract_data]; rfl)
                rw [← hF]
                clear hz hfu hF hvn
                have hcv : (convert 35 9 (.slice (some ⟨w2.heap.size, 0, none⟩) 1 1)).run Try.prog (w2.alloc (.cells #[.int .u8 (97 + (v.val : Int))] 5)) = .ok (.string (bs [vb v])) (w2.alloc (.cells #[.int .u8 (97 + (v.val : Int))] 5)) := by
                  rw [← vb_int v]
                  exact conv_row (w := w2.alloc (.cells #[.int .u8 ((vb v).toNat : Int)] 5)) (base := 0) (n := 1) (new_byte w2 (vb v))
                have hrp := fun W hb => replace_calls v u q.size q b2 (fun g => w1.heap.size ≤ g) W (Nat.le_refl _) (TreeIn.world (w' := W) Htr.out hb) Hql.out
                rw [vb_int v] at hrp
                have Hrp := Lib.hid hrp
                have hs1 : (bs [vb v]).size = 1 := by rw [bs_size]; rfl
                have hs3 : (bs [vb u]).size = 1 := by rw [bs_size]; rfl
                have hix : ∃ h : 0 < (bs [vb u]).size, (((bs [vb u])[0]'h).toNat : Int) = ((vb u).toNat : Int) := ⟨by rw [hs3]; decide, rfl⟩
                obtain ⟨hi0, hix⟩ := hix
                have hrl := repl_len v u q
                have hrs : (bs (q.repl v u).text).size ≤ 4000 := by rw [bs_size, hrl]; exact Hql.out
                clear hrp
                go_wp2_with (go_at_call 16; refine (Hrp.out _ ((Below.refl _ _).alloc (Nat.le_refl _) _)).mono ?_; rintro e w3 ⟨rfl, hb3⟩)
                go_ret2
                refine ⟨spell_at (g := .qu .S v (.qu .S u (.con (.neg (.eq v u)) (.con q (q.repl v u))))) (by rw [Hfe.out, two_spell Hq.out, Hfu.out]) ?_ ?_ ?_, Hbc.out.trans ((Hb2.out.trans (((Below.refl _ _).alloc (Nat.le_refl _) _).trans (hb3.mono (by simp)) |>.mono Hb2.out.size)).mono Hbc.out.size)⟩
                · refine (eq_bs ?_)
                  rw [two_text]
                  simp [bs_data]
                · rw [bs_size, bs_size, two_text]
                  simp
                  omega
                · rw [two_text]
                  have := Hql.out
                  simp
                  omega
            · have Hno := Lib.hid hno
              clear hno hcell0
              go_wp2_with fail
              go_ret2
              refine ⟨.inr ⟨fun g' hg => ?_, ⟨#[]⟩, by decide, rfl⟩, Hbc.out.trans (hb1.mono Hbc.out.size)⟩
              rw [Hfe.out] at hg
              cases hps : p.spell with
              | none => rw [two_none hps] at hg; cases hg
              | some q =>
                have h1 := Hno.out q hps
                have h2 := two_le hps hg
                omega
          · have e50 : ((f.op.toNat : Int) == 50) = false := op_ne h50
            have n50 : ((f.op.toNat : Int) != 50) = true := by rw [bne, e50]; rfl
            have e51 : ((f.op.toNat : Int) == 51) = false := op_ne h51
            have e52 : ((f.op.toNat : Int) == 52) = false := op_ne h52
            obtain ⟨a, cap, rfl, hkl, hrow⟩ := row_slice hr
            have hkl2 : ks.length = f.parts.length := hts.1
            have hp2 := parts_le f
            have hkl3 : ks.length ≤ 2 := by omega
            have Hrow := Lib.hid hrow
            have Hts := Lib.hid hts
            have Hkl := Lib.hid hkl2
            have H50 := Lib.hid h50
            have H51 := Lib.hid h51
            have H52 := Lib.hid h52
            clear hrow hts hkl hkl2 hr ht2 h50 h51 h52 hr1 hc1
            go_wp2_with fail
            go_loopg [4, 50] ks.length (fun c o i wr => ∃ k : Nat, k + c = ks.length ∧ i = .int .i64 k ∧ o = .string (bs (headT f f.headL spT k)) ∧ (headT f f.headL spT k).length ≤ 3 + 4000 * k ∧ (∀ j (hj : j < f.parts.length), j < k → ∃ q, f.parts[j].spell = some q) ∧ Below wc.heap.size wc wr)
            case atStart => exact ⟨0, by omega, rfl, by rw [headT_zero], by rw [headT_zero]; have := head_len f; omega, fun j _ hj => by omega, Below.refl _ _⟩
            case round =>
              obtain ⟨k, hk, rfl, rfl, hlen, hall, hbr⟩ := hrel
              have Hbr := Lib.hid hbr
              have Hall := Lib.hid hall
              clear hbr hall
              by_cases hlt : k < ks.length
              · obtain ⟨g, rfl, hcell⟩ := Hrow.out k hlt
                have hkf : k < f.parts.length := by rw [← Hkl.out]; exact hlt
                have hcell1 : wc.cell? ⟨g, k, none⟩ = some (kidV ks[k]) := by rw [hcell, List.getElem?_map, List.getElem?_eq_getElem hlt]; rfl
                have hcell2 : wr.cell? ⟨g, k, none⟩ = some (kidV ks[k]) := (Hbr.out.cell (World.block_lt_of_cell? wc _ hcell1)).trans hcell1
                have hpk := (Hts.out.world Hbr.out).2 k f.parts[k] ks[k] (List.getElem?_eq_getElem hkf) (List.getElem?_eq_getElem hlt)
                have hmem : f.parts[k] ∈ f.parts := List.getElem_mem hkf
                have hsz := Fm.size_parts hmem
                have hcall := Ih.out f.parts[k] ks[k] S wr (by omega) hpk (by have := part_text_le hmem; omega)
                have Hcall := Lib.hid hcall
                have Hmem := Lib.hid hmem
                have hs2 : (bs (headT f f.headL spT k)).size ≤ 3 + 2 * 4000 := by rw [bs_size]; omega
                have Hlen := Lib.hid hlen
                clear hcell hcell1 hpk hmem hsz hcall hlen
                go_wp2_with fail
                refine (Hcall.out).mono ?_
                rintro e w2 ⟨hsp, hb2⟩
                rcases hsp with ⟨q, hq, hql, rfl⟩ | ⟨hno, t, hts, rfl⟩
                · have hqs : (bs q.text).size ≤ 4000 := by rw [bs_size]; exact hql
                  have Hq := Lib.hid hq
                  have Hb2 := Lib.hid hb2
                  have Hql := Lib.hid hql
                  clear hcell2 hq hb2 hql
                  go_wp2_with fail
                  go_roundg (gk - 1)
                  case rel =>
                    have hsnoc := headT_succ f f.headL spT k hkf
                    rw [spT_some Hq.out] at hsnoc
                    refine ⟨k + 1, by omega, by go_num, str_eq (by rw [append_bs, hsnoc, bs_data, bs_data]), by rw [hsnoc, List.length_append]; have := Hlen.out; have := Hql.out; omega, fun j hj hjk => ?_, Hbr.out.trans (Hb2.out.mono Hbr.out.size)⟩
                    by_cases e : j = k
                    · subst e; exact ⟨q, Hq.out⟩
                    · exact Hall.out j hj (by omega)
                  case measure => omega
                · have Hno := Lib.hid hno
                  clear hno
                  go_wp2_with fail
                  go_ret2
                  refine ⟨.inr ⟨fun g hg => ?_, ⟨#[]⟩, by decide, rfl⟩, Hbc.out.trans ((Hbr.out.trans (hb2.mono Hbr.out.size)).mono Hbc.out.size)⟩
                  cases hps : f.parts[k].spell with
                  | none => rw [spell_no H50.out H51.out H52.out Hmem.out hps] at hg; cases hg
                  | some q =>
                    have h1 := Hno.out q hps
                    have h2 := spell_part_le H50.out H51.out H52.out Hmem.out hg hps
                    omega
              · have hk2 : k = ks.length := by omega
                have htk := headT_all f f.headL spT k (by rw [hk2, Hkl.out]; exact Nat.le_refl _)
                obtain ⟨g, hg, hgt⟩ := spell_yes H50.out H51.out H52.out fun p hp => by
                  obtain ⟨j, hj, rfl⟩ := List.getElem_of_mem hp
                  exact Hall.out j hj (by rw [hk2, Hkl.out]; exact hj)
                have hs2 : (bs (headT f f.headL spT k)).size ≤ 3 + 2 * 4000 := by rw [bs_size]; omega
                rw [htk, ← hgt] at hs2 ⊢
                have Hg := Lib.hid hg
                clear htk hk2 hgt hlen hg
                go_wp2_with fail
                go_ret2
                exact ⟨spell_end Hg.out (by rw [bs_size] at hs2; omega), Hbc.out.trans (Hbr.out.mono Hbc.out.size)⟩
end Go.Proofs.Ytpaleogkgfclnaa

namespace Go.Proofs.Ytpaleogkgfclnaa
open Go.RowKit
open Pl
set_option linter.unusedSimpArgs false
set_option linter.unusedVariables false

set_option maxHeartbeats 4000000 in
set_option maxRecDepth 100000 in
theorem SpellCounts_spec (s : ByteArray) (w : World) (hs2 : s.size ≤ maxLen) :
    Calls Try.prog 4 #[.string s] w fun e w' => e = .returned (.tuple #[.string (optV s.data.toList spellO).1, .bool (optV s.data.toList spellO).2]) ∧ Below w.heap.size w w' := by
  rcases fm_cases s with ⟨hb, hno⟩ | ⟨f, hb, hf, hs4, hl4⟩
  · rw [optV_no spellO hno]
    have Hb := Lib.hid hb
    clear hb hno
    go_enter Try.func4, Try.ntmps4
    go_wp2_with (go_at_call 6; refine (FormulaValid_spec s _ hs2).mono ?_; rintro e w' ⟨rfl, rfl⟩; rw [Hb.out])
    go_ret2
    exact ⟨rfl, Below.refl _ _⟩
  · obtain ⟨V, hV⟩ : ∃ V, V = optV s.data.toList spellO := ⟨_, rfl⟩
    rw [← hV]
    have HV := Lib.hid hV
    clear hV
    have hcall := fun W => l2Spells_calls f.size f s 0 [] 0 W (Nat.le_refl _) (by simpa using hf) hs4 rfl
    have Hcall := Lib.hid hcall
    have Hb := Lib.hid hb
    have Hf := Lib.hid hf
    clear hcall hb hf
    go_enter Try.func4, Try.ntmps4
    go_wp2_with fail
    refine (FormulaValid_spec s _ hs2).mono ?_
    rintro e w' ⟨rfl, rfl⟩
    rw [Hb.out]
    go_wp2_with fail
    refine (Hcall.out _).mono ?_
    rintro e w1 ⟨⟨t, ok, rfl, hsp⟩, hb1⟩
    have ht : t.size ≤ 400000000 := by have := hsp.1; omega
    cases ok with
    | false =>
      have HVAL := Lib.hid (HV.out.trans (optV_none spellO Hf.out (by rw [Hf.out]; exact hl4) (by unfold spellO; rw [hsp.2.2 rfl]; rfl)))
      clear hsp
      go_wp2_with fail
      go_ret2
      exact ⟨by rw [HVAL.out]; rfl, hb1⟩
    | true =>
      obtain ⟨g, hg, rfl⟩ := hsp.2.1 rfl
      have hsz : (bs g.text).size = g.text.length := bs_size _
      clear hsp
      by_cases hlen : g.text.length ≤ 4000
      · have HVAL := Lib.hid (HV.out.trans (optV_yes spellO Hf.out (by rw [Hf.out]; exact hl4) (show spellO f = some g.text by unfold spellO; rw [hg]; rfl) hlen))
        have hsz2 : (bs g.text).size ≤ 4000 := by omega
        clear hsz hlen hg
        go_wp2_with fail
        go_ret2
        exact ⟨by rw [HVAL.out]; rfl, hb1⟩
      · have HVAL := Lib.hid (HV.out.trans (optV_long spellO Hf.out (by rw [Hf.out]; exact hl4) (show spellO f = some g.text by unfold spellO; rw [hg]; rfl) (by omega)))
        have hsz2 : 4000 < (bs g.text).size := by omega
        clear hsz hlen hg
        go_wp2_with fail
        go_ret2
        exact ⟨by rw [HVAL.out]; rfl, hb1⟩

set_option maxHeartbeats 4000000 in
set_option maxRecDepth 100000 in
theorem SpellCounts_impl (s : ByteArray) (w : World) :
    Calls Try.prog 5 #[.string s] w fun e w' => e = .returned (.tuple #[.string (optV s.data.toList spellO).1, .bool (optV s.data.toList spellO).2]) ∧ Below w.heap.size w w' := by
  rcases fm_cases s with ⟨hb, hno⟩ | ⟨f, hb, hf, hs4, hl4⟩
  · rw [optV_no spellO hno]
    have Hno := Lib.hid hno
    clear hb hno
    go_enter Try.func5, Try.ntmps5
    go_wp2_with (go_at_call 8; refine (parseFormula_no s w Hno.out).mono ?_; rintro e w1 ⟨rfl, hb1⟩)
    go_ret2
    exact ⟨rfl, hb1⟩
  · obtain ⟨V, hV⟩ : ∃ V, V = optV s.data.toList spellO := ⟨_, rfl⟩
    rw [← hV]
    have HV := Lib.hid hV
    clear hV
    have Hf := Lib.hid hf
    have hl5 : s.data.toList.length ≤ 4000 := by rw [hf]; exact hl4
    clear hb hf
    go_enter Try.func5, Try.ntmps5
    go_wp2_with fail
    refine (parseFormula_yes s f w hs4 Hf.out).mono ?_
    rintro e w1 ⟨b, rfl, htr, hb1⟩
    have Htr := Lib.hid htr
    clear htr
    go_wp2_with fail
    refine (spell_calls f.size f b _ _ (Nat.le_refl _) Htr.out hl4).mono ?_
    rintro e w2 ⟨hsp, hb2⟩
    rcases hsp with ⟨g, hg, hgl, rfl⟩ | ⟨hno, t, hts, rfl⟩
    · have HVAL := Lib.hid (HV.out.trans (optV_yes spellO Hf.out hl5 (show spellO f = some g.text by unfold spellO; rw [hg]; rfl) hgl))
      have hsz2 : (bs g.text).size ≤ 4000 := by rw [bs_size]; exact hgl
      clear hg hgl
      go_wp2_with (go_at_call 10; refine (shortFormula_yes _ _ hsz2).mono ?_; rintro e w3 ⟨rfl, rfl⟩)
      go_ret2
      exact ⟨by rw [HVAL.out]; rfl, hb1.trans (hb2.mono hb1.size)⟩
    · have hval : optV s.data.toList spellO = (bs [], false) := by
        cases hg : f.spell with
        | none => exact optV_none spellO Hf.out hl5 (by unfold spellO; rw [hg]; rfl)
        | some g => exact optV_long spellO Hf.out hl5 (show spellO f = some g.text by unfold spellO; rw [hg]; rfl) (hno g hg)
      have HVAL := Lib.hid (HV.out.trans hval)
      clear hno hval
      go_wp2_with (go_at_call 10; refine (shortFormula_no _ _ _ (fun e => by cases e)).mono ?_; rintro e w3 ⟨rfl, rfl⟩)
      go_ret2
      exact ⟨by rw [HVAL.out]; rfl, hb1.trans (hb2.mono hb1.size)⟩

theorem FnExactSpellCounts_walk (s : ByteArray) (w : World) (hs : s.size ≤ maxLen) :
    Calls Try.prog 3 #[.string s] w fun e w' => e = .returned (.bool true) ∧ Below w.heap.size w w' := by
  have Hs := Lib.hid hs
  clear hs
  by_cases h : s.size ≤ 1048576
  · go_enter Try.func3, Try.ntmps3
    go_wp2_with (first | (go_at_call 4; refine (SpellCounts_spec s _ Hs.out).mono ?_; rintro e w1 ⟨rfl, hb1⟩) | (go_at_call 5; refine (SpellCounts_impl s _).mono ?_; rintro e w2 ⟨rfl, hb2⟩))
    go_ret
    exact ⟨rfl, hb1.trans (hb2.mono hb1.size)⟩
  · go_enter Try.func3, Try.ntmps3
    go_wp2_with fail
    go_ret
    exact ⟨rfl, Below.refl _ _⟩
end Go.Proofs.Ytpaleogkgfclnaa
