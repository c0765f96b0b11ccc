/-
  The reference's l1Part. Condition: elements of a valid structure, at most eight.
-/
import Derived.Test.YtgnmlijfenjehaaDoorSPart
import Derived.Deep.DrawnRows
namespace Go.Proofs.YtgnmlijfenjehaaDoor
open Go.RowKit
open Pl
set_option linter.unusedSimpArgs false
set_option linter.unusedVariables false
attribute [local go_sem ↓] Go.wp_at_zero Go.wp_at_succ

theorem bx_three (w : World) (o o2 : Obj) (cs : Array Value) {t : TypeId} : Bx (((w.alloc o).alloc o2).alloc (.cells cs t)) (w.heap.size + 2) t cs := by
  have h := Bx.new ((w.alloc o).alloc o2) t cs
  rwa [World.size_alloc, World.size_alloc] at h

set_option maxHeartbeats 4000000 in
set_option maxRecDepth 100000 in
theorem l1Part_calls (a : St) (ha : a.ok) (ns : List Nat) (hns : ∀ x ∈ ns, x < a.n) (hl : ns.length ≤ 8) (A : Option Addr) (cap : Nat) (w : World) (hA : LRow w A (natsI ns)) :
    Calls Tryd.prog 57 #[stA a, .slice A ns.length cap] w fun e w' => e = .returned (stA (a.part ns)) ∧ Below w.heap.size w w' := by
  have HA := Lib.hid hA
  have hlt : ∀ x, x < ns.length → ns.getD x 0 < a.n := fun x hx => getD_lt hns hx
  obtain ⟨f, hf⟩ : ∃ f : Nat → Bool, f = fun x => a.inS (ns.getD x 0) := ⟨_, rfl⟩
  obtain ⟨g, hg⟩ : ∃ g : Nat → Nat → Bool, g = fun x y => a.inR (ns.getD x 0) (ns.getD y 0) := ⟨_, rfl⟩
  obtain ⟨n, hn⟩ : ∃ n, n = ns.length := ⟨_, rfl⟩
  obtain ⟨d, hd⟩ : ∃ d : Nat → Nat, d = fun x => ns.getD x 0 := ⟨_, rfl⟩
  have hS : ∀ x, x < n → ∀ W, Calls Tryd.prog 58 #[stV (a.n : Int) (bs a.set) (bs a.rel), .int .i64 (d x : Int)] W fun e w' => e = .returned (.bool (f x)) ∧ Below W.heap.size W w' := fun x hx W => by
    subst hn hf hd; exact l1Set_calls a ha _ (hlt x hx) W
  have hR : ∀ x y, x < n → y < n → ∀ W, Calls Tryd.prog 59 #[stV (a.n : Int) (bs a.set) (bs a.rel), .int .i64 (d x : Int), .int .i64 (d y : Int)] W fun e w' => e = .returned (.bool (g x y)) ∧ Below W.heap.size W w' := fun x y hx hy W => by
    subst hn hg hd; exact l1Rel_calls a ha _ _ (hlt x hx) (hlt y hy) W
  have hL : ∀ x W, x < n → Below w.heap.size w W → ∃ b, A = some ⟨b, 0, none⟩ ∧ W.cell? ⟨b, x, none⟩ = some (.int .i64 (d x : Int)) := fun x W hx hW => by
    subst hn hd
    exact (HA.out.call hW).nats hx
  have hfin : stV (n : Int) (bs (setTo f n)) (bs (relTo n g n)) = stA (a.part ns) := by
    subst hn hf hg; rfl
  have HS := Lib.hid hS
  have HR := Lib.hid hR
  have HL := Lib.hid hL
  have Hfin := Lib.hid hfin
  rw [← hn] at hl ⊢
  clear hA hlt hf hg hn hd hS hR hL hfin HA hns
  show Calls Tryd.prog 57 #[stV (a.n : Int) (bs a.set) (bs a.rel), .slice A n cap] w _
  generalize bs a.set = S at HS HR ⊢
  generalize bs a.rel = R at HS HR ⊢
  generalize a.n = an at HS HR ⊢
  go_enter Tryd.func57, Tryd.ntmps57
  go_wp2_with fail
  go_loopg [6] n (fun c i wr => ∃ k : Nat, k + c = n ∧ i = .int .i64 k ∧ Bx wr w.heap.size 27 #[.int .i64 an, .string S, .string R] ∧ Bx wr (w.heap.size + 1) 27 #[.int .i64 0, .string (bs []), .string (bs [])] ∧ Bx wr (w.heap.size + 2) 27 #[.int .i64 n, .string (bs (setTo f k)), .string (bs (relTo n g k))] ∧ Below w.heap.size w wr)
  case atStart => exact ⟨0, by omega, rfl, ((Bx.new w _ _).alloc _).alloc _, (bx_two w _ _).alloc _, bx_three w _ _ _, (((Below.refl _ _).alloc (Nat.le_refl _) _).alloc (by simp) _).alloc (by simp; omega) _⟩
  case round =>
    obtain ⟨k, hk, rfl, ha0, hr0, hb0, hbw⟩ := hrel
    obtain ⟨k0, k1, k2⟩ := box_load ha0
    have Ha0 := Lib.hid ha0
    have Hr0 := Lib.hid hr0
    have Hb0 := Lib.hid hb0
    have Hbw := Lib.hid hbw
    clear ha0 hr0 hb0 hbw
    by_cases hlt : k < n
    · have c1 := Hb0.out.cell 1
      have g1 := Hb0.out.free 1
      simp at c1
      obtain ⟨b, rfl, hlk⟩ := HL.out k wr hlt Hbw.out
      have s1 : (bs (setTo f k)).size ≤ 8 := by rw [bs_size, setTo_len]; omega
      have s2 : (bs [bitB (f k)]).size ≤ 1 := by rw [bs_size]; simp
      have hs3 : bs (setTo f k) ++ bs [bitB (f k)] = bs (setTo f (k + 1)) := by rw [append_bs, bs_data, bs_data, setTo_succ]
      have Hs3 := Lib.hid hs3
      have i1 : (0 : Int) ≤ (k : Int) := by omega
      have i2 : (k : Int) < (n : Int) := by omega
      clear hs3
      go_upto_region 5 with (fail)
      go_cut [26] (fun v wx => v = .string (bs (setTo f (k + 1))) ∧ Bx wx w.heap.size 27 #[.int .i64 an, .string S, .string R] ∧ Bx wx (w.heap.size + 1) 27 #[.int .i64 0, .string (bs []), .string (bs [])] ∧ Bx wx (w.heap.size + 2) 27 #[.int .i64 n, .string (bs (setTo f (k + 1))), .string (bs (relTo n g k))] ∧ Below w.heap.size w wx)
      case first =>
        go_region_with (first | (go_at_call 86; refine (l1Bit_calls _ _).mono ?_; rintro e w3 ⟨rfl, rfl⟩) | (go_at_call 58; refine (HS.out k hlt _).mono ?_; rintro e w2 ⟨rfl, hz⟩; have c2 := (Hb0.out.drew.call hz).cell 1; have f2 := (Hb0.out.drew.call hz).free 1; simp at c2; have Hz := Lib.hid hz; clear hz))
        all_goals
          go_wp2_with fail
          go_meet
          case rel => exact ⟨str_eq Hs3.out, (Ha0.out.drew.call Hz.out).far (by simp <;> omega) _, (Hr0.out.drew.call Hz.out).far (by simp <;> omega) _, by rw [← Hs3.out]; exact (Hb0.out.drew.call Hz.out).set 1 _, (Hbw.out.drew.trans (Hz.out.mono Hbw.out.drew.size)).setCell (by simp <;> omega) _⟩
      case rest =>
        obtain ⟨rfl, ha1, hr1, hb1, hbw1⟩ := hcut
        have Ha1 := Lib.hid ha1
        have Hr1 := Lib.hid hr1
        have Hb1 := Lib.hid hb1
        have Hbw1 := Lib.hid hbw1
        clear ha1 hr1 hb1 hbw1 c1 g1 s1 s2 k0 k1 k2 hlk
        go_wp2_with fail
        go_loopg [7] n (fun c i wr => ∃ j : Nat, j + c = n ∧ i = .int .i64 j ∧ Bx wr w.heap.size 27 #[.int .i64 an, .string S, .string R] ∧ Bx wr (w.heap.size + 1) 27 #[.int .i64 0, .string (bs []), .string (bs [])] ∧ Bx wr (w.heap.size + 2) 27 #[.int .i64 n, .string (bs (setTo f (k + 1))), .string (bs (relAt n g k j))] ∧ Below w.heap.size w wr)
        case atStart => exact ⟨0, by omega, rfl, Ha1.out, Hr1.out, by rw [relAt_zero]; exact Hb1.out, Hbw1.out⟩
        case round =>
          clear Ha0 Hr0 Hb0 Hbw Ha1 Hr1 Hb1 Hbw1 Hs3
          obtain ⟨j, hj, rfl, ha0, hr0, hb0, hbw⟩ := hrel
          obtain ⟨k0, k1, k2⟩ := box_load ha0
          have Ha0 := Lib.hid ha0
          have Hr0 := Lib.hid hr0
          have Hb0 := Lib.hid hb0
          have Hbw := Lib.hid hbw
          clear ha0 hr0 hb0 hbw
          by_cases hlj : j < n
          · have c1 := Hb0.out.cell 2
            have g1 := Hb0.out.free 2
            simp at c1
            obtain ⟨b1, hb1, hlk⟩ := HL.out k wr hlt Hbw.out
            obtain ⟨b2, hb2, hlj2⟩ := HL.out j wr hlj Hbw.out
            have e1 : b1 = b := by injection hb1 with h; injection h with h _; exact h.symm
            have e2 : b2 = b := by injection hb2 with h; injection h with h _; exact h.symm
            rw [e1] at hlk
            rw [e2] at hlj2
            have s1 : (bs (relAt n g k j)).size ≤ 100 := by
              rw [bs_size, relAt_len]
              have h64 := sq_le hl
              have hkn : k * n ≤ n * n := Nat.mul_le_mul_right n (by omega)
              omega
            have s2 : (bs [bitB (g k j)]).size ≤ 1 := by rw [bs_size]; simp
            have hs3 : bs (relAt n g k j) ++ bs [bitB (g k j)] = bs (relAt n g k (j + 1)) := by rw [append_bs, bs_data, bs_data, relAt_succ]
            have Hs3 := Lib.hid hs3
            have i3 : (0 : Int) ≤ (j : Int) := by omega
            have i4 : (j : Int) < (n : Int) := by omega
            clear hs3 hb1 hb2 e1 e2
            go_upto_region 9 with (fail)
            go_region_with (first | (go_at_call 86; refine (l1Bit_calls _ _).mono ?_; rintro e w3 ⟨rfl, rfl⟩) | (go_at_call 59; refine (HR.out k j hlt hlj _).mono ?_; rintro e w2 ⟨rfl, hz⟩; have c2 := (Hb0.out.drew.call hz).cell 2; have f2 := (Hb0.out.drew.call hz).free 2; simp at c2; have Hz := Lib.hid hz; clear hz))
            all_goals
              go_wp2_with fail
              go_roundg (n - j - 1)
              case rel => exact ⟨j + 1, by omega, by go_num, (Ha0.out.drew.call Hz.out).far (by simp <;> omega) _, (Hr0.out.drew.call Hz.out).far (by simp <;> omega) _, by rw [← Hs3.out]; exact (Hb0.out.drew.call Hz.out).set 2 _, (Hbw.out.drew.trans (Hz.out.mono Hbw.out.drew.size)).setCell (by simp <;> omega) _⟩
              case measure => omega
          · obtain rfl : n = j := by omega
            go_wp2_with fail
            go_roundg (n - k - 1)
            case rel => exact ⟨k + 1, by omega, by go_num, Ha0.out, Hr0.out, by rw [relTo_succ]; exact Hb0.out, Hbw.out⟩
            case measure => omega
    · obtain rfl : n = k := by omega
      obtain ⟨c0, c1, c2⟩ := box_load Hb0.out
      obtain ⟨d0, d1, d2⟩ := box_load Hr0.out
      have e0 := Hr0.out.free 0
      have e1 := Hr0.out.free 1
      have e2 := Hr0.out.free 2
      go_wp2_with fail
      have y1 := ((Hr0.out.set 0 (.int .i64 n)).set 1 (.string (bs (setTo f n)))).set 2 (.string (bs (relTo n g n)))
      obtain ⟨q0, q1, q2⟩ := box_load (a := .int .i64 n) (b := .string (bs (setTo f n))) (c := .string (bs (relTo n g n))) y1
      refine bodyPost_ret (v := stA (a.part ns)) ?_ rfl ⟨rfl, ?_⟩
      · rw [← Hfin.out]
        simp [results, Tryd.results57, go_sem, q0, q1, q2]
      · exact ((Hbw.out.setCell (by simp <;> omega) _).setCell (by simp <;> omega) _).setCell (by simp <;> omega) _

end Go.Proofs.YtgnmlijfenjehaaDoor
