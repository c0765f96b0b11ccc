/-
  The reader of random numbers: pick. Condition: at most 2^40 numbers are drawn.
-/
import Derived.Test.YtgnmlijfenjehaaDoorList
import Derived.Test.YtgnmlijfenjehaaDoorReg
namespace Go.Proofs.YtgnmlijfenjehaaDoor
open Go.RowKit
open Pl
set_option linter.unusedSimpArgs false
set_option linter.unusedVariables false
attribute [local go_sem ↓] Go.wp_at_zero Go.wp_at_succ

/-- bytes that lie at an address -/
def ByRow (w : World) (A : Option Addr) (n : Nat) : Prop := 0 < n → ∃ x : Addr, A = some x ∧ ∀ i, i < n → ∃ b : Nat, b < 256 ∧ w.cell? (x.add i) = some (.int .u8 b)

theorem Bx.grown' {w w' : World} {g : Nat} {t : TypeId} {cs : Array Value} {row : Option Nat} (h : Bx w g t cs) (hg : w.grownBy w' row) (hne : some g ≠ row) : Bx w' g t cs := (hg.block g h.lt hne).trans h

/-- the reader in memory -/
structure Rd (w : World) (rb : Nat) (A : Option Addr) (n cap p : Nat) : Prop where
  box : Bx w rb 90 #[.slice A n cap, .int .i64 p]
  row : ByRow w A n
  small : n ≤ 2000
  sep : 0 < n → ∀ x, A = some x → x.block < rb

theorem ByRow.grown {w w' : World} {A : Option Addr} {n rb : Nat} (h : ByRow w A n) (hs : 0 < n → ∀ x, A = some x → x.block < rb) (hrb : rb < w.heap.size) (hg : w.grownBy w' (some rb)) : ByRow w' A n := fun hn => by
  obtain ⟨x, rfl, hc⟩ := h hn
  have hx := hs hn x rfl
  refine ⟨x, rfl, fun i hi => ?_⟩
  obtain ⟨b, hb, hcell⟩ := hc i hi
  refine ⟨b, hb, ?_⟩
  rw [← hcell]
  have hbl : (x.add i).block = x.block := by unfold Addr.add; split <;> rfl
  exact World.cell?_of_block (by rw [hbl]; exact hg.block x.block (by omega) (by simp; omega))

theorem xor_nn (a b : Int) (ha0 : 0 ≤ a) (ha : a ≤ 1000000000000000) (hb0 : 0 ≤ b) (hb : b ≤ 1000000000000000) : 0 ≤ bits .xor .i64 a b := by
  obtain ⟨m, rfl⟩ : ∃ m : Nat, a = m := ⟨a.toNat, by omega⟩
  obtain ⟨k, rfl⟩ : ∃ k : Nat, b = k := ⟨b.toNat, by omega⟩
  have hx : m ^^^ k < 2 ^ 62 := Nat.xor_lt_two_pow (by omega) (by omega)
  have h1 : (BitVec.ofInt 64 (m : Int)).toNat = m := by
    rw [BitVec.ofInt_natCast, BitVec.toNat_ofNat]; exact Nat.mod_eq_of_lt (by omega)
  have h2 : (BitVec.ofInt 64 (k : Int)).toNat = k := by
    rw [BitVec.ofInt_natCast, BitVec.toNat_ofNat]; exact Nat.mod_eq_of_lt (by omega)
  show 0 ≤ IntKind.i64.wrap ((BitVec.ofInt 64 (m : Int) ^^^ BitVec.ofInt 64 (k : Int)).toNat : Int)
  rw [BitVec.toNat_xor, h1, h2, IntWalk.i64_in _ (by omega)]
  omega

/-- what a drawn number is -/
def PickP (k : Int) (e : Ending) : Prop := ∃ m : Int, e = .returned (.int .i64 m) ∧ 0 ≤ m ∧ (1 ≤ k → m < k) ∧ (k < 1 → m = 0)

theorem Rd.next {w : World} {rb : Nat} {A : Option Addr} {n cap p : Nat} (h : Rd w rb A n cap p) (p' : Nat) (j : Nat) : Rd ((w.setCell ⟨rb, 1, none⟩ (.int .i64 (p' : Nat))).drewN j) rb A n cap p' ∧ w.grownBy ((w.setCell ⟨rb, 1, none⟩ (.int .i64 (p' : Nat))).drewN j) (some rb) := by
  have hg : w.grownBy ((w.setCell ⟨rb, 1, none⟩ (.int .i64 (p' : Nat))).drewN j) (some rb) := ⟨rfl, rfl, rfl, by simp, fun k _ hk => Below.heap_setCell w ⟨rb, 1, none⟩ _ k (fun e => hk (by rw [e]))⟩
  refine ⟨⟨?_, h.row.grown h.sep h.box.lt hg, h.small, h.sep⟩, hg⟩
  have h2 : Bx (w.setCell ⟨rb, 1, none⟩ (.int .i64 (p' : Nat))) rb 90 #[.slice A n cap, .int .i64 (p' : Nat)] := by
    have := h.box.set 1 (.int .i64 (p' : Nat))
    simpa using this
  exact h2.drewN j

set_option maxHeartbeats 4000000 in
set_option maxRecDepth 100000 in
theorem pick_calls (rb : Nat) (A : Option Addr) (n cap p : Nat) (k : Int) (w : World) (h : Rd w rb A n cap p) (hp : p ≤ 1099511627776) (hk : k ≤ 1099511627776) :
    Calls Tryd.prog 39 #[.pointer (some ⟨rb, 0, none⟩), .int .i64 k] w fun e w' => PickP k e ∧ Rd w' rb A n cap (p + 1) ∧ w.grownBy w' (some rb) := by
  have c0 := h.box.cell 0
  have c1 := h.box.cell 1
  have f1 := h.box.free 1
  simp at c0 c1
  have hn := h.small
  obtain ⟨V, hV⟩ : ∃ V, V = w.setCell ⟨rb, 1, none⟩ (.int .i64 ((p : Int) + 1)) := ⟨_, rfl⟩
  have hnx : ∀ j, Rd (V.drewN j) rb A n cap (p + 1) ∧ w.grownBy (V.drewN j) (some rb) := fun j => by
    have h2 := h.next (p + 1) j
    rw [show (((p + 1 : Nat)) : Int) = (p : Int) + 1 from by omega] at h2
    rw [hV]; exact h2
  have hrd : Rd V rb A n cap (p + 1) := (hnx 0).1
  have d0 := hrd.box.cell 0
  have d1 := hrd.box.cell 1
  simp at d0 d1
  have Hnx := Lib.hid hnx
  have Hrow := Lib.hid hrd.row
  have HV := Lib.hid hV
  have hp0 : (0 : Int) ≤ (p : Int) := by omega
  have hp1 : (p : Int) ≤ 1099511627776 := by omega
  have hn3 : (n : Int) ≤ 2000 := by omega
  have hn4 : (0 : Int) ≤ (n : Int) := by omega
  clear h hV hnx hrd
  go_enter Tryd.func39, Tryd.ntmps39
  go_upto_region 2 with (fail)
  rw [← HV.out]
  clear c0 c1 f1 HV
  by_cases hk1 : k < 1
  · have hP : ∀ m : Int, m = 0 → PickP k (.returned (.int .i64 m)) := fun m hm => ⟨m, rfl, by omega, fun h => by omega, fun _ => hm⟩
    have HP := Lib.hid hP
    clear hP
    go_wp2_with fail
    go_ret
    exact ⟨HP.out 0 rfl, Hnx.out 0⟩
  · have hP : ∀ m : Int, 0 ≤ m → m < k → PickP k (.returned (.int .i64 m)) := fun m h0 h1 => ⟨m, rfl, h0, fun _ => h1, fun h => by omega⟩
    have HP := Lib.hid hP
    have hk0 : 1 ≤ k := by omega
    clear hP
    by_cases hn0 : n = 0
    · subst hn0
      go_wp2_with fail
      go_ret
      exact ⟨HP.out 0 (by omega) (by omega), Hnx.out 0⟩
    · have hn1 : (0 : Int) < (n : Int) := by omega
      have hn2 : ((n : Int) == 0) = false := by simp; omega
      have hn5 : ¬ (n : Int) = 0 := by omega
      by_cases hpn : p < n
      · have hpi : (p : Int) < (n : Int) := by omega
        obtain ⟨x, rfl, hc⟩ := Hrow.out (by omega)
        obtain ⟨b, hb, hcb⟩ := hc p hpn
        have hb1 : (b : Int) < 256 := by omega
        have hb0 : (0 : Int) ≤ (b : Int) := by omega
        clear hc
        go_wp2_with fail
        go_ret
        exact ⟨HP.out _ (Int.emod_nonneg _ (by omega)) (Int.emod_lt_of_pos _ (by omega)), Hnx.out 0⟩
      · have hpi : ¬ (p : Int) < (n : Int) := by omega
        have hj1 : p % n < n := Nat.mod_lt _ (by omega)
        have hj2 : (p * 7 + 3) % n < n := Nat.mod_lt _ (by omega)
        obtain ⟨x, rfl, hc⟩ := Hrow.out (by omega)
        obtain ⟨b1, hb1, hcb1⟩ := hc _ hj1
        obtain ⟨b2, hb2, hcb2⟩ := hc _ hj2
        have hq0 : p / n ≤ p := Nat.div_le_self _ _
        obtain ⟨q, hq⟩ : ∃ q, q = p / n := ⟨_, rfl⟩
        obtain ⟨i1, hi1⟩ : ∃ i1, i1 = p % n := ⟨_, rfl⟩
        obtain ⟨i2, hi2⟩ : ∃ i2, i2 = (p * 7 + 3) % n := ⟨_, rfl⟩
        rw [← hq] at hq0
        rw [← hi1] at hj1 hcb1
        rw [← hi2] at hj2 hcb2
        have Hq := Lib.hid (show IntKind.i64.wrap ((p : Int) / n) = ((q : Nat) : Int) from by rw [show ((p : Int) / n) = ((q : Nat) : Int) by rw [hq]; rfl]; exact IntWalk.i64_in _ (by omega))
        have Hi1 := Lib.hid (show (p : Int) % n = ((i1 : Nat) : Int) from by rw [hi1]; rfl)
        have Hi2 := Lib.hid (show ((p : Int) * 7 + 3) % n = ((i2 : Nat) : Int) from by rw [hi2]; rfl)
        have z1 : (0 : Int) ≤ (i1 : Int) := by omega
        have z2 : (i1 : Int) < (n : Int) := by omega
        have z3 : (0 : Int) ≤ (i2 : Int) := by omega
        have z4 : (i2 : Int) < (n : Int) := by omega
        have y1 : (0 : Int) ≤ (b1 : Int) := by omega
        have y2 : (b1 : Int) < 256 := by omega
        have y3 : (0 : Int) ≤ (b2 : Int) := by omega
        have y4 : (b2 : Int) < 256 := by omega
        have y5 : (0 : Int) ≤ (q : Int) := by omega
        have y6 : (q : Int) ≤ 1099511627776 := by omega
        clear hc hq hi1 hi2
        go_upto_region 7 with (fail)
        refine region_sched [(0, true), (1, true), (2, true), (3, true), (4, true), (5, true), (6, true), (7, true), (8, true), (9, true), (10, true), (11, true), (12, true), (13, true), (14, true), (15, true), (16, true), (17, true), (18, true), (19, true), (20, true), (21, true), (22, true), (23, true), (24, true), (25, true), (26, true), (27, true), (28, true), (29, true), (30, true), (31, true), (32, true), (33, true), (34, true), (35, true), (36, true), (37, true), (38, true), (39, true), (40, true), (41, true), (42, true), (43, true), (44, true), (45, true)] (fun w' : World => w'.cell? ⟨rb, 0, none⟩ = some (.slice (some x) n cap) ∧ w'.cell? (x.add i1) = some (.int .u8 b1) ∧ w'.cell? (x.add i2) = some (.int .u8 b2)) (by kernel_rfl) (by kernel_rfl) (by kernel_rfl) (by kernel_rfl) (fun _ _ _ _ h => h) ?_ (fun Q1 hQ1 => ?_)
        · exact ⟨d0, hcb1, hcb2⟩
        try simp only [List.append]
        refine sched_take' (v := ?_) (a' := ?_) rfl (by kernel_rfl) ?_ rfl ?_ ?_
        rotate_left 2
        · intro w hSw
          (try dsimp only at hSw)
          go_simp
          try with_reducible rfl
        · (try simp only [Act.put, List.setIfInBounds_toArray, List.set_cons_zero, List.set_cons_succ])
          try rfl
        refine sched_take' (v := ?_) (a' := ?_) rfl (by kernel_rfl) ?_ rfl ?_ ?_
        rotate_left 2
        · intro w hSw
          (try dsimp only at hSw)
          go_simp
          try with_reducible rfl
        · (try simp only [Act.put, List.setIfInBounds_toArray, List.set_cons_zero, List.set_cons_succ])
          try rfl
        refine sched_take' (v := ?_) (a' := ?_) rfl (by kernel_rfl) ?_ rfl ?_ ?_
        rotate_left 2
        · intro w hSw
          (try dsimp only at hSw)
          go_simp
          try with_reducible rfl
        · (try simp only [Act.put, List.setIfInBounds_toArray, List.set_cons_zero, List.set_cons_succ])
          try rfl
        refine sched_take' (v := ?_) (a' := ?_) rfl (by kernel_rfl) ?_ rfl ?_ ?_
        rotate_left 2
        · intro w hSw
          (try dsimp only at hSw)
          go_simp
          try with_reducible rfl
        · (try simp only [Act.put, List.setIfInBounds_toArray, List.set_cons_zero, List.set_cons_succ])
          try rfl
        refine sched_take' (v := ?_) (a' := ?_) rfl (by kernel_rfl) ?_ rfl ?_ ?_
        rotate_left 2
        · intro w hSw
          (try dsimp only at hSw)
          go_simp
          try with_reducible rfl
        · (try simp only [Act.put, List.setIfInBounds_toArray, List.set_cons_zero, List.set_cons_succ])
          try rfl
        refine sched_take' (v := ?_) (a' := ?_) rfl (by kernel_rfl) ?_ rfl ?_ ?_
        rotate_left 2
        · intro w hSw
          (try dsimp only at hSw)
          go_simp
          try with_reducible rfl
        · (try simp only [Act.put, List.setIfInBounds_toArray, List.set_cons_zero, List.set_cons_succ])
          try rfl
        refine sched_take' (v := ?_) (a' := ?_) rfl (by kernel_rfl) ?_ rfl ?_ ?_
        rotate_left 2
        · intro w hSw
          (try dsimp only at hSw)
          go_simp
          try with_reducible rfl
        · (try simp only [Act.put, List.setIfInBounds_toArray, List.set_cons_zero, List.set_cons_succ])
          try rfl
        refine sched_take' (v := ?_) (a' := ?_) rfl (by kernel_rfl) ?_ rfl ?_ ?_
        rotate_left 2
        · intro w hSw
          (try dsimp only at hSw)
          go_simp
          try with_reducible rfl
        · (try simp only [Act.put, List.setIfInBounds_toArray, List.set_cons_zero, List.set_cons_succ])
          try rfl
        refine sched_take' (v := ?_) (a' := ?_) rfl (by kernel_rfl) ?_ rfl ?_ ?_
        rotate_left 2
        · intro w hSw
          (try dsimp only at hSw)
          go_simp
          try with_reducible rfl
        · (try simp only [Act.put, List.setIfInBounds_toArray, List.set_cons_zero, List.set_cons_succ])
          try rfl
        refine sched_take' (v := ?_) (a' := ?_) rfl (by kernel_rfl) ?_ rfl ?_ ?_
        rotate_left 2
        · intro w hSw
          (try dsimp only at hSw)
          go_simp
          try with_reducible rfl
        · (try simp only [Act.put, List.setIfInBounds_toArray, List.set_cons_zero, List.set_cons_succ])
          try rfl
        refine sched_take' (v := .int .i64 (i1 : Int)) (a' := ?_) rfl (by kernel_rfl) ?_ rfl ?_ ?_
        rotate_left 1
        · intro w hSw
          (try dsimp only at hSw)
          go_simp
          first | done | exact Hi1.out | (simp only [Hi1.out]; done)
        · (try simp only [Act.put, List.setIfInBounds_toArray, List.set_cons_zero, List.set_cons_succ])
          try rfl
        refine sched_take' (v := ?_) (a' := ?_) rfl (by kernel_rfl) ?_ rfl ?_ ?_
        rotate_left 2
        · intro w hSw
          (try dsimp only at hSw)
          go_simp
          try with_reducible rfl
        · (try simp only [Act.put, List.setIfInBounds_toArray, List.set_cons_zero, List.set_cons_succ])
          try rfl
        refine sched_take' (v := ?_) (a' := ?_) rfl (by kernel_rfl) ?_ rfl ?_ ?_
        rotate_left 2
        · intro w hSw
          (try dsimp only at hSw)
          go_simp
          try with_reducible rfl
        · (try simp only [Act.put, List.setIfInBounds_toArray, List.set_cons_zero, List.set_cons_succ])
          try rfl
        refine sched_take' (v := .int .i64 (b1 : Int)) (a' := ?_) rfl (by kernel_rfl) ?_ rfl ?_ ?_
        rotate_left 1
        · intro w hSw
          (try dsimp only at hSw)
          go_simp
          first | done | exact IntWalk.i64_in _ (by omega) | (rw [IntWalk.i64_in _ (by omega)]; done) | (simp; omega)
        · (try simp only [Act.put, List.setIfInBounds_toArray, List.set_cons_zero, List.set_cons_succ])
          try rfl
        refine sched_take' (v := .int .i64 ((b1 : Int) * 131)) (a' := ?_) rfl (by kernel_rfl) ?_ rfl ?_ ?_
        rotate_left 1
        · intro w hSw
          (try dsimp only at hSw)
          go_simp
          first | done | exact IntWalk.i64_in _ (by omega) | (rw [IntWalk.i64_in _ (by omega)]; done) | (simp; omega)
        · (try simp only [Act.put, List.setIfInBounds_toArray, List.set_cons_zero, List.set_cons_succ])
          try rfl
        refine sched_take' (v := ?_) (a' := ?_) rfl (by kernel_rfl) ?_ rfl ?_ ?_
        rotate_left 2
        · intro w hSw
          (try dsimp only at hSw)
          go_simp
          try with_reducible rfl
        · (try simp only [Act.put, List.setIfInBounds_toArray, List.set_cons_zero, List.set_cons_succ])
          try rfl
        refine sched_take' (v := ?_) (a' := ?_) rfl (by kernel_rfl) ?_ rfl ?_ ?_
        rotate_left 2
        · intro w hSw
          (try dsimp only at hSw)
          go_simp
          try with_reducible rfl
        · (try simp only [Act.put, List.setIfInBounds_toArray, List.set_cons_zero, List.set_cons_succ])
          try rfl
        refine sched_take' (v := ?_) (a' := ?_) rfl (by kernel_rfl) ?_ rfl ?_ ?_
        rotate_left 2
        · intro w hSw
          (try dsimp only at hSw)
          go_simp
          try with_reducible rfl
        · (try simp only [Act.put, List.setIfInBounds_toArray, List.set_cons_zero, List.set_cons_succ])
          try rfl
        refine sched_take' (v := ?_) (a' := ?_) rfl (by kernel_rfl) ?_ rfl ?_ ?_
        rotate_left 2
        · intro w hSw
          (try dsimp only at hSw)
          go_simp
          try with_reducible rfl
        · (try simp only [Act.put, List.setIfInBounds_toArray, List.set_cons_zero, List.set_cons_succ])
          try rfl
        refine sched_take' (v := ?_) (a' := ?_) rfl (by kernel_rfl) ?_ rfl ?_ ?_
        rotate_left 2
        · intro w hSw
          (try dsimp only at hSw)
          go_simp
          try with_reducible rfl
        · (try simp only [Act.put, List.setIfInBounds_toArray, List.set_cons_zero, List.set_cons_succ])
          try rfl
        refine sched_take' (v := .int .i64 ((p : Int) * 7)) (a' := ?_) rfl (by kernel_rfl) ?_ rfl ?_ ?_
        rotate_left 1
        · intro w hSw
          (try dsimp only at hSw)
          go_simp
          first | done | exact IntWalk.i64_in _ (by omega) | (rw [IntWalk.i64_in _ (by omega)]; done) | (simp; omega)
        · (try simp only [Act.put, List.setIfInBounds_toArray, List.set_cons_zero, List.set_cons_succ])
          try rfl
        refine sched_take' (v := .int .i64 ((p : Int) * 7 + 3)) (a' := ?_) rfl (by kernel_rfl) ?_ rfl ?_ ?_
        rotate_left 1
        · intro w hSw
          (try dsimp only at hSw)
          go_simp
          first | done | exact IntWalk.i64_in _ (by omega) | (rw [IntWalk.i64_in _ (by omega)]; done) | (simp; omega)
        · (try simp only [Act.put, List.setIfInBounds_toArray, List.set_cons_zero, List.set_cons_succ])
          try rfl
        refine sched_take' (v := ?_) (a' := ?_) rfl (by kernel_rfl) ?_ rfl ?_ ?_
        rotate_left 2
        · intro w hSw
          (try dsimp only at hSw)
          go_simp
          try with_reducible rfl
        · (try simp only [Act.put, List.setIfInBounds_toArray, List.set_cons_zero, List.set_cons_succ])
          try rfl
        refine sched_take' (v := ?_) (a' := ?_) rfl (by kernel_rfl) ?_ rfl ?_ ?_
        rotate_left 2
        · intro w hSw
          (try dsimp only at hSw)
          go_simp
          try with_reducible rfl
        · (try simp only [Act.put, List.setIfInBounds_toArray, List.set_cons_zero, List.set_cons_succ])
          try rfl
        refine sched_take' (v := ?_) (a' := ?_) rfl (by kernel_rfl) ?_ rfl ?_ ?_
        rotate_left 2
        · intro w hSw
          (try dsimp only at hSw)
          go_simp
          try with_reducible rfl
        · (try simp only [Act.put, List.setIfInBounds_toArray, List.set_cons_zero, List.set_cons_succ])
          try rfl
        refine sched_take' (v := ?_) (a' := ?_) rfl (by kernel_rfl) ?_ rfl ?_ ?_
        rotate_left 2
        · intro w hSw
          (try dsimp only at hSw)
          go_simp
          try with_reducible rfl
        · (try simp only [Act.put, List.setIfInBounds_toArray, List.set_cons_zero, List.set_cons_succ])
          try rfl
        refine sched_take' (v := ?_) (a' := ?_) rfl (by kernel_rfl) ?_ rfl ?_ ?_
        rotate_left 2
        · intro w hSw
          (try dsimp only at hSw)
          go_simp
          try with_reducible rfl
        · (try simp only [Act.put, List.setIfInBounds_toArray, List.set_cons_zero, List.set_cons_succ])
          try rfl
        refine sched_take' (v := .int .i64 (i2 : Int)) (a' := ?_) rfl (by kernel_rfl) ?_ rfl ?_ ?_
        rotate_left 1
        · intro w hSw
          (try dsimp only at hSw)
          go_simp
          first | done | exact Hi2.out | (simp only [Hi2.out]; done)
        · (try simp only [Act.put, List.setIfInBounds_toArray, List.set_cons_zero, List.set_cons_succ])
          try rfl
        refine sched_take' (v := ?_) (a' := ?_) rfl (by kernel_rfl) ?_ rfl ?_ ?_
        rotate_left 2
        · intro w hSw
          (try dsimp only at hSw)
          go_simp
          try with_reducible rfl
        · (try simp only [Act.put, List.setIfInBounds_toArray, List.set_cons_zero, List.set_cons_succ])
          try rfl
        refine sched_take' (v := ?_) (a' := ?_) rfl (by kernel_rfl) ?_ rfl ?_ ?_
        rotate_left 2
        · intro w hSw
          (try dsimp only at hSw)
          go_simp
          try with_reducible rfl
        · (try simp only [Act.put, List.setIfInBounds_toArray, List.set_cons_zero, List.set_cons_succ])
          try rfl
        refine sched_take' (v := .int .i64 (b2 : Int)) (a' := ?_) rfl (by kernel_rfl) ?_ rfl ?_ ?_
        rotate_left 1
        · intro w hSw
          (try dsimp only at hSw)
          go_simp
          first | done | exact IntWalk.i64_in _ (by omega) | (rw [IntWalk.i64_in _ (by omega)]; done) | (simp; omega)
        · (try simp only [Act.put, List.setIfInBounds_toArray, List.set_cons_zero, List.set_cons_succ])
          try rfl
        refine sched_take' (v := .int .i64 ((b2 : Int) * 1117)) (a' := ?_) rfl (by kernel_rfl) ?_ rfl ?_ ?_
        rotate_left 1
        · intro w hSw
          (try dsimp only at hSw)
          go_simp
          first | done | exact IntWalk.i64_in _ (by omega) | (rw [IntWalk.i64_in _ (by omega)]; done) | (simp; omega)
        · (try simp only [Act.put, List.setIfInBounds_toArray, List.set_cons_zero, List.set_cons_succ])
          try rfl
        refine sched_take' (v := .int .i64 ((b1 : Int) * 131 + (b2 : Int) * 1117)) (a' := ?_) rfl (by kernel_rfl) ?_ rfl ?_ ?_
        rotate_left 1
        · intro w hSw
          (try dsimp only at hSw)
          go_simp
          first | done | exact IntWalk.i64_in _ (by omega) | (rw [IntWalk.i64_in _ (by omega)]; done) | (simp; omega)
        · (try simp only [Act.put, List.setIfInBounds_toArray, List.set_cons_zero, List.set_cons_succ])
          try rfl
        refine sched_take' (v := ?_) (a' := ?_) rfl (by kernel_rfl) ?_ rfl ?_ ?_
        rotate_left 2
        · intro w hSw
          (try dsimp only at hSw)
          go_simp
          try with_reducible rfl
        · (try simp only [Act.put, List.setIfInBounds_toArray, List.set_cons_zero, List.set_cons_succ])
          try rfl
        refine sched_take' (v := .int .i64 ((p : Int) * 29)) (a' := ?_) rfl (by kernel_rfl) ?_ rfl ?_ ?_
        rotate_left 1
        · intro w hSw
          (try dsimp only at hSw)
          go_simp
          first | done | exact IntWalk.i64_in _ (by omega) | (rw [IntWalk.i64_in _ (by omega)]; done) | (simp; omega)
        · (try simp only [Act.put, List.setIfInBounds_toArray, List.set_cons_zero, List.set_cons_succ])
          try rfl
        refine sched_take' (v := .int .i64 ((b1 : Int) * 131 + (b2 : Int) * 1117 + (p : Int) * 29)) (a' := ?_) rfl (by kernel_rfl) ?_ rfl ?_ ?_
        rotate_left 1
        · intro w hSw
          (try dsimp only at hSw)
          go_simp
          first | done | exact IntWalk.i64_in _ (by omega) | (rw [IntWalk.i64_in _ (by omega)]; done) | (simp; omega)
        · (try simp only [Act.put, List.setIfInBounds_toArray, List.set_cons_zero, List.set_cons_succ])
          try rfl
        refine sched_take' (v := ?_) (a' := ?_) rfl (by kernel_rfl) ?_ rfl ?_ ?_
        rotate_left 2
        · intro w hSw
          (try dsimp only at hSw)
          go_simp
          try with_reducible rfl
        · (try simp only [Act.put, List.setIfInBounds_toArray, List.set_cons_zero, List.set_cons_succ])
          try rfl
        refine sched_take' (v := ?_) (a' := ?_) rfl (by kernel_rfl) ?_ rfl ?_ ?_
        rotate_left 2
        · intro w hSw
          (try dsimp only at hSw)
          go_simp
          try with_reducible rfl
        · (try simp only [Act.put, List.setIfInBounds_toArray, List.set_cons_zero, List.set_cons_succ])
          try rfl
        refine sched_take' (v := ?_) (a' := ?_) rfl (by kernel_rfl) ?_ rfl ?_ ?_
        rotate_left 2
        · intro w hSw
          (try dsimp only at hSw)
          go_simp
          try with_reducible rfl
        · (try simp only [Act.put, List.setIfInBounds_toArray, List.set_cons_zero, List.set_cons_succ])
          try rfl
        refine sched_take' (v := ?_) (a' := ?_) rfl (by kernel_rfl) ?_ rfl ?_ ?_
        rotate_left 2
        · intro w hSw
          (try dsimp only at hSw)
          go_simp
          try with_reducible rfl
        · (try simp only [Act.put, List.setIfInBounds_toArray, List.set_cons_zero, List.set_cons_succ])
          try rfl
        refine sched_take' (v := ?_) (a' := ?_) rfl (by kernel_rfl) ?_ rfl ?_ ?_
        rotate_left 2
        · intro w hSw
          (try dsimp only at hSw)
          go_simp
          try with_reducible rfl
        · (try simp only [Act.put, List.setIfInBounds_toArray, List.set_cons_zero, List.set_cons_succ])
          try rfl
        refine sched_take' (v := ?_) (a' := ?_) rfl (by kernel_rfl) ?_ rfl ?_ ?_
        rotate_left 2
        · intro w hSw
          (try dsimp only at hSw)
          go_simp
          try with_reducible rfl
        · (try simp only [Act.put, List.setIfInBounds_toArray, List.set_cons_zero, List.set_cons_succ])
          try rfl
        refine sched_take' (v := .int .i64 (q : Int)) (a' := ?_) rfl (by kernel_rfl) ?_ rfl ?_ ?_
        rotate_left 1
        · intro w hSw
          (try dsimp only at hSw)
          go_simp
          first | done | exact Hq.out | (simp only [Hq.out]; done)
        · (try simp only [Act.put, List.setIfInBounds_toArray, List.set_cons_zero, List.set_cons_succ])
          try rfl
        refine sched_take' (v := .int .i64 ((q : Int) * 53)) (a' := ?_) rfl (by kernel_rfl) ?_ rfl ?_ ?_
        rotate_left 1
        · intro w hSw
          (try dsimp only at hSw)
          go_simp
          first | done | exact IntWalk.i64_in _ (by omega) | (rw [IntWalk.i64_in _ (by omega)]; done) | (simp; omega)
        · (try simp only [Act.put, List.setIfInBounds_toArray, List.set_cons_zero, List.set_cons_succ])
          try rfl
        refine sched_take' (v := .int .i64 ((b1 : Int) * 131 + (b2 : Int) * 1117 + (p : Int) * 29 + (q : Int) * 53)) (a' := ?_) rfl (by kernel_rfl) ?_ rfl ?_ ?_
        rotate_left 1
        · intro w hSw
          (try dsimp only at hSw)
          go_simp
          first | done | exact IntWalk.i64_in _ (by omega) | (rw [IntWalk.i64_in _ (by omega)]; done) | (simp; omega)
        · (try simp only [Act.put, List.setIfInBounds_toArray, List.set_cons_zero, List.set_cons_succ])
          try rfl
        refine sched_take' (v := ?_) (a' := ?_) rfl (by kernel_rfl) ?_ rfl ?_ ?_
        rotate_left 2
        · intro w hSw
          (try dsimp only at hSw)
          go_simp
          try with_reducible rfl
        · (try simp only [Act.put, List.setIfInBounds_toArray, List.set_cons_zero, List.set_cons_succ])
          try rfl
        refine sched_done (hQ1.out _ _ ?_)
        clear hcb1 hcb2
        obtain ⟨X, hX⟩ : ∃ X : Int, X = (b1 : Int) * 131 + (b2 : Int) * 1117 + (p : Int) * 29 + (q : Int) * 53 := ⟨_, rfl⟩
        have hX0 : 0 ≤ X := by omega
        have hX1 : X ≤ 1000000000000000 := by omega
        rw [← hX]
        clear hX y1 y2 y3 y4 y5 y6 z1 z2 z3 z4 hb1 hb2 hq0 hj1 hj2
        go_wp2_with fail
        go_ret
        have hb := xor_nn X (X / 64) hX0 hX1 (by omega) (by omega)
        exact ⟨HP.out _ (Int.tmod_nonneg _ hb) (Int.tmod_lt_of_pos _ (by omega)), Hnx.out 1⟩

end Go.Proofs.YtgnmlijfenjehaaDoor
