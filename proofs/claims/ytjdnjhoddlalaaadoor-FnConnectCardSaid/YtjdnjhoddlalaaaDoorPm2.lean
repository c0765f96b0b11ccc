/-
  Laws of the functions that the claim reaches, one after the other (packed by a program of the prover's: FmDraw, FmDraw2, Draw5, TurnS, Fmt, Draw6). Conditions: texts below the reach.
-/
import Derived.Test.YtjdnjhoddlalaaaDoorPm1
import Derived.Test.YtjdnjhoddlalaaaDoorPm0
set_option linter.unusedSimpArgs false
set_option linter.unusedVariables false

namespace Go.Proofs.YtjdnjhoddlalaaaDoor
open Go.RowKit
open Pl
set_option linter.unusedSimpArgs false
set_option linter.unusedVariables false

/-- a drawn text -/
def FmD (rb : Nat) (A : Option Addr) (n cap p B D : Nat) (e : Ending) (w' : World) : Prop := ∃ (t : ByteArray) (p' : Nat), e = .returned (.string t) ∧ 0 < t.size ∧ t.size ≤ B ∧ p' ≤ p + D ∧ Rd w' rb A n cap p'
theorem FmD.mono {rb n cap p B D p2 B2 D2 : Nat} {A : Option Addr} {e : Ending} {w' : World} (h : FmD rb A n cap p B D e w') (hB : B ≤ B2) (hD : p + D ≤ p2 + D2) : FmD rb A n cap p2 B2 D2 e w' := by
  obtain ⟨t, p', h1, h2, h3, h4, h5⟩ := h
  exact ⟨t, p', h1, h2, by omega, by omega, h5⟩

set_option maxHeartbeats 8000000 in
set_option maxRecDepth 100000 in
theorem l2Draw_calls (rb : Nat) (A : Option Addr) (n cap : Nat) (vs : ByteArray) (hv0 : 0 < vs.size) (hv4 : vs.size ≤ 4) (c : Bool) : ∀ (d : Nat), d ≤ 4 → ∀ (p : Nat) (w : World), Rd w rb A n cap p → p + (12 * 2 ^ d - 6) ≤ 500000000000 →
    Calls Tryd.prog 101 #[.pointer (some ⟨rb, 0, none⟩), .int .i64 (d : Nat), .string vs, .bool c] w fun e w' => FmD rb A n cap p (4 * 2 ^ d - 1) (12 * 2 ^ d - 6) e w' ∧ w.grownBy w' (some rb) := by
  intro d
  induction d with
  | zero =>
    intro _ p w h hp
    have hvi : (vs.size : Int) ≤ 4 := by omega
    have Hpk := Lib.hid (show ∀ (k : Int) (q : Nat) (V : World), k ≤ 1000 → q ≤ 1000000000000 → Rd V rb A n cap q → Calls Tryd.prog 46 #[.pointer (some ⟨rb, 0, none⟩), .int .i64 k] V fun e w' => PickP k e ∧ Rd w' rb A n cap (q + 1) ∧ V.grownBy w' (some rb) from fun k q V hk hq hr => pick_calls rb A n cap q k V hr (by omega) (by omega))
    have Hof1 := Lib.hid (show ∀ (g q : Nat) (W : World), SCells W g [bs [116], bs [102]] → g ≠ rb → q ≤ 1000000000000 → Rd W rb A n cap q → Calls Tryd.prog 73 #[.pointer (some ⟨rb, 0, none⟩), .slice (some ⟨g, 0, none⟩) 2 2] W fun e w' => (∃ t : ByteArray, e = .returned (.string t) ∧ 1 ≤ t.size ∧ t.size ≤ 1) ∧ Rd w' rb A n cap (q + 1) ∧ W.grownBy w' (some rb) from
      fun g q W h1 h2 h4 h3 => (of_calls rb A n cap q g 2 [bs [116], bs [102]] W h3 (by omega) (by simp) (by simp) h1 h2).mono fun e w' ⟨⟨m, h4, h5⟩, h6⟩ => ⟨⟨m, h4, by
        simp only [List.mem_cons, List.not_mem_nil, or_false] at h5
        rcases h5 with rfl | rfl <;> decide⟩, h6⟩)
    have D0 := Lib.hid (Dw.new h)
    have hrl := h.box.lt
    clear h
    go_enter Tryd.func101, Tryd.ntmps101
    go_wp2_with fail
    refine (Hpk.out 12 (p) _ (by omega) (by omega) D0.out.rd).mono ?_
    rintro e w1 ⟨⟨k, rfl, k0, k1, _⟩, hr, hg⟩
    have D1 := Lib.hid (D0.out.step hr hg)
    clear hr hg
    have k12 := k1 (by omega)
    clear k1
    go_wp2_with fail
    refine (Hpk.out (vs.size : Int) (p + 1) _ (by omega) (by omega) D1.out.rd).mono ?_
    rintro e w2 ⟨⟨v, rfl, v0, v1, _⟩, hr, hg⟩
    have D2 := Lib.hid (D1.out.step hr hg)
    clear hr hg
    have vlt := v1 (by omega)
    clear v1
    go_wp2_with fail
    refine (Hpk.out (vs.size : Int) (p + 1 + 1) _ (by omega) (by omega) D2.out.rd).mono ?_
    rintro e w3 ⟨⟨u, rfl, u0, u1, _⟩, hr, hg⟩
    have D3 := Lib.hid (D2.out.step hr hg)
    clear hr hg
    have ult := u1 (by omega)
    clear u1
    obtain ⟨vn, rfl⟩ : ∃ x : Nat, v = (x : Nat) := ⟨v.toNat, by omega⟩
    obtain ⟨un, rfl⟩ : ∃ x : Nat, u = (x : Nat) := ⟨u.toNat, by omega⟩
    have hwv : IntKind.i64.wrap ((vn : Int) + 1) = (vn : Int) + 1 := IntWalk.i64_in _ (by omega)
    have hwu : IntKind.i64.wrap ((un : Int) + 1) = (un : Int) + 1 := IntWalk.i64_in _ (by omega)
    have hev : (vs.extract vn (vn + 1)).size = 1 := by rw [ByteArray.size_extract]; omega
    have heu : (vs.extract un (un + 1)).size = 1 := by rw [ByteArray.size_extract]; omega
    go_wp2_with fail
    refine (Hpk.out 8 (p + 1 + 1 + 1) _ (by omega) (by omega) D3.out.rd).mono ?_
    rintro e w6 ⟨⟨m, rfl, m0, m1, _⟩, hr, hg⟩
    have D3L := Lib.hid (D3.out.step hr hg)
    clear hr hg
    have m8 := m1 (by omega)
    clear m1
    by_cases e0 : m = 0
    · subst e0
      have D3a := Lib.hid (D3L.out.alloc (.cells #[.string ⟨#[116]⟩, .string ⟨#[102]⟩] 9))
      have ND3a := Lib.hid (scells_new w6 [bs [116], bs [102]] 9)
      have hszw7 := D3L.out.rd.box.lt
      go_wp2_with fail
      refine (Hof1.out _ (p + 1 + 1 + 1 + 1) _ (by exact ND3a.out) (by omega) (by omega) D3a.out.rd).mono ?_
      rintro e w7 ⟨⟨t, rfl, t0, t1⟩, hr, hg⟩
      have D3b := Lib.hid (D3a.out.step hr hg)
      clear hr hg
      go_wp2_with fail
      go_ret
      exact ⟨⟨_, p + 1 + 1 + 1 + 1 + 1, rfl, by
          have e1 : ∀ x : UInt8, (ByteArray.mk #[x]).size = 1 := fun _ => rfl
          first | omega | (simp only [ByteArray.size_append, ByteArray.size_extract, e1]; omega),
        by
          have e1 : ∀ x : UInt8, (ByteArray.mk #[x]).size = 1 := fun _ => rfl
          first | omega | (simp only [ByteArray.size_append, ByteArray.size_extract, e1]; omega), by omega, (D3b.out).rd⟩, (D3b.out).gr⟩
    · have f0 : (m == 0) = false := by rw [beq_eq_false_iff_ne]; exact e0
      by_cases e1 : m = 1 ∨ m = 2
      · rcases e1 with e1 | e1
        · subst e1
          go_wp2_with fail
          go_ret
          exact ⟨⟨_, p + 1 + 1 + 1 + 1, rfl, by
              have e1 : ∀ x : UInt8, (ByteArray.mk #[x]).size = 1 := fun _ => rfl
              first | omega | (simp only [ByteArray.size_append, ByteArray.size_extract, e1]; omega),
            by
              have e1 : ∀ x : UInt8, (ByteArray.mk #[x]).size = 1 := fun _ => rfl
              first | omega | (simp only [ByteArray.size_append, ByteArray.size_extract, e1]; omega), by omega, (D3L.out).rd⟩, (D3L.out).gr⟩
        · subst e1
          go_wp2_with fail
          go_ret
          exact ⟨⟨_, p + 1 + 1 + 1 + 1, rfl, by
              have e1 : ∀ x : UInt8, (ByteArray.mk #[x]).size = 1 := fun _ => rfl
              first | omega | (simp only [ByteArray.size_append, ByteArray.size_extract, e1]; omega),
            by
              have e1 : ∀ x : UInt8, (ByteArray.mk #[x]).size = 1 := fun _ => rfl
              first | omega | (simp only [ByteArray.size_append, ByteArray.size_extract, e1]; omega), by omega, (D3L.out).rd⟩, (D3L.out).gr⟩
      · have f1 : (m == 1) = false := by rw [beq_eq_false_iff_ne]; omega
        have f2 : (m == 2) = false := by rw [beq_eq_false_iff_ne]; omega
        by_cases e3 : m = 3
        · subst e3
          go_upto_region 12 with (fail)
          refine region_sched [(0, true), (1, true), (2, true), (3, true), (4, true), (5, true), (6, true), (7, true), (8, true), (9, true), (10, true), (11, true), (12, true)] (fun _ : World => True) (by kernel_rfl) (by kernel_rfl) (by kernel_rfl) (by kernel_rfl) (fun _ _ _ _ h => h) ?_ (fun Q1 hQ1 => ?_)
          · exact True.intro
          try simp only [List.append]
          refine sched_take' (v := ?_) (a' := ?_) rfl (by kernel_rfl) ?_ rfl ?_ ?_
          rotate_left 2
          · intro w hSw
            (try dsimp only at hSw)
            go_simp
            try with_reducible rfl
          · (try simp only [Act.put, List.setIfInBounds_toArray, List.set_cons_zero, List.set_cons_succ])
            try rfl
          refine sched_take' (v := ?_) (a' := ?_) rfl (by kernel_rfl) ?_ rfl ?_ ?_
          rotate_left 2
          · intro w hSw
            (try dsimp only at hSw)
            go_simp
            try with_reducible rfl
          · (try simp only [Act.put, List.setIfInBounds_toArray, List.set_cons_zero, List.set_cons_succ])
            try rfl
          refine sched_take' (v := ?_) (a' := ?_) rfl (by kernel_rfl) ?_ rfl ?_ ?_
          rotate_left 2
          · intro w hSw
            (try dsimp only at hSw)
            go_simp
            try with_reducible rfl
          · (try simp only [Act.put, List.setIfInBounds_toArray, List.set_cons_zero, List.set_cons_succ])
            try rfl
          refine sched_take' (v := .int .i64 ((vn : Int) + 1)) (a' := ?_) rfl (by kernel_rfl) ?_ rfl ?_ ?_
          rotate_left 1
          · intro w hSw
            (try dsimp only at hSw)
            go_simp
            first | done | (simp [hwv]; done) | rw [hwv]
          · (try simp only [Act.put, List.setIfInBounds_toArray, List.set_cons_zero, List.set_cons_succ])
            try rfl
          refine sched_take' (v := .string (vs.extract vn (vn + 1))) (a' := ?_) rfl (by kernel_rfl) ?_ rfl ?_ ?_
          rotate_left 1
          · intro w hSw
            (try dsimp only at hSw)
            go_simp
            first | done | (rw [if_pos ⟨by omega, by omega⟩, if_pos (by omega)] <;> first | rfl | (congr 3; omega) | (congr 4; omega))
          · (try simp only [Act.put, List.setIfInBounds_toArray, List.set_cons_zero, List.set_cons_succ])
            try rfl
          refine sched_take' (v := ?_) (a' := ?_) rfl (by kernel_rfl) ?_ rfl ?_ ?_
          rotate_left 2
          · intro w hSw
            (try dsimp only at hSw)
            go_simp
            try with_reducible rfl
          · (try simp only [Act.put, List.setIfInBounds_toArray, List.set_cons_zero, List.set_cons_succ])
            try rfl
          refine sched_take' (v := ?_) (a' := ?_) rfl (by kernel_rfl) ?_ rfl ?_ ?_
          rotate_left 2
          · intro w hSw
            (try dsimp only at hSw)
            go_simp
            try with_reducible rfl
          · (try simp only [Act.put, List.setIfInBounds_toArray, List.set_cons_zero, List.set_cons_succ])
            try rfl
          refine sched_take' (v := ?_) (a' := ?_) rfl (by kernel_rfl) ?_ rfl ?_ ?_
          rotate_left 2
          · intro w hSw
            (try dsimp only at hSw)
            go_simp
            try with_reducible rfl
          · (try simp only [Act.put, List.setIfInBounds_toArray, List.set_cons_zero, List.set_cons_succ])
            try rfl
          refine sched_take' (v := ?_) (a' := ?_) rfl (by kernel_rfl) ?_ rfl ?_ ?_
          rotate_left 2
          · intro w hSw
            (try dsimp only at hSw)
            go_simp
            try with_reducible rfl
          · (try simp only [Act.put, List.setIfInBounds_toArray, List.set_cons_zero, List.set_cons_succ])
            try rfl
          refine sched_take' (v := .int .i64 ((un : Int) + 1)) (a' := ?_) rfl (by kernel_rfl) ?_ rfl ?_ ?_
          rotate_left 1
          · intro w hSw
            (try dsimp only at hSw)
            go_simp
            first | done | (simp [hwu]; done) | rw [hwu]
          · (try simp only [Act.put, List.setIfInBounds_toArray, List.set_cons_zero, List.set_cons_succ])
            try rfl
          refine sched_take' (v := .string (vs.extract un (un + 1))) (a' := ?_) rfl (by kernel_rfl) ?_ rfl ?_ ?_
          rotate_left 1
          · intro w hSw
            (try dsimp only at hSw)
            go_simp
            first | done | (rw [if_pos ⟨by omega, by omega⟩, if_pos (by omega)] <;> first | rfl | (congr 3; omega) | (congr 4; omega))
          · (try simp only [Act.put, List.setIfInBounds_toArray, List.set_cons_zero, List.set_cons_succ])
            try rfl
          refine sched_take' (v := ?_) (a' := ?_) rfl (by kernel_rfl) ?_ rfl ?_ ?_
          rotate_left 2
          · intro w hSw
            (try dsimp only at hSw)
            go_simp
            try with_reducible rfl
          · (try simp only [Act.put, List.setIfInBounds_toArray, List.set_cons_zero, List.set_cons_succ])
            try rfl
          refine sched_take' (v := ?_) (a' := ?_) rfl (by kernel_rfl) ?_ rfl ?_ ?_
          rotate_left 2
          · intro w hSw
            (try dsimp only at hSw)
            go_simp
            try with_reducible rfl
          · (try simp only [Act.put, List.setIfInBounds_toArray, List.set_cons_zero, List.set_cons_succ])
            try rfl
          refine sched_done (hQ1.out _ _ ?_)
          go_wp2_with fail
          go_ret
          exact ⟨⟨_, p + 1 + 1 + 1 + 1, rfl, by
              have e1 : ∀ x : UInt8, (ByteArray.mk #[x]).size = 1 := fun _ => rfl
              first | omega | (simp only [ByteArray.size_append, ByteArray.size_extract, e1]; omega),
            by
              have e1 : ∀ x : UInt8, (ByteArray.mk #[x]).size = 1 := fun _ => rfl
              first | omega | (simp only [ByteArray.size_append, ByteArray.size_extract, e1]; omega), by omega, (D3L.out.drew).rd⟩, (D3L.out.drew).gr⟩
        · have f3 : (m == 3) = false := by rw [beq_eq_false_iff_ne]; exact e3
          go_upto_region 13 with (fail)
          refine region_sched [(0, true), (1, true), (2, true), (3, true), (4, true), (5, true), (6, true), (7, true), (8, true), (9, true), (10, true), (11, true), (12, true)] (fun _ : World => True) (by kernel_rfl) (by kernel_rfl) (by kernel_rfl) (by kernel_rfl) (fun _ _ _ _ h => h) ?_ (fun Q1 hQ1 => ?_)
          · exact True.intro
          try simp only [List.append]
          refine sched_take' (v := ?_) (a' := ?_) rfl (by kernel_rfl) ?_ rfl ?_ ?_
          rotate_left 2
          · intro w hSw
            (try dsimp only at hSw)
            go_simp
            try with_reducible rfl
          · (try simp only [Act.put, List.setIfInBounds_toArray, List.set_cons_zero, List.set_cons_succ])
            try rfl
          refine sched_take' (v := ?_) (a' := ?_) rfl (by kernel_rfl) ?_ rfl ?_ ?_
          rotate_left 2
          · intro w hSw
            (try dsimp only at hSw)
            go_simp
            try with_reducible rfl
          · (try simp only [Act.put, List.setIfInBounds_toArray, List.set_cons_zero, List.set_cons_succ])
            try rfl
          refine sched_take' (v := ?_) (a' := ?_) rfl (by kernel_rfl) ?_ rfl ?_ ?_
          rotate_left 2
          · intro w hSw
            (try dsimp only at hSw)
            go_simp
            try with_reducible rfl
          · (try simp only [Act.put, List.setIfInBounds_toArray, List.set_cons_zero, List.set_cons_succ])
            try rfl
          refine sched_take' (v := .int .i64 ((vn : Int) + 1)) (a' := ?_) rfl (by kernel_rfl) ?_ rfl ?_ ?_
          rotate_left 1
          · intro w hSw
            (try dsimp only at hSw)
            go_simp
            first | done | (simp [hwv]; done) | rw [hwv]
          · (try simp only [Act.put, List.setIfInBounds_toArray, List.set_cons_zero, List.set_cons_succ])
            try rfl
          refine sched_take' (v := .string (vs.extract vn (vn + 1))) (a' := ?_) rfl (by kernel_rfl) ?_ rfl ?_ ?_
          rotate_left 1
          · intro w hSw
            (try dsimp only at hSw)
            go_simp
            first | done | (rw [if_pos ⟨by omega, by omega⟩, if_pos (by omega)] <;> first | rfl | (congr 3; omega) | (congr 4; omega))
          · (try simp only [Act.put, List.setIfInBounds_toArray, List.set_cons_zero, List.set_cons_succ])
            try rfl
          refine sched_take' (v := ?_) (a' := ?_) rfl (by kernel_rfl) ?_ rfl ?_ ?_
          rotate_left 2
          · intro w hSw
            (try dsimp only at hSw)
            go_simp
            try with_reducible rfl
          · (try simp only [Act.put, List.setIfInBounds_toArray, List.set_cons_zero, List.set_cons_succ])
            try rfl
          refine sched_take' (v := ?_) (a' := ?_) rfl (by kernel_rfl) ?_ rfl ?_ ?_
          rotate_left 2
          · intro w hSw
            (try dsimp only at hSw)
            go_simp
            try with_reducible rfl
          · (try simp only [Act.put, List.setIfInBounds_toArray, List.set_cons_zero, List.set_cons_succ])
            try rfl
          refine sched_take' (v := ?_) (a' := ?_) rfl (by kernel_rfl) ?_ rfl ?_ ?_
          rotate_left 2
          · intro w hSw
            (try dsimp only at hSw)
            go_simp
            try with_reducible rfl
          · (try simp only [Act.put, List.setIfInBounds_toArray, List.set_cons_zero, List.set_cons_succ])
            try rfl
          refine sched_take' (v := ?_) (a' := ?_) rfl (by kernel_rfl) ?_ rfl ?_ ?_
          rotate_left 2
          · intro w hSw
            (try dsimp only at hSw)
            go_simp
            try with_reducible rfl
          · (try simp only [Act.put, List.setIfInBounds_toArray, List.set_cons_zero, List.set_cons_succ])
            try rfl
          refine sched_take' (v := .int .i64 ((un : Int) + 1)) (a' := ?_) rfl (by kernel_rfl) ?_ rfl ?_ ?_
          rotate_left 1
          · intro w hSw
            (try dsimp only at hSw)
            go_simp
            first | done | (simp [hwu]; done) | rw [hwu]
          · (try simp only [Act.put, List.setIfInBounds_toArray, List.set_cons_zero, List.set_cons_succ])
            try rfl
          refine sched_take' (v := .string (vs.extract un (un + 1))) (a' := ?_) rfl (by kernel_rfl) ?_ rfl ?_ ?_
          rotate_left 1
          · intro w hSw
            (try dsimp only at hSw)
            go_simp
            first | done | (rw [if_pos ⟨by omega, by omega⟩, if_pos (by omega)] <;> first | rfl | (congr 3; omega) | (congr 4; omega))
          · (try simp only [Act.put, List.setIfInBounds_toArray, List.set_cons_zero, List.set_cons_succ])
            try rfl
          refine sched_take' (v := ?_) (a' := ?_) rfl (by kernel_rfl) ?_ rfl ?_ ?_
          rotate_left 2
          · intro w hSw
            (try dsimp only at hSw)
            go_simp
            try with_reducible rfl
          · (try simp only [Act.put, List.setIfInBounds_toArray, List.set_cons_zero, List.set_cons_succ])
            try rfl
          refine sched_take' (v := ?_) (a' := ?_) rfl (by kernel_rfl) ?_ rfl ?_ ?_
          rotate_left 2
          · intro w hSw
            (try dsimp only at hSw)
            go_simp
            try with_reducible rfl
          · (try simp only [Act.put, List.setIfInBounds_toArray, List.set_cons_zero, List.set_cons_succ])
            try rfl
          refine sched_done (hQ1.out _ _ ?_)
          go_wp2_with fail
          go_ret
          exact ⟨⟨_, p + 1 + 1 + 1 + 1, rfl, by
              have e1 : ∀ x : UInt8, (ByteArray.mk #[x]).size = 1 := fun _ => rfl
              first | omega | (simp only [ByteArray.size_append, ByteArray.size_extract, e1]; omega),
            by
              have e1 : ∀ x : UInt8, (ByteArray.mk #[x]).size = 1 := fun _ => rfl
              first | omega | (simp only [ByteArray.size_append, ByteArray.size_extract, e1]; omega), by omega, (D3L.out.drew).rd⟩, (D3L.out.drew).gr⟩
  | succ d ih =>
    intro hd p w h hp
    have hvi : (vs.size : Int) ≤ 4 := by omega
    have ih2 := ih (by omega)
    have hpow : 2 ^ (d + 1) = 2 * 2 ^ d := by rw [Nat.pow_succ, Nat.mul_comm]
    have hpw16 : 2 ^ d ≤ 8 := by
      have : d = 0 ∨ d = 1 ∨ d = 2 ∨ d = 3 := by omega
      rcases this with rfl | rfl | rfl | rfl <;> decide
    have hpw1 : 1 ≤ 2 ^ d := Nat.one_le_two_pow
    rw [hpow] at hp ⊢
    generalize 2 ^ d = M at *
    have hdi : ((d + 1 : Nat) : Int) - 1 = (d : Nat) := by omega
    have hdw : IntKind.i64.wrap ((d : Nat) : Int) = ((d : Nat) : Int) := IntWalk.i64_in _ (by omega)
    have IH := Lib.hid ih2
    clear ih ih2 hpow
    have Hpk := Lib.hid (show ∀ (k : Int) (q : Nat) (V : World), k ≤ 1000 → q ≤ 1000000000000 → Rd V rb A n cap q → Calls Tryd.prog 46 #[.pointer (some ⟨rb, 0, none⟩), .int .i64 k] V fun e w' => PickP k e ∧ Rd w' rb A n cap (q + 1) ∧ V.grownBy w' (some rb) from fun k q V hk hq hr => pick_calls rb A n cap q k V hr (by omega) (by omega))
    have Hof1 := Lib.hid (show ∀ (g q : Nat) (W : World), SCells W g [bs [116], bs [102]] → g ≠ rb → q ≤ 1000000000000 → Rd W rb A n cap q → Calls Tryd.prog 73 #[.pointer (some ⟨rb, 0, none⟩), .slice (some ⟨g, 0, none⟩) 2 2] W fun e w' => (∃ t : ByteArray, e = .returned (.string t) ∧ 1 ≤ t.size ∧ t.size ≤ 1) ∧ Rd w' rb A n cap (q + 1) ∧ W.grownBy w' (some rb) from
      fun g q W h1 h2 h4 h3 => (of_calls rb A n cap q g 2 [bs [116], bs [102]] W h3 (by omega) (by simp) (by simp) h1 h2).mono fun e w' ⟨⟨m, h4, h5⟩, h6⟩ => ⟨⟨m, h4, by
        simp only [List.mem_cons, List.not_mem_nil, or_false] at h5
        rcases h5 with rfl | rfl <;> decide⟩, h6⟩)
    have Hof2 := Lib.hid (show ∀ (g q : Nat) (W : World), SCells W g [bs [38], bs [124]] → g ≠ rb → q ≤ 1000000000000 → Rd W rb A n cap q → Calls Tryd.prog 73 #[.pointer (some ⟨rb, 0, none⟩), .slice (some ⟨g, 0, none⟩) 2 2] W fun e w' => (∃ t : ByteArray, e = .returned (.string t) ∧ 1 ≤ t.size ∧ t.size ≤ 1) ∧ Rd w' rb A n cap (q + 1) ∧ W.grownBy w' (some rb) from
      fun g q W h1 h2 h4 h3 => (of_calls rb A n cap q g 2 [bs [38], bs [124]] W h3 (by omega) (by simp) (by simp) h1 h2).mono fun e w' ⟨⟨m, h4, h5⟩, h6⟩ => ⟨⟨m, h4, by
        simp only [List.mem_cons, List.not_mem_nil, or_false] at h5
        rcases h5 with rfl | rfl <;> decide⟩, h6⟩)
    have Hof3 := Lib.hid (show ∀ (g q : Nat) (W : World), SCells W g [bs [65], bs [83], bs [83]] → g ≠ rb → q ≤ 1000000000000 → Rd W rb A n cap q → Calls Tryd.prog 73 #[.pointer (some ⟨rb, 0, none⟩), .slice (some ⟨g, 0, none⟩) 3 3] W fun e w' => (∃ t : ByteArray, e = .returned (.string t) ∧ 1 ≤ t.size ∧ t.size ≤ 1) ∧ Rd w' rb A n cap (q + 1) ∧ W.grownBy w' (some rb) from
      fun g q W h1 h2 h4 h3 => (of_calls rb A n cap q g 3 [bs [65], bs [83], bs [83]] W h3 (by omega) (by simp) (by simp) h1 h2).mono fun e w' ⟨⟨m, h4, h5⟩, h6⟩ => ⟨⟨m, h4, by
        simp only [List.mem_cons, List.not_mem_nil, or_false] at h5
        rcases h5 with rfl | rfl | rfl <;> decide⟩, h6⟩)
    have Hof4 := Lib.hid (show ∀ (g q : Nat) (W : World), SCells W g [bs [50], bs [51], bs [50], bs [52]] → g ≠ rb → q ≤ 1000000000000 → Rd W rb A n cap q → Calls Tryd.prog 73 #[.pointer (some ⟨rb, 0, none⟩), .slice (some ⟨g, 0, none⟩) 4 4] W fun e w' => (∃ t : ByteArray, e = .returned (.string t) ∧ 1 ≤ t.size ∧ t.size ≤ 1) ∧ Rd w' rb A n cap (q + 1) ∧ W.grownBy w' (some rb) from
      fun g q W h1 h2 h4 h3 => (of_calls rb A n cap q g 4 [bs [50], bs [51], bs [50], bs [52]] W h3 (by omega) (by simp) (by simp) h1 h2).mono fun e w' ⟨⟨m, h4, h5⟩, h6⟩ => ⟨⟨m, h4, by
        simp only [List.mem_cons, List.not_mem_nil, or_false] at h5
        rcases h5 with rfl | rfl | rfl | rfl <;> decide⟩, h6⟩)
    have D0 := Lib.hid (Dw.new h)
    have hrl := h.box.lt
    have hdn : ¬ ((d + 1 : Nat) : Int) ≤ 0 := by omega
    clear h
    obtain ⟨dd, hdd⟩ : ∃ dd : Int, dd = ((d + 1 : Nat) : Int) := ⟨_, rfl⟩
    rw [← hdd] at hdi hdn ⊢
    have hd0 : 1 ≤ dd := by omega
    have hd4 : dd ≤ 4 := by omega
    clear hdd
    go_enter Tryd.func101, Tryd.ntmps101
    go_wp2_with fail
    refine (Hpk.out 12 (p) _ (by omega) (by omega) D0.out.rd).mono ?_
    rintro e w1 ⟨⟨k, rfl, k0, k1, _⟩, hr, hg⟩
    have D1 := Lib.hid (D0.out.step hr hg)
    clear hr hg
    have k12 := k1 (by omega)
    clear k1
    go_wp2_with fail
    refine (Hpk.out (vs.size : Int) (p + 1) _ (by omega) (by omega) D1.out.rd).mono ?_
    rintro e w2 ⟨⟨v, rfl, v0, v1, _⟩, hr, hg⟩
    have D2 := Lib.hid (D1.out.step hr hg)
    clear hr hg
    have vlt := v1 (by omega)
    clear v1
    go_wp2_with fail
    refine (Hpk.out (vs.size : Int) (p + 1 + 1) _ (by omega) (by omega) D2.out.rd).mono ?_
    rintro e w3 ⟨⟨u, rfl, u0, u1, _⟩, hr, hg⟩
    have D3 := Lib.hid (D2.out.step hr hg)
    clear hr hg
    have ult := u1 (by omega)
    clear u1
    obtain ⟨vn, rfl⟩ : ∃ x : Nat, v = (x : Nat) := ⟨v.toNat, by omega⟩
    obtain ⟨un, rfl⟩ : ∃ x : Nat, u = (x : Nat) := ⟨u.toNat, by omega⟩
    have hwv : IntKind.i64.wrap ((vn : Int) + 1) = (vn : Int) + 1 := IntWalk.i64_in _ (by omega)
    have hwu : IntKind.i64.wrap ((un : Int) + 1) = (un : Int) + 1 := IntWalk.i64_in _ (by omega)
    have hev : (vs.extract vn (vn + 1)).size = 1 := by rw [ByteArray.size_extract]; omega
    have heu : (vs.extract un (un + 1)).size = 1 := by rw [ByteArray.size_extract]; omega
    by_cases hk2 : k < 2
    · 
      go_wp2_with fail
      refine (Hpk.out 8 (p + 1 + 1 + 1) _ (by omega) (by omega) D3.out.rd).mono ?_
      rintro e w6 ⟨⟨m, rfl, m0, m1, _⟩, hr, hg⟩
      have D3L := Lib.hid (D3.out.step hr hg)
      clear hr hg
      have m8 := m1 (by omega)
      clear m1
      by_cases e0 : m = 0
      · subst e0
        have D3a := Lib.hid (D3L.out.alloc (.cells #[.string ⟨#[116]⟩, .string ⟨#[102]⟩] 9))
        have ND3a := Lib.hid (scells_new w6 [bs [116], bs [102]] 9)
        have hszw7 := D3L.out.rd.box.lt
        go_wp2_with fail
        refine (Hof1.out _ (p + 1 + 1 + 1 + 1) _ (by exact ND3a.out) (by omega) (by omega) D3a.out.rd).mono ?_
        rintro e w7 ⟨⟨t, rfl, t0, t1⟩, hr, hg⟩
        have D3b := Lib.hid (D3a.out.step hr hg)
        clear hr hg
        go_wp2_with fail
        go_ret
        exact ⟨⟨_, p + 1 + 1 + 1 + 1 + 1, rfl, by
            have e1 : ∀ x : UInt8, (ByteArray.mk #[x]).size = 1 := fun _ => rfl
            first | omega | (simp only [ByteArray.size_append, ByteArray.size_extract, e1]; omega),
          by
            have e1 : ∀ x : UInt8, (ByteArray.mk #[x]).size = 1 := fun _ => rfl
            first | omega | (simp only [ByteArray.size_append, ByteArray.size_extract, e1]; omega), by omega, (D3b.out).rd⟩, (D3b.out).gr⟩
      · have f0 : (m == 0) = false := by rw [beq_eq_false_iff_ne]; exact e0
        by_cases e1 : m = 1 ∨ m = 2
        · rcases e1 with e1 | e1
          · subst e1
            go_wp2_with fail
            go_ret
            exact ⟨⟨_, p + 1 + 1 + 1 + 1, rfl, by
                have e1 : ∀ x : UInt8, (ByteArray.mk #[x]).size = 1 := fun _ => rfl
                first | omega | (simp only [ByteArray.size_append, ByteArray.size_extract, e1]; omega),
              by
                have e1 : ∀ x : UInt8, (ByteArray.mk #[x]).size = 1 := fun _ => rfl
                first | omega | (simp only [ByteArray.size_append, ByteArray.size_extract, e1]; omega), by omega, (D3L.out).rd⟩, (D3L.out).gr⟩
          · subst e1
            go_wp2_with fail
            go_ret
            exact ⟨⟨_, p + 1 + 1 + 1 + 1, rfl, by
                have e1 : ∀ x : UInt8, (ByteArray.mk #[x]).size = 1 := fun _ => rfl
                first | omega | (simp only [ByteArray.size_append, ByteArray.size_extract, e1]; omega),
              by
                have e1 : ∀ x : UInt8, (ByteArray.mk #[x]).size = 1 := fun _ => rfl
                first | omega | (simp only [ByteArray.size_append, ByteArray.size_extract, e1]; omega), by omega, (D3L.out).rd⟩, (D3L.out).gr⟩
        · have f1 : (m == 1) = false := by rw [beq_eq_false_iff_ne]; omega
          have f2 : (m == 2) = false := by rw [beq_eq_false_iff_ne]; omega
          by_cases e3 : m = 3
          · subst e3
            go_upto_region 12 with (fail)
            refine region_sched [(0, true), (1, true), (2, true), (3, true), (4, true), (5, true), (6, true), (7, true), (8, true), (9, true), (10, true), (11, true), (12, true)] (fun _ : World => True) (by kernel_rfl) (by kernel_rfl) (by kernel_rfl) (by kernel_rfl) (fun _ _ _ _ h => h) ?_ (fun Q1 hQ1 => ?_)
            · exact True.intro
            try simp only [List.append]
            refine sched_take' (v := ?_) (a' := ?_) rfl (by kernel_rfl) ?_ rfl ?_ ?_
            rotate_left 2
            · intro w hSw
              (try dsimp only at hSw)
              go_simp
              try with_reducible rfl
            · (try simp only [Act.put, List.setIfInBounds_toArray, List.set_cons_zero, List.set_cons_succ])
              try rfl
            refine sched_take' (v := ?_) (a' := ?_) rfl (by kernel_rfl) ?_ rfl ?_ ?_
            rotate_left 2
            · intro w hSw
              (try dsimp only at hSw)
              go_simp
              try with_reducible rfl
            · (try simp only [Act.put, List.setIfInBounds_toArray, List.set_cons_zero, List.set_cons_succ])
              try rfl
            refine sched_take' (v := ?_) (a' := ?_) rfl (by kernel_rfl) ?_ rfl ?_ ?_
            rotate_left 2
            · intro w hSw
              (try dsimp only at hSw)
              go_simp
              try with_reducible rfl
            · (try simp only [Act.put, List.setIfInBounds_toArray, List.set_cons_zero, List.set_cons_succ])
              try rfl
            refine sched_take' (v := .int .i64 ((vn : Int) + 1)) (a' := ?_) rfl (by kernel_rfl) ?_ rfl ?_ ?_
            rotate_left 1
            · intro w hSw
              (try dsimp only at hSw)
              go_simp
              first | done | (simp [hwv]; done) | rw [hwv]
            · (try simp only [Act.put, List.setIfInBounds_toArray, List.set_cons_zero, List.set_cons_succ])
              try rfl
            refine sched_take' (v := .string (vs.extract vn (vn + 1))) (a' := ?_) rfl (by kernel_rfl) ?_ rfl ?_ ?_
            rotate_left 1
            · intro w hSw
              (try dsimp only at hSw)
              go_simp
              first | done | (rw [if_pos ⟨by omega, by omega⟩, if_pos (by omega)] <;> first | rfl | (congr 3; omega) | (congr 4; omega))
            · (try simp only [Act.put, List.setIfInBounds_toArray, List.set_cons_zero, List.set_cons_succ])
              try rfl
            refine sched_take' (v := ?_) (a' := ?_) rfl (by kernel_rfl) ?_ rfl ?_ ?_
            rotate_left 2
            · intro w hSw
              (try dsimp only at hSw)
              go_simp
              try with_reducible rfl
            · (try simp only [Act.put, List.setIfInBounds_toArray, List.set_cons_zero, List.set_cons_succ])
              try rfl
            refine sched_take' (v := ?_) (a' := ?_) rfl (by kernel_rfl) ?_ rfl ?_ ?_
            rotate_left 2
            · intro w hSw
              (try dsimp only at hSw)
              go_simp
              try with_reducible rfl
            · (try simp only [Act.put, List.setIfInBounds_toArray, List.set_cons_zero, List.set_cons_succ])
              try rfl
            refine sched_take' (v := ?_) (a' := ?_) rfl (by kernel_rfl) ?_ rfl ?_ ?_
            rotate_left 2
            · intro w hSw
              (try dsimp only at hSw)
              go_simp
              try with_reducible rfl
            · (try simp only [Act.put, List.setIfInBounds_toArray, List.set_cons_zero, List.set_cons_succ])
              try rfl
            refine sched_take' (v := ?_) (a' := ?_) rfl (by kernel_rfl) ?_ rfl ?_ ?_
            rotate_left 2
            · intro w hSw
              (try dsimp only at hSw)
              go_simp
              try with_reducible rfl
            · (try simp only [Act.put, List.setIfInBounds_toArray, List.set_cons_zero, List.set_cons_succ])
              try rfl
            refine sched_take' (v := .int .i64 ((un : Int) + 1)) (a' := ?_) rfl (by kernel_rfl) ?_ rfl ?_ ?_
            rotate_left 1
            · intro w hSw
              (try dsimp only at hSw)
              go_simp
              first | done | (simp [hwu]; done) | rw [hwu]
            · (try simp only [Act.put, List.setIfInBounds_toArray, List.set_cons_zero, List.set_cons_succ])
              try rfl
            refine sched_take' (v := .string (vs.extract un (un + 1))) (a' := ?_) rfl (by kernel_rfl) ?_ rfl ?_ ?_
            rotate_left 1
            · intro w hSw
              (try dsimp only at hSw)
              go_simp
              first | done | (rw [if_pos ⟨by omega, by omega⟩, if_pos (by omega)] <;> first | rfl | (congr 3; omega) | (congr 4; omega))
            · (try simp only [Act.put, List.setIfInBounds_toArray, List.set_cons_zero, List.set_cons_succ])
              try rfl
            refine sched_take' (v := ?_) (a' := ?_) rfl (by kernel_rfl) ?_ rfl ?_ ?_
            rotate_left 2
            · intro w hSw
              (try dsimp only at hSw)
              go_simp
              try with_reducible rfl
            · (try simp only [Act.put, List.setIfInBounds_toArray, List.set_cons_zero, List.set_cons_succ])
              try rfl
            refine sched_take' (v := ?_) (a' := ?_) rfl (by kernel_rfl) ?_ rfl ?_ ?_
            rotate_left 2
            · intro w hSw
              (try dsimp only at hSw)
              go_simp
              try with_reducible rfl
            · (try simp only [Act.put, List.setIfInBounds_toArray, List.set_cons_zero, List.set_cons_succ])
              try rfl
            refine sched_done (hQ1.out _ _ ?_)
            go_wp2_with fail
            go_ret
            exact ⟨⟨_, p + 1 + 1 + 1 + 1, rfl, by
                have e1 : ∀ x : UInt8, (ByteArray.mk #[x]).size = 1 := fun _ => rfl
                first | omega | (simp only [ByteArray.size_append, ByteArray.size_extract, e1]; omega),
              by
                have e1 : ∀ x : UInt8, (ByteArray.mk #[x]).size = 1 := fun _ => rfl
                first | omega | (simp only [ByteArray.size_append, ByteArray.size_extract, e1]; omega), by omega, (D3L.out.drew).rd⟩, (D3L.out.drew).gr⟩
          · have f3 : (m == 3) = false := by rw [beq_eq_false_iff_ne]; exact e3
            go_upto_region 13 with (fail)
            refine region_sched [(0, true), (1, true), (2, true), (3, true), (4, true), (5, true), (6, true), (7, true), (8, true), (9, true), (10, true), (11, true), (12, true)] (fun _ : World => True) (by kernel_rfl) (by kernel_rfl) (by kernel_rfl) (by kernel_rfl) (fun _ _ _ _ h => h) ?_ (fun Q1 hQ1 => ?_)
            · exact True.intro
            try simp only [List.append]
            refine sched_take' (v := ?_) (a' := ?_) rfl (by kernel_rfl) ?_ rfl ?_ ?_
            rotate_left 2
            · intro w hSw
              (try dsimp only at hSw)
              go_simp
              try with_reducible rfl
            · (try simp only [Act.put, List.setIfInBounds_toArray, List.set_cons_zero, List.set_cons_succ])
              try rfl
            refine sched_take' (v := ?_) (a' := ?_) rfl (by kernel_rfl) ?_ rfl ?_ ?_
            rotate_left 2
            · intro w hSw
              (try dsimp only at hSw)
              go_simp
              try with_reducible rfl
            · (try simp only [Act.put, List.setIfInBounds_toArray, List.set_cons_zero, List.set_cons_succ])
              try rfl
            refine sched_take' (v := ?_) (a' := ?_) rfl (by kernel_rfl) ?_ rfl ?_ ?_
            rotate_left 2
            · intro w hSw
              (try dsimp only at hSw)
              go_simp
              try with_reducible rfl
            · (try simp only [Act.put, List.setIfInBounds_toArray, List.set_cons_zero, List.set_cons_succ])
              try rfl
            refine sched_take' (v := .int .i64 ((vn : Int) + 1)) (a' := ?_) rfl (by kernel_rfl) ?_ rfl ?_ ?_
            rotate_left 1
            · intro w hSw
              (try dsimp only at hSw)
              go_simp
              first | done | (simp [hwv]; done) | rw [hwv]
            · (try simp only [Act.put, List.setIfInBounds_toArray, List.set_cons_zero, List.set_cons_succ])
              try rfl
            refine sched_take' (v := .string (vs.extract vn (vn + 1))) (a' := ?_) rfl (by kernel_rfl) ?_ rfl ?_ ?_
            rotate_left 1
            · intro w hSw
              (try dsimp only at hSw)
              go_simp
              first | done | (rw [if_pos ⟨by omega, by omega⟩, if_pos (by omega)] <;> first | rfl | (congr 3; omega) | (congr 4; omega))
            · (try simp only [Act.put, List.setIfInBounds_toArray, List.set_cons_zero, List.set_cons_succ])
              try rfl
            refine sched_take' (v := ?_) (a' := ?_) rfl (by kernel_rfl) ?_ rfl ?_ ?_
            rotate_left 2
            · intro w hSw
              (try dsimp only at hSw)
              go_simp
              try with_reducible rfl
            · (try simp only [Act.put, List.setIfInBounds_toArray, List.set_cons_zero, List.set_cons_succ])
              try rfl
            refine sched_take' (v := ?_) (a' := ?_) rfl (by kernel_rfl) ?_ rfl ?_ ?_
            rotate_left 2
            · intro w hSw
              (try dsimp only at hSw)
              go_simp
              try with_reducible rfl
            · (try simp only [Act.put, List.setIfInBounds_toArray, List.set_cons_zero, List.set_cons_succ])
              try rfl
            refine sched_take' (v := ?_) (a' := ?_) rfl (by kernel_rfl) ?_ rfl ?_ ?_
            rotate_left 2
            · intro w hSw
              (try dsimp only at hSw)
              go_simp
              try with_reducible rfl
            · (try simp only [Act.put, List.setIfInBounds_toArray, List.set_cons_zero, List.set_cons_succ])
              try rfl
            refine sched_take' (v := ?_) (a' := ?_) rfl (by kernel_rfl) ?_ rfl ?_ ?_
            rotate_left 2
            · intro w hSw
              (try dsimp only at hSw)
              go_simp
              try with_reducible rfl
            · (try simp only [Act.put, List.setIfInBounds_toArray, List.set_cons_zero, List.set_cons_succ])
              try rfl
            refine sched_take' (v := .int .i64 ((un : Int) + 1)) (a' := ?_) rfl (by kernel_rfl) ?_ rfl ?_ ?_
            rotate_left 1
            · intro w hSw
              (try dsimp only at hSw)
              go_simp
              first | done | (simp [hwu]; done) | rw [hwu]
            · (try simp only [Act.put, List.setIfInBounds_toArray, List.set_cons_zero, List.set_cons_succ])
              try rfl
            refine sched_take' (v := .string (vs.extract un (un + 1))) (a' := ?_) rfl (by kernel_rfl) ?_ rfl ?_ ?_
            rotate_left 1
            · intro w hSw
              (try dsimp only at hSw)
              go_simp
              first | done | (rw [if_pos ⟨by omega, by omega⟩, if_pos (by omega)] <;> first | rfl | (congr 3; omega) | (congr 4; omega))
            · (try simp only [Act.put, List.setIfInBounds_toArray, List.set_cons_zero, List.set_cons_succ])
              try rfl
            refine sched_take' (v := ?_) (a' := ?_) rfl (by kernel_rfl) ?_ rfl ?_ ?_
            rotate_left 2
            · intro w hSw
              (try dsimp only at hSw)
              go_simp
              try with_reducible rfl
            · (try simp only [Act.put, List.setIfInBounds_toArray, List.set_cons_zero, List.set_cons_succ])
              try rfl
            refine sched_take' (v := ?_) (a' := ?_) rfl (by kernel_rfl) ?_ rfl ?_ ?_
            rotate_left 2
            · intro w hSw
              (try dsimp only at hSw)
              go_simp
              try with_reducible rfl
            · (try simp only [Act.put, List.setIfInBounds_toArray, List.set_cons_zero, List.set_cons_succ])
              try rfl
            refine sched_done (hQ1.out _ _ ?_)
            go_wp2_with fail
            go_ret
            exact ⟨⟨_, p + 1 + 1 + 1 + 1, rfl, by
                have e1 : ∀ x : UInt8, (ByteArray.mk #[x]).size = 1 := fun _ => rfl
                first | omega | (simp only [ByteArray.size_append, ByteArray.size_extract, e1]; omega),
              by
                have e1 : ∀ x : UInt8, (ByteArray.mk #[x]).size = 1 := fun _ => rfl
                first | omega | (simp only [ByteArray.size_append, ByteArray.size_extract, e1]; omega), by omega, (D3L.out.drew).rd⟩, (D3L.out.drew).gr⟩
    · by_cases hk4 : k < 4
      · go_wp2_with fail
        refine (IH.out (p + 1 + 1 + 1) _ D3.out.rd (by omega)).mono ?_
        rintro e w4 ⟨⟨t, p4, rfl, t0, t1, hp4, hr⟩, hg⟩
        have D4 := Lib.hid (D3.out.step hr hg)
        clear hr hg
        go_wp2_with fail
        go_ret
        exact ⟨⟨_, p4, rfl, by
            have e1 : ∀ x : UInt8, (ByteArray.mk #[x]).size = 1 := fun _ => rfl
            first | omega | (simp only [ByteArray.size_append, ByteArray.size_extract, e1]; omega),
          by
            have e1 : ∀ x : UInt8, (ByteArray.mk #[x]).size = 1 := fun _ => rfl
            first | omega | (simp only [ByteArray.size_append, ByteArray.size_extract, e1]; omega), by omega, (D4.out).rd⟩, (D4.out).gr⟩
      · by_cases hk7 : k < 7
        · 
          have D4 := Lib.hid (D3.out.alloc (.cells #[.string ⟨#[38]⟩, .string ⟨#[124]⟩] 9))
          have ND4 := Lib.hid (scells_new w3 [bs [38], bs [124]] 9)
          have hszw5 := D3.out.rd.box.lt
          go_wp2_with fail
          refine (Hof2.out _ (p + 1 + 1 + 1) _ (by exact ND4.out) (by omega) (by omega) D4.out.rd).mono ?_
          rintro e w5 ⟨⟨o1, rfl, o10, o11⟩, hr, hg⟩
          have D5 := Lib.hid (D4.out.step hr hg)
          clear hr hg
          go_wp2_with fail
          refine (IH.out (p + 1 + 1 + 1 + 1) _ D5.out.rd (by omega)).mono ?_
          rintro e w6 ⟨⟨t, p6, rfl, t0, t1, hp6, hr⟩, hg⟩
          have D6 := Lib.hid (D5.out.step hr hg)
          clear hr hg
          go_wp2_with fail
          refine (IH.out p6 _ D6.out.rd (by omega)).mono ?_
          rintro e w7 ⟨⟨t2, p7, rfl, t20, t21, hp7, hr⟩, hg⟩
          have D7 := Lib.hid (D6.out.step hr hg)
          clear hr hg
          go_wp2_with fail
          go_ret
          exact ⟨⟨_, p7, rfl, by
              have e1 : ∀ x : UInt8, (ByteArray.mk #[x]).size = 1 := fun _ => rfl
              first | omega | (simp only [ByteArray.size_append, ByteArray.size_extract, e1]; omega),
            by
              have e1 : ∀ x : UInt8, (ByteArray.mk #[x]).size = 1 := fun _ => rfl
              first | omega | (simp only [ByteArray.size_append, ByteArray.size_extract, e1]; omega), by omega, (D7.out).rd⟩, (D7.out).gr⟩
        · 
          have D4 := Lib.hid (D3.out.alloc (.cells #[.string ⟨#[65]⟩, .string ⟨#[83]⟩, .string ⟨#[83]⟩] 9))
          have ND4 := Lib.hid (scells_new w3 [bs [65], bs [83], bs [83]] 9)
          have hszw5 := D3.out.rd.box.lt
          go_wp2_with fail
          refine (Hof3.out _ (p + 1 + 1 + 1) _ (by exact ND4.out) (by omega) (by omega) D4.out.rd).mono ?_
          rintro e w5 ⟨⟨o1, rfl, o10, o11⟩, hr, hg⟩
          have D5 := Lib.hid (D4.out.step hr hg)
          clear hr hg
          cases c with
          | false =>
            go_upto_region 23 with (fail)
            refine region_sched [(0, true), (1, true), (2, true), (3, true), (4, true), (5, true), (6, true), (7, true), (8, true), (9, true), (10, true), (11, true), (12, false), (13, true), (14, true)] (fun _ : World => True) (by kernel_rfl) (by kernel_rfl) (by kernel_rfl) (by kernel_rfl) (fun _ _ _ _ h => h) ?_ (fun Q1 hQ1 => ?_)
            · exact True.intro
            try simp only [List.append]
            refine sched_take' (v := ?_) (a' := ?_) rfl (by kernel_rfl) ?_ rfl ?_ ?_
            rotate_left 2
            · intro w hSw
              (try dsimp only at hSw)
              go_simp
              try with_reducible rfl
            · (try simp only [Act.put, List.setIfInBounds_toArray, List.set_cons_zero, List.set_cons_succ])
              try rfl
            refine sched_take' (v := ?_) (a' := ?_) rfl (by kernel_rfl) ?_ rfl ?_ ?_
            rotate_left 2
            · intro w hSw
              (try dsimp only at hSw)
              go_simp
              try with_reducible rfl
            · (try simp only [Act.put, List.setIfInBounds_toArray, List.set_cons_zero, List.set_cons_succ])
              try rfl
            refine sched_take' (v := ?_) (a' := ?_) rfl (by kernel_rfl) ?_ rfl ?_ ?_
            rotate_left 2
            · intro w hSw
              (try dsimp only at hSw)
              go_simp
              try with_reducible rfl
            · (try simp only [Act.put, List.setIfInBounds_toArray, List.set_cons_zero, List.set_cons_succ])
              try rfl
            refine sched_take' (v := ?_) (a' := ?_) rfl (by kernel_rfl) ?_ rfl ?_ ?_
            rotate_left 2
            · intro w hSw
              (try dsimp only at hSw)
              go_simp
              try with_reducible rfl
            · (try simp only [Act.put, List.setIfInBounds_toArray, List.set_cons_zero, List.set_cons_succ])
              try rfl
            refine sched_take' (v := .int .i64 ((vn : Int) + 1)) (a' := ?_) rfl (by kernel_rfl) ?_ rfl ?_ ?_
            rotate_left 1
            · intro w hSw
              (try dsimp only at hSw)
              go_simp
              first | done | (simp [hwv]; done) | rw [hwv]
            · (try simp only [Act.put, List.setIfInBounds_toArray, List.set_cons_zero, List.set_cons_succ])
              try rfl
            refine sched_take' (v := .string (vs.extract vn (vn + 1))) (a' := ?_) rfl (by kernel_rfl) ?_ rfl ?_ ?_
            rotate_left 1
            · intro w hSw
              (try dsimp only at hSw)
              go_simp
              first | done | (rw [if_pos ⟨by omega, by omega⟩, if_pos (by omega)] <;> first | rfl | (congr 3; omega) | (congr 4; omega))
            · (try simp only [Act.put, List.setIfInBounds_toArray, List.set_cons_zero, List.set_cons_succ])
              try rfl
            refine sched_take' (v := .string (o1 ++ vs.extract vn (vn + 1))) (a' := ?_) rfl (by kernel_rfl) ?_ rfl ?_ ?_
            rotate_left 1
            · intro w hSw
              (try dsimp only at hSw)
              go_simp
              first | done | omega | rw [if_neg (by omega)]
            · (try simp only [Act.put, List.setIfInBounds_toArray, List.set_cons_zero, List.set_cons_succ])
              try rfl
            refine sched_take' (v := ?_) (a' := ?_) rfl (by kernel_rfl) ?_ rfl ?_ ?_
            rotate_left 2
            · intro w hSw
              (try dsimp only at hSw)
              go_simp
              try with_reducible rfl
            · (try simp only [Act.put, List.setIfInBounds_toArray, List.set_cons_zero, List.set_cons_succ])
              try rfl
            refine sched_take' (v := ?_) (a' := ?_) rfl (by kernel_rfl) ?_ rfl ?_ ?_
            rotate_left 2
            · intro w hSw
              (try dsimp only at hSw)
              go_simp
              try with_reducible rfl
            · (try simp only [Act.put, List.setIfInBounds_toArray, List.set_cons_zero, List.set_cons_succ])
              try rfl
            refine sched_take' (v := ?_) (a' := ?_) rfl (by kernel_rfl) ?_ rfl ?_ ?_
            rotate_left 2
            · intro w hSw
              (try dsimp only at hSw)
              go_simp
              try with_reducible rfl
            · (try simp only [Act.put, List.setIfInBounds_toArray, List.set_cons_zero, List.set_cons_succ])
              try rfl
            refine sched_take' (v := ?_) (a' := ?_) rfl (by kernel_rfl) ?_ rfl ?_ ?_
            rotate_left 2
            · intro w hSw
              (try dsimp only at hSw)
              go_simp
              try with_reducible rfl
            · (try simp only [Act.put, List.setIfInBounds_toArray, List.set_cons_zero, List.set_cons_succ])
              try rfl
            refine sched_take' (v := ?_) (a' := ?_) rfl (by kernel_rfl) ?_ rfl ?_ ?_
            rotate_left 2
            · intro w hSw
              (try dsimp only at hSw)
              go_simp
              try with_reducible rfl
            · (try simp only [Act.put, List.setIfInBounds_toArray, List.set_cons_zero, List.set_cons_succ])
              try rfl
            refine sched_call rfl (by kernel_rfl) (fun K1 hK1 => ?_)
            go_simp
            try rw [hdw]
            refine (IH.out (p + 1 + 1 + 1 + 1) _ D5.out.drew.rd (by omega)).mono ?_
            rintro e w9 ⟨⟨t9, p9, rfl, t90, t91, hp9, hr⟩, hg⟩
            have D9 := Lib.hid (D5.out.drew.step hr hg)
            clear hr hg
            go_wp2_with fail
            refine hK1.out _ _ ?_ (sched_lay (a' := ?_) ?_ ?_)
            · exact True.intro
            rotate_left 1
            · (try simp only [Act.put, List.getElem_toArray, List.getElem_cons_succ, List.getElem_cons_zero, List.setIfInBounds_toArray, List.set_cons_zero, List.set_cons_succ])
              try rfl
            clear hK1 K1
            refine sched_take' (v := .string (o1 ++ vs.extract vn (vn + 1) ++ t9)) (a' := ?_) rfl (by kernel_rfl) ?_ rfl ?_ ?_
            rotate_left 1
            · intro w hSw
              (try dsimp only at hSw)
              go_simp
              first | done | omega | (simp only [ByteArray.size_append, hev]; omega) | rw [if_neg (by simp only [ByteArray.size_append, hev]; omega)]
            · (try simp only [Act.put, List.setIfInBounds_toArray, List.set_cons_zero, List.set_cons_succ])
              try rfl
            refine sched_take' (v := ?_) (a' := ?_) rfl (by kernel_rfl) ?_ rfl ?_ ?_
            rotate_left 2
            · intro w hSw
              (try dsimp only at hSw)
              go_simp
              try with_reducible rfl
            · (try simp only [Act.put, List.setIfInBounds_toArray, List.set_cons_zero, List.set_cons_succ])
              try rfl
            refine sched_done (hQ1.out _ _ ?_)
            go_wp2_with fail
            go_ret
            exact ⟨⟨_, p9, rfl, by
                have e1 : ∀ x : UInt8, (ByteArray.mk #[x]).size = 1 := fun _ => rfl
                first | omega | (simp only [ByteArray.size_append, ByteArray.size_extract, e1]; omega),
              by
                have e1 : ∀ x : UInt8, (ByteArray.mk #[x]).size = 1 := fun _ => rfl
                first | omega | (simp only [ByteArray.size_append, ByteArray.size_extract, e1]; omega), by omega, (D9.out).rd⟩, (D9.out).gr⟩
          | true =>
            go_wp2_with fail
            refine (Hpk.out 3 (p + 1 + 1 + 1 + 1) _ (by omega) (by omega) D5.out.rd).mono ?_
            rintro e w6 ⟨⟨m, rfl, m0, m1, _⟩, hr, hg⟩
            have D6 := Lib.hid (D5.out.step hr hg)
            clear hr hg
            by_cases e0 : m = 0
            · subst e0
              have D7 := Lib.hid (D6.out.alloc (.cells #[.string ⟨#[50]⟩, .string ⟨#[51]⟩, .string ⟨#[50]⟩, .string ⟨#[52]⟩] 9))
              have ND7 := Lib.hid (scells_new w6 [bs [50], bs [51], bs [50], bs [52]] 9)
              have hszw8 := D6.out.rd.box.lt
              go_wp2_with fail
              refine (Hof4.out _ (p + 1 + 1 + 1 + 1 + 1) _ (by exact ND7.out) (by omega) (by omega) D7.out.rd).mono ?_
              rintro e w8 ⟨⟨o2, rfl, o20, o21⟩, hr, hg⟩
              have D8 := Lib.hid (D7.out.step hr hg)
              clear hr hg
              go_upto_region 23 with (fail)
              refine region_sched [(0, true), (1, true), (2, true), (3, true), (4, true), (5, true), (6, true), (7, true), (8, true), (9, true), (10, true), (11, true), (12, false), (13, true), (14, true)] (fun _ : World => True) (by kernel_rfl) (by kernel_rfl) (by kernel_rfl) (by kernel_rfl) (fun _ _ _ _ h => h) ?_ (fun Q1 hQ1 => ?_)
              · exact True.intro
              try simp only [List.append]
              refine sched_take' (v := ?_) (a' := ?_) rfl (by kernel_rfl) ?_ rfl ?_ ?_
              rotate_left 2
              · intro w hSw
                (try dsimp only at hSw)
                go_simp
                try with_reducible rfl
              · (try simp only [Act.put, List.setIfInBounds_toArray, List.set_cons_zero, List.set_cons_succ])
                try rfl
              refine sched_take' (v := ?_) (a' := ?_) rfl (by kernel_rfl) ?_ rfl ?_ ?_
              rotate_left 2
              · intro w hSw
                (try dsimp only at hSw)
                go_simp
                try with_reducible rfl
              · (try simp only [Act.put, List.setIfInBounds_toArray, List.set_cons_zero, List.set_cons_succ])
                try rfl
              refine sched_take' (v := ?_) (a' := ?_) rfl (by kernel_rfl) ?_ rfl ?_ ?_
              rotate_left 2
              · intro w hSw
                (try dsimp only at hSw)
                go_simp
                try with_reducible rfl
              · (try simp only [Act.put, List.setIfInBounds_toArray, List.set_cons_zero, List.set_cons_succ])
                try rfl
              refine sched_take' (v := ?_) (a' := ?_) rfl (by kernel_rfl) ?_ rfl ?_ ?_
              rotate_left 2
              · intro w hSw
                (try dsimp only at hSw)
                go_simp
                try with_reducible rfl
              · (try simp only [Act.put, List.setIfInBounds_toArray, List.set_cons_zero, List.set_cons_succ])
                try rfl
              refine sched_take' (v := .int .i64 ((vn : Int) + 1)) (a' := ?_) rfl (by kernel_rfl) ?_ rfl ?_ ?_
              rotate_left 1
              · intro w hSw
                (try dsimp only at hSw)
                go_simp
                first | done | (simp [hwv]; done) | rw [hwv]
              · (try simp only [Act.put, List.setIfInBounds_toArray, List.set_cons_zero, List.set_cons_succ])
                try rfl
              refine sched_take' (v := .string (vs.extract vn (vn + 1))) (a' := ?_) rfl (by kernel_rfl) ?_ rfl ?_ ?_
              rotate_left 1
              · intro w hSw
                (try dsimp only at hSw)
                go_simp
                first | done | (rw [if_pos ⟨by omega, by omega⟩, if_pos (by omega)] <;> first | rfl | (congr 3; omega) | (congr 4; omega))
              · (try simp only [Act.put, List.setIfInBounds_toArray, List.set_cons_zero, List.set_cons_succ])
                try rfl
              refine sched_take' (v := .string (o2 ++ vs.extract vn (vn + 1))) (a' := ?_) rfl (by kernel_rfl) ?_ rfl ?_ ?_
              rotate_left 1
              · intro w hSw
                (try dsimp only at hSw)
                go_simp
                first | done | omega | rw [if_neg (by omega)]
              · (try simp only [Act.put, List.setIfInBounds_toArray, List.set_cons_zero, List.set_cons_succ])
                try rfl
              refine sched_take' (v := ?_) (a' := ?_) rfl (by kernel_rfl) ?_ rfl ?_ ?_
              rotate_left 2
              · intro w hSw
                (try dsimp only at hSw)
                go_simp
                try with_reducible rfl
              · (try simp only [Act.put, List.setIfInBounds_toArray, List.set_cons_zero, List.set_cons_succ])
                try rfl
              refine sched_take' (v := ?_) (a' := ?_) rfl (by kernel_rfl) ?_ rfl ?_ ?_
              rotate_left 2
              · intro w hSw
                (try dsimp only at hSw)
                go_simp
                try with_reducible rfl
              · (try simp only [Act.put, List.setIfInBounds_toArray, List.set_cons_zero, List.set_cons_succ])
                try rfl
              refine sched_take' (v := ?_) (a' := ?_) rfl (by kernel_rfl) ?_ rfl ?_ ?_
              rotate_left 2
              · intro w hSw
                (try dsimp only at hSw)
                go_simp
                try with_reducible rfl
              · (try simp only [Act.put, List.setIfInBounds_toArray, List.set_cons_zero, List.set_cons_succ])
                try rfl
              refine sched_take' (v := ?_) (a' := ?_) rfl (by kernel_rfl) ?_ rfl ?_ ?_
              rotate_left 2
              · intro w hSw
                (try dsimp only at hSw)
                go_simp
                try with_reducible rfl
              · (try simp only [Act.put, List.setIfInBounds_toArray, List.set_cons_zero, List.set_cons_succ])
                try rfl
              refine sched_take' (v := ?_) (a' := ?_) rfl (by kernel_rfl) ?_ rfl ?_ ?_
              rotate_left 2
              · intro w hSw
                (try dsimp only at hSw)
                go_simp
                try with_reducible rfl
              · (try simp only [Act.put, List.setIfInBounds_toArray, List.set_cons_zero, List.set_cons_succ])
                try rfl
              refine sched_call rfl (by kernel_rfl) (fun K1 hK1 => ?_)
              go_simp
              try rw [hdw]
              refine (IH.out (p + 1 + 1 + 1 + 1 + 1 + 1) _ D8.out.drew.rd (by omega)).mono ?_
              rintro e w9 ⟨⟨t9, p9, rfl, t90, t91, hp9, hr⟩, hg⟩
              have D9 := Lib.hid (D8.out.drew.step hr hg)
              clear hr hg
              go_wp2_with fail
              refine hK1.out _ _ ?_ (sched_lay (a' := ?_) ?_ ?_)
              · exact True.intro
              rotate_left 1
              · (try simp only [Act.put, List.getElem_toArray, List.getElem_cons_succ, List.getElem_cons_zero, List.setIfInBounds_toArray, List.set_cons_zero, List.set_cons_succ])
                try rfl
              clear hK1 K1
              refine sched_take' (v := .string (o2 ++ vs.extract vn (vn + 1) ++ t9)) (a' := ?_) rfl (by kernel_rfl) ?_ rfl ?_ ?_
              rotate_left 1
              · intro w hSw
                (try dsimp only at hSw)
                go_simp
                first | done | omega | (simp only [ByteArray.size_append, hev]; omega) | rw [if_neg (by simp only [ByteArray.size_append, hev]; omega)]
              · (try simp only [Act.put, List.setIfInBounds_toArray, List.set_cons_zero, List.set_cons_succ])
                try rfl
              refine sched_take' (v := ?_) (a' := ?_) rfl (by kernel_rfl) ?_ rfl ?_ ?_
              rotate_left 2
              · intro w hSw
                (try dsimp only at hSw)
                go_simp
                try with_reducible rfl
              · (try simp only [Act.put, List.setIfInBounds_toArray, List.set_cons_zero, List.set_cons_succ])
                try rfl
              refine sched_done (hQ1.out _ _ ?_)
              go_wp2_with fail
              go_ret
              exact ⟨⟨_, p9, rfl, by
                  have e1 : ∀ x : UInt8, (ByteArray.mk #[x]).size = 1 := fun _ => rfl
                  first | omega | (simp only [ByteArray.size_append, ByteArray.size_extract, e1]; omega),
                by
                  have e1 : ∀ x : UInt8, (ByteArray.mk #[x]).size = 1 := fun _ => rfl
                  first | omega | (simp only [ByteArray.size_append, ByteArray.size_extract, e1]; omega), by omega, (D9.out).rd⟩, (D9.out).gr⟩
            · have f0 : (m == 0) = false := by rw [beq_eq_false_iff_ne]; exact e0
              go_upto_region 23 with (fail)
              refine region_sched [(0, true), (1, true), (2, true), (3, true), (4, true), (5, true), (6, true), (7, true), (8, true), (9, true), (10, true), (11, true), (12, false), (13, true), (14, true)] (fun _ : World => True) (by kernel_rfl) (by kernel_rfl) (by kernel_rfl) (by kernel_rfl) (fun _ _ _ _ h => h) ?_ (fun Q1 hQ1 => ?_)
              · exact True.intro
              try simp only [List.append]
              refine sched_take' (v := ?_) (a' := ?_) rfl (by kernel_rfl) ?_ rfl ?_ ?_
              rotate_left 2
              · intro w hSw
                (try dsimp only at hSw)
                go_simp
                try with_reducible rfl
              · (try simp only [Act.put, List.setIfInBounds_toArray, List.set_cons_zero, List.set_cons_succ])
                try rfl
              refine sched_take' (v := ?_) (a' := ?_) rfl (by kernel_rfl) ?_ rfl ?_ ?_
              rotate_left 2
              · intro w hSw
                (try dsimp only at hSw)
                go_simp
                try with_reducible rfl
              · (try simp only [Act.put, List.setIfInBounds_toArray, List.set_cons_zero, List.set_cons_succ])
                try rfl
              refine sched_take' (v := ?_) (a' := ?_) rfl (by kernel_rfl) ?_ rfl ?_ ?_
              rotate_left 2
              · intro w hSw
                (try dsimp only at hSw)
                go_simp
                try with_reducible rfl
              · (try simp only [Act.put, List.setIfInBounds_toArray, List.set_cons_zero, List.set_cons_succ])
                try rfl
              refine sched_take' (v := ?_) (a' := ?_) rfl (by kernel_rfl) ?_ rfl ?_ ?_
              rotate_left 2
              · intro w hSw
                (try dsimp only at hSw)
                go_simp
                try with_reducible rfl
              · (try simp only [Act.put, List.setIfInBounds_toArray, List.set_cons_zero, List.set_cons_succ])
                try rfl
              refine sched_take' (v := .int .i64 ((vn : Int) + 1)) (a' := ?_) rfl (by kernel_rfl) ?_ rfl ?_ ?_
              rotate_left 1
              · intro w hSw
                (try dsimp only at hSw)
                go_simp
                first | done | (simp [hwv]; done) | rw [hwv]
              · (try simp only [Act.put, List.setIfInBounds_toArray, List.set_cons_zero, List.set_cons_succ])
                try rfl
              refine sched_take' (v := .string (vs.extract vn (vn + 1))) (a' := ?_) rfl (by kernel_rfl) ?_ rfl ?_ ?_
              rotate_left 1
              · intro w hSw
                (try dsimp only at hSw)
                go_simp
                first | done | (rw [if_pos ⟨by omega, by omega⟩, if_pos (by omega)] <;> first | rfl | (congr 3; omega) | (congr 4; omega))
              · (try simp only [Act.put, List.setIfInBounds_toArray, List.set_cons_zero, List.set_cons_succ])
                try rfl
              refine sched_take' (v := .string (o1 ++ vs.extract vn (vn + 1))) (a' := ?_) rfl (by kernel_rfl) ?_ rfl ?_ ?_
              rotate_left 1
              · intro w hSw
                (try dsimp only at hSw)
                go_simp
                first | done | omega | rw [if_neg (by omega)]
              · (try simp only [Act.put, List.setIfInBounds_toArray, List.set_cons_zero, List.set_cons_succ])
                try rfl
              refine sched_take' (v := ?_) (a' := ?_) rfl (by kernel_rfl) ?_ rfl ?_ ?_
              rotate_left 2
              · intro w hSw
                (try dsimp only at hSw)
                go_simp
                try with_reducible rfl
              · (try simp only [Act.put, List.setIfInBounds_toArray, List.set_cons_zero, List.set_cons_succ])
                try rfl
              refine sched_take' (v := ?_) (a' := ?_) rfl (by kernel_rfl) ?_ rfl ?_ ?_
              rotate_left 2
              · intro w hSw
                (try dsimp only at hSw)
                go_simp
                try with_reducible rfl
              · (try simp only [Act.put, List.setIfInBounds_toArray, List.set_cons_zero, List.set_cons_succ])
                try rfl
              refine sched_take' (v := ?_) (a' := ?_) rfl (by kernel_rfl) ?_ rfl ?_ ?_
              rotate_left 2
              · intro w hSw
                (try dsimp only at hSw)
                go_simp
                try with_reducible rfl
              · (try simp only [Act.put, List.setIfInBounds_toArray, List.set_cons_zero, List.set_cons_succ])
                try rfl
              refine sched_take' (v := ?_) (a' := ?_) rfl (by kernel_rfl) ?_ rfl ?_ ?_
              rotate_left 2
              · intro w hSw
                (try dsimp only at hSw)
                go_simp
                try with_reducible rfl
              · (try simp only [Act.put, List.setIfInBounds_toArray, List.set_cons_zero, List.set_cons_succ])
                try rfl
              refine sched_take' (v := ?_) (a' := ?_) rfl (by kernel_rfl) ?_ rfl ?_ ?_
              rotate_left 2
              · intro w hSw
                (try dsimp only at hSw)
                go_simp
                try with_reducible rfl
              · (try simp only [Act.put, List.setIfInBounds_toArray, List.set_cons_zero, List.set_cons_succ])
                try rfl
              refine sched_call rfl (by kernel_rfl) (fun K1 hK1 => ?_)
              go_simp
              try rw [hdw]
              refine (IH.out (p + 1 + 1 + 1 + 1 + 1) _ D6.out.drew.rd (by omega)).mono ?_
              rintro e w9 ⟨⟨t9, p9, rfl, t90, t91, hp9, hr⟩, hg⟩
              have D9 := Lib.hid (D6.out.drew.step hr hg)
              clear hr hg
              go_wp2_with fail
              refine hK1.out _ _ ?_ (sched_lay (a' := ?_) ?_ ?_)
              · exact True.intro
              rotate_left 1
              · (try simp only [Act.put, List.getElem_toArray, List.getElem_cons_succ, List.getElem_cons_zero, List.setIfInBounds_toArray, List.set_cons_zero, List.set_cons_succ])
                try rfl
              clear hK1 K1
              refine sched_take' (v := .string (o1 ++ vs.extract vn (vn + 1) ++ t9)) (a' := ?_) rfl (by kernel_rfl) ?_ rfl ?_ ?_
              rotate_left 1
              · intro w hSw
                (try dsimp only at hSw)
                go_simp
                first | done | omega | (simp only [ByteArray.size_append, hev]; omega) | rw [if_neg (by simp only [ByteArray.size_append, hev]; omega)]
              · (try simp only [Act.put, List.setIfInBounds_toArray, List.set_cons_zero, List.set_cons_succ])
                try rfl
              refine sched_take' (v := ?_) (a' := ?_) rfl (by kernel_rfl) ?_ rfl ?_ ?_
              rotate_left 2
              · intro w hSw
                (try dsimp only at hSw)
                go_simp
                try with_reducible rfl
              · (try simp only [Act.put, List.setIfInBounds_toArray, List.set_cons_zero, List.set_cons_succ])
                try rfl
              refine sched_done (hQ1.out _ _ ?_)
              go_wp2_with fail
              go_ret
              exact ⟨⟨_, p9, rfl, by
                  have e1 : ∀ x : UInt8, (ByteArray.mk #[x]).size = 1 := fun _ => rfl
                  first | omega | (simp only [ByteArray.size_append, ByteArray.size_extract, e1]; omega),
                by
                  have e1 : ∀ x : UInt8, (ByteArray.mk #[x]).size = 1 := fun _ => rfl
                  first | omega | (simp only [ByteArray.size_append, ByteArray.size_extract, e1]; omega), by omega, (D9.out).rd⟩, (D9.out).gr⟩


end Go.Proofs.YtjdnjhoddlalaaaDoor

namespace Go.Proofs.YtjdnjhoddlalaaaDoor
open Go.RowKit
open Pl
set_option linter.unusedSimpArgs false
set_option linter.unusedVariables false

/-- a drawn text, perhaps no formula -/
def FmO (rb : Nat) (A : Option Addr) (n cap p B D : Nat) (e : Ending) (w' : World) : Prop := ∃ (t : ByteArray) (p' : Nat), e = .returned (.string t) ∧ t.size ≤ B ∧ p' ≤ p + D ∧ Rd w' rb A n cap p'
theorem l2Draw_at (rb : Nat) (A : Option Addr) (n cap p : Nat) (vs : ByteArray) (hv0 : 0 < vs.size) (hv4 : vs.size ≤ 4) (c : Bool) (z : Int) (hz0 : 0 ≤ z) (hz4 : z ≤ 4) (w : World) (h : Rd w rb A n cap p) (hp : p ≤ 499000000000) :
    Calls Tryd.prog 101 #[.pointer (some ⟨rb, 0, none⟩), .int .i64 z, .string vs, .bool c] w fun e w' => FmD rb A n cap p 63 186 e w' ∧ w.grownBy w' (some rb) := by
  obtain ⟨d, rfl⟩ : ∃ d : Nat, z = (d : Nat) := ⟨z.toNat, by omega⟩
  have hd : d ≤ 4 := by omega
  have hM : 2 ^ d ≤ 16 ∧ 1 ≤ 2 ^ d := by
    have : d = 0 ∨ d = 1 ∨ d = 2 ∨ d = 3 ∨ d = 4 := by omega
    rcases this with rfl | rfl | rfl | rfl | rfl <;> decide
  exact (l2Draw_calls rb A n cap vs hv0 hv4 c d hd p w h (by omega)).mono fun e w' ⟨h1, h2⟩ => ⟨h1.mono (by omega) (by omega), h2⟩

set_option maxHeartbeats 2000000 in
set_option maxRecDepth 100000 in
theorem l2Some_calls (rb : Nat) (A : Option Addr) (n cap p : Nat) (w : World) (h : Rd w rb A n cap p) (hp : p ≤ 400000000000) :
    Calls Tryd.prog 85 #[.pointer (some ⟨rb, 0, none⟩)] w fun e w' => FmD rb A n cap p 63 200 e w' ∧ w.grownBy w' (some rb) := by
  have Hpk := Lib.hid (show ∀ (k : Int) (q : Nat) (V : World), k ≤ 1000 → q ≤ 1000000000000 → Rd V rb A n cap q → Calls Tryd.prog 46 #[.pointer (some ⟨rb, 0, none⟩), .int .i64 k] V fun e w' => PickP k e ∧ Rd w' rb A n cap (q + 1) ∧ V.grownBy w' (some rb) from fun k q V hk hq hr => pick_calls rb A n cap q k V hr (by omega) (by omega))
  have Hof5 := Lib.hid (show ∀ (g q : Nat) (W : World), SCells W g [bs [97, 98], bs [97, 98, 99], bs [97], bs [97, 98, 99, 100]] → g ≠ rb → q ≤ 1000000000000 → Rd W rb A n cap q → Calls Tryd.prog 73 #[.pointer (some ⟨rb, 0, none⟩), .slice (some ⟨g, 0, none⟩) 4 4] W fun e w' => (∃ t : ByteArray, e = .returned (.string t) ∧ 1 ≤ t.size ∧ t.size ≤ 4) ∧ Rd w' rb A n cap (q + 1) ∧ W.grownBy w' (some rb) from
    fun g q W h1 h2 h4 h3 => (of_calls rb A n cap q g 4 [bs [97, 98], bs [97, 98, 99], bs [97], bs [97, 98, 99, 100]] W h3 (by omega) (by simp) (by simp) h1 h2).mono fun e w' ⟨⟨m, h4, h5⟩, h6⟩ => ⟨⟨m, h4, by
      simp only [List.mem_cons, List.not_mem_nil, or_false] at h5
      rcases h5 with rfl | rfl | rfl | rfl <;> decide⟩, h6⟩)
  have D0 := Lib.hid (Dw.new h)
  have hrl := h.box.lt
  clear h
  go_enter Tryd.func85, Tryd.ntmps85
  go_wp2_with fail
  refine (Hpk.out 4 (p) _ (by omega) (by omega) D0.out.rd).mono ?_
  rintro e w1 ⟨⟨m, rfl, m0, m1, _⟩, hr, hg⟩
  have D1 := Lib.hid (D0.out.step hr hg)
  clear hr hg
  have m4 := m1 (by omega)
  clear m1
  have D2 := Lib.hid (D1.out.alloc (.cells #[.string ⟨#[97, 98]⟩, .string ⟨#[97, 98, 99]⟩, .string ⟨#[97]⟩, .string ⟨#[97, 98, 99, 100]⟩] 9))
  have ND2 := Lib.hid (scells_new w1 [bs [97, 98], bs [97, 98, 99], bs [97], bs [97, 98, 99, 100]] 9)
  have hszw3 := D1.out.rd.box.lt
  go_wp2_with fail
  refine (Hof5.out _ (p + 1) _ (by exact ND2.out) (by omega) (by omega) D2.out.rd).mono ?_
  rintro e w3 ⟨⟨vs, rfl, vs0, vs1⟩, hr, hg⟩
  have D3 := Lib.hid (D2.out.step hr hg)
  clear hr hg
  go_wp2_with fail
  refine (Hpk.out 2 (p + 1 + 1) _ (by omega) (by omega) D3.out.rd).mono ?_
  rintro e w4 ⟨⟨b, rfl, b0, b1, _⟩, hr, hg⟩
  have D4 := Lib.hid (D3.out.step hr hg)
  clear hr hg
  clear b1
  have hz0 : 0 ≤ 1 + m := by omega
  have hz4 : 1 + m ≤ 4 := by omega
  have HD := Lib.hid (fun (c : Bool) (W : World) (h : Rd W rb A n cap (p + 1 + 1 + 1)) => l2Draw_at rb A n cap (p + 1 + 1 + 1) vs vs0 vs1 c (1 + m) hz0 hz4 W h (by omega))
  by_cases e0 : b = 0
  · subst e0
    go_wp2_with fail
    refine (HD.out _ _ D4.out.rd).mono ?_
    rintro e w5 ⟨⟨t, p5, rfl, t0, t1, hp5, hr⟩, hg⟩
    have D5 := Lib.hid (D4.out.step hr hg)
    clear hr hg
    go_wp2_with fail
    go_ret
    exact ⟨⟨t, p5, rfl, t0, t1, by omega, D5.out.rd⟩, D5.out.gr⟩
  · have f0 : (b == 0) = false := by rw [beq_eq_false_iff_ne]; exact e0
    go_wp2_with fail
    refine (HD.out _ _ D4.out.rd).mono ?_
    rintro e w5 ⟨⟨t, p5, rfl, t0, t1, hp5, hr⟩, hg⟩
    have D5 := Lib.hid (D4.out.step hr hg)
    clear hr hg
    go_wp2_with fail
    go_ret
    exact ⟨⟨t, p5, rfl, t0, t1, by omega, D5.out.rd⟩, D5.out.gr⟩

set_option maxHeartbeats 4000000 in
set_option maxRecDepth 100000 in
theorem l2Bad_calls (rb : Nat) (A : Option Addr) (n cap p : Nat) (f : ByteArray) (hf0 : 0 < f.size) (hf : f.size ≤ 900) (w : World) (h : Rd w rb A n cap p) (hp : p ≤ 400000000200) :
    Calls Tryd.prog 84 #[.pointer (some ⟨rb, 0, none⟩), .string f] w fun e w' => FmO rb A n cap p (f.size + 1) 3 e w' ∧ w.grownBy w' (some rb) := by
  have Hpk := Lib.hid (show ∀ (k : Int) (q : Nat) (V : World), k ≤ 1000 → q ≤ 1000000000000 → Rd V rb A n cap q → Calls Tryd.prog 46 #[.pointer (some ⟨rb, 0, none⟩), .int .i64 k] V fun e w' => PickP k e ∧ Rd w' rb A n cap (q + 1) ∧ V.grownBy w' (some rb) from fun k q V hk hq hr => pick_calls rb A n cap q k V hr (by omega) (by omega))
  have Hof6 := Lib.hid (show ∀ (g q : Nat) (W : World), SCells W g [bs [116], bs [97], bs [32]] → g ≠ rb → q ≤ 1000000000000 → Rd W rb A n cap q → Calls Tryd.prog 73 #[.pointer (some ⟨rb, 0, none⟩), .slice (some ⟨g, 0, none⟩) 3 3] W fun e w' => (∃ t : ByteArray, e = .returned (.string t) ∧ 1 ≤ t.size ∧ t.size ≤ 1) ∧ Rd w' rb A n cap (q + 1) ∧ W.grownBy w' (some rb) from
    fun g q W h1 h2 h4 h3 => (of_calls rb A n cap q g 3 [bs [116], bs [97], bs [32]] W h3 (by omega) (by simp) (by simp) h1 h2).mono fun e w' ⟨⟨m, h4, h5⟩, h6⟩ => ⟨⟨m, h4, by
      simp only [List.mem_cons, List.not_mem_nil, or_false] at h5
      rcases h5 with rfl | rfl | rfl <;> decide⟩, h6⟩)
  have Hof7 := Lib.hid (show ∀ (g q : Nat) (W : World), SCells W g [bs [101], bs [65], bs [80], bs [53]] → g ≠ rb → q ≤ 1000000000000 → Rd W rb A n cap q → Calls Tryd.prog 73 #[.pointer (some ⟨rb, 0, none⟩), .slice (some ⟨g, 0, none⟩) 4 4] W fun e w' => (∃ t : ByteArray, e = .returned (.string t) ∧ 1 ≤ t.size ∧ t.size ≤ 1) ∧ Rd w' rb A n cap (q + 1) ∧ W.grownBy w' (some rb) from
    fun g q W h1 h2 h4 h3 => (of_calls rb A n cap q g 4 [bs [101], bs [65], bs [80], bs [53]] W h3 (by omega) (by simp) (by simp) h1 h2).mono fun e w' ⟨⟨m, h4, h5⟩, h6⟩ => ⟨⟨m, h4, by
      simp only [List.mem_cons, List.not_mem_nil, or_false] at h5
      rcases h5 with rfl | rfl | rfl | rfl <;> decide⟩, h6⟩)
  have D0 := Lib.hid (Dw.new h)
  have hrl := h.box.lt
  have hfi : (f.size : Int) ≤ 900 := by omega
  have hfi0 : 1 ≤ (f.size : Int) := by omega
  clear h
  go_enter Tryd.func84, Tryd.ntmps84
  go_wp2_with fail
  refine (Hpk.out 30 (p) _ (by omega) (by omega) D0.out.rd).mono ?_
  rintro e w1 ⟨⟨m, rfl, m0, m1, _⟩, hr, hg⟩
  have D1 := Lib.hid (D0.out.step hr hg)
  clear hr hg
  clear m1
  by_cases e0 : m = 0
  · subst e0
    have D2 := Lib.hid (D1.out.alloc (.cells #[.string ⟨#[116]⟩, .string ⟨#[97]⟩, .string ⟨#[32]⟩] 9))
    have ND2 := Lib.hid (scells_new w1 [bs [116], bs [97], bs [32]] 9)
    have hszw3 := D1.out.rd.box.lt
    go_wp2_with fail
    refine (Hof6.out _ (p + 1) _ (by exact ND2.out) (by omega) (by omega) D2.out.rd).mono ?_
    rintro e w3 ⟨⟨t, rfl, t0, t1⟩, hr, hg⟩
    have D3 := Lib.hid (D2.out.step hr hg)
    clear hr hg
    go_wp2_with fail
    go_ret
    exact ⟨⟨_, p + 1 + 1, rfl, by rw [ByteArray.size_append]; omega, by omega, D3.out.rd⟩, D3.out.gr⟩
  · have f0 : (m == 0) = false := by rw [beq_eq_false_iff_ne]; exact e0
    by_cases e1 : m = 1
    · subst e1
      go_wp2_with fail
      go_ret
      exact ⟨⟨_, p + 1, rfl, by rw [ByteArray.size_extract]; omega, by omega, D1.out.rd⟩, D1.out.gr⟩
    · have f1 : (m == 1) = false := by rw [beq_eq_false_iff_ne]; exact e1
      by_cases e2 : m = 2
      · subst e2
        go_wp2_with fail
        refine (Hpk.out (f.size : Int) (p + 1) _ (by omega) (by omega) D1.out.rd).mono ?_
        rintro e w2 ⟨⟨k, rfl, k0, k1, _⟩, hr, hg⟩
        have D2 := Lib.hid (D1.out.step hr hg)
        clear hr hg
        have klt := k1 (by omega)
        clear k1
        obtain ⟨kn, rfl⟩ : ∃ x : Nat, k = (x : Nat) := ⟨k.toNat, by omega⟩
        have hwk : IntKind.i64.wrap ((kn : Int) + 1) = (kn : Int) + 1 := IntWalk.i64_in _ (by omega)
        have he1 : (f.extract 0 kn).size = kn := by rw [ByteArray.size_extract]; omega
        have he2 : (f.extract (kn + 1) f.size).size = f.size - kn - 1 := by rw [ByteArray.size_extract]; omega
        have hrl2 := D2.out.rd.box.lt
        go_upto_region 8 with (fail)
        refine region_sched [(0, true), (1, true), (2, true), (3, true), (7, true), (8, true), (9, true), (10, true), (4, false), (5, false), (6, true), (11, true), (12, true)] (fun _ : World => True) (by kernel_rfl) (by kernel_rfl) (by kernel_rfl) (by kernel_rfl) (fun _ _ _ _ h => h) ?_ (fun Q1 hQ1 => ?_)
        · exact True.intro
        try simp only [List.append]
        refine sched_take' (v := ?_) (a' := ?_) rfl (by kernel_rfl) ?_ rfl ?_ ?_
        rotate_left 2
        · intro w hSw
          (try dsimp only at hSw)
          go_simp
          try with_reducible rfl
        · (try simp only [Act.put, List.setIfInBounds_toArray, List.set_cons_zero, List.set_cons_succ])
          try rfl
        refine sched_take' (v := ?_) (a' := ?_) rfl (by kernel_rfl) ?_ rfl ?_ ?_
        rotate_left 2
        · intro w hSw
          (try dsimp only at hSw)
          go_simp
          try with_reducible rfl
        · (try simp only [Act.put, List.setIfInBounds_toArray, List.set_cons_zero, List.set_cons_succ])
          try rfl
        refine sched_take' (v := .string (f.extract 0 kn)) (a' := ?_) rfl (by kernel_rfl) ?_ rfl ?_ ?_
        rotate_left 1
        · intro w hSw
          (try dsimp only at hSw)
          go_simp
          first | done | omega | (intro hq; exfalso; omega) | (intro hq; exfalso; have := hq (by omega); omega) | (rw [if_pos (by omega)] <;> first | rfl | (congr 3; omega)) | (rw [if_pos ⟨by omega, by omega⟩] <;> first | rfl | (congr 3; omega))
        · (try simp only [Act.put, List.setIfInBounds_toArray, List.set_cons_zero, List.set_cons_succ])
          try rfl
        refine sched_take' (v := ?_) (a' := ?_) rfl (by kernel_rfl) ?_ rfl ?_ ?_
        rotate_left 2
        · intro w hSw
          (try dsimp only at hSw)
          go_simp
          try with_reducible rfl
        · (try simp only [Act.put, List.setIfInBounds_toArray, List.set_cons_zero, List.set_cons_succ])
          try rfl
        refine sched_take' (v := ?_) (a' := ?_) rfl (by kernel_rfl) ?_ rfl ?_ ?_
        rotate_left 2
        · intro w hSw
          (try dsimp only at hSw)
          go_simp
          try with_reducible rfl
        · (try simp only [Act.put, List.setIfInBounds_toArray, List.set_cons_zero, List.set_cons_succ])
          try rfl
        refine sched_take' (v := ?_) (a' := ?_) rfl (by kernel_rfl) ?_ rfl ?_ ?_
        rotate_left 2
        · intro w hSw
          (try dsimp only at hSw)
          go_simp
          try with_reducible rfl
        · (try simp only [Act.put, List.setIfInBounds_toArray, List.set_cons_zero, List.set_cons_succ])
          try rfl
        refine sched_take' (v := .int .i64 ((kn : Int) + 1)) (a' := ?_) rfl (by kernel_rfl) ?_ rfl ?_ ?_
        rotate_left 1
        · intro w hSw
          (try dsimp only at hSw)
          go_simp
          first | done | (simp [hwk]; done) | rw [hwk]
        · (try simp only [Act.put, List.setIfInBounds_toArray, List.set_cons_zero, List.set_cons_succ])
          try rfl
        refine sched_take' (v := .string (f.extract (kn + 1) f.size)) (a' := ?_) rfl (by kernel_rfl) ?_ rfl ?_ ?_
        rotate_left 1
        · intro w hSw
          (try dsimp only at hSw)
          go_simp
          first | done | (intro hq; exfalso; have := hq (by omega); omega) | (rw [if_pos (by omega)] <;> first | rfl | (congr 3; omega)) | (rw [if_pos ⟨by omega, by omega⟩] <;> first | rfl | (congr 3; omega))
        · (try simp only [Act.put, List.setIfInBounds_toArray, List.set_cons_zero, List.set_cons_succ])
          try rfl
        refine sched_call rfl (by kernel_rfl) (fun K1 hK1 => ?_)
        go_simp
        refine hK1.out _ _ ?_ (sched_lay (a' := ?_) ?_ ?_)
        · exact True.intro
        rotate_left 1
        · (try simp only [Act.put, List.getElem_toArray, List.getElem_cons_succ, List.getElem_cons_zero, List.setIfInBounds_toArray, List.set_cons_zero, List.set_cons_succ])
          try rfl
        clear hK1 K1
        refine sched_call rfl (by kernel_rfl) (fun K1 hK1 => ?_)
        go_simp
        refine (Hof7.out _ (p + 1 + 1) _ (by exact scells_new w2.drew [bs [101], bs [65], bs [80], bs [53]] 9) (by have := D2.out.rd.box.lt; have e : w2.drew.heap.size = w2.heap.size := rfl; omega) (by omega) (D2.out.drew.alloc _).rd).mono ?_
        rintro e w9 ⟨⟨t, rfl, t0, t1⟩, hr, hg⟩
        have D9 := Lib.hid ((D2.out.drew.alloc _).step hr hg)
        clear hr hg
        go_wp2_with fail
        refine hK1.out _ _ ?_ (sched_lay (a' := ?_) ?_ ?_)
        · exact True.intro
        rotate_left 1
        · (try simp only [Act.put, List.getElem_toArray, List.getElem_cons_succ, List.getElem_cons_zero, List.setIfInBounds_toArray, List.set_cons_zero, List.set_cons_succ])
          try rfl
        clear hK1 K1
        refine sched_take' (v := .string (f.extract 0 kn ++ t)) (a' := ?_) rfl (by kernel_rfl) ?_ rfl ?_ ?_
        rotate_left 1
        · intro w hSw
          (try dsimp only at hSw)
          go_simp
          first | done | omega | (simp only [he1]; omega)
        · (try simp only [Act.put, List.setIfInBounds_toArray, List.set_cons_zero, List.set_cons_succ])
          try rfl
        refine sched_take' (v := .string (f.extract 0 kn ++ t ++ f.extract (kn + 1) f.size)) (a' := ?_) rfl (by kernel_rfl) ?_ rfl ?_ ?_
        rotate_left 1
        · intro w hSw
          (try dsimp only at hSw)
          go_simp
          first | done | omega | (simp only [ByteArray.size_append, he1, he2]; omega)
        · (try simp only [Act.put, List.setIfInBounds_toArray, List.set_cons_zero, List.set_cons_succ])
          try rfl
        refine sched_take' (v := ?_) (a' := ?_) rfl (by kernel_rfl) ?_ rfl ?_ ?_
        rotate_left 2
        · intro w hSw
          (try dsimp only at hSw)
          go_simp
          try with_reducible rfl
        · (try simp only [Act.put, List.setIfInBounds_toArray, List.set_cons_zero, List.set_cons_succ])
          try rfl
        refine sched_done (hQ1.out _ _ ?_)
        go_wp2_with fail
        go_ret
        exact ⟨⟨_, p + 1 + 1 + 1, rfl, by rw [ByteArray.size_append, ByteArray.size_append, he1, he2]; omega, by omega, D9.out.rd⟩, D9.out.gr⟩
      · have f2 : (m == 2) = false := by rw [beq_eq_false_iff_ne]; exact e2
        go_wp2_with fail
        go_ret
        exact ⟨⟨_, p + 1, rfl, by omega, by omega, D1.out.rd⟩, D1.out.gr⟩

set_option maxRecDepth 100000 in
theorem l2Open_calls (rb : Nat) (A : Option Addr) (n cap p : Nat) (w : World) (h : Rd w rb A n cap p) (hp : p ≤ 400000000000) :
    Calls Tryd.prog 44 #[.pointer (some ⟨rb, 0, none⟩)] w fun e w' => FmO rb A n cap p 64 203 e w' ∧ w.grownBy w' (some rb) := by
  have D0 := Lib.hid (Dw.new h)
  clear h
  go_enter Tryd.func44, Tryd.ntmps44
  go_wp2_with fail
  refine (l2Some_calls rb A n cap p _ D0.out.rd hp).mono ?_
  rintro e w1 ⟨⟨t, p1, rfl, t0, t1, hp1, hr⟩, hg⟩
  have D1 := Lib.hid (D0.out.step hr hg)
  clear hr hg
  go_wp2_with fail
  refine (l2Bad_calls rb A n cap p1 t t0 (by omega) _ D1.out.rd (by omega)).mono ?_
  rintro e w2 ⟨⟨t2, p2, rfl, u1, hp2, hr⟩, hg⟩
  have D2 := Lib.hid (D1.out.step hr hg)
  clear hr hg
  go_wp2_with fail
  go_ret
  exact ⟨⟨t2, p2, rfl, by omega, by omega, D2.out.rd⟩, D2.out.gr⟩

end Go.Proofs.YtjdnjhoddlalaaaDoor

namespace Go.Proofs.YtjdnjhoddlalaaaDoor
open Go.RowKit
open Pl
set_option linter.unusedSimpArgs false
set_option linter.unusedVariables false

/-- a number that a machine holds -/
def IOk (i : Int) : Prop := (Lit.int .i64 i).wf = true
theorem iok_of {i : Int} (h0 : -1000 ≤ i) (h1 : i ≤ 1000) : IOk i := by
  have h2 : IntKind.i64.min = -9223372036854775808 := by decide
  have h3 : IntKind.i64.max = 9223372036854775807 := by decide
  show (decide (IntKind.i64.min ≤ i) && decide (i ≤ IntKind.i64.max)) = true
  rw [h2, h3]
  simp
  omega

/-- a drawn structure, perhaps not valid -/
def BadS (rb : Nat) (A : Option Addr) (n cap p : Nat) (an : Int) (e : Ending) (w' : World) : Prop := ∃ (i : Int) (s r : ByteArray) (p' : Nat), e = .returned (stV i s r) ∧ IOk i ∧ s.size ≤ 100 ∧ r.size ≤ 100 ∧ p' ≤ p + 300 ∧ Rd w' rb A n cap p' ∧ (i = an ∨ i ≤ 0 ∨ an < i)
/-- a drawn number -/
def ElS (rb : Nat) (A : Option Addr) (n cap p : Nat) (e : Ending) (w' : World) : Prop := ∃ (x : Int) (p' : Nat), e = .returned (.int .i64 x) ∧ IOk x ∧ p' ≤ p + 2 ∧ Rd w' rb A n cap p'

set_option maxRecDepth 100000 in
theorem el_list {m : Int} (h : m ∈ [-1, 8, 7, 9223372036854775807]) : IOk m := by
  simp only [List.mem_cons, List.not_mem_nil, or_false] at h
  rcases h with rfl | rfl | rfl | rfl <;> (unfold IOk; decide)
set_option maxRecDepth 100000 in
theorem bad_list {m k : Int} (hk : IOk k) (h : m ∈ [0, -1, k, 9, 9223372036854775807]) : IOk m := by
  simp only [List.mem_cons, List.not_mem_nil, or_false] at h
  rcases h with rfl | rfl | rfl | rfl | rfl
  · unfold IOk; decide
  · unfold IOk; decide
  · exact hk
  · unfold IOk; decide
  · unfold IOk; decide

theorem bad_far {m : Int} {k : Nat} (hk : k ≤ 5) (h : m ∈ [0, -1, (k : Int) + 1, 9, 9223372036854775807]) : m ≤ 0 ∨ (k : Int) < m := by
  simp only [List.mem_cons, List.not_mem_nil, or_false] at h
  rcases h with rfl | rfl | rfl | rfl | rfl
  · exact .inl (by omega)
  · exact .inl (by omega)
  · exact .inr (by omega)
  · exact .inr (by omega)
  · exact .inr (by omega)

set_option maxHeartbeats 2000000 in
set_option maxRecDepth 100000 in
theorem l1Bad_calls (rb : Nat) (A : Option Addr) (n cap p : Nat) (a : St) (ha : a.ok) (han : a.n ≤ 5) (w : World) (h : Rd w rb A n cap p) (hp : p ≤ 549755800000) :
    Calls Tryd.prog 82 #[.pointer (some ⟨rb, 0, none⟩), stA a] w fun e w' => BadS rb A n cap p (a.n : Int) e w' ∧ w.grownBy w' (some rb) := by
  have hpk : ∀ (k : Int) (q : Nat) (V : World), k ≤ 100 → q ≤ p + 200 → Rd V rb A n cap q → Calls Tryd.prog 46 #[.pointer (some ⟨rb, 0, none⟩), .int .i64 k] V fun e w' => PickP k e ∧ Rd w' rb A n cap (q + 1) ∧ V.grownBy w' (some rb) := fun k q V hk hq hr => pick_calls rb A n cap q k V hr (by omega) (by omega)
  have hnum : ∀ (g : Nat) (W : World), NCells W g [0, -1, (a.n : Int) + 1, 9, 9223372036854775807] → g ≠ rb → Rd W rb A n cap (p + 1) → Calls Tryd.prog 45 #[.pointer (some ⟨rb, 0, none⟩), .slice (some ⟨g, 0, none⟩) 5 5] W fun e w' => (∃ k : Int, e = .returned (.int .i64 k) ∧ IOk k ∧ (k ≤ 0 ∨ (a.n : Int) < k)) ∧ Rd w' rb A n cap (p + 1 + 1) ∧ W.grownBy w' (some rb) :=
    fun g W h1 h2 h3 => (num_calls rb A n cap (p + 1) g 5 [0, -1, (a.n : Int) + 1, 9, 9223372036854775807] W h3 (by omega) (by simp) (by simp) h1 h2).mono fun e w' ⟨⟨m, h4, h5⟩, h6⟩ => ⟨⟨m, h4, bad_list (iok_of (by omega) (by omega)) h5, bad_far han h5⟩, h6⟩
  have hof : ∀ (g : Nat) (W : World), SCells W g [bs [], bs [50], bs [48, 49]] → g ≠ rb → Rd W rb A n cap (p + 1) → Calls Tryd.prog 73 #[.pointer (some ⟨rb, 0, none⟩), .slice (some ⟨g, 0, none⟩) 3 3] W fun e w' => (∃ t : ByteArray, e = .returned (.string t) ∧ t.size ≤ 2) ∧ Rd w' rb A n cap (p + 1 + 1) ∧ W.grownBy w' (some rb) :=
    fun g W h1 h2 h3 => (of_calls rb A n cap (p + 1) g 3 [bs [], bs [50], bs [48, 49]] W h3 (by omega) (by simp) (by simp) h1 h2).mono fun e w' ⟨⟨m, h4, h5⟩, h6⟩ => ⟨⟨m, h4, by
      simp only [List.mem_cons, List.not_mem_nil, or_false] at h5
      rcases h5 with rfl | rfl | rfl <;> decide⟩, h6⟩
  have hm1 : ∀ W, Calls Tryd.prog 110 #[.string (bs [48]), .int .i64 9] W fun e w' => (∃ t : ByteArray, e = .returned (.string t) ∧ t.size ≤ 81) ∧ W = w' := fun W => l15Many_calls (bs [48]) 9 W (by decide) (by omega)
  have hm2 : ∀ W, Calls Tryd.prog 110 #[.string (bs [49]), .int .i64 81] W fun e w' => (∃ t : ByteArray, e = .returned (.string t) ∧ t.size ≤ 81) ∧ W = w' := fun W => l15Many_calls (bs [49]) 81 W (by decide) (by omega)
  have hss : (bs a.set).size ≤ 5 ∧ (bs a.rel).size ≤ 25 ∧ 0 < (bs a.rel).size := by
    have h1 := ha.sl; have h2 := ha.rl; have h3 := ha.lo
    have h4 : a.n * a.n ≤ 5 * 5 := Nat.mul_le_mul han han
    have h5 : 1 * 1 ≤ a.n * a.n := Nat.mul_le_mul h3 h3
    rw [bs_size, bs_size]
    omega
  obtain ⟨hs5, hr5, hr0⟩ := hss
  have hn1 := ha.lo
  have D0 := Lib.hid (((Dw.new h).alloc (.cells #[.int .i64 (a.n : Int), .string (bs a.set), .string (bs a.rel)] 24)).alloc (.cells #[.int .i64 0, .string (bs []), .string (bs [])] 24))
  have X0 := Lib.hid ((Bx.new w 24 #[.int .i64 (a.n : Int), .string (bs a.set), .string (bs a.rel)]).alloc (.cells #[.int .i64 0, .string (bs []), .string (bs [])] 24))
  have Y0 := Lib.hid (bx_two w (.cells #[.int .i64 (a.n : Int), .string (bs a.set), .string (bs a.rel)] 24) #[.int .i64 0, .string (bs []), .string (bs [])] (t := 24))
  have hb : ∀ (i : Int) (s r : ByteArray) (q : Nat) (V : World), IOk i → (i = (a.n : Int) ∨ i ≤ 0 ∨ (a.n : Int) < i) → s.size ≤ 100 → r.size ≤ 100 → q ≤ p + 300 → Dw w rb A n cap q V → BadS rb A n cap p (a.n : Int) (.returned (stV i s r)) V ∧ w.grownBy V (some rb) := fun i s r q V h1 h0 h2 h3 h4 h5 => ⟨⟨i, s, r, q, rfl, h1, h2, h3, h4, h5.rd, h0⟩, h5.gr⟩
  have HB := Lib.hid hb
  have Hnum := Lib.hid hnum
  have Hpk := Lib.hid hpk
  have Hof := Lib.hid hof
  have Hm1 := Lib.hid hm1
  have Hm2 := Lib.hid hm2
  have hrl := h.box.lt
  clear hnum hpk hof hm1 hm2 h ha hb
  generalize hS : bs a.set = S at *
  generalize hR : bs a.rel = R at *
  have hni : (1 : Int) ≤ (a.n : Int) := by omega
  have hni5 : (a.n : Int) ≤ 5 := by omega
  show Calls Tryd.prog 82 #[.pointer (some ⟨rb, 0, none⟩), stV (a.n : Int) (bs a.set) (bs a.rel)] w _
  rw [hS, hR]
  clear hS hR
  go_enter Tryd.func82, Tryd.ntmps82
  go_wp2_with fail
  refine (Hpk.out 40 p _ (by omega) (by omega) D0.out.rd).mono ?_
  rintro e w1 ⟨⟨m, rfl, hm0, hm1, _⟩, hr, hg⟩
  have D1 := Lib.hid (D0.out.step hr hg)
  have X1 := Lib.hid (X0.out.dw hg hrl)
  have Y1 := Lib.hid (Y0.out.dw hg (by omega))
  have hs1 : w.heap.size + 2 ≤ w1.heap.size := by have := hg.size; simpa using this
  obtain ⟨c0, c1, c2⟩ := box_load X1.out
  have e0 := X1.out.free 0
  have e1 := X1.out.free 1
  have e2 := X1.out.free 2
  obtain ⟨d0, d1, d2⟩ := box_load Y1.out
  have f0 := Y1.out.free 0
  have f1 := Y1.out.free 1
  have f2 := Y1.out.free 2
  clear hr hg hm1
  have tl : ∀ (V : World) (i : Int) (s r : ByteArray) (q : Nat), Bx V w.heap.size 24 #[.int .i64 i, .string s, .string r] → Bx V (w.heap.size + 1) 24 #[.int .i64 0, .string (bs []), .string (bs [])] → Dw w rb A n cap q V → True := fun _ _ _ _ _ _ _ _ => trivial
  clear tl
  by_cases h0 : m = 0
  · subst h0
    have D2 := Lib.hid (D1.out.alloc (.cells #[.int .i64 0, .int .i64 (-1), .int .i64 ((a.n : Int) + 1), .int .i64 9, .int .i64 9223372036854775807] 3))
    have X2 := Lib.hid (X1.out.alloc (.cells #[.int .i64 0, .int .i64 (-1), .int .i64 ((a.n : Int) + 1), .int .i64 9, .int .i64 9223372036854775807] 3))
    have Y2 := Lib.hid (Y1.out.alloc (.cells #[.int .i64 0, .int .i64 (-1), .int .i64 ((a.n : Int) + 1), .int .i64 9, .int .i64 9223372036854775807] 3))
    have N2 := Lib.hid (ncells_new w1 [0, -1, (a.n : Int) + 1, 9, 9223372036854775807] 3)
    clear d0 d1 d2 f0 f1 f2
    go_wp2_with fail
    refine (Hnum.out _ _ (by have := N2.out; simpa using this) (by omega) D2.out.rd).mono ?_
    clear c0 c1 c2 e0 e1 e2
    rintro e w2 ⟨⟨k, rfl, hk, hkf⟩, hr, hg⟩
    have HKF := Lib.hid hkf
    clear hkf
    have D3 := Lib.hid (((D2.out.step hr hg).put (Nat.le_refl _) 0 (.int .i64 k)).puts (Nat.le_succ _) (.int .i64 k) (.string S) (.string R))
    have x3 := X2.out.dw hg hrl
    have y3 := Y2.out.dw hg (by omega)
    obtain ⟨c0, c1, c2⟩ := box_load x3
    have e0 := x3.free 0
    obtain ⟨d0, d1, d2⟩ := box_load y3
    have f0 := y3.free 0
    have f1 := y3.free 1
    have f2 := y3.free 2
    obtain ⟨q0, q1, q2⟩ := box_load ((y3.far (p := ⟨w.heap.size, 0, none⟩) (by simp) (.int .i64 k)).puts (.int .i64 k) (.string S) (.string R))
    have HK := Lib.hid hk
    clear hr hg hk x3 y3
    go_wp2_with fail
    refine bodyPost_ret (v := stV k S R) ?_ rfl (HB.out _ _ _ _ _ HK.out (.inr HKF.out) (by omega) (by omega) (by omega) D3.out)
    simp [results, Tryd.results82, go_sem, q0, q1, q2]
  by_cases h1 : m = 1
  · subst h1
    have D2 := Lib.hid ((D1.out.put (Nat.le_refl _) 1 (.string (S ++ ⟨#[48]⟩))).puts (Nat.le_succ _) (.int .i64 (a.n : Int)) (.string (S ++ ⟨#[48]⟩)) (.string R))
    obtain ⟨q0, q1, q2⟩ := box_load ((Y1.out.far (p := ⟨w.heap.size, 1, none⟩) (by simp) (.string (S ++ ⟨#[48]⟩))).puts (.int .i64 (a.n : Int)) (.string (S ++ ⟨#[48]⟩)) (.string R))
    have hz : (S ++ ⟨#[48]⟩).size ≤ 6 := by rw [ByteArray.size_append]; have : (ByteArray.mk #[48]).size = 1 := rfl; omega
    have Hz := Lib.hid hz
    clear hz
    go_wp2_with fail
    refine bodyPost_ret (v := stV (a.n : Int) (S ++ ⟨#[48]⟩) R) ?_ rfl (HB.out _ _ _ _ _ (iok_of (by omega) (by omega)) (.inl rfl) (by have := Hz.out; omega) (by omega) (by omega) D2.out)
    simp [results, Tryd.results82, go_sem, q0, q1, q2]
  by_cases h2 : m = 2
  · subst h2
    have hrs : (R.size : Int) - 1 ≤ R.size := by omega
    have hr1 : (1 : Int) ≤ (R.size : Int) := by omega
    have hr2 : (R.size : Int) ≤ 25 := by omega
    have hr3 : IntKind.i64.wrap ((R.size : Int) - 1) = (R.size : Int) - 1 := IntWalk.i64_in _ (by omega)
    have D2 := Lib.hid (D1.out.drew.alloc (.cells #[.string (bs []), .string (bs [50]), .string (bs [48, 49])] 9))
    have X2 := Lib.hid (X1.out.drew.alloc (.cells #[.string (bs []), .string (bs [50]), .string (bs [48, 49])] 9))
    have Y2 := Lib.hid (Y1.out.drew.alloc (.cells #[.string (bs []), .string (bs [50]), .string (bs [48, 49])] 9))
    have N2 := Lib.hid (scells_new w1.drew [bs [], bs [50], bs [48, 49]] 9)
    go_upto_region 7 with (fail)
    refine R2.region_sched [(0, true), (1, true), (2, true), (3, true), (4, true), (5, true), (6, true), (7, true), (8, false), (9, false), (10, true), (11, true), (12, false)] 12 (fun w' : World => w'.cell? ⟨w.heap.size, 2, none⟩ = some (.string R)) (by kernel_rfl) (by kernel_rfl) (by kernel_rfl) (by kernel_rfl) (by kernel_rfl) (fun _ _ _ _ h => h) ?_ (fun Q1 hQ1 => ?_)
    · exact c2
    try simp only [List.append]
    refine R2.sched_take' (v := ?_) (a' := ?_) rfl (by kernel_rfl) ?_ rfl ?_ ?_
    rotate_left 2
    · intro w hSw
      (try dsimp only at hSw)
      go_simp
      try with_reducible rfl
    · (try simp only [Act.put, List.setIfInBounds_toArray, List.set_cons_zero, List.set_cons_succ])
      try rfl
    refine R2.sched_take' (v := ?_) (a' := ?_) rfl (by kernel_rfl) ?_ rfl ?_ ?_
    rotate_left 2
    · intro w hSw
      (try dsimp only at hSw)
      go_simp
      try with_reducible rfl
    · (try simp only [Act.put, List.setIfInBounds_toArray, List.set_cons_zero, List.set_cons_succ])
      try rfl
    refine R2.sched_take' (v := ?_) (a' := ?_) rfl (by kernel_rfl) ?_ rfl ?_ ?_
    rotate_left 2
    · intro w hSw
      (try dsimp only at hSw)
      go_simp
      try with_reducible rfl
    · (try simp only [Act.put, List.setIfInBounds_toArray, List.set_cons_zero, List.set_cons_succ])
      try rfl
    refine R2.sched_take' (v := ?_) (a' := ?_) rfl (by kernel_rfl) ?_ rfl ?_ ?_
    rotate_left 2
    · intro w hSw
      (try dsimp only at hSw)
      go_simp
      try with_reducible rfl
    · (try simp only [Act.put, List.setIfInBounds_toArray, List.set_cons_zero, List.set_cons_succ])
      try rfl
    refine R2.sched_take' (v := ?_) (a' := ?_) rfl (by kernel_rfl) ?_ rfl ?_ ?_
    rotate_left 2
    · intro w hSw
      (try dsimp only at hSw)
      go_simp
      try with_reducible rfl
    · (try simp only [Act.put, List.setIfInBounds_toArray, List.set_cons_zero, List.set_cons_succ])
      try rfl
    refine R2.sched_take' (v := ?_) (a' := ?_) rfl (by kernel_rfl) ?_ rfl ?_ ?_
    rotate_left 2
    · intro w hSw
      (try dsimp only at hSw)
      go_simp
      try with_reducible rfl
    · (try simp only [Act.put, List.setIfInBounds_toArray, List.set_cons_zero, List.set_cons_succ])
      try rfl
    refine R2.sched_take' (v := ?_) (a' := ?_) rfl (by kernel_rfl) ?_ rfl ?_ ?_
    rotate_left 2
    · intro w hSw
      (try dsimp only at hSw)
      go_simp
      try with_reducible rfl
    · (try simp only [Act.put, List.setIfInBounds_toArray, List.set_cons_zero, List.set_cons_succ])
      try rfl
    refine R2.sched_take' (v := ?_) (a' := ?_) rfl (by kernel_rfl) ?_ rfl ?_ ?_
    rotate_left 2
    · intro w hSw
      (try dsimp only at hSw)
      go_simp
      try with_reducible rfl
    · (try simp only [Act.put, List.setIfInBounds_toArray, List.set_cons_zero, List.set_cons_succ])
      try rfl
    refine R2.sched_call rfl (by kernel_rfl) (fun K1 hK1 => ?_)
    go_simp
    refine hK1.out _ _ ?_ (R2.sched_lay (a' := ?_) ?_ ?_)
    · exact X2.out.cell 2
    rotate_left 1
    · (try simp only [Act.put, List.getElem_toArray, List.getElem_cons_succ, List.getElem_cons_zero, List.setIfInBounds_toArray, List.set_cons_zero, List.set_cons_succ])
      try rfl
    clear hK1 K1
    refine R2.sched_call rfl (by kernel_rfl) (fun K1 hK1 => ?_)
    go_simp
    refine (Hof.out _ _ (by have := N2.out; simpa using this) (by omega) D2.out.rd).mono ?_
    rintro e w2 ⟨⟨t, rfl, ht⟩, hr, hg⟩
    have D3 := Lib.hid (D2.out.step hr hg)
    have X3 := Lib.hid (X2.out.dw hg hrl)
    have Y3 := Lib.hid (Y2.out.dw hg (by omega))
    clear hr hg
    go_wp2_with fail
    refine hK1.out _ _ ?_ (R2.sched_lay (a' := ?_) ?_ ?_)
    · exact X3.out.cell 2
    rotate_left 1
    · (try simp only [Act.put, List.getElem_toArray, List.getElem_cons_succ, List.getElem_cons_zero, List.setIfInBounds_toArray, List.set_cons_zero, List.set_cons_succ])
      try rfl
    clear hK1 K1
    refine R2.sched_take' (v := .string (R.extract 0 (R.size - 1) ++ t)) (a' := ?_) rfl (by kernel_rfl) ?_ rfl ?_ ?_
    rotate_left 1
    · intro w hSw
      (try dsimp only at hSw)
      go_simp
      first | omega | (rw [if_neg (by omega)])
    · (try simp only [Act.put, List.setIfInBounds_toArray, List.set_cons_zero, List.set_cons_succ])
      try rfl
    refine R2.sched_take' (v := ?_) (a' := ?_) rfl (by kernel_rfl) ?_ rfl ?_ ?_
    rotate_left 2
    · intro w hSw
      (try dsimp only at hSw)
      go_simp
      try with_reducible rfl
    · (try simp only [Act.put, List.setIfInBounds_toArray, List.set_cons_zero, List.set_cons_succ])
      try rfl
    have hU : (R.extract 0 (R.size - 1) ++ t).size ≤ 30 := by rw [ByteArray.size_append, ByteArray.size_extract]; omega
    generalize hUe : R.extract 0 (R.size - 1) ++ t = U at *
    clear hUe
    clear c0 c1 c2 e0 e1 e2 d0 d1 d2 f0 f1 f2
    have e2 := X3.out.free 2
    obtain ⟨c0, c1, c2⟩ := box_load X3.out
    refine R2.sched_last rfl (by kernel_rfl) (fun K1 hK1 => ?_)
    go_simp
    refine hK1.out _ _ (R2.sched_lay (a' := ?_) ?_ ?_)
    rotate_left 1
    · (try simp only [Act.put, List.getElem_toArray, List.getElem_cons_succ, List.getElem_cons_zero, List.setIfInBounds_toArray, List.set_cons_zero, List.set_cons_succ])
      try rfl
    clear hK1 K1
    refine R2.sched_done (hQ1.out _ _ ?_)
    clear c0 c1 c2 e2
    have x4 := X3.out.set 2 (.string U)
    obtain ⟨c0, c1, c2⟩ := box_load (a := .int .i64 (a.n : Int)) (b := .string S) (c := .string U) x4
    have y4 := Y3.out.far (p := ⟨w.heap.size, 2, none⟩) (by simp) (.string U)
    obtain ⟨d0, d1, d2⟩ := box_load y4
    have f0 := y4.free 0
    have f1 := y4.free 1
    have f2 := y4.free 2
    have D4 := Lib.hid ((D3.out.put (Nat.le_refl _) 2 (.string U)).puts (Nat.le_succ _) (.int .i64 (a.n : Int)) (.string S) (.string U))
    obtain ⟨q0, q1, q2⟩ := box_load (y4.puts (.int .i64 (a.n : Int)) (.string S) (.string U))
    clear x4 y4
    go_wp2_with fail
    refine bodyPost_ret (v := stV (a.n : Int) S U) ?_ rfl (HB.out _ _ _ _ _ (iok_of (by omega) (by omega)) (.inl rfl) (by omega) (by omega) (by omega) D4.out)
    simp [results, Tryd.results82, go_sem, q0, q1, q2]
  by_cases h3 : m = 3
  · subst h3
    go_wp2_with fail
    refine (Hm1.out _).mono ?_
    rintro e w2 ⟨⟨t, rfl, ht⟩, rfl⟩
    go_wp2_with fail
    refine (Hm2.out _).mono ?_
    rintro e w2 ⟨⟨u, rfl, hu⟩, rfl⟩
    have D2 := Lib.hid (D1.out.puts (Nat.le_succ _) (.int .i64 9) (.string t) (.string u))
    obtain ⟨q0, q1, q2⟩ := box_load (Y1.out.puts (.int .i64 9) (.string t) (.string u))
    go_wp2_with fail
    refine bodyPost_ret (v := stV 9 t u) ?_ rfl (HB.out _ _ _ _ _ (iok_of (by omega) (by omega)) (.inr (.inr (by omega))) (by omega) (by omega) (by omega) D2.out)
    simp [results, Tryd.results82, go_sem, q0, q1, q2]
  have b0 : (m == 0) = false := by simp; omega
  have b1 : (m == 1) = false := by simp; omega
  have b2 : (m == 2) = false := by simp; omega
  have b3 : (m == 3) = false := by simp; omega
  have D2 := Lib.hid (D1.out.puts (Nat.le_succ _) (.int .i64 (a.n : Int)) (.string S) (.string R))
  obtain ⟨q0, q1, q2⟩ := box_load (Y1.out.puts (.int .i64 (a.n : Int)) (.string S) (.string R))
  go_wp2_with fail
  refine bodyPost_ret (v := stV (a.n : Int) S R) ?_ rfl (HB.out _ _ _ _ _ (iok_of (by omega) (by omega)) (.inl rfl) (by omega) (by omega) (by omega) D2.out)
  simp [results, Tryd.results82, go_sem, q0, q1, q2]

set_option maxHeartbeats 1000000 in
theorem l1Open_calls (rb : Nat) (A : Option Addr) (n cap p : Nat) (w : World) (h : Rd w rb A n cap p) (hp : p ≤ 500000000000) :
    Calls Tryd.prog 43 #[.pointer (some ⟨rb, 0, none⟩)] w fun e w' => (∃ (i : Int) (s r : ByteArray) (p' : Nat), e = .returned (stV i s r) ∧ IOk i ∧ s.size ≤ 100 ∧ r.size ≤ 100 ∧ p' ≤ p + 500 ∧ Rd w' rb A n cap p') ∧ w.grownBy w' (some rb) := by
  have hs := fun W h => l1Some_calls rb A n cap p W h (by omega)
  have hb := fun a ha h5 p' (hp' : p' ≤ p + 101) W h => l1Bad_calls rb A n cap p' a ha h5 W h (by omega)
  have D0 := Lib.hid ((Dw.new h).alloc (.cells #[.int .i64 0, .string (bs []), .string (bs [])] 24))
  have X0 := Lib.hid (Bx.new w 24 #[.int .i64 0, .string (bs []), .string (bs [])])
  have Hs := Lib.hid hs
  have Hb := Lib.hid hb
  have hrl := h.box.lt
  clear hs hb h
  go_enter Tryd.func43, Tryd.ntmps43
  go_wp2_with fail
  refine (Hs.out _ D0.out.rd).mono ?_
  rintro e w1 ⟨⟨a, p1, rfl, ha, han, hp1, hr⟩, hg⟩
  have D1 := Lib.hid (D0.out.step hr hg)
  have X1 := Lib.hid (X0.out.dw hg hrl)
  have Ha := Lib.hid ha
  clear hr hg ha
  go_wp2_with fail
  refine (Hb.out a Ha.out han p1 hp1 _ D1.out.rd).mono ?_
  rintro e w2 ⟨⟨i, s, r, p2, rfl, hi, hsz, hrz, hp2, hr, _⟩, hg⟩
  have D2 := Lib.hid (D1.out.step hr hg)
  have hax := X1.out.dw hg hrl
  obtain ⟨c0, c1, c2⟩ := box_load hax
  have f0 := hax.free 0
  have f1 := hax.free 1
  have f2 := hax.free 2
  have D3 := Lib.hid (D2.out.puts (Nat.le_refl _) (.int .i64 i) (.string s) (.string r))
  obtain ⟨q0, q1, q2⟩ := box_load (hax.puts (.int .i64 i) (.string s) (.string r))
  have HI := Lib.hid hi
  clear hr hg hax hi
  go_wp2_with fail
  refine bodyPost_ret (v := stV i s r) ?_ rfl ⟨⟨i, s, r, p2, rfl, HI.out, hsz, hrz, by omega, D3.out.rd⟩, D3.out.gr⟩
  simp [results, Tryd.results43, go_sem, q0, q1, q2]

end Go.Proofs.YtjdnjhoddlalaaaDoor

namespace Go.Proofs.YtjdnjhoddlalaaaDoor
open Go.RowKit
open Pl
set_option linter.unusedSimpArgs false
set_option linter.unusedVariables false

end Go.Proofs.YtjdnjhoddlalaaaDoor

namespace Go.Proofs.YtjdnjhoddlalaaaDoor
open Go.RowKit
open Pl
set_option linter.unusedSimpArgs false
set_option linter.unusedVariables false

theorem fmt_no {i : Int} {s r : ByteArray} (h : okB i s r = false) : fmtV i s r = bs [] := by unfold fmtV; rw [h]; rfl
theorem fmt_yes {i : Int} {s r : ByteArray} (h : okB i s r = true) : fmtV i s r = s ++ ⟨#[58]⟩ ++ r := by unfold fmtV; rw [h]; rfl

theorem resV_form (o : Option St) : ∃ (j : Int) (S R : ByteArray) (b : Bool), resV o = .tuple #[stV j S R, .bool b] := by
  cases o with
  | none => exact ⟨_, _, _, _, rfl⟩
  | some a => exact ⟨_, _, _, _, rfl⟩

end Go.Proofs.YtjdnjhoddlalaaaDoor

namespace Go.Proofs.YtjdnjhoddlalaaaDoor
open Go.RowKit
open Pl
set_option linter.unusedSimpArgs false
set_option linter.unusedVariables false

theorem byte_of {z : Int} (h : (Lit.int .u8 z).wf = true) : ∃ b : Nat, b < 256 ∧ z = b := by
  have h2 : IntKind.u8.min = 0 := by decide
  have h3 : IntKind.u8.max = 255 := by decide
  have h4 : (decide (IntKind.u8.min ≤ z) && decide (z ≤ IntKind.u8.max)) = true := h
  rw [h2, h3] at h4
  simp at h4
  exact ⟨z.toNat, by omega, by omega⟩

theorem ByRow.call {w w' : World} {A : Option Addr} {n : Nat} (h : ByRow w A n) (hb : Below w.heap.size w w') : ByRow w' A n := fun hn => by
  obtain ⟨x, rfl, hc⟩ := h hn
  refine ⟨x, rfl, fun i hi => ?_⟩
  obtain ⟨b, hb2, hcell⟩ := hc i hi
  exact ⟨b, hb2, (hb.cell (World.block_lt_of_cell? w _ hcell)).trans hcell⟩

/-- what is known while something is drawn from bytes: the reader, new; all that was before is as it was -/
structure Fr (w : World) (rb : Nat) (A : Option Addr) (n cap p : Nat) (V : World) : Prop where
  rd : Rd V rb A n cap p
  bel : Below w.heap.size w V
  rge : w.heap.size ≤ rb

theorem Fr.step {w V V' : World} {rb n cap p p' : Nat} {A : Option Addr} (h : Fr w rb A n cap p V) (hr : Rd V' rb A n cap p') (hg : V.grownBy V' (some rb)) : Fr w rb A n cap p' V' :=
  ⟨hr, h.bel.grown hg h.bel.size (fun j hj => by have := h.rge; have e : rb = j := Option.some.inj hj; omega), h.rge⟩
theorem Fr.call {w V V' : World} {rb n cap p : Nat} {A : Option Addr} (h : Fr w rb A n cap p V) (hb : Below V.heap.size V V') : Fr w rb A n cap p V' := ⟨h.rd.call hb, h.bel.trans (hb.mono h.bel.size), h.rge⟩
theorem Fr.alloc {w V : World} {rb n cap p : Nat} {A : Option Addr} (h : Fr w rb A n cap p V) (o : Obj) : Fr w rb A n cap p (V.alloc o) := ⟨h.rd.alloc o, h.bel.alloc h.bel.size o, h.rge⟩
theorem Fr.drew {w V : World} {rb n cap p : Nat} {A : Option Addr} (h : Fr w rb A n cap p V) : Fr w rb A n cap p V.drew := ⟨h.rd.drew, h.bel.drew, h.rge⟩
theorem Rd.put {V : World} {rb n cap p g : Nat} {A : Option Addr} (hr : Rd V rb A n cap p) (hg : rb < g) (i : Nat) (v : Value) : Rd (V.setCell ⟨g, i, none⟩ v) rb A n cap p := by
  refine ⟨hr.box.far (by simp; omega) _, ?_, hr.small, hr.sep⟩
  intro h0
  obtain ⟨x, rfl, hc⟩ := hr.row h0
  have hx := hr.sep h0 x rfl
  refine ⟨x, rfl, fun i hi => ?_⟩
  obtain ⟨b, hb, hcell⟩ := hc i hi
  refine ⟨b, hb, ?_⟩
  rw [← hcell]
  have hbl : (x.add i).block = x.block := by unfold Addr.add; split <;> rfl
  exact World.cell?_of_block (by rw [hbl]; exact Below.heap_setCell V _ _ _ (by simp; omega))
theorem Fr.put {w V : World} {rb n cap p g : Nat} {A : Option Addr} (h : Fr w rb A n cap p V) (hg : rb < g) (i : Nat) (v : Value) : Fr w rb A n cap p (V.setCell ⟨g, i, none⟩ v) :=
  ⟨h.rd.put hg i v, h.bel.setCell (by have := h.rge; simp; omega) v, h.rge⟩
theorem Fr.puts {w V : World} {rb n cap p g : Nat} {A : Option Addr} (h : Fr w rb A n cap p V) (hg : rb < g) (a b c : Value) : Fr w rb A n cap p (((V.setCell ⟨g, 0, none⟩ a).setCell ⟨g, 1, none⟩ b).setCell ⟨g, 2, none⟩ c) :=
  ((h.put hg 0 a).put hg 1 b).put hg 2 c
theorem below_puts {w V : World} {g : Nat} (h : Below w.heap.size w V) (hg : w.heap.size ≤ g) (a b c : Value) : Below w.heap.size w (((V.setCell ⟨g, 0, none⟩ a).setCell ⟨g, 1, none⟩ b).setCell ⟨g, 2, none⟩ c) :=
  ((h.setCell (by simpa using hg) a).setCell (by simpa using hg) b).setCell (by simpa using hg) c
/-- the reader that is new -/
theorem Fr.new {w V V' : World} {A : Option Addr} {n cap p rb : Nat} (h : Below w.heap.size w V) (hr : Rd V' V.heap.size A n cap p) (hb : Below V.heap.size V V') (hrb : V.heap.size = rb) : Fr w rb A n cap p V' :=
  hrb ▸ ⟨hr, h.trans (hb.mono h.size), h.size⟩

def StS (e : Ending) : Prop := ∃ (i : Int) (s r : ByteArray), e = .returned (stV i s r) ∧ IOk i ∧ s.size ≤ 100 ∧ r.size ≤ 100
def StX (e : Ending) : Prop := ∃ (i : Int) (s r : ByteArray) (x : Int), e = .returned (.tuple #[stV i s r, .int .i64 x]) ∧ IOk i ∧ s.size ≤ 100 ∧ r.size ≤ 100 ∧ IOk x


end Go.Proofs.YtjdnjhoddlalaaaDoor
