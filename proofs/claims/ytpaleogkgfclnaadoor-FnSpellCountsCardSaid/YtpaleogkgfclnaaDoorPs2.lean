/-
  Laws of the functions that the claim reaches, one after the other (packed by a program of the prover's: FmDraw2, Draw5, TurnS, Fmt, Draw6, Reg3, Part, Placed, EachA, App, Draw7, Draw10, DrawSp). Conditions: texts below the reach.
-/
import Derived.Test.YtpaleogkgfclnaaDoorPs1
import Derived.Test.YtpaleogkgfclnaaDoorPs0
import Derived.Maps.AppendAt
import Derived.Deep.DrawnRows
import Derived.Deep.AppendLies
set_option linter.unusedSimpArgs false
set_option linter.unusedVariables false

namespace Go.Proofs.YtpaleogkgfclnaaDoor
open Go.RowKit
open Pl
set_option linter.unusedSimpArgs false
set_option linter.unusedVariables false

/-- a drawn text, perhaps no formula -/
def FmO (rb : Nat) (A : Option Addr) (n cap p B D : Nat) (e : Ending) (w' : World) : Prop := ∃ (t : ByteArray) (p' : Nat), e = .returned (.string t) ∧ t.size ≤ B ∧ p' ≤ p + D ∧ Rd w' rb A n cap p'
theorem l2Draw_at (rb : Nat) (A : Option Addr) (n cap p : Nat) (vs : ByteArray) (hv0 : 0 < vs.size) (hv4 : vs.size ≤ 4) (c : Bool) (z : Int) (hz0 : 0 ≤ z) (hz4 : z ≤ 4) (w : World) (h : Rd w rb A n cap p) (hp : p ≤ 499000000000) :
    Calls Tryd.prog 28 #[.pointer (some ⟨rb, 0, none⟩), .int .i64 z, .string vs, .bool c] w fun e w' => FmD rb A n cap p 63 186 e w' ∧ w.grownBy w' (some rb) := by
  obtain ⟨d, rfl⟩ : ∃ d : Nat, z = (d : Nat) := ⟨z.toNat, by omega⟩
  have hd : d ≤ 4 := by omega
  have hM : 2 ^ d ≤ 16 ∧ 1 ≤ 2 ^ d := by
    have : d = 0 ∨ d = 1 ∨ d = 2 ∨ d = 3 ∨ d = 4 := by omega
    rcases this with rfl | rfl | rfl | rfl | rfl <;> decide
  exact (l2Draw_calls rb A n cap vs hv0 hv4 c d hd p w h (by omega)).mono fun e w' ⟨h1, h2⟩ => ⟨h1.mono (by omega) (by omega), h2⟩

set_option maxHeartbeats 2000000 in
set_option maxRecDepth 100000 in
theorem l2Some_calls (rb : Nat) (A : Option Addr) (n cap p : Nat) (w : World) (h : Rd w rb A n cap p) (hp : p ≤ 400000000000) :
    Calls Tryd.prog 48 #[.pointer (some ⟨rb, 0, none⟩)] w fun e w' => FmD rb A n cap p 63 200 e w' ∧ w.grownBy w' (some rb) := by
  have Hpk := Lib.hid (show ∀ (k : Int) (q : Nat) (V : World), k ≤ 1000 → q ≤ 1000000000000 → Rd V rb A n cap q → Calls Tryd.prog 24 #[.pointer (some ⟨rb, 0, none⟩), .int .i64 k] V fun e w' => PickP k e ∧ Rd w' rb A n cap (q + 1) ∧ V.grownBy w' (some rb) from fun k q V hk hq hr => pick_calls rb A n cap q k V hr (by omega) (by omega))
  have Hof5 := Lib.hid (show ∀ (g q : Nat) (W : World), SCells W g [bs [97, 98], bs [97, 98, 99], bs [97], bs [97, 98, 99, 100]] → g ≠ rb → q ≤ 1000000000000 → Rd W rb A n cap q → Calls Tryd.prog 27 #[.pointer (some ⟨rb, 0, none⟩), .slice (some ⟨g, 0, none⟩) 4 4] W fun e w' => (∃ t : ByteArray, e = .returned (.string t) ∧ 1 ≤ t.size ∧ t.size ≤ 4) ∧ Rd w' rb A n cap (q + 1) ∧ W.grownBy w' (some rb) from
    fun g q W h1 h2 h4 h3 => (of_calls rb A n cap q g 4 [bs [97, 98], bs [97, 98, 99], bs [97], bs [97, 98, 99, 100]] W h3 (by omega) (by simp) (by simp) h1 h2).mono fun e w' ⟨⟨m, h4, h5⟩, h6⟩ => ⟨⟨m, h4, by
      simp only [List.mem_cons, List.not_mem_nil, or_false] at h5
      rcases h5 with rfl | rfl | rfl | rfl <;> decide⟩, h6⟩)
  have D0 := Lib.hid (Dw.new h)
  have hrl := h.box.lt
  clear h
  go_enter Tryd.func48, Tryd.ntmps48
  go_wp2_with fail
  refine (Hpk.out 4 (p) _ (by omega) (by omega) D0.out.rd).mono ?_
  rintro e w1 ⟨⟨m, rfl, m0, m1, _⟩, hr, hg⟩
  have D1 := Lib.hid (D0.out.step hr hg)
  clear hr hg
  have m4 := m1 (by omega)
  clear m1
  have D2 := Lib.hid (D1.out.alloc (.cells #[.string ⟨#[97, 98]⟩, .string ⟨#[97, 98, 99]⟩, .string ⟨#[97]⟩, .string ⟨#[97, 98, 99, 100]⟩] 9))
  have ND2 := Lib.hid (scells_new w1 [bs [97, 98], bs [97, 98, 99], bs [97], bs [97, 98, 99, 100]] 9)
  have hszw3 := D1.out.rd.box.lt
  go_wp2_with fail
  refine (Hof5.out _ (p + 1) _ (by exact ND2.out) (by omega) (by omega) D2.out.rd).mono ?_
  rintro e w3 ⟨⟨vs, rfl, vs0, vs1⟩, hr, hg⟩
  have D3 := Lib.hid (D2.out.step hr hg)
  clear hr hg
  go_wp2_with fail
  refine (Hpk.out 2 (p + 1 + 1) _ (by omega) (by omega) D3.out.rd).mono ?_
  rintro e w4 ⟨⟨b, rfl, b0, b1, _⟩, hr, hg⟩
  have D4 := Lib.hid (D3.out.step hr hg)
  clear hr hg
  clear b1
  have hz0 : 0 ≤ 1 + m := by omega
  have hz4 : 1 + m ≤ 4 := by omega
  have HD := Lib.hid (fun (c : Bool) (W : World) (h : Rd W rb A n cap (p + 1 + 1 + 1)) => l2Draw_at rb A n cap (p + 1 + 1 + 1) vs vs0 vs1 c (1 + m) hz0 hz4 W h (by omega))
  by_cases e0 : b = 0
  · subst e0
    go_wp2_with fail
    refine (HD.out _ _ D4.out.rd).mono ?_
    rintro e w5 ⟨⟨t, p5, rfl, t0, t1, hp5, hr⟩, hg⟩
    have D5 := Lib.hid (D4.out.step hr hg)
    clear hr hg
    go_wp2_with fail
    go_ret
    exact ⟨⟨t, p5, rfl, t0, t1, by omega, D5.out.rd⟩, D5.out.gr⟩
  · have f0 : (b == 0) = false := by rw [beq_eq_false_iff_ne]; exact e0
    go_wp2_with fail
    refine (HD.out _ _ D4.out.rd).mono ?_
    rintro e w5 ⟨⟨t, p5, rfl, t0, t1, hp5, hr⟩, hg⟩
    have D5 := Lib.hid (D4.out.step hr hg)
    clear hr hg
    go_wp2_with fail
    go_ret
    exact ⟨⟨t, p5, rfl, t0, t1, by omega, D5.out.rd⟩, D5.out.gr⟩

set_option maxHeartbeats 4000000 in
set_option maxRecDepth 100000 in
theorem l2Bad_calls (rb : Nat) (A : Option Addr) (n cap p : Nat) (f : ByteArray) (hf0 : 0 < f.size) (hf : f.size ≤ 900) (w : World) (h : Rd w rb A n cap p) (hp : p ≤ 400000000200) :
    Calls Tryd.prog 26 #[.pointer (some ⟨rb, 0, none⟩), .string f] w fun e w' => FmO rb A n cap p (f.size + 1) 3 e w' ∧ w.grownBy w' (some rb) := by
  have Hpk := Lib.hid (show ∀ (k : Int) (q : Nat) (V : World), k ≤ 1000 → q ≤ 1000000000000 → Rd V rb A n cap q → Calls Tryd.prog 24 #[.pointer (some ⟨rb, 0, none⟩), .int .i64 k] V fun e w' => PickP k e ∧ Rd w' rb A n cap (q + 1) ∧ V.grownBy w' (some rb) from fun k q V hk hq hr => pick_calls rb A n cap q k V hr (by omega) (by omega))
  have Hof6 := Lib.hid (show ∀ (g q : Nat) (W : World), SCells W g [bs [116], bs [97], bs [32]] → g ≠ rb → q ≤ 1000000000000 → Rd W rb A n cap q → Calls Tryd.prog 27 #[.pointer (some ⟨rb, 0, none⟩), .slice (some ⟨g, 0, none⟩) 3 3] W fun e w' => (∃ t : ByteArray, e = .returned (.string t) ∧ 1 ≤ t.size ∧ t.size ≤ 1) ∧ Rd w' rb A n cap (q + 1) ∧ W.grownBy w' (some rb) from
    fun g q W h1 h2 h4 h3 => (of_calls rb A n cap q g 3 [bs [116], bs [97], bs [32]] W h3 (by omega) (by simp) (by simp) h1 h2).mono fun e w' ⟨⟨m, h4, h5⟩, h6⟩ => ⟨⟨m, h4, by
      simp only [List.mem_cons, List.not_mem_nil, or_false] at h5
      rcases h5 with rfl | rfl | rfl <;> decide⟩, h6⟩)
  have Hof7 := Lib.hid (show ∀ (g q : Nat) (W : World), SCells W g [bs [101], bs [65], bs [80], bs [53]] → g ≠ rb → q ≤ 1000000000000 → Rd W rb A n cap q → Calls Tryd.prog 27 #[.pointer (some ⟨rb, 0, none⟩), .slice (some ⟨g, 0, none⟩) 4 4] W fun e w' => (∃ t : ByteArray, e = .returned (.string t) ∧ 1 ≤ t.size ∧ t.size ≤ 1) ∧ Rd w' rb A n cap (q + 1) ∧ W.grownBy w' (some rb) from
    fun g q W h1 h2 h4 h3 => (of_calls rb A n cap q g 4 [bs [101], bs [65], bs [80], bs [53]] W h3 (by omega) (by simp) (by simp) h1 h2).mono fun e w' ⟨⟨m, h4, h5⟩, h6⟩ => ⟨⟨m, h4, by
      simp only [List.mem_cons, List.not_mem_nil, or_false] at h5
      rcases h5 with rfl | rfl | rfl | rfl <;> decide⟩, h6⟩)
  have D0 := Lib.hid (Dw.new h)
  have hrl := h.box.lt
  have hfi : (f.size : Int) ≤ 900 := by omega
  have hfi0 : 1 ≤ (f.size : Int) := by omega
  clear h
  go_enter Tryd.func26, Tryd.ntmps26
  go_wp2_with fail
  refine (Hpk.out 30 (p) _ (by omega) (by omega) D0.out.rd).mono ?_
  rintro e w1 ⟨⟨m, rfl, m0, m1, _⟩, hr, hg⟩
  have D1 := Lib.hid (D0.out.step hr hg)
  clear hr hg
  clear m1
  by_cases e0 : m = 0
  · subst e0
    have D2 := Lib.hid (D1.out.alloc (.cells #[.string ⟨#[116]⟩, .string ⟨#[97]⟩, .string ⟨#[32]⟩] 9))
    have ND2 := Lib.hid (scells_new w1 [bs [116], bs [97], bs [32]] 9)
    have hszw3 := D1.out.rd.box.lt
    go_wp2_with fail
    refine (Hof6.out _ (p + 1) _ (by exact ND2.out) (by omega) (by omega) D2.out.rd).mono ?_
    rintro e w3 ⟨⟨t, rfl, t0, t1⟩, hr, hg⟩
    have D3 := Lib.hid (D2.out.step hr hg)
    clear hr hg
    go_wp2_with fail
    go_ret
    exact ⟨⟨_, p + 1 + 1, rfl, by rw [ByteArray.size_append]; omega, by omega, D3.out.rd⟩, D3.out.gr⟩
  · have f0 : (m == 0) = false := by rw [beq_eq_false_iff_ne]; exact e0
    by_cases e1 : m = 1
    · subst e1
      go_wp2_with fail
      go_ret
      exact ⟨⟨_, p + 1, rfl, by rw [ByteArray.size_extract]; omega, by omega, D1.out.rd⟩, D1.out.gr⟩
    · have f1 : (m == 1) = false := by rw [beq_eq_false_iff_ne]; exact e1
      by_cases e2 : m = 2
      · subst e2
        go_wp2_with fail
        refine (Hpk.out (f.size : Int) (p + 1) _ (by omega) (by omega) D1.out.rd).mono ?_
        rintro e w2 ⟨⟨k, rfl, k0, k1, _⟩, hr, hg⟩
        have D2 := Lib.hid (D1.out.step hr hg)
        clear hr hg
        have klt := k1 (by omega)
        clear k1
        obtain ⟨kn, rfl⟩ : ∃ x : Nat, k = (x : Nat) := ⟨k.toNat, by omega⟩
        have hwk : IntKind.i64.wrap ((kn : Int) + 1) = (kn : Int) + 1 := IntWalk.i64_in _ (by omega)
        have he1 : (f.extract 0 kn).size = kn := by rw [ByteArray.size_extract]; omega
        have he2 : (f.extract (kn + 1) f.size).size = f.size - kn - 1 := by rw [ByteArray.size_extract]; omega
        have hrl2 := D2.out.rd.box.lt
        go_upto_region 8 with (fail)
        refine region_sched [(0, true), (1, true), (2, true), (3, true), (7, true), (8, true), (9, true), (10, true), (4, false), (5, false), (6, true), (11, true), (12, true)] (fun _ : World => True) (by kernel_rfl) (by kernel_rfl) (by kernel_rfl) (by kernel_rfl) (fun _ _ _ _ h => h) ?_ (fun Q1 hQ1 => ?_)
        · exact True.intro
        try simp only [List.append]
        refine sched_take' (v := ?_) (a' := ?_) rfl (by kernel_rfl) ?_ rfl ?_ ?_
        rotate_left 2
        · intro w hSw
          (try dsimp only at hSw)
          go_simp
          try with_reducible rfl
        · (try simp only [Act.put, List.setIfInBounds_toArray, List.set_cons_zero, List.set_cons_succ])
          try rfl
        refine sched_take' (v := ?_) (a' := ?_) rfl (by kernel_rfl) ?_ rfl ?_ ?_
        rotate_left 2
        · intro w hSw
          (try dsimp only at hSw)
          go_simp
          try with_reducible rfl
        · (try simp only [Act.put, List.setIfInBounds_toArray, List.set_cons_zero, List.set_cons_succ])
          try rfl
        refine sched_take' (v := .string (f.extract 0 kn)) (a' := ?_) rfl (by kernel_rfl) ?_ rfl ?_ ?_
        rotate_left 1
        · intro w hSw
          (try dsimp only at hSw)
          go_simp
          first | done | omega | (intro hq; exfalso; omega) | (intro hq; exfalso; have := hq (by omega); omega) | (rw [if_pos (by omega)] <;> first | rfl | (congr 3; omega)) | (rw [if_pos ⟨by omega, by omega⟩] <;> first | rfl | (congr 3; omega))
        · (try simp only [Act.put, List.setIfInBounds_toArray, List.set_cons_zero, List.set_cons_succ])
          try rfl
        refine sched_take' (v := ?_) (a' := ?_) rfl (by kernel_rfl) ?_ rfl ?_ ?_
        rotate_left 2
        · intro w hSw
          (try dsimp only at hSw)
          go_simp
          try with_reducible rfl
        · (try simp only [Act.put, List.setIfInBounds_toArray, List.set_cons_zero, List.set_cons_succ])
          try rfl
        refine sched_take' (v := ?_) (a' := ?_) rfl (by kernel_rfl) ?_ rfl ?_ ?_
        rotate_left 2
        · intro w hSw
          (try dsimp only at hSw)
          go_simp
          try with_reducible rfl
        · (try simp only [Act.put, List.setIfInBounds_toArray, List.set_cons_zero, List.set_cons_succ])
          try rfl
        refine sched_take' (v := ?_) (a' := ?_) rfl (by kernel_rfl) ?_ rfl ?_ ?_
        rotate_left 2
        · intro w hSw
          (try dsimp only at hSw)
          go_simp
          try with_reducible rfl
        · (try simp only [Act.put, List.setIfInBounds_toArray, List.set_cons_zero, List.set_cons_succ])
          try rfl
        refine sched_take' (v := .int .i64 ((kn : Int) + 1)) (a' := ?_) rfl (by kernel_rfl) ?_ rfl ?_ ?_
        rotate_left 1
        · intro w hSw
          (try dsimp only at hSw)
          go_simp
          first | done | (simp [hwk]; done) | rw [hwk]
        · (try simp only [Act.put, List.setIfInBounds_toArray, List.set_cons_zero, List.set_cons_succ])
          try rfl
        refine sched_take' (v := .string (f.extract (kn + 1) f.size)) (a' := ?_) rfl (by kernel_rfl) ?_ rfl ?_ ?_
        rotate_left 1
        · intro w hSw
          (try dsimp only at hSw)
          go_simp
          first | done | (intro hq; exfalso; have := hq (by omega); omega) | (rw [if_pos (by omega)] <;> first | rfl | (congr 3; omega)) | (rw [if_pos ⟨by omega, by omega⟩] <;> first | rfl | (congr 3; omega))
        · (try simp only [Act.put, List.setIfInBounds_toArray, List.set_cons_zero, List.set_cons_succ])
          try rfl
        refine sched_call rfl (by kernel_rfl) (fun K1 hK1 => ?_)
        go_simp
        refine hK1.out _ _ ?_ (sched_lay (a' := ?_) ?_ ?_)
        · exact True.intro
        rotate_left 1
        · (try simp only [Act.put, List.getElem_toArray, List.getElem_cons_succ, List.getElem_cons_zero, List.setIfInBounds_toArray, List.set_cons_zero, List.set_cons_succ])
          try rfl
        clear hK1 K1
        refine sched_call rfl (by kernel_rfl) (fun K1 hK1 => ?_)
        go_simp
        refine (Hof7.out _ (p + 1 + 1) _ (by exact scells_new w2.drew [bs [101], bs [65], bs [80], bs [53]] 9) (by have := D2.out.rd.box.lt; have e : w2.drew.heap.size = w2.heap.size := rfl; omega) (by omega) (D2.out.drew.alloc _).rd).mono ?_
        rintro e w9 ⟨⟨t, rfl, t0, t1⟩, hr, hg⟩
        have D9 := Lib.hid ((D2.out.drew.alloc _).step hr hg)
        clear hr hg
        go_wp2_with fail
        refine hK1.out _ _ ?_ (sched_lay (a' := ?_) ?_ ?_)
        · exact True.intro
        rotate_left 1
        · (try simp only [Act.put, List.getElem_toArray, List.getElem_cons_succ, List.getElem_cons_zero, List.setIfInBounds_toArray, List.set_cons_zero, List.set_cons_succ])
          try rfl
        clear hK1 K1
        refine sched_take' (v := .string (f.extract 0 kn ++ t)) (a' := ?_) rfl (by kernel_rfl) ?_ rfl ?_ ?_
        rotate_left 1
        · intro w hSw
          (try dsimp only at hSw)
          go_simp
          first | done | omega | (simp only [he1]; omega)
        · (try simp only [Act.put, List.setIfInBounds_toArray, List.set_cons_zero, List.set_cons_succ])
          try rfl
        refine sched_take' (v := .string (f.extract 0 kn ++ t ++ f.extract (kn + 1) f.size)) (a' := ?_) rfl (by kernel_rfl) ?_ rfl ?_ ?_
        rotate_left 1
        · intro w hSw
          (try dsimp only at hSw)
          go_simp
          first | done | omega | (simp only [ByteArray.size_append, he1, he2]; omega)
        · (try simp only [Act.put, List.setIfInBounds_toArray, List.set_cons_zero, List.set_cons_succ])
          try rfl
        refine sched_take' (v := ?_) (a' := ?_) rfl (by kernel_rfl) ?_ rfl ?_ ?_
        rotate_left 2
        · intro w hSw
          (try dsimp only at hSw)
          go_simp
          try with_reducible rfl
        · (try simp only [Act.put, List.setIfInBounds_toArray, List.set_cons_zero, List.set_cons_succ])
          try rfl
        refine sched_done (hQ1.out _ _ ?_)
        go_wp2_with fail
        go_ret
        exact ⟨⟨_, p + 1 + 1 + 1, rfl, by rw [ByteArray.size_append, ByteArray.size_append, he1, he2]; omega, by omega, D9.out.rd⟩, D9.out.gr⟩
      · have f2 : (m == 2) = false := by rw [beq_eq_false_iff_ne]; exact e2
        go_wp2_with fail
        go_ret
        exact ⟨⟨_, p + 1, rfl, by omega, by omega, D1.out.rd⟩, D1.out.gr⟩

set_option maxRecDepth 100000 in
theorem l2Open_calls (rb : Nat) (A : Option Addr) (n cap p : Nat) (w : World) (h : Rd w rb A n cap p) (hp : p ≤ 400000000000) :
    Calls Tryd.prog 25 #[.pointer (some ⟨rb, 0, none⟩)] w fun e w' => FmO rb A n cap p 64 203 e w' ∧ w.grownBy w' (some rb) := by
  have D0 := Lib.hid (Dw.new h)
  clear h
  go_enter Tryd.func25, Tryd.ntmps25
  go_wp2_with fail
  refine (l2Some_calls rb A n cap p _ D0.out.rd hp).mono ?_
  rintro e w1 ⟨⟨t, p1, rfl, t0, t1, hp1, hr⟩, hg⟩
  have D1 := Lib.hid (D0.out.step hr hg)
  clear hr hg
  go_wp2_with fail
  refine (l2Bad_calls rb A n cap p1 t t0 (by omega) _ D1.out.rd (by omega)).mono ?_
  rintro e w2 ⟨⟨t2, p2, rfl, u1, hp2, hr⟩, hg⟩
  have D2 := Lib.hid (D1.out.step hr hg)
  clear hr hg
  go_wp2_with fail
  go_ret
  exact ⟨⟨t2, p2, rfl, by omega, by omega, D2.out.rd⟩, D2.out.gr⟩

end Go.Proofs.YtpaleogkgfclnaaDoor

namespace Go.Proofs.YtpaleogkgfclnaaDoor
open Go.RowKit
open Pl
set_option linter.unusedSimpArgs false
set_option linter.unusedVariables false

/-- a number that a machine holds -/
def IOk (i : Int) : Prop := (Lit.int .i64 i).wf = true
theorem iok_of {i : Int} (h0 : -1000 ≤ i) (h1 : i ≤ 1000) : IOk i := by
  have h2 : IntKind.i64.min = -9223372036854775808 := by decide
  have h3 : IntKind.i64.max = 9223372036854775807 := by decide
  show (decide (IntKind.i64.min ≤ i) && decide (i ≤ IntKind.i64.max)) = true
  rw [h2, h3]
  simp
  omega

/-- a drawn structure, perhaps not valid -/
def BadS (rb : Nat) (A : Option Addr) (n cap p : Nat) (an : Int) (e : Ending) (w' : World) : Prop := ∃ (i : Int) (s r : ByteArray) (p' : Nat), e = .returned (stV i s r) ∧ IOk i ∧ s.size ≤ 100 ∧ r.size ≤ 100 ∧ p' ≤ p + 300 ∧ Rd w' rb A n cap p' ∧ (i = an ∨ i ≤ 0 ∨ an < i)
/-- a drawn number -/
def ElS (rb : Nat) (A : Option Addr) (n cap p : Nat) (e : Ending) (w' : World) : Prop := ∃ (x : Int) (p' : Nat), e = .returned (.int .i64 x) ∧ IOk x ∧ p' ≤ p + 2 ∧ Rd w' rb A n cap p'

set_option maxRecDepth 100000 in
theorem el_list {m : Int} (h : m ∈ [-1, 8, 7, 9223372036854775807]) : IOk m := by
  simp only [List.mem_cons, List.not_mem_nil, or_false] at h
  rcases h with rfl | rfl | rfl | rfl <;> (unfold IOk; decide)
set_option maxRecDepth 100000 in
theorem bad_list {m k : Int} (hk : IOk k) (h : m ∈ [0, -1, k, 9, 9223372036854775807]) : IOk m := by
  simp only [List.mem_cons, List.not_mem_nil, or_false] at h
  rcases h with rfl | rfl | rfl | rfl | rfl
  · unfold IOk; decide
  · unfold IOk; decide
  · exact hk
  · unfold IOk; decide
  · unfold IOk; decide

theorem bad_far {m : Int} {k : Nat} (hk : k ≤ 5) (h : m ∈ [0, -1, (k : Int) + 1, 9, 9223372036854775807]) : m ≤ 0 ∨ (k : Int) < m := by
  simp only [List.mem_cons, List.not_mem_nil, or_false] at h
  rcases h with rfl | rfl | rfl | rfl | rfl
  · exact .inl (by omega)
  · exact .inl (by omega)
  · exact .inr (by omega)
  · exact .inr (by omega)
  · exact .inr (by omega)

set_option maxHeartbeats 2000000 in
set_option maxRecDepth 100000 in
theorem l1Bad_calls (rb : Nat) (A : Option Addr) (n cap p : Nat) (a : St) (ha : a.ok) (han : a.n ≤ 5) (w : World) (h : Rd w rb A n cap p) (hp : p ≤ 549755800000) :
    Calls Tryd.prog 54 #[.pointer (some ⟨rb, 0, none⟩), stA a] w fun e w' => BadS rb A n cap p (a.n : Int) e w' ∧ w.grownBy w' (some rb) := by
  have hpk : ∀ (k : Int) (q : Nat) (V : World), k ≤ 100 → q ≤ p + 200 → Rd V rb A n cap q → Calls Tryd.prog 24 #[.pointer (some ⟨rb, 0, none⟩), .int .i64 k] V fun e w' => PickP k e ∧ Rd w' rb A n cap (q + 1) ∧ V.grownBy w' (some rb) := fun k q V hk hq hr => pick_calls rb A n cap q k V hr (by omega) (by omega)
  have hnum : ∀ (g : Nat) (W : World), NCells W g [0, -1, (a.n : Int) + 1, 9, 9223372036854775807] → g ≠ rb → Rd W rb A n cap (p + 1) → Calls Tryd.prog 79 #[.pointer (some ⟨rb, 0, none⟩), .slice (some ⟨g, 0, none⟩) 5 5] W fun e w' => (∃ k : Int, e = .returned (.int .i64 k) ∧ IOk k ∧ (k ≤ 0 ∨ (a.n : Int) < k)) ∧ Rd w' rb A n cap (p + 1 + 1) ∧ W.grownBy w' (some rb) :=
    fun g W h1 h2 h3 => (num_calls rb A n cap (p + 1) g 5 [0, -1, (a.n : Int) + 1, 9, 9223372036854775807] W h3 (by omega) (by simp) (by simp) h1 h2).mono fun e w' ⟨⟨m, h4, h5⟩, h6⟩ => ⟨⟨m, h4, bad_list (iok_of (by omega) (by omega)) h5, bad_far han h5⟩, h6⟩
  have hof : ∀ (g : Nat) (W : World), SCells W g [bs [], bs [50], bs [48, 49]] → g ≠ rb → Rd W rb A n cap (p + 1) → Calls Tryd.prog 27 #[.pointer (some ⟨rb, 0, none⟩), .slice (some ⟨g, 0, none⟩) 3 3] W fun e w' => (∃ t : ByteArray, e = .returned (.string t) ∧ t.size ≤ 2) ∧ Rd w' rb A n cap (p + 1 + 1) ∧ W.grownBy w' (some rb) :=
    fun g W h1 h2 h3 => (of_calls rb A n cap (p + 1) g 3 [bs [], bs [50], bs [48, 49]] W h3 (by omega) (by simp) (by simp) h1 h2).mono fun e w' ⟨⟨m, h4, h5⟩, h6⟩ => ⟨⟨m, h4, by
      simp only [List.mem_cons, List.not_mem_nil, or_false] at h5
      rcases h5 with rfl | rfl | rfl <;> decide⟩, h6⟩
  have hm1 : ∀ W, Calls Tryd.prog 80 #[.string (bs [48]), .int .i64 9] W fun e w' => (∃ t : ByteArray, e = .returned (.string t) ∧ t.size ≤ 81) ∧ W = w' := fun W => l15Many_calls (bs [48]) 9 W (by decide) (by omega)
  have hm2 : ∀ W, Calls Tryd.prog 80 #[.string (bs [49]), .int .i64 81] W fun e w' => (∃ t : ByteArray, e = .returned (.string t) ∧ t.size ≤ 81) ∧ W = w' := fun W => l15Many_calls (bs [49]) 81 W (by decide) (by omega)
  have hss : (bs a.set).size ≤ 5 ∧ (bs a.rel).size ≤ 25 ∧ 0 < (bs a.rel).size := by
    have h1 := ha.sl; have h2 := ha.rl; have h3 := ha.lo
    have h4 : a.n * a.n ≤ 5 * 5 := Nat.mul_le_mul han han
    have h5 : 1 * 1 ≤ a.n * a.n := Nat.mul_le_mul h3 h3
    rw [bs_size, bs_size]
    omega
  obtain ⟨hs5, hr5, hr0⟩ := hss
  have hn1 := ha.lo
  have D0 := Lib.hid (((Dw.new h).alloc (.cells #[.int .i64 (a.n : Int), .string (bs a.set), .string (bs a.rel)] 27)).alloc (.cells #[.int .i64 0, .string (bs []), .string (bs [])] 27))
  have X0 := Lib.hid ((Bx.new w 27 #[.int .i64 (a.n : Int), .string (bs a.set), .string (bs a.rel)]).alloc (.cells #[.int .i64 0, .string (bs []), .string (bs [])] 27))
  have Y0 := Lib.hid (bx_two w (.cells #[.int .i64 (a.n : Int), .string (bs a.set), .string (bs a.rel)] 27) #[.int .i64 0, .string (bs []), .string (bs [])] (t := 27))
  have hb : ∀ (i : Int) (s r : ByteArray) (q : Nat) (V : World), IOk i → (i = (a.n : Int) ∨ i ≤ 0 ∨ (a.n : Int) < i) → s.size ≤ 100 → r.size ≤ 100 → q ≤ p + 300 → Dw w rb A n cap q V → BadS rb A n cap p (a.n : Int) (.returned (stV i s r)) V ∧ w.grownBy V (some rb) := fun i s r q V h1 h0 h2 h3 h4 h5 => ⟨⟨i, s, r, q, rfl, h1, h2, h3, h4, h5.rd, h0⟩, h5.gr⟩
  have HB := Lib.hid hb
  have Hnum := Lib.hid hnum
  have Hpk := Lib.hid hpk
  have Hof := Lib.hid hof
  have Hm1 := Lib.hid hm1
  have Hm2 := Lib.hid hm2
  have hrl := h.box.lt
  clear hnum hpk hof hm1 hm2 h ha hb
  generalize hS : bs a.set = S at *
  generalize hR : bs a.rel = R at *
  have hni : (1 : Int) ≤ (a.n : Int) := by omega
  have hni5 : (a.n : Int) ≤ 5 := by omega
  show Calls Tryd.prog 54 #[.pointer (some ⟨rb, 0, none⟩), stV (a.n : Int) (bs a.set) (bs a.rel)] w _
  rw [hS, hR]
  clear hS hR
  go_enter Tryd.func54, Tryd.ntmps54
  go_wp2_with fail
  refine (Hpk.out 40 p _ (by omega) (by omega) D0.out.rd).mono ?_
  rintro e w1 ⟨⟨m, rfl, hm0, hm1, _⟩, hr, hg⟩
  have D1 := Lib.hid (D0.out.step hr hg)
  have X1 := Lib.hid (X0.out.dw hg hrl)
  have Y1 := Lib.hid (Y0.out.dw hg (by omega))
  have hs1 : w.heap.size + 2 ≤ w1.heap.size := by have := hg.size; simpa using this
  obtain ⟨c0, c1, c2⟩ := box_load X1.out
  have e0 := X1.out.free 0
  have e1 := X1.out.free 1
  have e2 := X1.out.free 2
  obtain ⟨d0, d1, d2⟩ := box_load Y1.out
  have f0 := Y1.out.free 0
  have f1 := Y1.out.free 1
  have f2 := Y1.out.free 2
  clear hr hg hm1
  have tl : ∀ (V : World) (i : Int) (s r : ByteArray) (q : Nat), Bx V w.heap.size 27 #[.int .i64 i, .string s, .string r] → Bx V (w.heap.size + 1) 27 #[.int .i64 0, .string (bs []), .string (bs [])] → Dw w rb A n cap q V → True := fun _ _ _ _ _ _ _ _ => trivial
  clear tl
  by_cases h0 : m = 0
  · subst h0
    have D2 := Lib.hid (D1.out.alloc (.cells #[.int .i64 0, .int .i64 (-1), .int .i64 ((a.n : Int) + 1), .int .i64 9, .int .i64 9223372036854775807] 3))
    have X2 := Lib.hid (X1.out.alloc (.cells #[.int .i64 0, .int .i64 (-1), .int .i64 ((a.n : Int) + 1), .int .i64 9, .int .i64 9223372036854775807] 3))
    have Y2 := Lib.hid (Y1.out.alloc (.cells #[.int .i64 0, .int .i64 (-1), .int .i64 ((a.n : Int) + 1), .int .i64 9, .int .i64 9223372036854775807] 3))
    have N2 := Lib.hid (ncells_new w1 [0, -1, (a.n : Int) + 1, 9, 9223372036854775807] 3)
    clear d0 d1 d2 f0 f1 f2
    go_wp2_with fail
    refine (Hnum.out _ _ (by have := N2.out; simpa using this) (by omega) D2.out.rd).mono ?_
    clear c0 c1 c2 e0 e1 e2
    rintro e w2 ⟨⟨k, rfl, hk, hkf⟩, hr, hg⟩
    have HKF := Lib.hid hkf
    clear hkf
    have D3 := Lib.hid (((D2.out.step hr hg).put (Nat.le_refl _) 0 (.int .i64 k)).puts (Nat.le_succ _) (.int .i64 k) (.string S) (.string R))
    have x3 := X2.out.dw hg hrl
    have y3 := Y2.out.dw hg (by omega)
    obtain ⟨c0, c1, c2⟩ := box_load x3
    have e0 := x3.free 0
    obtain ⟨d0, d1, d2⟩ := box_load y3
    have f0 := y3.free 0
    have f1 := y3.free 1
    have f2 := y3.free 2
    obtain ⟨q0, q1, q2⟩ := box_load ((y3.far (p := ⟨w.heap.size, 0, none⟩) (by simp) (.int .i64 k)).puts (.int .i64 k) (.string S) (.string R))
    have HK := Lib.hid hk
    clear hr hg hk x3 y3
    go_wp2_with fail
    refine bodyPost_ret (v := stV k S R) ?_ rfl (HB.out _ _ _ _ _ HK.out (.inr HKF.out) (by omega) (by omega) (by omega) D3.out)
    simp [results, Tryd.results54, go_sem, q0, q1, q2]
  by_cases h1 : m = 1
  · subst h1
    have D2 := Lib.hid ((D1.out.put (Nat.le_refl _) 1 (.string (S ++ ⟨#[48]⟩))).puts (Nat.le_succ _) (.int .i64 (a.n : Int)) (.string (S ++ ⟨#[48]⟩)) (.string R))
    obtain ⟨q0, q1, q2⟩ := box_load ((Y1.out.far (p := ⟨w.heap.size, 1, none⟩) (by simp) (.string (S ++ ⟨#[48]⟩))).puts (.int .i64 (a.n : Int)) (.string (S ++ ⟨#[48]⟩)) (.string R))
    have hz : (S ++ ⟨#[48]⟩).size ≤ 6 := by rw [ByteArray.size_append]; have : (ByteArray.mk #[48]).size = 1 := rfl; omega
    have Hz := Lib.hid hz
    clear hz
    go_wp2_with fail
    refine bodyPost_ret (v := stV (a.n : Int) (S ++ ⟨#[48]⟩) R) ?_ rfl (HB.out _ _ _ _ _ (iok_of (by omega) (by omega)) (.inl rfl) (by have := Hz.out; omega) (by omega) (by omega) D2.out)
    simp [results, Tryd.results54, go_sem, q0, q1, q2]
  by_cases h2 : m = 2
  · subst h2
    have hrs : (R.size : Int) - 1 ≤ R.size := by omega
    have hr1 : (1 : Int) ≤ (R.size : Int) := by omega
    have hr2 : (R.size : Int) ≤ 25 := by omega
    have hr3 : IntKind.i64.wrap ((R.size : Int) - 1) = (R.size : Int) - 1 := IntWalk.i64_in _ (by omega)
    have D2 := Lib.hid (D1.out.drew.alloc (.cells #[.string (bs []), .string (bs [50]), .string (bs [48, 49])] 9))
    have X2 := Lib.hid (X1.out.drew.alloc (.cells #[.string (bs []), .string (bs [50]), .string (bs [48, 49])] 9))
    have Y2 := Lib.hid (Y1.out.drew.alloc (.cells #[.string (bs []), .string (bs [50]), .string (bs [48, 49])] 9))
    have N2 := Lib.hid (scells_new w1.drew [bs [], bs [50], bs [48, 49]] 9)
    go_upto_region 7 with (fail)
    refine R2.region_sched [(0, true), (1, true), (2, true), (3, true), (4, true), (5, true), (6, true), (7, true), (8, false), (9, false), (10, true), (11, true), (12, false)] 12 (fun w' : World => w'.cell? ⟨w.heap.size, 2, none⟩ = some (.string R)) (by kernel_rfl) (by kernel_rfl) (by kernel_rfl) (by kernel_rfl) (by kernel_rfl) (fun _ _ _ _ h => h) ?_ (fun Q1 hQ1 => ?_)
    · exact c2
    try simp only [List.append]
    refine R2.sched_take' (v := ?_) (a' := ?_) rfl (by kernel_rfl) ?_ rfl ?_ ?_
    rotate_left 2
    · intro w hSw
      (try dsimp only at hSw)
      go_simp
      try with_reducible rfl
    · (try simp only [Act.put, List.setIfInBounds_toArray, List.set_cons_zero, List.set_cons_succ])
      try rfl
    refine R2.sched_take' (v := ?_) (a' := ?_) rfl (by kernel_rfl) ?_ rfl ?_ ?_
    rotate_left 2
    · intro w hSw
      (try dsimp only at hSw)
      go_simp
      try with_reducible rfl
    · (try simp only [Act.put, List.setIfInBounds_toArray, List.set_cons_zero, List.set_cons_succ])
      try rfl
    refine R2.sched_take' (v := ?_) (a' := ?_) rfl (by kernel_rfl) ?_ rfl ?_ ?_
    rotate_left 2
    · intro w hSw
      (try dsimp only at hSw)
      go_simp
      try with_reducible rfl
    · (try simp only [Act.put, List.setIfInBounds_toArray, List.set_cons_zero, List.set_cons_succ])
      try rfl
    refine R2.sched_take' (v := ?_) (a' := ?_) rfl (by kernel_rfl) ?_ rfl ?_ ?_
    rotate_left 2
    · intro w hSw
      (try dsimp only at hSw)
      go_simp
      try with_reducible rfl
    · (try simp only [Act.put, List.setIfInBounds_toArray, List.set_cons_zero, List.set_cons_succ])
      try rfl
    refine R2.sched_take' (v := ?_) (a' := ?_) rfl (by kernel_rfl) ?_ rfl ?_ ?_
    rotate_left 2
    · intro w hSw
      (try dsimp only at hSw)
      go_simp
      try with_reducible rfl
    · (try simp only [Act.put, List.setIfInBounds_toArray, List.set_cons_zero, List.set_cons_succ])
      try rfl
    refine R2.sched_take' (v := ?_) (a' := ?_) rfl (by kernel_rfl) ?_ rfl ?_ ?_
    rotate_left 2
    · intro w hSw
      (try dsimp only at hSw)
      go_simp
      try with_reducible rfl
    · (try simp only [Act.put, List.setIfInBounds_toArray, List.set_cons_zero, List.set_cons_succ])
      try rfl
    refine R2.sched_take' (v := ?_) (a' := ?_) rfl (by kernel_rfl) ?_ rfl ?_ ?_
    rotate_left 2
    · intro w hSw
      (try dsimp only at hSw)
      go_simp
      try with_reducible rfl
    · (try simp only [Act.put, List.setIfInBounds_toArray, List.set_cons_zero, List.set_cons_succ])
      try rfl
    refine R2.sched_take' (v := ?_) (a' := ?_) rfl (by kernel_rfl) ?_ rfl ?_ ?_
    rotate_left 2
    · intro w hSw
      (try dsimp only at hSw)
      go_simp
      try with_reducible rfl
    · (try simp only [Act.put, List.setIfInBounds_toArray, List.set_cons_zero, List.set_cons_succ])
      try rfl
    refine R2.sched_call rfl (by kernel_rfl) (fun K1 hK1 => ?_)
    go_simp
    refine hK1.out _ _ ?_ (R2.sched_lay (a' := ?_) ?_ ?_)
    · exact X2.out.cell 2
    rotate_left 1
    · (try simp only [Act.put, List.getElem_toArray, List.getElem_cons_succ, List.getElem_cons_zero, List.setIfInBounds_toArray, List.set_cons_zero, List.set_cons_succ])
      try rfl
    clear hK1 K1
    refine R2.sched_call rfl (by kernel_rfl) (fun K1 hK1 => ?_)
    go_simp
    refine (Hof.out _ _ (by have := N2.out; simpa using this) (by omega) D2.out.rd).mono ?_
    rintro e w2 ⟨⟨t, rfl, ht⟩, hr, hg⟩
    have D3 := Lib.hid (D2.out.step hr hg)
    have X3 := Lib.hid (X2.out.dw hg hrl)
    have Y3 := Lib.hid (Y2.out.dw hg (by omega))
    clear hr hg
    go_wp2_with fail
    refine hK1.out _ _ ?_ (R2.sched_lay (a' := ?_) ?_ ?_)
    · exact X3.out.cell 2
    rotate_left 1
    · (try simp only [Act.put, List.getElem_toArray, List.getElem_cons_succ, List.getElem_cons_zero, List.setIfInBounds_toArray, List.set_cons_zero, List.set_cons_succ])
      try rfl
    clear hK1 K1
    refine R2.sched_take' (v := .string (R.extract 0 (R.size - 1) ++ t)) (a' := ?_) rfl (by kernel_rfl) ?_ rfl ?_ ?_
    rotate_left 1
    · intro w hSw
      (try dsimp only at hSw)
      go_simp
      first | omega | (rw [if_neg (by omega)])
    · (try simp only [Act.put, List.setIfInBounds_toArray, List.set_cons_zero, List.set_cons_succ])
      try rfl
    refine R2.sched_take' (v := ?_) (a' := ?_) rfl (by kernel_rfl) ?_ rfl ?_ ?_
    rotate_left 2
    · intro w hSw
      (try dsimp only at hSw)
      go_simp
      try with_reducible rfl
    · (try simp only [Act.put, List.setIfInBounds_toArray, List.set_cons_zero, List.set_cons_succ])
      try rfl
    have hU : (R.extract 0 (R.size - 1) ++ t).size ≤ 30 := by rw [ByteArray.size_append, ByteArray.size_extract]; omega
    generalize hUe : R.extract 0 (R.size - 1) ++ t = U at *
    clear hUe
    clear c0 c1 c2 e0 e1 e2 d0 d1 d2 f0 f1 f2
    have e2 := X3.out.free 2
    obtain ⟨c0, c1, c2⟩ := box_load X3.out
    refine R2.sched_last rfl (by kernel_rfl) (fun K1 hK1 => ?_)
    go_simp
    refine hK1.out _ _ (R2.sched_lay (a' := ?_) ?_ ?_)
    rotate_left 1
    · (try simp only [Act.put, List.getElem_toArray, List.getElem_cons_succ, List.getElem_cons_zero, List.setIfInBounds_toArray, List.set_cons_zero, List.set_cons_succ])
      try rfl
    clear hK1 K1
    refine R2.sched_done (hQ1.out _ _ ?_)
    clear c0 c1 c2 e2
    have x4 := X3.out.set 2 (.string U)
    obtain ⟨c0, c1, c2⟩ := box_load (a := .int .i64 (a.n : Int)) (b := .string S) (c := .string U) x4
    have y4 := Y3.out.far (p := ⟨w.heap.size, 2, none⟩) (by simp) (.string U)
    obtain ⟨d0, d1, d2⟩ := box_load y4
    have f0 := y4.free 0
    have f1 := y4.free 1
    have f2 := y4.free 2
    have D4 := Lib.hid ((D3.out.put (Nat.le_refl _) 2 (.string U)).puts (Nat.le_succ _) (.int .i64 (a.n : Int)) (.string S) (.string U))
    obtain ⟨q0, q1, q2⟩ := box_load (y4.puts (.int .i64 (a.n : Int)) (.string S) (.string U))
    clear x4 y4
    go_wp2_with fail
    refine bodyPost_ret (v := stV (a.n : Int) S U) ?_ rfl (HB.out _ _ _ _ _ (iok_of (by omega) (by omega)) (.inl rfl) (by omega) (by omega) (by omega) D4.out)
    simp [results, Tryd.results54, go_sem, q0, q1, q2]
  by_cases h3 : m = 3
  · subst h3
    go_wp2_with fail
    refine (Hm1.out _).mono ?_
    rintro e w2 ⟨⟨t, rfl, ht⟩, rfl⟩
    go_wp2_with fail
    refine (Hm2.out _).mono ?_
    rintro e w2 ⟨⟨u, rfl, hu⟩, rfl⟩
    have D2 := Lib.hid (D1.out.puts (Nat.le_succ _) (.int .i64 9) (.string t) (.string u))
    obtain ⟨q0, q1, q2⟩ := box_load (Y1.out.puts (.int .i64 9) (.string t) (.string u))
    go_wp2_with fail
    refine bodyPost_ret (v := stV 9 t u) ?_ rfl (HB.out _ _ _ _ _ (iok_of (by omega) (by omega)) (.inr (.inr (by omega))) (by omega) (by omega) (by omega) D2.out)
    simp [results, Tryd.results54, go_sem, q0, q1, q2]
  have b0 : (m == 0) = false := by simp; omega
  have b1 : (m == 1) = false := by simp; omega
  have b2 : (m == 2) = false := by simp; omega
  have b3 : (m == 3) = false := by simp; omega
  have D2 := Lib.hid (D1.out.puts (Nat.le_succ _) (.int .i64 (a.n : Int)) (.string S) (.string R))
  obtain ⟨q0, q1, q2⟩ := box_load (Y1.out.puts (.int .i64 (a.n : Int)) (.string S) (.string R))
  go_wp2_with fail
  refine bodyPost_ret (v := stV (a.n : Int) S R) ?_ rfl (HB.out _ _ _ _ _ (iok_of (by omega) (by omega)) (.inl rfl) (by omega) (by omega) (by omega) D2.out)
  simp [results, Tryd.results54, go_sem, q0, q1, q2]

set_option maxHeartbeats 1000000 in
theorem l1Open_calls (rb : Nat) (A : Option Addr) (n cap p : Nat) (w : World) (h : Rd w rb A n cap p) (hp : p ≤ 500000000000) :
    Calls Tryd.prog 34 #[.pointer (some ⟨rb, 0, none⟩)] w fun e w' => (∃ (i : Int) (s r : ByteArray) (p' : Nat), e = .returned (stV i s r) ∧ IOk i ∧ s.size ≤ 100 ∧ r.size ≤ 100 ∧ p' ≤ p + 500 ∧ Rd w' rb A n cap p') ∧ w.grownBy w' (some rb) := by
  have hs := fun W h => l1Some_calls rb A n cap p W h (by omega)
  have hb := fun a ha h5 p' (hp' : p' ≤ p + 101) W h => l1Bad_calls rb A n cap p' a ha h5 W h (by omega)
  have D0 := Lib.hid ((Dw.new h).alloc (.cells #[.int .i64 0, .string (bs []), .string (bs [])] 27))
  have X0 := Lib.hid (Bx.new w 27 #[.int .i64 0, .string (bs []), .string (bs [])])
  have Hs := Lib.hid hs
  have Hb := Lib.hid hb
  have hrl := h.box.lt
  clear hs hb h
  go_enter Tryd.func34, Tryd.ntmps34
  go_wp2_with fail
  refine (Hs.out _ D0.out.rd).mono ?_
  rintro e w1 ⟨⟨a, p1, rfl, ha, han, hp1, hr⟩, hg⟩
  have D1 := Lib.hid (D0.out.step hr hg)
  have X1 := Lib.hid (X0.out.dw hg hrl)
  have Ha := Lib.hid ha
  clear hr hg ha
  go_wp2_with fail
  refine (Hb.out a Ha.out han p1 hp1 _ D1.out.rd).mono ?_
  rintro e w2 ⟨⟨i, s, r, p2, rfl, hi, hsz, hrz, hp2, hr, _⟩, hg⟩
  have D2 := Lib.hid (D1.out.step hr hg)
  have hax := X1.out.dw hg hrl
  obtain ⟨c0, c1, c2⟩ := box_load hax
  have f0 := hax.free 0
  have f1 := hax.free 1
  have f2 := hax.free 2
  have D3 := Lib.hid (D2.out.puts (Nat.le_refl _) (.int .i64 i) (.string s) (.string r))
  obtain ⟨q0, q1, q2⟩ := box_load (hax.puts (.int .i64 i) (.string s) (.string r))
  have HI := Lib.hid hi
  clear hr hg hax hi
  go_wp2_with fail
  refine bodyPost_ret (v := stV i s r) ?_ rfl ⟨⟨i, s, r, p2, rfl, HI.out, hsz, hrz, by omega, D3.out.rd⟩, D3.out.gr⟩
  simp [results, Tryd.results34, go_sem, q0, q1, q2]

end Go.Proofs.YtpaleogkgfclnaaDoor

namespace Go.Proofs.YtpaleogkgfclnaaDoor
open Go.RowKit
open Pl
set_option linter.unusedSimpArgs false
set_option linter.unusedVariables false

end Go.Proofs.YtpaleogkgfclnaaDoor

namespace Go.Proofs.YtpaleogkgfclnaaDoor
open Go.RowKit
open Pl
set_option linter.unusedSimpArgs false
set_option linter.unusedVariables false

theorem fmt_no {i : Int} {s r : ByteArray} (h : okB i s r = false) : fmtV i s r = bs [] := by unfold fmtV; rw [h]; rfl
theorem fmt_yes {i : Int} {s r : ByteArray} (h : okB i s r = true) : fmtV i s r = s ++ ⟨#[58]⟩ ++ r := by unfold fmtV; rw [h]; rfl

theorem resV_form (o : Option St) : ∃ (j : Int) (S R : ByteArray) (b : Bool), resV o = .tuple #[stV j S R, .bool b] := by
  cases o with
  | none => exact ⟨_, _, _, _, rfl⟩
  | some a => exact ⟨_, _, _, _, rfl⟩

end Go.Proofs.YtpaleogkgfclnaaDoor

namespace Go.Proofs.YtpaleogkgfclnaaDoor
open Go.RowKit
open Pl
set_option linter.unusedSimpArgs false
set_option linter.unusedVariables false

theorem byte_of {z : Int} (h : (Lit.int .u8 z).wf = true) : ∃ b : Nat, b < 256 ∧ z = b := by
  have h2 : IntKind.u8.min = 0 := by decide
  have h3 : IntKind.u8.max = 255 := by decide
  have h4 : (decide (IntKind.u8.min ≤ z) && decide (z ≤ IntKind.u8.max)) = true := h
  rw [h2, h3] at h4
  simp at h4
  exact ⟨z.toNat, by omega, by omega⟩

theorem ByRow.call {w w' : World} {A : Option Addr} {n : Nat} (h : ByRow w A n) (hb : Below w.heap.size w w') : ByRow w' A n := fun hn => by
  obtain ⟨x, rfl, hc⟩ := h hn
  refine ⟨x, rfl, fun i hi => ?_⟩
  obtain ⟨b, hb2, hcell⟩ := hc i hi
  exact ⟨b, hb2, (hb.cell (World.block_lt_of_cell? w _ hcell)).trans hcell⟩

/-- what is known while something is drawn from bytes: the reader, new; all that was before is as it was -/
structure Fr (w : World) (rb : Nat) (A : Option Addr) (n cap p : Nat) (V : World) : Prop where
  rd : Rd V rb A n cap p
  bel : Below w.heap.size w V
  rge : w.heap.size ≤ rb

theorem Fr.step {w V V' : World} {rb n cap p p' : Nat} {A : Option Addr} (h : Fr w rb A n cap p V) (hr : Rd V' rb A n cap p') (hg : V.grownBy V' (some rb)) : Fr w rb A n cap p' V' :=
  ⟨hr, h.bel.grown hg h.bel.size (fun j hj => by have := h.rge; have e : rb = j := Option.some.inj hj; omega), h.rge⟩
theorem Fr.call {w V V' : World} {rb n cap p : Nat} {A : Option Addr} (h : Fr w rb A n cap p V) (hb : Below V.heap.size V V') : Fr w rb A n cap p V' := ⟨h.rd.call hb, h.bel.trans (hb.mono h.bel.size), h.rge⟩
theorem Fr.alloc {w V : World} {rb n cap p : Nat} {A : Option Addr} (h : Fr w rb A n cap p V) (o : Obj) : Fr w rb A n cap p (V.alloc o) := ⟨h.rd.alloc o, h.bel.alloc h.bel.size o, h.rge⟩
theorem Fr.drew {w V : World} {rb n cap p : Nat} {A : Option Addr} (h : Fr w rb A n cap p V) : Fr w rb A n cap p V.drew := ⟨h.rd.drew, h.bel.drew, h.rge⟩
theorem Rd.put {V : World} {rb n cap p g : Nat} {A : Option Addr} (hr : Rd V rb A n cap p) (hg : rb < g) (i : Nat) (v : Value) : Rd (V.setCell ⟨g, i, none⟩ v) rb A n cap p := by
  refine ⟨hr.box.far (by simp; omega) _, ?_, hr.small, hr.sep⟩
  intro h0
  obtain ⟨x, rfl, hc⟩ := hr.row h0
  have hx := hr.sep h0 x rfl
  refine ⟨x, rfl, fun i hi => ?_⟩
  obtain ⟨b, hb, hcell⟩ := hc i hi
  refine ⟨b, hb, ?_⟩
  rw [← hcell]
  have hbl : (x.add i).block = x.block := by unfold Addr.add; split <;> rfl
  exact World.cell?_of_block (by rw [hbl]; exact Below.heap_setCell V _ _ _ (by simp; omega))
theorem Fr.put {w V : World} {rb n cap p g : Nat} {A : Option Addr} (h : Fr w rb A n cap p V) (hg : rb < g) (i : Nat) (v : Value) : Fr w rb A n cap p (V.setCell ⟨g, i, none⟩ v) :=
  ⟨h.rd.put hg i v, h.bel.setCell (by have := h.rge; simp; omega) v, h.rge⟩
theorem Fr.puts {w V : World} {rb n cap p g : Nat} {A : Option Addr} (h : Fr w rb A n cap p V) (hg : rb < g) (a b c : Value) : Fr w rb A n cap p (((V.setCell ⟨g, 0, none⟩ a).setCell ⟨g, 1, none⟩ b).setCell ⟨g, 2, none⟩ c) :=
  ((h.put hg 0 a).put hg 1 b).put hg 2 c
theorem below_puts {w V : World} {g : Nat} (h : Below w.heap.size w V) (hg : w.heap.size ≤ g) (a b c : Value) : Below w.heap.size w (((V.setCell ⟨g, 0, none⟩ a).setCell ⟨g, 1, none⟩ b).setCell ⟨g, 2, none⟩ c) :=
  ((h.setCell (by simpa using hg) a).setCell (by simpa using hg) b).setCell (by simpa using hg) c
/-- the reader that is new -/
theorem Fr.new {w V V' : World} {A : Option Addr} {n cap p rb : Nat} (h : Below w.heap.size w V) (hr : Rd V' V.heap.size A n cap p) (hb : Below V.heap.size V V') (hrb : V.heap.size = rb) : Fr w rb A n cap p V' :=
  hrb ▸ ⟨hr, h.trans (hb.mono h.size), h.size⟩

def StS (e : Ending) : Prop := ∃ (i : Int) (s r : ByteArray), e = .returned (stV i s r) ∧ IOk i ∧ s.size ≤ 100 ∧ r.size ≤ 100
def StX (e : Ending) : Prop := ∃ (i : Int) (s r : ByteArray) (x : Int), e = .returned (.tuple #[stV i s r, .int .i64 x]) ∧ IOk i ∧ s.size ≤ 100 ∧ r.size ≤ 100 ∧ IOk x


end Go.Proofs.YtpaleogkgfclnaaDoor

namespace Go.Proofs.YtpaleogkgfclnaaDoor
namespace R3
open Go.RowKit
set_option linter.unusedVariables false

/-- orders: an operation that is taken first, one that alone may come up, two that may -/
inductive Tr where
  | nil
  | take (i : Nat) (t : Tr)
  | one (i : Nat) (t : Tr)
  | two (i j : Nat) (t u : Tr)

section
variable {P : Program} {ops : Array Oper} {Q : Exit → Act → World → Prop} {md : Region.Mode} {S : World → Prop}

def okR (md : Region.Mode) (ops : Array Oper) : Tr → Nat → Array Bool → Bool
  | .nil, n, l => n == 0 && (Region.ready md ops l).isEmpty
  | .take i t, n, l => n != 0 && (Region.free md ops l i && ((Region.ready md ops l).contains i && okR md ops t (n - 1) (l.setIfInBounds i true)))
  | .one i t, n, l => n != 0 && ((Region.ready md ops l == [i]) && okR md ops t (n - 1) (l.setIfInBounds i true))
  | .two i j t u, n, l => n != 0 && ((Region.ready md ops l == [i, j]) && (okR md ops t (n - 1) (l.setIfInBounds i true) && okR md ops u (n - 1) (l.setIfInBounds j true)))

def wpR (P : Program) (ops : Array Oper) (Q : Exit → Act → World → Prop) (S : World → Prop) : Tr → Act → World → Prop
  | .nil, a, w => Q .normal a w
  | .take i t, a, w => ∃ o v, ops[i]? = some o ∧ YieldsIf P ops S o v a ∧ wpR P ops Q S t (a.put o.dst v) w
  | .one i t, a, w => wpOp P ops Q i (fun a' w' => S w' ∧ wpR P ops Q S t a' w') a w
  | .two i j t u, a, w => wpOp P ops Q i (fun a' w' => S w' ∧ wpR P ops Q S t a' w') a w ∧ wpOp P ops Q j (fun a' w' => S w' ∧ wpR P ops Q S u a' w') a w

theorem anyH_tree (hs : Region.noSelect ops = true) (hQ : ∀ t c a w, Q (.panic c) { a with tmps := t } w → Q (.panic c) a w) :
    ∀ (t : Tr) (n : Nat) (l : Array Bool) (a : Act) (w : World), okR md ops t n l = true → S w → wpR P ops Q S t a w → wpAnyH P md ops Q S n l a w := by
  intro t
  induction t with
  | nil =>
    intro n l a w h _ hw
    simp only [okR, Bool.and_eq_true, beq_iff_eq, List.isEmpty_iff] at h
    obtain ⟨rfl, h2⟩ := h
    exact ⟨h2, hw⟩
  | take i t ih =>
    intro n l a w h hS hw
    simp only [okR, Bool.and_eq_true, bne_iff_ne] at h
    obtain ⟨hn, h1, h2, h3⟩ := h
    obtain ⟨m, rfl⟩ : ∃ m, n = m + 1 := ⟨n - 1, by omega⟩
    obtain ⟨o, v, ho, hy, hr⟩ := hw
    exact wpAnyH_take ho hs h1 h2 (fun c a w h => by cases hd : o.dst with | none => rw [hd] at h; exact h | some d => rw [hd] at h; exact hQ _ c a w h) hy hS (ih _ _ _ _ h3 hS hr)
  | one i t ih =>
    intro n l a w h hS hw
    simp only [okR, Bool.and_eq_true, bne_iff_ne, beq_iff_eq] at h
    obtain ⟨hn, h1, h3⟩ := h
    obtain ⟨m, rfl⟩ : ∃ m, n = m + 1 := ⟨n - 1, by omega⟩
    refine wpAnyH_all h1 (by simp) fun j hj => ?_
    obtain rfl : j = i := by simpa using hj
    exact wpOp_mono (fun a' w' hk => ⟨hk.1, ih _ _ _ _ h3 hk.1 hk.2⟩) hw
  | two i j t u iht ihu =>
    intro n l a w h hS hw
    simp only [okR, Bool.and_eq_true, bne_iff_ne, beq_iff_eq] at h
    obtain ⟨hn, h1, h3, h4⟩ := h
    obtain ⟨m, rfl⟩ : ∃ m, n = m + 1 := ⟨n - 1, by omega⟩
    refine wpAnyH_all h1 (by simp) fun k hk => ?_
    have hk2 : k = i ∨ k = j := by simpa using hk
    rcases hk2 with rfl | rfl
    · exact wpOp_mono (fun a' w' hk => ⟨hk.1, iht _ _ _ _ h3 hk.1 hk.2⟩) hw.1
    · exact wpOp_mono (fun a' w' hk => ⟨hk.1, ihu _ _ _ _ h4 hk.1 hk.2⟩) hw.2

/-- the same, behind a name that nothing unfolds -/
structure Sd (P : Program) (ops : Array Oper) (Q : Exit → Act → World → Prop) (S : World → Prop) (t : Tr) (a : Act) (w : World) : Prop where
  out : wpR P ops Q S t a w

theorem region_tree {id : Nat} {a : Act} {w : World} (t : Tr) (S : World → Prop) (hm : P.follows .mixedOrders = true) (hs : Region.noSelect ops = true)
    (hk : okR .any ops t ops.size (Array.replicate ops.size false) = true) (hQ : ∀ t c a w, Q (.panic c) { a with tmps := t } w → Q (.panic c) a w) (hS : S w.drew)
    (h : ∀ Q' : Exit → Act → World → Prop, Hid (∀ a' w', Q .normal a' w' → Q' .normal a' w') → Sd P ops Q' S t a w.drew) : (Code.region id ops true).wp P Q a w :=
  wp_region_held (S := S) hm (anyH_tree (md := .any) (S := S) hs hQ t ops.size _ a w.drew hk hS (h Q (Lib.hid fun _ _ h => h)).out)

theorem tree_take {i : Nat} {t : Tr} {a : Act} {w : World} {o : Oper} {v : Value} {a' : Act} (ho : ops[i]? = some o) (hw : Region.wanted o (yielded ops a.tmps) = true) (hy : ∀ w, S w → (execOp a.eval o).run P w = .ok (.value v) w)
    {d : Tmp} (hd : o.dst = some d) (ha : a.put (some d) v = a') (h : Sd P ops Q S t a' w) : Sd P ops Q S (.take i t) a w := ⟨⟨o, v, ho, .inl ⟨hw, hy⟩, by rw [hd, ha]; exact h.out⟩⟩
theorem tree_one {i : Nat} {t : Tr} {a : Act} {w : World} {o : Oper} (ho : ops[i]? = some o) (hw : Region.wanted o (yielded ops a.tmps) = true)
    (h : ∀ K : Act → World → Prop, Hid (∀ a' w', S w' → Sd P ops Q S t a' w' → K a' w') → o.wp P a w K Q) : Sd P ops Q S (.one i t) a w := by
  refine ⟨?_⟩
  show wpOp P ops Q i _ a w
  unfold wpOp
  simp only [ho, hw, if_true]
  exact .inl (h _ (Lib.hid fun _ _ h1 h2 => ⟨h1, h2.out⟩))
theorem tree_two {i j : Nat} {t u : Tr} {a : Act} {w : World} (h1 : Sd P ops Q S (.one i t) a w) (h2 : Sd P ops Q S (.one j u) a w) : Sd P ops Q S (.two i j t u) a w := ⟨⟨h1.out, h2.out⟩⟩
theorem tree_lay {t : Tr} {a a' : Act} {w : World} (ha : a = a') (h : Sd P ops Q S t a' w) : Sd P ops Q S t a w := by rw [ha]; exact h
theorem tree_done {a : Act} {w : World} (h : Q .normal a w) : Sd P ops Q S .nil a w := ⟨h⟩

/-- an append, at an operation -/
theorem wp_app {o : Oper} {a : Act} {w : World} {K : Act → World → Prop} (s x : Operand) (t : TypeId)
    (ho : o.op = .call { callee := .builtin .append, args := #[s, x], argTypes := #[t, t] })
    (base : Nat) (e : TypeId) (i : TypeInfo) (z : Value) (size bytes : Nat) (ht : P.underlying t = some (.slice e)) (hi : P.info? e = some i) (hz : i.zero = some z)
    (hsize : i.size = size) (hby : i.bytes = bytes) (hzs : z.cells.size = size) (hsz : 0 < size)
    (v : Value) (n : Nat) (xs : List Value) (hs : a.eval s = v) (hown : w.ownsRow base e size v n xs)
    (ad : Addr) (m c : Nat) (news : List Value) (hx : a.eval x = .slice (some ad) m c) (hl : news.length = m * size) (hnews : ∀ j u, news[j]? = some u → w.cell? (ad.add j) = some u) (h1 : ∀ u ∈ news, u.oneCell' = true)
    (h63 : n + m ≤ maxLen) (hbytes : (n + m) * bytes ≤ 140737488355328) (hbase : base ≤ w.heap.size)
    (h : ∀ v' w', w'.ownsRow base e size v' (n + m) (xs ++ news) → w.grownBy w' v.ownBlock → K (a.put o.dst v') w') : o.wp P a w K Q := by
  obtain ⟨v', w', hr, h2, h3, _, _⟩ := run_append_own_at (P := P) w base t o.type e i z size bytes ht hi hz hsize hby hzs hsz v n xs hown ad m c news hl hnews h1 h63 hbytes hbase
  unfold Oper.wp execOp
  simp only [ho, resolve, invoke, builtin, Sem.run_bind, Sem.run_pure, Result.andThen_ok, List.map_toArray, List.map_cons, List.map_nil, hs, hx, hr]
  exact h v' w' h2 h3
end
end R3
end Go.Proofs.YtpaleogkgfclnaaDoor

namespace Go.Proofs.YtpaleogkgfclnaaDoor
open Go.RowKit
open Pl
set_option linter.unusedSimpArgs false
set_option linter.unusedVariables false

theorem notEl_calls (i x : Int) (s r : ByteArray) (bb : Nat) (w : World) (hb : Bx w bb 27 #[.int .i64 i, .string s, .string r]) :
    Calls Tryd.prog 84 #[.int .i64 x, .pointer (some ⟨bb, 0, none⟩)] w fun e w' => e = .returned (.bool (!elB i x)) ∧ Below w.heap.size w w' := by
  obtain ⟨k0, k1, k2⟩ := box_load hb
  clear hb
  unfold elB
  by_cases h0 : 0 ≤ x
  · have d0 : decide (x < 0) = false := decide_eq_false (by omega)
    rw [decide_eq_true h0]
    have hv : (!(true && decide (x < i))) = decide (i ≤ x) := by
      rw [Bool.true_and, ← decide_not, decide_eq_decide]; omega
    rw [hv]
    clear hv
    go_enter Tryd.func84, Tryd.ntmps84
    go_wp2_with fail
    all_goals
      go_ret
      exact ⟨rfl, Below.refl _ _⟩
  · have d0 : decide (x < 0) = true := decide_eq_true (by omega)
    rw [decide_eq_false h0]
    go_enter Tryd.func84, Tryd.ntmps84
    go_wp2_with fail
    all_goals
      go_ret
      exact ⟨rfl, Below.refl _ _⟩

set_option maxHeartbeats 400000 in
theorem IndexFunc_calls (A : Option Addr) (zs : List Int) (cap : Nat) (p : Int → Bool) (F : FuncId) (fF cF : Array Value) (w : World) (hn : zs.length ≤ 1048576) (hA : LRow w A zs)
    (eF : ∀ (args : Array Value) (W : World), (callFunc F args).run Tryd.prog W = .ok (.enter F args) W)
    (hF : ∀ (x : Int) (W : World), x ∈ zs → Below w.heap.size w W → Calls Tryd.prog F (fF.push (.int .i64 x) ++ cF) W fun e W' => e = .returned (.bool (p x)) ∧ Below W.heap.size W W') :
    Calls Tryd.prog 102 #[.slice A zs.length cap, .func (.func F) fF cF] w fun e w' => (∃ m : Int, e = .returned (.int .i64 m) ∧ (0 ≤ m ↔ zs.any p = true)) ∧ Below w.heap.size w w' := by
  have HA := Lib.hid hA
  have HF := Lib.hid hF
  clear hA hF
  go_enter Tryd.func102, Tryd.ntmps102
  go_wp2_with fail
  go_loopg [8] zs.length (fun c i wr => ∃ k : Nat, k + c = zs.length ∧ i = .int .i64 k ∧ (zs.take k).any p = false ∧ Below w.heap.size w wr)
  case atStart => exact ⟨0, by omega, rfl, rfl, Below.refl _ _⟩
  case round =>
    obtain ⟨k, hk, rfl, hno, hbr⟩ := hrel
    have Hno := Lib.hid hno
    have Hbr := Lib.hid hbr
    clear hno hbr
    by_cases hlt : k < zs.length
    · obtain ⟨g, rfl, hc⟩ := (HA.out.call Hbr.out) (by omega)
      have hck := hc k hlt
      have hmem := getD_mem hlt
      have htk : (zs.take (k + 1)).any p = ((zs.take k).any p || p (zs.getD k 0)) := by
        rw [List.take_succ_eq_append_getElem hlt, List.any_append]
        simp [List.getD, hlt]
      obtain ⟨z, hz⟩ : ∃ z, z = zs.getD k 0 := ⟨_, rfl⟩
      rw [← hz] at hck hmem htk
      have hcall := HF.out z wr hmem Hbr.out
      clear hc hz
      cases hp : p z with
      | true =>
        rw [hp] at hcall
        have hany : zs.any p = true := List.any_eq_true.2 ⟨z, hmem, hp⟩
        have Hany := Lib.hid hany
        have Hcall := Lib.hid hcall
        clear hcall hmem htk hp hany
        go_wp2_with fail
        refine (Hcall.out).mono ?_
        rintro e w2 ⟨rfl, hb2⟩
        go_wp2_with fail
        go_ret
        exact ⟨⟨_, rfl, ⟨fun _ => Hany.out, fun _ => by omega⟩⟩, Hbr.out.trans (hb2.mono Hbr.out.size)⟩
      | false =>
        rw [hp] at hcall htk
        have Hcall := Lib.hid hcall
        have Htk := Lib.hid htk
        clear hcall hmem htk hp
        go_wp2_with fail
        refine (Hcall.out).mono ?_
        rintro e w2 ⟨rfl, hb2⟩
        have Hb2 := Lib.hid hb2
        clear hb2
        go_wp2_with fail
        go_roundg (gk - 1)
        case rel => exact ⟨k + 1, by omega, by go_num, by rw [Htk.out, Hno.out]; rfl, Hbr.out.trans (Hb2.out.mono Hbr.out.size)⟩
        case measure => omega
    · have hall : zs.any p = false := by
        have := Hno.out
        rwa [List.take_of_length_le (by omega)] at this
      have Hall := Lib.hid hall
      clear hall
      go_wp2_with fail
      go_ret
      exact ⟨⟨_, rfl, ⟨fun h => absurd h (by decide), fun h => by rw [Hall.out] at h; cases h⟩⟩, Hbr.out⟩

theorem ContainsFunc_calls (A : Option Addr) (zs : List Int) (cap : Nat) (p : Int → Bool) (F : FuncId) (fF cF : Array Value) (w : World) (hn : zs.length ≤ 1048576) (hA : LRow w A zs)
    (eF : ∀ (args : Array Value) (W : World), (callFunc F args).run Tryd.prog W = .ok (.enter F args) W)
    (hF : ∀ (x : Int) (W : World), x ∈ zs → Below w.heap.size w W → Calls Tryd.prog F (fF.push (.int .i64 x) ++ cF) W fun e W' => e = .returned (.bool (p x)) ∧ Below W.heap.size W W') :
    Calls Tryd.prog 83 #[.slice A zs.length cap, .func (.func F) fF cF] w fun e w' => e = .returned (.bool (zs.any p)) ∧ Below w.heap.size w w' := by
  have hc := IndexFunc_calls A zs cap p F fF cF w hn hA eF hF
  have Hc := Lib.hid hc
  clear hc hA hF
  go_enter Tryd.func83, Tryd.ntmps83
  go_wp2_with fail
  refine (Hc.out).mono ?_
  rintro e w' ⟨⟨m, rfl, hm⟩, hb⟩
  have Hm := Lib.hid hm
  have Hb := Lib.hid hb
  clear hm hb
  go_wp2_with fail
  go_ret
  refine ⟨?_, Hb.out⟩
  show Ending.returned (.bool (decide (0 ≤ m))) = _
  congr 2
  rw [Bool.eq_iff_iff, decide_eq_true_eq]
  exact Hm.out

def elAll (i : Int) (zs : List Int) : Bool := zs.all (elB i)
def nodB (zs : List Int) : Bool := decide zs.Nodup

theorem enter_notEl : ∀ (args : Array Value) (w : World), (callFunc 84 args).run Tryd.prog w = .ok (.enter 84 args) w := enter_of Tryd.func84 (by kernel_rfl) (by kernel_rfl)

theorem areElements_calls (i : Int) (s r : ByteArray) (A : Option Addr) (zs : List Int) (cap : Nat) (w : World) (hn : zs.length ≤ 1048576) (hA : LRow w A zs) :
    Calls Tryd.prog 57 #[stV i s r, .slice A zs.length cap] w fun e w' => e = .returned (.bool (elAll i zs)) ∧ Below w.heap.size w w' := by
  have hx := Bx.new w 27 #[.int .i64 i, .string s, .string r]
  have hc := ContainsFunc_calls A zs cap (fun x => !elB i x) 84 #[] #[.pointer (some ⟨w.heap.size, 0, none⟩)] (w.alloc (.cells #[.int .i64 i, .string s, .string r] 27)) hn (hA.alloc _) enter_notEl
    (fun x W _ hW => notEl_calls i x s r w.heap.size W (hx.call hW))
  have hv : (!(zs.any fun x => !elB i x)) = elAll i zs := by
    unfold elAll
    rw [Bool.eq_iff_iff]
    simp [List.any_eq_true, List.all_eq_true]
  obtain ⟨b, hb⟩ : ∃ b, b = zs.any fun x => !elB i x := ⟨_, rfl⟩
  rw [← hb] at hc hv
  rw [← hv]
  have Hc := Lib.hid hc
  clear hc hA hx hv hb
  go_enter Tryd.func57, Tryd.ntmps57
  go_wp2_with fail
  refine (Hc.out).mono ?_
  rintro e w' ⟨rfl, hb⟩
  have HB := Lib.hid (box_next (box_refl w _) hb)
  clear hb
  go_wp2_with fail
  go_ret
  exact ⟨rfl, box_down HB.out⟩

/-- numbers that are elements, as natural numbers -/
def natsI (ns : List Nat) : List Int := ns.map fun x : Nat => (x : Int)
theorem natsI_len (ns : List Nat) : (natsI ns).length = ns.length := by simp [natsI]
theorem natsI_get (ns : List Nat) (k : Nat) : (natsI ns).getD k 0 = ((ns.getD k 0 : Nat) : Int) := by
  unfold natsI
  simp only [List.getD_eq_getElem?_getD, List.getElem?_map]
  cases ns[k]? <;> rfl

theorem LRow.nats {w : World} {A : Option Addr} {ns : List Nat} (h : LRow w A (natsI ns)) {k : Nat} (hk : k < ns.length) : ∃ g, A = some ⟨g, 0, none⟩ ∧ w.cell? ⟨g, k, none⟩ = some (.int .i64 ((ns.getD k 0 : Nat) : Int)) := by
  obtain ⟨g, rfl, hc⟩ := h (by rw [natsI_len]; omega)
  exact ⟨g, rfl, by rw [hc k (by rw [natsI_len]; exact hk), natsI_get]⟩

theorem getD_lt {n : Nat} {ns : List Nat} (h : ∀ x ∈ ns, x < n) {k : Nat} (hk : k < ns.length) : ns.getD k 0 < n := h _ (by
  simp only [List.getD_eq_getElem?_getD, List.getElem?_eq_getElem hk, Option.getD_some]
  exact List.getElem_mem hk)

set_option maxHeartbeats 1000000 in
theorem part1_calls (a : St) (ha : a.ok) (ns : List Nat) (hns : ∀ x ∈ ns, x < a.n) (hl : ns.length ≤ 8) (A : Option Addr) (cap : Nat) (x : Nat) (hx : x < ns.length) (ba bl : Nat) (w : World)
    (hb : Bx w ba 27 #[.int .i64 a.n, .string (bs a.set), .string (bs a.rel)]) (hbl : Bx w bl 30 #[.slice A ns.length cap]) (hA : LRow w A (natsI ns)) :
    Calls Tryd.prog 70 #[.int .i64 x, .pointer (some ⟨ba, 0, none⟩), .pointer (some ⟨bl, 0, none⟩)] w fun e w' => e = .returned (.bool (a.inS (ns.getD x 0))) ∧ Below w.heap.size w w' := by
  obtain ⟨k0, k1, k2⟩ := box_load hb
  have l0 := hbl.cell 0
  simp at l0
  obtain ⟨g, rfl, c0⟩ := hA.nats hx
  have hlt := getD_lt hns hx
  have hcall := fun W => inSet_calls a ha (ns.getD x 0) hlt W
  generalize ns.getD x 0 = y at c0 hlt hcall
  generalize ns.length = n at l0 hx hl
  have Hcall := Lib.hid hcall
  have i1 : (0 : Int) ≤ (x : Int) := by omega
  have i2 : (x : Int) < (n : Int) := by omega
  clear hb hbl hA hcall
  go_enter Tryd.func70, Tryd.ntmps70
  go_wp2_with fail
  go_region_held3 (fun w' => w'.cell? ⟨ba, 0, none⟩ = some (.int .i64 a.n) ∧ w'.cell? ⟨ba, 1, none⟩ = some (.string (bs a.set)) ∧ w'.cell? ⟨ba, 2, none⟩ = some (.string (bs a.rel)) ∧ w'.cell? ⟨bl, 0, none⟩ = some (.slice (some ⟨g, 0, none⟩) n cap) ∧ w'.cell? ⟨g, x, none⟩ = some (.int .i64 y)) (first | go_keep | exact ⟨m0, m1, m2, m3, m4⟩) (first | (go_at_call 71; (with_reducible refine (Hcall.out _).mono ?_); rintro e w2 ⟨rfl, hz⟩; have m0 := (hz.cell (World.block_lt_of_cell? _ _ k0)).trans k0; have m1 := (hz.cell (World.block_lt_of_cell? _ _ k1)).trans k1; have m2 := (hz.cell (World.block_lt_of_cell? _ _ k2)).trans k2; have m3 := (hz.cell (World.block_lt_of_cell? _ _ l0)).trans l0; have m4 := (hz.cell (World.block_lt_of_cell? _ _ c0)).trans c0; have Hz := Lib.hid hz; clear hz))
  all_goals
    go_wp2_with fail
    go_ret
    exact ⟨rfl, (Below.refl w.heap.size w).drew.trans (Hz.out.mono (Nat.le_refl _))⟩

set_option maxHeartbeats 1000000 in
theorem part2_calls (a : St) (ha : a.ok) (ns : List Nat) (hns : ∀ x ∈ ns, x < a.n) (hl : ns.length ≤ 8) (A : Option Addr) (cap : Nat) (x x2 : Nat) (hx : x < ns.length) (hx2 : x2 < ns.length) (ba bl : Nat) (w : World)
    (hb : Bx w ba 27 #[.int .i64 a.n, .string (bs a.set), .string (bs a.rel)]) (hbl : Bx w bl 30 #[.slice A ns.length cap]) (hA : LRow w A (natsI ns)) :
    Calls Tryd.prog 72 #[.int .i64 x, .int .i64 x2, .pointer (some ⟨ba, 0, none⟩), .pointer (some ⟨bl, 0, none⟩)] w fun e w' => e = .returned (.bool (a.inR (ns.getD x 0) (ns.getD x2 0))) ∧ Below w.heap.size w w' := by
  obtain ⟨k0, k1, k2⟩ := box_load hb
  have l0 := hbl.cell 0
  simp at l0
  obtain ⟨g, rfl, c0⟩ := hA.nats hx
  obtain ⟨g', hg', c1⟩ := hA.nats hx2
  obtain rfl : g = g' := by injection hg' with h; injection h
  have hlt := getD_lt hns hx
  have hlt2 := getD_lt hns hx2
  have hcall := fun W => inRel_calls a ha (ns.getD x 0) (ns.getD x2 0) hlt hlt2 W
  generalize ns.getD x 0 = y at c0 hlt hcall
  generalize ns.getD x2 0 = y2 at c1 hlt2 hcall
  generalize ns.length = n at l0 hx hx2 hl
  have Hcall := Lib.hid hcall
  have i1 : (0 : Int) ≤ (x : Int) := by omega
  have i2 : (x : Int) < (n : Int) := by omega
  have i3 : (0 : Int) ≤ (x2 : Int) := by omega
  have i4 : (x2 : Int) < (n : Int) := by omega
  clear hb hbl hA hcall hg'
  go_enter Tryd.func72, Tryd.ntmps72
  go_wp2_with fail
  go_region_held3 (fun w' => w'.cell? ⟨ba, 0, none⟩ = some (.int .i64 a.n) ∧ w'.cell? ⟨ba, 1, none⟩ = some (.string (bs a.set)) ∧ w'.cell? ⟨ba, 2, none⟩ = some (.string (bs a.rel)) ∧ w'.cell? ⟨bl, 0, none⟩ = some (.slice (some ⟨g, 0, none⟩) n cap) ∧ w'.cell? ⟨g, x, none⟩ = some (.int .i64 y) ∧ w'.cell? ⟨g, x2, none⟩ = some (.int .i64 y2)) (first | go_keep | exact ⟨m0, m1, m2, m3, m4, m5⟩) (first | (go_at_call 73; (with_reducible refine (Hcall.out _).mono ?_); rintro e w2 ⟨rfl, hz⟩; have m0 := (hz.cell (World.block_lt_of_cell? _ _ k0)).trans k0; have m1 := (hz.cell (World.block_lt_of_cell? _ _ k1)).trans k1; have m2 := (hz.cell (World.block_lt_of_cell? _ _ k2)).trans k2; have m3 := (hz.cell (World.block_lt_of_cell? _ _ l0)).trans l0; have m4 := (hz.cell (World.block_lt_of_cell? _ _ c0)).trans c0; have m5 := (hz.cell (World.block_lt_of_cell? _ _ c1)).trans c1; have Hz := Lib.hid hz; clear hz))
  all_goals
    go_wp2_with fail
    go_ret
    exact ⟨rfl, (Below.refl w.heap.size w).drew.trans (Hz.out.mono (Nat.le_refl _))⟩

theorem enter_part1 : ∀ (args : Array Value) (w : World), (callFunc 70 args).run Tryd.prog w = .ok (.enter 70 args) w := enter_of Tryd.func70 (by kernel_rfl) (by kernel_rfl)
theorem enter_part2 : ∀ (args : Array Value) (w : World), (callFunc 72 args).run Tryd.prog w = .ok (.enter 72 args) w := enter_of Tryd.func72 (by kernel_rfl) (by kernel_rfl)

set_option maxHeartbeats 1000000 in
theorem partOf_calls (a : St) (ha : a.ok) (ns : List Nat) (hns : ∀ x ∈ ns, x < a.n) (hl : ns.length ≤ 8) (A : Option Addr) (cap : Nat) (w : World) (hA : LRow w A (natsI ns)) :
    Calls Tryd.prog 47 #[stA a, .slice A ns.length cap] w fun e w' => e = .returned (stA (a.part ns)) ∧ Below w.heap.size w w' := by
  have HA := Lib.hid hA
  clear hA
  have hmk : ∀ W, Below (w.heap.size + 2) ((w.alloc (.cells #[.int .i64 a.n, .string (bs a.set), .string (bs a.rel)] 27)).alloc (.cells #[.slice A ns.length cap] 30)) W → Calls Tryd.prog 69 #[.int .i64 ns.length, .func (.func 70) #[] #[.pointer (some ⟨w.heap.size, 0, none⟩), .pointer (some ⟨w.heap.size + 1, 0, none⟩)], .func (.func 72) #[] #[.pointer (some ⟨w.heap.size, 0, none⟩), .pointer (some ⟨w.heap.size + 1, 0, none⟩)]] W fun e w' => e = .returned (stA (a.part ns)) ∧ Below W.heap.size W w' := fun W hW => by
    have x0 := ((Bx.new w 27 #[.int .i64 a.n, .string (bs a.set), .string (bs a.rel)]).alloc (.cells #[.slice A ns.length cap] 30)).below hW (by omega)
    have x1 := (bx_two w (.cells #[.int .i64 a.n, .string (bs a.set), .string (bs a.rel)] 27) #[.slice A ns.length cap] (t := 30)).below hW (by omega)
    have hA1 : LRow W A (natsI ns) := ((HA.out.alloc _).alloc _).call (hW.mono (by simp))
    exact makeStructure_calls ns.length hl (fun x => a.inS (ns.getD x 0)) (fun x y => a.inR (ns.getD x 0) (ns.getD y 0)) 70 72 #[] #[.pointer (some ⟨w.heap.size, 0, none⟩), .pointer (some ⟨w.heap.size + 1, 0, none⟩)] #[] #[.pointer (some ⟨w.heap.size, 0, none⟩), .pointer (some ⟨w.heap.size + 1, 0, none⟩)] W enter_part1 enter_part2
      (fun x V hx hV => part1_calls a ha ns hns hl A cap x hx _ _ V (x0.call hV) (x1.call hV) (hA1.call hV))
      (fun x y V hx hy hV => part2_calls a ha ns hns hl A cap x y hx hy _ _ V (x0.call hV) (x1.call hV) (hA1.call hV))
  have Hmk := Lib.hid hmk
  clear hmk
  have hn8 : (ns.length : Int) ≤ 8 := by omega
  go_enter Tryd.func47, Tryd.ntmps47
  go_wp2_with fail
  refine (Hmk.out _ ((Below.refl _ _).alloc (by simp) _)).mono ?_
  rintro e w2 ⟨rfl, hz⟩
  have xr : Bx w2 (w.heap.size + 2) 27 #[.int .i64 0, .string (bs []), .string (bs [])] := by
    have h := Bx.new ((w.alloc (.cells #[.int .i64 a.n, .string (bs a.set), .string (bs a.rel)] 27)).alloc (.cells #[.slice A ns.length cap] 30)) 27 #[.int .i64 0, .string (bs []), .string (bs [])]
    rw [World.size_alloc, World.size_alloc] at h
    exact h.call hz
  have HB := Lib.hid ((((((Below.refl w.heap.size w).alloc (Nat.le_refl _) (.cells #[.int .i64 a.n, .string (bs a.set), .string (bs a.rel)] 27)).alloc (by simp) (.cells #[.slice A ns.length cap] 30)).alloc (by simp; omega) (.cells #[.int .i64 0, .string (bs []), .string (bs [])] 27)).trans (hz.mono (by simp; omega))))
  obtain ⟨d0, d1, d2⟩ := box_load xr
  have f0 := xr.free 0
  have f1 := xr.free 1
  have f2 := xr.free 2
  have Xr := Lib.hid xr
  clear hz xr
  go_wp2_with fail
  have y1 := ((Xr.out.set 0 (.int .i64 (a.part ns).n)).set 1 (.string (bs (a.part ns).set))).set 2 (.string (bs (a.part ns).rel))
  obtain ⟨q0, q1, q2⟩ := box_load (a := .int .i64 (a.part ns).n) (b := .string (bs (a.part ns).set)) (c := .string (bs (a.part ns).rel)) y1
  refine bodyPost_ret (v := stA (a.part ns)) ?_ rfl ⟨rfl, ?_⟩
  · simp [results, Tryd.results47, go_sem, q0, q1, q2]
  · exact ((HB.out.setCell (by simp; omega) _).setCell (by simp; omega) _).setCell (by simp; omega) _

end Go.Proofs.YtpaleogkgfclnaaDoor

namespace Go.Proofs.YtpaleogkgfclnaaDoor
open Go.RowKit
open Pl
set_option linter.unusedSimpArgs false
set_option linter.unusedVariables false
attribute [local go_sem ↓] Go.wp_at_zero Go.wp_at_succ

/-- two boxes behind a call -/
def Two (w W : World) (ca cb : Array Value) : Prop := Bx W w.heap.size 27 ca ∧ Bx W (w.heap.size + 1) 27 cb
theorem Two.call {w W W' : World} {ca cb : Array Value} (h : Two w W ca cb) (hb : Below W.heap.size W W') : Two w W' ca cb := ⟨h.1.call hb, h.2.call hb⟩
theorem Two.drew {w W : World} {ca cb : Array Value} (h : Two w W ca cb) : Two w W.drew ca cb := h
theorem Two.six {w W : World} {a b c d e f : Value} (h : Two w W #[a, b, c] #[d, e, f]) : W.cell? ⟨w.heap.size, 0, none⟩ = some a ∧ W.cell? ⟨w.heap.size, 1, none⟩ = some b ∧ W.cell? ⟨w.heap.size, 2, none⟩ = some c ∧ W.cell? ⟨w.heap.size + 1, 0, none⟩ = some d ∧ W.cell? ⟨w.heap.size + 1, 1, none⟩ = some e ∧ W.cell? ⟨w.heap.size + 1, 2, none⟩ = some f :=
  ⟨h.1.cell 0, h.1.cell 1, h.1.cell 2, h.2.cell 0, h.2.cell 1, h.2.cell 2⟩

/-- what the k-th element before says -/
def fitAt (a b : St) (o : List Nat) (x k : Nat) : Bool := a.inR x (o.getD k 0) == b.inR o.length k && a.inR (o.getD k 0) x == b.inR k o.length

theorem fitsB_eq (a b : St) (o : List Nat) (x : Nat) : fitsB a b o x = (a.inS x == b.inS o.length && a.inR x x == b.inR o.length o.length && (List.range o.length).all (fitAt a b o x)) := rfl

theorem all_upto {p : Nat → Bool} {n : Nat} (h : ∀ k, k < n → p k = true) : (List.range n).all p = true := List.all_eq_true.2 fun k hk => h k (List.mem_range.1 hk)
theorem all_not {p : Nat → Bool} {n k : Nat} (hk : k < n) (h : p k = false) : (List.range n).all p = false := by
  rw [Bool.eq_false_iff]; intro e
  have := List.all_eq_true.1 e k (List.mem_range.2 hk)
  rw [h] at this; cases this

end Go.Proofs.YtpaleogkgfclnaaDoor

namespace Go.Proofs.YtpaleogkgfclnaaDoor
open Go.RowKit
open Pl
set_option linter.unusedSimpArgs false
set_option linter.unusedVariables false

/-- what lies from a block on is as it was -/
structure Kp (B : Nat) (W W' : World) : Prop where
  size : W.heap.size ≤ W'.heap.size
  block : ∀ k, B ≤ k → k < W.heap.size → W'.heap[k]? = W.heap[k]?

theorem Kp.of_below {B : Nat} {W W' : World} (h : Below W.heap.size W W') : Kp B W W' := ⟨h.size, fun k _ hk => h.block k hk⟩
theorem Bx.kp {w w' : World} {g B : Nat} {t : TypeId} {cs : Array Value} (h : Bx w g t cs) (hk : Kp B w w') (hg : B ≤ g) : Bx w' g t cs := (hk.block g hg h.lt).trans h
theorem Bx.grown {w w' : World} {g : Nat} {t : TypeId} {cs : Array Value} {row : Option Nat} (h : Bx w g t cs) (hg : w.grownBy w' row) (hne : some g ≠ row) : Bx w' g t cs := (hg.block g h.lt hne).trans h
theorem own_kp {W W' : World} {B base n : Nat} {e : TypeId} {v : Value} {xs : List Value} (h : W.ownsRow base e 1 v n xs) (hk : Kp B W W') (hB : B ≤ base) : W'.ownsRow base e 1 v n xs := by
  obtain ⟨h1, h2⟩ := h
  refine ⟨h1, ?_⟩
  rcases h2 with h2 | ⟨g, cap, cur, hv, hg, hh, r⟩
  · exact .inl h2
  · exact .inr ⟨g, cap, cur, hv, hg, (hk.block g (by omega) (Array.getElem?_eq_some_iff.1 hh).1).trans hh, r⟩
theorem own_far {W : World} {base n : Nat} {e : TypeId} {v : Value} {xs : List Value} (h : W.ownsRow base e 1 v n xs) {p : Addr} (hp : ∀ g, v.ownBlock = some g → g ≠ p.block) (u : Value) : (W.setCell p u).ownsRow base e 1 v n xs := by
  obtain ⟨h1, h2⟩ := h
  refine ⟨h1, ?_⟩
  rcases h2 with h2 | ⟨g, cap, cur, hv, hg, hh, r⟩
  · exact .inl h2
  · exact .inr ⟨g, cap, cur, hv, hg, (Below.heap_setCell W p u g (hp g (by rw [hv]; rfl))).trans hh, r⟩
theorem own_open {W : World} {base : Nat} {v : Value} {o : List Nat} (h : W.ownsRow base 3 1 v o.length (intsV (natsI o))) : ∃ A cap, v = .slice A o.length cap ∧ o.length ≤ cap ∧ LRow W A (natsI o) := by
  have h0 := h
  rcases h.2 with ⟨rfl, hn⟩ | ⟨g, cap, cur, rfl, _, _, hc, _⟩
  · exact ⟨none, 0, by rw [hn], by omega, fun hl => by rw [natsI_len] at hl; omega⟩
  · exact ⟨some ⟨g, 0, none⟩, cap, rfl, hc, LRow_of h0⟩
theorem own_back {W : World} {base : Nat} {v : Value} {o : List Nat} {x : Nat} (h : W.ownsRow base 3 1 v (o ++ [x]).length (intsV (natsI (o ++ [x])))) :
    ∃ g cap, v = .slice (some ⟨g, 0, none⟩) (o.length + 1) cap ∧ o.length + 1 ≤ cap ∧ W.ownsRow base 3 1 (.slice (some ⟨g, 0, none⟩) o.length cap) o.length (intsV (natsI o)) := by
  obtain ⟨h1, ⟨_, h0⟩ | ⟨g, cap, cur, hv, hg, hh, hn, hc, hs, ht⟩⟩ := h
  · simp at h0
  · rw [List.length_append, List.length_singleton] at hn hv
    refine ⟨g, cap, hv, hn, by simp [intsV, natsI], .inr ⟨g, cap, cur, rfl, hg, hh, by omega, hc, hs, ?_⟩⟩
    have ht2 := congrArg (List.take o.length) ht
    simp only [List.take_take, List.length_append, List.length_singleton, Nat.mul_one, intsV, natsI, List.map_append] at ht2 ⊢
    rw [Nat.min_eq_left (by omega)] at ht2
    rw [ht2, List.take_left' (by simp)]

theorem own_form {w : World} {base n : Nat} {e : TypeId} {v : Value} {xs : List Value} (h : w.ownsRow base e 1 v (n + 1) xs) : ∃ g cap, v = .slice (some ⟨g, 0, none⟩) (n + 1) cap := by
  obtain ⟨_, ⟨_, h0⟩ | ⟨g, cap, _, hv, _⟩⟩ := h
  · cases h0
  · exact ⟨g, cap, hv⟩

/-- the order so far -/
def eRow (W : World) (B : Nat) (o : List Nat) : Prop :=
  ∃ v, Bx W (B + 4) 30 #[v] ∧ W.ownsRow (B + 3) 3 1 v o.length (intsV (natsI o)) ∧ ∀ k, v.ownBlock = some k → k ≠ B + 4 ∧ k ≠ B + 5

theorem eRow.kp {W W' : World} {B : Nat} {o : List Nat} (h : eRow W B o) (hk : Kp B W W') : eRow W' B o := by
  obtain ⟨v, h1, h2, h3⟩ := h
  exact ⟨v, h1.kp hk (by omega), own_kp h2 hk (by omega), h3⟩
/-- all of them, or the first alone -/
def told (c : Bool) (L : List (List Nat)) : List (List Nat) := if c then L else L.take 1
/-- the orders whose next element is below a number -/
def upTo (a b : St) (m : Nat) (o : List Nat) (k : Nat) : List (List Nat) := (List.range k).flatMap fun x => if nextB a b o x then shapes a b m (o ++ [x]) else []
theorem upTo_zero (a b : St) (m : Nat) (o : List Nat) : upTo a b m o 0 = [] := rfl
theorem upTo_succ (a b : St) (m : Nat) (o : List Nat) (k : Nat) : upTo a b m o (k + 1) = upTo a b m o k ++ (if nextB a b o k then shapes a b m (o ++ [k]) else []) := by
  unfold upTo; rw [List.range_succ, List.flatMap_append]; simp
theorem shapes_upTo (a b : St) (m : Nat) (o : List Nat) : shapes a b (m + 1) o = upTo a b m o a.n := rfl
theorem upTo_more (a b : St) (m : Nat) (o : List Nat) (k : Nat) : ∀ d, ∃ R, upTo a b m o (k + d) = upTo a b m o k ++ R
  | 0 => ⟨[], by simp⟩
  | d + 1 => by
    obtain ⟨R, h⟩ := upTo_more a b m o k d
    exact ⟨R ++ _, by rw [← Nat.add_assoc, upTo_succ, h, List.append_assoc]⟩
/-- where the first is told, the others are not -/
theorem told_stop {a b : St} {m k : Nat} {o : List Nat} (hk : k < a.n) (hn : nextB a b o k = true) (h0 : upTo a b m o k = []) (hs : (shapes a b m (o ++ [k])).isEmpty = false) :
    (shapes a b (m + 1) o).isEmpty = false ∧ told false (shapes a b (m + 1) o) = told false (shapes a b m (o ++ [k])) := by
  obtain ⟨R, h⟩ := upTo_more a b m o (k + 1) (a.n - (k + 1))
  rw [show k + 1 + (a.n - (k + 1)) = a.n by omega, upTo_succ, h0, hn] at h
  rw [shapes_upTo, h]
  generalize shapes a b m (o ++ [k]) = L at *
  cases L with
  | nil => cases hs
  | cons x L => simp [told]

end Go.Proofs.YtpaleogkgfclnaaDoor

namespace Go.Proofs.YtpaleogkgfclnaaDoor
open Go.RowKit
open Pl
set_option linter.unusedSimpArgs false
set_option linter.unusedVariables false

theorem LRow.news {w : World} {ga : Nat} {zs : List Int} (h : LRow w (some ⟨ga, 0, none⟩) zs) : ∀ j u, (intsV zs)[j]? = some u → w.cell? ((⟨ga, 0, none⟩ : Addr).add j) = some u := by
  intro j u hj
  have hl : j < zs.length := by
    have := (List.getElem?_eq_some_iff.1 hj).1
    simpa [intsV] using this
  obtain ⟨g, hg, hc⟩ := h (by omega)
  injection hg with hg
  injection hg with hg _
  subst hg
  have h2 := hc j hl
  simp only [intsV, List.getElem?_map, List.getElem?_eq_getElem hl, Option.map_some, Option.some.injEq] at hj
  subst hj
  have e : ((⟨ga, 0, none⟩ : Addr).add j) = ⟨ga, j, none⟩ := by
    rcases Nat.eq_zero_or_pos j with h0 | h0
    · subst h0; rfl
    · simp [Addr.add]; omega
  rw [e]
  simpa [List.getD, hl] using h2

theorem intsV_len (zs : List Int) : (intsV zs).length = zs.length := by simp [intsV]

/-- the empty list that the call makes -/
theorem own_zero (w : World) : (w.alloc (.cells #[] 3)).ownsRow w.heap.size 3 1 (.slice (some ⟨w.heap.size, 0, none⟩) 0 0) 0 [] :=
  ⟨rfl, .inr ⟨_, 0, #[], rfl, Nat.le_refl _, Bx.new w _ _, Nat.le_refl _, Nat.zero_le _, rfl, rfl⟩⟩

/-- behind a copy of a list -/
theorem app_one {w w1 : World} {v1 : Value} {n : Nat} {xs : List Value} (hown : w1.ownsRow w.heap.size 3 1 v1 (0 + n) ([] ++ xs)) (hg : (w.alloc (.cells #[] 3)).grownBy w1 (Value.ownBlock (.slice (some ⟨w.heap.size, 0, none⟩) 0 0))) :
    w1.ownsRow w.heap.size 3 1 v1 n xs ∧ Below w.heap.size w w1 := by
  refine ⟨by simpa using hown, ((Below.refl w.heap.size w).alloc (Nat.le_refl _) _).grown hg (by simp) (fun j hj => ?_)⟩
  simp [Value.ownBlock] at hj
  omega

/-- behind one number more -/
theorem app_two {w w1 w2 : World} {v1 v2 : Value} {o : List Nat} {x n : Nat} (hb : Below w.heap.size w w1) (hown1 : w1.ownsRow w.heap.size 3 1 v1 n (intsV (natsI o)))
    (hown : w2.ownsRow w.heap.size 3 1 v2 (n + 1) (intsV (natsI o) ++ [.int .i64 (x : Nat)])) (hg : (w1.alloc (.cells #[.int .i64 (x : Nat)] 3)).grownBy w2 v1.ownBlock) :
    ∃ g cap, v2 = .slice (some ⟨g, 0, none⟩) (n + 1) cap ∧ w.heap.size ≤ g ∧ LRow w2 (some ⟨g, 0, none⟩) (natsI (o ++ [x])) ∧ Below w.heap.size w w2 := by
  obtain ⟨g, cap, rfl⟩ := own_form hown
  have h2 : w2.ownsRow w.heap.size 3 1 (.slice (some ⟨g, 0, none⟩) (n + 1) cap) (n + 1) (intsV (natsI (o ++ [x]))) := by
    rw [show intsV (natsI (o ++ [x])) = intsV (natsI o) ++ [.int .i64 (x : Nat)] by simp [intsV, natsI]]
    exact hown
  refine ⟨g, cap, rfl, (hown.lt g rfl).1, LRow_of h2, (hb.alloc hb.size _).grown hg (by have := hb.size; simp; omega) (fun j hj => (hown1.lt j hj).1)⟩

theorem range_snoc (n : Nat) : List.range (n + 1) = List.range n ++ [n] := List.range_succ

/-- how many orders there are at most -/
theorem shapes_le {a b : St} (h : a.n ≤ 8) : ∀ (m : Nat) (o : List Nat), (shapes a b m o).length ≤ 8 ^ m := by
  have key : ∀ (m : Nat), (∀ o, (shapes a b m o).length ≤ 8 ^ m) → ∀ o k, (upTo a b m o k).length ≤ k * 8 ^ m := by
    intro m ih o k
    induction k with
    | zero => simp [upTo_zero]
    | succ k ihk =>
      rw [upTo_succ, List.length_append, Nat.succ_mul]
      have : (if nextB a b o k then shapes a b m (o ++ [k]) else []).length ≤ 8 ^ m := by
        split
        · exact ih _
        · simp
      omega
  intro m
  induction m with
  | zero => intro o; simp [shapes]
  | succ m ih =>
    intro o
    rw [shapes_upTo, Nat.pow_succ, Nat.mul_comm]
    exact Nat.le_trans (key m ih o a.n) (Nat.mul_le_mul_right _ h)
theorem upTo_le {a b : St} (h : a.n ≤ 8) (m : Nat) (o : List Nat) (k : Nat) : (upTo a b m o k).length ≤ k * 8 ^ m := by
  induction k with
  | zero => simp [upTo_zero]
  | succ k ihk =>
    rw [upTo_succ, List.length_append, Nat.succ_mul]
    have : (if nextB a b o k then shapes a b m (o ++ [k]) else []).length ≤ 8 ^ m := by
      split
      · exact shapes_le h _ _
      · simp
    omega
theorem pow8 {m : Nat} (h : m ≤ 8) : 8 ^ m ≤ 16777216 := Nat.pow_le_pow_right (by decide) h

end Go.Proofs.YtpaleogkgfclnaaDoor

namespace Go.Proofs.YtpaleogkgfclnaaDoor
open Go.RowKit
open Pl
set_option linter.unusedSimpArgs false
set_option linter.unusedVariables false

attribute [local go_sem ↓] Go.wp_at_zero Go.wp_at_succ

/-- a row of one's own behind a call that draws -/
theorem own_dw {W W' : World} {base rb n : Nat} {e : TypeId} {v : Value} {xs : List Value} (h : W.ownsRow base e 1 v n xs) (hg : W.grownBy W' (some rb)) (hrb : rb < base) : W'.ownsRow base e 1 v n xs := by
  obtain ⟨h1, h2⟩ := h
  refine ⟨h1, h2.imp id fun ⟨g, c, cur, hv, hb, hh, hr⟩ => ⟨g, c, cur, hv, hb, ?_, hr⟩⟩
  exact (hg.block g (Array.getElem?_eq_some_iff.1 hh).1 (by simp; omega)).trans hh
theorem own_cap {W : World} {base n g cp : Nat} {e : TypeId} {xs : List Value} (h : W.ownsRow base e 1 (.slice (some ⟨g, 0, none⟩) n cp) n xs) : n ≤ cp ∧ cp ≤ maxLen ∧ base ≤ g ∧ g < W.heap.size := by
  obtain ⟨_, ⟨h0, _⟩ | ⟨g', c, cur, hv, hb, hh, hn, hm, _⟩⟩ := h
  · cases h0
  · injection hv with h1 h2 h3
    injection h1 with h1
    injection h1 with h1
    subst h1; subst h3
    exact ⟨hn, hm, hb, (Array.getElem?_eq_some_iff.1 hh).1⟩
/-- the rest of a list, from an index on -/
theorem rest_cells {w : World} {g d : Nat} {L : List Nat} (h : LRow w (some ⟨g, 0, none⟩) (natsI L)) : ∀ j u, (intsV (natsI (L.drop d)))[j]? = some u → w.cell? ((⟨g, d, none⟩ : Addr).add j) = some u := by
  intro j u hj
  have hl : d + j < L.length := by
    have := (List.getElem?_eq_some_iff.1 hj).1
    simp [intsV, natsI] at this
    omega
  have h2 := LRow.news h (d + j) u (by
    rw [← hj]
    simp [intsV, natsI])
  have e1 : ((⟨g, d, none⟩ : Addr).add j) = ⟨g, d + j, none⟩ := by
    rcases Nat.eq_zero_or_pos j with h0 | h0
    · subst h0; rfl
    · simp [Addr.add]; omega
  have e2 : ((⟨g, 0, none⟩ : Addr).add (d + j)) = ⟨g, d + j, none⟩ := by
    rcases Nat.eq_zero_or_pos (d + j) with h0 | h0
    · rw [h0]; rfl
    · simp [Addr.add]; omega
  rw [e1, ← e2]
  exact h2

theorem own_low {w : World} {base base' n : Nat} {e : TypeId} {v : Value} {xs : List Value} (h : w.ownsRow base e 1 v n xs) (hb : base' ≤ base) : w.ownsRow base' e 1 v n xs :=
  ⟨h.1, h.2.imp (fun h => h) fun ⟨g, c, cur, h1, h2, h3⟩ => ⟨g, c, cur, h1, by omega, h3⟩⟩
theorem own_shape {w : World} {base n : Nat} {e : TypeId} {v : Value} {xs : List Value} (h : w.ownsRow base e 1 v n xs) (hn : 0 < n) : ∃ g cap, v = .slice (some ⟨g, 0, none⟩) n cap := by
  obtain ⟨_, ⟨_, h0⟩ | ⟨g, cap, _, hv, _⟩⟩ := h
  · omega
  · exact ⟨g, cap, hv⟩
theorem own_zero2 (w : World) (o : Obj) : ((w.alloc o).alloc (.cells #[] 3)).ownsRow w.heap.size 3 1 (.slice (some ⟨w.heap.size + 1, 0, none⟩) 0 0) 0 [] := by
  have h := own_zero (w.alloc o)
  rw [World.size_alloc] at h
  exact own_low h (Nat.le_succ _)
theorem take_row {w : World} {A : Option Addr} {L : List Nat} {d : Nat} (h : LRow w A (natsI L)) : LRow w A (natsI (L.take d)) := by
  have := h.take d
  unfold natsI at *
  rwa [List.map_take]
theorem next_order {W : World} {b b2 d k g cp : Nat} {L : List Nat} (hd : d ≤ L.length) (hL : L.length = k) (hlt : ∀ x ∈ L, x < k) (hnd : L.Nodup) (hb : b ≤ b2)
    (h : W.ownsRow b2 3 1 (.slice (some ⟨g, 0, none⟩) (d + 1 + (L.length - d)) cp) (d + 1 + (L.length - d)) ((intsV (natsI (L.take d))) ++ [.int .i64 (k : Nat)] ++ (intsV (natsI (L.drop d))))) :
    W.ownsRow b 3 1 (.slice (some ⟨g, 0, none⟩) (L.take d ++ k :: L.drop d).length cp) (L.take d ++ k :: L.drop d).length (intsV (natsI (L.take d ++ k :: L.drop d))) ∧ (L.take d ++ k :: L.drop d).length = k + 1 ∧ (∀ x ∈ L.take d ++ k :: L.drop d, x < k + 1) ∧ (L.take d ++ k :: L.drop d).Nodup := by
  have hn : (L.take d ++ k :: L.drop d).length = d + 1 + (L.length - d) := by simp; omega
  have hp : (L.take d ++ k :: L.drop d).Perm (k :: L) := by
    have := List.perm_middle (a := k) (l₁ := L.take d) (l₂ := L.drop d)
    rwa [List.take_append_drop] at this
  refine ⟨?_, by rw [hn]; omega, fun x hx => ?_, ?_⟩
  · rw [hn]
    have e : intsV (natsI (L.take d ++ k :: L.drop d)) = (intsV (natsI (L.take d))) ++ [.int .i64 (k : Nat)] ++ (intsV (natsI (L.drop d))) := by simp [intsV, natsI]
    rw [e]
    exact own_low h hb
  · rcases List.mem_cons.1 (hp.mem_iff.1 hx) with rfl | h2
    · omega
    · have := hlt x h2; omega
  · rw [hp.nodup_iff]
    exact List.nodup_cons.2 ⟨fun h2 => by have := hlt k h2; omega, hnd⟩

theorem next_order0 {W : World} {b b2 d k g cp : Nat} {L : List Nat} (hd : L.length = d) (hL : L.length = k) (hlt : ∀ x ∈ L, x < k) (hnd : L.Nodup) (hb : b ≤ b2)
    (h : W.ownsRow b2 3 1 (.slice (some ⟨g, 0, none⟩) (d + 1 + 0) cp) (d + 1 + 0) ((intsV (natsI (L.take d))) ++ [.int .i64 (k : Nat)] ++ [])) :
    W.ownsRow b 3 1 (.slice (some ⟨g, 0, none⟩) (L.take d ++ k :: L.drop d).length cp) (L.take d ++ k :: L.drop d).length (intsV (natsI (L.take d ++ k :: L.drop d))) ∧ (L.take d ++ k :: L.drop d).length = k + 1 ∧ (∀ x ∈ L.take d ++ k :: L.drop d, x < k + 1) ∧ (L.take d ++ k :: L.drop d).Nodup := by
  refine next_order (by omega) hL hlt hnd hb ?_
  have e : L.length - d = 0 := by omega
  have e2 : (intsV (natsI (L.drop d))) = [] := by rw [List.drop_of_length_le (by omega)]; rfl
  rw [e, e2]
  exact h

/-- an order that is drawn -/
def ShufS (w : World) (rb : Nat) (A : Option Addr) (n cap p m : Nat) (e : Ending) (w' : World) : Prop := ∃ (L : List Nat) (g cp : Nat), e = .returned (.slice (some ⟨g, 0, none⟩) L.length cp) ∧ L.length = m ∧ (∀ x ∈ L, x < m) ∧ L.Nodup ∧
  w'.ownsRow w.heap.size 3 1 (.slice (some ⟨g, 0, none⟩) L.length cp) L.length (intsV (natsI L)) ∧ Rd w' rb A n cap (p + m)

end Go.Proofs.YtpaleogkgfclnaaDoor

namespace Go.Proofs.YtpaleogkgfclnaaDoor
open Go.RowKit
open Pl
set_option linter.unusedSimpArgs false
set_option linter.unusedVariables false

attribute [local go_sem ↓] Go.wp_at_zero Go.wp_at_succ

/-- the reader where a row of another block grows -/
theorem Rd.app {V V' : World} {rb n cap p : Nat} {A : Option Addr} {row : Option Nat} (h : Rd V rb A n cap p) (hg : V.grownBy V' row) (hr : ∀ j, row = some j → rb < j) : Rd V' rb A n cap p := by
  have hlt := h.box.lt
  refine ⟨h.box.grown' hg (fun e => by have := hr rb e.symm; omega), ?_, h.small, h.sep⟩
  intro h0
  obtain ⟨x, rfl, hc⟩ := h.row h0
  have hx := h.sep h0 x rfl
  refine ⟨x, rfl, fun i hi => ?_⟩
  obtain ⟨b, hb, hcell⟩ := hc i hi
  refine ⟨b, hb, ?_⟩
  rw [← hcell]
  have hbl : (x.add i).block = x.block := by unfold Addr.add; split <;> rfl
  exact World.cell?_of_block (by rw [hbl]; exact hg.block x.block (by omega) (fun e => by have := hr x.block e.symm; omega))
theorem Fr.app {w V V' : World} {rb n cap p : Nat} {A : Option Addr} {row : Option Nat} (h : Fr w rb A n cap p V) (hg : V.grownBy V' row) (hr : ∀ j, row = some j → rb < j) : Fr w rb A n cap p V' :=
  ⟨h.rd.app hg hr, h.bel.grown hg h.bel.size (fun j hj => by have := hr j hj; have := h.rge; omega), h.rge⟩
/-- the first of a row -/
theorem own_first {W : World} {base n n' g cp : Nat} {e : TypeId} {xs : List Value} (h : W.ownsRow base e 1 (.slice (some ⟨g, 0, none⟩) n cp) n xs) (hn : n' ≤ n) : W.ownsRow base e 1 (.slice (some ⟨g, 0, none⟩) n' cp) n' (xs.take n') := by
  obtain ⟨h1, ⟨h0, _⟩ | ⟨g', c, cur, hv, hb, hh, hle, hm, hs, hx⟩⟩ := h
  · cases h0
  · refine ⟨by rw [List.length_take, h1]; omega, .inr ⟨g', c, cur, ?_, hb, hh, ?_, hm, hs, ?_⟩⟩
    · injection hv with e1 e2 e3
      rw [e1, e3]
    · omega
    · rw [← hx, List.take_take]
      congr 1
      omega
theorem intsV_take (zs : List Int) (k : Nat) : (intsV zs).take k = intsV (zs.take k) := by unfold intsV; rw [List.map_take]

/-- a structure and some numbers that are drawn -/
def StL (e : Ending) (w' : World) : Prop := ∃ (i : Int) (s r : ByteArray) (zs : List Int) (A : Option Addr) (c : Nat), e = .returned (.tuple #[stV i s r, .slice A zs.length c]) ∧ s.size ≤ 100 ∧ r.size ≤ 100 ∧ zs.length ≤ 10 ∧ zs.length ≤ c ∧ LRow w' A zs

end Go.Proofs.YtpaleogkgfclnaaDoor

namespace Go.Proofs.YtpaleogkgfclnaaDoor
open Go.RowKit
open Pl
set_option linter.unusedSimpArgs false
set_option linter.unusedVariables false


set_option maxHeartbeats 8000000 in
set_option maxRecDepth 100000 in
theorem DrawSpellCounts_calls (A : Option Addr) (n cap : Nat) (w : World) (h : ByRow w A n) (hn : n ≤ 1048576) (hc : n ≤ cap) (hm : cap ≤ maxLen) :
    Calls Tryd.prog 6 #[.slice A n cap] w fun e w' => (∃ t : ByteArray, e = .returned (.string t) ∧ t.size ≤ 68) ∧ Below w.heap.size w w' := by
  have Ho := Lib.hid (fun W h => l15Open_calls A n cap W h hn hc hm)
  have H0 := Lib.hid h
  have B0 := Lib.hid (Below.refl w.heap.size w)
  clear h hn hc hm
  go_enter Tryd.func6, Tryd.ntmps6
  go_wp2_with fail
  refine (Ho.out _ H0.out).mono ?_
  rintro e w1 ⟨⟨A', n', cap', rfl, hr⟩, hb⟩
  have F1 := Lib.hid (Fr.new (rb := w.heap.size) B0.out hr hb rfl)
  have HO := Lib.hid (show w.heap.size < w1.heap.size from F1.out.rd.box.lt)
  clear hr hb
  have Hpk := Lib.hid (show ∀ (k : Int) (q : Nat) (V : World), k ≤ 1000 → q ≤ 1000000000000 → Rd V w.heap.size A' n' cap' q → Calls Tryd.prog 24 #[.pointer (some ⟨w.heap.size, 0, none⟩), .int .i64 k] V fun e w' => PickP k e ∧ Rd w' w.heap.size A' n' cap' (q + 1) ∧ V.grownBy w' (some w.heap.size) from fun k q V hk hq hr => pick_calls w.heap.size A' n' cap' q k V hr (by omega) (by omega))
  have Hof2 := Lib.hid (show ∀ (g q : Nat) (W : World), SCells W g [bs [50, 97], bs [50, 98], bs [83, 97, 50, 98], bs [33, 50, 97]] → g ≠ w.heap.size → q ≤ 1000000000000 → Rd W w.heap.size A' n' cap' q → Calls Tryd.prog 27 #[.pointer (some ⟨w.heap.size, 0, none⟩), .slice (some ⟨g, 0, none⟩) 4 4] W fun e w' => (∃ t : ByteArray, e = .returned (.string t) ∧ 2 ≤ t.size ∧ t.size ≤ 4) ∧ Rd w' w.heap.size A' n' cap' (q + 1) ∧ W.grownBy w' (some w.heap.size) from
    fun g q W h1 h2 h4 h3 => (of_calls w.heap.size A' n' cap' q g 4 [bs [50, 97], bs [50, 98], bs [83, 97, 50, 98], bs [33, 50, 97]] W h3 (by omega) (by simp) (by simp) h1 h2).mono fun e w' ⟨⟨m, h4, h5⟩, h6⟩ => ⟨⟨m, h4, by
      simp only [List.mem_cons, List.not_mem_nil, or_false] at h5
      rcases h5 with rfl | rfl | rfl | rfl <;> decide⟩, h6⟩)
  have Hop := Lib.hid (fun (W : World) (h : Rd W w.heap.size A' n' cap' 1) => l2Open_calls w.heap.size A' n' cap' 1 W h (by omega))
  have HD := Lib.hid (fun (c : Bool) (W : World) (h : Rd W w.heap.size A' n' cap' 3) => l2Draw_at w.heap.size A' n' cap' 3 ⟨#[97, 98]⟩ (by decide) (by decide) c 2 (by omega) (by omega) W h (by omega))
  go_wp2_with fail
  refine (Hpk.out 4 0 _ (by omega) (by omega) F1.out.rd).mono ?_
  rintro e w2 ⟨⟨m, rfl, hm0, hm1, _⟩, hrd, hg⟩
  have F2 := Lib.hid (F1.out.step hrd hg)
  have HO2 := Lib.hid (show w.heap.size < w2.heap.size from F2.out.rd.box.lt)
  clear hrd hg hm1
  by_cases e0 : m = 0
  · subst e0
    go_wp2_with fail
    refine (Hop.out _ F2.out.rd).mono ?_
    rintro e w3 ⟨⟨t, p', rfl, ht, _, hrd⟩, hg⟩
    have F3 := Lib.hid (F2.out.step hrd hg)
    clear hrd hg
    go_wp2_with fail
    go_ret
    exact ⟨⟨t, rfl, by omega⟩, F3.out.bel⟩
  · have f0 : (m == 0) = false := by rw [beq_eq_false_iff_ne]; exact e0
    have N2 := Lib.hid (scells_new w2 [bs [50, 97], bs [50, 98], bs [83, 97, 50, 98], bs [33, 50, 97]] 9)
    have F3 := Lib.hid (F2.out.alloc (.cells #[.string ⟨#[50, 97]⟩, .string ⟨#[50, 98]⟩, .string ⟨#[83, 97, 50, 98]⟩, .string ⟨#[33, 50, 97]⟩] 9))
    go_wp2_with fail
    refine (Hof2.out _ 1 _ (by exact N2.out) (by have := HO2.out; omega) (by omega) F3.out.rd).mono ?_
    rintro e w4 ⟨⟨op, rfl, op0, op1⟩, hrd, hg⟩
    have F4 := Lib.hid (F3.out.step hrd hg)
    clear hrd hg
    go_wp2_with fail
    refine (Hpk.out 2 2 _ (by omega) (by omega) F4.out.rd).mono ?_
    rintro e w5 ⟨⟨b, rfl, hb0, hb1, _⟩, hrd, hg⟩
    have F5 := Lib.hid (F4.out.step hrd hg)
    clear hrd hg hb1
    by_cases e1 : b = 0
    · subst e1
      go_wp2_with fail
      refine (HD.out _ _ F5.out.rd).mono ?_
      rintro e w6 ⟨⟨t, p6, rfl, t0, t1, hp6, hrd⟩, hg⟩
      have F6 := Lib.hid (F5.out.step hrd hg)
      clear hrd hg
      have hcat : (op ++ t).size = op.size + t.size := ByteArray.size_append
      obtain ⟨u, hu⟩ : ∃ u, u = op ++ t := ⟨_, rfl⟩
      rw [← hu] at hcat
      have HB := Lib.hid (fun (W : World) (h : Rd W w.heap.size A' n' cap' p6) => l2Bad_calls w.heap.size A' n' cap' p6 u (by omega) (by omega) W h (by omega))
      have Hu := Lib.hid hu.symm
      clear hu
      go_wp2_with fail
      rw [Hu.out]
      refine (HB.out _ F6.out.rd).mono ?_
      rintro e w7 ⟨⟨t2, p7, rfl, ht2, hp7, hrd⟩, hg⟩
      have F7 := Lib.hid (F6.out.step hrd hg)
      clear hrd hg
      go_wp2_with fail
      go_ret
      exact ⟨⟨t2, rfl, by omega⟩, F7.out.bel⟩
    · have f1 : (b == 0) = false := by rw [beq_eq_false_iff_ne]; exact e1
      go_wp2_with fail
      refine (HD.out _ _ F5.out.rd).mono ?_
      rintro e w6 ⟨⟨t, p6, rfl, t0, t1, hp6, hrd⟩, hg⟩
      have F6 := Lib.hid (F5.out.step hrd hg)
      clear hrd hg
      have hcat : (op ++ t).size = op.size + t.size := ByteArray.size_append
      obtain ⟨u, hu⟩ : ∃ u, u = op ++ t := ⟨_, rfl⟩
      rw [← hu] at hcat
      have HB := Lib.hid (fun (W : World) (h : Rd W w.heap.size A' n' cap' p6) => l2Bad_calls w.heap.size A' n' cap' p6 u (by omega) (by omega) W h (by omega))
      have Hu := Lib.hid hu.symm
      clear hu
      go_wp2_with fail
      rw [Hu.out]
      refine (HB.out _ F6.out.rd).mono ?_
      rintro e w7 ⟨⟨t2, p7, rfl, ht2, hp7, hrd⟩, hg⟩
      have F7 := Lib.hid (F6.out.step hrd hg)
      clear hrd hg
      go_wp2_with fail
      go_ret
      exact ⟨⟨t2, rfl, by omega⟩, F7.out.bel⟩

end Go.Proofs.YtpaleogkgfclnaaDoor
