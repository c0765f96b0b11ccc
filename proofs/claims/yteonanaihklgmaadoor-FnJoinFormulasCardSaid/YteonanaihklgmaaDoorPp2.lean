/-
  Laws of the functions that the claim reaches, one after the other (packed by a program of the prover's: FmDraw2, Draw5, TurnS, Fmt, Draw6, DrawF, DrawC, Map, Plain, SpecA, ImplA). Conditions: texts below the reach.
-/
import Derived.Test.YteonanaihklgmaaDoorPp1
import Derived.Test.YteonanaihklgmaaDoorPp0
import Derived.Maps.Own
import Derived.LaidEqlPtr
import Derived.Deep.RegionLawGrows
import Derived.KernelRfl
import Derived.Test.YteonanaihklgmaaDoorRows
import Derived.WalkKit
import Derived.WalkSpells
import Derived.Lib.Hide
import Derived.Lib.Bytealg
import Derived.Lib.IndexBytes
set_option linter.unusedSimpArgs false
set_option linter.unusedVariables false

namespace Go.Proofs.YteonanaihklgmaaDoor
open Go.RowKit
open Pl
set_option linter.unusedSimpArgs false
set_option linter.unusedVariables false

/-- a drawn text, perhaps no formula -/
def FmO (rb : Nat) (A : Option Addr) (n cap p B D : Nat) (e : Ending) (w' : World) : Prop := ∃ (t : ByteArray) (p' : Nat), e = .returned (.string t) ∧ t.size ≤ B ∧ p' ≤ p + D ∧ Rd w' rb A n cap p'
theorem l2Draw_at (rb : Nat) (A : Option Addr) (n cap p : Nat) (vs : ByteArray) (hv0 : 0 < vs.size) (hv4 : vs.size ≤ 4) (c : Bool) (z : Int) (hz0 : 0 ≤ z) (hz4 : z ≤ 4) (w : World) (h : Rd w rb A n cap p) (hp : p ≤ 499000000000) :
    Calls Tryd.prog 77 #[.pointer (some ⟨rb, 0, none⟩), .int .i64 z, .string vs, .bool c] w fun e w' => FmD rb A n cap p 63 186 e w' ∧ w.grownBy w' (some rb) := by
  obtain ⟨d, rfl⟩ : ∃ d : Nat, z = (d : Nat) := ⟨z.toNat, by omega⟩
  have hd : d ≤ 4 := by omega
  have hM : 2 ^ d ≤ 16 ∧ 1 ≤ 2 ^ d := by
    have : d = 0 ∨ d = 1 ∨ d = 2 ∨ d = 3 ∨ d = 4 := by omega
    rcases this with rfl | rfl | rfl | rfl | rfl <;> decide
  exact (l2Draw_calls rb A n cap vs hv0 hv4 c d hd p w h (by omega)).mono fun e w' ⟨h1, h2⟩ => ⟨h1.mono (by omega) (by omega), h2⟩

set_option maxHeartbeats 2000000 in
set_option maxRecDepth 100000 in
theorem l2Some_calls (rb : Nat) (A : Option Addr) (n cap p : Nat) (w : World) (h : Rd w rb A n cap p) (hp : p ≤ 400000000000) :
    Calls Tryd.prog 66 #[.pointer (some ⟨rb, 0, none⟩)] w fun e w' => FmD rb A n cap p 63 200 e w' ∧ w.grownBy w' (some rb) := by
  have Hpk := Lib.hid (show ∀ (k : Int) (q : Nat) (V : World), k ≤ 1000 → q ≤ 1000000000000 → Rd V rb A n cap q → Calls Tryd.prog 44 #[.pointer (some ⟨rb, 0, none⟩), .int .i64 k] V fun e w' => PickP k e ∧ Rd w' rb A n cap (q + 1) ∧ V.grownBy w' (some rb) from fun k q V hk hq hr => pick_calls rb A n cap q k V hr (by omega) (by omega))
  have Hof5 := Lib.hid (show ∀ (g q : Nat) (W : World), SCells W g [bs [97, 98], bs [97, 98, 99], bs [97], bs [97, 98, 99, 100]] → g ≠ rb → q ≤ 1000000000000 → Rd W rb A n cap q → Calls Tryd.prog 52 #[.pointer (some ⟨rb, 0, none⟩), .slice (some ⟨g, 0, none⟩) 4 4] W fun e w' => (∃ t : ByteArray, e = .returned (.string t) ∧ 1 ≤ t.size ∧ t.size ≤ 4) ∧ Rd w' rb A n cap (q + 1) ∧ W.grownBy w' (some rb) from
    fun g q W h1 h2 h4 h3 => (of_calls rb A n cap q g 4 [bs [97, 98], bs [97, 98, 99], bs [97], bs [97, 98, 99, 100]] W h3 (by omega) (by simp) (by simp) h1 h2).mono fun e w' ⟨⟨m, h4, h5⟩, h6⟩ => ⟨⟨m, h4, by
      simp only [List.mem_cons, List.not_mem_nil, or_false] at h5
      rcases h5 with rfl | rfl | rfl | rfl <;> decide⟩, h6⟩)
  have D0 := Lib.hid (Dw.new h)
  have hrl := h.box.lt
  clear h
  go_enter Tryd.func66, Tryd.ntmps66
  go_wp2_with fail
  refine (Hpk.out 4 (p) _ (by omega) (by omega) D0.out.rd).mono ?_
  rintro e w1 ⟨⟨m, rfl, m0, m1, _⟩, hr, hg⟩
  have D1 := Lib.hid (D0.out.step hr hg)
  clear hr hg
  have m4 := m1 (by omega)
  clear m1
  have D2 := Lib.hid (D1.out.alloc (.cells #[.string ⟨#[97, 98]⟩, .string ⟨#[97, 98, 99]⟩, .string ⟨#[97]⟩, .string ⟨#[97, 98, 99, 100]⟩] 9))
  have ND2 := Lib.hid (scells_new w1 [bs [97, 98], bs [97, 98, 99], bs [97], bs [97, 98, 99, 100]] 9)
  have hszw3 := D1.out.rd.box.lt
  go_wp2_with fail
  refine (Hof5.out _ (p + 1) _ (by exact ND2.out) (by omega) (by omega) D2.out.rd).mono ?_
  rintro e w3 ⟨⟨vs, rfl, vs0, vs1⟩, hr, hg⟩
  have D3 := Lib.hid (D2.out.step hr hg)
  clear hr hg
  go_wp2_with fail
  refine (Hpk.out 2 (p + 1 + 1) _ (by omega) (by omega) D3.out.rd).mono ?_
  rintro e w4 ⟨⟨b, rfl, b0, b1, _⟩, hr, hg⟩
  have D4 := Lib.hid (D3.out.step hr hg)
  clear hr hg
  clear b1
  have hz0 : 0 ≤ 1 + m := by omega
  have hz4 : 1 + m ≤ 4 := by omega
  have HD := Lib.hid (fun (c : Bool) (W : World) (h : Rd W rb A n cap (p + 1 + 1 + 1)) => l2Draw_at rb A n cap (p + 1 + 1 + 1) vs vs0 vs1 c (1 + m) hz0 hz4 W h (by omega))
  by_cases e0 : b = 0
  · subst e0
    go_wp2_with fail
    refine (HD.out _ _ D4.out.rd).mono ?_
    rintro e w5 ⟨⟨t, p5, rfl, t0, t1, hp5, hr⟩, hg⟩
    have D5 := Lib.hid (D4.out.step hr hg)
    clear hr hg
    go_wp2_with fail
    go_ret
    exact ⟨⟨t, p5, rfl, t0, t1, by omega, D5.out.rd⟩, D5.out.gr⟩
  · have f0 : (b == 0) = false := by rw [beq_eq_false_iff_ne]; exact e0
    go_wp2_with fail
    refine (HD.out _ _ D4.out.rd).mono ?_
    rintro e w5 ⟨⟨t, p5, rfl, t0, t1, hp5, hr⟩, hg⟩
    have D5 := Lib.hid (D4.out.step hr hg)
    clear hr hg
    go_wp2_with fail
    go_ret
    exact ⟨⟨t, p5, rfl, t0, t1, by omega, D5.out.rd⟩, D5.out.gr⟩

set_option maxHeartbeats 4000000 in
set_option maxRecDepth 100000 in
theorem l2Bad_calls (rb : Nat) (A : Option Addr) (n cap p : Nat) (f : ByteArray) (hf0 : 0 < f.size) (hf : f.size ≤ 900) (w : World) (h : Rd w rb A n cap p) (hp : p ≤ 400000000200) :
    Calls Tryd.prog 65 #[.pointer (some ⟨rb, 0, none⟩), .string f] w fun e w' => FmO rb A n cap p (f.size + 1) 3 e w' ∧ w.grownBy w' (some rb) := by
  have Hpk := Lib.hid (show ∀ (k : Int) (q : Nat) (V : World), k ≤ 1000 → q ≤ 1000000000000 → Rd V rb A n cap q → Calls Tryd.prog 44 #[.pointer (some ⟨rb, 0, none⟩), .int .i64 k] V fun e w' => PickP k e ∧ Rd w' rb A n cap (q + 1) ∧ V.grownBy w' (some rb) from fun k q V hk hq hr => pick_calls rb A n cap q k V hr (by omega) (by omega))
  have Hof6 := Lib.hid (show ∀ (g q : Nat) (W : World), SCells W g [bs [116], bs [97], bs [32]] → g ≠ rb → q ≤ 1000000000000 → Rd W rb A n cap q → Calls Tryd.prog 52 #[.pointer (some ⟨rb, 0, none⟩), .slice (some ⟨g, 0, none⟩) 3 3] W fun e w' => (∃ t : ByteArray, e = .returned (.string t) ∧ 1 ≤ t.size ∧ t.size ≤ 1) ∧ Rd w' rb A n cap (q + 1) ∧ W.grownBy w' (some rb) from
    fun g q W h1 h2 h4 h3 => (of_calls rb A n cap q g 3 [bs [116], bs [97], bs [32]] W h3 (by omega) (by simp) (by simp) h1 h2).mono fun e w' ⟨⟨m, h4, h5⟩, h6⟩ => ⟨⟨m, h4, by
      simp only [List.mem_cons, List.not_mem_nil, or_false] at h5
      rcases h5 with rfl | rfl | rfl <;> decide⟩, h6⟩)
  have Hof7 := Lib.hid (show ∀ (g q : Nat) (W : World), SCells W g [bs [101], bs [65], bs [80], bs [53]] → g ≠ rb → q ≤ 1000000000000 → Rd W rb A n cap q → Calls Tryd.prog 52 #[.pointer (some ⟨rb, 0, none⟩), .slice (some ⟨g, 0, none⟩) 4 4] W fun e w' => (∃ t : ByteArray, e = .returned (.string t) ∧ 1 ≤ t.size ∧ t.size ≤ 1) ∧ Rd w' rb A n cap (q + 1) ∧ W.grownBy w' (some rb) from
    fun g q W h1 h2 h4 h3 => (of_calls rb A n cap q g 4 [bs [101], bs [65], bs [80], bs [53]] W h3 (by omega) (by simp) (by simp) h1 h2).mono fun e w' ⟨⟨m, h4, h5⟩, h6⟩ => ⟨⟨m, h4, by
      simp only [List.mem_cons, List.not_mem_nil, or_false] at h5
      rcases h5 with rfl | rfl | rfl | rfl <;> decide⟩, h6⟩)
  have D0 := Lib.hid (Dw.new h)
  have hrl := h.box.lt
  have hfi : (f.size : Int) ≤ 900 := by omega
  have hfi0 : 1 ≤ (f.size : Int) := by omega
  clear h
  go_enter Tryd.func65, Tryd.ntmps65
  go_wp2_with fail
  refine (Hpk.out 30 (p) _ (by omega) (by omega) D0.out.rd).mono ?_
  rintro e w1 ⟨⟨m, rfl, m0, m1, _⟩, hr, hg⟩
  have D1 := Lib.hid (D0.out.step hr hg)
  clear hr hg
  clear m1
  by_cases e0 : m = 0
  · subst e0
    have D2 := Lib.hid (D1.out.alloc (.cells #[.string ⟨#[116]⟩, .string ⟨#[97]⟩, .string ⟨#[32]⟩] 9))
    have ND2 := Lib.hid (scells_new w1 [bs [116], bs [97], bs [32]] 9)
    have hszw3 := D1.out.rd.box.lt
    go_wp2_with fail
    refine (Hof6.out _ (p + 1) _ (by exact ND2.out) (by omega) (by omega) D2.out.rd).mono ?_
    rintro e w3 ⟨⟨t, rfl, t0, t1⟩, hr, hg⟩
    have D3 := Lib.hid (D2.out.step hr hg)
    clear hr hg
    go_wp2_with fail
    go_ret
    exact ⟨⟨_, p + 1 + 1, rfl, by rw [ByteArray.size_append]; omega, by omega, D3.out.rd⟩, D3.out.gr⟩
  · have f0 : (m == 0) = false := by rw [beq_eq_false_iff_ne]; exact e0
    by_cases e1 : m = 1
    · subst e1
      go_wp2_with fail
      go_ret
      exact ⟨⟨_, p + 1, rfl, by rw [ByteArray.size_extract]; omega, by omega, D1.out.rd⟩, D1.out.gr⟩
    · have f1 : (m == 1) = false := by rw [beq_eq_false_iff_ne]; exact e1
      by_cases e2 : m = 2
      · subst e2
        go_wp2_with fail
        refine (Hpk.out (f.size : Int) (p + 1) _ (by omega) (by omega) D1.out.rd).mono ?_
        rintro e w2 ⟨⟨k, rfl, k0, k1, _⟩, hr, hg⟩
        have D2 := Lib.hid (D1.out.step hr hg)
        clear hr hg
        have klt := k1 (by omega)
        clear k1
        obtain ⟨kn, rfl⟩ : ∃ x : Nat, k = (x : Nat) := ⟨k.toNat, by omega⟩
        have hwk : IntKind.i64.wrap ((kn : Int) + 1) = (kn : Int) + 1 := IntWalk.i64_in _ (by omega)
        have he1 : (f.extract 0 kn).size = kn := by rw [ByteArray.size_extract]; omega
        have he2 : (f.extract (kn + 1) f.size).size = f.size - kn - 1 := by rw [ByteArray.size_extract]; omega
        have hrl2 := D2.out.rd.box.lt
        go_upto_region 8 with (fail)
        refine region_sched [(0, true), (1, true), (2, true), (3, true), (7, true), (8, true), (9, true), (10, true), (4, false), (5, false), (6, true), (11, true), (12, true)] (fun _ : World => True) (by kernel_rfl) (by kernel_rfl) (by kernel_rfl) (by kernel_rfl) (fun _ _ _ _ h => h) ?_ (fun Q1 hQ1 => ?_)
        · exact True.intro
        try simp only [List.append]
        refine sched_take' (v := ?_) (a' := ?_) rfl (by kernel_rfl) ?_ rfl ?_ ?_
        rotate_left 2
        · intro w hSw
          (try dsimp only at hSw)
          go_simp
          try with_reducible rfl
        · (try simp only [Act.put, List.setIfInBounds_toArray, List.set_cons_zero, List.set_cons_succ])
          try rfl
        refine sched_take' (v := ?_) (a' := ?_) rfl (by kernel_rfl) ?_ rfl ?_ ?_
        rotate_left 2
        · intro w hSw
          (try dsimp only at hSw)
          go_simp
          try with_reducible rfl
        · (try simp only [Act.put, List.setIfInBounds_toArray, List.set_cons_zero, List.set_cons_succ])
          try rfl
        refine sched_take' (v := .string (f.extract 0 kn)) (a' := ?_) rfl (by kernel_rfl) ?_ rfl ?_ ?_
        rotate_left 1
        · intro w hSw
          (try dsimp only at hSw)
          go_simp
          first | done | omega | (intro hq; exfalso; omega) | (intro hq; exfalso; have := hq (by omega); omega) | (rw [if_pos (by omega)] <;> first | rfl | (congr 3; omega)) | (rw [if_pos ⟨by omega, by omega⟩] <;> first | rfl | (congr 3; omega))
        · (try simp only [Act.put, List.setIfInBounds_toArray, List.set_cons_zero, List.set_cons_succ])
          try rfl
        refine sched_take' (v := ?_) (a' := ?_) rfl (by kernel_rfl) ?_ rfl ?_ ?_
        rotate_left 2
        · intro w hSw
          (try dsimp only at hSw)
          go_simp
          try with_reducible rfl
        · (try simp only [Act.put, List.setIfInBounds_toArray, List.set_cons_zero, List.set_cons_succ])
          try rfl
        refine sched_take' (v := ?_) (a' := ?_) rfl (by kernel_rfl) ?_ rfl ?_ ?_
        rotate_left 2
        · intro w hSw
          (try dsimp only at hSw)
          go_simp
          try with_reducible rfl
        · (try simp only [Act.put, List.setIfInBounds_toArray, List.set_cons_zero, List.set_cons_succ])
          try rfl
        refine sched_take' (v := ?_) (a' := ?_) rfl (by kernel_rfl) ?_ rfl ?_ ?_
        rotate_left 2
        · intro w hSw
          (try dsimp only at hSw)
          go_simp
          try with_reducible rfl
        · (try simp only [Act.put, List.setIfInBounds_toArray, List.set_cons_zero, List.set_cons_succ])
          try rfl
        refine sched_take' (v := .int .i64 ((kn : Int) + 1)) (a' := ?_) rfl (by kernel_rfl) ?_ rfl ?_ ?_
        rotate_left 1
        · intro w hSw
          (try dsimp only at hSw)
          go_simp
          first | done | (simp [hwk]; done) | rw [hwk]
        · (try simp only [Act.put, List.setIfInBounds_toArray, List.set_cons_zero, List.set_cons_succ])
          try rfl
        refine sched_take' (v := .string (f.extract (kn + 1) f.size)) (a' := ?_) rfl (by kernel_rfl) ?_ rfl ?_ ?_
        rotate_left 1
        · intro w hSw
          (try dsimp only at hSw)
          go_simp
          first | done | (intro hq; exfalso; have := hq (by omega); omega) | (rw [if_pos (by omega)] <;> first | rfl | (congr 3; omega)) | (rw [if_pos ⟨by omega, by omega⟩] <;> first | rfl | (congr 3; omega))
        · (try simp only [Act.put, List.setIfInBounds_toArray, List.set_cons_zero, List.set_cons_succ])
          try rfl
        refine sched_call rfl (by kernel_rfl) (fun K1 hK1 => ?_)
        go_simp
        refine hK1.out _ _ ?_ (sched_lay (a' := ?_) ?_ ?_)
        · exact True.intro
        rotate_left 1
        · (try simp only [Act.put, List.getElem_toArray, List.getElem_cons_succ, List.getElem_cons_zero, List.setIfInBounds_toArray, List.set_cons_zero, List.set_cons_succ])
          try rfl
        clear hK1 K1
        refine sched_call rfl (by kernel_rfl) (fun K1 hK1 => ?_)
        go_simp
        refine (Hof7.out _ (p + 1 + 1) _ (by exact scells_new w2.drew [bs [101], bs [65], bs [80], bs [53]] 9) (by have := D2.out.rd.box.lt; have e : w2.drew.heap.size = w2.heap.size := rfl; omega) (by omega) (D2.out.drew.alloc _).rd).mono ?_
        rintro e w9 ⟨⟨t, rfl, t0, t1⟩, hr, hg⟩
        have D9 := Lib.hid ((D2.out.drew.alloc _).step hr hg)
        clear hr hg
        go_wp2_with fail
        refine hK1.out _ _ ?_ (sched_lay (a' := ?_) ?_ ?_)
        · exact True.intro
        rotate_left 1
        · (try simp only [Act.put, List.getElem_toArray, List.getElem_cons_succ, List.getElem_cons_zero, List.setIfInBounds_toArray, List.set_cons_zero, List.set_cons_succ])
          try rfl
        clear hK1 K1
        refine sched_take' (v := .string (f.extract 0 kn ++ t)) (a' := ?_) rfl (by kernel_rfl) ?_ rfl ?_ ?_
        rotate_left 1
        · intro w hSw
          (try dsimp only at hSw)
          go_simp
          first | done | omega | (simp only [he1]; omega)
        · (try simp only [Act.put, List.setIfInBounds_toArray, List.set_cons_zero, List.set_cons_succ])
          try rfl
        refine sched_take' (v := .string (f.extract 0 kn ++ t ++ f.extract (kn + 1) f.size)) (a' := ?_) rfl (by kernel_rfl) ?_ rfl ?_ ?_
        rotate_left 1
        · intro w hSw
          (try dsimp only at hSw)
          go_simp
          first | done | omega | (simp only [ByteArray.size_append, he1, he2]; omega)
        · (try simp only [Act.put, List.setIfInBounds_toArray, List.set_cons_zero, List.set_cons_succ])
          try rfl
        refine sched_take' (v := ?_) (a' := ?_) rfl (by kernel_rfl) ?_ rfl ?_ ?_
        rotate_left 2
        · intro w hSw
          (try dsimp only at hSw)
          go_simp
          try with_reducible rfl
        · (try simp only [Act.put, List.setIfInBounds_toArray, List.set_cons_zero, List.set_cons_succ])
          try rfl
        refine sched_done (hQ1.out _ _ ?_)
        go_wp2_with fail
        go_ret
        exact ⟨⟨_, p + 1 + 1 + 1, rfl, by rw [ByteArray.size_append, ByteArray.size_append, he1, he2]; omega, by omega, D9.out.rd⟩, D9.out.gr⟩
      · have f2 : (m == 2) = false := by rw [beq_eq_false_iff_ne]; exact e2
        go_wp2_with fail
        go_ret
        exact ⟨⟨_, p + 1, rfl, by omega, by omega, D1.out.rd⟩, D1.out.gr⟩

set_option maxRecDepth 100000 in
theorem l2Open_calls (rb : Nat) (A : Option Addr) (n cap p : Nat) (w : World) (h : Rd w rb A n cap p) (hp : p ≤ 400000000000) :
    Calls Tryd.prog 31 #[.pointer (some ⟨rb, 0, none⟩)] w fun e w' => FmO rb A n cap p 64 203 e w' ∧ w.grownBy w' (some rb) := by
  have D0 := Lib.hid (Dw.new h)
  clear h
  go_enter Tryd.func31, Tryd.ntmps31
  go_wp2_with fail
  refine (l2Some_calls rb A n cap p _ D0.out.rd hp).mono ?_
  rintro e w1 ⟨⟨t, p1, rfl, t0, t1, hp1, hr⟩, hg⟩
  have D1 := Lib.hid (D0.out.step hr hg)
  clear hr hg
  go_wp2_with fail
  refine (l2Bad_calls rb A n cap p1 t t0 (by omega) _ D1.out.rd (by omega)).mono ?_
  rintro e w2 ⟨⟨t2, p2, rfl, u1, hp2, hr⟩, hg⟩
  have D2 := Lib.hid (D1.out.step hr hg)
  clear hr hg
  go_wp2_with fail
  go_ret
  exact ⟨⟨t2, p2, rfl, by omega, by omega, D2.out.rd⟩, D2.out.gr⟩

end Go.Proofs.YteonanaihklgmaaDoor

namespace Go.Proofs.YteonanaihklgmaaDoor
open Go.RowKit
open Pl
set_option linter.unusedSimpArgs false
set_option linter.unusedVariables false

/-- a number that a machine holds -/
def IOk (i : Int) : Prop := (Lit.int .i64 i).wf = true
theorem iok_of {i : Int} (h0 : -1000 ≤ i) (h1 : i ≤ 1000) : IOk i := by
  have h2 : IntKind.i64.min = -9223372036854775808 := by decide
  have h3 : IntKind.i64.max = 9223372036854775807 := by decide
  show (decide (IntKind.i64.min ≤ i) && decide (i ≤ IntKind.i64.max)) = true
  rw [h2, h3]
  simp
  omega

/-- a drawn structure, perhaps not valid -/
def BadS (rb : Nat) (A : Option Addr) (n cap p : Nat) (an : Int) (e : Ending) (w' : World) : Prop := ∃ (i : Int) (s r : ByteArray) (p' : Nat), e = .returned (stV i s r) ∧ IOk i ∧ s.size ≤ 100 ∧ r.size ≤ 100 ∧ p' ≤ p + 300 ∧ Rd w' rb A n cap p' ∧ (i = an ∨ i ≤ 0 ∨ an < i)
/-- a drawn number -/
def ElS (rb : Nat) (A : Option Addr) (n cap p : Nat) (e : Ending) (w' : World) : Prop := ∃ (x : Int) (p' : Nat), e = .returned (.int .i64 x) ∧ IOk x ∧ p' ≤ p + 2 ∧ Rd w' rb A n cap p'

set_option maxRecDepth 100000 in
theorem el_list {m : Int} (h : m ∈ [-1, 8, 7, 9223372036854775807]) : IOk m := by
  simp only [List.mem_cons, List.not_mem_nil, or_false] at h
  rcases h with rfl | rfl | rfl | rfl <;> (unfold IOk; decide)
set_option maxRecDepth 100000 in
theorem bad_list {m k : Int} (hk : IOk k) (h : m ∈ [0, -1, k, 9, 9223372036854775807]) : IOk m := by
  simp only [List.mem_cons, List.not_mem_nil, or_false] at h
  rcases h with rfl | rfl | rfl | rfl | rfl
  · unfold IOk; decide
  · unfold IOk; decide
  · exact hk
  · unfold IOk; decide
  · unfold IOk; decide

theorem bad_far {m : Int} {k : Nat} (hk : k ≤ 5) (h : m ∈ [0, -1, (k : Int) + 1, 9, 9223372036854775807]) : m ≤ 0 ∨ (k : Int) < m := by
  simp only [List.mem_cons, List.not_mem_nil, or_false] at h
  rcases h with rfl | rfl | rfl | rfl | rfl
  · exact .inl (by omega)
  · exact .inl (by omega)
  · exact .inr (by omega)
  · exact .inr (by omega)
  · exact .inr (by omega)

set_option maxHeartbeats 2000000 in
set_option maxRecDepth 100000 in
theorem l1Bad_calls (rb : Nat) (A : Option Addr) (n cap p : Nat) (a : St) (ha : a.ok) (han : a.n ≤ 5) (w : World) (h : Rd w rb A n cap p) (hp : p ≤ 549755800000) :
    Calls Tryd.prog 71 #[.pointer (some ⟨rb, 0, none⟩), stA a] w fun e w' => BadS rb A n cap p (a.n : Int) e w' ∧ w.grownBy w' (some rb) := by
  have hpk : ∀ (k : Int) (q : Nat) (V : World), k ≤ 100 → q ≤ p + 200 → Rd V rb A n cap q → Calls Tryd.prog 44 #[.pointer (some ⟨rb, 0, none⟩), .int .i64 k] V fun e w' => PickP k e ∧ Rd w' rb A n cap (q + 1) ∧ V.grownBy w' (some rb) := fun k q V hk hq hr => pick_calls rb A n cap q k V hr (by omega) (by omega)
  have hnum : ∀ (g : Nat) (W : World), NCells W g [0, -1, (a.n : Int) + 1, 9, 9223372036854775807] → g ≠ rb → Rd W rb A n cap (p + 1) → Calls Tryd.prog 94 #[.pointer (some ⟨rb, 0, none⟩), .slice (some ⟨g, 0, none⟩) 5 5] W fun e w' => (∃ k : Int, e = .returned (.int .i64 k) ∧ IOk k ∧ (k ≤ 0 ∨ (a.n : Int) < k)) ∧ Rd w' rb A n cap (p + 1 + 1) ∧ W.grownBy w' (some rb) :=
    fun g W h1 h2 h3 => (num_calls rb A n cap (p + 1) g 5 [0, -1, (a.n : Int) + 1, 9, 9223372036854775807] W h3 (by omega) (by simp) (by simp) h1 h2).mono fun e w' ⟨⟨m, h4, h5⟩, h6⟩ => ⟨⟨m, h4, bad_list (iok_of (by omega) (by omega)) h5, bad_far han h5⟩, h6⟩
  have hof : ∀ (g : Nat) (W : World), SCells W g [bs [], bs [50], bs [48, 49]] → g ≠ rb → Rd W rb A n cap (p + 1) → Calls Tryd.prog 52 #[.pointer (some ⟨rb, 0, none⟩), .slice (some ⟨g, 0, none⟩) 3 3] W fun e w' => (∃ t : ByteArray, e = .returned (.string t) ∧ t.size ≤ 2) ∧ Rd w' rb A n cap (p + 1 + 1) ∧ W.grownBy w' (some rb) :=
    fun g W h1 h2 h3 => (of_calls rb A n cap (p + 1) g 3 [bs [], bs [50], bs [48, 49]] W h3 (by omega) (by simp) (by simp) h1 h2).mono fun e w' ⟨⟨m, h4, h5⟩, h6⟩ => ⟨⟨m, h4, by
      simp only [List.mem_cons, List.not_mem_nil, or_false] at h5
      rcases h5 with rfl | rfl | rfl <;> decide⟩, h6⟩
  have hm1 : ∀ W, Calls Tryd.prog 95 #[.string (bs [48]), .int .i64 9] W fun e w' => (∃ t : ByteArray, e = .returned (.string t) ∧ t.size ≤ 81) ∧ W = w' := fun W => l15Many_calls (bs [48]) 9 W (by decide) (by omega)
  have hm2 : ∀ W, Calls Tryd.prog 95 #[.string (bs [49]), .int .i64 81] W fun e w' => (∃ t : ByteArray, e = .returned (.string t) ∧ t.size ≤ 81) ∧ W = w' := fun W => l15Many_calls (bs [49]) 81 W (by decide) (by omega)
  have hss : (bs a.set).size ≤ 5 ∧ (bs a.rel).size ≤ 25 ∧ 0 < (bs a.rel).size := by
    have h1 := ha.sl; have h2 := ha.rl; have h3 := ha.lo
    have h4 : a.n * a.n ≤ 5 * 5 := Nat.mul_le_mul han han
    have h5 : 1 * 1 ≤ a.n * a.n := Nat.mul_le_mul h3 h3
    rw [bs_size, bs_size]
    omega
  obtain ⟨hs5, hr5, hr0⟩ := hss
  have hn1 := ha.lo
  have D0 := Lib.hid (((Dw.new h).alloc (.cells #[.int .i64 (a.n : Int), .string (bs a.set), .string (bs a.rel)] 27)).alloc (.cells #[.int .i64 0, .string (bs []), .string (bs [])] 27))
  have X0 := Lib.hid ((Bx.new w 27 #[.int .i64 (a.n : Int), .string (bs a.set), .string (bs a.rel)]).alloc (.cells #[.int .i64 0, .string (bs []), .string (bs [])] 27))
  have Y0 := Lib.hid (bx_two w (.cells #[.int .i64 (a.n : Int), .string (bs a.set), .string (bs a.rel)] 27) #[.int .i64 0, .string (bs []), .string (bs [])] (t := 27))
  have hb : ∀ (i : Int) (s r : ByteArray) (q : Nat) (V : World), IOk i → (i = (a.n : Int) ∨ i ≤ 0 ∨ (a.n : Int) < i) → s.size ≤ 100 → r.size ≤ 100 → q ≤ p + 300 → Dw w rb A n cap q V → BadS rb A n cap p (a.n : Int) (.returned (stV i s r)) V ∧ w.grownBy V (some rb) := fun i s r q V h1 h0 h2 h3 h4 h5 => ⟨⟨i, s, r, q, rfl, h1, h2, h3, h4, h5.rd, h0⟩, h5.gr⟩
  have HB := Lib.hid hb
  have Hnum := Lib.hid hnum
  have Hpk := Lib.hid hpk
  have Hof := Lib.hid hof
  have Hm1 := Lib.hid hm1
  have Hm2 := Lib.hid hm2
  have hrl := h.box.lt
  clear hnum hpk hof hm1 hm2 h ha hb
  generalize hS : bs a.set = S at *
  generalize hR : bs a.rel = R at *
  have hni : (1 : Int) ≤ (a.n : Int) := by omega
  have hni5 : (a.n : Int) ≤ 5 := by omega
  show Calls Tryd.prog 71 #[.pointer (some ⟨rb, 0, none⟩), stV (a.n : Int) (bs a.set) (bs a.rel)] w _
  rw [hS, hR]
  clear hS hR
  go_enter Tryd.func71, Tryd.ntmps71
  go_wp2_with fail
  refine (Hpk.out 40 p _ (by omega) (by omega) D0.out.rd).mono ?_
  rintro e w1 ⟨⟨m, rfl, hm0, hm1, _⟩, hr, hg⟩
  have D1 := Lib.hid (D0.out.step hr hg)
  have X1 := Lib.hid (X0.out.dw hg hrl)
  have Y1 := Lib.hid (Y0.out.dw hg (by omega))
  have hs1 : w.heap.size + 2 ≤ w1.heap.size := by have := hg.size; simpa using this
  obtain ⟨c0, c1, c2⟩ := box_load X1.out
  have e0 := X1.out.free 0
  have e1 := X1.out.free 1
  have e2 := X1.out.free 2
  obtain ⟨d0, d1, d2⟩ := box_load Y1.out
  have f0 := Y1.out.free 0
  have f1 := Y1.out.free 1
  have f2 := Y1.out.free 2
  clear hr hg hm1
  have tl : ∀ (V : World) (i : Int) (s r : ByteArray) (q : Nat), Bx V w.heap.size 27 #[.int .i64 i, .string s, .string r] → Bx V (w.heap.size + 1) 27 #[.int .i64 0, .string (bs []), .string (bs [])] → Dw w rb A n cap q V → True := fun _ _ _ _ _ _ _ _ => trivial
  clear tl
  by_cases h0 : m = 0
  · subst h0
    have D2 := Lib.hid (D1.out.alloc (.cells #[.int .i64 0, .int .i64 (-1), .int .i64 ((a.n : Int) + 1), .int .i64 9, .int .i64 9223372036854775807] 3))
    have X2 := Lib.hid (X1.out.alloc (.cells #[.int .i64 0, .int .i64 (-1), .int .i64 ((a.n : Int) + 1), .int .i64 9, .int .i64 9223372036854775807] 3))
    have Y2 := Lib.hid (Y1.out.alloc (.cells #[.int .i64 0, .int .i64 (-1), .int .i64 ((a.n : Int) + 1), .int .i64 9, .int .i64 9223372036854775807] 3))
    have N2 := Lib.hid (ncells_new w1 [0, -1, (a.n : Int) + 1, 9, 9223372036854775807] 3)
    clear d0 d1 d2 f0 f1 f2
    go_wp2_with fail
    refine (Hnum.out _ _ (by have := N2.out; simpa using this) (by omega) D2.out.rd).mono ?_
    clear c0 c1 c2 e0 e1 e2
    rintro e w2 ⟨⟨k, rfl, hk, hkf⟩, hr, hg⟩
    have HKF := Lib.hid hkf
    clear hkf
    have D3 := Lib.hid (((D2.out.step hr hg).put (Nat.le_refl _) 0 (.int .i64 k)).puts (Nat.le_succ _) (.int .i64 k) (.string S) (.string R))
    have x3 := X2.out.dw hg hrl
    have y3 := Y2.out.dw hg (by omega)
    obtain ⟨c0, c1, c2⟩ := box_load x3
    have e0 := x3.free 0
    obtain ⟨d0, d1, d2⟩ := box_load y3
    have f0 := y3.free 0
    have f1 := y3.free 1
    have f2 := y3.free 2
    obtain ⟨q0, q1, q2⟩ := box_load ((y3.far (p := ⟨w.heap.size, 0, none⟩) (by simp) (.int .i64 k)).puts (.int .i64 k) (.string S) (.string R))
    have HK := Lib.hid hk
    clear hr hg hk x3 y3
    go_wp2_with fail
    refine bodyPost_ret (v := stV k S R) ?_ rfl (HB.out _ _ _ _ _ HK.out (.inr HKF.out) (by omega) (by omega) (by omega) D3.out)
    simp [results, Tryd.results71, go_sem, q0, q1, q2]
  by_cases h1 : m = 1
  · subst h1
    have D2 := Lib.hid ((D1.out.put (Nat.le_refl _) 1 (.string (S ++ ⟨#[48]⟩))).puts (Nat.le_succ _) (.int .i64 (a.n : Int)) (.string (S ++ ⟨#[48]⟩)) (.string R))
    obtain ⟨q0, q1, q2⟩ := box_load ((Y1.out.far (p := ⟨w.heap.size, 1, none⟩) (by simp) (.string (S ++ ⟨#[48]⟩))).puts (.int .i64 (a.n : Int)) (.string (S ++ ⟨#[48]⟩)) (.string R))
    have hz : (S ++ ⟨#[48]⟩).size ≤ 6 := by rw [ByteArray.size_append]; have : (ByteArray.mk #[48]).size = 1 := rfl; omega
    have Hz := Lib.hid hz
    clear hz
    go_wp2_with fail
    refine bodyPost_ret (v := stV (a.n : Int) (S ++ ⟨#[48]⟩) R) ?_ rfl (HB.out _ _ _ _ _ (iok_of (by omega) (by omega)) (.inl rfl) (by have := Hz.out; omega) (by omega) (by omega) D2.out)
    simp [results, Tryd.results71, go_sem, q0, q1, q2]
  by_cases h2 : m = 2
  · subst h2
    have hrs : (R.size : Int) - 1 ≤ R.size := by omega
    have hr1 : (1 : Int) ≤ (R.size : Int) := by omega
    have hr2 : (R.size : Int) ≤ 25 := by omega
    have hr3 : IntKind.i64.wrap ((R.size : Int) - 1) = (R.size : Int) - 1 := IntWalk.i64_in _ (by omega)
    have D2 := Lib.hid (D1.out.drew.alloc (.cells #[.string (bs []), .string (bs [50]), .string (bs [48, 49])] 9))
    have X2 := Lib.hid (X1.out.drew.alloc (.cells #[.string (bs []), .string (bs [50]), .string (bs [48, 49])] 9))
    have Y2 := Lib.hid (Y1.out.drew.alloc (.cells #[.string (bs []), .string (bs [50]), .string (bs [48, 49])] 9))
    have N2 := Lib.hid (scells_new w1.drew [bs [], bs [50], bs [48, 49]] 9)
    go_upto_region 7 with (fail)
    refine R2.region_sched [(0, true), (1, true), (2, true), (3, true), (4, true), (5, true), (6, true), (7, true), (8, false), (9, false), (10, true), (11, true), (12, false)] 12 (fun w' : World => w'.cell? ⟨w.heap.size, 2, none⟩ = some (.string R)) (by kernel_rfl) (by kernel_rfl) (by kernel_rfl) (by kernel_rfl) (by kernel_rfl) (fun _ _ _ _ h => h) ?_ (fun Q1 hQ1 => ?_)
    · exact c2
    try simp only [List.append]
    refine R2.sched_take' (v := ?_) (a' := ?_) rfl (by kernel_rfl) ?_ rfl ?_ ?_
    rotate_left 2
    · intro w hSw
      (try dsimp only at hSw)
      go_simp
      try with_reducible rfl
    · (try simp only [Act.put, List.setIfInBounds_toArray, List.set_cons_zero, List.set_cons_succ])
      try rfl
    refine R2.sched_take' (v := ?_) (a' := ?_) rfl (by kernel_rfl) ?_ rfl ?_ ?_
    rotate_left 2
    · intro w hSw
      (try dsimp only at hSw)
      go_simp
      try with_reducible rfl
    · (try simp only [Act.put, List.setIfInBounds_toArray, List.set_cons_zero, List.set_cons_succ])
      try rfl
    refine R2.sched_take' (v := ?_) (a' := ?_) rfl (by kernel_rfl) ?_ rfl ?_ ?_
    rotate_left 2
    · intro w hSw
      (try dsimp only at hSw)
      go_simp
      try with_reducible rfl
    · (try simp only [Act.put, List.setIfInBounds_toArray, List.set_cons_zero, List.set_cons_succ])
      try rfl
    refine R2.sched_take' (v := ?_) (a' := ?_) rfl (by kernel_rfl) ?_ rfl ?_ ?_
    rotate_left 2
    · intro w hSw
      (try dsimp only at hSw)
      go_simp
      try with_reducible rfl
    · (try simp only [Act.put, List.setIfInBounds_toArray, List.set_cons_zero, List.set_cons_succ])
      try rfl
    refine R2.sched_take' (v := ?_) (a' := ?_) rfl (by kernel_rfl) ?_ rfl ?_ ?_
    rotate_left 2
    · intro w hSw
      (try dsimp only at hSw)
      go_simp
      try with_reducible rfl
    · (try simp only [Act.put, List.setIfInBounds_toArray, List.set_cons_zero, List.set_cons_succ])
      try rfl
    refine R2.sched_take' (v := ?_) (a' := ?_) rfl (by kernel_rfl) ?_ rfl ?_ ?_
    rotate_left 2
    · intro w hSw
      (try dsimp only at hSw)
      go_simp
      try with_reducible rfl
    · (try simp only [Act.put, List.setIfInBounds_toArray, List.set_cons_zero, List.set_cons_succ])
      try rfl
    refine R2.sched_take' (v := ?_) (a' := ?_) rfl (by kernel_rfl) ?_ rfl ?_ ?_
    rotate_left 2
    · intro w hSw
      (try dsimp only at hSw)
      go_simp
      try with_reducible rfl
    · (try simp only [Act.put, List.setIfInBounds_toArray, List.set_cons_zero, List.set_cons_succ])
      try rfl
    refine R2.sched_take' (v := ?_) (a' := ?_) rfl (by kernel_rfl) ?_ rfl ?_ ?_
    rotate_left 2
    · intro w hSw
      (try dsimp only at hSw)
      go_simp
      try with_reducible rfl
    · (try simp only [Act.put, List.setIfInBounds_toArray, List.set_cons_zero, List.set_cons_succ])
      try rfl
    refine R2.sched_call rfl (by kernel_rfl) (fun K1 hK1 => ?_)
    go_simp
    refine hK1.out _ _ ?_ (R2.sched_lay (a' := ?_) ?_ ?_)
    · exact X2.out.cell 2
    rotate_left 1
    · (try simp only [Act.put, List.getElem_toArray, List.getElem_cons_succ, List.getElem_cons_zero, List.setIfInBounds_toArray, List.set_cons_zero, List.set_cons_succ])
      try rfl
    clear hK1 K1
    refine R2.sched_call rfl (by kernel_rfl) (fun K1 hK1 => ?_)
    go_simp
    refine (Hof.out _ _ (by have := N2.out; simpa using this) (by omega) D2.out.rd).mono ?_
    rintro e w2 ⟨⟨t, rfl, ht⟩, hr, hg⟩
    have D3 := Lib.hid (D2.out.step hr hg)
    have X3 := Lib.hid (X2.out.dw hg hrl)
    have Y3 := Lib.hid (Y2.out.dw hg (by omega))
    clear hr hg
    go_wp2_with fail
    refine hK1.out _ _ ?_ (R2.sched_lay (a' := ?_) ?_ ?_)
    · exact X3.out.cell 2
    rotate_left 1
    · (try simp only [Act.put, List.getElem_toArray, List.getElem_cons_succ, List.getElem_cons_zero, List.setIfInBounds_toArray, List.set_cons_zero, List.set_cons_succ])
      try rfl
    clear hK1 K1
    refine R2.sched_take' (v := .string (R.extract 0 (R.size - 1) ++ t)) (a' := ?_) rfl (by kernel_rfl) ?_ rfl ?_ ?_
    rotate_left 1
    · intro w hSw
      (try dsimp only at hSw)
      go_simp
      first | omega | (rw [if_neg (by omega)])
    · (try simp only [Act.put, List.setIfInBounds_toArray, List.set_cons_zero, List.set_cons_succ])
      try rfl
    refine R2.sched_take' (v := ?_) (a' := ?_) rfl (by kernel_rfl) ?_ rfl ?_ ?_
    rotate_left 2
    · intro w hSw
      (try dsimp only at hSw)
      go_simp
      try with_reducible rfl
    · (try simp only [Act.put, List.setIfInBounds_toArray, List.set_cons_zero, List.set_cons_succ])
      try rfl
    have hU : (R.extract 0 (R.size - 1) ++ t).size ≤ 30 := by rw [ByteArray.size_append, ByteArray.size_extract]; omega
    generalize hUe : R.extract 0 (R.size - 1) ++ t = U at *
    clear hUe
    clear c0 c1 c2 e0 e1 e2 d0 d1 d2 f0 f1 f2
    have e2 := X3.out.free 2
    obtain ⟨c0, c1, c2⟩ := box_load X3.out
    refine R2.sched_last rfl (by kernel_rfl) (fun K1 hK1 => ?_)
    go_simp
    refine hK1.out _ _ (R2.sched_lay (a' := ?_) ?_ ?_)
    rotate_left 1
    · (try simp only [Act.put, List.getElem_toArray, List.getElem_cons_succ, List.getElem_cons_zero, List.setIfInBounds_toArray, List.set_cons_zero, List.set_cons_succ])
      try rfl
    clear hK1 K1
    refine R2.sched_done (hQ1.out _ _ ?_)
    clear c0 c1 c2 e2
    have x4 := X3.out.set 2 (.string U)
    obtain ⟨c0, c1, c2⟩ := box_load (a := .int .i64 (a.n : Int)) (b := .string S) (c := .string U) x4
    have y4 := Y3.out.far (p := ⟨w.heap.size, 2, none⟩) (by simp) (.string U)
    obtain ⟨d0, d1, d2⟩ := box_load y4
    have f0 := y4.free 0
    have f1 := y4.free 1
    have f2 := y4.free 2
    have D4 := Lib.hid ((D3.out.put (Nat.le_refl _) 2 (.string U)).puts (Nat.le_succ _) (.int .i64 (a.n : Int)) (.string S) (.string U))
    obtain ⟨q0, q1, q2⟩ := box_load (y4.puts (.int .i64 (a.n : Int)) (.string S) (.string U))
    clear x4 y4
    go_wp2_with fail
    refine bodyPost_ret (v := stV (a.n : Int) S U) ?_ rfl (HB.out _ _ _ _ _ (iok_of (by omega) (by omega)) (.inl rfl) (by omega) (by omega) (by omega) D4.out)
    simp [results, Tryd.results71, go_sem, q0, q1, q2]
  by_cases h3 : m = 3
  · subst h3
    go_wp2_with fail
    refine (Hm1.out _).mono ?_
    rintro e w2 ⟨⟨t, rfl, ht⟩, rfl⟩
    go_wp2_with fail
    refine (Hm2.out _).mono ?_
    rintro e w2 ⟨⟨u, rfl, hu⟩, rfl⟩
    have D2 := Lib.hid (D1.out.puts (Nat.le_succ _) (.int .i64 9) (.string t) (.string u))
    obtain ⟨q0, q1, q2⟩ := box_load (Y1.out.puts (.int .i64 9) (.string t) (.string u))
    go_wp2_with fail
    refine bodyPost_ret (v := stV 9 t u) ?_ rfl (HB.out _ _ _ _ _ (iok_of (by omega) (by omega)) (.inr (.inr (by omega))) (by omega) (by omega) (by omega) D2.out)
    simp [results, Tryd.results71, go_sem, q0, q1, q2]
  have b0 : (m == 0) = false := by simp; omega
  have b1 : (m == 1) = false := by simp; omega
  have b2 : (m == 2) = false := by simp; omega
  have b3 : (m == 3) = false := by simp; omega
  have D2 := Lib.hid (D1.out.puts (Nat.le_succ _) (.int .i64 (a.n : Int)) (.string S) (.string R))
  obtain ⟨q0, q1, q2⟩ := box_load (Y1.out.puts (.int .i64 (a.n : Int)) (.string S) (.string R))
  go_wp2_with fail
  refine bodyPost_ret (v := stV (a.n : Int) S R) ?_ rfl (HB.out _ _ _ _ _ (iok_of (by omega) (by omega)) (.inl rfl) (by omega) (by omega) (by omega) D2.out)
  simp [results, Tryd.results71, go_sem, q0, q1, q2]

set_option maxHeartbeats 1000000 in
theorem l1Open_calls (rb : Nat) (A : Option Addr) (n cap p : Nat) (w : World) (h : Rd w rb A n cap p) (hp : p ≤ 500000000000) :
    Calls Tryd.prog 38 #[.pointer (some ⟨rb, 0, none⟩)] w fun e w' => (∃ (i : Int) (s r : ByteArray) (p' : Nat), e = .returned (stV i s r) ∧ IOk i ∧ s.size ≤ 100 ∧ r.size ≤ 100 ∧ p' ≤ p + 500 ∧ Rd w' rb A n cap p') ∧ w.grownBy w' (some rb) := by
  have hs := fun W h => l1Some_calls rb A n cap p W h (by omega)
  have hb := fun a ha h5 p' (hp' : p' ≤ p + 101) W h => l1Bad_calls rb A n cap p' a ha h5 W h (by omega)
  have D0 := Lib.hid ((Dw.new h).alloc (.cells #[.int .i64 0, .string (bs []), .string (bs [])] 27))
  have X0 := Lib.hid (Bx.new w 27 #[.int .i64 0, .string (bs []), .string (bs [])])
  have Hs := Lib.hid hs
  have Hb := Lib.hid hb
  have hrl := h.box.lt
  clear hs hb h
  go_enter Tryd.func38, Tryd.ntmps38
  go_wp2_with fail
  refine (Hs.out _ D0.out.rd).mono ?_
  rintro e w1 ⟨⟨a, p1, rfl, ha, han, hp1, hr⟩, hg⟩
  have D1 := Lib.hid (D0.out.step hr hg)
  have X1 := Lib.hid (X0.out.dw hg hrl)
  have Ha := Lib.hid ha
  clear hr hg ha
  go_wp2_with fail
  refine (Hb.out a Ha.out han p1 hp1 _ D1.out.rd).mono ?_
  rintro e w2 ⟨⟨i, s, r, p2, rfl, hi, hsz, hrz, hp2, hr, _⟩, hg⟩
  have D2 := Lib.hid (D1.out.step hr hg)
  have hax := X1.out.dw hg hrl
  obtain ⟨c0, c1, c2⟩ := box_load hax
  have f0 := hax.free 0
  have f1 := hax.free 1
  have f2 := hax.free 2
  have D3 := Lib.hid (D2.out.puts (Nat.le_refl _) (.int .i64 i) (.string s) (.string r))
  obtain ⟨q0, q1, q2⟩ := box_load (hax.puts (.int .i64 i) (.string s) (.string r))
  have HI := Lib.hid hi
  clear hr hg hax hi
  go_wp2_with fail
  refine bodyPost_ret (v := stV i s r) ?_ rfl ⟨⟨i, s, r, p2, rfl, HI.out, hsz, hrz, by omega, D3.out.rd⟩, D3.out.gr⟩
  simp [results, Tryd.results38, go_sem, q0, q1, q2]

end Go.Proofs.YteonanaihklgmaaDoor

namespace Go.Proofs.YteonanaihklgmaaDoor
open Go.RowKit
open Pl
set_option linter.unusedSimpArgs false
set_option linter.unusedVariables false

end Go.Proofs.YteonanaihklgmaaDoor

namespace Go.Proofs.YteonanaihklgmaaDoor
open Go.RowKit
open Pl
set_option linter.unusedSimpArgs false
set_option linter.unusedVariables false

theorem fmt_no {i : Int} {s r : ByteArray} (h : okB i s r = false) : fmtV i s r = bs [] := by unfold fmtV; rw [h]; rfl
theorem fmt_yes {i : Int} {s r : ByteArray} (h : okB i s r = true) : fmtV i s r = s ++ ⟨#[58]⟩ ++ r := by unfold fmtV; rw [h]; rfl

theorem resV_form (o : Option St) : ∃ (j : Int) (S R : ByteArray) (b : Bool), resV o = .tuple #[stV j S R, .bool b] := by
  cases o with
  | none => exact ⟨_, _, _, _, rfl⟩
  | some a => exact ⟨_, _, _, _, rfl⟩

end Go.Proofs.YteonanaihklgmaaDoor

namespace Go.Proofs.YteonanaihklgmaaDoor
open Go.RowKit
open Pl
set_option linter.unusedSimpArgs false
set_option linter.unusedVariables false

theorem byte_of {z : Int} (h : (Lit.int .u8 z).wf = true) : ∃ b : Nat, b < 256 ∧ z = b := by
  have h2 : IntKind.u8.min = 0 := by decide
  have h3 : IntKind.u8.max = 255 := by decide
  have h4 : (decide (IntKind.u8.min ≤ z) && decide (z ≤ IntKind.u8.max)) = true := h
  rw [h2, h3] at h4
  simp at h4
  exact ⟨z.toNat, by omega, by omega⟩

theorem ByRow.call {w w' : World} {A : Option Addr} {n : Nat} (h : ByRow w A n) (hb : Below w.heap.size w w') : ByRow w' A n := fun hn => by
  obtain ⟨x, rfl, hc⟩ := h hn
  refine ⟨x, rfl, fun i hi => ?_⟩
  obtain ⟨b, hb2, hcell⟩ := hc i hi
  exact ⟨b, hb2, (hb.cell (World.block_lt_of_cell? w _ hcell)).trans hcell⟩

/-- what is known while something is drawn from bytes: the reader, new; all that was before is as it was -/
structure Fr (w : World) (rb : Nat) (A : Option Addr) (n cap p : Nat) (V : World) : Prop where
  rd : Rd V rb A n cap p
  bel : Below w.heap.size w V
  rge : w.heap.size ≤ rb

theorem Fr.step {w V V' : World} {rb n cap p p' : Nat} {A : Option Addr} (h : Fr w rb A n cap p V) (hr : Rd V' rb A n cap p') (hg : V.grownBy V' (some rb)) : Fr w rb A n cap p' V' :=
  ⟨hr, h.bel.grown hg h.bel.size (fun j hj => by have := h.rge; have e : rb = j := Option.some.inj hj; omega), h.rge⟩
theorem Fr.call {w V V' : World} {rb n cap p : Nat} {A : Option Addr} (h : Fr w rb A n cap p V) (hb : Below V.heap.size V V') : Fr w rb A n cap p V' := ⟨h.rd.call hb, h.bel.trans (hb.mono h.bel.size), h.rge⟩
theorem Fr.alloc {w V : World} {rb n cap p : Nat} {A : Option Addr} (h : Fr w rb A n cap p V) (o : Obj) : Fr w rb A n cap p (V.alloc o) := ⟨h.rd.alloc o, h.bel.alloc h.bel.size o, h.rge⟩
theorem Fr.drew {w V : World} {rb n cap p : Nat} {A : Option Addr} (h : Fr w rb A n cap p V) : Fr w rb A n cap p V.drew := ⟨h.rd.drew, h.bel.drew, h.rge⟩
theorem Rd.put {V : World} {rb n cap p g : Nat} {A : Option Addr} (hr : Rd V rb A n cap p) (hg : rb < g) (i : Nat) (v : Value) : Rd (V.setCell ⟨g, i, none⟩ v) rb A n cap p := by
  refine ⟨hr.box.far (by simp; omega) _, ?_, hr.small, hr.sep⟩
  intro h0
  obtain ⟨x, rfl, hc⟩ := hr.row h0
  have hx := hr.sep h0 x rfl
  refine ⟨x, rfl, fun i hi => ?_⟩
  obtain ⟨b, hb, hcell⟩ := hc i hi
  refine ⟨b, hb, ?_⟩
  rw [← hcell]
  have hbl : (x.add i).block = x.block := by unfold Addr.add; split <;> rfl
  exact World.cell?_of_block (by rw [hbl]; exact Below.heap_setCell V _ _ _ (by simp; omega))
theorem Fr.put {w V : World} {rb n cap p g : Nat} {A : Option Addr} (h : Fr w rb A n cap p V) (hg : rb < g) (i : Nat) (v : Value) : Fr w rb A n cap p (V.setCell ⟨g, i, none⟩ v) :=
  ⟨h.rd.put hg i v, h.bel.setCell (by have := h.rge; simp; omega) v, h.rge⟩
theorem Fr.puts {w V : World} {rb n cap p g : Nat} {A : Option Addr} (h : Fr w rb A n cap p V) (hg : rb < g) (a b c : Value) : Fr w rb A n cap p (((V.setCell ⟨g, 0, none⟩ a).setCell ⟨g, 1, none⟩ b).setCell ⟨g, 2, none⟩ c) :=
  ((h.put hg 0 a).put hg 1 b).put hg 2 c
theorem below_puts {w V : World} {g : Nat} (h : Below w.heap.size w V) (hg : w.heap.size ≤ g) (a b c : Value) : Below w.heap.size w (((V.setCell ⟨g, 0, none⟩ a).setCell ⟨g, 1, none⟩ b).setCell ⟨g, 2, none⟩ c) :=
  ((h.setCell (by simpa using hg) a).setCell (by simpa using hg) b).setCell (by simpa using hg) c
/-- the reader that is new -/
theorem Fr.new {w V V' : World} {A : Option Addr} {n cap p rb : Nat} (h : Below w.heap.size w V) (hr : Rd V' V.heap.size A n cap p) (hb : Below V.heap.size V V') (hrb : V.heap.size = rb) : Fr w rb A n cap p V' :=
  hrb ▸ ⟨hr, h.trans (hb.mono h.size), h.size⟩

def StS (e : Ending) : Prop := ∃ (i : Int) (s r : ByteArray), e = .returned (stV i s r) ∧ IOk i ∧ s.size ≤ 100 ∧ r.size ≤ 100
def StX (e : Ending) : Prop := ∃ (i : Int) (s r : ByteArray) (x : Int), e = .returned (.tuple #[stV i s r, .int .i64 x]) ∧ IOk i ∧ s.size ≤ 100 ∧ r.size ≤ 100 ∧ IOk x


end Go.Proofs.YteonanaihklgmaaDoor

namespace Go.Proofs.YteonanaihklgmaaDoor
open Go.RowKit
open Pl
set_option linter.unusedSimpArgs false
set_option linter.unusedVariables false

set_option maxHeartbeats 1000000 in
theorem DrawPushNot_calls (A : Option Addr) (n cap : Nat) (w : World) (h : ByRow w A n) (hn : n ≤ 1048576) (hc : n ≤ cap) (hm : cap ≤ maxLen) :
    Calls Tryd.prog 7 #[.slice A n cap] w fun e w' => (∃ t : ByteArray, e = .returned (.string t) ∧ t.size ≤ 64) ∧ Below w.heap.size w w' := by
  have Ho := Lib.hid (fun W h => l15Open_calls A n cap W h hn hc hm)
  have H0 := Lib.hid h
  have Hop := Lib.hid (fun (rb n cap : Nat) (A : Option Addr) (W : World) (h : Rd W rb A n cap 0) => l2Open_calls rb A n cap 0 W h (by omega))
  clear h hn hc hm
  go_enter Tryd.func7, Tryd.ntmps7
  go_wp2_with fail
  refine (Ho.out _ H0.out).mono ?_
  rintro e w1 ⟨⟨A', n', cap', rfl, hr⟩, hb⟩
  have F1 := Lib.hid (Fr.new (rb := w.heap.size) (Below.refl _ _) hr hb rfl)
  clear hr hb
  go_wp2_with fail
  refine (Hop.out _ _ _ _ _ F1.out.rd).mono ?_
  rintro e w2 ⟨⟨t, p', rfl, ht, _, hrd⟩, hg⟩
  have F2 := Lib.hid (F1.out.step hrd hg)
  clear hrd hg
  go_wp2_with fail
  go_ret
  exact ⟨⟨t, rfl, ht⟩, F2.out.bel⟩

end Go.Proofs.YteonanaihklgmaaDoor

namespace Go.Proofs.YteonanaihklgmaaDoor
open Go.RowKit
open Pl
set_option linter.unusedSimpArgs false
set_option linter.unusedVariables false

set_option maxHeartbeats 1000000 in
theorem DrawCountSymmetries_calls (A : Option Addr) (n cap : Nat) (w : World) (h : ByRow w A n) (hn : n ≤ 1048576) (hc : n ≤ cap) (hm : cap ≤ maxLen) :
    Calls Tryd.prog 10 #[.slice A n cap] w fun e w' => StS e ∧ Below w.heap.size w w' := by
  have ho := fun W h => l15Open_calls A n cap W h hn hc hm
  have Ho := Lib.hid ho
  have H0 := Lib.hid (h.call ((Below.refl w.heap.size w).alloc (Nat.le_refl _) (.cells #[.int .i64 0, .string (bs []), .string (bs [])] 27)))
  have hop := fun (rb n cap : Nat) (A : Option Addr) (W : World) (h : Rd W rb A n cap 0) => l1Open_calls rb A n cap 0 W h (by omega)
  have Hop := Lib.hid hop
  have X0 := Lib.hid (Bx.new w 27 #[.int .i64 0, .string (bs []), .string (bs [])])
  have B0 := Lib.hid ((Below.refl w.heap.size w).alloc (Nat.le_refl _) (.cells #[.int .i64 0, .string (bs []), .string (bs [])] 27))
  clear ho hop h hn hc hm
  go_enter Tryd.func10, Tryd.ntmps10
  go_wp2_with fail
  refine (Ho.out _ H0.out).mono ?_
  rintro e w1 ⟨⟨A', n', cap', rfl, hr⟩, hb⟩
  have F1 := Lib.hid (Fr.new (rb := w.heap.size + 1) B0.out hr hb (by simp))
  have X1 := Lib.hid (X0.out.call hb)
  have hne : w.heap.size ≠ (w.alloc (.cells #[.int .i64 0, .string (bs []), .string (bs [])] 27)).heap.size := by simp
  clear hr hb
  go_wp2_with fail
  refine (Hop.out _ _ _ _ _ F1.out.rd).mono ?_
  rintro e w2 ⟨⟨i, s, r, p', rfl, hi, hs, hr, _, hrd⟩, hg⟩
  have F2 := Lib.hid (F1.out.step hrd hg)
  have hax := X1.out.grown' hg (by simp)
  obtain ⟨c0, c1, c2⟩ := box_load hax
  have f0 := hax.free 0
  have f1 := hax.free 1
  have f2 := hax.free 2
  obtain ⟨q0, q1, q2⟩ := box_load (hax.puts (.int .i64 i) (.string s) (.string r))
  have HI := Lib.hid hi
  clear hrd hg hax hi hne
  go_wp2_with fail
  refine bodyPost_ret (v := stV i s r) ?_ rfl ⟨⟨i, s, r, rfl, HI.out, hs, hr⟩, below_puts F2.out.bel (Nat.le_refl _) _ _ _⟩
  simp [results, Tryd.results10, go_sem, q0, q1, q2]
end Go.Proofs.YteonanaihklgmaaDoor

namespace Go.Proofs.YteonanaihklgmaaDoor
open Go.ChangeMaps
set_option linter.unusedSimpArgs false
set_option linter.unusedVariables false

/-- keys of which it can be told whether they are the same -/
structure MKey (P : Program) (w : World) (k : TypeId) (S : Value → Prop) : Prop where
  check : ∀ (em : Bool) {v : Value}, S v → (Instr.checkKey em 10000 k v).run P w = .ok () w
  find : ∀ {x : Value}, S x → ∀ es : List MapEntry, (∀ e ∈ es, S e.key) →
    ((Instr.findKey k x es).run P w = .ok none w ∧ ∀ e ∈ es, e.key ≠ x) ∨ ∃ j e, (Instr.findKey k x es).run P w = .ok (some (j, e.val)) w ∧ es[j]? = some e ∧ e.key = x
  stays : ∀ {v : Value}, S v → (Instr.keyThatStays v v).run P w = .ok v w

/-- numbers as keys -/
def IKey (v : Value) : Prop := ∃ n : Nat, v = .int .i64 (n : Nat) ∧ n < 4096
/-- addresses of blocks as keys -/
def PKey (w : World) (v : Value) : Prop := ∃ b c t, v = .pointer (some ⟨b, 0, none⟩) ∧ w.heap[b]? = some (.cells c t (0, 0))

theorem ikey {P : Program} {w : World} {k : TypeId} (hk : P.underlying k = some (.int .i64)) : MKey P w k IKey := by
  have K := Maps.int_keyed hk
  have key : ∀ {v}, IKey v → ∃ l, keyOf P k v = some l := fun {v} ⟨n, hv, hn⟩ => by
    refine ⟨_, hv ▸ Maps.keyOf_int_mk hk (a := (n : Int)) ?_⟩
    simp [Lit.wf, IntKind.min, IntKind.max, IntKind.signed, IntKind.bits]
    omega
  exact ⟨fun em v h => by obtain ⟨l, hl⟩ := key h; exact K.check w em hl, fun {x} h es hes => by
    obtain ⟨l, hl⟩ := key h
    exact K.find w hl es fun e he => key (hes e he), fun {v} h => by obtain ⟨l, hl⟩ := key h; exact K.stays w hl⟩

theorem eq_ptr {P : Program} {w : World} {k e : TypeId} {j : TypeInfo} (hk : P.underlying k = some (.pointer e)) (he : P.info? e = some j) (hsz : j.size ≠ 0) {x y : Value} (hx : PKey w x) (hy : PKey w y) :
    ∃ r : Bool, (Op.equal k x y).run P w = .ok r w ∧ (r = true ↔ x = y) := by
  obtain ⟨a, ca, ta, rfl, ha⟩ := hx
  obtain ⟨b, cb, tb, rfl, hb⟩ := hy
  by_cases hab : a = b
  · subst hab
    refine ⟨true, ?_, by simp⟩
    have h : ∀ d : Nat, (Op.equalIn (d + 1) k (.pointer (some ⟨a, 0, none⟩)) (.pointer (some ⟨a, 0, none⟩))).run P w = .ok true w := fun d => by
      simp [Op.equalIn, run_underlying hk, sizeOf, typeInfo, he, run_sameAddr_same]
    simp only [Op.equal, Op.maxDepth]
    exact h 9999
  · refine ⟨false, ?_, by simp [hab]⟩
    have h := run_sameAddr_other (P := P) w (a := ⟨a, 0, none⟩) (b := ⟨b, 0, none⟩) (by simp [hab]) ha hb
    have h2 : ∀ d : Nat, (Op.equalIn (d + 1) k (.pointer (some ⟨a, 0, none⟩)) (.pointer (some ⟨b, 0, none⟩))).run P w = .ok false w := fun d => by
      simp [Op.equalIn, run_underlying hk, sizeOf, typeInfo, he, hsz, h]
    simp only [Op.equal, Op.maxDepth]
    exact h2 9999

theorem find_ptr {P : Program} {w : World} {k e : TypeId} {j : TypeInfo} (hk : P.underlying k = some (.pointer e)) (he : P.info? e = some j) (hsz : j.size ≠ 0) {x : Value} (hx : PKey w x) : ∀ (es : List MapEntry) (i : Nat), (∀ e ∈ es, PKey w e.key) →
    ((Instr.findAsking k x es i).run P w = .ok none w ∧ ∀ e ∈ es, e.key ≠ x) ∨ ∃ j e, (Instr.findAsking k x es i).run P w = .ok (some (i + j, e.val)) w ∧ es[j]? = some e ∧ e.key = x
  | [], i, _ => .inl ⟨by simp [Instr.findAsking], by simp⟩
  | y :: es, i, hall => by
    obtain ⟨r, hr, hiff⟩ := eq_ptr hk he hsz hx (hall y (by simp))
    cases r with
    | false =>
      have hne : y.key ≠ x := fun h => by have := hiff.2 h.symm; cases this
      rcases find_ptr hk he hsz hx es (i + 1) (fun z hz => hall z (by simp [hz])) with ⟨h1, h2⟩ | ⟨j, e', h1, h2, h3⟩
      · refine .inl ⟨by simp [Instr.findAsking, hr, h1], fun z hz => ?_⟩
        rcases List.mem_cons.1 hz with rfl | hz
        · exact hne
        · exact h2 z hz
      · exact .inr ⟨j + 1, e', by simp [Instr.findAsking, hr, h1, Nat.add_assoc, Nat.add_comm 1 j], by simpa using h2, h3⟩
    | true => exact .inr ⟨0, y, by simp [Instr.findAsking, hr], rfl, (hiff.1 rfl).symm⟩

theorem findNow_ptr {d : TypeId} {x : Value} : ∀ (es : List MapEntry) (i : Nat), Instr.findNow (.pointer d) x es i = if es = [] then some none else none
  | [], i => rfl
  | y :: es, i => by simp [Instr.findNow, Instr.sameNow]

theorem pkey {P : Program} {w : World} {k e : TypeId} {j : TypeInfo} (hk : P.underlying k = some (.pointer e)) (he : P.info? e = some j) (hsz : j.size ≠ 0) : MKey P w k (PKey w) := by
  refine ⟨fun em v ⟨b, c, t, hv, _⟩ => ?_, fun {x} hx es hes => ?_, fun {v} ⟨b, c, t, hv, _⟩ => ?_⟩
  · subst hv
    have h : ∀ n : Nat, (Instr.checkKey em (n + 1) k (.pointer (some ⟨b, 0, none⟩))).run P w = .ok () w := fun n => by
      simp [Instr.checkKey, run_underlying hk]
    exact h 9999
  · cases es with
    | nil => exact .inl ⟨by simp [Instr.findKey, run_underlying hk, findNow_ptr], by simp⟩
    | cons y es =>
      have hf : (Instr.findKey k x (y :: es)).run P w = (Instr.findAsking k x (y :: es)).run P w := by simp [Instr.findKey, run_underlying hk, findNow_ptr]
      rw [hf]
      rcases find_ptr hk he hsz hx (y :: es) 0 hes with h | ⟨j, e', h1, h2, h3⟩
      · exact .inl h
      · exact .inr ⟨j, e', by simpa using h1, h2, h3⟩
  · subst hv
    have h : ∀ n : Nat, Instr.sameBits (n + 1) (.pointer (some ⟨b, 0, none⟩)) (.pointer (some ⟨b, 0, none⟩)) = true := fun n => by
      simp [Instr.sameBits]
    simp only [Instr.keyThatStays, h 9999]
    simp

section
variable {P : Program} {w : World} {k t e : TypeId} {S : Value → Prop} {b : Nat} {es : Array MapEntry} {clock : Nat} {key : Value}

theorem mlook (c : Bool) (K : MKey P w k S) (ht : P.underlying t = some (.map k e)) {z : Value} (hz : (zeroValue e).run P w = .ok z w) (hb : w.heap[b]? = some (.map es clock)) (hS : ∀ x ∈ es.toList, S x.key) (hkey : S key) :
    ((Instr.lookup t (.map (some b)) key c).run P w = .ok (if c then .tuple #[z, .bool false] else z) w ∧ ∀ x ∈ es.toList, x.key ≠ key) ∨
    ∃ e0, e0 ∈ es.toList ∧ e0.key = key ∧ (Instr.lookup t (.map (some b)) key c).run P w = .ok (if c then .tuple #[e0.val, .bool true] else e0.val) w := by
  rcases K.find hkey es.toList hS with ⟨h1, h2⟩ | ⟨j, e0, h1, h2, h3⟩
  · exact .inl ⟨by simp [Instr.lookup, run_underlying ht, MapKept.run_getObj_map hb, K.check _ hkey, h1, hz, Result.andThen], h2⟩
  · exact .inr ⟨e0, List.mem_of_getElem? h2, h3, by simp [Instr.lookup, run_underlying ht, MapKept.run_getObj_map hb, K.check _ hkey, h1, Result.andThen]⟩

theorem mlook_nil (c : Bool) (K : MKey P w k S) (ht : P.underlying t = some (.map k e)) {z : Value} (hz : (zeroValue e).run P w = .ok z w) (hkey : S key) :
    (Instr.lookup t (.map none) key c).run P w = .ok (if c then .tuple #[z, .bool false] else z) w := by
  rcases K.find hkey [] (by simp) with ⟨h1, h2⟩ | ⟨j, e0, h1, h2, h3⟩
  · simp [Instr.lookup, run_underlying ht, K.check _ hkey, h1, hz, Result.andThen]
  · simp at h2

theorem mput (K : MKey P w k S) (ht : P.underlying t = some (.map k e)) (hb : w.heap[b]? = some (.map es clock)) (hS : ∀ x ∈ es.toList, S x.key) (hkey : S key) (val : Value) :
    ∃ es' clock', (Instr.mapUpdate t (.map (some b)) key val).run P w = .ok () (setBlock w b (.map es' clock')) ∧ (∀ x ∈ es'.toList, (x ∈ es.toList ∧ (x.key ≠ key ∨ ∃ y ∈ es'.toList, y.key = key ∧ y.val = val)) ∨ (x.key = key ∧ x.val = val)) ∧ ∃ x ∈ es'.toList, x.key = key ∧ x.val = val := by
  rcases K.find hkey es.toList hS with ⟨h1, h2⟩ | ⟨j, e0, h1, h2, h3⟩
  · refine ⟨es.push ⟨key, val, clock⟩, clock + 1, ?_, ?_, ⟨⟨key, val, clock⟩, by simp, rfl, rfl⟩⟩
    · simp [Instr.mapUpdate, run_underlying ht, MapKept.run_getObj_map hb, K.check false hkey, h1, MapKept.run_setObj_map _ hb, Result.andThen, setBlock]
    · intro x hx
      simp only [Array.toList_push, List.mem_append, List.mem_singleton] at hx
      rcases hx with hx | rfl
      · exact .inl ⟨hx, .inl (h2 x hx)⟩
      · exact .inr ⟨rfl, rfl⟩
  · have hj : es[j]? = some e0 := by simpa using h2
    have hkey2 : (((es[j]?).map (·.key)).getD key) = key := by rw [hj]; exact h3
    have hst := K.stays (v := key) hkey
    have hlt : j < es.size := (Array.getElem?_eq_some_iff.1 hj).1
    have hnew : ({ e0 with key := key, val := val } : MapEntry) ∈ (es.modify j fun x => { x with key, val := val }).toList := by
      have h : (es.modify j fun x => { x with key, val := val })[j]? = some { e0 with key := key, val := val } := by
        simp [Array.getElem?_modify, hj]
      exact Array.mem_toList_iff.2 (Array.mem_of_getElem? h)
    refine ⟨es.modify j fun x => { x with key, val := val }, clock, ?_, ?_, ⟨_, hnew, rfl, rfl⟩⟩
    · simp [Instr.mapUpdate, run_underlying ht, MapKept.run_getObj_map hb, K.check false hkey, h1, MapKept.run_setObj_map _ hb, Result.andThen, setBlock, hj, h3, hst]
    · intro x hx
      obtain ⟨i, hi, rfl⟩ := List.getElem_of_mem hx
      simp only [Array.getElem_toList, Array.getElem_modify]
      split
      · exact .inr ⟨rfl, rfl⟩
      · exact .inl ⟨by simp, .inr ⟨_, hnew, rfl, rfl⟩⟩

end

end Go.Proofs.YteonanaihklgmaaDoor

namespace Go.Proofs.YteonanaihklgmaaDoor
namespace Pl

/-- the quantifiers: all, some, at least two, three, four -/
inductive Qn where
  | A | S | c2 | c3 | c4

/-- formulas -/
inductive Fm where
  | tru | fls
  | pr (v : Fin 4) | eq (v w : Fin 4) | rel (v w : Fin 4)
  | neg (p : Fm) | con (p q : Fm) | dis (p q : Fm) | qu (k : Qn) (v : Fin 4) (p : Fm)

def Qn.b : Qn → UInt8
  | .A => 65 | .S => 83 | .c2 => 50 | .c3 => 51 | .c4 => 52

/-- how often a quantifier counts -/
def Qn.n : Qn → Nat
  | .A => 1 | .S => 1 | .c2 => 2 | .c3 => 3 | .c4 => 4

/-- the byte of a variable -/
def vb (v : Fin 4) : UInt8 := UInt8.ofNat (97 + v.val)

/-- the operator -/
def Fm.op : Fm → UInt8
  | .tru => 116 | .fls => 102 | .pr _ => 80 | .eq _ _ => 61 | .rel _ _ => 69 | .neg _ => 33 | .con _ _ => 38 | .dis _ _ => 124 | .qu k _ _ => k.b

def Fm.vars : Fm → List (Fin 4)
  | .pr v => [v] | .eq v w => [v, w] | .rel v w => [v, w] | .qu _ v _ => [v] | _ => []

def Fm.parts : Fm → List Fm
  | .neg p => [p] | .con p q => [p, q] | .dis p q => [p, q] | .qu _ _ p => [p] | _ => []

def Fm.text : Fm → List UInt8
  | .tru => [116] | .fls => [102] | .pr v => [80, vb v] | .eq v w => [61, vb v, vb w] | .rel v w => [69, vb v, vb w]
  | .neg p => 33 :: p.text | .con p q => 38 :: (p.text ++ q.text) | .dis p q => 124 :: (p.text ++ q.text) | .qu k v p => k.b :: vb v :: p.text

def Fm.size : Fm → Nat
  | .neg p => p.size + 1 | .con p q => p.size + q.size + 1 | .dis p q => p.size + q.size + 1 | .qu _ _ p => p.size + 1 | _ => 1

theorem Fm.size_parts {f p : Fm} (h : p ∈ f.parts) : p.size < f.size := by
  cases f <;> simp [Fm.parts] at h
  case neg => subst h; simp [Fm.size]
  case con => rcases h with h | h <;> subst h <;> simp [Fm.size] <;> omega
  case dis => rcases h with h | h <;> subst h <;> simp [Fm.size] <;> omega
  case qu => subst h; simp [Fm.size]

theorem Fm.text_eq (f : Fm) : f.text = f.op :: (f.vars.map vb ++ (f.parts.map Fm.text).flatten) := by
  cases f <;> simp [Fm.text, Fm.op, Fm.vars, Fm.parts]

theorem vb_inj {v w : Fin 4} (h : vb v = vb w) : v = w := by
  revert v w; decide

theorem qb_inj {v w : Qn} (h : v.b = w.b) : v = w := by
  cases v <;> cases w <;> first | rfl | (exact absurd h (by decide))

theorem Fm.text_inj : ∀ (f g : Fm) (r s : List UInt8), f.text ++ r = g.text ++ s → f = g ∧ r = s := by
  intro f
  induction f with
  | tru =>
    intro g r s h
    cases g <;> simp [Fm.text] at h ⊢
    · exact h
    · rename_i k _ _; cases k <;> simp [Qn.b] at h
  | fls =>
    intro g r s h
    cases g <;> simp [Fm.text] at h ⊢
    · exact h
    · rename_i k _ _; cases k <;> simp [Qn.b] at h
  | pr v =>
    intro g r s h
    cases g <;> simp [Fm.text] at h ⊢
    · exact ⟨vb_inj h.1, h.2⟩
    · rename_i k _ _; cases k <;> simp [Qn.b] at h
  | eq v w =>
    intro g r s h
    cases g <;> simp [Fm.text] at h ⊢
    · exact ⟨⟨vb_inj h.1, vb_inj h.2.1⟩, h.2.2⟩
    · rename_i k _ _; cases k <;> simp [Qn.b] at h
  | rel v w =>
    intro g r s h
    cases g <;> simp [Fm.text] at h ⊢
    · exact ⟨⟨vb_inj h.1, vb_inj h.2.1⟩, h.2.2⟩
    · rename_i k _ _; cases k <;> simp [Qn.b] at h
  | neg p ih =>
    intro g r s h
    cases g <;> simp [Fm.text] at h ⊢
    · exact ih _ _ _ h
    · rename_i k _ _; cases k <;> simp [Qn.b] at h
  | con p q ihp ihq =>
    intro g r s h
    cases g <;> simp [Fm.text] at h ⊢
    · obtain ⟨h1, h2⟩ := ihp _ _ _ h
      obtain ⟨h3, h4⟩ := ihq _ _ _ h2
      exact ⟨⟨h1, h3⟩, h4⟩
    · rename_i k _ _; cases k <;> simp [Qn.b] at h
  | dis p q ihp ihq =>
    intro g r s h
    cases g <;> simp [Fm.text] at h ⊢
    · obtain ⟨h1, h2⟩ := ihp _ _ _ h
      obtain ⟨h3, h4⟩ := ihq _ _ _ h2
      exact ⟨⟨h1, h3⟩, h4⟩
    · rename_i k _ _; cases k <;> simp [Qn.b] at h
  | qu k v p ih =>
    intro g r s h
    cases g <;> simp [Fm.text] at h ⊢
    case qu =>
      obtain ⟨h1, h2, h3⟩ := h
      obtain ⟨h4, h5⟩ := ih _ _ _ h3
      exact ⟨⟨qb_inj h1, vb_inj h2, h4⟩, h5⟩
    all_goals (cases k <;> simp [Qn.b] at h)

/-- how many variables and how many parts follow an operator -/
def arity (b : UInt8) : Option (Nat × Nat) :=
  if b = 116 then some (0, 0) else if b = 102 then some (0, 0) else if b = 80 then some (1, 0) else if b = 61 then some (2, 0) else if b = 69 then some (2, 0)
  else if b = 33 then some (0, 1) else if b = 38 then some (0, 2) else if b = 124 then some (0, 2)
  else if b = 65 then some (1, 1) else if b = 83 then some (1, 1) else if b = 50 then some (1, 1) else if b = 51 then some (1, 1) else if b = 52 then some (1, 1) else none

theorem arity_op (f : Fm) : arity f.op = some (f.vars.length, f.parts.length) := by
  cases f <;> first | rfl | (rename_i k _ _; cases k <;> rfl)

theorem arity_mk {b : UInt8} {nv np : Nat} (h : arity b = some (nv, np)) (vs : List (Fin 4)) (ps : List Fm) (hv : vs.length = nv) (hp : ps.length = np) :
    ∃ f : Fm, f.op = b ∧ f.vars = vs ∧ f.parts = ps := by
  unfold arity at h
  by_cases hb : b = 116
  · subst hb
    have e : some (0, 0) = some (nv, np) := h
    injection e with e
    injection e with e1 e2
    subst e1 e2
    match vs, hv, ps, hp with
    | [], _, [], _ => exact ⟨.tru, rfl, rfl, rfl⟩
  rw [if_neg hb] at h
  clear hb
  by_cases hb : b = 102
  · subst hb
    have e : some (0, 0) = some (nv, np) := h
    injection e with e
    injection e with e1 e2
    subst e1 e2
    match vs, hv, ps, hp with
    | [], _, [], _ => exact ⟨.fls, rfl, rfl, rfl⟩
  rw [if_neg hb] at h
  clear hb
  by_cases hb : b = 80
  · subst hb
    have e : some (1, 0) = some (nv, np) := h
    injection e with e
    injection e with e1 e2
    subst e1 e2
    match vs, hv, ps, hp with
    | [v], _, [], _ => exact ⟨.pr v, rfl, rfl, rfl⟩
  rw [if_neg hb] at h
  clear hb
  by_cases hb : b = 61
  · subst hb
    have e : some (2, 0) = some (nv, np) := h
    injection e with e
    injection e with e1 e2
    subst e1 e2
    match vs, hv, ps, hp with
    | [v, w], _, [], _ => exact ⟨.eq v w, rfl, rfl, rfl⟩
  rw [if_neg hb] at h
  clear hb
  by_cases hb : b = 69
  · subst hb
    have e : some (2, 0) = some (nv, np) := h
    injection e with e
    injection e with e1 e2
    subst e1 e2
    match vs, hv, ps, hp with
    | [v, w], _, [], _ => exact ⟨.rel v w, rfl, rfl, rfl⟩
  rw [if_neg hb] at h
  clear hb
  by_cases hb : b = 33
  · subst hb
    have e : some (0, 1) = some (nv, np) := h
    injection e with e
    injection e with e1 e2
    subst e1 e2
    match vs, hv, ps, hp with
    | [], _, [p], _ => exact ⟨.neg p, rfl, rfl, rfl⟩
  rw [if_neg hb] at h
  clear hb
  by_cases hb : b = 38
  · subst hb
    have e : some (0, 2) = some (nv, np) := h
    injection e with e
    injection e with e1 e2
    subst e1 e2
    match vs, hv, ps, hp with
    | [], _, [p, q], _ => exact ⟨.con p q, rfl, rfl, rfl⟩
  rw [if_neg hb] at h
  clear hb
  by_cases hb : b = 124
  · subst hb
    have e : some (0, 2) = some (nv, np) := h
    injection e with e
    injection e with e1 e2
    subst e1 e2
    match vs, hv, ps, hp with
    | [], _, [p, q], _ => exact ⟨.dis p q, rfl, rfl, rfl⟩
  rw [if_neg hb] at h
  clear hb
  by_cases hb : b = 65
  · subst hb
    have e : some (1, 1) = some (nv, np) := h
    injection e with e
    injection e with e1 e2
    subst e1 e2
    match vs, hv, ps, hp with
    | [v], _, [p], _ => exact ⟨.qu .A v p, rfl, rfl, rfl⟩
  rw [if_neg hb] at h
  clear hb
  by_cases hb : b = 83
  · subst hb
    have e : some (1, 1) = some (nv, np) := h
    injection e with e
    injection e with e1 e2
    subst e1 e2
    match vs, hv, ps, hp with
    | [v], _, [p], _ => exact ⟨.qu .S v p, rfl, rfl, rfl⟩
  rw [if_neg hb] at h
  clear hb
  by_cases hb : b = 50
  · subst hb
    have e : some (1, 1) = some (nv, np) := h
    injection e with e
    injection e with e1 e2
    subst e1 e2
    match vs, hv, ps, hp with
    | [v], _, [p], _ => exact ⟨.qu .c2 v p, rfl, rfl, rfl⟩
  rw [if_neg hb] at h
  clear hb
  by_cases hb : b = 51
  · subst hb
    have e : some (1, 1) = some (nv, np) := h
    injection e with e
    injection e with e1 e2
    subst e1 e2
    match vs, hv, ps, hp with
    | [v], _, [p], _ => exact ⟨.qu .c3 v p, rfl, rfl, rfl⟩
  rw [if_neg hb] at h
  clear hb
  by_cases hb : b = 52
  · subst hb
    have e : some (1, 1) = some (nv, np) := h
    injection e with e
    injection e with e1 e2
    subst e1 e2
    match vs, hv, ps, hp with
    | [v], _, [p], _ => exact ⟨.qu .c4 v p, rfl, rfl, rfl⟩
  rw [if_neg hb] at h
  clear hb
  cases h

open Classical in
/-- the formula with which a text begins, and the rest of the text -/
noncomputable def parse (l : List UInt8) : Option (Fm × List UInt8) :=
  if h : ∃ x : Fm × List UInt8, l = x.1.text ++ x.2 then some (Classical.choose h) else none

theorem parse_some {l : List UInt8} {f : Fm} {r : List UInt8} : parse l = some (f, r) ↔ l = f.text ++ r := by
  unfold parse
  constructor
  · intro h
    split at h
    · rename_i hx
      have := Classical.choose_spec hx
      injection h with h
      rw [h] at this
      exact this
    · cases h
  · intro h
    have hx : ∃ x : Fm × List UInt8, l = x.1.text ++ x.2 := ⟨(f, r), h⟩
    rw [dif_pos hx]
    have hc := Classical.choose_spec hx
    obtain ⟨h1, h2⟩ := Fm.text_inj _ _ _ _ (hc.symm.trans h)
    congr 1
    exact Prod.ext h1 h2

theorem parse_none {l : List UInt8} : parse l = none ↔ ∀ (f : Fm) (r : List UInt8), l ≠ f.text ++ r := by
  constructor
  · intro h f r e
    rw [parse_some.2 e] at h
    cases h
  · intro h
    cases hp : parse l with
    | none => rfl
    | some x => exact absurd (parse_some.1 hp) (h _ _)

theorem parse_nil : parse [] = none := parse_none.2 fun f r h => by cases f <;> simp [Fm.text] at h

theorem parse_bad {b : UInt8} {l : List UInt8} (h : arity b = none) : parse (b :: l) = none := parse_none.2 fun f r e => by
  rw [Fm.text_eq] at e
  simp at e
  rw [e.1, arity_op] at h
  cases h

/-- the byte of a variable, or none -/
def varOf (b : UInt8) : Option (Fin 4) := if b = 97 then some 0 else if b = 98 then some 1 else if b = 99 then some 2 else if b = 100 then some 3 else none

theorem varOf_vb (v : Fin 4) : varOf (vb v) = some v := by revert v; decide

theorem varOf_some {b : UInt8} {v : Fin 4} : varOf b = some v ↔ b = vb v := by
  constructor
  · intro h
    unfold varOf at h
    split at h; · injection h with h; subst h; assumption
    split at h; · injection h with h; subst h; assumption
    split at h; · injection h with h; subst h; assumption
    split at h; · injection h with h; subst h; assumption
    cases h
  · intro h; subst h; exact varOf_vb v

/-- failing at a variable -/
theorem parse_no_var {b : UInt8} {nv np : Nat} (ha : arity b = some (nv, np)) (vs : List (Fin 4)) (cur : List UInt8) (hk : vs.length < nv)
    (hno : ∀ v r, cur ≠ vb v :: r) : parse (b :: (vs.map vb ++ cur)) = none := parse_none.2 fun f r e => by
  rw [Fm.text_eq] at e
  simp only [List.cons_append, List.cons.injEq, List.append_assoc] at e
  obtain ⟨rfl, e⟩ := e
  rw [arity_op] at ha
  simp at ha
  rcases List.append_eq_append_iff.1 e with ⟨t, h1, h2⟩ | ⟨t, h1, h2⟩
  · have hl : vs.length + t.length = f.vars.length := by have := congrArg List.length h1; simpa using this.symm
    match t, h1, h2, hl with
    | [], _, _, hl => simp at hl; omega
    | x :: t, h1, h2, _ =>
      have : x ∈ f.vars.map vb := by rw [h1]; simp
      obtain ⟨v, _, rfl⟩ := List.mem_map.1 this
      exact hno v _ (by rw [h2]; rfl)
  · have hl : f.vars.length + t.length = vs.length := by have := congrArg List.length h1; simpa using this.symm
    omega

theorem flat_prefix : ∀ (ps qs : List Fm) (cur r : List UInt8), (ps.map Fm.text).flatten ++ cur = (qs.map Fm.text).flatten ++ r → ps.length < qs.length →
    ∃ (f : Fm) (s : List UInt8), cur = f.text ++ s := by
  intro ps
  induction ps with
  | nil =>
    intro qs cur r h hl
    match qs, hl with
    | q :: qs, _ => exact ⟨q, (qs.map Fm.text).flatten ++ r, by simpa using h⟩
  | cons p ps ih =>
    intro qs cur r h hl
    match qs, hl with
    | q :: qs, hl =>
      simp at h hl
      obtain ⟨_, h2⟩ := Fm.text_inj _ _ _ _ h
      exact ih qs cur r (by simpa using h2) hl

/-- failing at a part -/
theorem parse_no_part {b : UInt8} {nv np : Nat} (ha : arity b = some (nv, np)) (vs : List (Fin 4)) (hv : vs.length = nv) (ps : List Fm) (cur : List UInt8) (hk : ps.length < np)
    (hno : parse cur = none) : parse (b :: (vs.map vb ++ ((ps.map Fm.text).flatten ++ cur))) = none := parse_none.2 fun f r e => by
  rw [Fm.text_eq] at e
  simp only [List.cons_append, List.cons.injEq, List.append_assoc] at e
  obtain ⟨rfl, e⟩ := e
  rw [arity_op] at ha
  simp at ha
  have hl : (vs.map vb).length = (f.vars.map vb).length := by simp; omega
  obtain ⟨_, e2⟩ := List.append_inj e hl
  obtain ⟨g, s, hg⟩ := flat_prefix _ _ _ _ e2 (by omega)
  exact parse_none.1 hno g s hg

/-- succeeding -/
theorem parse_all {b : UInt8} {nv np : Nat} (ha : arity b = some (nv, np)) (vs : List (Fin 4)) (hv : vs.length = nv) (ps : List Fm) (hp : ps.length = np) (cur : List UInt8) :
    ∃ f : Fm, f.op = b ∧ f.vars = vs ∧ f.parts = ps ∧ parse (b :: (vs.map vb ++ ((ps.map Fm.text).flatten ++ cur))) = some (f, cur) := by
  obtain ⟨f, rfl, rfl, rfl⟩ := arity_mk ha vs ps hv hp
  exact ⟨f, rfl, rfl, rfl, parse_some.2 (by rw [Fm.text_eq]; simp)⟩

theorem Fm.text_pos (f : Fm) : 0 < f.text.length := by rw [Fm.text_eq]; simp

/-! ### where a formula ends -/

noncomputable def endI (l : List UInt8) (k : Nat) : Int := match parse (l.drop k) with | some (f, _) => ((k + f.text.length : Nat) : Int) | none => -1

theorem endI_some {l : List UInt8} {k : Nat} {f : Fm} {r : List UInt8} (h : l.drop k = f.text ++ r) : endI l k = ((k + f.text.length : Nat) : Int) := by
  unfold endI; rw [parse_some.2 h]

theorem endI_none {l : List UInt8} {k : Nat} (h : parse (l.drop k) = none) : endI l k = -1 := by
  unfold endI; rw [h]

theorem endI_cases (l : List UInt8) (k : Nat) : (parse (l.drop k) = none ∧ endI l k = -1) ∨ ∃ (f : Fm) (r : List UInt8), l.drop k = f.text ++ r ∧ endI l k = ((k + f.text.length : Nat) : Int) := by
  cases h : parse (l.drop k) with
  | none => exact .inl ⟨rfl, endI_none h⟩
  | some x => exact .inr ⟨x.1, x.2, parse_some.1 h, endI_some (parse_some.1 h)⟩

theorem drop_add_of {l : List UInt8} {k : Nat} {p r : List UInt8} (h : l.drop k = p ++ r) : l.drop (k + p.length) = r := by
  rw [← List.drop_drop, h]; simp

theorem endI_le {l : List UInt8} {k : Nat} (hk : k ≤ l.length) : -1 ≤ endI l k ∧ endI l k ≤ l.length := by
  rcases endI_cases l k with ⟨_, h⟩ | ⟨f, r, h1, h⟩
  · rw [h]; omega
  · rw [h]
    have := congrArg List.length h1
    simp at this
    omega

theorem endI_end {l : List UInt8} {k : Nat} (h : l.length ≤ k) : endI l k = -1 := endI_none (by rw [List.drop_eq_nil_of_le h]; exact parse_nil)

theorem endI_bad {l : List UInt8} {k : Nat} {b : UInt8} {r : List UInt8} (h : l.drop k = b :: r) (ha : arity b = none) : endI l k = -1 := endI_none (by rw [h]; exact parse_bad ha)

theorem endI_leaf {l : List UInt8} {k : Nat} {b : UInt8} {r : List UInt8} (h : l.drop k = b :: r) (ha : arity b = some (0, 0)) : endI l k = (k + 1 : Nat) := by
  obtain ⟨f, rfl, h1, h2, h3⟩ := parse_all ha [] rfl [] rfl r
  rw [endI_some (f := f) (r := r) (parse_some.1 (by rw [h]; simpa using h3)), Fm.text_eq, h1, h2]
  simp

/-- the variable at an index, or -1 -/
def varI (l : List UInt8) (k : Nat) : Int := match l[k]? with | some b => (match varOf b with | some v => (v.val : Int) | none => -1) | none => -1

theorem varI_le (l : List UInt8) (k : Nat) : -1 ≤ varI l k ∧ varI l k ≤ 3 := by
  unfold varI
  split
  · split
    · rename_i v _; have := v.isLt; omega
    · omega
  · omega

theorem varI_neg {l : List UInt8} {k : Nat} (h : varI l k < 0) : ∀ v r, l.drop k ≠ vb v :: r := by
  intro v r e
  have : l[k]? = some (vb v) := by
    have h2 : (l.drop k)[0]? = some (vb v) := by rw [e]; rfl
    simpa using h2
  unfold varI at h
  rw [this] at h
  simp only [varOf_vb] at h
  omega

theorem varI_pos {l : List UInt8} {k : Nat} (h : 0 ≤ varI l k) : ∃ v : Fin 4, varI l k = v.val ∧ l.drop k = vb v :: l.drop (k + 1) := by
  unfold varI at h ⊢
  cases hl : l[k]? with
  | none => rw [hl] at h; simp at h
  | some b =>
    rw [hl] at h
    simp only at h ⊢
    cases hv : varOf b with
    | none => rw [hv] at h; simp at h
    | some v =>
      refine ⟨v, rfl, ?_⟩
      obtain ⟨hlt, hb⟩ := List.getElem?_eq_some_iff.1 hl
      rw [List.drop_eq_getElem_cons hlt, hb, varOf_some.1 hv]

theorem endI_var_no {l : List UInt8} {k : Nat} {b : UInt8} {r : List UInt8} {nv np : Nat} (h : l.drop k = b :: r) (ha : arity b = some (nv, np)) (hnv : 0 < nv) (hv : varI l (k + 1) < 0) : endI l k = -1 := by
  have hr : l.drop (k + 1) = r := drop_add_of (p := [b]) (by simpa using h)
  have := parse_no_var ha [] r (by simpa using hnv) (fun v s e => varI_neg hv v s (by rw [hr, e]))
  exact endI_none (by rw [h]; simpa using this)

theorem endI_var2_no {l : List UInt8} {k : Nat} {b : UInt8} {r : List UInt8} {np : Nat} (h : l.drop k = b :: r) (ha : arity b = some (2, np)) (hv : 0 ≤ varI l (k + 1)) (hw : varI l (k + 2) < 0) : endI l k = -1 := by
  have hr : l.drop (k + 1) = r := drop_add_of (p := [b]) (by simpa using h)
  obtain ⟨v, _, h1⟩ := varI_pos hv
  have := parse_no_var ha [v] (l.drop (k + 2)) (by simp) (fun v s e => varI_neg hw v s e)
  exact endI_none (by rw [h, ← hr, h1]; simpa using this)

theorem endI_var1 {l : List UInt8} {k : Nat} {b : UInt8} {r : List UInt8} (h : l.drop k = b :: r) (ha : arity b = some (1, 0)) (hv : 0 ≤ varI l (k + 1)) : endI l k = (k + 2 : Nat) := by
  have hr : l.drop (k + 1) = r := drop_add_of (p := [b]) (by simpa using h)
  obtain ⟨v, _, h1⟩ := varI_pos hv
  obtain ⟨f, rfl, e1, e2, h3⟩ := parse_all ha [v] rfl [] rfl (l.drop (k + 2))
  rw [endI_some (f := f) (r := l.drop (k + 2)) (parse_some.1 (by rw [h, ← hr, h1]; simpa using h3)), Fm.text_eq, e1, e2]
  simp

theorem endI_var2 {l : List UInt8} {k : Nat} {b : UInt8} {r : List UInt8} (h : l.drop k = b :: r) (ha : arity b = some (2, 0)) (hv : 0 ≤ varI l (k + 1)) (hw : 0 ≤ varI l (k + 2)) : endI l k = (k + 3 : Nat) := by
  have hr : l.drop (k + 1) = r := drop_add_of (p := [b]) (by simpa using h)
  obtain ⟨v, _, h1⟩ := varI_pos hv
  obtain ⟨v2, _, h2⟩ := varI_pos hw
  obtain ⟨f, rfl, e1, e2, h3⟩ := parse_all ha [v, v2] rfl [] rfl (l.drop (k + 3))
  rw [endI_some (f := f) (r := l.drop (k + 3)) (parse_some.1 (by rw [h, ← hr, h1, h2]; simpa using h3)), Fm.text_eq, e1, e2]
  simp

theorem endI_neg {l : List UInt8} {k : Nat} {b : UInt8} {r : List UInt8} (h : l.drop k = b :: r) (ha : arity b = some (0, 1)) : endI l k = endI l (k + 1) := by
  have hr : l.drop (k + 1) = r := drop_add_of (p := [b]) (by simpa using h)
  rcases endI_cases l (k + 1) with ⟨h1, h2⟩ | ⟨p, s, h1, h2⟩
  · rw [h2]
    have := parse_no_part ha [] rfl [] r (by simp) (by rw [← hr]; exact h1)
    exact endI_none (by rw [h]; simpa using this)
  · rw [h2]
    obtain ⟨f, rfl, e1, e2, h3⟩ := parse_all ha [] rfl [p] rfl s
    rw [endI_some (f := f) (r := s) (parse_some.1 (by rw [h, ← hr, h1]; simpa using h3)), Fm.text_eq, e1, e2]
    simp; omega

theorem endI_qu {l : List UInt8} {k : Nat} {b : UInt8} {r : List UInt8} (h : l.drop k = b :: r) (ha : arity b = some (1, 1)) (hv : 0 ≤ varI l (k + 1)) : endI l k = endI l (k + 2) := by
  have hr : l.drop (k + 1) = r := drop_add_of (p := [b]) (by simpa using h)
  obtain ⟨v, _, hv1⟩ := varI_pos hv
  rcases endI_cases l (k + 2) with ⟨h1, h2⟩ | ⟨p, s, h1, h2⟩
  · rw [h2]
    have := parse_no_part ha [v] rfl [] (l.drop (k + 2)) (by simp) h1
    exact endI_none (by rw [h, ← hr, hv1]; simpa using this)
  · rw [h2]
    obtain ⟨f, rfl, e1, e2, h3⟩ := parse_all ha [v] rfl [p] rfl s
    rw [endI_some (f := f) (r := s) (parse_some.1 (by rw [h, ← hr, hv1, h1]; simpa using h3)), Fm.text_eq, e1, e2]
    simp; omega

theorem endI_two_no {l : List UInt8} {k : Nat} {b : UInt8} {r : List UInt8} (h : l.drop k = b :: r) (ha : arity b = some (0, 2)) (h1 : endI l (k + 1) < 0) : endI l k = -1 := by
  have hr : l.drop (k + 1) = r := drop_add_of (p := [b]) (by simpa using h)
  rcases endI_cases l (k + 1) with ⟨h2, _⟩ | ⟨p, s, _, h2⟩
  · have := parse_no_part ha [] rfl [] r (by simp) (by rw [← hr]; exact h2)
    exact endI_none (by rw [h]; simpa using this)
  · rw [h2] at h1; omega

theorem endI_two {l : List UInt8} {k : Nat} {b : UInt8} {r : List UInt8} {m : Nat} (h : l.drop k = b :: r) (ha : arity b = some (0, 2)) (h1 : endI l (k + 1) = (m : Int)) : endI l k = endI l m := by
  have hr : l.drop (k + 1) = r := drop_add_of (p := [b]) (by simpa using h)
  rcases endI_cases l (k + 1) with ⟨_, h2⟩ | ⟨p, s, hp, h2⟩
  · rw [h2] at h1; omega
  · have hm : m = k + 1 + p.text.length := by rw [h2] at h1; omega
    have hs : l.drop m = s := by rw [hm]; exact drop_add_of hp
    rcases endI_cases l m with ⟨g1, g2⟩ | ⟨q, s2, g1, g2⟩
    · rw [g2]
      have := parse_no_part ha [] rfl [p] s (by simp) (by rw [← hs]; exact g1)
      exact endI_none (by rw [h, ← hr, hp]; simpa using this)
    · rw [g2]
      obtain ⟨f, rfl, e1, e2, h3⟩ := parse_all ha [] rfl [p, q] rfl s2
      rw [endI_some (f := f) (r := s2) (parse_some.1 (by rw [h, ← hr, hp, ← hs, g1]; simpa using h3)), Fm.text_eq, e1, e2]
      simp; omega

/-! ### formulas of at most 4000 bytes -/

/-- a text is a formula -/
def IsFm (l : List UInt8) : Prop := l.length ≤ 4000 ∧ ∃ f : Fm, l = f.text

theorem isFm_iff {l : List UInt8} : IsFm l ↔ l.length ≤ 4000 ∧ endI l 0 = l.length := by
  unfold IsFm
  constructor
  · rintro ⟨h, f, rfl⟩
    exact ⟨h, by rw [endI_some (f := f) (r := []) (by simp)]; simp⟩
  · rintro ⟨h, e⟩
    refine ⟨h, ?_⟩
    rcases endI_cases l 0 with ⟨_, h2⟩ | ⟨f, r, h1, h2⟩
    · rw [h2] at e; omega
    · refine ⟨f, ?_⟩
      have h3 : f.text.length = l.length := by rw [h2] at e; omega
      have h4 := congrArg List.length h1
      simp only [List.drop_zero, List.length_append] at h4
      have h5 : r = [] := List.eq_nil_of_length_eq_zero (by omega)
      simpa [h5] using h1

end Pl
end Go.Proofs.YteonanaihklgmaaDoor

namespace Go.Proofs.YteonanaihklgmaaDoor
open Go.RowKit
open Pl

theorem ret_int {k : IntKind} {a b : Int} (h : a = b) : Ending.returned (.int k a) = .returned (.int k b) := by rw [h]
theorem ret_bool {a b : Bool} (h : a = b) : Ending.returned (.bool a) = .returned (.bool b) := by rw [h]

theorem u8_eq {a : UInt8} {n : Nat} (h : ((a.toNat : Int) == (n : Int)) = true) (hn : n < 256) : a = UInt8.ofNat n := by
  have h1 : a.toNat = n := by have := beq_iff_eq.1 h; omega
  apply UInt8.toNat_inj.1
  rw [h1, UInt8.toNat_ofNat']
  omega

theorem u8_eqv {a c : UInt8} (h : ((a.toNat : Int) == (c.toNat : Int)) = true) : a = c := by
  apply UInt8.toNat_inj.1
  have := beq_iff_eq.1 h; omega

theorem u8_nev {a c : UInt8} (h : ((a.toNat : Int) == (c.toNat : Int)) = false) : a ≠ c := by
  rintro rfl
  simp at h

theorem u8_ne {a : UInt8} {n : Nat} (h : ((a.toNat : Int) == (n : Int)) = false) (hn : n < 256) : a ≠ UInt8.ofNat n := by
  rintro rfl
  have : (UInt8.ofNat n).toNat = n := by rw [UInt8.toNat_ofNat']; omega
  rw [this] at h
  simp at h

/-- the index of the first byte c, or -1 -/
def findB (c : UInt8) (l : List UInt8) : Int := match l.findIdx? (· == c) with | some k => (k : Int) | none => -1

theorem findB_at {c : UInt8} {l : List UInt8} {k : Nat} (h : l[k]? = some c) (hno : ∀ i, i < k → l[i]? ≠ some c) : findB c l = k := by
  unfold findB
  have : l.findIdx? (· == c) = some k := by
    rw [List.findIdx?_eq_some_iff_getElem]
    obtain ⟨hlt, he⟩ := List.getElem?_eq_some_iff.1 h
    refine ⟨hlt, by simp [he], fun j hj => ?_⟩
    have := hno j hj
    rw [List.getElem?_eq_getElem (by omega)] at this
    simpa using this
  rw [this]

theorem findB_no {c : UInt8} {l : List UInt8} (hno : ∀ i, i < l.length → l[i]? ≠ some c) : findB c l = -1 := by
  unfold findB
  have : l.findIdx? (· == c) = none := by
    rw [List.findIdx?_eq_none_iff]
    intro x hx
    obtain ⟨i, hi, rfl⟩ := List.getElem_of_mem hx
    have := hno i hi
    rw [List.getElem?_eq_getElem hi] at this
    simpa using this
  rw [this]

theorem findB_nonneg {c : UInt8} {l : List UInt8} : 0 ≤ findB c l ↔ c ∈ l := by
  unfold findB
  cases h : l.findIdx? (· == c) with
  | none =>
    rw [List.findIdx?_eq_none_iff] at h
    constructor
    · intro h2; simp at h2
    · intro hm; have := h c hm; simp at this
  | some k =>
    rw [List.findIdx?_eq_some_iff_getElem] at h
    obtain ⟨hlt, he, _⟩ := h
    constructor
    · intro _; have : l[k] = c := by simpa using he
      rw [← this]; exact List.getElem_mem hlt
    · intro _; simp

theorem findB_ge (c : UInt8) (l : List UInt8) : -1 ≤ findB c l := by unfold findB; split <;> omega

set_option maxHeartbeats 400000 in
theorem l15Find_calls (s : ByteArray) (c : UInt8) (w : World) (hs : s.size ≤ maxLen) :
    Calls Tryd.prog 79 #[.string s, .int .u8 c.toNat] w fun e w' => e = .returned (.int .i64 (findB c s.data.toList)) ∧ w = w' := by
  unfold maxLen at hs
  go_enter Tryd.func79, Tryd.ntmps79
  go_wp2
  go_loop [5] (fun i => ∃ k : Nat, k ≤ s.size ∧ i = .int .i64 k ∧ ∀ i, i < k → s.data.toList[i]? ≠ some c) (fun i => s.size - (intOf i).toNat)
  case atStart => exact ⟨0, Nat.zero_le _, rfl, fun i hi => absurd hi (Nat.not_lt_zero _)⟩
  case round =>
    obtain ⟨k, hk, rfl, hno⟩ := hrel
    have Hno := Lib.hid hno
    clear hno
    by_cases hlt : k < s.size
    · have hg : s.data.toList[k]? = some s[k] := by rw [List.getElem?_eq_getElem (by simpa using hlt)]; rfl
      have Hg := Lib.hid hg
      clear hg
      go_wp2
      · go_ret
        refine ⟨ret_int ?_, rfl⟩
        have he : s[k] = c := u8_eqv (by assumption)
        exact (findB_at (by rw [Hg.out, he]) Hno.out).symm
      · go_round
        case rel =>
          refine ⟨k + 1, by omega, by go_num, fun i hi => ?_⟩
          have he : s[k] ≠ c := u8_nev (by assumption)
          by_cases hik : i = k
          · subst hik; rw [Hg.out]; simpa using he
          · exact Hno.out i (by omega)
        case measure => simp [intOf]; omega
    · go_wp2
      go_ret
      refine ⟨ret_int (findB_no fun i hi => Hno.out i (by simp at hi; omega)).symm, rfl⟩

theorem findB_abcd (b : UInt8) : findB b [97, 98, 99, 100] = match varOf b with | some v => (v.val : Int) | none => -1 := by
  by_cases h0 : b = 97
  · subst h0; rfl
  by_cases h1 : b = 98
  · subst h1; rfl
  by_cases h2 : b = 99
  · subst h2; rfl
  by_cases h3 : b = 100
  · subst h3; rfl
  · simp only [varOf, h0, h1, h2, h3, if_false]
    refine findB_no fun i hi => ?_
    match i, hi with
    | 0, _ => simpa using fun e => h0 e.symm
    | 1, _ => simpa using fun e => h1 e.symm
    | 2, _ => simpa using fun e => h2 e.symm
    | 3, _ => simpa using fun e => h3 e.symm

theorem varI_at {s : ByteArray} {k : Nat} (h : k < s.size) : varI s.data.toList k = match varOf s[k] with | some v => (v.val : Int) | none => -1 := by
  unfold varI
  rw [List.getElem?_eq_getElem (by simpa using h)]
  rfl

theorem varI_out {s : ByteArray} {k : Nat} (h : s.size ≤ k) : varI s.data.toList k = -1 := by
  unfold varI
  rw [List.getElem?_eq_none (by simpa using h)]

set_option maxHeartbeats 400000 in
theorem l2Var_calls (s : ByteArray) (k : Nat) (w : World) (_hs : s.size ≤ maxLen) (_hk : k ≤ maxLen) :
    Calls Tryd.prog 93 #[.string s, .int .i64 k] w fun e w' => e = .returned (.int .i64 (varI s.data.toList k)) ∧ w = w' := by
  by_cases hlt : k < s.size
  · have hv := (findB_abcd s[k]).trans (varI_at hlt).symm
    have Hv := Lib.hid hv
    clear hv
    unfold maxLen at _hs _hk
    go_enter Tryd.func93, Tryd.ntmps93
    go_wp2_with (go_at_call 79; refine (l15Find_calls _ _ _ (by decide)).mono ?_; rintro e w' ⟨rfl, rfl⟩)
    go_ret
    exact ⟨ret_int Hv.out, rfl⟩
  · have hv := varI_out (Nat.le_of_not_lt hlt)
    have Hv := Lib.hid hv
    clear hv
    unfold maxLen at _hs _hk
    go_enter Tryd.func93, Tryd.ntmps93
    go_wp2_with fail
    go_ret
    exact ⟨ret_int Hv.out.symm, rfl⟩

theorem l2Var_at (s : ByteArray) (m : Int) (w : World) (hs : s.size ≤ maxLen) (h0 : 0 ≤ m) (hm : m ≤ maxLen) :
    Calls Tryd.prog 93 #[.string s, .int .i64 m] w fun e w' => e = .returned (.int .i64 (varI s.data.toList m.toNat)) ∧ w = w' := by
  obtain ⟨k, rfl⟩ := Int.eq_ofNat_of_zero_le h0
  exact l2Var_calls s k w hs (by omega)

theorem toNat_add (k j : Nat) : ((k : Int) + (j : Int)).toNat = k + j := by omega
theorem toNat_add1 (k : Nat) : ((k : Int) + 1).toNat = k + 1 := by omega
theorem toNat_add2 (k : Nat) : ((k : Int) + 2).toNat = k + 2 := by omega

set_option maxHeartbeats 400000 in
theorem l2End_neg (s : ByteArray) (k : Int) (w : World) (hk : k < 0) :
    Calls Tryd.prog 69 #[.string s, .int .i64 k] w fun e w' => e = .returned (.int .i64 (-1)) ∧ w = w' := by
  go_enter Tryd.func69, Tryd.ntmps69
  go_wp2_with fail
  go_ret
  exact ⟨rfl, rfl⟩

theorem drop_at {s : ByteArray} {k : Nat} (h : k < s.size) : s.data.toList.drop k = s[k] :: s.data.toList.drop (k + 1) := by
  rw [List.drop_eq_getElem_cons (by simpa using h)]
  rfl

theorem ar_of {a : UInt8} {n : Int} {x : Nat × Nat} (h : ((a.toNat : Int) == n) = true) (hx : arity (UInt8.ofNat n.toNat) = some x) : arity a = some x := by
  have h1 : (a.toNat : Int) = n := beq_iff_eq.1 h
  subst h1
  simpa using hx

theorem arity_no {a : UInt8} (h : ∀ n ∈ [116, 102, 80, 61, 69, 33, 38, 124, 65, 83, 50, 51, (52 : Int)], ((a.toNat : Int) == n) = false) : arity a = none := by
  have g : ∀ n : Nat, n < 256 → ((a.toNat : Int) == (n : Int)) = false → a ≠ UInt8.ofNat n := fun n hn hh => u8_ne hh hn
  unfold arity
  rw [if_neg (show ¬ a = 116 from g 116 (by decide) (h 116 (by simp))), if_neg (show ¬ a = 102 from g 102 (by decide) (h 102 (by simp))), if_neg (show ¬ a = 80 from g 80 (by decide) (h 80 (by simp))), if_neg (show ¬ a = 61 from g 61 (by decide) (h 61 (by simp))), if_neg (show ¬ a = 69 from g 69 (by decide) (h 69 (by simp))), if_neg (show ¬ a = 33 from g 33 (by decide) (h 33 (by simp))), if_neg (show ¬ a = 38 from g 38 (by decide) (h 38 (by simp))), if_neg (show ¬ a = 124 from g 124 (by decide) (h 124 (by simp))), if_neg (show ¬ a = 65 from g 65 (by decide) (h 65 (by simp))), if_neg (show ¬ a = 83 from g 83 (by decide) (h 83 (by simp))), if_neg (show ¬ a = 50 from g 50 (by decide) (h 50 (by simp))), if_neg (show ¬ a = 51 from g 51 (by decide) (h 51 (by simp))), if_neg (show ¬ a = 52 from g 52 (by decide) (h 52 (by simp)))]

/-- where a formula ends, from an index that may be -1 -/
noncomputable def endZ (l : List UInt8) (m : Int) : Int := if m < 0 then -1 else endI l m.toNat

theorem endZ_pos {l : List UInt8} {m : Int} (h : 0 ≤ m) : endZ l m = endI l m.toNat := if_neg (by omega)
theorem endZ_neg {l : List UInt8} {m : Int} (h : m < 0) : endZ l m = -1 := if_pos h

theorem endI_twoZ {l : List UInt8} {k : Nat} {b : UInt8} {r : List UInt8} (h : l.drop k = b :: r) (ha : arity b = some (0, 2)) : endI l k = endZ l (endI l (k + 1)) := by
  by_cases h1 : endI l (k + 1) < 0
  · rw [endZ_neg h1, endI_two_no h ha h1]
  · obtain ⟨m, hm⟩ := Int.eq_ofNat_of_zero_le (show 0 ≤ endI l (k + 1) by omega)
    rw [endI_two h ha hm, hm, endZ_pos (by omega)]
    simp

theorem endI_gt {l : List UInt8} {k : Nat} : endI l k < 0 ∨ (k : Int) < endI l k := by
  rcases endI_cases l k with ⟨_, h⟩ | ⟨f, r, _, h⟩
  · left; omega
  · right; have := f.text_pos; omega

set_option maxHeartbeats 1000000 in
theorem l2End_calls (n : Nat) : ∀ (s : ByteArray) (k : Nat) (w : World), s.size ≤ k + n → s.size ≤ maxLen - 8 → k ≤ s.size + 4 →
    Calls Tryd.prog 69 #[.string s, .int .i64 k] w fun e w' => e = .returned (.int .i64 (endI s.data.toList k)) ∧ w = w' := by
  induction n with
  | zero =>
    intro s k w hn hs _hk
    have hv := endI_end (l := s.data.toList) (k := k) (by simpa using hn)
    have Hv := Lib.hid hv
    clear hv
    unfold maxLen at hs
    go_enter Tryd.func69, Tryd.ntmps69
    go_wp2_with fail
    go_ret
    exact ⟨ret_int Hv.out.symm, rfl⟩
  | succ n ih =>
    intro s k w hn hs hk
    by_cases hlt : k < s.size
    · have hd := drop_at hlt
      have Hd := Lib.hid hd
      have Ih := Lib.hid ih
      clear hd ih
      have hss : s.size ≤ maxLen := by unfold maxLen at *; omega
      have ihm : ∀ (m : Int) (w : World), (m < 0 ∨ (k : Int) < m) → m ≤ s.size + 4 → Calls Tryd.prog 69 #[.string s, .int .i64 m] w fun e w' => e = .returned (.int .i64 (endZ s.data.toList m)) ∧ w = w' := by
        intro m w h1 h2
        by_cases hm : m < 0
        · rw [endZ_neg hm]; exact l2End_neg s m w hm
        · obtain ⟨j, rfl⟩ := Int.eq_ofNat_of_zero_le (show 0 ≤ m by omega)
          rw [endZ_pos (by omega)]
          exact Ih.out s j w (by omega) hs (by omega)
      have Ihm := Lib.hid ihm
      clear ihm
      have hsz : s.data.toList.length = s.size := by simp
      have he1 : endI s.data.toList (k + 1) < 0 ∨ (k : Int) < endI s.data.toList (k + 1) := by
        have := endI_gt (l := s.data.toList) (k := k + 1); omega
      have he2 : endI s.data.toList (k + 1) ≤ s.size := by
        have := (endI_le (l := s.data.toList) (k := k + 1) (by omega)).2; omega
      have Hsz := Lib.hid hsz
      have He1 := Lib.hid he1
      clear hsz he1
      unfold maxLen at hs
      go_enter Tryd.func69, Tryd.ntmps69
      go_wp2_with (first | (go_at_call 93; refine (l2Var_at _ _ _ hss (by omega) (by unfold maxLen; omega)).mono ?_; rintro e w' ⟨rfl, rfl⟩; simp only [toNat_add1, toNat_add2]) | (go_at_call 69; refine (Ihm.out _ _ (by first | exact He1.out | omega) (by omega)).mono ?_; rintro e w' ⟨rfl, rfl⟩; try simp only [endZ_pos (show 0 ≤ (k : Int) + 1 by omega), endZ_pos (show 0 ≤ (k : Int) + 2 by omega), toNat_add1, toNat_add2]))
      all_goals (go_ret; refine ⟨ret_int ?_, rfl⟩)
      all_goals first
        | (have h := endI_leaf Hd.out (ar_of (n := 116) (by assumption) rfl); omega)
        | (have h := endI_leaf Hd.out (ar_of (n := 102) (by assumption) rfl); omega)
        | (have h := endI_var_no Hd.out (ar_of (n := 80) (by assumption) rfl) (by decide) (by omega); omega)
        | (have h := endI_var1 Hd.out (ar_of (n := 80) (by assumption) rfl) (by omega); omega)
        | (have h := endI_var_no Hd.out (ar_of (n := 61) (by assumption) rfl) (by decide) (by omega); omega)
        | (have h := endI_var2_no Hd.out (ar_of (n := 61) (by assumption) rfl) (by omega) (by omega); omega)
        | (have h := endI_var2 Hd.out (ar_of (n := 61) (by assumption) rfl) (by omega) (by omega); omega)
        | (have h := endI_var_no Hd.out (ar_of (n := 69) (by assumption) rfl) (by decide) (by omega); omega)
        | (have h := endI_var2_no Hd.out (ar_of (n := 69) (by assumption) rfl) (by omega) (by omega); omega)
        | (have h := endI_var2 Hd.out (ar_of (n := 69) (by assumption) rfl) (by omega) (by omega); omega)
        | (have h := endI_neg Hd.out (ar_of (n := 33) (by assumption) rfl); omega)
        | (have h := endI_twoZ Hd.out (ar_of (n := 38) (by assumption) rfl); omega)
        | (have h := endI_twoZ Hd.out (ar_of (n := 124) (by assumption) rfl); omega)
        | (have h := endI_var_no Hd.out (ar_of (n := 65) (by assumption) rfl) (by decide) (by omega); omega)
        | (have h := endI_qu Hd.out (ar_of (n := 65) (by assumption) rfl) (by omega); omega)
        | (have h := endI_var_no Hd.out (ar_of (n := 83) (by assumption) rfl) (by decide) (by omega); omega)
        | (have h := endI_qu Hd.out (ar_of (n := 83) (by assumption) rfl) (by omega); omega)
        | (have h := endI_var_no Hd.out (ar_of (n := 50) (by assumption) rfl) (by decide) (by omega); omega)
        | (have h := endI_qu Hd.out (ar_of (n := 50) (by assumption) rfl) (by omega); omega)
        | (have h := endI_var_no Hd.out (ar_of (n := 51) (by assumption) rfl) (by decide) (by omega); omega)
        | (have h := endI_qu Hd.out (ar_of (n := 51) (by assumption) rfl) (by omega); omega)
        | (have h := endI_var_no Hd.out (ar_of (n := 52) (by assumption) rfl) (by decide) (by omega); omega)
        | (have h := endI_qu Hd.out (ar_of (n := 52) (by assumption) rfl) (by omega); omega)
        | (refine (endI_bad Hd.out (arity_no fun n hn => ?_)).symm
           simp only [List.mem_cons, List.not_mem_nil, or_false] at hn
           rcases hn with rfl | rfl | rfl | rfl | rfl | rfl | rfl | rfl | rfl | rfl | rfl | rfl | rfl <;> assumption)
    · have hv := endI_end (l := s.data.toList) (k := k) (by simp; omega)
      have Hv := Lib.hid hv
      clear hv
      unfold maxLen at hs
      go_enter Tryd.func69, Tryd.ntmps69
      go_wp2_with fail
      go_ret
      exact ⟨ret_int Hv.out.symm, rfl⟩

/-- is a text a formula, as a Bool -/
noncomputable def fmB (l : List UInt8) : Bool := decide (l.length ≤ 4000) && (endI l 0 == (l.length : Int))

theorem fmB_true {l : List UInt8} : fmB l = true ↔ IsFm l := by
  rw [isFm_iff]; simp [fmB]

theorem fmB_false {l : List UInt8} : fmB l = false ↔ ¬ IsFm l := by
  rw [← fmB_true]; simp

theorem l2End_zero (s : ByteArray) (w : World) (hs : s.size ≤ 4000) :
    Calls Tryd.prog 69 #[.string s, .int .i64 0] w fun e w' => e = .returned (.int .i64 (endI s.data.toList 0)) ∧ w = w' :=
  l2End_calls s.size s 0 w (by omega) (by unfold maxLen; omega) (by omega)

set_option maxHeartbeats 400000 in
theorem FormulaValid_spec (s : ByteArray) (w : World) (hs : s.size ≤ maxLen) :
    Calls Tryd.prog 36 #[.string s] w fun e w' => e = .returned (.bool (fmB s.data.toList)) ∧ w = w' := by
  by_cases h : s.size ≤ 4000
  · have hv : fmB s.data.toList = (endI s.data.toList 0 == (s.size : Int)) := by simp [fmB, h]
    have Hv := Lib.hid hv
    clear hv
    unfold maxLen at hs
    go_enter Tryd.func36, Tryd.ntmps36
    go_wp2_with (go_at_call 69; refine (l2End_zero _ _ h).mono ?_; rintro e w' ⟨rfl, rfl⟩)
    go_ret
    exact ⟨ret_bool (by rw [Hv.out]), rfl⟩
  · have hv : fmB s.data.toList = false := by simp [fmB]; omega
    have Hv := Lib.hid hv
    clear hv
    unfold maxLen at hs
    go_enter Tryd.func36, Tryd.ntmps36
    go_wp2_with fail
    go_ret
    exact ⟨ret_bool (by rw [Hv.out]), rfl⟩

end Go.Proofs.YteonanaihklgmaaDoor

namespace Go.Proofs.YteonanaihklgmaaDoor
open Go.RowKit
open Pl
set_option maxRecDepth 100000

theorem slIndexByte_calls (s : ByteArray) (c : Int) (w : World) :
    Calls Tryd.prog 109 #[.string s, .int .u8 c] w fun e w' => e = .returned (.int .i64 (Lib.indexByte s.data.toList c.toNat.toUInt8)) ∧ w = w' := by
  go_enter Tryd.func109, Tryd.ntmps109
  go_wp2
  rw [run_callFunc_extern Tryd.func120 (by kernel_rfl) (by kernel_rfl) (by kernel_rfl) (by kernel_rfl), Lib.run_indexByteString]
  simp only [Result.andThen]
  rw [Oper.upon_value]
  go_wp2
  go_ret
  exact ⟨rfl, rfl⟩

theorem IndexByte_calls (s : ByteArray) (c : UInt8) (w : World) :
    Calls Tryd.prog 92 #[.string s, .int .u8 c.toNat] w fun e w' => e = .returned (.int .i64 (Lib.indexByte s.data.toList c)) ∧ w = w' := by
  go_enter Tryd.func92, Tryd.ntmps92
  go_wp2_with (go_at_call 109; refine (slIndexByte_calls _ _ _).mono ?_; rintro e w' ⟨rfl, rfl⟩)
  go_ret
  exact ⟨ret_int (by simp), rfl⟩

theorem slIndex_one (s t : ByteArray) (b : UInt8) (ht : t.data.toList = [b]) (w : World) :
    Calls Tryd.prog 119 #[.string s, .string t] w fun e w' => e = .returned (.int .i64 (Lib.indexByte s.data.toList b)) ∧ w = w' := by
  have hsz : t.size = 1 := by have := congrArg List.length ht; simpa using this
  have hb : ∀ h : 0 < t.size, t[0] = b := fun h => by
    have h1 : t.data.toList[0]? = some b := by rw [ht]; rfl
    rw [List.getElem?_eq_getElem (by simpa using h)] at h1
    injection h1
  have Hb := Lib.hid hb
  have Ht := Lib.hid ht
  clear hb ht
  go_enter Tryd.func119, Tryd.ntmps119
  go_wp2_with (go_at_call 109; refine (slIndexByte_calls _ _ _).mono ?_; rintro e w' ⟨rfl, rfl⟩)
  · go_ret
    refine ⟨ret_int ?_, rfl⟩
    have he : (t.toList == s.toList) = true := by assumption
    have he2 : t.toList = s.toList := eq_of_beq he
    rw [ByteArray.toList_eq, ByteArray.toList_eq, Ht.out] at he2
    rw [← he2]
    simp [Lib.indexByte]
  · go_ret
    exact ⟨ret_int (by rw [Hb.out (by omega)]), rfl⟩

theorem Contains_one (s t : ByteArray) (b : UInt8) (ht : t.data.toList = [b]) (w : World) :
    Calls Tryd.prog 91 #[.string s, .string t] w fun e w' => e = .returned (.bool (decide (0 ≤ Lib.indexByte s.data.toList b))) ∧ w = w' := by
  have Ht := Lib.hid ht
  clear ht
  have h36 : ∀ w, Calls Tryd.prog 108 #[.string s, .string t] w fun e w' => e = .returned (.int .i64 (Lib.indexByte s.data.toList b)) ∧ w = w' := fun w => by
    go_enter Tryd.func108, Tryd.ntmps108
    go_wp2_with (go_at_call 119; refine (slIndex_one _ _ b Ht.out _).mono ?_; rintro e w' ⟨rfl, rfl⟩)
    go_ret
    exact ⟨rfl, rfl⟩
  have H36 := Lib.hid h36
  clear h36
  go_enter Tryd.func91, Tryd.ntmps91
  go_wp2_with (go_at_call 108; refine (H36.out _).mono ?_; rintro e w' ⟨rfl, rfl⟩)
  go_ret
  exact ⟨rfl, rfl⟩

/-! ### the tree in memory -/

/-- the variables that are free, as bits -/
def Pl.Fm.freeBits : Fm → Nat
  | .tru => 0 | .fls => 0 | .pr v => 1 <<< v.val | .eq v w => 1 <<< v.val ||| 1 <<< w.val | .rel v w => 1 <<< v.val ||| 1 <<< w.val
  | .neg p => p.freeBits | .con p q => p.freeBits ||| q.freeBits | .dis p q => p.freeBits ||| q.freeBits
  | .qu _ v p => p.freeBits &&& (15 ^^^ 1 <<< v.val)

/-- all variables, as bits -/
def Pl.Fm.allBits : Fm → Nat
  | .tru => 0 | .fls => 0 | .pr v => 1 <<< v.val | .eq v w => 1 <<< v.val ||| 1 <<< w.val | .rel v w => 1 <<< v.val ||| 1 <<< w.val
  | .neg p => p.allBits | .con p q => p.allBits ||| q.allBits | .dis p q => p.allBits ||| q.allBits
  | .qu _ v p => 1 <<< v.val ||| p.allBits

abbrev kidV (k : Nat) : Value := .pointer (some ⟨k, 0, none⟩)
def byteV (b : UInt8) : Value := .int .u8 b.toNat

/-- block b holds a node with this operator, these variables, these masks and these children; all blocks that it owns are in S -/
def NodeIn (S : Nat → Prop) (w : World) (op : UInt8) (vars : List (Fin 4)) (free all : Nat) (b : Nat) (ks : List Nat) : Prop :=
  S b ∧ ∃ vs ps, w.heap[b]? = some (.cells #[.int .u8 op.toNat, vs, ps, .int .i64 free, .int .i64 all] 68 (0, 0)) ∧
    w.ownsRow 0 5 1 vs vars.length (vars.map fun v => byteV (vb v)) ∧ (∀ k, vs.ownBlock = some k → S k) ∧
    w.ownsRow 0 55 1 ps ks.length (ks.map kidV) ∧ (∀ k, ps.ownBlock = some k → S k)

def FmNode (S : Nat → Prop) (w : World) (f : Fm) (b : Nat) (ks : List Nat) : Prop := NodeIn S w f.op f.vars f.freeBits f.allBits b ks

/-- block b holds the tree of a formula, whose blocks are all in S -/
def TreeIn (S : Nat → Prop) (w : World) : Fm → Nat → Prop
  | .neg p, b => ∃ k, FmNode S w (.neg p) b [k] ∧ TreeIn S w p k
  | .qu q v p, b => ∃ k, FmNode S w (.qu q v p) b [k] ∧ TreeIn S w p k
  | .con p q, b => ∃ k l, FmNode S w (.con p q) b [k, l] ∧ TreeIn S w p k ∧ TreeIn S w q l
  | .dis p q, b => ∃ k l, FmNode S w (.dis p q) b [k, l] ∧ TreeIn S w p k ∧ TreeIn S w q l
  | .tru, b => FmNode S w .tru b []
  | .fls, b => FmNode S w .fls b []
  | .pr v, b => FmNode S w (.pr v) b []
  | .eq v u, b => FmNode S w (.eq v u) b []
  | .rel v u, b => FmNode S w (.rel v u) b []

/-- the trees of a list of formulas -/
def TreesIn (S : Nat → Prop) (w : World) (ps : List Fm) (ks : List Nat) : Prop := ks.length = ps.length ∧ ∀ (i : Nat) (p : Fm) (k : Nat), ps[i]? = some p → ks[i]? = some k → TreeIn S w p k

theorem treesIn_nil (S : Nat → Prop) (w : World) : TreesIn S w [] [] := ⟨rfl, fun i p k h => by simp at h⟩
theorem treesIn_one {S : Nat → Prop} {w : World} {p : Fm} {k : Nat} (h : TreeIn S w p k) : TreesIn S w [p] [k] := ⟨rfl, fun i p' k' h1 h2 => by
  match i, h1, h2 with
  | 0, h1, h2 => simp at h1 h2; subst h1 h2; exact h⟩
theorem treesIn_two {S : Nat → Prop} {w : World} {p q : Fm} {k l : Nat} (h : TreeIn S w p k) (h' : TreeIn S w q l) : TreesIn S w [p, q] [k, l] := ⟨rfl, fun i p' k' h1 h2 => by
  match i, h1, h2 with
  | 0, h1, h2 => simp at h1 h2; subst h1 h2; exact h
  | 1, h1, h2 => simp at h1 h2; subst h1 h2; exact h'⟩
theorem treesIn_snoc {S : Nat → Prop} {w : World} {ps : List Fm} {ks : List Nat} {p : Fm} {k : Nat} (hs : TreesIn S w ps ks) (h : TreeIn S w p k) : TreesIn S w (ps ++ [p]) (ks ++ [k]) :=
  ⟨by simp [hs.1], fun i p' k' h1 h2 => by
    by_cases hi : i < ps.length
    · rw [List.getElem?_append_left hi] at h1
      rw [List.getElem?_append_left (by rw [hs.1]; exact hi)] at h2
      exact hs.2 i p' k' h1 h2
    · rw [List.getElem?_append_right (by omega)] at h1
      rw [List.getElem?_append_right (by rw [hs.1]; omega), hs.1] at h2
      match i - ps.length, h1, h2 with
      | 0, h1, h2 => simp at h1 h2; subst h1 h2; exact h
      | j + 1, h1, h2 => simp at h1⟩

theorem TreeIn.open {S : Nat → Prop} {w : World} {f : Fm} {b : Nat} (h : TreeIn S w f b) : ∃ ks, FmNode S w f b ks ∧ TreesIn S w f.parts ks := by
  cases f with
  | tru => exact ⟨[], h, treesIn_nil _ _⟩
  | fls => exact ⟨[], h, treesIn_nil _ _⟩
  | pr v => exact ⟨[], h, treesIn_nil _ _⟩
  | eq v u => exact ⟨[], h, treesIn_nil _ _⟩
  | rel v u => exact ⟨[], h, treesIn_nil _ _⟩
  | neg p => obtain ⟨k, h1, h2⟩ := h; exact ⟨_, h1, treesIn_one h2⟩
  | qu q v p => obtain ⟨k, h1, h2⟩ := h; exact ⟨_, h1, treesIn_one h2⟩
  | con p q => obtain ⟨k, l, h1, h2, h3⟩ := h; exact ⟨_, h1, treesIn_two h2 h3⟩
  | dis p q => obtain ⟨k, l, h1, h2, h3⟩ := h; exact ⟨_, h1, treesIn_two h2 h3⟩

theorem TreeIn.shut {S : Nat → Prop} {w : World} {f : Fm} {b : Nat} {ks : List Nat} (h : FmNode S w f b ks) (ht : TreesIn S w f.parts ks) : TreeIn S w f b := by
  obtain ⟨hl, ht⟩ := ht
  cases f with
  | tru => match ks, hl with | [], _ => exact h
  | fls => match ks, hl with | [], _ => exact h
  | pr v => match ks, hl with | [], _ => exact h
  | eq v u => match ks, hl with | [], _ => exact h
  | rel v u => match ks, hl with | [], _ => exact h
  | neg p => match ks, hl with | [k], _ => exact ⟨k, h, ht 0 p k rfl rfl⟩
  | qu q v p => match ks, hl with | [k], _ => exact ⟨k, h, ht 0 p k rfl rfl⟩
  | con p q => match ks, hl with | [k, l], _ => exact ⟨k, l, h, ht 0 p k rfl rfl, ht 1 q l rfl rfl⟩
  | dis p q => match ks, hl with | [k, l], _ => exact ⟨k, l, h, ht 0 p k rfl rfl, ht 1 q l rfl rfl⟩

theorem block_lt {w : World} {b : Nat} {x : Obj} (h : w.heap[b]? = some x) : b < w.heap.size := by
  rcases Nat.lt_or_ge b w.heap.size with hlt | hge
  · exact hlt
  · rw [Array.getElem?_eq_none hge] at h; cases h

/-- a row keeps, where its block does -/
theorem ownsRow_keep {w w' : World} {base base' : Nat} {e : TypeId} {size : Nat} {v : Value} {n : Nat} {xs : List Value} (h : w.ownsRow base e size v n xs)
    (hk : ∀ g, v.ownBlock = some g → w'.heap[g]? = w.heap[g]? ∧ base' ≤ g) : w'.ownsRow base' e size v n xs := by
  obtain ⟨hl, h | ⟨g, cap, cur, rfl, h2, h3, h4⟩⟩ := h
  · exact ⟨hl, .inl h⟩
  · obtain ⟨e1, e2⟩ := hk g rfl
    exact ⟨hl, .inr ⟨g, cap, cur, rfl, e2, e1.trans h3, h4⟩⟩

theorem ownsRow_lt {w : World} {base : Nat} {e : TypeId} {size : Nat} {v : Value} {n : Nat} {xs : List Value} (h : w.ownsRow base e size v n xs) {k : Nat} (hk : v.ownBlock = some k) : base ≤ k ∧ k < w.heap.size := h.lt k hk

/-- what a node's keeping asks -/
theorem NodeIn.keep {S S' : Nat → Prop} {w w' : World} {op : UInt8} {vars : List (Fin 4)} {free all b : Nat} {ks : List Nat} (h : NodeIn S w op vars free all b ks)
    (hk : ∀ g, S g → g < w.heap.size → w'.heap[g]? = w.heap[g]? ∧ S' g) : NodeIn S' w' op vars free all b ks := by
  obtain ⟨h0, vs, ps, h1, h2, h3, h4, h5⟩ := h
  have e := hk b h0 (block_lt h1)
  exact ⟨e.2, vs, ps, e.1.trans h1,
    ownsRow_keep h2 (fun g hg => ⟨(hk g (h3 g hg) (ownsRow_lt h2 hg).2).1, Nat.zero_le _⟩), fun g hg => (hk g (h3 g hg) (ownsRow_lt h2 hg).2).2,
    ownsRow_keep h4 (fun g hg => ⟨(hk g (h5 g hg) (ownsRow_lt h4 hg).2).1, Nat.zero_le _⟩), fun g hg => (hk g (h5 g hg) (ownsRow_lt h4 hg).2).2⟩

theorem TreeIn.keep {S S' : Nat → Prop} {w w' : World} (hk : ∀ g, S g → g < w.heap.size → w'.heap[g]? = w.heap[g]? ∧ S' g) : ∀ (f : Fm) (b : Nat), TreeIn S w f b → TreeIn S' w' f b := by
  intro f
  induction f with
  | tru => intro b h; exact NodeIn.keep h hk
  | fls => intro b h; exact NodeIn.keep h hk
  | pr v => intro b h; exact NodeIn.keep h hk
  | eq v u => intro b h; exact NodeIn.keep h hk
  | rel v u => intro b h; exact NodeIn.keep h hk
  | neg p ih => intro b h; obtain ⟨k, h1, h2⟩ := h; exact ⟨k, NodeIn.keep h1 hk, ih _ h2⟩
  | qu q v p ih => intro b h; obtain ⟨k, h1, h2⟩ := h; exact ⟨k, NodeIn.keep h1 hk, ih _ h2⟩
  | con p q ihp ihq => intro b h; obtain ⟨k, l, h1, h2, h3⟩ := h; exact ⟨k, l, NodeIn.keep h1 hk, ihp _ h2, ihq _ h3⟩
  | dis p q ihp ihq => intro b h; obtain ⟨k, l, h1, h2, h3⟩ := h; exact ⟨k, l, NodeIn.keep h1 hk, ihp _ h2, ihq _ h3⟩

theorem TreesIn.keep {S S' : Nat → Prop} {w w' : World} (hk : ∀ g, S g → g < w.heap.size → w'.heap[g]? = w.heap[g]? ∧ S' g) {ps : List Fm} {ks : List Nat} (h : TreesIn S w ps ks) : TreesIn S' w' ps ks :=
  ⟨h.1, fun i p k h1 h2 => TreeIn.keep hk p k (h.2 i p k h1 h2)⟩

/-- the tree lies from block lo on -/
def TreeAt (lo : Nat) (w : World) (f : Fm) (b : Nat) : Prop := TreeIn (fun g => lo ≤ g) w f b

theorem TreeAt.below {lo : Nat} {w w' : World} {f : Fm} {b : Nat} (h : TreeAt lo w f b) (hb : Below w.heap.size w w') : TreeAt lo w' f b :=
  TreeIn.keep (fun g hs hg => ⟨hb.block g hg, hs⟩) f b h

theorem TreeAt.base {lo lo' : Nat} {w : World} {f : Fm} {b : Nat} (h : TreeAt lo w f b) (hl : lo' ≤ lo) : TreeAt lo' w f b :=
  TreeIn.keep (fun _ hs _ => ⟨rfl, Nat.le_trans hl hs⟩) f b h

theorem TreeAt.drew {lo : Nat} {w : World} {f : Fm} {b : Nat} (h : TreeAt lo w f b) : TreeAt lo w.drew f b := TreeIn.keep (w := w) (w' := w.drew) (fun _ hs _ => ⟨rfl, hs⟩) f b h

end Go.Proofs.YteonanaihklgmaaDoor
