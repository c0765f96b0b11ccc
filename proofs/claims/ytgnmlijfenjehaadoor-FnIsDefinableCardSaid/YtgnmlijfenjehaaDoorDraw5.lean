/-
  Draws: an element, a structure that is sometimes not valid. Condition: at most 2^39 numbers were drawn before.
-/
import Derived.Test.YtgnmlijfenjehaaDoorDraw4
import Derived.Test.YtgnmlijfenjehaaDoorReg2
namespace Go.Proofs.YtgnmlijfenjehaaDoor
open Go.RowKit
open Pl
set_option linter.unusedSimpArgs false
set_option linter.unusedVariables false

/-- a number that a machine holds -/
def IOk (i : Int) : Prop := (Lit.int .i64 i).wf = true
theorem iok_of {i : Int} (h0 : -1000 ≤ i) (h1 : i ≤ 1000) : IOk i := by
  have h2 : IntKind.i64.min = -9223372036854775808 := by decide
  have h3 : IntKind.i64.max = 9223372036854775807 := by decide
  show (decide (IntKind.i64.min ≤ i) && decide (i ≤ IntKind.i64.max)) = true
  rw [h2, h3]
  simp
  omega

/-- a drawn structure, perhaps not valid -/
def BadS (rb : Nat) (A : Option Addr) (n cap p : Nat) (an : Int) (e : Ending) (w' : World) : Prop := ∃ (i : Int) (s r : ByteArray) (p' : Nat), e = .returned (stV i s r) ∧ IOk i ∧ s.size ≤ 100 ∧ r.size ≤ 100 ∧ p' ≤ p + 300 ∧ Rd w' rb A n cap p' ∧ (i = an ∨ i ≤ 0 ∨ an < i)
/-- a drawn number -/
def ElS (rb : Nat) (A : Option Addr) (n cap p : Nat) (e : Ending) (w' : World) : Prop := ∃ (x : Int) (p' : Nat), e = .returned (.int .i64 x) ∧ IOk x ∧ p' ≤ p + 2 ∧ Rd w' rb A n cap p'

set_option maxRecDepth 100000 in
theorem el_list {m : Int} (h : m ∈ [-1, 8, 7, 9223372036854775807]) : IOk m := by
  simp only [List.mem_cons, List.not_mem_nil, or_false] at h
  rcases h with rfl | rfl | rfl | rfl <;> (unfold IOk; decide)
set_option maxRecDepth 100000 in
theorem bad_list {m k : Int} (hk : IOk k) (h : m ∈ [0, -1, k, 9, 9223372036854775807]) : IOk m := by
  simp only [List.mem_cons, List.not_mem_nil, or_false] at h
  rcases h with rfl | rfl | rfl | rfl | rfl
  · unfold IOk; decide
  · unfold IOk; decide
  · exact hk
  · unfold IOk; decide
  · unfold IOk; decide

theorem bad_far {m : Int} {k : Nat} (hk : k ≤ 5) (h : m ∈ [0, -1, (k : Int) + 1, 9, 9223372036854775807]) : m ≤ 0 ∨ (k : Int) < m := by
  simp only [List.mem_cons, List.not_mem_nil, or_false] at h
  rcases h with rfl | rfl | rfl | rfl | rfl
  · exact .inl (by omega)
  · exact .inl (by omega)
  · exact .inr (by omega)
  · exact .inr (by omega)
  · exact .inr (by omega)

set_option maxHeartbeats 2000000 in
set_option maxRecDepth 100000 in
theorem l1Bad_calls (rb : Nat) (A : Option Addr) (n cap p : Nat) (a : St) (ha : a.ok) (han : a.n ≤ 5) (w : World) (h : Rd w rb A n cap p) (hp : p ≤ 549755800000) :
    Calls Tryd.prog 41 #[.pointer (some ⟨rb, 0, none⟩), stA a] w fun e w' => BadS rb A n cap p (a.n : Int) e w' ∧ w.grownBy w' (some rb) := by
  have hpk : ∀ (k : Int) (q : Nat) (V : World), k ≤ 100 → q ≤ p + 200 → Rd V rb A n cap q → Calls Tryd.prog 39 #[.pointer (some ⟨rb, 0, none⟩), .int .i64 k] V fun e w' => PickP k e ∧ Rd w' rb A n cap (q + 1) ∧ V.grownBy w' (some rb) := fun k q V hk hq hr => pick_calls rb A n cap q k V hr (by omega) (by omega)
  have hnum : ∀ (g : Nat) (W : World), NCells W g [0, -1, (a.n : Int) + 1, 9, 9223372036854775807] → g ≠ rb → Rd W rb A n cap (p + 1) → Calls Tryd.prog 40 #[.pointer (some ⟨rb, 0, none⟩), .slice (some ⟨g, 0, none⟩) 5 5] W fun e w' => (∃ k : Int, e = .returned (.int .i64 k) ∧ IOk k ∧ (k ≤ 0 ∨ (a.n : Int) < k)) ∧ Rd w' rb A n cap (p + 1 + 1) ∧ W.grownBy w' (some rb) :=
    fun g W h1 h2 h3 => (num_calls rb A n cap (p + 1) g 5 [0, -1, (a.n : Int) + 1, 9, 9223372036854775807] W h3 (by omega) (by simp) (by simp) h1 h2).mono fun e w' ⟨⟨m, h4, h5⟩, h6⟩ => ⟨⟨m, h4, bad_list (iok_of (by omega) (by omega)) h5, bad_far han h5⟩, h6⟩
  have hof : ∀ (g : Nat) (W : World), SCells W g [bs [], bs [50], bs [48, 49]] → g ≠ rb → Rd W rb A n cap (p + 1) → Calls Tryd.prog 68 #[.pointer (some ⟨rb, 0, none⟩), .slice (some ⟨g, 0, none⟩) 3 3] W fun e w' => (∃ t : ByteArray, e = .returned (.string t) ∧ t.size ≤ 2) ∧ Rd w' rb A n cap (p + 1 + 1) ∧ W.grownBy w' (some rb) :=
    fun g W h1 h2 h3 => (of_calls rb A n cap (p + 1) g 3 [bs [], bs [50], bs [48, 49]] W h3 (by omega) (by simp) (by simp) h1 h2).mono fun e w' ⟨⟨m, h4, h5⟩, h6⟩ => ⟨⟨m, h4, by
      simp only [List.mem_cons, List.not_mem_nil, or_false] at h5
      rcases h5 with rfl | rfl | rfl <;> decide⟩, h6⟩
  have hm1 : ∀ W, Calls Tryd.prog 69 #[.string (bs [48]), .int .i64 9] W fun e w' => (∃ t : ByteArray, e = .returned (.string t) ∧ t.size ≤ 81) ∧ W = w' := fun W => l15Many_calls (bs [48]) 9 W (by decide) (by omega)
  have hm2 : ∀ W, Calls Tryd.prog 69 #[.string (bs [49]), .int .i64 81] W fun e w' => (∃ t : ByteArray, e = .returned (.string t) ∧ t.size ≤ 81) ∧ W = w' := fun W => l15Many_calls (bs [49]) 81 W (by decide) (by omega)
  have hss : (bs a.set).size ≤ 5 ∧ (bs a.rel).size ≤ 25 ∧ 0 < (bs a.rel).size := by
    have h1 := ha.sl; have h2 := ha.rl; have h3 := ha.lo
    have h4 : a.n * a.n ≤ 5 * 5 := Nat.mul_le_mul han han
    have h5 : 1 * 1 ≤ a.n * a.n := Nat.mul_le_mul h3 h3
    rw [bs_size, bs_size]
    omega
  obtain ⟨hs5, hr5, hr0⟩ := hss
  have hn1 := ha.lo
  have D0 := Lib.hid (((Dw.new h).alloc (.cells #[.int .i64 (a.n : Int), .string (bs a.set), .string (bs a.rel)] 27)).alloc (.cells #[.int .i64 0, .string (bs []), .string (bs [])] 27))
  have X0 := Lib.hid ((Bx.new w 27 #[.int .i64 (a.n : Int), .string (bs a.set), .string (bs a.rel)]).alloc (.cells #[.int .i64 0, .string (bs []), .string (bs [])] 27))
  have Y0 := Lib.hid (bx_two w (.cells #[.int .i64 (a.n : Int), .string (bs a.set), .string (bs a.rel)] 27) #[.int .i64 0, .string (bs []), .string (bs [])] (t := 27))
  have hb : ∀ (i : Int) (s r : ByteArray) (q : Nat) (V : World), IOk i → (i = (a.n : Int) ∨ i ≤ 0 ∨ (a.n : Int) < i) → s.size ≤ 100 → r.size ≤ 100 → q ≤ p + 300 → Dw w rb A n cap q V → BadS rb A n cap p (a.n : Int) (.returned (stV i s r)) V ∧ w.grownBy V (some rb) := fun i s r q V h1 h0 h2 h3 h4 h5 => ⟨⟨i, s, r, q, rfl, h1, h2, h3, h4, h5.rd, h0⟩, h5.gr⟩
  have HB := Lib.hid hb
  have Hnum := Lib.hid hnum
  have Hpk := Lib.hid hpk
  have Hof := Lib.hid hof
  have Hm1 := Lib.hid hm1
  have Hm2 := Lib.hid hm2
  have hrl := h.box.lt
  clear hnum hpk hof hm1 hm2 h ha hb
  generalize hS : bs a.set = S at *
  generalize hR : bs a.rel = R at *
  have hni : (1 : Int) ≤ (a.n : Int) := by omega
  have hni5 : (a.n : Int) ≤ 5 := by omega
  show Calls Tryd.prog 41 #[.pointer (some ⟨rb, 0, none⟩), stV (a.n : Int) (bs a.set) (bs a.rel)] w _
  rw [hS, hR]
  clear hS hR
  go_enter Tryd.func41, Tryd.ntmps41
  go_wp2_with fail
  refine (Hpk.out 40 p _ (by omega) (by omega) D0.out.rd).mono ?_
  rintro e w1 ⟨⟨m, rfl, hm0, hm1, _⟩, hr, hg⟩
  have D1 := Lib.hid (D0.out.step hr hg)
  have X1 := Lib.hid (X0.out.dw hg hrl)
  have Y1 := Lib.hid (Y0.out.dw hg (by omega))
  have hs1 : w.heap.size + 2 ≤ w1.heap.size := by have := hg.size; simpa using this
  obtain ⟨c0, c1, c2⟩ := box_load X1.out
  have e0 := X1.out.free 0
  have e1 := X1.out.free 1
  have e2 := X1.out.free 2
  obtain ⟨d0, d1, d2⟩ := box_load Y1.out
  have f0 := Y1.out.free 0
  have f1 := Y1.out.free 1
  have f2 := Y1.out.free 2
  clear hr hg hm1
  have tl : ∀ (V : World) (i : Int) (s r : ByteArray) (q : Nat), Bx V w.heap.size 27 #[.int .i64 i, .string s, .string r] → Bx V (w.heap.size + 1) 27 #[.int .i64 0, .string (bs []), .string (bs [])] → Dw w rb A n cap q V → True := fun _ _ _ _ _ _ _ _ => trivial
  clear tl
  by_cases h0 : m = 0
  · subst h0
    have D2 := Lib.hid (D1.out.alloc (.cells #[.int .i64 0, .int .i64 (-1), .int .i64 ((a.n : Int) + 1), .int .i64 9, .int .i64 9223372036854775807] 3))
    have X2 := Lib.hid (X1.out.alloc (.cells #[.int .i64 0, .int .i64 (-1), .int .i64 ((a.n : Int) + 1), .int .i64 9, .int .i64 9223372036854775807] 3))
    have Y2 := Lib.hid (Y1.out.alloc (.cells #[.int .i64 0, .int .i64 (-1), .int .i64 ((a.n : Int) + 1), .int .i64 9, .int .i64 9223372036854775807] 3))
    have N2 := Lib.hid (ncells_new w1 [0, -1, (a.n : Int) + 1, 9, 9223372036854775807] 3)
    clear d0 d1 d2 f0 f1 f2
    go_wp2_with fail
    refine (Hnum.out _ _ (by have := N2.out; simpa using this) (by omega) D2.out.rd).mono ?_
    clear c0 c1 c2 e0 e1 e2
    rintro e w2 ⟨⟨k, rfl, hk, hkf⟩, hr, hg⟩
    have HKF := Lib.hid hkf
    clear hkf
    have D3 := Lib.hid (((D2.out.step hr hg).put (Nat.le_refl _) 0 (.int .i64 k)).puts (Nat.le_succ _) (.int .i64 k) (.string S) (.string R))
    have x3 := X2.out.dw hg hrl
    have y3 := Y2.out.dw hg (by omega)
    obtain ⟨c0, c1, c2⟩ := box_load x3
    have e0 := x3.free 0
    obtain ⟨d0, d1, d2⟩ := box_load y3
    have f0 := y3.free 0
    have f1 := y3.free 1
    have f2 := y3.free 2
    obtain ⟨q0, q1, q2⟩ := box_load ((y3.far (p := ⟨w.heap.size, 0, none⟩) (by simp) (.int .i64 k)).puts (.int .i64 k) (.string S) (.string R))
    have HK := Lib.hid hk
    clear hr hg hk x3 y3
    go_wp2_with fail
    refine bodyPost_ret (v := stV k S R) ?_ rfl (HB.out _ _ _ _ _ HK.out (.inr HKF.out) (by omega) (by omega) (by omega) D3.out)
    simp [results, Tryd.results41, go_sem, q0, q1, q2]
  by_cases h1 : m = 1
  · subst h1
    have D2 := Lib.hid ((D1.out.put (Nat.le_refl _) 1 (.string (S ++ ⟨#[48]⟩))).puts (Nat.le_succ _) (.int .i64 (a.n : Int)) (.string (S ++ ⟨#[48]⟩)) (.string R))
    obtain ⟨q0, q1, q2⟩ := box_load ((Y1.out.far (p := ⟨w.heap.size, 1, none⟩) (by simp) (.string (S ++ ⟨#[48]⟩))).puts (.int .i64 (a.n : Int)) (.string (S ++ ⟨#[48]⟩)) (.string R))
    have hz : (S ++ ⟨#[48]⟩).size ≤ 6 := by rw [ByteArray.size_append]; have : (ByteArray.mk #[48]).size = 1 := rfl; omega
    have Hz := Lib.hid hz
    clear hz
    go_wp2_with fail
    refine bodyPost_ret (v := stV (a.n : Int) (S ++ ⟨#[48]⟩) R) ?_ rfl (HB.out _ _ _ _ _ (iok_of (by omega) (by omega)) (.inl rfl) (by have := Hz.out; omega) (by omega) (by omega) D2.out)
    simp [results, Tryd.results41, go_sem, q0, q1, q2]
  by_cases h2 : m = 2
  · subst h2
    have hrs : (R.size : Int) - 1 ≤ R.size := by omega
    have hr1 : (1 : Int) ≤ (R.size : Int) := by omega
    have hr2 : (R.size : Int) ≤ 25 := by omega
    have hr3 : IntKind.i64.wrap ((R.size : Int) - 1) = (R.size : Int) - 1 := IntWalk.i64_in _ (by omega)
    have D2 := Lib.hid (D1.out.drew.alloc (.cells #[.string (bs []), .string (bs [50]), .string (bs [48, 49])] 9))
    have X2 := Lib.hid (X1.out.drew.alloc (.cells #[.string (bs []), .string (bs [50]), .string (bs [48, 49])] 9))
    have Y2 := Lib.hid (Y1.out.drew.alloc (.cells #[.string (bs []), .string (bs [50]), .string (bs [48, 49])] 9))
    have N2 := Lib.hid (scells_new w1.drew [bs [], bs [50], bs [48, 49]] 9)
    go_upto_region 7 with (fail)
    refine R2.region_sched [(0, true), (1, true), (2, true), (3, true), (4, true), (5, true), (6, true), (7, true), (8, false), (9, false), (10, true), (11, true), (12, false)] 12 (fun w' : World => w'.cell? ⟨w.heap.size, 2, none⟩ = some (.string R)) (by kernel_rfl) (by kernel_rfl) (by kernel_rfl) (by kernel_rfl) (by kernel_rfl) (fun _ _ _ _ h => h) ?_ (fun Q1 hQ1 => ?_)
    · exact c2
    try simp only [List.append]
    refine R2.sched_take' (v := ?_) (a' := ?_) rfl (by kernel_rfl) ?_ rfl ?_ ?_
    rotate_left 2
    · intro w hSw
      (try dsimp only at hSw)
      go_simp
      try with_reducible rfl
    · (try simp only [Act.put, List.setIfInBounds_toArray, List.set_cons_zero, List.set_cons_succ])
      try rfl
    refine R2.sched_take' (v := ?_) (a' := ?_) rfl (by kernel_rfl) ?_ rfl ?_ ?_
    rotate_left 2
    · intro w hSw
      (try dsimp only at hSw)
      go_simp
      try with_reducible rfl
    · (try simp only [Act.put, List.setIfInBounds_toArray, List.set_cons_zero, List.set_cons_succ])
      try rfl
    refine R2.sched_take' (v := ?_) (a' := ?_) rfl (by kernel_rfl) ?_ rfl ?_ ?_
    rotate_left 2
    · intro w hSw
      (try dsimp only at hSw)
      go_simp
      try with_reducible rfl
    · (try simp only [Act.put, List.setIfInBounds_toArray, List.set_cons_zero, List.set_cons_succ])
      try rfl
    refine R2.sched_take' (v := ?_) (a' := ?_) rfl (by kernel_rfl) ?_ rfl ?_ ?_
    rotate_left 2
    · intro w hSw
      (try dsimp only at hSw)
      go_simp
      try with_reducible rfl
    · (try simp only [Act.put, List.setIfInBounds_toArray, List.set_cons_zero, List.set_cons_succ])
      try rfl
    refine R2.sched_take' (v := ?_) (a' := ?_) rfl (by kernel_rfl) ?_ rfl ?_ ?_
    rotate_left 2
    · intro w hSw
      (try dsimp only at hSw)
      go_simp
      try with_reducible rfl
    · (try simp only [Act.put, List.setIfInBounds_toArray, List.set_cons_zero, List.set_cons_succ])
      try rfl
    refine R2.sched_take' (v := ?_) (a' := ?_) rfl (by kernel_rfl) ?_ rfl ?_ ?_
    rotate_left 2
    · intro w hSw
      (try dsimp only at hSw)
      go_simp
      try with_reducible rfl
    · (try simp only [Act.put, List.setIfInBounds_toArray, List.set_cons_zero, List.set_cons_succ])
      try rfl
    refine R2.sched_take' (v := ?_) (a' := ?_) rfl (by kernel_rfl) ?_ rfl ?_ ?_
    rotate_left 2
    · intro w hSw
      (try dsimp only at hSw)
      go_simp
      try with_reducible rfl
    · (try simp only [Act.put, List.setIfInBounds_toArray, List.set_cons_zero, List.set_cons_succ])
      try rfl
    refine R2.sched_take' (v := ?_) (a' := ?_) rfl (by kernel_rfl) ?_ rfl ?_ ?_
    rotate_left 2
    · intro w hSw
      (try dsimp only at hSw)
      go_simp
      try with_reducible rfl
    · (try simp only [Act.put, List.setIfInBounds_toArray, List.set_cons_zero, List.set_cons_succ])
      try rfl
    refine R2.sched_call rfl (by kernel_rfl) (fun K1 hK1 => ?_)
    go_simp
    refine hK1.out _ _ ?_ (R2.sched_lay (a' := ?_) ?_ ?_)
    · exact X2.out.cell 2
    rotate_left 1
    · (try simp only [Act.put, List.getElem_toArray, List.getElem_cons_succ, List.getElem_cons_zero, List.setIfInBounds_toArray, List.set_cons_zero, List.set_cons_succ])
      try rfl
    clear hK1 K1
    refine R2.sched_call rfl (by kernel_rfl) (fun K1 hK1 => ?_)
    go_simp
    refine (Hof.out _ _ (by have := N2.out; simpa using this) (by omega) D2.out.rd).mono ?_
    rintro e w2 ⟨⟨t, rfl, ht⟩, hr, hg⟩
    have D3 := Lib.hid (D2.out.step hr hg)
    have X3 := Lib.hid (X2.out.dw hg hrl)
    have Y3 := Lib.hid (Y2.out.dw hg (by omega))
    clear hr hg
    go_wp2_with fail
    refine hK1.out _ _ ?_ (R2.sched_lay (a' := ?_) ?_ ?_)
    · exact X3.out.cell 2
    rotate_left 1
    · (try simp only [Act.put, List.getElem_toArray, List.getElem_cons_succ, List.getElem_cons_zero, List.setIfInBounds_toArray, List.set_cons_zero, List.set_cons_succ])
      try rfl
    clear hK1 K1
    refine R2.sched_take' (v := .string (R.extract 0 (R.size - 1) ++ t)) (a' := ?_) rfl (by kernel_rfl) ?_ rfl ?_ ?_
    rotate_left 1
    · intro w hSw
      (try dsimp only at hSw)
      go_simp
      first | omega | (rw [if_neg (by omega)])
    · (try simp only [Act.put, List.setIfInBounds_toArray, List.set_cons_zero, List.set_cons_succ])
      try rfl
    refine R2.sched_take' (v := ?_) (a' := ?_) rfl (by kernel_rfl) ?_ rfl ?_ ?_
    rotate_left 2
    · intro w hSw
      (try dsimp only at hSw)
      go_simp
      try with_reducible rfl
    · (try simp only [Act.put, List.setIfInBounds_toArray, List.set_cons_zero, List.set_cons_succ])
      try rfl
    have hU : (R.extract 0 (R.size - 1) ++ t).size ≤ 30 := by rw [ByteArray.size_append, ByteArray.size_extract]; omega
    generalize hUe : R.extract 0 (R.size - 1) ++ t = U at *
    clear hUe
    clear c0 c1 c2 e0 e1 e2 d0 d1 d2 f0 f1 f2
    have e2 := X3.out.free 2
    obtain ⟨c0, c1, c2⟩ := box_load X3.out
    refine R2.sched_last rfl (by kernel_rfl) (fun K1 hK1 => ?_)
    go_simp
    refine hK1.out _ _ (R2.sched_lay (a' := ?_) ?_ ?_)
    rotate_left 1
    · (try simp only [Act.put, List.getElem_toArray, List.getElem_cons_succ, List.getElem_cons_zero, List.setIfInBounds_toArray, List.set_cons_zero, List.set_cons_succ])
      try rfl
    clear hK1 K1
    refine R2.sched_done (hQ1.out _ _ ?_)
    clear c0 c1 c2 e2
    have x4 := X3.out.set 2 (.string U)
    obtain ⟨c0, c1, c2⟩ := box_load (a := .int .i64 (a.n : Int)) (b := .string S) (c := .string U) x4
    have y4 := Y3.out.far (p := ⟨w.heap.size, 2, none⟩) (by simp) (.string U)
    obtain ⟨d0, d1, d2⟩ := box_load y4
    have f0 := y4.free 0
    have f1 := y4.free 1
    have f2 := y4.free 2
    have D4 := Lib.hid ((D3.out.put (Nat.le_refl _) 2 (.string U)).puts (Nat.le_succ _) (.int .i64 (a.n : Int)) (.string S) (.string U))
    obtain ⟨q0, q1, q2⟩ := box_load (y4.puts (.int .i64 (a.n : Int)) (.string S) (.string U))
    clear x4 y4
    go_wp2_with fail
    refine bodyPost_ret (v := stV (a.n : Int) S U) ?_ rfl (HB.out _ _ _ _ _ (iok_of (by omega) (by omega)) (.inl rfl) (by omega) (by omega) (by omega) D4.out)
    simp [results, Tryd.results41, go_sem, q0, q1, q2]
  by_cases h3 : m = 3
  · subst h3
    go_wp2_with fail
    refine (Hm1.out _).mono ?_
    rintro e w2 ⟨⟨t, rfl, ht⟩, rfl⟩
    go_wp2_with fail
    refine (Hm2.out _).mono ?_
    rintro e w2 ⟨⟨u, rfl, hu⟩, rfl⟩
    have D2 := Lib.hid (D1.out.puts (Nat.le_succ _) (.int .i64 9) (.string t) (.string u))
    obtain ⟨q0, q1, q2⟩ := box_load (Y1.out.puts (.int .i64 9) (.string t) (.string u))
    go_wp2_with fail
    refine bodyPost_ret (v := stV 9 t u) ?_ rfl (HB.out _ _ _ _ _ (iok_of (by omega) (by omega)) (.inr (.inr (by omega))) (by omega) (by omega) (by omega) D2.out)
    simp [results, Tryd.results41, go_sem, q0, q1, q2]
  have b0 : (m == 0) = false := by simp; omega
  have b1 : (m == 1) = false := by simp; omega
  have b2 : (m == 2) = false := by simp; omega
  have b3 : (m == 3) = false := by simp; omega
  have D2 := Lib.hid (D1.out.puts (Nat.le_succ _) (.int .i64 (a.n : Int)) (.string S) (.string R))
  obtain ⟨q0, q1, q2⟩ := box_load (Y1.out.puts (.int .i64 (a.n : Int)) (.string S) (.string R))
  go_wp2_with fail
  refine bodyPost_ret (v := stV (a.n : Int) S R) ?_ rfl (HB.out _ _ _ _ _ (iok_of (by omega) (by omega)) (.inl rfl) (by omega) (by omega) (by omega) D2.out)
  simp [results, Tryd.results41, go_sem, q0, q1, q2]

end Go.Proofs.YtgnmlijfenjehaaDoor
