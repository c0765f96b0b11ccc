/-
  Draws from bytes: two structures. Condition: at most 2^20 bytes.
-/
import Derived.Test.YtpaoffjicgmleaaDoorDraw8
namespace Go.Proofs.YtpaoffjicgmleaaDoor
open Go.RowKit
open Pl
set_option linter.unusedSimpArgs false
set_option linter.unusedVariables false

attribute [local go_sem ↓] Go.wp_at_zero Go.wp_at_succ

set_option maxHeartbeats 2000000 in
set_option maxRecDepth 100000 in
theorem DrawSameShape_calls (A : Option Addr) (n cap : Nat) (w : World) (h : ByRow w A n) (hn : n ≤ 1048576) (hc : n ≤ cap) (hm : cap ≤ maxLen) :
    Calls Tryd.prog 38 #[.slice A n cap] w fun e w' => (∃ (i : Int) (s r : ByteArray) (j : Int) (t u : ByteArray), e = .returned (.tuple #[stV i s r, stV j t u]) ∧ s.size ≤ 100 ∧ r.size ≤ 100 ∧ t.size ≤ 100 ∧ u.size ≤ 100) ∧ Below w.heap.size w w' := by
  have ho := fun W h => l15Open_calls A n cap W h hn hc hm
  have Ho := Lib.hid ho
  have H0 := Lib.hid ((h.call ((Below.refl w.heap.size w).alloc (Nat.le_refl _) (.cells #[.int .i64 0, .string (bs []), .string (bs [])] 24))).call ((Below.refl (w.alloc (.cells #[.int .i64 0, .string (bs []), .string (bs [])] 24)).heap.size (w.alloc (.cells #[.int .i64 0, .string (bs []), .string (bs [])] 24))).alloc (Nat.le_refl _) (.cells #[.int .i64 0, .string (bs []), .string (bs [])] 24)))
  have hpr := fun (rb n cap : Nat) (A : Option Addr) (W : World) (h : Rd W rb A n cap 0) => l1Pair_calls rb A n cap 0 W h (by omega)
  have hbad0 : ∀ (rb n cap : Nat) (A : Option Addr) (a : St), a.ok → a.n ≤ 5 → ∀ (p : Nat), p ≤ 10000 → ∀ (W : World), Rd W rb A n cap p → Calls Tryd.prog 45 #[.pointer (some ⟨rb, 0, none⟩), stA a] W fun e w' => BadS rb A n cap p (a.n : Int) e w' ∧ W.grownBy w' (some rb) := fun rb n cap A a ha h5 p hp W h => l1Bad_calls rb A n cap p a ha h5 W h (by omega)
  have Hpr := Lib.hid hpr
  have X10 := Lib.hid ((Bx.new w 24 #[.int .i64 0, .string (bs []), .string (bs [])]).alloc (.cells #[.int .i64 0, .string (bs []), .string (bs [])] 24))
  have X20 := Lib.hid (bx_two w (.cells #[.int .i64 0, .string (bs []), .string (bs [])] 24) #[.int .i64 0, .string (bs []), .string (bs [])] (t := 24))
  have B0 := Lib.hid (((Below.refl w.heap.size w).alloc (Nat.le_refl _) (.cells #[.int .i64 0, .string (bs []), .string (bs [])] 24)).alloc (by simp) (.cells #[.int .i64 0, .string (bs []), .string (bs [])] 24))
  have Hbad0 := Lib.hid hbad0
  clear ho hpr hbad0 h hn hc hm
  go_enter Tryd.func38, Tryd.ntmps38
  go_wp2_with fail
  refine (Ho.out _ H0.out).mono ?_
  rintro e w1 ⟨⟨A', n', cap', rfl, hr⟩, hb⟩
  have F1 := Lib.hid (Fr.new (rb := w.heap.size + 2) B0.out hr hb (by simp))
  have X11 := Lib.hid (X10.out.call hb)
  have X21 := Lib.hid (X20.out.call hb)
  have hs1 : w.heap.size + 2 < w1.heap.size := by have := hr.box.lt; simpa using this
  clear hr hb
  go_wp2_with fail
  refine (Hpr.out _ _ _ _ _ F1.out.rd).mono ?_
  rintro e w2 ⟨⟨a, j, t, u, p1, rfl, ha, han, ht, hu, hp1, hrd⟩, hg⟩
  have F2 := Lib.hid (F1.out.step hrd hg)
  have X12 := Lib.hid (X11.out.grown' hg (by simp))
  have X22 := Lib.hid (X21.out.grown' hg (by simp))
  have hs2 : w.heap.size + 2 < w2.heap.size := Nat.lt_of_lt_of_le hs1 hg.size
  have Hbad := Lib.hid (fun (p : Nat) (hp : p ≤ 10000) (W : World) (h : Rd W (w.heap.size + 2) A' n' cap' p) => Hbad0.out _ _ _ _ a ha han p hp W h)
  clear hrd hg ha
  go_upto_region 3 with (fail)
  have F5 := Lib.hid ((F2.out.alloc (.cells #[.int .i64 (a.n : Int), .string (bs a.set), .string (bs a.rel)] 24)).alloc (.cells #[.int .i64 j, .string t, .string u] 24)).drew
  have X15 := Lib.hid ((X12.out.alloc (.cells #[.int .i64 (a.n : Int), .string (bs a.set), .string (bs a.rel)] 24)).alloc (.cells #[.int .i64 j, .string t, .string u] 24)).drew
  have X25 := Lib.hid ((X22.out.alloc (.cells #[.int .i64 (a.n : Int), .string (bs a.set), .string (bs a.rel)] 24)).alloc (.cells #[.int .i64 j, .string t, .string u] 24)).drew
  have XA5 := Lib.hid ((Bx.new w2 24 #[.int .i64 (a.n : Int), .string (bs a.set), .string (bs a.rel)]).alloc (.cells #[.int .i64 j, .string t, .string u] 24)).drew
  have XB5 := Lib.hid (bx_two w2 (.cells #[.int .i64 (a.n : Int), .string (bs a.set), .string (bs a.rel)] 24) #[.int .i64 j, .string t, .string u] (t := 24)).drew
  obtain ⟨m0, m1, m2⟩ := box_load XA5.out
  obtain ⟨y0, y1, y2⟩ := box_load XB5.out
  refine region_sched [(0, true), (1, true), (3, true), (2, false), (4, false), (5, false)] (fun w' : World => w'.cell? ⟨w2.heap.size, 0, none⟩ = some (.int .i64 (a.n : Int)) ∧ w'.cell? ⟨w2.heap.size, 1, none⟩ = some (.string (bs a.set)) ∧ w'.cell? ⟨w2.heap.size, 2, none⟩ = some (.string (bs a.rel)) ∧ w'.cell? ⟨(w2.heap.size + 1), 0, none⟩ = some (.int .i64 j) ∧ w'.cell? ⟨(w2.heap.size + 1), 1, none⟩ = some (.string t) ∧ w'.cell? ⟨(w2.heap.size + 1), 2, none⟩ = some (.string u)) (by kernel_rfl) (by kernel_rfl) (by kernel_rfl) (by kernel_rfl) (fun _ _ _ _ h => h) ?_ (fun Q1 hQ1 => ?_)
  · exact ⟨m0, m1, m2, y0, y1, y2⟩
  try simp only [List.append]
  refine sched_take' (v := ?_) (a' := ?_) rfl (by kernel_rfl) ?_ rfl ?_ ?_
  rotate_left 2
  · intro w hSw
    (try dsimp only at hSw)
    go_simp
    try with_reducible rfl
  · (try simp only [Act.put, List.setIfInBounds_toArray, List.set_cons_zero, List.set_cons_succ])
    try rfl
  refine sched_take' (v := .agg #[.int .i64 (a.n : Int), .string (bs a.set), .string (bs a.rel)]) (a' := ?_) rfl (by kernel_rfl) ?_ rfl ?_ ?_
  rotate_left 1
  · intro w hSw
    (try dsimp only at hSw)
    go_simp
    first | done | (obtain ⟨u0, u1, u2, u3, u4, u5⟩ := hSw; simp [u0, u1, u2])
  · (try simp only [Act.put, List.setIfInBounds_toArray, List.set_cons_zero, List.set_cons_succ])
    try rfl
  refine sched_take' (v := .agg #[.int .i64 j, .string t, .string u]) (a' := ?_) rfl (by kernel_rfl) ?_ rfl ?_ ?_
  rotate_left 1
  · intro w hSw
    (try dsimp only at hSw)
    go_simp
    first | done | (obtain ⟨u0, u1, u2, u3, u4, u5⟩ := hSw; simp [u3, u4, u5])
  · (try simp only [Act.put, List.setIfInBounds_toArray, List.set_cons_zero, List.set_cons_succ])
    try rfl
  refine sched_call rfl (by kernel_rfl) (fun K1 hK1 => ?_)
  go_simp
  refine (Hbad.out p1 (by omega) _ F5.out.rd).mono ?_
  rintro e w6 ⟨⟨i, s, r, p9, rfl, hi, hs, hr, _, hrd, _⟩, hg⟩
  have F6 := Lib.hid (F5.out.step hrd hg)
  have X16 := Lib.hid (X15.out.grown' hg (by first | (simp; done) | (simp; omega)))
  have X26 := Lib.hid (X25.out.grown' hg (by first | (simp; done) | (simp; omega)))
  have XA6 := Lib.hid (XA5.out.grown' hg (by first | (simp; done) | (simp; omega)))
  have XB6 := Lib.hid (XB5.out.grown' hg (by first | (simp; done) | (simp; omega)))
  have HI := Lib.hid hi
  clear hrd hg hi m0 m1 m2 y0 y1 y2
  go_wp2_with fail
  refine hK1.out _ _ ?_ (sched_lay (a' := ?_) ?_ ?_)
  · exact ⟨XA6.out.cell 0, XA6.out.cell 1, XA6.out.cell 2, XB6.out.cell 0, XB6.out.cell 1, XB6.out.cell 2⟩
  rotate_left 1
  · (try simp only [Act.put, List.getElem_toArray, List.getElem_cons_succ, List.getElem_cons_zero, List.setIfInBounds_toArray, List.set_cons_zero, List.set_cons_succ])
    try rfl
  clear hK1 K1
  obtain ⟨c0, c1, c2⟩ := box_load X16.out
  have f0 := X16.out.free 0
  have f1 := X16.out.free 1
  have f2 := X16.out.free 2
  refine sched_call rfl (by kernel_rfl) (fun K1 hK1 => ?_)
  go_simp
  refine hK1.out _ _ ?_ (sched_lay (a' := ?_) ?_ ?_)
  · exact ⟨((((XA6.out.far (p := ⟨w.heap.size, 0, none⟩) (show w2.heap.size ≠ w.heap.size by omega) _).far (p := ⟨w.heap.size, 1, none⟩) (show w2.heap.size ≠ w.heap.size by omega) _).far (p := ⟨w.heap.size, 2, none⟩) (show w2.heap.size ≠ w.heap.size by omega) _)).cell 0, ((((XA6.out.far (p := ⟨w.heap.size, 0, none⟩) (show w2.heap.size ≠ w.heap.size by omega) _).far (p := ⟨w.heap.size, 1, none⟩) (show w2.heap.size ≠ w.heap.size by omega) _).far (p := ⟨w.heap.size, 2, none⟩) (show w2.heap.size ≠ w.heap.size by omega) _)).cell 1, ((((XA6.out.far (p := ⟨w.heap.size, 0, none⟩) (show w2.heap.size ≠ w.heap.size by omega) _).far (p := ⟨w.heap.size, 1, none⟩) (show w2.heap.size ≠ w.heap.size by omega) _).far (p := ⟨w.heap.size, 2, none⟩) (show w2.heap.size ≠ w.heap.size by omega) _)).cell 2, ((((XB6.out.far (p := ⟨w.heap.size, 0, none⟩) (show w2.heap.size + 1 ≠ w.heap.size by omega) _).far (p := ⟨w.heap.size, 1, none⟩) (show w2.heap.size + 1 ≠ w.heap.size by omega) _).far (p := ⟨w.heap.size, 2, none⟩) (show w2.heap.size + 1 ≠ w.heap.size by omega) _)).cell 0, ((((XB6.out.far (p := ⟨w.heap.size, 0, none⟩) (show w2.heap.size + 1 ≠ w.heap.size by omega) _).far (p := ⟨w.heap.size, 1, none⟩) (show w2.heap.size + 1 ≠ w.heap.size by omega) _).far (p := ⟨w.heap.size, 2, none⟩) (show w2.heap.size + 1 ≠ w.heap.size by omega) _)).cell 1, ((((XB6.out.far (p := ⟨w.heap.size, 0, none⟩) (show w2.heap.size + 1 ≠ w.heap.size by omega) _).far (p := ⟨w.heap.size, 1, none⟩) (show w2.heap.size + 1 ≠ w.heap.size by omega) _).far (p := ⟨w.heap.size, 2, none⟩) (show w2.heap.size + 1 ≠ w.heap.size by omega) _)).cell 2⟩
  rotate_left 1
  · (try simp only [Act.put, List.getElem_toArray, List.getElem_cons_succ, List.getElem_cons_zero, List.setIfInBounds_toArray, List.set_cons_zero, List.set_cons_succ])
    try rfl
  clear hK1 K1
  have Y2 := Lib.hid (((X26.out.far (p := ⟨w.heap.size, 0, none⟩) (show w.heap.size + 1 ≠ w.heap.size by omega) (.int .i64 i)).far (p := ⟨w.heap.size, 1, none⟩) (show w.heap.size + 1 ≠ w.heap.size by omega) (.string s)).far (p := ⟨w.heap.size, 2, none⟩) (show w.heap.size + 1 ≠ w.heap.size by omega) (.string r))
  have Y1 := Lib.hid (X16.out.puts (.int .i64 i) (.string s) (.string r))
  have Y3 := Lib.hid (((Y1.out.far (p := ⟨w.heap.size + 1, 0, none⟩) (show w.heap.size ≠ w.heap.size + 1 by omega) (.int .i64 j)).far (p := ⟨w.heap.size + 1, 1, none⟩) (show w.heap.size ≠ w.heap.size + 1 by omega) (.string t)).far (p := ⟨w.heap.size + 1, 2, none⟩) (show w.heap.size ≠ w.heap.size + 1 by omega) (.string u))
  have Y4 := Lib.hid (Y2.out.puts (.int .i64 j) (.string t) (.string u))
  have E1 := Lib.hid (below_puts (below_puts F6.out.bel (Nat.le_refl _) (.int .i64 i) (.string s) (.string r)) (g := w.heap.size + 1) (Nat.le_succ _) (.int .i64 j) (.string t) (.string u))
  clear c0 c1 c2 f0 f1 f2
  obtain ⟨c0, c1, c2⟩ := box_load Y2.out
  have f0 := Y2.out.free 0
  have f1 := Y2.out.free 1
  have f2 := Y2.out.free 2
  refine sched_call rfl (by kernel_rfl) (fun K1 hK1 => ?_)
  go_simp
  refine hK1.out _ _ ?_ (sched_lay (a' := ?_) ?_ ?_)
  · exact ⟨(((((((XA6.out.far (p := ⟨w.heap.size, 0, none⟩) (show w2.heap.size ≠ w.heap.size by omega) _).far (p := ⟨w.heap.size, 1, none⟩) (show w2.heap.size ≠ w.heap.size by omega) _).far (p := ⟨w.heap.size, 2, none⟩) (show w2.heap.size ≠ w.heap.size by omega) _).far (p := ⟨w.heap.size + 1, 0, none⟩) (show w2.heap.size ≠ w.heap.size + 1 by omega) _).far (p := ⟨w.heap.size + 1, 1, none⟩) (show w2.heap.size ≠ w.heap.size + 1 by omega) _).far (p := ⟨w.heap.size + 1, 2, none⟩) (show w2.heap.size ≠ w.heap.size + 1 by omega) _)).cell 0, (((((((XA6.out.far (p := ⟨w.heap.size, 0, none⟩) (show w2.heap.size ≠ w.heap.size by omega) _).far (p := ⟨w.heap.size, 1, none⟩) (show w2.heap.size ≠ w.heap.size by omega) _).far (p := ⟨w.heap.size, 2, none⟩) (show w2.heap.size ≠ w.heap.size by omega) _).far (p := ⟨w.heap.size + 1, 0, none⟩) (show w2.heap.size ≠ w.heap.size + 1 by omega) _).far (p := ⟨w.heap.size + 1, 1, none⟩) (show w2.heap.size ≠ w.heap.size + 1 by omega) _).far (p := ⟨w.heap.size + 1, 2, none⟩) (show w2.heap.size ≠ w.heap.size + 1 by omega) _)).cell 1, (((((((XA6.out.far (p := ⟨w.heap.size, 0, none⟩) (show w2.heap.size ≠ w.heap.size by omega) _).far (p := ⟨w.heap.size, 1, none⟩) (show w2.heap.size ≠ w.heap.size by omega) _).far (p := ⟨w.heap.size, 2, none⟩) (show w2.heap.size ≠ w.heap.size by omega) _).far (p := ⟨w.heap.size + 1, 0, none⟩) (show w2.heap.size ≠ w.heap.size + 1 by omega) _).far (p := ⟨w.heap.size + 1, 1, none⟩) (show w2.heap.size ≠ w.heap.size + 1 by omega) _).far (p := ⟨w.heap.size + 1, 2, none⟩) (show w2.heap.size ≠ w.heap.size + 1 by omega) _)).cell 2, (((((((XB6.out.far (p := ⟨w.heap.size, 0, none⟩) (show w2.heap.size + 1 ≠ w.heap.size by omega) _).far (p := ⟨w.heap.size, 1, none⟩) (show w2.heap.size + 1 ≠ w.heap.size by omega) _).far (p := ⟨w.heap.size, 2, none⟩) (show w2.heap.size + 1 ≠ w.heap.size by omega) _).far (p := ⟨w.heap.size + 1, 0, none⟩) (show w2.heap.size + 1 ≠ w.heap.size + 1 by omega) _).far (p := ⟨w.heap.size + 1, 1, none⟩) (show w2.heap.size + 1 ≠ w.heap.size + 1 by omega) _).far (p := ⟨w.heap.size + 1, 2, none⟩) (show w2.heap.size + 1 ≠ w.heap.size + 1 by omega) _)).cell 0, (((((((XB6.out.far (p := ⟨w.heap.size, 0, none⟩) (show w2.heap.size + 1 ≠ w.heap.size by omega) _).far (p := ⟨w.heap.size, 1, none⟩) (show w2.heap.size + 1 ≠ w.heap.size by omega) _).far (p := ⟨w.heap.size, 2, none⟩) (show w2.heap.size + 1 ≠ w.heap.size by omega) _).far (p := ⟨w.heap.size + 1, 0, none⟩) (show w2.heap.size + 1 ≠ w.heap.size + 1 by omega) _).far (p := ⟨w.heap.size + 1, 1, none⟩) (show w2.heap.size + 1 ≠ w.heap.size + 1 by omega) _).far (p := ⟨w.heap.size + 1, 2, none⟩) (show w2.heap.size + 1 ≠ w.heap.size + 1 by omega) _)).cell 1, (((((((XB6.out.far (p := ⟨w.heap.size, 0, none⟩) (show w2.heap.size + 1 ≠ w.heap.size by omega) _).far (p := ⟨w.heap.size, 1, none⟩) (show w2.heap.size + 1 ≠ w.heap.size by omega) _).far (p := ⟨w.heap.size, 2, none⟩) (show w2.heap.size + 1 ≠ w.heap.size by omega) _).far (p := ⟨w.heap.size + 1, 0, none⟩) (show w2.heap.size + 1 ≠ w.heap.size + 1 by omega) _).far (p := ⟨w.heap.size + 1, 1, none⟩) (show w2.heap.size + 1 ≠ w.heap.size + 1 by omega) _).far (p := ⟨w.heap.size + 1, 2, none⟩) (show w2.heap.size + 1 ≠ w.heap.size + 1 by omega) _)).cell 2⟩
  rotate_left 1
  · (try simp only [Act.put, List.getElem_toArray, List.getElem_cons_succ, List.getElem_cons_zero, List.setIfInBounds_toArray, List.set_cons_zero, List.set_cons_succ])
    try rfl
  clear hK1 K1
  refine sched_done (hQ1.out _ _ ?_)
  clear c0 c1 c2 f0 f1 f2
  obtain ⟨q0, q1, q2⟩ := box_load Y3.out
  obtain ⟨q3, q4, q5⟩ := box_load Y4.out
  go_wp2_with fail
  refine bodyPost_ret (v := .tuple #[stV i s r, stV j t u]) ?_ rfl ⟨⟨i, s, r, j, t, u, rfl, hs, hr, ht, hu⟩, E1.out⟩
  simp [results, Tryd.results38, go_sem, q0, q1, q2, q3, q4, q5]

end Go.Proofs.YtpaoffjicgmleaaDoor
