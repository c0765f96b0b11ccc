/-
  Draws: two structures that are often of the same shape. Condition: at most 2^39 numbers were drawn before.
-/
import Derived.Test.YtpaoffjicgmleaaDoorDraw7
import Derived.Test.YtpaoffjicgmleaaDoorReg2
import Derived.Test.YtpaoffjicgmleaaDoorSPart2
import Derived.Test.YtpaoffjicgmleaaDoorOther
import Derived.Test.YtpaoffjicgmleaaDoorPlLaws
namespace Go.Proofs.YtpaoffjicgmleaaDoor
open Go.RowKit
open Pl
set_option linter.unusedSimpArgs false
set_option linter.unusedVariables false

attribute [local go_sem ↓] Go.wp_at_zero Go.wp_at_succ

theorem ext_sz8 (s : ByteArray) (i j : Nat) : (s.extract i j).size ≤ s.size := by rw [ByteArray.size_extract]; omega

/-- two drawn structures -/
def PairS (rb : Nat) (A : Option Addr) (n cap p : Nat) (e : Ending) (w' : World) : Prop := ∃ (a : St) (j : Int) (t u : ByteArray) (p' : Nat), e = .returned (.tuple #[stA a, stV j t u]) ∧ a.ok ∧ a.n ≤ 5 ∧ t.size ≤ 100 ∧ u.size ≤ 100 ∧ p' ≤ p + 500 ∧ Rd w' rb A n cap p'

set_option maxHeartbeats 8000000 in
set_option maxRecDepth 100000 in
theorem l1Pair_calls (rb : Nat) (A : Option Addr) (n cap p : Nat) (w : World) (h : Rd w rb A n cap p) (hp : p ≤ 500000000000) :
    Calls Tryd.prog 75 #[.pointer (some ⟨rb, 0, none⟩)] w fun e w' => PairS rb A n cap p e w' ∧ w.grownBy w' (some rb) := by
  have hpk : ∀ (k : Int) (q : Nat) (V : World), k ≤ 100 → q ≤ p + 1000 → Rd V rb A n cap q → Calls Tryd.prog 43 #[.pointer (some ⟨rb, 0, none⟩), .int .i64 k] V fun e w' => PickP k e ∧ Rd w' rb A n cap (q + 1) ∧ V.grownBy w' (some rb) := fun k q V hk hq hr => pick_calls rb A n cap q k V hr (by omega) (by omega)
  have hso : ∀ (q : Nat) (V : World), q ≤ p + 1000 → Rd V rb A n cap q → Calls Tryd.prog 41 #[.pointer (some ⟨rb, 0, none⟩)] V fun e w' => SomeS rb A n cap q e w' ∧ V.grownBy w' (some rb) := fun q V hq hr => l1Some_calls rb A n cap q V hr (by omega)
  have hsh0 : ∀ (m q : Nat) (V : World), m ≤ 8 → q ≤ p + 1000 → Rd V rb A n cap q → Calls Tryd.prog 42 #[.pointer (some ⟨rb, 0, none⟩), .int .i64 (m : Nat)] V fun e w' => ShufS V rb A n cap q m e w' ∧ V.grownBy w' (some rb) := fun m q V hm hq hr => l1Shuffle_calls rb A n cap q m V hr (by omega) hm
  have hdr0 : ∀ (m q : Nat) (V : World), 1 ≤ m → m ≤ 5 → q ≤ p + 1000 → Rd V rb A n cap q → Calls Tryd.prog 76 #[.pointer (some ⟨rb, 0, none⟩), .int .i64 (m : Nat)] V fun e w' => DrawS rb A n cap q m e w' ∧ V.grownBy w' (some rb) := fun m q V h1 h5 hq hr => l1Draw_calls rb A n cap q m V hr (by omega) h1 h5
  have hend : ∀ (a : St), a.ok → a.n ≤ 5 → ∀ (j : Int) (t u : ByteArray) (q : Nat) (V : World), t.size ≤ 100 → u.size ≤ 100 → q ≤ p + 500 → Dw w rb A n cap q V → PairS rb A n cap p (.returned (.tuple #[stA a, stV j t u])) V ∧ w.grownBy V (some rb) := fun a h1 h2 j t u q V h3 h4 h5 h6 => ⟨⟨a, j, t, u, q, rfl, h1, h2, h3, h4, h5, h6.rd⟩, h6.gr⟩
  have hrl := h.box.lt
  have D0 := Lib.hid (((Dw.new h).alloc (.cells #[.int .i64 0, .string (bs []), .string (bs [])] 24)).alloc (.cells #[.int .i64 0, .string (bs []), .string (bs [])] 24))
  have X10 := Lib.hid ((Bx.new w 24 #[.int .i64 0, .string (bs []), .string (bs [])]).alloc (.cells #[.int .i64 0, .string (bs []), .string (bs [])] 24))
  have X20 := Lib.hid (bx_two w (.cells #[.int .i64 0, .string (bs []), .string (bs [])] 24) #[.int .i64 0, .string (bs []), .string (bs [])] (t := 24))
  have Hpk := Lib.hid hpk
  have Hso := Lib.hid hso
  clear hpk hso h
  go_enter Tryd.func75, Tryd.ntmps75
  go_wp2_with fail
  refine (Hso.out p _ (by omega) D0.out.rd).mono ?_
  rintro e w1 ⟨⟨a, p1, rfl, ha, han, hp1, hrd⟩, hg⟩
  have hs1 : w.heap.size + 2 ≤ w1.heap.size := by have := hg.size; simpa using this
  have D1 := Lib.hid ((D0.out.step hrd hg).alloc (.cells #[.int .i64 (a.n : Int), .string (bs a.set), .string (bs a.rel)] 24))
  have X11 := Lib.hid ((X10.out.dw hg (by omega)).alloc (.cells #[.int .i64 (a.n : Int), .string (bs a.set), .string (bs a.rel)] 24))
  have X21 := Lib.hid ((X20.out.dw hg (by omega)).alloc (.cells #[.int .i64 (a.n : Int), .string (bs a.set), .string (bs a.rel)] 24))
  have XA1 := Lib.hid (Bx.new w1 24 #[.int .i64 (a.n : Int), .string (bs a.set), .string (bs a.rel)])
  have Hsh := Lib.hid (fun q V => hsh0 a.n q V (by omega))
  have Hdr := Lib.hid (fun q V => hdr0 a.n q V ha.lo han)
  have HEnd := Lib.hid (hend a ha han)
  have Hn1 := Lib.hid ha.lo
  have Ha := Lib.hid ha
  have hsa := st_small ha
  clear hrd hg hsh0 hdr0 hend ha
  go_wp2_with fail
  refine (Hpk.out 4 p1 _ (by omega) (by omega) D1.out.rd).mono ?_
  rintro e w2 ⟨⟨m, rfl, hm0, hm1, _⟩, hrd, hg⟩
  have D2 := Lib.hid (D1.out.step hrd hg)
  have X12 := Lib.hid (X11.out.dw hg (by omega))
  have X22 := Lib.hid (X21.out.dw hg (by omega))
  have XA2 := Lib.hid (XA1.out.dw hg (by omega))
  clear hrd hg
  clear hm1
  by_cases h0 : m = 0
  · subst h0
    obtain ⟨m0, m1, m2⟩ := box_load XA2.out
    go_upto_region 4 with (fail)
    have D5 := Lib.hid D2.out.drew
    have X15 := Lib.hid X12.out.drew
    have X25 := Lib.hid X22.out.drew
    have XA5 := Lib.hid XA2.out.drew
    clear m0 m1 m2
    obtain ⟨m0, m1, m2⟩ := box_load XA5.out
    refine region_sched [(0, true), (1, true), (2, true), (3, true), (4, true), (5, false), (6, false), (7, false), (8, false)] (fun w' : World => w'.cell? ⟨w1.heap.size, 0, none⟩ = some (.int .i64 (a.n : Int)) ∧ w'.cell? ⟨w1.heap.size, 1, none⟩ = some (.string (bs a.set)) ∧ w'.cell? ⟨w1.heap.size, 2, none⟩ = some (.string (bs a.rel))) (by kernel_rfl) (by kernel_rfl) (by kernel_rfl) (by kernel_rfl) (fun _ _ _ _ h => h) ?_ (fun Q1 hQ1 => ?_)
    · exact ⟨m0, m1, m2⟩
    try simp only [List.append]
    refine sched_take' (v := .agg #[.int .i64 (a.n : Int), .string (bs a.set), .string (bs a.rel)]) (a' := ?_) rfl (by kernel_rfl) ?_ rfl ?_ ?_
    rotate_left 1
    · intro w hSw
      (try dsimp only at hSw)
      go_simp
      first | done | (obtain ⟨u0, u1, u2⟩ := hSw; simp [u0, u1, u2])
    · (try simp only [Act.put, List.setIfInBounds_toArray, List.set_cons_zero, List.set_cons_succ])
      try rfl
    refine sched_take' (v := .agg #[.int .i64 (a.n : Int), .string (bs a.set), .string (bs a.rel)]) (a' := ?_) rfl (by kernel_rfl) ?_ rfl ?_ ?_
    rotate_left 1
    · intro w hSw
      (try dsimp only at hSw)
      go_simp
      first | done | (obtain ⟨u0, u1, u2⟩ := hSw; simp [u0, u1, u2])
    · (try simp only [Act.put, List.setIfInBounds_toArray, List.set_cons_zero, List.set_cons_succ])
      try rfl
    refine sched_take' (v := ?_) (a' := ?_) rfl (by kernel_rfl) ?_ rfl ?_ ?_
    rotate_left 2
    · intro w hSw
      (try dsimp only at hSw)
      go_simp
      try with_reducible rfl
    · (try simp only [Act.put, List.setIfInBounds_toArray, List.set_cons_zero, List.set_cons_succ])
      try rfl
    refine sched_take' (v := ?_) (a' := ?_) rfl (by kernel_rfl) ?_ rfl ?_ ?_
    rotate_left 2
    · intro w hSw
      (try dsimp only at hSw)
      go_simp
      try with_reducible rfl
    · (try simp only [Act.put, List.setIfInBounds_toArray, List.set_cons_zero, List.set_cons_succ])
      try rfl
    refine sched_take' (v := ?_) (a' := ?_) rfl (by kernel_rfl) ?_ rfl ?_ ?_
    rotate_left 2
    · intro w hSw
      (try dsimp only at hSw)
      go_simp
      try with_reducible rfl
    · (try simp only [Act.put, List.setIfInBounds_toArray, List.set_cons_zero, List.set_cons_succ])
      try rfl
    refine sched_call rfl (by kernel_rfl) (fun K1 hK1 => ?_)
    go_simp
    refine (Hsh.out (p1 + 1) _ (by omega) D5.out.rd).mono ?_
    rintro e w6 ⟨⟨L, gl, cpl, rfl, hL1, hL2, _, hL3, hrd⟩, hg⟩
    have D6 := Lib.hid (D5.out.step hrd hg)
    have X16 := Lib.hid (X15.out.dw hg (by omega))
    have X26 := Lib.hid (X25.out.dw hg (by omega))
    have XA6 := Lib.hid (XA5.out.dw hg (by omega))
    clear hrd hg
    have hLL := Lib.hid (LRow_of hL3)
    have hL8 : L.length ≤ 8 := by omega
    have HL1 := Lib.hid hL1
    clear hL3 hL1 m0 m1 m2
    obtain ⟨m0, m1, m2⟩ := box_load XA6.out
    go_wp2_with fail
    refine hK1.out _ _ ?_ (sched_lay (a' := ?_) ?_ ?_)
    · exact box_load XA6.out
    rotate_left 1
    · (try simp only [Act.put, List.getElem_toArray, List.getElem_cons_succ, List.getElem_cons_zero, List.setIfInBounds_toArray, List.set_cons_zero, List.set_cons_succ])
      try rfl
    clear hK1 K1
    refine sched_call rfl (by kernel_rfl) (fun K1 hK1 => ?_)
    go_simp
    refine (l1Part_calls a Ha.out L (fun x hx => hL2 x hx) hL8 _ _ _ hLL.out).mono ?_
    rintro e w7 ⟨rfl, hz⟩
    have D7 := Lib.hid (D6.out.call hz)
    have X17 := Lib.hid (X16.out.call hz)
    have X27 := Lib.hid (X26.out.call hz)
    have XA7 := Lib.hid (XA6.out.call hz)
    clear hz
    have hbok : (a.part L).ok := part_ok (by have := Hn1.out; have := HL1.out; omega) hL8
    have hbs := st_small hbok
    clear m0 m1 m2 hL2 hLL
    obtain ⟨m0, m1, m2⟩ := box_load XA7.out
    go_wp2_with fail
    refine hK1.out _ _ ?_ (sched_lay (a' := ?_) ?_ ?_)
    · exact box_load XA7.out
    rotate_left 1
    · (try simp only [Act.put, List.getElem_toArray, List.getElem_cons_succ, List.getElem_cons_zero, List.setIfInBounds_toArray, List.set_cons_zero, List.set_cons_succ])
      try rfl
    clear hK1 K1
    obtain ⟨p0, p1, p2⟩ := box_load X17.out
    have p3 := X17.out.free 0
    have p4 := X17.out.free 1
    have p5 := X17.out.free 2
    refine sched_call rfl (by kernel_rfl) (fun K1 hK1 => ?_)
    go_simp
    refine hK1.out _ _ ?_ (sched_lay (a' := ?_) ?_ ?_)
    · exact box_load (((XA7.out.far (p := ⟨w.heap.size, 0, none⟩) (show w1.heap.size ≠ w.heap.size by omega) _).far (p := ⟨w.heap.size, 1, none⟩) (show w1.heap.size ≠ w.heap.size by omega) _).far (p := ⟨w.heap.size, 2, none⟩) (show w1.heap.size ≠ w.heap.size by omega) _)
    rotate_left 1
    · (try simp only [Act.put, List.getElem_toArray, List.getElem_cons_succ, List.getElem_cons_zero, List.setIfInBounds_toArray, List.set_cons_zero, List.set_cons_succ])
      try rfl
    clear hK1 K1
    have Y1 := Lib.hid (X17.out.puts (.int .i64 (a.n : Int)) (.string (bs a.set)) (.string (bs a.rel)))
    have Y2 := Lib.hid (((X27.out.far (p := ⟨w.heap.size, 0, none⟩) (show w.heap.size + 1 ≠ w.heap.size by omega) (.int .i64 (a.n : Int))).far (p := ⟨w.heap.size, 1, none⟩) (show w.heap.size + 1 ≠ w.heap.size by omega) (.string (bs a.set))).far (p := ⟨w.heap.size, 2, none⟩) (show w.heap.size + 1 ≠ w.heap.size by omega) (.string (bs a.rel)))
    have E1 := Lib.hid ((D7.out.puts (Nat.le_refl _) (.int .i64 (a.n : Int)) (.string (bs a.set)) (.string (bs a.rel))).puts (Nat.le_succ _) (.int .i64 (((a.part L).n : Int))) (.string (bs (a.part L).set)) (.string (bs (a.part L).rel)))
    have Y3 := Lib.hid (((Y1.out.far (p := ⟨w.heap.size + 1, 0, none⟩) (show w.heap.size ≠ w.heap.size + 1 by omega) (.int .i64 (((a.part L).n : Int)))).far (p := ⟨w.heap.size + 1, 1, none⟩) (show w.heap.size ≠ w.heap.size + 1 by omega) (.string (bs (a.part L).set))).far (p := ⟨w.heap.size + 1, 2, none⟩) (show w.heap.size ≠ w.heap.size + 1 by omega) (.string (bs (a.part L).rel)))
    have Y4 := Lib.hid (Y2.out.puts (.int .i64 (((a.part L).n : Int))) (.string (bs (a.part L).set)) (.string (bs (a.part L).rel)))
    clear p0 p1 p2 p3 p4 p5
    obtain ⟨p0, p1, p2⟩ := box_load Y2.out
    have p3 := Y2.out.free 0
    have p4 := Y2.out.free 1
    have p5 := Y2.out.free 2
    refine sched_call rfl (by kernel_rfl) (fun K1 hK1 => ?_)
    go_simp
    refine hK1.out _ _ ?_ (sched_lay (a' := ?_) ?_ ?_)
    · exact box_load ((((((XA7.out.far (p := ⟨w.heap.size, 0, none⟩) (show w1.heap.size ≠ w.heap.size by omega) _).far (p := ⟨w.heap.size, 1, none⟩) (show w1.heap.size ≠ w.heap.size by omega) _).far (p := ⟨w.heap.size, 2, none⟩) (show w1.heap.size ≠ w.heap.size by omega) _).far (p := ⟨w.heap.size + 1, 0, none⟩) (show w1.heap.size ≠ w.heap.size + 1 by omega) _).far (p := ⟨w.heap.size + 1, 1, none⟩) (show w1.heap.size ≠ w.heap.size + 1 by omega) _).far (p := ⟨w.heap.size + 1, 2, none⟩) (show w1.heap.size ≠ w.heap.size + 1 by omega) _)
    rotate_left 1
    · (try simp only [Act.put, List.getElem_toArray, List.getElem_cons_succ, List.getElem_cons_zero, List.setIfInBounds_toArray, List.set_cons_zero, List.set_cons_succ])
      try rfl
    clear hK1 K1
    refine sched_done (hQ1.out _ _ ?_)
    clear m0 m1 m2 p0 p1 p2 p3 p4 p5
    obtain ⟨q0, q1, q2⟩ := box_load Y3.out
    obtain ⟨q3, q4, q5⟩ := box_load Y4.out
    go_wp2_with fail
    refine bodyPost_ret (v := .tuple #[stA a, stV (((a.part L).n : Int)) (bs (a.part L).set) (bs (a.part L).rel)]) ?_ rfl (HEnd.out _ _ _ _ _ (by omega) (by omega) (by omega) E1.out)
    simp [results, Tryd.results75, go_sem, q0, q1, q2, q3, q4, q5]

  by_cases h1 : m = 1
  · subst h1
    obtain ⟨m0, m1, m2⟩ := box_load XA2.out
    go_upto_region 6 with (fail)
    have D5 := Lib.hid D2.out.drew
    have X15 := Lib.hid X12.out.drew
    have X25 := Lib.hid X22.out.drew
    have XA5 := Lib.hid XA2.out.drew
    clear m0 m1 m2
    obtain ⟨m0, m1, m2⟩ := box_load XA5.out
    go_cut [5] (fun v wx => ∃ (b : St) (gb q : Nat), v = .pointer (some ⟨gb, 0, none⟩) ∧ w1.heap.size < gb ∧ b.ok ∧ q ≤ p + 200 ∧ Dw w rb A n cap q wx ∧ Bx wx w.heap.size 24 #[.int .i64 0, .string (bs []), .string (bs [])] ∧ Bx wx (w.heap.size + 1) 24 #[.int .i64 0, .string (bs []), .string (bs [])] ∧ Bx wx w1.heap.size 24 #[.int .i64 (a.n : Int), .string (bs a.set), .string (bs a.rel)] ∧ Bx wx gb 24 #[.int .i64 (b.n : Int), .string (bs b.set), .string (bs b.rel)])
    case first =>
      refine R3.region_tree (.take 0 (.take 1 (.take 2 (.take 3 (.two 4 6 (.two 5 6 (.one 6 (.one 7 .nil)) (.one 5 (.one 7 .nil))) (.one 4 (.one 5 (.one 7 .nil)))))))) (fun w' : World => w'.cell? ⟨w1.heap.size, 0, none⟩ = some (.int .i64 (a.n : Int)) ∧ w'.cell? ⟨w1.heap.size, 1, none⟩ = some (.string (bs a.set)) ∧ w'.cell? ⟨w1.heap.size, 2, none⟩ = some (.string (bs a.rel))) (by kernel_rfl) (by kernel_rfl) (by kernel_rfl) (fun _ _ _ _ h => h) ?_ (fun Q1 hQ1 => ?_)
      · exact ⟨m0, m1, m2⟩
      refine R3.tree_take (v := .agg #[.int .i64 (a.n : Int), .string (bs a.set), .string (bs a.rel)]) (a' := ?_) rfl (by kernel_rfl) ?_ rfl ?_ ?_
      rotate_left 1
      · intro w hSw
        (try dsimp only at hSw)
        go_simp
        first | done | (obtain ⟨u0, u1, u2⟩ := hSw; simp [u0, u1, u2])
      · (try simp only [Act.put, List.setIfInBounds_toArray, List.set_cons_zero, List.set_cons_succ])
        try rfl
      refine R3.tree_take (v := ?_) (a' := ?_) rfl (by kernel_rfl) ?_ rfl ?_ ?_
      rotate_left 2
      · intro w hSw
        (try dsimp only at hSw)
        go_simp
        try with_reducible rfl
      · (try simp only [Act.put, List.setIfInBounds_toArray, List.set_cons_zero, List.set_cons_succ])
        try rfl
      refine R3.tree_take (v := ?_) (a' := ?_) rfl (by kernel_rfl) ?_ rfl ?_ ?_
      rotate_left 2
      · intro w hSw
        (try dsimp only at hSw)
        go_simp
        try with_reducible rfl
      · (try simp only [Act.put, List.setIfInBounds_toArray, List.set_cons_zero, List.set_cons_succ])
        try rfl
      refine R3.tree_take (v := ?_) (a' := ?_) rfl (by kernel_rfl) ?_ rfl ?_ ?_
      rotate_left 2
      · intro w hSw
        (try dsimp only at hSw)
        go_simp
        try with_reducible rfl
      · (try simp only [Act.put, List.setIfInBounds_toArray, List.set_cons_zero, List.set_cons_succ])
        try rfl
      refine R3.tree_two ?_ ?_
      · refine R3.tree_one rfl (by kernel_rfl) (fun K1 hK1 => ?_)
        go_simp
        refine (Hsh.out (p1 + 1) _ (by omega) D5.out.rd).mono ?_
        rintro e w6 ⟨⟨L, gl, cpl, rfl, hL1, hL2, _, hL3, hrd⟩, hg⟩
        have D6 := Lib.hid (D5.out.step hrd hg)
        have X16 := Lib.hid (X15.out.dw hg (by omega))
        have X26 := Lib.hid (X25.out.dw hg (by omega))
        have XA6 := Lib.hid (XA5.out.dw hg (by omega))
        clear hrd hg
        have hLL := Lib.hid (LRow_of hL3)
        have hL8 : L.length ≤ 8 := by omega
        have HL1 := Lib.hid hL1
        clear hL3 hL1 m0 m1 m2
        obtain ⟨m0, m1, m2⟩ := box_load XA6.out
        go_wp2_with fail
        refine hK1.out _ _ ?_ (R3.tree_lay (a' := ?_) ?_ ?_)
        · exact box_load XA6.out
        rotate_left 1
        · (try simp only [Act.put, List.getElem_toArray, List.getElem_cons_succ, List.getElem_cons_zero, List.setIfInBounds_toArray, List.set_cons_zero, List.set_cons_succ])
          try rfl
        clear hK1 K1
        refine R3.tree_two ?_ ?_
        · refine R3.tree_one rfl (by kernel_rfl) (fun K1 hK1 => ?_)
          go_simp
          refine (l1Part_calls a Ha.out L (fun x hx => hL2 x hx) hL8 _ _ _ hLL.out).mono ?_
          rintro e w7 ⟨rfl, hz⟩
          have D7 := Lib.hid (D6.out.call hz)
          have X17 := Lib.hid (X16.out.call hz)
          have X27 := Lib.hid (X26.out.call hz)
          have XA7 := Lib.hid (XA6.out.call hz)
          clear hz
          have hbok : (a.part L).ok := part_ok (by have := Hn1.out; have := HL1.out; omega) hL8
          have hbs := st_small hbok
          clear m0 m1 m2 hL2 hLL
          obtain ⟨m0, m1, m2⟩ := box_load XA7.out
          go_wp2_with fail
          refine hK1.out _ _ ?_ (R3.tree_lay (a' := ?_) ?_ ?_)
          · exact box_load XA7.out
          rotate_left 1
          · (try simp only [Act.put, List.getElem_toArray, List.getElem_cons_succ, List.getElem_cons_zero, List.setIfInBounds_toArray, List.set_cons_zero, List.set_cons_succ])
            try rfl
          clear hK1 K1
          have D8 := Lib.hid (D7.out.alloc (.cells #[.int .i64 0, .string (bs []), .string (bs [])] 24))
          have X18 := Lib.hid (X17.out.alloc (.cells #[.int .i64 0, .string (bs []), .string (bs [])] 24))
          have X28 := Lib.hid (X27.out.alloc (.cells #[.int .i64 0, .string (bs []), .string (bs [])] 24))
          have XA8 := Lib.hid (XA7.out.alloc (.cells #[.int .i64 0, .string (bs []), .string (bs [])] 24))
          have XB8 := Lib.hid (Bx.new w7 24 #[.int .i64 0, .string (bs []), .string (bs [])])
          refine R3.tree_one rfl (by kernel_rfl) (fun K1 hK1 => ?_)
          go_simp
          refine hK1.out _ _ ?_ (R3.tree_lay (a' := ?_) ?_ ?_)
          · exact box_load XA8.out
          rotate_left 1
          · (try simp only [Act.put, List.getElem_toArray, List.getElem_cons_succ, List.getElem_cons_zero, List.setIfInBounds_toArray, List.set_cons_zero, List.set_cons_succ])
            try rfl
          clear hK1 K1
          clear m0 m1 m2
          obtain ⟨m0, m1, m2⟩ := box_load XA8.out
          have hwx := XA7.out.lt
          obtain ⟨y0, y1, y2⟩ := box_load XB8.out
          have z0 := XB8.out.free 0
          have z1 := XB8.out.free 1
          have z2 := XB8.out.free 2
          refine R3.tree_one rfl (by kernel_rfl) (fun K1 hK1 => ?_)
          go_simp
          refine hK1.out _ _ ?_ (R3.tree_lay (a' := ?_) ?_ ?_)
          · exact box_load (XA7.out.alloc (.cells #[.int .i64 (((a.part L).n : Int)), .string (bs (a.part L).set), .string (bs (a.part L).rel)] 24))
          rotate_left 1
          · (try simp only [Act.put, List.getElem_toArray, List.getElem_cons_succ, List.getElem_cons_zero, List.setIfInBounds_toArray, List.set_cons_zero, List.set_cons_succ])
            try rfl
          clear hK1 K1
          refine R3.tree_done (hQ1.out _ _ ?_)
          go_wp2_with fail
          go_meet
          case rel => exact ⟨a.part L, w7.heap.size, p1 + 1 + a.n, rfl, by omega, hbok, by omega, D7.out.alloc (.cells #[.int .i64 (((a.part L).n : Int)), .string (bs (a.part L).set), .string (bs (a.part L).rel)] 24), X17.out.alloc (.cells #[.int .i64 (((a.part L).n : Int)), .string (bs (a.part L).set), .string (bs (a.part L).rel)] 24), X27.out.alloc (.cells #[.int .i64 (((a.part L).n : Int)), .string (bs (a.part L).set), .string (bs (a.part L).rel)] 24), XA7.out.alloc (.cells #[.int .i64 (((a.part L).n : Int)), .string (bs (a.part L).set), .string (bs (a.part L).rel)] 24), Bx.new w7 24 #[.int .i64 (((a.part L).n : Int)), .string (bs (a.part L).set), .string (bs (a.part L).rel)]⟩
        · have D7 := Lib.hid (D6.out.alloc (.cells #[.int .i64 0, .string (bs []), .string (bs [])] 24))
          have X17 := Lib.hid (X16.out.alloc (.cells #[.int .i64 0, .string (bs []), .string (bs [])] 24))
          have X27 := Lib.hid (X26.out.alloc (.cells #[.int .i64 0, .string (bs []), .string (bs [])] 24))
          have XA7 := Lib.hid (XA6.out.alloc (.cells #[.int .i64 0, .string (bs []), .string (bs [])] 24))
          have XB7 := Lib.hid (Bx.new w6 24 #[.int .i64 0, .string (bs []), .string (bs [])])
          have hwx := XA6.out.lt
          refine R3.tree_one rfl (by kernel_rfl) (fun K1 hK1 => ?_)
          go_simp
          refine hK1.out _ _ ?_ (R3.tree_lay (a' := ?_) ?_ ?_)
          · exact box_load XA7.out
          rotate_left 1
          · (try simp only [Act.put, List.getElem_toArray, List.getElem_cons_succ, List.getElem_cons_zero, List.setIfInBounds_toArray, List.set_cons_zero, List.set_cons_succ])
            try rfl
          clear hK1 K1
          clear m0 m1 m2
          obtain ⟨m0, m1, m2⟩ := box_load XA7.out
          have hLL := Lib.hid (hLL.out.alloc (.cells #[.int .i64 0, .string (bs []), .string (bs [])] 24))
          refine R3.tree_one rfl (by kernel_rfl) (fun K1 hK1 => ?_)
          go_simp
          refine (l1Part_calls a Ha.out L (fun x hx => hL2 x hx) hL8 _ _ _ hLL.out).mono ?_
          rintro e w8 ⟨rfl, hz⟩
          have D8 := Lib.hid (D7.out.call hz)
          have X18 := Lib.hid (X17.out.call hz)
          have X28 := Lib.hid (X27.out.call hz)
          have XA8 := Lib.hid (XA7.out.call hz)
          have XB8 := Lib.hid (XB7.out.call hz)
          clear hz
          have hbok : (a.part L).ok := part_ok (by have := Hn1.out; have := HL1.out; omega) hL8
          have hbs := st_small hbok
          clear m0 m1 m2 hL2 hLL
          obtain ⟨m0, m1, m2⟩ := box_load XA8.out
          go_wp2_with fail
          refine hK1.out _ _ ?_ (R3.tree_lay (a' := ?_) ?_ ?_)
          · exact box_load XA8.out
          rotate_left 1
          · (try simp only [Act.put, List.getElem_toArray, List.getElem_cons_succ, List.getElem_cons_zero, List.setIfInBounds_toArray, List.set_cons_zero, List.set_cons_succ])
            try rfl
          clear hK1 K1
          obtain ⟨y0, y1, y2⟩ := box_load XB8.out
          have z0 := XB8.out.free 0
          have z1 := XB8.out.free 1
          have z2 := XB8.out.free 2
          refine R3.tree_one rfl (by kernel_rfl) (fun K1 hK1 => ?_)
          go_simp
          refine hK1.out _ _ ?_ (R3.tree_lay (a' := ?_) ?_ ?_)
          · exact box_load ((((XA8.out.far (p := ⟨w6.heap.size, 0, none⟩) (show w1.heap.size ≠ w6.heap.size by omega) (.int .i64 (((a.part L).n : Int)))).far (p := ⟨w6.heap.size, 1, none⟩) (show w1.heap.size ≠ w6.heap.size by omega) (.string (bs (a.part L).set)))).far (p := ⟨w6.heap.size, 2, none⟩) (show w1.heap.size ≠ w6.heap.size by omega) (.string (bs (a.part L).rel)))
          rotate_left 1
          · (try simp only [Act.put, List.getElem_toArray, List.getElem_cons_succ, List.getElem_cons_zero, List.setIfInBounds_toArray, List.set_cons_zero, List.set_cons_succ])
            try rfl
          clear hK1 K1
          refine R3.tree_done (hQ1.out _ _ ?_)
          go_wp2_with fail
          go_meet
          case rel => exact ⟨a.part L, w6.heap.size, p1 + 1 + a.n, rfl, by omega, hbok, by omega, D8.out.puts (by omega) (.int .i64 (((a.part L).n : Int))) (.string (bs (a.part L).set)) (.string (bs (a.part L).rel)), ((((X18.out.far (p := ⟨w6.heap.size, 0, none⟩) (show w.heap.size ≠ w6.heap.size by omega) (.int .i64 (((a.part L).n : Int)))).far (p := ⟨w6.heap.size, 1, none⟩) (show w.heap.size ≠ w6.heap.size by omega) (.string (bs (a.part L).set)))).far (p := ⟨w6.heap.size, 2, none⟩) (show w.heap.size ≠ w6.heap.size by omega) (.string (bs (a.part L).rel))), ((((X28.out.far (p := ⟨w6.heap.size, 0, none⟩) (show w.heap.size + 1 ≠ w6.heap.size by omega) (.int .i64 (((a.part L).n : Int)))).far (p := ⟨w6.heap.size, 1, none⟩) (show w.heap.size + 1 ≠ w6.heap.size by omega) (.string (bs (a.part L).set)))).far (p := ⟨w6.heap.size, 2, none⟩) (show w.heap.size + 1 ≠ w6.heap.size by omega) (.string (bs (a.part L).rel))), ((((XA8.out.far (p := ⟨w6.heap.size, 0, none⟩) (show w1.heap.size ≠ w6.heap.size by omega) (.int .i64 (((a.part L).n : Int)))).far (p := ⟨w6.heap.size, 1, none⟩) (show w1.heap.size ≠ w6.heap.size by omega) (.string (bs (a.part L).set)))).far (p := ⟨w6.heap.size, 2, none⟩) (show w1.heap.size ≠ w6.heap.size by omega) (.string (bs (a.part L).rel))), XB8.out.puts (.int .i64 (((a.part L).n : Int))) (.string (bs (a.part L).set)) (.string (bs (a.part L).rel))⟩
      · have hwx := XA5.out.lt
        have hwy : w2.drew.heap.size = w2.heap.size := rfl
        have D6 := Lib.hid (D5.out.alloc (.cells #[.int .i64 0, .string (bs []), .string (bs [])] 24))
        have X16 := Lib.hid (X15.out.alloc (.cells #[.int .i64 0, .string (bs []), .string (bs [])] 24))
        have X26 := Lib.hid (X25.out.alloc (.cells #[.int .i64 0, .string (bs []), .string (bs [])] 24))
        have XA6 := Lib.hid (XA5.out.alloc (.cells #[.int .i64 0, .string (bs []), .string (bs [])] 24))
        have XB6 := Lib.hid (show Bx (w2.drew.alloc (.cells #[.int .i64 0, .string (bs []), .string (bs [])] 24)) w2.heap.size 24 #[.int .i64 0, .string (bs []), .string (bs [])] from Bx.new w2.drew 24 #[.int .i64 0, .string (bs []), .string (bs [])])
        refine R3.tree_one rfl (by kernel_rfl) (fun K1 hK1 => ?_)
        go_simp
        refine hK1.out _ _ ?_ (R3.tree_lay (a' := ?_) ?_ ?_)
        · exact box_load XA6.out
        rotate_left 1
        · (try simp only [Act.put, List.getElem_toArray, List.getElem_cons_succ, List.getElem_cons_zero, List.setIfInBounds_toArray, List.set_cons_zero, List.set_cons_succ])
          try rfl
        clear hK1 K1
        clear m0 m1 m2
        obtain ⟨m0, m1, m2⟩ := box_load XA6.out
        refine R3.tree_one rfl (by kernel_rfl) (fun K1 hK1 => ?_)
        go_simp
        refine (Hsh.out (p1 + 1) _ (by omega) D6.out.rd).mono ?_
        rintro e w7 ⟨⟨L, gl, cpl, rfl, hL1, hL2, _, hL3, hrd⟩, hg⟩
        have D7 := Lib.hid (D6.out.step hrd hg)
        have X17 := Lib.hid (X16.out.dw hg (by omega))
        have X27 := Lib.hid (X26.out.dw hg (by omega))
        have XA7 := Lib.hid (XA6.out.dw hg (by omega))
        have XB7 := Lib.hid (XB6.out.dw hg (by omega))
        clear hrd hg
        have hLL := Lib.hid (LRow_of hL3)
        have hL8 : L.length ≤ 8 := by omega
        have HL1 := Lib.hid hL1
        clear hL3 hL1 m0 m1 m2
        obtain ⟨m0, m1, m2⟩ := box_load XA7.out
        go_wp2_with fail
        refine hK1.out _ _ ?_ (R3.tree_lay (a' := ?_) ?_ ?_)
        · exact box_load XA7.out
        rotate_left 1
        · (try simp only [Act.put, List.getElem_toArray, List.getElem_cons_succ, List.getElem_cons_zero, List.setIfInBounds_toArray, List.set_cons_zero, List.set_cons_succ])
          try rfl
        clear hK1 K1
        refine R3.tree_one rfl (by kernel_rfl) (fun K1 hK1 => ?_)
        go_simp
        refine (l1Part_calls a Ha.out L (fun x hx => hL2 x hx) hL8 _ _ _ hLL.out).mono ?_
        rintro e w8 ⟨rfl, hz⟩
        have D8 := Lib.hid (D7.out.call hz)
        have X18 := Lib.hid (X17.out.call hz)
        have X28 := Lib.hid (X27.out.call hz)
        have XA8 := Lib.hid (XA7.out.call hz)
        have XB8 := Lib.hid (XB7.out.call hz)
        clear hz
        have hbok : (a.part L).ok := part_ok (by have := Hn1.out; have := HL1.out; omega) hL8
        have hbs := st_small hbok
        clear m0 m1 m2 hL2 hLL
        obtain ⟨m0, m1, m2⟩ := box_load XA8.out
        go_wp2_with fail
        refine hK1.out _ _ ?_ (R3.tree_lay (a' := ?_) ?_ ?_)
        · exact box_load XA8.out
        rotate_left 1
        · (try simp only [Act.put, List.getElem_toArray, List.getElem_cons_succ, List.getElem_cons_zero, List.setIfInBounds_toArray, List.set_cons_zero, List.set_cons_succ])
          try rfl
        clear hK1 K1
        obtain ⟨y0, y1, y2⟩ := box_load XB8.out
        have z0 := XB8.out.free 0
        have z1 := XB8.out.free 1
        have z2 := XB8.out.free 2
        refine R3.tree_one rfl (by kernel_rfl) (fun K1 hK1 => ?_)
        go_simp
        refine hK1.out _ _ ?_ (R3.tree_lay (a' := ?_) ?_ ?_)
        · exact box_load ((((XA8.out.far (p := ⟨w2.heap.size, 0, none⟩) (show w1.heap.size ≠ w2.heap.size by omega) (.int .i64 (((a.part L).n : Int)))).far (p := ⟨w2.heap.size, 1, none⟩) (show w1.heap.size ≠ w2.heap.size by omega) (.string (bs (a.part L).set)))).far (p := ⟨w2.heap.size, 2, none⟩) (show w1.heap.size ≠ w2.heap.size by omega) (.string (bs (a.part L).rel)))
        rotate_left 1
        · (try simp only [Act.put, List.getElem_toArray, List.getElem_cons_succ, List.getElem_cons_zero, List.setIfInBounds_toArray, List.set_cons_zero, List.set_cons_succ])
          try rfl
        clear hK1 K1
        refine R3.tree_done (hQ1.out _ _ ?_)
        go_wp2_with fail
        go_meet
        case rel => exact ⟨a.part L, w2.heap.size, p1 + 1 + a.n, rfl, by omega, hbok, by omega, D8.out.puts (by omega) (.int .i64 (((a.part L).n : Int))) (.string (bs (a.part L).set)) (.string (bs (a.part L).rel)), ((((X18.out.far (p := ⟨w2.heap.size, 0, none⟩) (show w.heap.size ≠ w2.heap.size by omega) (.int .i64 (((a.part L).n : Int)))).far (p := ⟨w2.heap.size, 1, none⟩) (show w.heap.size ≠ w2.heap.size by omega) (.string (bs (a.part L).set)))).far (p := ⟨w2.heap.size, 2, none⟩) (show w.heap.size ≠ w2.heap.size by omega) (.string (bs (a.part L).rel))), ((((X28.out.far (p := ⟨w2.heap.size, 0, none⟩) (show w.heap.size + 1 ≠ w2.heap.size by omega) (.int .i64 (((a.part L).n : Int)))).far (p := ⟨w2.heap.size, 1, none⟩) (show w.heap.size + 1 ≠ w2.heap.size by omega) (.string (bs (a.part L).set)))).far (p := ⟨w2.heap.size, 2, none⟩) (show w.heap.size + 1 ≠ w2.heap.size by omega) (.string (bs (a.part L).rel))), ((((XA8.out.far (p := ⟨w2.heap.size, 0, none⟩) (show w1.heap.size ≠ w2.heap.size by omega) (.int .i64 (((a.part L).n : Int)))).far (p := ⟨w2.heap.size, 1, none⟩) (show w1.heap.size ≠ w2.heap.size by omega) (.string (bs (a.part L).set)))).far (p := ⟨w2.heap.size, 2, none⟩) (show w1.heap.size ≠ w2.heap.size by omega) (.string (bs (a.part L).rel))), XB8.out.puts (.int .i64 (((a.part L).n : Int))) (.string (bs (a.part L).set)) (.string (bs (a.part L).rel))⟩
    case rest =>
      clear m0 m1 m2 D5 X15 X25 XA5
      obtain ⟨b, gb, q, rfl, hgb, hbok, hq, hd, hx1, hx2, hxa, hxb⟩ := hcut
      have D3 := Lib.hid hd
      have X13 := Lib.hid hx1
      have X23 := Lib.hid hx2
      have XA3 := Lib.hid hxa
      have XB3 := Lib.hid hxb
      clear hd hx1 hx2 hxa hxb
      obtain ⟨S, hS⟩ : ∃ S, S = bs b.set := ⟨_, rfl⟩
      obtain ⟨R, hR⟩ : ∃ R, R = bs b.rel := ⟨_, rfl⟩
      obtain ⟨J, hJ⟩ : ∃ J : Int, J = (b.n : Int) := ⟨_, rfl⟩
      have hbs := st_small hbok
      have hR0 : 0 < (bs b.rel).size := by
        have h2 := hbok.rl; have h3 := hbok.lo
        have h5 : 1 * 1 ≤ b.n * b.n := Nat.mul_le_mul h3 h3
        rw [bs_size]; omega
      have hfl : ∀ (i j : Nat) (W : World), Calls Tryd.prog 58 #[.string (R.extract i j)] W fun e w' => (∃ t : ByteArray, e = .returned (.string t) ∧ t.size ≤ j - i) ∧ Below W.heap.size W w' := fun i j W => by
        have hz : (R.extract i j).size ≤ 64 := by
          have := ext_sz8 R i j
          rw [hR] at this ⊢
          omega
        refine (l1Flip_calls (R.extract i j) W hz (fun b' hb' => ?_)).mono fun e w' ⟨he, hb⟩ => ⟨⟨_, he, ?_⟩, hb⟩
        · rw [hR, Lib.extract_data] at hb'
          exact hbok.rb b' (by
            have := List.mem_of_mem_take hb'
            have := List.mem_of_mem_drop this
            rwa [bs_data] at this)
        · rw [bs_size]
          unfold flipL
          rw [List.length_map, ← Lib.size_eq, ByteArray.size_extract]
          omega
      rw [← hS, ← hR] at hbs
      rw [← hR] at hR0
      rw [← hS, ← hR, ← hJ] at XB3
      obtain ⟨hbs1, hbs2⟩ := hbs
      have Hfl := Lib.hid hfl
      clear hfl hS hR hJ hbok
      obtain ⟨y0, y1, y2⟩ := box_load XB3.out
      go_wp2_with fail
      refine (Hpk.out (R.size : Nat) q _ (by omega) (by omega) D3.out.rd).mono ?_
      rintro e w4 ⟨⟨k', rfl, hk0, hk1, _⟩, hrd, hg⟩
      have hk2 := hk1 (by omega)
      obtain ⟨k, rfl⟩ : ∃ k : Nat, k' = k := ⟨k'.toNat, by omega⟩
      have hkR : k < R.size := by omega
      have hki : (k : Int) + 1 ≤ (R.size : Int) := by omega
      have hki0 : (0 : Int) ≤ (k : Int) := by omega
      have hki1 : (k : Int) ≤ (R.size : Int) := by omega
      have hki2 : (0 : Int) ≤ (k : Int) + 1 := by omega
      have hki3 : (k : Int) ≤ (k : Int) + 1 := by omega
      have hRi : (R.size : Int) ≤ 64 := by omega
      clear y0 y1 y2 hk1
      have D4 := Lib.hid (D3.out.step hrd hg)
      have X14 := Lib.hid (X13.out.dw hg (by omega))
      have X24 := Lib.hid (X23.out.dw hg (by omega))
      have XA4 := Lib.hid (XA3.out.dw hg (by omega))
      have XB4 := Lib.hid (XB3.out.dw hg (by omega))
      clear hrd hg
      obtain ⟨y0, y1, y2⟩ := box_load XB4.out
      go_upto_region 8 with (fail)
      have D4 := Lib.hid D4.out.drew
      have X14 := Lib.hid X14.out.drew
      have X24 := Lib.hid X24.out.drew
      have XA4 := Lib.hid XA4.out.drew
      have XB4 := Lib.hid XB4.out.drew
      clear y0 y1 y2
      have y2 := XB4.out.cell 2
      refine R2.region_sched [(0, true), (1, true), (2, true), (3, true), (4, true), (5, true), (6, true), (7, true), (8, true), (9, true), (12, true), (13, true), (14, true), (15, true), (16, true), (10, false), (11, true), (17, true), (18, true), (19, false)] 19 (fun w' : World => w'.cell? ⟨gb, 2, none⟩ = some (.string R)) (by kernel_rfl) (by kernel_rfl) (by kernel_rfl) (by kernel_rfl) (by kernel_rfl) (fun _ _ _ _ h => h) ?_ (fun Q1 hQ1 => ?_)
      · exact y2
      try simp only [List.append]
      refine R2.sched_take' (v := ?_) (a' := ?_) rfl (by kernel_rfl) ?_ rfl ?_ ?_
      rotate_left 2
      · intro w hSw
        (try dsimp only at hSw)
        go_simp
        try with_reducible rfl
      · (try simp only [Act.put, List.setIfInBounds_toArray, List.set_cons_zero, List.set_cons_succ])
        try rfl
      refine R2.sched_take' (v := ?_) (a' := ?_) rfl (by kernel_rfl) ?_ rfl ?_ ?_
      rotate_left 2
      · intro w hSw
        (try dsimp only at hSw)
        go_simp
        try with_reducible rfl
      · (try simp only [Act.put, List.setIfInBounds_toArray, List.set_cons_zero, List.set_cons_succ])
        try rfl
      refine R2.sched_take' (v := ?_) (a' := ?_) rfl (by kernel_rfl) ?_ rfl ?_ ?_
      rotate_left 2
      · intro w hSw
        (try dsimp only at hSw)
        go_simp
        try with_reducible rfl
      · (try simp only [Act.put, List.setIfInBounds_toArray, List.set_cons_zero, List.set_cons_succ])
        try rfl
      refine R2.sched_take' (v := ?_) (a' := ?_) rfl (by kernel_rfl) ?_ rfl ?_ ?_
      rotate_left 2
      · intro w hSw
        (try dsimp only at hSw)
        go_simp
        try with_reducible rfl
      · (try simp only [Act.put, List.setIfInBounds_toArray, List.set_cons_zero, List.set_cons_succ])
        try rfl
      refine R2.sched_take' (v := ?_) (a' := ?_) rfl (by kernel_rfl) ?_ rfl ?_ ?_
      rotate_left 2
      · intro w hSw
        (try dsimp only at hSw)
        go_simp
        try with_reducible rfl
      · (try simp only [Act.put, List.setIfInBounds_toArray, List.set_cons_zero, List.set_cons_succ])
        try rfl
      refine R2.sched_take' (v := ?_) (a' := ?_) rfl (by kernel_rfl) ?_ rfl ?_ ?_
      rotate_left 2
      · intro w hSw
        (try dsimp only at hSw)
        go_simp
        try with_reducible rfl
      · (try simp only [Act.put, List.setIfInBounds_toArray, List.set_cons_zero, List.set_cons_succ])
        try rfl
      refine R2.sched_take' (v := ?_) (a' := ?_) rfl (by kernel_rfl) ?_ rfl ?_ ?_
      rotate_left 2
      · intro w hSw
        (try dsimp only at hSw)
        go_simp
        try with_reducible rfl
      · (try simp only [Act.put, List.setIfInBounds_toArray, List.set_cons_zero, List.set_cons_succ])
        try rfl
      refine R2.sched_take' (v := ?_) (a' := ?_) rfl (by kernel_rfl) ?_ rfl ?_ ?_
      rotate_left 2
      · intro w hSw
        (try dsimp only at hSw)
        go_simp
        try with_reducible rfl
      · (try simp only [Act.put, List.setIfInBounds_toArray, List.set_cons_zero, List.set_cons_succ])
        try rfl
      refine R2.sched_take' (v := .int .i64 ((k : Int) + 1)) (a' := ?_) rfl (by kernel_rfl) ?_ rfl ?_ ?_
      rotate_left 1
      · intro w hSw
        (try dsimp only at hSw)
        go_simp
        first | done | exact IntWalk.i64_in _ (by omega) | (rw [IntWalk.i64_in _ (by omega)])
      · (try simp only [Act.put, List.setIfInBounds_toArray, List.set_cons_zero, List.set_cons_succ])
        try rfl
      refine R2.sched_take' (v := ?_) (a' := ?_) rfl (by kernel_rfl) ?_ rfl ?_ ?_
      rotate_left 2
      · intro w hSw
        (try dsimp only at hSw)
        go_simp
        try with_reducible rfl
      · (try simp only [Act.put, List.setIfInBounds_toArray, List.set_cons_zero, List.set_cons_succ])
        try rfl
      refine R2.sched_take' (v := ?_) (a' := ?_) rfl (by kernel_rfl) ?_ rfl ?_ ?_
      rotate_left 2
      · intro w hSw
        (try dsimp only at hSw)
        go_simp
        try with_reducible rfl
      · (try simp only [Act.put, List.setIfInBounds_toArray, List.set_cons_zero, List.set_cons_succ])
        try rfl
      refine R2.sched_take' (v := ?_) (a' := ?_) rfl (by kernel_rfl) ?_ rfl ?_ ?_
      rotate_left 2
      · intro w hSw
        (try dsimp only at hSw)
        go_simp
        try with_reducible rfl
      · (try simp only [Act.put, List.setIfInBounds_toArray, List.set_cons_zero, List.set_cons_succ])
        try rfl
      refine R2.sched_take' (v := ?_) (a' := ?_) rfl (by kernel_rfl) ?_ rfl ?_ ?_
      rotate_left 2
      · intro w hSw
        (try dsimp only at hSw)
        go_simp
        try with_reducible rfl
      · (try simp only [Act.put, List.setIfInBounds_toArray, List.set_cons_zero, List.set_cons_succ])
        try rfl
      refine R2.sched_take' (v := .int .i64 ((k : Int) + 1)) (a' := ?_) rfl (by kernel_rfl) ?_ rfl ?_ ?_
      rotate_left 1
      · intro w hSw
        (try dsimp only at hSw)
        go_simp
        first | done | exact IntWalk.i64_in _ (by omega) | (rw [IntWalk.i64_in _ (by omega)])
      · (try simp only [Act.put, List.setIfInBounds_toArray, List.set_cons_zero, List.set_cons_succ])
        try rfl
      refine R2.sched_take' (v := ?_) (a' := ?_) rfl (by kernel_rfl) ?_ rfl ?_ ?_
      rotate_left 2
      · intro w hSw
        (try dsimp only at hSw)
        go_simp
        try with_reducible rfl
      · (try simp only [Act.put, List.setIfInBounds_toArray, List.set_cons_zero, List.set_cons_succ])
        try rfl
      refine R2.sched_call rfl (by kernel_rfl) (fun K1 hK1 => ?_)
      go_simp
      refine (Hfl.out _ _ _).mono ?_
      rintro e w5 ⟨⟨tt, rfl, htt⟩, hz⟩
      have D5 := Lib.hid (D4.out.call hz)
      have X15 := Lib.hid (X14.out.call hz)
      have X25 := Lib.hid (X24.out.call hz)
      have XA5 := Lib.hid (XA4.out.call hz)
      have XB5 := Lib.hid (XB4.out.call hz)
      clear hz y2
      go_wp2_with fail
      refine hK1.out _ _ ?_ (R2.sched_lay (a' := ?_) ?_ ?_)
      · exact XB5.out.cell 2
      rotate_left 1
      · (try simp only [Act.put, List.getElem_toArray, List.getElem_cons_succ, List.getElem_cons_zero, List.setIfInBounds_toArray, List.set_cons_zero, List.set_cons_succ])
        try rfl
      clear hK1 K1
      refine R2.sched_take' (v := ?_) (a' := ?_) rfl (by kernel_rfl) ?_ rfl ?_ ?_
      rotate_left 2
      · intro w hSw
        (try dsimp only at hSw)
        go_simp
        first | (with_reducible rfl) | (rw [if_neg (by omega)])
      · (try simp only [Act.put, List.setIfInBounds_toArray, List.set_cons_zero, List.set_cons_succ])
        try rfl
      have hv1 : (R.extract 0 k ++ tt).size + (R.extract (k + 1) R.size).size ≤ 70 := by
        rw [ByteArray.size_append, ByteArray.size_extract, ByteArray.size_extract]; omega
      generalize R.extract 0 k ++ tt = V1 at *
      generalize R.extract (k + 1) R.size = V2 at *
      refine R2.sched_take' (v := .string (V1 ++ V2)) (a' := ?_) rfl (by kernel_rfl) ?_ rfl ?_ ?_
      rotate_left 1
      · intro w hSw
        (try dsimp only at hSw)
        go_simp
        first | done | omega | (rw [if_neg (by omega)])
      · (try simp only [Act.put, List.setIfInBounds_toArray, List.set_cons_zero, List.set_cons_succ])
        try rfl
      refine R2.sched_take' (v := ?_) (a' := ?_) rfl (by kernel_rfl) ?_ rfl ?_ ?_
      rotate_left 2
      · intro w hSw
        (try dsimp only at hSw)
        go_simp
        try with_reducible rfl
      · (try simp only [Act.put, List.setIfInBounds_toArray, List.set_cons_zero, List.set_cons_succ])
        try rfl
      have hU : (V1 ++ V2).size ≤ 70 := by rw [ByteArray.size_append]; exact hv1
      generalize V1 ++ V2 = U at *
      have y2 := XB5.out.cell 2
      have z2 := XB5.out.free 2
      refine R2.sched_last rfl (by kernel_rfl) (fun K1 hK1 => ?_)
      go_simp
      refine hK1.out _ _ (R2.sched_lay (a' := ?_) ?_ ?_)
      rotate_left 1
      · (try simp only [Act.put, List.getElem_toArray, List.getElem_cons_succ, List.getElem_cons_zero, List.setIfInBounds_toArray, List.set_cons_zero, List.set_cons_succ])
        try rfl
      clear hK1 K1
      refine R2.sched_done (hQ1.out _ _ ?_)
      have hwx := XA5.out.lt
      have D6 := Lib.hid (D5.out.put (g := gb) (by omega) 2 (.string U))
      have X16 := Lib.hid (X15.out.far (p := ⟨gb, 2, none⟩) (show w.heap.size ≠ gb by omega) (.string U))
      have X26 := Lib.hid (X25.out.far (p := ⟨gb, 2, none⟩) (show w.heap.size + 1 ≠ gb by omega) (.string U))
      have XA6 := Lib.hid (XA5.out.far (p := ⟨gb, 2, none⟩) (show w1.heap.size ≠ gb by omega) (.string U))
      have XB6 := Lib.hid (show Bx (w5.setCell ⟨gb, 2, none⟩ (.string U)) gb 24 #[.int .i64 J, .string S, .string U] from XB5.out.set 2 (.string U))
      generalize w5.setCell ⟨gb, 2, none⟩ (.string U) = w6 at *
      obtain ⟨m0, m1, m2⟩ := box_load XA6.out
      clear y2 z2
      obtain ⟨y0, y1, y2⟩ := box_load XB6.out
      go_upto_region 9 with (fail)
      have D7 := Lib.hid D6.out.drew
      have X17 := Lib.hid X16.out.drew
      have X27 := Lib.hid X26.out.drew
      have XA7 := Lib.hid XA6.out.drew
      have XB7 := Lib.hid XB6.out.drew
      clear m0 m1 m2 y0 y1 y2
      obtain ⟨m0, m1, m2⟩ := box_load XA7.out
      obtain ⟨y0, y1, y2⟩ := box_load XB7.out
      refine region_sched [(0, true), (1, true), (2, false), (3, false)] (fun w' : World => w'.cell? ⟨w1.heap.size, 0, none⟩ = some (.int .i64 (a.n : Int)) ∧ w'.cell? ⟨w1.heap.size, 1, none⟩ = some (.string (bs a.set)) ∧ w'.cell? ⟨w1.heap.size, 2, none⟩ = some (.string (bs a.rel)) ∧ w'.cell? ⟨gb, 0, none⟩ = some (.int .i64 J) ∧ w'.cell? ⟨gb, 1, none⟩ = some (.string S) ∧ w'.cell? ⟨gb, 2, none⟩ = some (.string U)) (by kernel_rfl) (by kernel_rfl) (by kernel_rfl) (by kernel_rfl) (fun _ _ _ _ h => h) ?_ (fun Q1 hQ1 => ?_)
      · exact ⟨m0, m1, m2, y0, y1, y2⟩
      try simp only [List.append]
      generalize w6.drew = w7 at *
      refine sched_take' (v := .agg #[.int .i64 (a.n : Int), .string (bs a.set), .string (bs a.rel)]) (a' := ?_) rfl (by kernel_rfl) ?_ rfl ?_ ?_
      rotate_left 1
      · intro w hSw
        (try dsimp only at hSw)
        go_simp
        first | done | (obtain ⟨u0, u1, u2, u3, u4, u5⟩ := hSw; simp [u0, u1, u2])
      · (try simp only [Act.put, List.setIfInBounds_toArray, List.set_cons_zero, List.set_cons_succ])
        try rfl
      refine sched_take' (v := .agg #[.int .i64 J, .string S, .string U]) (a' := ?_) rfl (by kernel_rfl) ?_ rfl ?_ ?_
      rotate_left 1
      · intro w hSw
        (try dsimp only at hSw)
        go_simp
        first | done | (obtain ⟨u0, u1, u2, u3, u4, u5⟩ := hSw; simp [u3, u4, u5])
      · (try simp only [Act.put, List.setIfInBounds_toArray, List.set_cons_zero, List.set_cons_succ])
        try rfl
      obtain ⟨p0, p1, p2⟩ := box_load X17.out
      have p3 := X17.out.free 0
      have p4 := X17.out.free 1
      have p5 := X17.out.free 2
      refine sched_call rfl (by kernel_rfl) (fun K1 hK1 => ?_)
      go_simp
      refine hK1.out _ _ ?_ (sched_lay (a' := ?_) ?_ ?_)
      · exact ⟨((((XA7.out.far (p := ⟨w.heap.size, 0, none⟩) (show w1.heap.size ≠ w.heap.size by omega) _).far (p := ⟨w.heap.size, 1, none⟩) (show w1.heap.size ≠ w.heap.size by omega) _).far (p := ⟨w.heap.size, 2, none⟩) (show w1.heap.size ≠ w.heap.size by omega) _)).cell 0, ((((XA7.out.far (p := ⟨w.heap.size, 0, none⟩) (show w1.heap.size ≠ w.heap.size by omega) _).far (p := ⟨w.heap.size, 1, none⟩) (show w1.heap.size ≠ w.heap.size by omega) _).far (p := ⟨w.heap.size, 2, none⟩) (show w1.heap.size ≠ w.heap.size by omega) _)).cell 1, ((((XA7.out.far (p := ⟨w.heap.size, 0, none⟩) (show w1.heap.size ≠ w.heap.size by omega) _).far (p := ⟨w.heap.size, 1, none⟩) (show w1.heap.size ≠ w.heap.size by omega) _).far (p := ⟨w.heap.size, 2, none⟩) (show w1.heap.size ≠ w.heap.size by omega) _)).cell 2, ((((XB7.out.far (p := ⟨w.heap.size, 0, none⟩) (show gb ≠ w.heap.size by omega) _).far (p := ⟨w.heap.size, 1, none⟩) (show gb ≠ w.heap.size by omega) _).far (p := ⟨w.heap.size, 2, none⟩) (show gb ≠ w.heap.size by omega) _)).cell 0, ((((XB7.out.far (p := ⟨w.heap.size, 0, none⟩) (show gb ≠ w.heap.size by omega) _).far (p := ⟨w.heap.size, 1, none⟩) (show gb ≠ w.heap.size by omega) _).far (p := ⟨w.heap.size, 2, none⟩) (show gb ≠ w.heap.size by omega) _)).cell 1, ((((XB7.out.far (p := ⟨w.heap.size, 0, none⟩) (show gb ≠ w.heap.size by omega) _).far (p := ⟨w.heap.size, 1, none⟩) (show gb ≠ w.heap.size by omega) _).far (p := ⟨w.heap.size, 2, none⟩) (show gb ≠ w.heap.size by omega) _)).cell 2⟩
      rotate_left 1
      · (try simp only [Act.put, List.getElem_toArray, List.getElem_cons_succ, List.getElem_cons_zero, List.setIfInBounds_toArray, List.set_cons_zero, List.set_cons_succ])
        try rfl
      clear hK1 K1
      have Y1 := Lib.hid (X17.out.puts (.int .i64 (a.n : Int)) (.string (bs a.set)) (.string (bs a.rel)))
      have Y2 := Lib.hid (((X27.out.far (p := ⟨w.heap.size, 0, none⟩) (show w.heap.size + 1 ≠ w.heap.size by omega) (.int .i64 (a.n : Int))).far (p := ⟨w.heap.size, 1, none⟩) (show w.heap.size + 1 ≠ w.heap.size by omega) (.string (bs a.set))).far (p := ⟨w.heap.size, 2, none⟩) (show w.heap.size + 1 ≠ w.heap.size by omega) (.string (bs a.rel)))
      have E1 := Lib.hid ((D7.out.puts (Nat.le_refl _) (.int .i64 (a.n : Int)) (.string (bs a.set)) (.string (bs a.rel))).puts (Nat.le_succ _) (.int .i64 J) (.string S) (.string U))
      have Y3 := Lib.hid (((Y1.out.far (p := ⟨w.heap.size + 1, 0, none⟩) (show w.heap.size ≠ w.heap.size + 1 by omega) (.int .i64 J)).far (p := ⟨w.heap.size + 1, 1, none⟩) (show w.heap.size ≠ w.heap.size + 1 by omega) (.string S)).far (p := ⟨w.heap.size + 1, 2, none⟩) (show w.heap.size ≠ w.heap.size + 1 by omega) (.string U))
      have Y4 := Lib.hid (Y2.out.puts (.int .i64 J) (.string S) (.string U))
      clear p0 p1 p2 p3 p4 p5
      obtain ⟨p0, p1, p2⟩ := box_load Y2.out
      have p3 := Y2.out.free 0
      have p4 := Y2.out.free 1
      have p5 := Y2.out.free 2
      refine sched_call rfl (by kernel_rfl) (fun K1 hK1 => ?_)
      go_simp
      refine hK1.out _ _ ?_ (sched_lay (a' := ?_) ?_ ?_)
      · exact ⟨(((((((XA7.out.far (p := ⟨w.heap.size, 0, none⟩) (show w1.heap.size ≠ w.heap.size by omega) _).far (p := ⟨w.heap.size, 1, none⟩) (show w1.heap.size ≠ w.heap.size by omega) _).far (p := ⟨w.heap.size, 2, none⟩) (show w1.heap.size ≠ w.heap.size by omega) _).far (p := ⟨w.heap.size + 1, 0, none⟩) (show w1.heap.size ≠ w.heap.size + 1 by omega) _).far (p := ⟨w.heap.size + 1, 1, none⟩) (show w1.heap.size ≠ w.heap.size + 1 by omega) _).far (p := ⟨w.heap.size + 1, 2, none⟩) (show w1.heap.size ≠ w.heap.size + 1 by omega) _)).cell 0, (((((((XA7.out.far (p := ⟨w.heap.size, 0, none⟩) (show w1.heap.size ≠ w.heap.size by omega) _).far (p := ⟨w.heap.size, 1, none⟩) (show w1.heap.size ≠ w.heap.size by omega) _).far (p := ⟨w.heap.size, 2, none⟩) (show w1.heap.size ≠ w.heap.size by omega) _).far (p := ⟨w.heap.size + 1, 0, none⟩) (show w1.heap.size ≠ w.heap.size + 1 by omega) _).far (p := ⟨w.heap.size + 1, 1, none⟩) (show w1.heap.size ≠ w.heap.size + 1 by omega) _).far (p := ⟨w.heap.size + 1, 2, none⟩) (show w1.heap.size ≠ w.heap.size + 1 by omega) _)).cell 1, (((((((XA7.out.far (p := ⟨w.heap.size, 0, none⟩) (show w1.heap.size ≠ w.heap.size by omega) _).far (p := ⟨w.heap.size, 1, none⟩) (show w1.heap.size ≠ w.heap.size by omega) _).far (p := ⟨w.heap.size, 2, none⟩) (show w1.heap.size ≠ w.heap.size by omega) _).far (p := ⟨w.heap.size + 1, 0, none⟩) (show w1.heap.size ≠ w.heap.size + 1 by omega) _).far (p := ⟨w.heap.size + 1, 1, none⟩) (show w1.heap.size ≠ w.heap.size + 1 by omega) _).far (p := ⟨w.heap.size + 1, 2, none⟩) (show w1.heap.size ≠ w.heap.size + 1 by omega) _)).cell 2, (((((((XB7.out.far (p := ⟨w.heap.size, 0, none⟩) (show gb ≠ w.heap.size by omega) _).far (p := ⟨w.heap.size, 1, none⟩) (show gb ≠ w.heap.size by omega) _).far (p := ⟨w.heap.size, 2, none⟩) (show gb ≠ w.heap.size by omega) _).far (p := ⟨w.heap.size + 1, 0, none⟩) (show gb ≠ w.heap.size + 1 by omega) _).far (p := ⟨w.heap.size + 1, 1, none⟩) (show gb ≠ w.heap.size + 1 by omega) _).far (p := ⟨w.heap.size + 1, 2, none⟩) (show gb ≠ w.heap.size + 1 by omega) _)).cell 0, (((((((XB7.out.far (p := ⟨w.heap.size, 0, none⟩) (show gb ≠ w.heap.size by omega) _).far (p := ⟨w.heap.size, 1, none⟩) (show gb ≠ w.heap.size by omega) _).far (p := ⟨w.heap.size, 2, none⟩) (show gb ≠ w.heap.size by omega) _).far (p := ⟨w.heap.size + 1, 0, none⟩) (show gb ≠ w.heap.size + 1 by omega) _).far (p := ⟨w.heap.size + 1, 1, none⟩) (show gb ≠ w.heap.size + 1 by omega) _).far (p := ⟨w.heap.size + 1, 2, none⟩) (show gb ≠ w.heap.size + 1 by omega) _)).cell 1, (((((((XB7.out.far (p := ⟨w.heap.size, 0, none⟩) (show gb ≠ w.heap.size by omega) _).far (p := ⟨w.heap.size, 1, none⟩) (show gb ≠ w.heap.size by omega) _).far (p := ⟨w.heap.size, 2, none⟩) (show gb ≠ w.heap.size by omega) _).far (p := ⟨w.heap.size + 1, 0, none⟩) (show gb ≠ w.heap.size + 1 by omega) _).far (p := ⟨w.heap.size + 1, 1, none⟩) (show gb ≠ w.heap.size + 1 by omega) _).far (p := ⟨w.heap.size + 1, 2, none⟩) (show gb ≠ w.heap.size + 1 by omega) _)).cell 2⟩
      rotate_left 1
      · (try simp only [Act.put, List.getElem_toArray, List.getElem_cons_succ, List.getElem_cons_zero, List.setIfInBounds_toArray, List.set_cons_zero, List.set_cons_succ])
        try rfl
      clear hK1 K1
      refine sched_done (hQ1.out _ _ ?_)
      clear y0 y1 y2
      clear m0 m1 m2 p0 p1 p2 p3 p4 p5
      obtain ⟨q0, q1, q2⟩ := box_load Y3.out
      obtain ⟨q3, q4, q5⟩ := box_load Y4.out
      go_wp2_with fail
      refine bodyPost_ret (v := .tuple #[stA a, stV (J) (S) (U)]) ?_ rfl (HEnd.out _ _ _ _ _ (by omega) (by omega) (by omega) E1.out)
      simp [results, Tryd.results75, go_sem, q0, q1, q2, q3, q4, q5]
  by_cases h2 : m = 2
  · subst h2
    obtain ⟨m0, m1, m2⟩ := box_load XA2.out
    go_upto_region 11 with (fail)
    have D5 := Lib.hid D2.out.drew
    have X15 := Lib.hid X12.out.drew
    have X25 := Lib.hid X22.out.drew
    have XA5 := Lib.hid XA2.out.drew
    clear m0 m1 m2
    obtain ⟨m0, m1, m2⟩ := box_load XA5.out
    refine region_sched [(0, true), (1, true), (2, true), (3, true), (4, false), (5, false), (6, false)] (fun w' : World => w'.cell? ⟨w1.heap.size, 0, none⟩ = some (.int .i64 (a.n : Int)) ∧ w'.cell? ⟨w1.heap.size, 1, none⟩ = some (.string (bs a.set)) ∧ w'.cell? ⟨w1.heap.size, 2, none⟩ = some (.string (bs a.rel))) (by kernel_rfl) (by kernel_rfl) (by kernel_rfl) (by kernel_rfl) (fun _ _ _ _ h => h) ?_ (fun Q1 hQ1 => ?_)
    · exact ⟨m0, m1, m2⟩
    try simp only [List.append]
    refine sched_take' (v := .agg #[.int .i64 (a.n : Int), .string (bs a.set), .string (bs a.rel)]) (a' := ?_) rfl (by kernel_rfl) ?_ rfl ?_ ?_
    rotate_left 1
    · intro w hSw
      (try dsimp only at hSw)
      go_simp
      first | done | (obtain ⟨u0, u1, u2⟩ := hSw; simp [u0, u1, u2])
    · (try simp only [Act.put, List.setIfInBounds_toArray, List.set_cons_zero, List.set_cons_succ])
      try rfl
    refine sched_take' (v := ?_) (a' := ?_) rfl (by kernel_rfl) ?_ rfl ?_ ?_
    rotate_left 2
    · intro w hSw
      (try dsimp only at hSw)
      go_simp
      try with_reducible rfl
    · (try simp only [Act.put, List.setIfInBounds_toArray, List.set_cons_zero, List.set_cons_succ])
      try rfl
    refine sched_take' (v := ?_) (a' := ?_) rfl (by kernel_rfl) ?_ rfl ?_ ?_
    rotate_left 2
    · intro w hSw
      (try dsimp only at hSw)
      go_simp
      try with_reducible rfl
    · (try simp only [Act.put, List.setIfInBounds_toArray, List.set_cons_zero, List.set_cons_succ])
      try rfl
    refine sched_take' (v := ?_) (a' := ?_) rfl (by kernel_rfl) ?_ rfl ?_ ?_
    rotate_left 2
    · intro w hSw
      (try dsimp only at hSw)
      go_simp
      try with_reducible rfl
    · (try simp only [Act.put, List.setIfInBounds_toArray, List.set_cons_zero, List.set_cons_succ])
      try rfl
    refine sched_call rfl (by kernel_rfl) (fun K1 hK1 => ?_)
    go_simp
    refine (Hdr.out (p1 + 1) _ (by omega) D5.out.rd).mono ?_
    rintro e w6 ⟨⟨b, p9, rfl, hb, hbn, hp9, hrd⟩, hg⟩
    have D6 := Lib.hid (D5.out.step hrd hg)
    have X16 := Lib.hid (X15.out.dw hg (by omega))
    have X26 := Lib.hid (X25.out.dw hg (by omega))
    have XA6 := Lib.hid (XA5.out.dw hg (by omega))
    clear hrd hg
    have hbs := st_small hb
    clear hbn m0 m1 m2
    obtain ⟨m0, m1, m2⟩ := box_load XA6.out
    go_wp2_with fail
    refine hK1.out _ _ ?_ (sched_lay (a' := ?_) ?_ ?_)
    · exact box_load XA6.out
    rotate_left 1
    · (try simp only [Act.put, List.getElem_toArray, List.getElem_cons_succ, List.getElem_cons_zero, List.setIfInBounds_toArray, List.set_cons_zero, List.set_cons_succ])
      try rfl
    clear hK1 K1
    obtain ⟨p0, p1, p2⟩ := box_load X16.out
    have p3 := X16.out.free 0
    have p4 := X16.out.free 1
    have p5 := X16.out.free 2
    refine sched_call rfl (by kernel_rfl) (fun K1 hK1 => ?_)
    go_simp
    refine hK1.out _ _ ?_ (sched_lay (a' := ?_) ?_ ?_)
    · exact box_load (((XA6.out.far (p := ⟨w.heap.size, 0, none⟩) (show w1.heap.size ≠ w.heap.size by omega) _).far (p := ⟨w.heap.size, 1, none⟩) (show w1.heap.size ≠ w.heap.size by omega) _).far (p := ⟨w.heap.size, 2, none⟩) (show w1.heap.size ≠ w.heap.size by omega) _)
    rotate_left 1
    · (try simp only [Act.put, List.getElem_toArray, List.getElem_cons_succ, List.getElem_cons_zero, List.setIfInBounds_toArray, List.set_cons_zero, List.set_cons_succ])
      try rfl
    clear hK1 K1
    have Y1 := Lib.hid (X16.out.puts (.int .i64 (a.n : Int)) (.string (bs a.set)) (.string (bs a.rel)))
    have Y2 := Lib.hid (((X26.out.far (p := ⟨w.heap.size, 0, none⟩) (show w.heap.size + 1 ≠ w.heap.size by omega) (.int .i64 (a.n : Int))).far (p := ⟨w.heap.size, 1, none⟩) (show w.heap.size + 1 ≠ w.heap.size by omega) (.string (bs a.set))).far (p := ⟨w.heap.size, 2, none⟩) (show w.heap.size + 1 ≠ w.heap.size by omega) (.string (bs a.rel)))
    have E1 := Lib.hid ((D6.out.puts (Nat.le_refl _) (.int .i64 (a.n : Int)) (.string (bs a.set)) (.string (bs a.rel))).puts (Nat.le_succ _) (.int .i64 ((b.n : Int))) (.string (bs b.set)) (.string (bs b.rel)))
    have Y3 := Lib.hid (((Y1.out.far (p := ⟨w.heap.size + 1, 0, none⟩) (show w.heap.size ≠ w.heap.size + 1 by omega) (.int .i64 ((b.n : Int)))).far (p := ⟨w.heap.size + 1, 1, none⟩) (show w.heap.size ≠ w.heap.size + 1 by omega) (.string (bs b.set))).far (p := ⟨w.heap.size + 1, 2, none⟩) (show w.heap.size ≠ w.heap.size + 1 by omega) (.string (bs b.rel)))
    have Y4 := Lib.hid (Y2.out.puts (.int .i64 ((b.n : Int))) (.string (bs b.set)) (.string (bs b.rel)))
    clear p0 p1 p2 p3 p4 p5
    obtain ⟨p0, p1, p2⟩ := box_load Y2.out
    have p3 := Y2.out.free 0
    have p4 := Y2.out.free 1
    have p5 := Y2.out.free 2
    refine sched_call rfl (by kernel_rfl) (fun K1 hK1 => ?_)
    go_simp
    refine hK1.out _ _ ?_ (sched_lay (a' := ?_) ?_ ?_)
    · exact box_load ((((((XA6.out.far (p := ⟨w.heap.size, 0, none⟩) (show w1.heap.size ≠ w.heap.size by omega) _).far (p := ⟨w.heap.size, 1, none⟩) (show w1.heap.size ≠ w.heap.size by omega) _).far (p := ⟨w.heap.size, 2, none⟩) (show w1.heap.size ≠ w.heap.size by omega) _).far (p := ⟨w.heap.size + 1, 0, none⟩) (show w1.heap.size ≠ w.heap.size + 1 by omega) _).far (p := ⟨w.heap.size + 1, 1, none⟩) (show w1.heap.size ≠ w.heap.size + 1 by omega) _).far (p := ⟨w.heap.size + 1, 2, none⟩) (show w1.heap.size ≠ w.heap.size + 1 by omega) _)
    rotate_left 1
    · (try simp only [Act.put, List.getElem_toArray, List.getElem_cons_succ, List.getElem_cons_zero, List.setIfInBounds_toArray, List.set_cons_zero, List.set_cons_succ])
      try rfl
    clear hK1 K1
    refine sched_done (hQ1.out _ _ ?_)
    clear m0 m1 m2 p0 p1 p2 p3 p4 p5
    obtain ⟨q0, q1, q2⟩ := box_load Y3.out
    obtain ⟨q3, q4, q5⟩ := box_load Y4.out
    go_wp2_with fail
    refine bodyPost_ret (v := .tuple #[stA a, stV ((b.n : Int)) (bs b.set) (bs b.rel)]) ?_ rfl (HEnd.out _ _ _ _ _ (by omega) (by omega) (by omega) E1.out)
    simp [results, Tryd.results75, go_sem, q0, q1, q2, q3, q4, q5]

  have b0 : (m == 0) = false := by simp; omega
  have b1 : (m == 1) = false := by simp; omega
  have b2 : (m == 2) = false := by simp; omega
  obtain ⟨m0, m1, m2⟩ := box_load XA2.out
  go_upto_region 12 with (fail)
  have D5 := Lib.hid D2.out.drew
  have X15 := Lib.hid X12.out.drew
  have X25 := Lib.hid X22.out.drew
  have XA5 := Lib.hid XA2.out.drew
  clear m0 m1 m2
  obtain ⟨m0, m1, m2⟩ := box_load XA5.out
  refine region_sched [(0, true), (1, true), (2, false), (3, false), (4, false)] (fun w' : World => w'.cell? ⟨w1.heap.size, 0, none⟩ = some (.int .i64 (a.n : Int)) ∧ w'.cell? ⟨w1.heap.size, 1, none⟩ = some (.string (bs a.set)) ∧ w'.cell? ⟨w1.heap.size, 2, none⟩ = some (.string (bs a.rel))) (by kernel_rfl) (by kernel_rfl) (by kernel_rfl) (by kernel_rfl) (fun _ _ _ _ h => h) ?_ (fun Q1 hQ1 => ?_)
  · exact ⟨m0, m1, m2⟩
  try simp only [List.append]
  refine sched_take' (v := .agg #[.int .i64 (a.n : Int), .string (bs a.set), .string (bs a.rel)]) (a' := ?_) rfl (by kernel_rfl) ?_ rfl ?_ ?_
  rotate_left 1
  · intro w hSw
    (try dsimp only at hSw)
    go_simp
    first | done | (obtain ⟨u0, u1, u2⟩ := hSw; simp [u0, u1, u2])
  · (try simp only [Act.put, List.setIfInBounds_toArray, List.set_cons_zero, List.set_cons_succ])
    try rfl
  refine sched_take' (v := ?_) (a' := ?_) rfl (by kernel_rfl) ?_ rfl ?_ ?_
  rotate_left 2
  · intro w hSw
    (try dsimp only at hSw)
    go_simp
    try with_reducible rfl
  · (try simp only [Act.put, List.setIfInBounds_toArray, List.set_cons_zero, List.set_cons_succ])
    try rfl
  refine sched_call rfl (by kernel_rfl) (fun K1 hK1 => ?_)
  go_simp
  refine (Hso.out (p1 + 1) _ (by omega) D5.out.rd).mono ?_
  rintro e w6 ⟨⟨b, p9, rfl, hb, hbn, hp9, hrd⟩, hg⟩
  have D6 := Lib.hid (D5.out.step hrd hg)
  have X16 := Lib.hid (X15.out.dw hg (by omega))
  have X26 := Lib.hid (X25.out.dw hg (by omega))
  have XA6 := Lib.hid (XA5.out.dw hg (by omega))
  clear hrd hg
  have hbs := st_small hb
  clear hbn m0 m1 m2
  obtain ⟨m0, m1, m2⟩ := box_load XA6.out
  go_wp2_with fail
  refine hK1.out _ _ ?_ (sched_lay (a' := ?_) ?_ ?_)
  · exact box_load XA6.out
  rotate_left 1
  · (try simp only [Act.put, List.getElem_toArray, List.getElem_cons_succ, List.getElem_cons_zero, List.setIfInBounds_toArray, List.set_cons_zero, List.set_cons_succ])
    try rfl
  clear hK1 K1
  obtain ⟨p0, p1, p2⟩ := box_load X16.out
  have p3 := X16.out.free 0
  have p4 := X16.out.free 1
  have p5 := X16.out.free 2
  refine sched_call rfl (by kernel_rfl) (fun K1 hK1 => ?_)
  go_simp
  refine hK1.out _ _ ?_ (sched_lay (a' := ?_) ?_ ?_)
  · exact box_load (((XA6.out.far (p := ⟨w.heap.size, 0, none⟩) (show w1.heap.size ≠ w.heap.size by omega) _).far (p := ⟨w.heap.size, 1, none⟩) (show w1.heap.size ≠ w.heap.size by omega) _).far (p := ⟨w.heap.size, 2, none⟩) (show w1.heap.size ≠ w.heap.size by omega) _)
  rotate_left 1
  · (try simp only [Act.put, List.getElem_toArray, List.getElem_cons_succ, List.getElem_cons_zero, List.setIfInBounds_toArray, List.set_cons_zero, List.set_cons_succ])
    try rfl
  clear hK1 K1
  have Y1 := Lib.hid (X16.out.puts (.int .i64 (a.n : Int)) (.string (bs a.set)) (.string (bs a.rel)))
  have Y2 := Lib.hid (((X26.out.far (p := ⟨w.heap.size, 0, none⟩) (show w.heap.size + 1 ≠ w.heap.size by omega) (.int .i64 (a.n : Int))).far (p := ⟨w.heap.size, 1, none⟩) (show w.heap.size + 1 ≠ w.heap.size by omega) (.string (bs a.set))).far (p := ⟨w.heap.size, 2, none⟩) (show w.heap.size + 1 ≠ w.heap.size by omega) (.string (bs a.rel)))
  have E1 := Lib.hid ((D6.out.puts (Nat.le_refl _) (.int .i64 (a.n : Int)) (.string (bs a.set)) (.string (bs a.rel))).puts (Nat.le_succ _) (.int .i64 ((b.n : Int))) (.string (bs b.set)) (.string (bs b.rel)))
  have Y3 := Lib.hid (((Y1.out.far (p := ⟨w.heap.size + 1, 0, none⟩) (show w.heap.size ≠ w.heap.size + 1 by omega) (.int .i64 ((b.n : Int)))).far (p := ⟨w.heap.size + 1, 1, none⟩) (show w.heap.size ≠ w.heap.size + 1 by omega) (.string (bs b.set))).far (p := ⟨w.heap.size + 1, 2, none⟩) (show w.heap.size ≠ w.heap.size + 1 by omega) (.string (bs b.rel)))
  have Y4 := Lib.hid (Y2.out.puts (.int .i64 ((b.n : Int))) (.string (bs b.set)) (.string (bs b.rel)))
  clear p0 p1 p2 p3 p4 p5
  obtain ⟨p0, p1, p2⟩ := box_load Y2.out
  have p3 := Y2.out.free 0
  have p4 := Y2.out.free 1
  have p5 := Y2.out.free 2
  refine sched_call rfl (by kernel_rfl) (fun K1 hK1 => ?_)
  go_simp
  refine hK1.out _ _ ?_ (sched_lay (a' := ?_) ?_ ?_)
  · exact box_load ((((((XA6.out.far (p := ⟨w.heap.size, 0, none⟩) (show w1.heap.size ≠ w.heap.size by omega) _).far (p := ⟨w.heap.size, 1, none⟩) (show w1.heap.size ≠ w.heap.size by omega) _).far (p := ⟨w.heap.size, 2, none⟩) (show w1.heap.size ≠ w.heap.size by omega) _).far (p := ⟨w.heap.size + 1, 0, none⟩) (show w1.heap.size ≠ w.heap.size + 1 by omega) _).far (p := ⟨w.heap.size + 1, 1, none⟩) (show w1.heap.size ≠ w.heap.size + 1 by omega) _).far (p := ⟨w.heap.size + 1, 2, none⟩) (show w1.heap.size ≠ w.heap.size + 1 by omega) _)
  rotate_left 1
  · (try simp only [Act.put, List.getElem_toArray, List.getElem_cons_succ, List.getElem_cons_zero, List.setIfInBounds_toArray, List.set_cons_zero, List.set_cons_succ])
    try rfl
  clear hK1 K1
  refine sched_done (hQ1.out _ _ ?_)
  clear m0 m1 m2 p0 p1 p2 p3 p4 p5
  obtain ⟨q0, q1, q2⟩ := box_load Y3.out
  obtain ⟨q3, q4, q5⟩ := box_load Y4.out
  go_wp2_with fail
  refine bodyPost_ret (v := .tuple #[stA a, stV ((b.n : Int)) (bs b.set) (bs b.rel)]) ?_ rfl (HEnd.out _ _ _ _ _ (by omega) (by omega) (by omega) E1.out)
  simp [results, Tryd.results75, go_sem, q0, q1, q2, q3, q4, q5]


end Go.Proofs.YtpaoffjicgmleaaDoor
