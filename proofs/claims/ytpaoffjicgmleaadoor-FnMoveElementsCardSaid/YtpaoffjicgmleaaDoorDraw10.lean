/-
  Draws from bytes: a structure and some elements. Condition: at most 2^20 bytes.
-/
import Derived.Test.YtpaoffjicgmleaaDoorDraw7
namespace Go.Proofs.YtpaoffjicgmleaaDoor
open Go.RowKit
open Pl
set_option linter.unusedSimpArgs false
set_option linter.unusedVariables false

attribute [local go_sem ↓] Go.wp_at_zero Go.wp_at_succ

/-- the reader where a row of another block grows -/
theorem Rd.app {V V' : World} {rb n cap p : Nat} {A : Option Addr} {row : Option Nat} (h : Rd V rb A n cap p) (hg : V.grownBy V' row) (hr : ∀ j, row = some j → rb < j) : Rd V' rb A n cap p := by
  have hlt := h.box.lt
  refine ⟨h.box.grown' hg (fun e => by have := hr rb e.symm; omega), ?_, h.small, h.sep⟩
  intro h0
  obtain ⟨x, rfl, hc⟩ := h.row h0
  have hx := h.sep h0 x rfl
  refine ⟨x, rfl, fun i hi => ?_⟩
  obtain ⟨b, hb, hcell⟩ := hc i hi
  refine ⟨b, hb, ?_⟩
  rw [← hcell]
  have hbl : (x.add i).block = x.block := by unfold Addr.add; split <;> rfl
  exact World.cell?_of_block (by rw [hbl]; exact hg.block x.block (by omega) (fun e => by have := hr x.block e.symm; omega))
theorem Fr.app {w V V' : World} {rb n cap p : Nat} {A : Option Addr} {row : Option Nat} (h : Fr w rb A n cap p V) (hg : V.grownBy V' row) (hr : ∀ j, row = some j → rb < j) : Fr w rb A n cap p V' :=
  ⟨h.rd.app hg hr, h.bel.grown hg h.bel.size (fun j hj => by have := hr j hj; have := h.rge; omega), h.rge⟩
/-- the first of a row -/
theorem own_first {W : World} {base n n' g cp : Nat} {e : TypeId} {xs : List Value} (h : W.ownsRow base e 1 (.slice (some ⟨g, 0, none⟩) n cp) n xs) (hn : n' ≤ n) : W.ownsRow base e 1 (.slice (some ⟨g, 0, none⟩) n' cp) n' (xs.take n') := by
  obtain ⟨h1, ⟨h0, _⟩ | ⟨g', c, cur, hv, hb, hh, hle, hm, hs, hx⟩⟩ := h
  · cases h0
  · refine ⟨by rw [List.length_take, h1]; omega, .inr ⟨g', c, cur, ?_, hb, hh, ?_, hm, hs, ?_⟩⟩
    · injection hv with e1 e2 e3
      rw [e1, e3]
    · omega
    · rw [← hx, List.take_take]
      congr 1
      omega
theorem intsV_take (zs : List Int) (k : Nat) : (intsV zs).take k = intsV (zs.take k) := by unfold intsV; rw [List.map_take]

/-- a structure and some numbers that are drawn -/
def StL (e : Ending) (w' : World) : Prop := ∃ (i : Int) (s r : ByteArray) (zs : List Int) (A : Option Addr) (c : Nat), e = .returned (.tuple #[stV i s r, .slice A zs.length c]) ∧ s.size ≤ 100 ∧ r.size ≤ 100 ∧ zs.length ≤ 10 ∧ zs.length ≤ c ∧ LRow w' A zs

set_option maxHeartbeats 4000000 in
set_option maxRecDepth 100000 in
theorem DrawPartOf_calls (A : Option Addr) (n cap : Nat) (w : World) (h : ByRow w A n) (hn : n ≤ 1048576) (hc : n ≤ cap) (hm : cap ≤ maxLen) :
    Calls Tryd.prog 10 #[.slice A n cap] w fun e w' => StL e w' ∧ Below w.heap.size w w' := by
  obtain ⟨i0, hi, hz0, hz1, hz2⟩ := info_parts (P := Tryd.prog) (e := 3) (z := .int .i64 0) (size := 1) (bytes := 8) (by kernel_rfl)
  have ho := fun W h => l15Open_calls A n cap W h hn hc hm
  have Ho := Lib.hid ho
  have H0 := Lib.hid (h.call ((Below.refl w.heap.size w).alloc (Nat.le_refl _) (.cells #[.int .i64 0, .string (bs []), .string (bs [])] 24)))
  have hso := fun (rb n cap : Nat) (A : Option Addr) (W : World) (h : Rd W rb A n cap 0) => l1Some_calls rb A n cap 0 W h (by omega)
  have hsh0 : ∀ (rb n cap p : Nat) (A : Option Addr) (m : Nat), m ≤ 8 → p ≤ 10000 → ∀ (W : World), Rd W rb A n cap p → Calls Tryd.prog 42 #[.pointer (some ⟨rb, 0, none⟩), .int .i64 (m : Nat)] W fun e w' => ShufS W rb A n cap p m e w' ∧ W.grownBy w' (some rb) := fun rb n cap p A m hm hp W h => l1Shuffle_calls rb A n cap p m W h (by omega) hm
  have hbad0 : ∀ (rb n cap : Nat) (A : Option Addr) (a : St), a.ok → a.n ≤ 5 → ∀ (p : Nat), p ≤ 10000 → ∀ (W : World), Rd W rb A n cap p → Calls Tryd.prog 45 #[.pointer (some ⟨rb, 0, none⟩), stA a] W fun e w' => BadS rb A n cap p (a.n : Int) e w' ∧ W.grownBy w' (some rb) := fun rb n cap A a ha h5 p hp W h => l1Bad_calls rb A n cap p a ha h5 W h (by omega)
  have hpk0 : ∀ (rb n cap : Nat) (A : Option Addr) (k : Int) (q : Nat) (V : World), k ≤ 100 → q ≤ 10000 → Rd V rb A n cap q → Calls Tryd.prog 43 #[.pointer (some ⟨rb, 0, none⟩), .int .i64 k] V fun e w' => PickP k e ∧ Rd w' rb A n cap (q + 1) ∧ V.grownBy w' (some rb) := fun rb n cap A k q V hk hq hr => pick_calls rb A n cap q k V hr (by omega) (by omega)
  have hnum0 : ∀ (rb n cap : Nat) (A : Option Addr) (q g : Nat) (W : World), q ≤ 10000 → NCells W g [0, -1, 8] → g ≠ rb → Rd W rb A n cap q → Calls Tryd.prog 44 #[.pointer (some ⟨rb, 0, none⟩), .slice (some ⟨g, 0, none⟩) 3 3] W fun e w' => (∃ k : Int, e = .returned (.int .i64 k)) ∧ Rd w' rb A n cap (q + 1) ∧ W.grownBy w' (some rb) :=
    fun rb n cap A q g W hq h1 h2 h3 => (num_calls rb A n cap q g 3 [0, -1, 8] W h3 (by omega) (by simp) (by simp) h1 h2).mono fun e w' ⟨⟨m, h4, _⟩, h6⟩ => ⟨⟨m, h4⟩, h6⟩
  have Hso := Lib.hid hso
  have Hsh0 := Lib.hid hsh0
  have Hbad0 := Lib.hid hbad0
  have Hpk0 := Lib.hid hpk0
  have Hnum0 := Lib.hid hnum0
  have X0 := Lib.hid (Bx.new w 24 #[.int .i64 0, .string (bs []), .string (bs [])])
  have B0 := Lib.hid ((Below.refl w.heap.size w).alloc (Nat.le_refl _) (.cells #[.int .i64 0, .string (bs []), .string (bs [])] 24))
  clear ho hso hsh0 hbad0 hpk0 hnum0 h hn hc hm
  go_enter Tryd.func10, Tryd.ntmps10
  go_wp2_with fail
  refine (Ho.out _ H0.out).mono ?_
  rintro e w1 ⟨⟨A', n', cap', rfl, hr⟩, hb⟩
  have F1 := Lib.hid (Fr.new (rb := w.heap.size + 1) B0.out hr hb (by simp))
  have X1 := Lib.hid (X0.out.call hb)
  have hs1 : w.heap.size + 1 < w1.heap.size := by have := hr.box.lt; simpa using this
  clear hr hb
  go_wp2_with fail
  refine (Hso.out _ _ _ _ _ F1.out.rd).mono ?_
  rintro e w2 ⟨⟨a, p1, rfl, ha, han, hp1, hrd⟩, hg⟩
  have F2 := Lib.hid (F1.out.step hrd hg)
  have X2 := Lib.hid (X1.out.grown' hg (by simp))
  have hs2 : w.heap.size + 1 < w2.heap.size := Nat.lt_of_lt_of_le hs1 hg.size
  have Hsh := Lib.hid (fun (W : World) (h : Rd W (w.heap.size + 1) A' n' cap' p1) => Hsh0.out _ _ _ _ _ a.n (by omega) (by omega) W h)
  have Hbad := Lib.hid (fun (p : Nat) (hp : p ≤ 10000) (W : World) (h : Rd W (w.heap.size + 1) A' n' cap' p) => Hbad0.out _ _ _ _ a ha han p hp W h)
  have Hpk := Lib.hid (fun (k : Int) (q : Nat) (W : World) hk hq (h : Rd W (w.heap.size + 1) A' n' cap' q) => Hpk0.out _ _ _ _ k q W hk hq h)
  have Hnum := Lib.hid (fun (q g : Nat) (W : World) hq h1 h2 (h : Rd W (w.heap.size + 1) A' n' cap' q) => Hnum0.out _ _ _ _ q g W hq h1 h2 h)
  have Hn1 := Lib.hid ha.lo
  have hsa := st_small ha
  clear hrd hg ha
  go_upto_region 3 with (fail)
  have F5 := Lib.hid (F2.out.alloc (.cells #[.int .i64 (a.n : Int), .string (bs a.set), .string (bs a.rel)] 24)).drew
  have X5 := Lib.hid (X2.out.alloc (.cells #[.int .i64 (a.n : Int), .string (bs a.set), .string (bs a.rel)] 24)).drew
  have XA5 := Lib.hid (Bx.new w2 24 #[.int .i64 (a.n : Int), .string (bs a.set), .string (bs a.rel)]).drew
  have m0 := XA5.out.cell 0
  refine region_sched [(0, true), (1, true), (2, true), (4, true), (5, true), (6, true), (3, false), (7, false), (8, true), (9, true), (10, true)] (fun w' : World => w'.cell? ⟨w2.heap.size, 0, none⟩ = some (.int .i64 (a.n : Int))) (by kernel_rfl) (by kernel_rfl) (by kernel_rfl) (by kernel_rfl) (fun _ _ _ _ h => h) ?_ (fun Q1 hQ1 => ?_)
  · exact m0
  try simp only [List.append]
  refine sched_take' (v := ?_) (a' := ?_) rfl (by kernel_rfl) ?_ rfl ?_ ?_
  rotate_left 2
  · intro w hSw
    (try dsimp only at hSw)
    go_simp
    try with_reducible rfl
  · (try simp only [Act.put, List.setIfInBounds_toArray, List.set_cons_zero, List.set_cons_succ])
    try rfl
  refine sched_take' (v := ?_) (a' := ?_) rfl (by kernel_rfl) ?_ rfl ?_ ?_
  rotate_left 2
  · intro w hSw
    (try dsimp only at hSw)
    go_simp
    try with_reducible rfl
  · (try simp only [Act.put, List.setIfInBounds_toArray, List.set_cons_zero, List.set_cons_succ])
    try rfl
  refine sched_take' (v := ?_) (a' := ?_) rfl (by kernel_rfl) ?_ rfl ?_ ?_
  rotate_left 2
  · intro w hSw
    (try dsimp only at hSw)
    go_simp
    try with_reducible rfl
  · (try simp only [Act.put, List.setIfInBounds_toArray, List.set_cons_zero, List.set_cons_succ])
    try rfl
  refine sched_take' (v := ?_) (a' := ?_) rfl (by kernel_rfl) ?_ rfl ?_ ?_
  rotate_left 2
  · intro w hSw
    (try dsimp only at hSw)
    go_simp
    try with_reducible rfl
  · (try simp only [Act.put, List.setIfInBounds_toArray, List.set_cons_zero, List.set_cons_succ])
    try rfl
  refine sched_take' (v := ?_) (a' := ?_) rfl (by kernel_rfl) ?_ rfl ?_ ?_
  rotate_left 2
  · intro w hSw
    (try dsimp only at hSw)
    go_simp
    try with_reducible rfl
  · (try simp only [Act.put, List.setIfInBounds_toArray, List.set_cons_zero, List.set_cons_succ])
    try rfl
  refine sched_take' (v := ?_) (a' := ?_) rfl (by kernel_rfl) ?_ rfl ?_ ?_
  rotate_left 2
  · intro w hSw
    (try dsimp only at hSw)
    go_simp
    try with_reducible rfl
  · (try simp only [Act.put, List.setIfInBounds_toArray, List.set_cons_zero, List.set_cons_succ])
    try rfl
  refine sched_call rfl (by kernel_rfl) (fun K1 hK1 => ?_)
  go_simp
  refine (Hsh.out _ F5.out.rd).mono ?_
  rintro e w6 ⟨⟨L, g, cp, rfl, hL, hlt, hnd, ho0, hrd⟩, hg⟩
  have F6 := Lib.hid (F5.out.step hrd hg)
  have X6 := Lib.hid (X5.out.grown' hg (by first | (simp; done) | (simp; omega)))
  have XA6 := Lib.hid (XA5.out.grown' hg (by first | (simp; done) | (simp; omega)))
  have hrb : w.heap.size + 1 < w2.heap.size + 1 := by omega
  have ho := own_low ho0 (show w2.heap.size + 1 ≤ _ by simp)
  have O6 := Lib.hid ho
  obtain ⟨hcp1, hcp2, hgb, _⟩ := own_cap ho
  have HL := Lib.hid hL
  have hLn : L.length ≤ 5 := by omega
  have hL1 : 1 ≤ L.length := by have := Hn1.out; omega
  have Hlt := Lib.hid (And.intro hlt hnd)
  clear hrd hg ho ho0 hlt hnd hL m0
  go_wp2_with fail
  refine hK1.out _ _ ?_ (sched_lay (a' := ?_) ?_ ?_)
  · exact XA6.out.cell 0
  rotate_left 1
  · (try simp only [Act.put, List.getElem_toArray, List.getElem_cons_succ, List.getElem_cons_zero, List.setIfInBounds_toArray, List.set_cons_zero, List.set_cons_succ])
    try rfl
  clear hK1 K1
  refine sched_call rfl (by kernel_rfl) (fun K1 hK1 => ?_)
  go_simp
  refine (Hpk.out (a.n : Nat) (p1 + a.n) _ (by omega) (by omega) F6.out.rd).mono ?_
  rintro e w7 ⟨⟨k', rfl, hk0, hk1, _⟩, hrd, hg⟩
  have hk2 := hk1 (by have := Hn1.out; omega)
  obtain ⟨k, rfl⟩ : ∃ k : Nat, k' = k := ⟨k'.toNat, by omega⟩
  have hkL : 1 + k ≤ L.length := by have := HL.out; omega
  unfold maxLen at hcp2
  have e1 : (0 : Int) ≤ 1 + (k : Int) := by omega
  have e2 : (1 : Int) + (k : Int) ≤ (cp : Int) := by omega
  have e3 : (k : Int) ≤ 5 := by omega
  have e4 : (0 : Int) ≤ (k : Int) := by omega
  have F7 := Lib.hid (F6.out.step hrd hg)
  have X7 := Lib.hid (X6.out.grown' hg (by first | (simp; done) | (simp; omega)))
  have XA7 := Lib.hid (XA6.out.grown' hg (by first | (simp; done) | (simp; omega)))
  have O7 := Lib.hid (own_dw O6.out hg hrb)
  clear hrd hg hk1
  go_wp2_with fail
  refine hK1.out _ _ ?_ (sched_lay (a' := ?_) ?_ ?_)
  · exact XA7.out.cell 0
  rotate_left 1
  · (try simp only [Act.put, List.getElem_toArray, List.getElem_cons_succ, List.getElem_cons_zero, List.setIfInBounds_toArray, List.set_cons_zero, List.set_cons_succ])
    try rfl
  clear hK1 K1
  refine sched_take' (v := .int .i64 (1 + (k : Int))) (a' := ?_) rfl (by kernel_rfl) ?_ rfl ?_ ?_
  rotate_left 1
  · intro w hSw
    (try dsimp only at hSw)
    go_simp
    first | done | exact IntWalk.i64_in _ (by omega) | (rw [IntWalk.i64_in _ (by omega)])
  · (try simp only [Act.put, List.setIfInBounds_toArray, List.set_cons_zero, List.set_cons_succ])
    try rfl
  refine sched_take' (v := .slice (some ⟨g, 0, none⟩) (1 + k) cp) (a' := ?_) rfl (by kernel_rfl) ?_ rfl ?_ ?_
  rotate_left 1
  · intro w hSw
    (try dsimp only at hSw)
    go_simp
    first | done | omega | (simp; omega)
  · (try simp only [Act.put, List.setIfInBounds_toArray, List.set_cons_zero, List.set_cons_succ])
    try rfl
  refine sched_take' (v := ?_) (a' := ?_) rfl (by kernel_rfl) ?_ rfl ?_ ?_
  rotate_left 2
  · intro w hSw
    (try dsimp only at hSw)
    go_simp
    try with_reducible rfl
  · (try simp only [Act.put, List.setIfInBounds_toArray, List.set_cons_zero, List.set_cons_succ])
    try rfl
  refine sched_done (hQ1.out _ _ ?_)
  obtain ⟨zs, hzs⟩ : ∃ zs, zs = (natsI L).take (1 + k) := ⟨_, rfl⟩
  have hz : zs.length = 1 + k := by rw [hzs, List.length_take, natsI_len]; omega
  have O7' := Lib.hid (show w7.ownsRow (w2.heap.size + 1) 3 1 (.slice (some ⟨g, 0, none⟩) (1 + k) cp) (1 + k) (intsV zs) from by rw [hzs, ← intsV_take]; exact own_first O7.out hkL)
  have O7 := O7'
  clear O7' hzs
  have HZ := Lib.hid hz
  clear hz
  go_wp2_with fail
  refine (Hpk.out 16 (p1 + a.n + 1) _ (by omega) (by omega) F7.out.rd).mono ?_
  rintro e w8 ⟨⟨m2, rfl, hm20, hm21, _⟩, hrd, hg⟩
  have F8 := Lib.hid (F7.out.step hrd hg)
  have X8 := Lib.hid (X7.out.grown' hg (by first | (simp; done) | (simp; omega)))
  have XA8 := Lib.hid (XA7.out.grown' hg (by first | (simp; done) | (simp; omega)))
  have O8 := Lib.hid (own_dw O7.out hg hrb)
  clear hrd hg hm21
  by_cases h2 : m2 = 0
  · subst h2
    have F9 := Lib.hid (F8.out.alloc (.cells #[.int .i64 0, .int .i64 (-1), .int .i64 8] 3))
    have X9 := Lib.hid (X8.out.alloc (.cells #[.int .i64 0, .int .i64 (-1), .int .i64 8] 3))
    have XA9 := Lib.hid (XA8.out.alloc (.cells #[.int .i64 0, .int .i64 (-1), .int .i64 8] 3))
    have O9 := Lib.hid (O8.out.alloc (.cells #[.int .i64 0, .int .i64 (-1), .int .i64 8] 3))
    have N9 := Lib.hid (ncells_new w8 [0, -1, 8] 3)
    have hrb8 := F8.out.rd.box.lt
    go_wp2_with fail
    refine (Hnum.out (p1 + a.n + 1 + 1) _ _ (by omega) (by have := N9.out; simpa using this) (by omega) F9.out.rd).mono ?_
    rintro e w10 ⟨⟨x, rfl⟩, hrd, hg⟩
    have F10 := Lib.hid (F9.out.step hrd hg)
    have X10 := Lib.hid (X9.out.grown' hg (by first | (simp; done) | (simp; omega)))
    have XA10 := Lib.hid (XA9.out.grown' hg (by first | (simp; done) | (simp; omega)))
    have O10 := Lib.hid (own_dw O9.out hg hrb)
    clear hrd hg
    have F11 := Lib.hid (F10.out.alloc (.cells #[.int .i64 x] 3))
    have X11 := Lib.hid (X10.out.alloc (.cells #[.int .i64 x] 3))
    have XA11 := Lib.hid (XA10.out.alloc (.cells #[.int .i64 x] 3))
    go_wp2_with (at_builtin; refine wpList_append_own_at _ rfl (.tmp 24) (.tmp 28) 25 rfl (w2.heap.size + 1) 3 i0 (.int .i64 0) 1 8 Tryd.underlying25 hi hz0 hz1 hz2 rfl (by decide) _ (1 + k) (intsV zs) rfl (O10.out.alloc _) ⟨w10.heap.size, 0, none⟩ 1 1 [.int .i64 x] rfl rfl (cell_one_new _ _ _) (ints_oneCell .i64 [x]) (by unfold maxLen; omega) (by omega) (by have := F10.out.bel.size; have := XA10.out.lt; simp; omega) ?_; intro v12 w12 ho hg hnn hat; clear hnn hat; obtain ⟨g12, cp12, rfl⟩ := own_shape ho (by omega); obtain ⟨hcx1, hcx2, _, _⟩ := own_cap ho; have F12 := Lib.hid (F11.out.app hg (fun j hj => by have := (O10.out.lt j hj).1; omega)); have X12 := Lib.hid (X11.out.grown' hg (fun e => by have := (O10.out.lt _ e.symm).1; omega)); have XA12 := Lib.hid (XA11.out.grown' hg (fun e => by have := (O10.out.lt _ e.symm).1; omega)); have O12 := Lib.hid (show w12.ownsRow (w2.heap.size + 1) 3 1 (.slice (some ⟨g12, 0, none⟩) (1 + k + 1) cp12) (1 + k + 1) (intsV (zs ++ [x])) from by rw [show intsV (zs ++ [x]) = intsV zs ++ [.int .i64 x] by simp [intsV]]; exact ho); have HZ := Lib.hid (show (zs ++ [x]).length = 1 + k + 1 by rw [List.length_append, HZ.out]; rfl); clear ho hg)
    go_wp2_with fail
    refine (Hpk.out 30 (p1 + a.n + 1 + 1 + 1) _ (by omega) (by omega) F12.out.rd).mono ?_
    rintro e w13 ⟨⟨m3, rfl, hm30, hm31, _⟩, hrd, hg⟩
    have F13 := Lib.hid (F12.out.step hrd hg)
    have X13 := Lib.hid (X12.out.grown' hg (by first | (simp; done) | (simp; omega)))
    have XA13 := Lib.hid (XA12.out.grown' hg (by first | (simp; done) | (simp; omega)))
    have O13 := Lib.hid (own_dw O12.out hg hrb)
    clear hrd hg hm31
    by_cases h3 : m3 = 0
    · subst h3
      obtain ⟨m0, m1, m2⟩ := box_load XA13.out
      have x9 := X13.out.alloc (.cells #[] 3)
      obtain ⟨c3, c4, c5⟩ := box_load x9
      have f0 := x9.free 0
      have f1 := x9.free 1
      have f2 := x9.free 2
      clear x9
      obtain ⟨q0, q1, q2⟩ := box_load ((X13.out.alloc (.cells #[] 3)).puts (.int .i64 (a.n : Int)) (.string (bs a.set)) (.string (bs a.rel)))
      have E1 := Lib.hid (below_puts (F13.out.alloc (.cells #[] 3)).bel (Nat.le_refl _) (.int .i64 (a.n : Int)) (.string (bs a.set)) (.string (bs a.rel)))
      go_wp2_with fail
      refine bodyPost_ret (v := .tuple #[stA a, .slice (some ⟨w13.heap.size, 0, none⟩) 0 0]) ?_ rfl ⟨⟨(a.n : Int), bs a.set, bs a.rel, [], _, 0, rfl, by omega, by omega, by simp, Nat.le_refl _, fun h => absurd h (Nat.lt_irrefl _)⟩, E1.out⟩
      simp [results, Tryd.results10, go_sem, q0, q1, q2]
    · have hb3 : (m3 == 0) = false := by simp; omega
      obtain ⟨m0, m1, m2⟩ := box_load XA13.out
      go_wp2_with fail
      refine (Hbad.out (p1 + a.n + 1 + 1 + 1 + 1) (by omega) _ F13.out.rd).mono ?_
      rintro e w14 ⟨⟨i, s, r, p9, rfl, hi, hs, hr, _, hrd, hfar⟩, hg⟩
      have F14 := Lib.hid (F13.out.step hrd hg)
      have X14 := Lib.hid (X13.out.grown' hg (by first | (simp; done) | (simp; omega)))
      have XA14 := Lib.hid (XA13.out.grown' hg (by first | (simp; done) | (simp; omega)))
      have O14 := Lib.hid (own_dw O13.out hg hrb)
      have HI := Lib.hid hi
      clear hrd hg hi m0 m1 m2
      obtain ⟨c0, c1, c2⟩ := box_load X14.out
      have f0 := X14.out.free 0
      have f1 := X14.out.free 1
      have f2 := X14.out.free 2
      obtain ⟨q0, q1, q2⟩ := box_load (X14.out.puts (.int .i64 i) (.string s) (.string r))
      have E1 := Lib.hid (below_puts F14.out.bel (Nat.le_refl _) (.int .i64 i) (.string s) (.string r))
      have O99 := Lib.hid (own_far (p := ⟨w.heap.size, 2, none⟩) (own_far (p := ⟨w.heap.size, 1, none⟩) (own_far (p := ⟨w.heap.size, 0, none⟩) O14.out (fun g' hg' => by have := (O14.out.lt g' hg').1; show g' ≠ w.heap.size; omega) (.int .i64 i)) (fun g' hg' => by have := (O14.out.lt g' hg').1; show g' ≠ w.heap.size; omega) (.string s)) (fun g' hg' => by have := (O14.out.lt g' hg').1; show g' ≠ w.heap.size; omega) (.string r))
      go_wp2_with fail
      refine bodyPost_ret (v := .tuple #[stV i s r, .slice (some ⟨g12, 0, none⟩) (1 + k + 1) cp12]) ?_ rfl ⟨⟨i, s, r, (zs ++ [x]), _, _, by rw [HZ.out], hs, hr, by have := HZ.out; omega, by have := HZ.out; omega, LRow_of O99.out⟩, E1.out⟩
      simp [results, Tryd.results10, go_sem, q0, q1, q2]
  · have hb2 : (m2 == 0) = false := by simp; omega
    go_wp2_with fail
    refine (Hpk.out 30 (p1 + a.n + 1 + 1) _ (by omega) (by omega) F8.out.rd).mono ?_
    rintro e w9 ⟨⟨m3, rfl, hm30, hm31, _⟩, hrd, hg⟩
    have F9 := Lib.hid (F8.out.step hrd hg)
    have X9 := Lib.hid (X8.out.grown' hg (by first | (simp; done) | (simp; omega)))
    have XA9 := Lib.hid (XA8.out.grown' hg (by first | (simp; done) | (simp; omega)))
    have O9 := Lib.hid (own_dw O8.out hg hrb)
    clear hrd hg hm31
    by_cases h3 : m3 = 0
    · subst h3
      obtain ⟨m0, m1, m2⟩ := box_load XA9.out
      have x9 := X9.out.alloc (.cells #[] 3)
      obtain ⟨c3, c4, c5⟩ := box_load x9
      have f0 := x9.free 0
      have f1 := x9.free 1
      have f2 := x9.free 2
      clear x9
      obtain ⟨q0, q1, q2⟩ := box_load ((X9.out.alloc (.cells #[] 3)).puts (.int .i64 (a.n : Int)) (.string (bs a.set)) (.string (bs a.rel)))
      have E1 := Lib.hid (below_puts (F9.out.alloc (.cells #[] 3)).bel (Nat.le_refl _) (.int .i64 (a.n : Int)) (.string (bs a.set)) (.string (bs a.rel)))
      go_wp2_with fail
      refine bodyPost_ret (v := .tuple #[stA a, .slice (some ⟨w9.heap.size, 0, none⟩) 0 0]) ?_ rfl ⟨⟨(a.n : Int), bs a.set, bs a.rel, [], _, 0, rfl, by omega, by omega, by simp, Nat.le_refl _, fun h => absurd h (Nat.lt_irrefl _)⟩, E1.out⟩
      simp [results, Tryd.results10, go_sem, q0, q1, q2]
    · have hb3 : (m3 == 0) = false := by simp; omega
      obtain ⟨m0, m1, m2⟩ := box_load XA9.out
      go_wp2_with fail
      refine (Hbad.out (p1 + a.n + 1 + 1 + 1) (by omega) _ F9.out.rd).mono ?_
      rintro e w10 ⟨⟨i, s, r, p9, rfl, hi, hs, hr, _, hrd, hfar⟩, hg⟩
      have F10 := Lib.hid (F9.out.step hrd hg)
      have X10 := Lib.hid (X9.out.grown' hg (by first | (simp; done) | (simp; omega)))
      have XA10 := Lib.hid (XA9.out.grown' hg (by first | (simp; done) | (simp; omega)))
      have O10 := Lib.hid (own_dw O9.out hg hrb)
      have HI := Lib.hid hi
      clear hrd hg hi m0 m1 m2
      obtain ⟨c0, c1, c2⟩ := box_load X10.out
      have f0 := X10.out.free 0
      have f1 := X10.out.free 1
      have f2 := X10.out.free 2
      obtain ⟨q0, q1, q2⟩ := box_load (X10.out.puts (.int .i64 i) (.string s) (.string r))
      have E1 := Lib.hid (below_puts F10.out.bel (Nat.le_refl _) (.int .i64 i) (.string s) (.string r))
      have O99 := Lib.hid (own_far (p := ⟨w.heap.size, 2, none⟩) (own_far (p := ⟨w.heap.size, 1, none⟩) (own_far (p := ⟨w.heap.size, 0, none⟩) O10.out (fun g' hg' => by have := (O10.out.lt g' hg').1; show g' ≠ w.heap.size; omega) (.int .i64 i)) (fun g' hg' => by have := (O10.out.lt g' hg').1; show g' ≠ w.heap.size; omega) (.string s)) (fun g' hg' => by have := (O10.out.lt g' hg').1; show g' ≠ w.heap.size; omega) (.string r))
      go_wp2_with fail
      refine bodyPost_ret (v := .tuple #[stV i s r, .slice (some ⟨g, 0, none⟩) (1 + k) cp]) ?_ rfl ⟨⟨i, s, r, zs, _, _, by rw [HZ.out], hs, hr, by have := HZ.out; omega, by have := HZ.out; omega, LRow_of O99.out⟩, E1.out⟩
      simp [results, Tryd.results10, go_sem, q0, q1, q2]

end Go.Proofs.YtpaoffjicgmleaaDoor
