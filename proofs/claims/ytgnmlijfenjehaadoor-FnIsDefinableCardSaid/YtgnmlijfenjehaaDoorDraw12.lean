/-
  Draws from bytes: a structure and a list that may be made of orbits. Condition: at most 2^20 bytes.
-/
import Derived.Test.YtgnmlijfenjehaaDoorDraw10
import Derived.Test.YtgnmlijfenjehaaDoorDefP
namespace Go.Proofs.YtgnmlijfenjehaaDoor
open Go.RowKit
open Pl
set_option linter.unusedSimpArgs false
set_option linter.unusedVariables false

attribute [local go_sem ↓] Go.wp_at_zero Go.wp_at_succ

theorem own_le {W : World} {base n cp : Nat} {B : Option Addr} {e : TypeId} {xs : List Value} (h : W.ownsRow base e 1 (.slice B n cp) n xs) : n ≤ cp := by
  obtain ⟨_, ⟨h0, hn⟩ | ⟨g', c, cur, hv, hb, hh, hn, hm, _⟩⟩ := h
  · omega
  · injection hv with h1 h2 h3
    omega

theorem orbV_pos {a : St} (ha : a.ok) {x : Int} (h0 : 0 ≤ x) (hx : x < (a.n : Nat)) : 0 < (orbV a.n (bs a.set) (bs a.rel) x).length := by
  obtain ⟨k, rfl⟩ : ∃ k : Nat, x = k := ⟨x.toNat, by omega⟩
  rw [orbV_nat ha (by omega)]
  exact orb_pos (aut_grp a) (by omega)

/-- a structure and some numbers that are drawn, at an address -/
def StI (e : Ending) (w' : World) : Prop := ∃ (i : Int) (s r : ByteArray) (zs : List Int) (g c : Nat), e = .returned (.tuple #[stV i s r, .slice (some ⟨g, 0, none⟩) zs.length c]) ∧ s.size ≤ 100 ∧ r.size ≤ 100 ∧ zs.length ≤ 10 ∧ zs.length ≤ c ∧ LRow w' (some ⟨g, 0, none⟩) zs

set_option maxHeartbeats 4000000 in
set_option maxRecDepth 100000 in
theorem DrawIsDefinable_calls (A : Option Addr) (n cap : Nat) (w : World) (h : ByRow w A n) (hn : n ≤ 1048576) (hc : n ≤ cap) (hm : cap ≤ maxLen) :
    Calls Tryd.prog 15 #[.slice A n cap] w fun e w' => StI e w' ∧ Below w.heap.size w w' := by
  obtain ⟨i0, hi, hz0, hz1, hz2⟩ := info_parts (P := Tryd.prog) (e := 3) (z := .int .i64 0) (size := 1) (bytes := 8) (by kernel_rfl)
  have ho := fun W h => l15Open_calls A n cap W h hn hc hm
  have Ho := Lib.hid ho
  have H0 := Lib.hid (h.call ((Below.refl w.heap.size w).alloc (Nat.le_refl _) (.cells #[.int .i64 0, .string (bs []), .string (bs [])] 27)))
  have hso := fun (rb n cap : Nat) (A : Option Addr) (W : World) (h : Rd W rb A n cap 0) => l1Some_calls rb A n cap 0 W h (by omega)
  have hsh0 : ∀ (rb n cap p : Nat) (A : Option Addr) (m : Nat), m ≤ 8 → p ≤ 10000 → ∀ (W : World), Rd W rb A n cap p → Calls Tryd.prog 38 #[.pointer (some ⟨rb, 0, none⟩), .int .i64 (m : Nat)] W fun e w' => ShufS W rb A n cap p m e w' ∧ W.grownBy w' (some rb) := fun rb n cap p A m hm hp W h => l1Shuffle_calls rb A n cap p m W h (by omega) hm
  have hbad0 : ∀ (rb n cap : Nat) (A : Option Addr) (a : St), a.ok → a.n ≤ 5 → ∀ (p : Nat), p ≤ 10000 → ∀ (W : World), Rd W rb A n cap p → Calls Tryd.prog 41 #[.pointer (some ⟨rb, 0, none⟩), stA a] W fun e w' => BadS rb A n cap p (a.n : Int) e w' ∧ W.grownBy w' (some rb) := fun rb n cap A a ha h5 p hp W h => l1Bad_calls rb A n cap p a ha h5 W h (by omega)
  have hpk0 : ∀ (rb n cap : Nat) (A : Option Addr) (k : Int) (q : Nat) (V : World), k ≤ 100 → q ≤ 10000 → Rd V rb A n cap q → Calls Tryd.prog 39 #[.pointer (some ⟨rb, 0, none⟩), .int .i64 k] V fun e w' => PickP k e ∧ Rd w' rb A n cap (q + 1) ∧ V.grownBy w' (some rb) := fun rb n cap A k q V hk hq hr => pick_calls rb A n cap q k V hr (by omega) (by omega)
  have hnum0 : ∀ (rb n cap : Nat) (A : Option Addr) (q g : Nat) (W : World), q ≤ 10000 → NCells W g [-1, 8, 0] → g ≠ rb → Rd W rb A n cap q → Calls Tryd.prog 40 #[.pointer (some ⟨rb, 0, none⟩), .slice (some ⟨g, 0, none⟩) 3 3] W fun e w' => (∃ k : Int, e = .returned (.int .i64 k)) ∧ Rd w' rb A n cap (q + 1) ∧ W.grownBy w' (some rb) :=
    fun rb n cap A q g W hq h1 h2 h3 => (num_calls rb A n cap q g 3 [-1, 8, 0] W h3 (by omega) (by simp) (by simp) h1 h2).mono fun e w' ⟨⟨m, h4, _⟩, h6⟩ => ⟨⟨m, h4⟩, h6⟩
  have Hso := Lib.hid hso
  have Hsh0 := Lib.hid hsh0
  have Hbad0 := Lib.hid hbad0
  have Hpk0 := Lib.hid hpk0
  have Hnum0 := Lib.hid hnum0
  have X0 := Lib.hid (Bx.new w 27 #[.int .i64 0, .string (bs []), .string (bs [])])
  have B0 := Lib.hid ((Below.refl w.heap.size w).alloc (Nat.le_refl _) (.cells #[.int .i64 0, .string (bs []), .string (bs [])] 27))
  clear ho hso hsh0 hbad0 hpk0 hnum0 h hn hc hm
  go_enter Tryd.func15, Tryd.ntmps15
  go_wp2_with fail
  refine (Ho.out _ H0.out).mono ?_
  rintro e w1 ⟨⟨A', n', cap', rfl, hr⟩, hb⟩
  have F1 := Lib.hid (Fr.new (rb := w.heap.size + 1) B0.out hr hb (by simp))
  have X1 := Lib.hid (X0.out.call hb)
  have hs1 : w.heap.size + 1 < w1.heap.size := by have := hr.box.lt; simpa using this
  clear hr hb
  go_wp2_with fail
  refine (Hso.out _ _ _ _ _ F1.out.rd).mono ?_
  rintro e w2 ⟨⟨a, p1, rfl, ha, han, hp1, hrd⟩, hg⟩
  have F2 := Lib.hid (F1.out.step hrd hg)
  have X2 := Lib.hid (X1.out.grown' hg (by simp))
  have hs2 : w.heap.size + 1 < w2.heap.size := Nat.lt_of_lt_of_le hs1 hg.size
  have Hsh := Lib.hid (fun (W : World) (h : Rd W (w.heap.size + 1) A' n' cap' p1) => Hsh0.out _ _ _ _ _ a.n (by omega) (by omega) W h)
  have Hbad := Lib.hid (fun (p : Nat) (hp : p ≤ 10000) (W : World) (h : Rd W (w.heap.size + 1) A' n' cap' p) => Hbad0.out _ _ _ _ a ha han p hp W h)
  have Hpk := Lib.hid (fun (k : Int) (q : Nat) (W : World) hk hq (h : Rd W (w.heap.size + 1) A' n' cap' q) => Hpk0.out _ _ _ _ k q W hk hq h)
  have Hnum := Lib.hid (fun (q g : Nat) (W : World) hq h1 h2 (h : Rd W (w.heap.size + 1) A' n' cap' q) => Hnum0.out _ _ _ _ q g W hq h1 h2 h)
  have Hn1 := Lib.hid ha.lo
  have hnw : IntKind.i64.wrap ((a.n : Int) + 1) = (a.n : Int) + 1 := IntWalk.i64_in _ (by omega)
  have hsa := st_small ha
  have Hpos := Lib.hid (fun (x : Int) hx0 hxn => @orbV_pos a ha x hx0 hxn)
  clear hrd hg ha
  have Horb := Lib.hid (fun (x : Int) (W : World) => OrbitOf_spec a.n (bs a.set) (bs a.rel) x W (by have := hsa; unfold maxLen; omega) (by have := hsa; unfold maxLen; omega))
  go_upto_region 3 with (fail)
  have F5 := Lib.hid (F2.out.alloc (.cells #[.int .i64 (a.n : Int), .string (bs a.set), .string (bs a.rel)] 27)).drew
  have X5 := Lib.hid (X2.out.alloc (.cells #[.int .i64 (a.n : Int), .string (bs a.set), .string (bs a.rel)] 27)).drew
  have XA5 := Lib.hid (Bx.new w2 27 #[.int .i64 (a.n : Int), .string (bs a.set), .string (bs a.rel)]).drew
  have m0 := XA5.out.cell 0
  refine region_sched [(0, true), (1, true), (2, true), (4, true), (5, true), (6, true), (7, true), (3, false), (8, false), (9, true), (10, true)] (fun w' : World => w'.cell? ⟨w2.heap.size, 0, none⟩ = some (.int .i64 (a.n : Int))) (by kernel_rfl) (by kernel_rfl) (by kernel_rfl) (by kernel_rfl) (fun _ _ _ _ h => h) ?_ (fun Q1 hQ1 => ?_)
  · exact m0
  try simp only [List.append]
  refine sched_take' (v := ?_) (a' := ?_) rfl (by kernel_rfl) ?_ rfl ?_ ?_
  rotate_left 2
  · intro w hSw
    (try dsimp only at hSw)
    go_simp
    try with_reducible rfl
  · (try simp only [Act.put, List.setIfInBounds_toArray, List.set_cons_zero, List.set_cons_succ])
    try rfl
  refine sched_take' (v := ?_) (a' := ?_) rfl (by kernel_rfl) ?_ rfl ?_ ?_
  rotate_left 2
  · intro w hSw
    (try dsimp only at hSw)
    go_simp
    try with_reducible rfl
  · (try simp only [Act.put, List.setIfInBounds_toArray, List.set_cons_zero, List.set_cons_succ])
    try rfl
  refine sched_take' (v := ?_) (a' := ?_) rfl (by kernel_rfl) ?_ rfl ?_ ?_
  rotate_left 2
  · intro w hSw
    (try dsimp only at hSw)
    go_simp
    try with_reducible rfl
  · (try simp only [Act.put, List.setIfInBounds_toArray, List.set_cons_zero, List.set_cons_succ])
    try rfl
  refine sched_take' (v := ?_) (a' := ?_) rfl (by kernel_rfl) ?_ rfl ?_ ?_
  rotate_left 2
  · intro w hSw
    (try dsimp only at hSw)
    go_simp
    try with_reducible rfl
  · (try simp only [Act.put, List.setIfInBounds_toArray, List.set_cons_zero, List.set_cons_succ])
    try rfl
  refine sched_take' (v := ?_) (a' := ?_) rfl (by kernel_rfl) ?_ rfl ?_ ?_
  rotate_left 2
  · intro w hSw
    (try dsimp only at hSw)
    go_simp
    try with_reducible rfl
  · (try simp only [Act.put, List.setIfInBounds_toArray, List.set_cons_zero, List.set_cons_succ])
    try rfl
  refine sched_take' (v := ?_) (a' := ?_) rfl (by kernel_rfl) ?_ rfl ?_ ?_
  rotate_left 2
  · intro w hSw
    (try dsimp only at hSw)
    go_simp
    try with_reducible rfl
  · (try simp only [Act.put, List.setIfInBounds_toArray, List.set_cons_zero, List.set_cons_succ])
    try rfl
  refine sched_take' (v := .int .i64 ((a.n : Int) + 1)) (a' := ?_) rfl (by kernel_rfl) ?_ rfl ?_ ?_
  rotate_left 1
  · intro w hSw
    (try dsimp only at hSw)
    go_simp
    first | done | exact IntWalk.i64_in _ (by omega) | (simp [*]; done) | (rw [IntWalk.i64_in _ (by omega)])
  · (try simp only [Act.put, List.setIfInBounds_toArray, List.set_cons_zero, List.set_cons_succ])
    try rfl
  refine sched_call rfl (by kernel_rfl) (fun K1 hK1 => ?_)
  go_simp
  refine (Hsh.out _ F5.out.rd).mono ?_
  rintro e w6 ⟨⟨L, g, cp, rfl, hL, hlt, hnd, ho0, hrd⟩, hg⟩
  have F6 := Lib.hid (F5.out.step hrd hg)
  have X6 := Lib.hid (X5.out.grown' hg (by first | (simp; done) | (simp; omega)))
  have XA6 := Lib.hid (XA5.out.grown' hg (by first | (simp; done) | (simp; omega)))
  have hrb : w.heap.size + 1 < w2.heap.size + 1 := by omega
  have ho := own_low ho0 (show w2.heap.size + 1 ≤ _ by simp)
  have O6 := Lib.hid ho
  obtain ⟨hcp1, hcp2, hgb, _⟩ := own_cap ho
  have HL := Lib.hid hL
  have hLn : L.length ≤ 5 := by omega
  have hL1 : 1 ≤ L.length := by have := Hn1.out; omega
  have Hlt := Lib.hid (And.intro hlt hnd)
  clear hrd hg ho ho0 hlt hnd hL m0
  go_wp2_with fail
  refine hK1.out _ _ ?_ (sched_lay (a' := ?_) ?_ ?_)
  · exact XA6.out.cell 0
  rotate_left 1
  · (try simp only [Act.put, List.getElem_toArray, List.getElem_cons_succ, List.getElem_cons_zero, List.setIfInBounds_toArray, List.set_cons_zero, List.set_cons_succ])
    try rfl
  clear hK1 K1
  refine sched_call rfl (by kernel_rfl) (fun K1 hK1 => ?_)
  go_simp
  refine (Hpk.out ((a.n : Nat) + 1) (p1 + a.n) _ (by omega) (by omega) F6.out.rd).mono ?_
  rintro e w7 ⟨⟨k', rfl, hk0, hk1, _⟩, hrd, hg⟩
  have hk2 := hk1 (by have := Hn1.out; omega)
  obtain ⟨k, rfl⟩ : ∃ k : Nat, k' = k := ⟨k'.toNat, by omega⟩
  have hkL : k ≤ L.length := by have := HL.out; omega
  unfold maxLen at hcp2
  have e1 : (0 : Int) ≤ (k : Int) := by omega
  have e2 : (k : Int) ≤ (cp : Int) := by omega
  have e3 : (k : Int) ≤ 5 := by omega
  have F7 := Lib.hid (F6.out.step hrd hg)
  have X7 := Lib.hid (X6.out.grown' hg (by first | (simp; done) | (simp; omega)))
  have XA7 := Lib.hid (XA6.out.grown' hg (by first | (simp; done) | (simp; omega)))
  have O7 := Lib.hid (own_dw O6.out hg hrb)
  clear hrd hg hk1
  go_wp2_with fail
  refine hK1.out _ _ ?_ (sched_lay (a' := ?_) ?_ ?_)
  · exact XA7.out.cell 0
  rotate_left 1
  · (try simp only [Act.put, List.getElem_toArray, List.getElem_cons_succ, List.getElem_cons_zero, List.setIfInBounds_toArray, List.set_cons_zero, List.set_cons_succ])
    try rfl
  clear hK1 K1
  refine sched_take' (v := .slice (some ⟨g, 0, none⟩) k cp) (a' := ?_) rfl (by kernel_rfl) ?_ rfl ?_ ?_
  rotate_left 1
  · intro w hSw
    (try dsimp only at hSw)
    go_simp
    first | done | omega | (simp; omega)
  · (try simp only [Act.put, List.setIfInBounds_toArray, List.set_cons_zero, List.set_cons_succ])
    try rfl
  refine sched_take' (v := ?_) (a' := ?_) rfl (by kernel_rfl) ?_ rfl ?_ ?_
  rotate_left 2
  · intro w hSw
    (try dsimp only at hSw)
    go_simp
    try with_reducible rfl
  · (try simp only [Act.put, List.setIfInBounds_toArray, List.set_cons_zero, List.set_cons_succ])
    try rfl
  refine sched_done (hQ1.out _ _ ?_)
  obtain ⟨zs0, hzs⟩ : ∃ zs, zs = (natsI L).take k := ⟨_, rfl⟩
  have hz : zs0.length = k := by rw [hzs, List.length_take, natsI_len]; omega
  have O7' := Lib.hid (show w7.ownsRow (w2.heap.size + 1) 3 1 (.slice (some ⟨g, 0, none⟩) k cp) k (intsV zs0) from by rw [hzs, ← intsV_take]; exact own_first O7.out hkL)
  have O7 := O7'
  clear O7' hzs
  have HZ0 := Lib.hid hz
  clear hz
  go_wp2_with fail
  refine (Hpk.out 3 (p1 + a.n + 1) _ (by omega) (by omega) F7.out.rd).mono ?_
  rintro e w8 ⟨⟨m2, rfl, hm20, hm21, _⟩, hrd, hg⟩
  have F8 := Lib.hid (F7.out.step hrd hg)
  have X8 := Lib.hid (X7.out.grown' hg (by first | (simp; done) | (simp; omega)))
  have XA8 := Lib.hid (XA7.out.grown' hg (by first | (simp; done) | (simp; omega)))
  have O8 := Lib.hid (own_dw O7.out hg hrb)
  clear hrd hg hm21
  by_cases h2 : m2 = 0
  · subst h2
    go_upto_region 5 with (fail)
    have F9 := Lib.hid F8.out.drew
    have X9 := Lib.hid X8.out.drew
    have XA9 := Lib.hid XA8.out.drew
    obtain ⟨m0, m1, m2⟩ := box_load XA9.out
    refine region_sched [(0, true), (1, true), (2, true), (3, true), (4, false), (5, false), (6, true)] (fun w' : World => w'.cell? ⟨w2.heap.size, 0, none⟩ = some (.int .i64 (a.n : Int)) ∧ w'.cell? ⟨w2.heap.size, 1, none⟩ = some (.string (bs a.set)) ∧ w'.cell? ⟨w2.heap.size, 2, none⟩ = some (.string (bs a.rel))) (by kernel_rfl) (by kernel_rfl) (by kernel_rfl) (by kernel_rfl) (fun _ _ _ _ h => h) ?_ (fun Q1 hQ1 => ?_)
    · exact ⟨m0, m1, m2⟩
    try simp only [List.append]
    refine sched_take' (v := .agg #[.int .i64 (a.n : Int), .string (bs a.set), .string (bs a.rel)]) (a' := ?_) rfl (by kernel_rfl) ?_ rfl ?_ ?_
    rotate_left 1
    · intro w hSw
      (try dsimp only at hSw)
      go_simp
      first | done | (obtain ⟨u0, u1, u2⟩ := hSw; simp [*])
    · (try simp only [Act.put, List.setIfInBounds_toArray, List.set_cons_zero, List.set_cons_succ])
      try rfl
    refine sched_take' (v := ?_) (a' := ?_) rfl (by kernel_rfl) ?_ rfl ?_ ?_
    rotate_left 2
    · intro w hSw
      (try dsimp only at hSw)
      go_simp
      try with_reducible rfl
    · (try simp only [Act.put, List.setIfInBounds_toArray, List.set_cons_zero, List.set_cons_succ])
      try rfl
    refine sched_take' (v := ?_) (a' := ?_) rfl (by kernel_rfl) ?_ rfl ?_ ?_
    rotate_left 2
    · intro w hSw
      (try dsimp only at hSw)
      go_simp
      try with_reducible rfl
    · (try simp only [Act.put, List.setIfInBounds_toArray, List.set_cons_zero, List.set_cons_succ])
      try rfl
    refine sched_take' (v := .int .i64 (a.n : Int)) (a' := ?_) rfl (by kernel_rfl) ?_ rfl ?_ ?_
    rotate_left 1
    · intro w hSw
      (try dsimp only at hSw)
      go_simp
      first | done | (obtain ⟨u0, u1, u2⟩ := hSw; simp [*])
    · (try simp only [Act.put, List.setIfInBounds_toArray, List.set_cons_zero, List.set_cons_succ])
      try rfl
    refine sched_call rfl (by kernel_rfl) (fun K1 hK1 => ?_)
    go_simp
    refine (Hpk.out (a.n : Nat) (p1 + a.n + 1 + 1) _ (by omega) (by omega) F9.out.rd).mono ?_
    rintro e w10 ⟨⟨x', rfl, hx0, hx1, _⟩, hrd, hg⟩
    have hx2 := hx1 (by have := Hn1.out; omega)
    have F10 := Lib.hid (F9.out.step hrd hg)
    have X10 := Lib.hid (X9.out.grown' hg (by first | (simp; done) | (simp; omega)))
    have XA10 := Lib.hid (XA9.out.grown' hg (by first | (simp; done) | (simp; omega)))
    clear hrd hg hx1
    clear m0 m1 m2
    obtain ⟨m0, m1, m2⟩ := box_load XA10.out
    go_wp2_with fail
    refine hK1.out _ _ ?_ (sched_lay (a' := ?_) ?_ ?_)
    · exact ⟨m0, m1, m2⟩
    rotate_left 1
    · (try simp only [Act.put, List.getElem_toArray, List.getElem_cons_succ, List.getElem_cons_zero, List.setIfInBounds_toArray, List.set_cons_zero, List.set_cons_succ])
      try rfl
    clear hK1 K1
    refine sched_call rfl (by kernel_rfl) (fun K1 hK1 => ?_)
    go_simp
    refine (Horb.out x' _).mono ?_
    rintro e w11 ⟨⟨v, rfl, ho⟩, hz⟩
    obtain ⟨gC, cc, rfl⟩ := own_shape ho (Hpos.out x' hx0 hx2)
    have F11 := Lib.hid (F10.out.call hz)
    have X11 := Lib.hid (X10.out.call hz)
    have XA11 := Lib.hid (XA10.out.call hz)
    have ho2 := own_low ho (show w2.heap.size + 1 ≤ _ from XA10.out.lt)
    have h8 := orbV_le a.n (bs a.set) (bs a.rel) x'
    obtain ⟨zs, hzs⟩ : ∃ zs, zs = natsI (orbV a.n (bs a.set) (bs a.rel) x') := ⟨_, rfl⟩
    have hz2 : zs.length = (orbV a.n (bs a.set) (bs a.rel) x').length := by rw [hzs, natsI_len]
    rw [← hzs] at ho2
    have HZ := Lib.hid hz2
    have O11 := Lib.hid ho2
    clear hz ho ho2 hzs hz2
    clear m0 m1 m2
    obtain ⟨m0, m1, m2⟩ := box_load XA11.out
    go_wp2_with fail
    refine hK1.out _ _ ?_ (sched_lay (a' := ?_) ?_ ?_)
    · exact ⟨m0, m1, m2⟩
    rotate_left 1
    · (try simp only [Act.put, List.getElem_toArray, List.getElem_cons_succ, List.getElem_cons_zero, List.setIfInBounds_toArray, List.set_cons_zero, List.set_cons_succ])
      try rfl
    clear hK1 K1
    refine sched_take' (v := ?_) (a' := ?_) rfl (by kernel_rfl) ?_ rfl ?_ ?_
    rotate_left 2
    · intro w hSw
      (try dsimp only at hSw)
      go_simp
      try with_reducible rfl
    · (try simp only [Act.put, List.setIfInBounds_toArray, List.set_cons_zero, List.set_cons_succ])
      try rfl
    refine sched_done (hQ1.out _ _ ?_)
    clear m0 m1 m2
    generalize hlen : (orbV a.n (bs a.set) (bs a.rel) x').length = len at *
    clear hlen
    go_wp2_with fail
    refine (Hpk.out 20 (p1 + a.n + 1 + 1 + 1) _ (by omega) (by omega) F11.out.rd).mono ?_
    rintro e w12 ⟨⟨m4, rfl, hm40, hm41, _⟩, hrd, hg⟩
    have F12 := Lib.hid (F11.out.step hrd hg)
    have X12 := Lib.hid (X11.out.grown' hg (by first | (simp; done) | (simp; omega)))
    have XA12 := Lib.hid (XA11.out.grown' hg (by first | (simp; done) | (simp; omega)))
    have O12 := Lib.hid (own_dw O11.out hg hrb)
    clear hrd hg hm41
    by_cases h4 : m4 = 0
    · subst h4
      have F13 := Lib.hid (F12.out.alloc (.cells #[.int .i64 (-1), .int .i64 8, .int .i64 0] 3))
      have X13 := Lib.hid (X12.out.alloc (.cells #[.int .i64 (-1), .int .i64 8, .int .i64 0] 3))
      have XA13 := Lib.hid (XA12.out.alloc (.cells #[.int .i64 (-1), .int .i64 8, .int .i64 0] 3))
      have O13 := Lib.hid (O12.out.alloc (.cells #[.int .i64 (-1), .int .i64 8, .int .i64 0] 3))
      have N13 := Lib.hid (ncells_new w12 [-1, 8, 0] 3)
      have hrb8 := F12.out.rd.box.lt
      go_wp2_with fail
      refine (Hnum.out (p1 + a.n + 1 + 1 + 1 + 1) _ _ (by omega) (by have := N13.out; simpa using this) (by omega) F13.out.rd).mono ?_
      rintro e w14 ⟨⟨x, rfl⟩, hrd, hg⟩
      have F14 := Lib.hid (F13.out.step hrd hg)
      have X14 := Lib.hid (X13.out.grown' hg (by first | (simp; done) | (simp; omega)))
      have XA14 := Lib.hid (XA13.out.grown' hg (by first | (simp; done) | (simp; omega)))
      have O14 := Lib.hid (own_dw O13.out hg hrb)
      clear hrd hg
      have F15 := Lib.hid (F14.out.alloc (.cells #[.int .i64 x] 3))
      have X15 := Lib.hid (X14.out.alloc (.cells #[.int .i64 x] 3))
      have XA15 := Lib.hid (XA14.out.alloc (.cells #[.int .i64 x] 3))
      go_wp2_with (at_builtin; refine wpList_append_own_at _ rfl (.tmp 33) (.tmp 37) 24 rfl (w2.heap.size + 1) 3 i0 (.int .i64 0) 1 8 Tryd.underlying24 hi hz0 hz1 hz2 rfl (by decide) _ len (intsV zs) rfl (O14.out.alloc _) ⟨w14.heap.size, 0, none⟩ 1 1 [.int .i64 x] rfl rfl (cell_one_new _ _ _) (ints_oneCell .i64 [x]) (by unfold maxLen; omega) (by omega) (by have := F14.out.bel.size; have := XA14.out.lt; simp; omega) ?_; intro v12 w16 ho hg hnn hat; clear hnn hat; obtain ⟨g12, cp12, rfl⟩ := own_shape ho (by omega); have F16 := Lib.hid (F15.out.app hg (fun j hj => by have := (O14.out.lt j hj).1; omega)); have X16 := Lib.hid (X15.out.grown' hg (fun e => by have := (O14.out.lt _ e.symm).1; omega)); have XA16 := Lib.hid (XA15.out.grown' hg (fun e => by have := (O14.out.lt _ e.symm).1; omega)); have O16 := Lib.hid (show w16.ownsRow (w2.heap.size + 1) 3 1 (.slice (some ⟨g12, 0, none⟩) (len + 1) cp12) (len + 1) (intsV (zs ++ [x])) from by rw [show intsV (zs ++ [x]) = intsV zs ++ [.int .i64 x] by simp [intsV]]; exact ho); have HZ := Lib.hid (show (zs ++ [x]).length = len + 1 by rw [List.length_append, HZ.out]; rfl); clear ho hg; obtain ⟨m0, m1, m2⟩ := box_load XA16.out)
      refine (Hbad.out (p1 + a.n + 1 + 1 + 1 + 1 + 1) (by omega) _ F16.out.rd).mono ?_
      rintro e w17 ⟨⟨i, s, r, p9, rfl, hi, hs, hr, _, hrd, hfar⟩, hg⟩
      have F17 := Lib.hid (F16.out.step hrd hg)
      have X17 := Lib.hid (X16.out.grown' hg (by first | (simp; done) | (simp; omega)))
      have XA17 := Lib.hid (XA16.out.grown' hg (by first | (simp; done) | (simp; omega)))
      have O17 := Lib.hid (own_dw O16.out hg hrb)
      have HI := Lib.hid hi
      clear hrd hg hi m0 m1 m2
      obtain ⟨c0, c1, c2⟩ := box_load X17.out
      have f0 := X17.out.free 0
      have f1 := X17.out.free 1
      have f2 := X17.out.free 2
      obtain ⟨q0, q1, q2⟩ := box_load (X17.out.puts (.int .i64 i) (.string s) (.string r))
      have E1 := Lib.hid (below_puts F17.out.bel (Nat.le_refl _) (.int .i64 i) (.string s) (.string r))
      have O99 := Lib.hid (own_far (p := ⟨w.heap.size, 2, none⟩) (own_far (p := ⟨w.heap.size, 1, none⟩) (own_far (p := ⟨w.heap.size, 0, none⟩) O17.out (fun g' hg' => by have := (O17.out.lt g' hg').1; show g' ≠ w.heap.size; omega) (.int .i64 i)) (fun g' hg' => by have := (O17.out.lt g' hg').1; show g' ≠ w.heap.size; omega) (.string s)) (fun g' hg' => by have := (O17.out.lt g' hg').1; show g' ≠ w.heap.size; omega) (.string r))
      go_wp2_with fail
      refine bodyPost_ret (v := .tuple #[stV i s r, .slice (some ⟨g12, 0, none⟩) (len + 1) cp12]) ?_ rfl ⟨⟨i, s, r, (zs ++ [x]), _, _, by rw [HZ.out], hs, hr, by have := HZ.out; omega, by have := own_le O99.out; have := HZ.out; omega, LRow_of O99.out⟩, E1.out⟩
      simp [results, Tryd.results15, go_sem, q0, q1, q2]
    · have hb4 : (m4 == 0) = false := beq_eq_false_iff_ne.2 (by omega)
      obtain ⟨m0, m1, m2⟩ := box_load XA12.out
      go_wp2_with fail
      refine (Hbad.out (p1 + a.n + 1 + 1 + 1 + 1) (by omega) _ F12.out.rd).mono ?_
      rintro e w13 ⟨⟨i, s, r, p9, rfl, hi, hs, hr, _, hrd, hfar⟩, hg⟩
      have F13 := Lib.hid (F12.out.step hrd hg)
      have X13 := Lib.hid (X12.out.grown' hg (by first | (simp; done) | (simp; omega)))
      have XA13 := Lib.hid (XA12.out.grown' hg (by first | (simp; done) | (simp; omega)))
      have O13 := Lib.hid (own_dw O12.out hg hrb)
      have HI := Lib.hid hi
      clear hrd hg hi m0 m1 m2
      obtain ⟨c0, c1, c2⟩ := box_load X13.out
      have f0 := X13.out.free 0
      have f1 := X13.out.free 1
      have f2 := X13.out.free 2
      obtain ⟨q0, q1, q2⟩ := box_load (X13.out.puts (.int .i64 i) (.string s) (.string r))
      have E1 := Lib.hid (below_puts F13.out.bel (Nat.le_refl _) (.int .i64 i) (.string s) (.string r))
      have O99 := Lib.hid (own_far (p := ⟨w.heap.size, 2, none⟩) (own_far (p := ⟨w.heap.size, 1, none⟩) (own_far (p := ⟨w.heap.size, 0, none⟩) O13.out (fun g' hg' => by have := (O13.out.lt g' hg').1; show g' ≠ w.heap.size; omega) (.int .i64 i)) (fun g' hg' => by have := (O13.out.lt g' hg').1; show g' ≠ w.heap.size; omega) (.string s)) (fun g' hg' => by have := (O13.out.lt g' hg').1; show g' ≠ w.heap.size; omega) (.string r))
      go_wp2_with fail
      refine bodyPost_ret (v := .tuple #[stV i s r, .slice (some ⟨gC, 0, none⟩) len cc]) ?_ rfl ⟨⟨i, s, r, zs, _, _, by rw [HZ.out], hs, hr, by have := HZ.out; omega, by have := own_le O99.out; have := HZ.out; omega, LRow_of O99.out⟩, E1.out⟩
      simp [results, Tryd.results15, go_sem, q0, q1, q2]
  · have hb2 : (m2 == 0) = false := beq_eq_false_iff_ne.2 (by omega)
    have HZ := HZ0
    go_wp2_with fail
    refine (Hpk.out 20 (p1 + a.n + 1 + 1) _ (by omega) (by omega) F8.out.rd).mono ?_
    rintro e w9 ⟨⟨m4, rfl, hm40, hm41, _⟩, hrd, hg⟩
    have F9 := Lib.hid (F8.out.step hrd hg)
    have X9 := Lib.hid (X8.out.grown' hg (by first | (simp; done) | (simp; omega)))
    have XA9 := Lib.hid (XA8.out.grown' hg (by first | (simp; done) | (simp; omega)))
    have O9 := Lib.hid (own_dw O8.out hg hrb)
    clear hrd hg hm41
    by_cases h4 : m4 = 0
    · subst h4
      have F10 := Lib.hid (F9.out.alloc (.cells #[.int .i64 (-1), .int .i64 8, .int .i64 0] 3))
      have X10 := Lib.hid (X9.out.alloc (.cells #[.int .i64 (-1), .int .i64 8, .int .i64 0] 3))
      have XA10 := Lib.hid (XA9.out.alloc (.cells #[.int .i64 (-1), .int .i64 8, .int .i64 0] 3))
      have O10 := Lib.hid (O9.out.alloc (.cells #[.int .i64 (-1), .int .i64 8, .int .i64 0] 3))
      have N10 := Lib.hid (ncells_new w9 [-1, 8, 0] 3)
      have hrb8 := F9.out.rd.box.lt
      go_wp2_with fail
      refine (Hnum.out (p1 + a.n + 1 + 1 + 1) _ _ (by omega) (by have := N10.out; simpa using this) (by omega) F10.out.rd).mono ?_
      rintro e w11 ⟨⟨x, rfl⟩, hrd, hg⟩
      have F11 := Lib.hid (F10.out.step hrd hg)
      have X11 := Lib.hid (X10.out.grown' hg (by first | (simp; done) | (simp; omega)))
      have XA11 := Lib.hid (XA10.out.grown' hg (by first | (simp; done) | (simp; omega)))
      have O11 := Lib.hid (own_dw O10.out hg hrb)
      clear hrd hg
      have F12 := Lib.hid (F11.out.alloc (.cells #[.int .i64 x] 3))
      have X12 := Lib.hid (X11.out.alloc (.cells #[.int .i64 x] 3))
      have XA12 := Lib.hid (XA11.out.alloc (.cells #[.int .i64 x] 3))
      go_wp2_with (at_builtin; refine wpList_append_own_at _ rfl (.tmp 33) (.tmp 37) 24 rfl (w2.heap.size + 1) 3 i0 (.int .i64 0) 1 8 Tryd.underlying24 hi hz0 hz1 hz2 rfl (by decide) _ k (intsV zs0) rfl (O11.out.alloc _) ⟨w11.heap.size, 0, none⟩ 1 1 [.int .i64 x] rfl rfl (cell_one_new _ _ _) (ints_oneCell .i64 [x]) (by unfold maxLen; omega) (by omega) (by have := F11.out.bel.size; have := XA11.out.lt; simp; omega) ?_; intro v12 w13 ho hg hnn hat; clear hnn hat; obtain ⟨g12, cp12, rfl⟩ := own_shape ho (by omega); have F13 := Lib.hid (F12.out.app hg (fun j hj => by have := (O11.out.lt j hj).1; omega)); have X13 := Lib.hid (X12.out.grown' hg (fun e => by have := (O11.out.lt _ e.symm).1; omega)); have XA13 := Lib.hid (XA12.out.grown' hg (fun e => by have := (O11.out.lt _ e.symm).1; omega)); have O13 := Lib.hid (show w13.ownsRow (w2.heap.size + 1) 3 1 (.slice (some ⟨g12, 0, none⟩) (k + 1) cp12) (k + 1) (intsV (zs0 ++ [x])) from by rw [show intsV (zs0 ++ [x]) = intsV zs0 ++ [.int .i64 x] by simp [intsV]]; exact ho); have HZ := Lib.hid (show (zs0 ++ [x]).length = k + 1 by rw [List.length_append, HZ.out]; rfl); clear ho hg; obtain ⟨m0, m1, m2⟩ := box_load XA13.out)
      refine (Hbad.out (p1 + a.n + 1 + 1 + 1 + 1) (by omega) _ F13.out.rd).mono ?_
      rintro e w14 ⟨⟨i, s, r, p9, rfl, hi, hs, hr, _, hrd, hfar⟩, hg⟩
      have F14 := Lib.hid (F13.out.step hrd hg)
      have X14 := Lib.hid (X13.out.grown' hg (by first | (simp; done) | (simp; omega)))
      have XA14 := Lib.hid (XA13.out.grown' hg (by first | (simp; done) | (simp; omega)))
      have O14 := Lib.hid (own_dw O13.out hg hrb)
      have HI := Lib.hid hi
      clear hrd hg hi m0 m1 m2
      obtain ⟨c0, c1, c2⟩ := box_load X14.out
      have f0 := X14.out.free 0
      have f1 := X14.out.free 1
      have f2 := X14.out.free 2
      obtain ⟨q0, q1, q2⟩ := box_load (X14.out.puts (.int .i64 i) (.string s) (.string r))
      have E1 := Lib.hid (below_puts F14.out.bel (Nat.le_refl _) (.int .i64 i) (.string s) (.string r))
      have O99 := Lib.hid (own_far (p := ⟨w.heap.size, 2, none⟩) (own_far (p := ⟨w.heap.size, 1, none⟩) (own_far (p := ⟨w.heap.size, 0, none⟩) O14.out (fun g' hg' => by have := (O14.out.lt g' hg').1; show g' ≠ w.heap.size; omega) (.int .i64 i)) (fun g' hg' => by have := (O14.out.lt g' hg').1; show g' ≠ w.heap.size; omega) (.string s)) (fun g' hg' => by have := (O14.out.lt g' hg').1; show g' ≠ w.heap.size; omega) (.string r))
      go_wp2_with fail
      refine bodyPost_ret (v := .tuple #[stV i s r, .slice (some ⟨g12, 0, none⟩) (k + 1) cp12]) ?_ rfl ⟨⟨i, s, r, (zs0 ++ [x]), _, _, by rw [HZ.out], hs, hr, by have := HZ.out; omega, by have := own_le O99.out; have := HZ.out; omega, LRow_of O99.out⟩, E1.out⟩
      simp [results, Tryd.results15, go_sem, q0, q1, q2]
    · have hb4 : (m4 == 0) = false := beq_eq_false_iff_ne.2 (by omega)
      obtain ⟨m0, m1, m2⟩ := box_load XA9.out
      go_wp2_with fail
      refine (Hbad.out (p1 + a.n + 1 + 1 + 1) (by omega) _ F9.out.rd).mono ?_
      rintro e w10 ⟨⟨i, s, r, p9, rfl, hi, hs, hr, _, hrd, hfar⟩, hg⟩
      have F10 := Lib.hid (F9.out.step hrd hg)
      have X10 := Lib.hid (X9.out.grown' hg (by first | (simp; done) | (simp; omega)))
      have XA10 := Lib.hid (XA9.out.grown' hg (by first | (simp; done) | (simp; omega)))
      have O10 := Lib.hid (own_dw O9.out hg hrb)
      have HI := Lib.hid hi
      clear hrd hg hi m0 m1 m2
      obtain ⟨c0, c1, c2⟩ := box_load X10.out
      have f0 := X10.out.free 0
      have f1 := X10.out.free 1
      have f2 := X10.out.free 2
      obtain ⟨q0, q1, q2⟩ := box_load (X10.out.puts (.int .i64 i) (.string s) (.string r))
      have E1 := Lib.hid (below_puts F10.out.bel (Nat.le_refl _) (.int .i64 i) (.string s) (.string r))
      have O99 := Lib.hid (own_far (p := ⟨w.heap.size, 2, none⟩) (own_far (p := ⟨w.heap.size, 1, none⟩) (own_far (p := ⟨w.heap.size, 0, none⟩) O10.out (fun g' hg' => by have := (O10.out.lt g' hg').1; show g' ≠ w.heap.size; omega) (.int .i64 i)) (fun g' hg' => by have := (O10.out.lt g' hg').1; show g' ≠ w.heap.size; omega) (.string s)) (fun g' hg' => by have := (O10.out.lt g' hg').1; show g' ≠ w.heap.size; omega) (.string r))
      go_wp2_with fail
      refine bodyPost_ret (v := .tuple #[stV i s r, .slice (some ⟨g, 0, none⟩) k cp]) ?_ rfl ⟨⟨i, s, r, zs0, _, _, by rw [HZ.out], hs, hr, by have := HZ.out; omega, by have := own_le O99.out; have := HZ.out; omega, LRow_of O99.out⟩, E1.out⟩
      simp [results, Tryd.results15, go_sem, q0, q1, q2]

end Go.Proofs.YtgnmlijfenjehaaDoor
