/-
  The walk of FnExactSameShape. Condition: texts below the reach.
-/
import Derived.Test.YtdogpookippbaaaDoorSame
import Derived.Test.YtdogpookippbaaaDoorMark
namespace Go.Proofs.YtdogpookippbaaaDoor
open Go.RowKit
open Pl
set_option linter.unusedSimpArgs false
set_option linter.unusedVariables false
attribute [local go_sem ↓] Go.wp_at_zero Go.wp_at_succ

/-- two boxes of the law behind a call -/
def TwoL (w W : World) (ca cb : Array Value) : Prop := Bx W w.heap.size 23 ca ∧ Bx W (w.heap.size + 1) 23 cb
theorem TwoL.call {w W W' : World} {ca cb : Array Value} (h : TwoL w W ca cb) (hb : Below W.heap.size W W') : TwoL w W' ca cb := ⟨h.1.call hb, h.2.call hb⟩
theorem TwoL.drew {w W : World} {ca cb : Array Value} (h : TwoL w W ca cb) : TwoL w W.drew ca cb := h
theorem TwoL.below {w W W' : World} {ca cb : Array Value} {B : Nat} (h : TwoL w W ca cb) (hb : Below B W W') (hB : w.heap.size + 2 ≤ B) : TwoL w W' ca cb := ⟨h.1.below hb (by omega), h.2.below hb (by omega)⟩
theorem TwoL.lt {w W : World} {ca cb : Array Value} (h : TwoL w W ca cb) : w.heap.size + 2 ≤ W.heap.size := by have := h.2.lt; omega
theorem TwoL.six {w W : World} {a b c d e f : Value} (h : TwoL w W #[a, b, c] #[d, e, f]) : W.cell? ⟨w.heap.size, 0, none⟩ = some a ∧ W.cell? ⟨w.heap.size, 1, none⟩ = some b ∧ W.cell? ⟨w.heap.size, 2, none⟩ = some c ∧ W.cell? ⟨w.heap.size + 1, 0, none⟩ = some d ∧ W.cell? ⟨w.heap.size + 1, 1, none⟩ = some e ∧ W.cell? ⟨w.heap.size + 1, 2, none⟩ = some f :=
  ⟨h.1.cell 0, h.1.cell 1, h.1.cell 2, h.2.cell 0, h.2.cell 1, h.2.cell 2⟩
theorem bx_twoL (w : World) (o : Obj) (cs : Array Value) : Bx ((w.alloc o).alloc (.cells cs 23)) (w.heap.size + 1) 23 cs := bx_two w o cs

theorem own_slice {W : World} {base : Nat} {v : Value} {o : List Nat} (h : W.ownsRow base 3 1 v o.length (intsV (natsI o))) : ∃ A cap, v = .slice A o.length cap := by
  obtain ⟨A, cap, h, _⟩ := own_open h
  exact ⟨A, cap, h⟩

theorem shp_le (i : Int) (s r : ByteArray) (j : Int) (t u : ByteArray) : ((shpL i s r j t u).headD []).length ≤ 8 := by
  rcases shp_cases i s r j t u with ⟨_, h⟩ | ⟨_, _, h⟩ | ⟨_, _, _, h⟩ | ⟨a, b, ha, _, _, _, _, _, _, _, _, h⟩
  · rw [h]; simp
  · rw [h]; simp
  · rw [h]; simp
  · rw [h]
    cases hI : isos a b with
    | nil => simp
    | cons l L =>
      have : l ∈ isos a b := by rw [hI]; simp
      have h8 := ha.hi
      have hl := (mem_isos.1 this).1
      simp only [List.headD_cons]
      omega

set_option maxHeartbeats 8000000 in
set_option maxRecDepth 100000 in
theorem FnExactSameShape_walk (i : Int) (s r : ByteArray) (j : Int) (t u : ByteArray) (w : World) (hi : (Lit.int .i64 i).wf = true) (hs : s.size ≤ maxLen) (hr : r.size ≤ maxLen) (hj : (Lit.int .i64 j).wf = true) (ht : t.size ≤ maxLen) (hu : u.size ≤ maxLen) :
    Calls Tryd.prog 4 #[stV i s r, stV j t u] w fun e w' => e = .returned (.bool true) ∧ Below w.heap.size w w' := by
  obtain ⟨R, hR⟩ : ∃ R, R = (shpL i s r j t u).headD [] := ⟨_, rfl⟩
  obtain ⟨q, hq⟩ : ∃ q, q = !(shpL i s r j t u).isEmpty := ⟨_, rfl⟩
  have c1 : ∀ W, Calls Tryd.prog 14 #[stV i s r, stV j t u] W fun e w' => (∃ g cap, e = .returned (.tuple #[.slice (some ⟨g, 0, none⟩) R.length cap, .bool q]) ∧ LRow w' (some ⟨g, 0, none⟩) (natsI R)) ∧ Below W.heap.size W w' := fun W => by
    rw [hR, hq]; exact SameShape_spec i s r j t u W hs hr ht hu
  have c2 : ∀ W, Calls Tryd.prog 15 #[stV i s r, stV j t u] W fun e w' => (∃ A cap, e = .returned (.tuple #[.slice A R.length cap, .bool q]) ∧ w'.ownsRow W.heap.size 3 1 (.slice A R.length cap) R.length (intsV (natsI R))) ∧ Below W.heap.size W w' := fun W => by
    rw [hR, hq]
    exact (SameShape_impl i s r j t u W hs hr ht hu).mono fun e w' ⟨⟨v, h1, h2⟩, h3⟩ => by
      obtain ⟨A, cap, rfl⟩ := own_slice h2
      exact ⟨⟨A, cap, h1, h2⟩, h3⟩
  have h8 : R.length ≤ 8 := by rw [hR]; exact shp_le i s r j t u
  have cm : ∀ (base : Nat) (A : Option Addr) (cap : Nat) (W : World), W.ownsRow base 3 1 (.slice A R.length cap) R.length (intsV (natsI R)) → base ≤ W.heap.size → Calls Tryd.prog 17 #[.slice A R.length cap, .int .i64 1] W fun e w' => e = .returned (.int .i64 (1 + (R.length : Int))) ∧ w'.ownsRow base 3 1 (.slice A R.length cap) R.length (intsV (marksI R.length)) ∧ Below base W w' :=
    fun base A cap W h hb => markIntS_calls base A R.length cap _ W (by omega) h hb
  have ch : ∀ (A : Option Addr) (cap : Nat) (W : World), LRow W A (marksI R.length) → Calls Tryd.prog 18 #[.slice A R.length cap, .int .i64 1] W fun e w' => e = .returned (.int .i64 (1 + (R.length : Int))) ∧ W = w' :=
    fun A cap W h => heldIntS_calls A R.length cap W (by omega) h
  have ce : ∀ (A C : Option Addr) (c1 c2 : Nat) (W : World), LRow W A (natsI R) → LRow W C (natsI R) → Calls Tryd.prog 16 #[.slice A R.length c1, .slice C R.length c2] W fun e w' => e = .returned (.bool true) ∧ Below W.heap.size W w' := fun A C c1 c2 W h1 h2 => by
    have h := eqIntS_calls A C c1 c2 (natsI R) W (by rw [natsI_len]; omega) h1 h2
    rwa [natsI_len] at h
  have Hs := Lib.hid hs
  have Hr := Lib.hid hr
  have Ht := Lib.hid ht
  have Hu := Lib.hid hu
  have C1 := Lib.hid c1
  have C2 := Lib.hid c2
  have CM := Lib.hid cm
  have CH := Lib.hid ch
  have CE := Lib.hid ce
  clear c1 c2 cm ch ce hs hr ht hu hi hj hR hq
  have X0 := Lib.hid (show TwoL w ((w.alloc (.cells #[.int .i64 i, .string s, .string r] 23)).alloc (.cells #[.int .i64 j, .string t, .string u] 23)) #[.int .i64 i, .string s, .string r] #[.int .i64 j, .string t, .string u] from ⟨(Bx.new w _ _).alloc _, bx_twoL w _ _⟩)
  have B0 := Lib.hid (((Below.refl w.heap.size w).alloc (Nat.le_refl _) (.cells #[.int .i64 i, .string s, .string r] 23)).alloc (by simp) (.cells #[.int .i64 j, .string t, .string u] 23))
  go_enter Tryd.func4, Tryd.ntmps4
  go_wp2_with fail
  refine (szStructure_calls i s r 1048576 _ (Nat.le_refl _) Hs.out Hr.out).mono ?_
  rintro e w1 ⟨⟨m, rfl, hm⟩, hz⟩
  have X1 := Lib.hid (X0.out.call hz)
  have B1 := Lib.hid (B0.out.trans (hz.mono B0.out.size))
  clear hz
  obtain ⟨m0, m1, m2, m3, m4, m5⟩ := X1.out.six
  by_cases h0 : 0 ≤ m
  · have hn : ¬ m < 0 := by omega
    obtain ⟨m', rfl⟩ : ∃ m' : Nat, m = m' := ⟨m.toNat, by omega⟩
    have hm2 : m' ≤ 1048576 := by have := hm h0; omega
    have Hm2 := Lib.hid hm2
    clear hm hm2
    go_wp2_with fail
    refine (szStructure_calls j t u m' _ Hm2.out Ht.out Hu.out).mono ?_
    rintro e w2 ⟨⟨n, rfl, hm⟩, hz⟩
    have X2 := Lib.hid (X1.out.call hz)
    have B2 := Lib.hid (B1.out.trans (hz.mono B1.out.size))
    clear hz hm m0 m1 m2 m3 m4 m5
    by_cases h1 : 0 ≤ n
    · have hn1 : ¬ n < 0 := by omega
      go_upto_region 8 with (fail)
      refine region_sched [(0, true), (2, true), (1, false), (3, false), (4, false), (5, true), (6, true), (7, true), (8, true), (9, true)] (fun w' : World => w'.cell? ⟨w.heap.size, 0, none⟩ = some (.int .i64 i) ∧ w'.cell? ⟨w.heap.size, 1, none⟩ = some (.string s) ∧ w'.cell? ⟨w.heap.size, 2, none⟩ = some (.string r) ∧ w'.cell? ⟨w.heap.size + 1, 0, none⟩ = some (.int .i64 j) ∧ w'.cell? ⟨w.heap.size + 1, 1, none⟩ = some (.string t) ∧ w'.cell? ⟨w.heap.size + 1, 2, none⟩ = some (.string u)) (by kernel_rfl) (by kernel_rfl) (by kernel_rfl) (by kernel_rfl) (fun _ _ _ _ h => h) ?_ (fun Q1 hQ1 => ?_)
      · exact X2.out.drew.six
      try simp only [List.append]
      refine sched_take' (v := ?_) (a' := ?_) rfl (by kernel_rfl) ?_ rfl ?_ ?_
      rotate_left 2
      · intro w hSw
        (try dsimp only at hSw)
        go_simp
        try with_reducible rfl
      · (try simp only [Act.put, List.setIfInBounds_toArray, List.set_cons_zero, List.set_cons_succ])
        try rfl
      refine sched_take' (v := ?_) (a' := ?_) rfl (by kernel_rfl) ?_ rfl ?_ ?_
      rotate_left 2
      · intro w hSw
        (try dsimp only at hSw)
        go_simp
        try with_reducible rfl
      · (try simp only [Act.put, List.setIfInBounds_toArray, List.set_cons_zero, List.set_cons_succ])
        try rfl
      refine sched_call rfl (by kernel_rfl) (fun K1 hK1 => ?_)
      go_simp
      refine (toStructure_calls i s r _).mono ?_
      rintro e w3 ⟨rfl, hz⟩
      have X3 := Lib.hid (X2.out.drew.call hz)
      have B3 := Lib.hid (B2.out.drew.trans (hz.mono B2.out.drew.size))
      clear hz
      go_wp2_with fail
      refine hK1.out _ _ ?_ (sched_lay (a' := ?_) ?_ ?_)
      · exact X3.out.six
      rotate_left 1
      · (try simp only [Act.put, List.getElem_toArray, List.getElem_cons_succ, List.getElem_cons_zero, List.setIfInBounds_toArray, List.set_cons_zero, List.set_cons_succ])
        try rfl
      clear hK1 K1
      refine sched_call rfl (by kernel_rfl) (fun K1 hK1 => ?_)
      go_simp
      refine (toStructure_calls j t u _).mono ?_
      rintro e w4 ⟨rfl, hz⟩
      have X4 := Lib.hid (X3.out.call hz)
      have B4 := Lib.hid (B3.out.trans (hz.mono B3.out.size))
      clear hz
      go_wp2_with fail
      refine hK1.out _ _ ?_ (sched_lay (a' := ?_) ?_ ?_)
      · exact X4.out.six
      rotate_left 1
      · (try simp only [Act.put, List.getElem_toArray, List.getElem_cons_succ, List.getElem_cons_zero, List.setIfInBounds_toArray, List.set_cons_zero, List.set_cons_succ])
        try rfl
      clear hK1 K1
      refine sched_call rfl (by kernel_rfl) (fun K1 hK1 => ?_)
      go_simp
      refine (C1.out _).mono ?_
      rintro e w5 ⟨⟨g5, cap5, rfl, hl5⟩, hz⟩
      have X5 := Lib.hid (X4.out.call hz)
      have B5 := Lib.hid (B4.out.trans (hz.mono B4.out.size))
      have L5 := Lib.hid hl5
      clear hl5
      clear hz
      go_wp2_with fail
      refine hK1.out _ _ ?_ (sched_lay (a' := ?_) ?_ ?_)
      · exact X5.out.six
      rotate_left 1
      · (try simp only [Act.put, List.getElem_toArray, List.getElem_cons_succ, List.getElem_cons_zero, List.setIfInBounds_toArray, List.set_cons_zero, List.set_cons_succ])
        try rfl
      clear hK1 K1
      refine sched_take' (v := ?_) (a' := ?_) rfl (by kernel_rfl) ?_ rfl ?_ ?_
      rotate_left 2
      · intro w hSw
        (try dsimp only at hSw)
        go_simp
        try with_reducible rfl
      · (try simp only [Act.put, List.setIfInBounds_toArray, List.set_cons_zero, List.set_cons_succ])
        try rfl
      refine sched_take' (v := ?_) (a' := ?_) rfl (by kernel_rfl) ?_ rfl ?_ ?_
      rotate_left 2
      · intro w hSw
        (try dsimp only at hSw)
        go_simp
        try with_reducible rfl
      · (try simp only [Act.put, List.setIfInBounds_toArray, List.set_cons_zero, List.set_cons_succ])
        try rfl
      refine sched_take' (v := ?_) (a' := ?_) rfl (by kernel_rfl) ?_ rfl ?_ ?_
      rotate_left 2
      · intro w hSw
        (try dsimp only at hSw)
        go_simp
        try with_reducible rfl
      · (try simp only [Act.put, List.setIfInBounds_toArray, List.set_cons_zero, List.set_cons_succ])
        try rfl
      refine sched_take' (v := ?_) (a' := ?_) rfl (by kernel_rfl) ?_ rfl ?_ ?_
      rotate_left 2
      · intro w hSw
        (try dsimp only at hSw)
        go_simp
        try with_reducible rfl
      · (try simp only [Act.put, List.setIfInBounds_toArray, List.set_cons_zero, List.set_cons_succ])
        try rfl
      refine sched_take' (v := ?_) (a' := ?_) rfl (by kernel_rfl) ?_ rfl ?_ ?_
      rotate_left 2
      · intro w hSw
        (try dsimp only at hSw)
        go_simp
        try with_reducible rfl
      · (try simp only [Act.put, List.setIfInBounds_toArray, List.set_cons_zero, List.set_cons_succ])
        try rfl
      refine sched_done (hQ1.out _ _ ?_)
      clear X2 X3 X4 B2 B3 B4
      go_upto_region 9 with (fail)
      refine region_sched [(0, true), (2, true), (1, false), (3, false), (4, false), (5, true), (6, true), (7, true), (8, true), (9, true)] (fun w' : World => w'.cell? ⟨w.heap.size, 0, none⟩ = some (.int .i64 i) ∧ w'.cell? ⟨w.heap.size, 1, none⟩ = some (.string s) ∧ w'.cell? ⟨w.heap.size, 2, none⟩ = some (.string r) ∧ w'.cell? ⟨w.heap.size + 1, 0, none⟩ = some (.int .i64 j) ∧ w'.cell? ⟨w.heap.size + 1, 1, none⟩ = some (.string t) ∧ w'.cell? ⟨w.heap.size + 1, 2, none⟩ = some (.string u)) (by kernel_rfl) (by kernel_rfl) (by kernel_rfl) (by kernel_rfl) (fun _ _ _ _ h => h) ?_ (fun Q1 hQ1 => ?_)
      · exact X5.out.drew.six
      try simp only [List.append]
      refine sched_take' (v := ?_) (a' := ?_) rfl (by kernel_rfl) ?_ rfl ?_ ?_
      rotate_left 2
      · intro w hSw
        (try dsimp only at hSw)
        go_simp
        try with_reducible rfl
      · (try simp only [Act.put, List.setIfInBounds_toArray, List.set_cons_zero, List.set_cons_succ])
        try rfl
      refine sched_take' (v := ?_) (a' := ?_) rfl (by kernel_rfl) ?_ rfl ?_ ?_
      rotate_left 2
      · intro w hSw
        (try dsimp only at hSw)
        go_simp
        try with_reducible rfl
      · (try simp only [Act.put, List.setIfInBounds_toArray, List.set_cons_zero, List.set_cons_succ])
        try rfl
      refine sched_call rfl (by kernel_rfl) (fun K1 hK1 => ?_)
      go_simp
      refine (toStructure_calls i s r _).mono ?_
      rintro e w6 ⟨rfl, hz⟩
      have X6 := Lib.hid (X5.out.drew.call hz)
      have B6 := Lib.hid (B5.out.drew.trans (hz.mono B5.out.drew.size))
      have L6 := Lib.hid (L5.out.drew.call hz)
      clear hz
      go_wp2_with fail
      refine hK1.out _ _ ?_ (sched_lay (a' := ?_) ?_ ?_)
      · exact X6.out.six
      rotate_left 1
      · (try simp only [Act.put, List.getElem_toArray, List.getElem_cons_succ, List.getElem_cons_zero, List.setIfInBounds_toArray, List.set_cons_zero, List.set_cons_succ])
        try rfl
      clear hK1 K1
      refine sched_call rfl (by kernel_rfl) (fun K1 hK1 => ?_)
      go_simp
      refine (toStructure_calls j t u _).mono ?_
      rintro e w7 ⟨rfl, hz⟩
      have X7 := Lib.hid (X6.out.call hz)
      have B7 := Lib.hid (B6.out.trans (hz.mono B6.out.size))
      have L7 := Lib.hid (L6.out.call hz)
      clear hz
      go_wp2_with fail
      refine hK1.out _ _ ?_ (sched_lay (a' := ?_) ?_ ?_)
      · exact X7.out.six
      rotate_left 1
      · (try simp only [Act.put, List.getElem_toArray, List.getElem_cons_succ, List.getElem_cons_zero, List.setIfInBounds_toArray, List.set_cons_zero, List.set_cons_succ])
        try rfl
      clear hK1 K1
      refine sched_call rfl (by kernel_rfl) (fun K1 hK1 => ?_)
      go_simp
      refine (C2.out _).mono ?_
      rintro e w8 ⟨⟨A8, cap8, rfl, ho8⟩, hz⟩
      have X8 := Lib.hid (X7.out.call hz)
      have B8 := Lib.hid (B7.out.trans (hz.mono B7.out.size))
      have L8 := Lib.hid (L7.out.call hz)
      have hs78 := hz.size
      have O8 := Lib.hid ho8
      clear ho8
      clear hz
      go_wp2_with fail
      refine hK1.out _ _ ?_ (sched_lay (a' := ?_) ?_ ?_)
      · exact X8.out.six
      rotate_left 1
      · (try simp only [Act.put, List.getElem_toArray, List.getElem_cons_succ, List.getElem_cons_zero, List.setIfInBounds_toArray, List.set_cons_zero, List.set_cons_succ])
        try rfl
      clear hK1 K1
      refine sched_take' (v := ?_) (a' := ?_) rfl (by kernel_rfl) ?_ rfl ?_ ?_
      rotate_left 2
      · intro w hSw
        (try dsimp only at hSw)
        go_simp
        try with_reducible rfl
      · (try simp only [Act.put, List.setIfInBounds_toArray, List.set_cons_zero, List.set_cons_succ])
        try rfl
      refine sched_take' (v := ?_) (a' := ?_) rfl (by kernel_rfl) ?_ rfl ?_ ?_
      rotate_left 2
      · intro w hSw
        (try dsimp only at hSw)
        go_simp
        try with_reducible rfl
      · (try simp only [Act.put, List.setIfInBounds_toArray, List.set_cons_zero, List.set_cons_succ])
        try rfl
      refine sched_take' (v := ?_) (a' := ?_) rfl (by kernel_rfl) ?_ rfl ?_ ?_
      rotate_left 2
      · intro w hSw
        (try dsimp only at hSw)
        go_simp
        try with_reducible rfl
      · (try simp only [Act.put, List.setIfInBounds_toArray, List.set_cons_zero, List.set_cons_succ])
        try rfl
      refine sched_take' (v := ?_) (a' := ?_) rfl (by kernel_rfl) ?_ rfl ?_ ?_
      rotate_left 2
      · intro w hSw
        (try dsimp only at hSw)
        go_simp
        try with_reducible rfl
      · (try simp only [Act.put, List.setIfInBounds_toArray, List.set_cons_zero, List.set_cons_succ])
        try rfl
      refine sched_take' (v := ?_) (a' := ?_) rfl (by kernel_rfl) ?_ rfl ?_ ?_
      rotate_left 2
      · intro w hSw
        (try dsimp only at hSw)
        go_simp
        try with_reducible rfl
      · (try simp only [Act.put, List.setIfInBounds_toArray, List.set_cons_zero, List.set_cons_succ])
        try rfl
      refine sched_done (hQ1.out _ _ ?_)
      have hg5 : R.length ≠ 0 → g5 < w7.heap.size := fun h => by
        obtain ⟨g, hg, hc⟩ := L7.out (by rw [natsI_len]; omega)
        injection hg with hg
        injection hg with hg _
        subst hg
        exact World.block_lt_of_cell? w7 _ (hc 0 (by rw [natsI_len]; omega))
      have Hg5 := Lib.hid hg5
      have hqq : (q != q) = false := by cases q <;> rfl
      have hR0 : (0 : Int) ≤ (R.length : Int) := by omega
      have hRb : (R.length : Int) ≤ 8 := by omega
      clear hg5 h1 hn1
      go_wp2_with fail
      refine (CE.out A8 _ _ _ _ (LRow_of O8.out) L8.out).mono ?_
      rintro e w9 ⟨rfl, hz⟩
      have X9 := Lib.hid (X8.out.call hz)
      have B9 := Lib.hid (B8.out.trans (hz.mono B8.out.size))
      have L9 := Lib.hid (L8.out.call hz)
      have O9 := Lib.hid (own_kp (B := 0) O8.out (.of_below hz) (Nat.zero_le _))
      have hs79 : w7.heap.size ≤ w9.heap.size := Nat.le_trans hs78 hz.size
      clear hz X8 B8 L8 O8
      go_wp2_with fail
      refine (CM.out w7.heap.size _ _ _ O9.out hs79).mono ?_
      rintro e w10 ⟨rfl, ho, hz⟩
      have X10 := Lib.hid (X9.out.below hz X7.out.lt)
      have B10 := Lib.hid (B9.out.trans (hz.mono B7.out.size))
      have L10 := Lib.hid (show LRow w10 (some ⟨g5, 0, none⟩) (natsI R) from fun hn => by
        obtain ⟨g, hg, hc⟩ := L9.out hn
        injection hg with hg
        injection hg with hg _
        subst hg
        exact ⟨g5, rfl, fun k hk => (hz.cell (p := ⟨g5, k, none⟩) (Hg5.out (by rw [natsI_len] at hn; omega))).trans (hc k hk)⟩)
      have M10 := Lib.hid (LRow_of ho)
      clear hz ho X9 B9 L9 O9 hs78 hs79
      go_wp2_with fail
      refine (CH.out _ _ _ M10.out).mono ?_
      rintro e w11 ⟨rfl, rfl⟩
      go_upto_region 20 with (fail)
      refine region_sched [(0, true), (2, true), (1, false), (3, false), (4, false), (5, true), (6, true), (7, true), (8, true), (9, true)] (fun w' : World => w'.cell? ⟨w.heap.size, 0, none⟩ = some (.int .i64 i) ∧ w'.cell? ⟨w.heap.size, 1, none⟩ = some (.string s) ∧ w'.cell? ⟨w.heap.size, 2, none⟩ = some (.string r) ∧ w'.cell? ⟨w.heap.size + 1, 0, none⟩ = some (.int .i64 j) ∧ w'.cell? ⟨w.heap.size + 1, 1, none⟩ = some (.string t) ∧ w'.cell? ⟨w.heap.size + 1, 2, none⟩ = some (.string u)) (by kernel_rfl) (by kernel_rfl) (by kernel_rfl) (by kernel_rfl) (fun _ _ _ _ h => h) ?_ (fun Q1 hQ1 => ?_)
      · exact X10.out.drew.six
      try simp only [List.append]
      refine sched_take' (v := ?_) (a' := ?_) rfl (by kernel_rfl) ?_ rfl ?_ ?_
      rotate_left 2
      · intro w hSw
        (try dsimp only at hSw)
        go_simp
        try with_reducible rfl
      · (try simp only [Act.put, List.setIfInBounds_toArray, List.set_cons_zero, List.set_cons_succ])
        try rfl
      refine sched_take' (v := ?_) (a' := ?_) rfl (by kernel_rfl) ?_ rfl ?_ ?_
      rotate_left 2
      · intro w hSw
        (try dsimp only at hSw)
        go_simp
        try with_reducible rfl
      · (try simp only [Act.put, List.setIfInBounds_toArray, List.set_cons_zero, List.set_cons_succ])
        try rfl
      refine sched_call rfl (by kernel_rfl) (fun K1 hK1 => ?_)
      go_simp
      refine (toStructure_calls i s r _).mono ?_
      rintro e w11 ⟨rfl, hz⟩
      have X11 := Lib.hid (X10.out.drew.call hz)
      have B11 := Lib.hid (B10.out.drew.trans (hz.mono B10.out.drew.size))
      have L11 := Lib.hid (L10.out.drew.call hz)
      have M11 := Lib.hid (M10.out.drew.call hz)
      clear hz
      go_wp2_with fail
      refine hK1.out _ _ ?_ (sched_lay (a' := ?_) ?_ ?_)
      · exact X11.out.six
      rotate_left 1
      · (try simp only [Act.put, List.getElem_toArray, List.getElem_cons_succ, List.getElem_cons_zero, List.setIfInBounds_toArray, List.set_cons_zero, List.set_cons_succ])
        try rfl
      clear hK1 K1
      refine sched_call rfl (by kernel_rfl) (fun K1 hK1 => ?_)
      go_simp
      refine (toStructure_calls j t u _).mono ?_
      rintro e w12 ⟨rfl, hz⟩
      have X12 := Lib.hid (X11.out.call hz)
      have B12 := Lib.hid (B11.out.trans (hz.mono B11.out.size))
      have L12 := Lib.hid (L11.out.call hz)
      have M12 := Lib.hid (M11.out.call hz)
      clear hz
      go_wp2_with fail
      refine hK1.out _ _ ?_ (sched_lay (a' := ?_) ?_ ?_)
      · exact X12.out.six
      rotate_left 1
      · (try simp only [Act.put, List.getElem_toArray, List.getElem_cons_succ, List.getElem_cons_zero, List.setIfInBounds_toArray, List.set_cons_zero, List.set_cons_succ])
        try rfl
      clear hK1 K1
      refine sched_call rfl (by kernel_rfl) (fun K1 hK1 => ?_)
      go_simp
      refine (C2.out _).mono ?_
      rintro e w13 ⟨⟨A13, cap13, rfl, ho13⟩, hz⟩
      have X13 := Lib.hid (X12.out.call hz)
      have B13 := Lib.hid (B12.out.trans (hz.mono B12.out.size))
      have L13 := Lib.hid (L12.out.call hz)
      have M13 := Lib.hid (M12.out.call hz)
      have O13 := Lib.hid (LRow_of ho13)
      clear ho13
      clear hz
      go_wp2_with fail
      refine hK1.out _ _ ?_ (sched_lay (a' := ?_) ?_ ?_)
      · exact X13.out.six
      rotate_left 1
      · (try simp only [Act.put, List.getElem_toArray, List.getElem_cons_succ, List.getElem_cons_zero, List.setIfInBounds_toArray, List.set_cons_zero, List.set_cons_succ])
        try rfl
      clear hK1 K1
      refine sched_take' (v := ?_) (a' := ?_) rfl (by kernel_rfl) ?_ rfl ?_ ?_
      rotate_left 2
      · intro w hSw
        (try dsimp only at hSw)
        go_simp
        try with_reducible rfl
      · (try simp only [Act.put, List.setIfInBounds_toArray, List.set_cons_zero, List.set_cons_succ])
        try rfl
      refine sched_take' (v := ?_) (a' := ?_) rfl (by kernel_rfl) ?_ rfl ?_ ?_
      rotate_left 2
      · intro w hSw
        (try dsimp only at hSw)
        go_simp
        try with_reducible rfl
      · (try simp only [Act.put, List.setIfInBounds_toArray, List.set_cons_zero, List.set_cons_succ])
        try rfl
      refine sched_take' (v := ?_) (a' := ?_) rfl (by kernel_rfl) ?_ rfl ?_ ?_
      rotate_left 2
      · intro w hSw
        (try dsimp only at hSw)
        go_simp
        try with_reducible rfl
      · (try simp only [Act.put, List.setIfInBounds_toArray, List.set_cons_zero, List.set_cons_succ])
        try rfl
      refine sched_take' (v := ?_) (a' := ?_) rfl (by kernel_rfl) ?_ rfl ?_ ?_
      rotate_left 2
      · intro w hSw
        (try dsimp only at hSw)
        go_simp
        try with_reducible rfl
      · (try simp only [Act.put, List.setIfInBounds_toArray, List.set_cons_zero, List.set_cons_succ])
        try rfl
      refine sched_take' (v := ?_) (a' := ?_) rfl (by kernel_rfl) ?_ rfl ?_ ?_
      rotate_left 2
      · intro w hSw
        (try dsimp only at hSw)
        go_simp
        try with_reducible rfl
      · (try simp only [Act.put, List.setIfInBounds_toArray, List.set_cons_zero, List.set_cons_succ])
        try rfl
      refine sched_done (hQ1.out _ _ ?_)
      go_wp2_with fail
      refine (CE.out A13 _ _ _ _ O13.out L13.out).mono ?_
      rintro e w14 ⟨rfl, hz⟩
      have B14 := Lib.hid (B13.out.trans (hz.mono B13.out.size))
      have M14 := Lib.hid (M13.out.call hz)
      clear hz
      go_wp2_with fail
      refine (CH.out _ _ _ M14.out).mono ?_
      rintro e w15 ⟨rfl, rfl⟩
      go_wp2_with fail
      go_ret
      exact ⟨rfl, B14.out⟩
    · go_wp2_with fail
      go_ret
      exact ⟨rfl, B2.out⟩
  · go_wp2_with fail
    go_ret
    exact ⟨rfl, B1.out⟩

end Go.Proofs.YtdogpookippbaaaDoor
