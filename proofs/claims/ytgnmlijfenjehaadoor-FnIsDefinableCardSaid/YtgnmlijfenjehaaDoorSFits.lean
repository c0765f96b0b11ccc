/-
  l1Fits of the reference: whether the last of some elements is to the others as that of another structure. Condition: valid structures of one size.
-/
import Derived.Test.YtgnmlijfenjehaaDoorPlaced
import Derived.Test.YtgnmlijfenjehaaDoorReg
import Derived.Test.YtgnmlijfenjehaaDoorShapes
import Derived.Test.YtgnmlijfenjehaaDoorSPart
namespace Go.Proofs.YtgnmlijfenjehaaDoor
open Go.RowKit
open Pl
set_option linter.unusedSimpArgs false
set_option linter.unusedVariables false
attribute [local go_sem ↓] Go.wp_at_zero Go.wp_at_succ

/-- what the reference asks of a pair -/
def fitS (a b : St) (o : List Nat) (x k : Nat) : Bool :=
  decide ((o ++ [x]).getD k 0 = x) == decide (k = o.length) && a.inR ((o ++ [x]).getD k 0) x == b.inR k o.length && a.inR x ((o ++ [x]).getD k 0) == b.inR o.length k

theorem nextB_eq (a b : St) (o : List Nat) (x : Nat) : nextB a b o x = (a.inS x == b.inS o.length && (List.range (o.length + 1)).all (fitS a b o x)) := by
  rw [Bool.eq_iff_iff]
  unfold nextB fitsB fitS
  simp only [Bool.and_eq_true, Bool.not_eq_true', List.contains_eq_mem, decide_eq_false_iff_not, beq_iff_eq, List.all_eq_true, List.mem_range]
  constructor
  · rintro ⟨hc, ⟨h1, h2⟩, h3⟩
    refine ⟨h1, fun k hk => ?_⟩
    by_cases e : k = o.length
    · subst e
      rw [getD_snoc_eq]
      simp [h2]
    · have hk2 : k < o.length := by omega
      rw [getD_snoc_lt hk2]
      obtain ⟨h4, h5⟩ := h3 k hk2
      refine ⟨⟨?_, h5⟩, h4⟩
      rw [decide_eq_false e, decide_eq_false_iff_not]
      intro h
      apply hc
      rw [← h, List.getD_eq_getElem?_getD, List.getElem?_eq_getElem hk2]
      exact List.getElem_mem hk2
  · rintro ⟨h1, h⟩
    refine ⟨fun hc => ?_, ⟨h1, ?_⟩, fun k hk => ?_⟩
    · obtain ⟨k, hk, he⟩ := List.getElem_of_mem hc
      have h2 := (h k (by omega)).1.1
      rw [getD_snoc_lt hk, List.getD_eq_getElem?_getD, List.getElem?_eq_getElem hk, Option.getD_some, he, decide_eq_false (show ¬ k = o.length by omega)] at h2
      simp at h2
    · have h2 := (h o.length (by omega)).2
      rwa [getD_snoc_eq] at h2
    · have h2 := h k (by omega)
      rw [getD_snoc_lt hk] at h2
      exact ⟨h2.2, h2.1.2⟩

set_option maxHeartbeats 40000000 in
set_option maxRecDepth 100000 in
theorem l1Fits_calls (a b : St) (ha : a.ok) (hb : b.ok) (hab : a.n = b.n) (o : List Nat) (ho : ∀ y ∈ o, y < a.n) (hl : o.length < a.n) (x : Nat) (hx : x < a.n) (ga gb c1 c2 : Nat) (w : World)
    (hA : LRow w (some ⟨ga, 0, none⟩) (natsI (o ++ [x]))) (hB : LRow w (some ⟨gb, 0, none⟩) (natsI (List.range (o.length + 1)))) :
    Calls Tryd.prog 87 #[stA a, .slice (some ⟨ga, 0, none⟩) (o.length + 1) c1, stA b, .slice (some ⟨gb, 0, none⟩) (o.length + 1) c2] w fun e w' => e = .returned (.bool (nextB a b o x)) ∧ Below w.heap.size w w' := by
  have hn8 := ha.hi
  have hlt : ∀ k, k ≤ o.length → (o ++ [x]).getD k 0 < a.n := fun k hk => getD_lt (by intro y hy; rcases List.mem_append.1 hy with h | h; exact ho y h; simp at h; omega) (by simp; omega)
  have s1 : ∀ W, Calls Tryd.prog 58 #[stV (a.n : Int) (bs a.set) (bs a.rel), .int .i64 x] W fun e w' => e = .returned (.bool (a.inS x)) ∧ Below W.heap.size W w' := fun W => l1Set_calls a ha x hx W
  have s2 : ∀ W, Calls Tryd.prog 58 #[stV (b.n : Int) (bs b.set) (bs b.rel), .int .i64 o.length] W fun e w' => e = .returned (.bool (b.inS o.length)) ∧ Below W.heap.size W w' := fun W => l1Set_calls b hb o.length (by omega) W
  have t1 : ∀ k, k ≤ o.length → ∀ W, Calls Tryd.prog 59 #[stV (a.n : Int) (bs a.set) (bs a.rel), .int .i64 ((o ++ [x]).getD k 0 : Nat), .int .i64 x] W fun e w' => e = .returned (.bool (a.inR ((o ++ [x]).getD k 0) x)) ∧ Below W.heap.size W w' := fun k hk W => l1Rel_calls a ha _ x (hlt k hk) hx W
  have t2 : ∀ k, k ≤ o.length → ∀ W, Calls Tryd.prog 59 #[stV (b.n : Int) (bs b.set) (bs b.rel), .int .i64 k, .int .i64 o.length] W fun e w' => e = .returned (.bool (b.inR k o.length)) ∧ Below W.heap.size W w' := fun k hk W => l1Rel_calls b hb k o.length (by omega) (by omega) W
  have t3 : ∀ k, k ≤ o.length → ∀ W, Calls Tryd.prog 59 #[stV (a.n : Int) (bs a.set) (bs a.rel), .int .i64 x, .int .i64 ((o ++ [x]).getD k 0 : Nat)] W fun e w' => e = .returned (.bool (a.inR x ((o ++ [x]).getD k 0))) ∧ Below W.heap.size W w' := fun k hk W => l1Rel_calls a ha x _ hx (hlt k hk) W
  have t4 : ∀ k, k ≤ o.length → ∀ W, Calls Tryd.prog 59 #[stV (b.n : Int) (bs b.set) (bs b.rel), .int .i64 o.length, .int .i64 k] W fun e w' => e = .returned (.bool (b.inR o.length k)) ∧ Below W.heap.size W w' := fun k hk W => l1Rel_calls b hb o.length k (by omega) (by omega) W
  have hfe := nextB_eq a b o x
  have hfa : ∀ k, fitS a b o x k = (decide ((o ++ [x]).getD k 0 = x) == decide (k = o.length) && a.inR ((o ++ [x]).getD k 0) x == b.inR k o.length && a.inR x ((o ++ [x]).getD k 0) == b.inR o.length k) := fun k => rfl
  obtain ⟨V, hV⟩ : ∃ V, V = nextB a b o x := ⟨_, rfl⟩
  rw [← hV] at hfe ⊢
  have hLA : ∀ k, k ≤ o.length → ∀ W, Below w.heap.size w W → W.cell? ⟨ga, k, none⟩ = some (.int .i64 (((o ++ [x]).getD k 0 : Nat) : Int)) ∧ W.cell? ⟨gb, k, none⟩ = some (.int .i64 (k : Nat)) := fun k hk W hW => by
    obtain ⟨g, hg, h1⟩ := (hA.call hW).nats (k := k) (by simp; omega)
    obtain ⟨g2, hg2, h2⟩ := (hB.call hW).nats (k := k) (by simp; omega)
    injection hg with hg; injection hg with hg _
    injection hg2 with hg2; injection hg2 with hg2 _
    subst hg hg2
    refine ⟨h1, ?_⟩
    rw [h2]
    simp [List.getD, show k < o.length + 1 by omega]
  obtain ⟨d, hd⟩ : ∃ d : Nat → Nat, d = fun k => (o ++ [x]).getD k 0 := ⟨_, rfl⟩
  have hdd : ∀ k, (o ++ [x]).getD k 0 = d k := fun k => by rw [hd]
  have hdx : d o.length = x := by rw [← hdd, getD_snoc_eq]
  simp only [hdd] at t1 t3 hfa hLA
  have hrow : ∀ W, Below w.heap.size w W → W.cell? ⟨ga, o.length, none⟩ = some (.int .i64 x) ∧ W.cell? ⟨gb, o.length, none⟩ = some (.int .i64 (o.length : Nat)) := fun W hW => by
    have h := hLA o.length (Nat.le_refl _) W hW
    rwa [hdx] at h
  generalize fitS a b o x = fa at hfe hfa
  generalize a.inS x = p1 at s1 hfe
  generalize b.inS o.length = p2 at s2 hfe
  obtain ⟨A1, hA1⟩ : ∃ A1 : Nat → Bool, A1 = fun k => a.inR (d k) x := ⟨_, rfl⟩
  obtain ⟨A2, hA2⟩ : ∃ A2 : Nat → Bool, A2 = fun k => b.inR k o.length := ⟨_, rfl⟩
  obtain ⟨A3, hA3⟩ : ∃ A3 : Nat → Bool, A3 = fun k => a.inR x (d k) := ⟨_, rfl⟩
  obtain ⟨A4, hA4⟩ : ∃ A4 : Nat → Bool, A4 = fun k => b.inR o.length k := ⟨_, rfl⟩
  have e1 : ∀ k, a.inR (d k) x = A1 k := fun k => by rw [hA1]
  have e2 : ∀ k, b.inR k o.length = A2 k := fun k => by rw [hA2]
  have e3 : ∀ k, a.inR x (d k) = A3 k := fun k => by rw [hA3]
  have e4 : ∀ k, b.inR o.length k = A4 k := fun k => by rw [hA4]
  simp only [e1, e2, e3, e4] at t1 t2 t3 t4 hfa
  have S1 := Lib.hid s1
  have S2 := Lib.hid s2
  have T1 := Lib.hid t1
  have T2 := Lib.hid t2
  have T3 := Lib.hid t3
  have T4 := Lib.hid t4
  have HL2 := Lib.hid hLA
  have Hrow := Lib.hid hrow
  have Hfe := Lib.hid hfe
  have Hfa := Lib.hid hfa
  have hl8 : o.length < 8 := by omega
  clear hA hB s1 s2 t1 t2 t3 t4 hLA hrow hfe hfa hd hdd hdx hA1 hA2 hA3 hA4 e1 e2 e3 e4 hlt ho hV hb ha hab hx
  show Calls Tryd.prog 87 #[stV (a.n : Int) (bs a.set) (bs a.rel), .slice (some ⟨ga, 0, none⟩) (o.length + 1) c1, stV (b.n : Int) (bs b.set) (bs b.rel), .slice (some ⟨gb, 0, none⟩) (o.length + 1) c2] w _
  generalize o.length = n at *
  generalize a.n = na at *
  generalize b.n = nb at *
  generalize bs a.set = SA at *
  generalize bs a.rel = RA at *
  generalize bs b.set = SB at *
  generalize bs b.rel = RB at *
  have X0 := Lib.hid (show Two w ((w.alloc (.cells #[.int .i64 na, .string SA, .string RA] 27)).alloc (.cells #[.int .i64 nb, .string SB, .string RB] 27)) #[.int .i64 na, .string SA, .string RA] #[.int .i64 nb, .string SB, .string RB] from ⟨(Bx.new w _ _).alloc _, bx_two w _ _⟩)
  have B0 := Lib.hid (((Below.refl w.heap.size w).alloc (Nat.le_refl _) (.cells #[.int .i64 na, .string SA, .string RA] 27)).alloc (by simp) (.cells #[.int .i64 nb, .string SB, .string RB] 27))
  have hw1 : IntKind.i64.wrap ((n : Int) + 1 - 1) = (n : Int) := by rw [IntKind.wrap_i64]; omega
  have hw2 : IntKind.i64.wrap (((n + 1 : Nat) : Int) - 1) = (n : Int) := by rw [IntKind.wrap_i64]; omega
  have i1 : (0 : Int) ≤ (n : Int) := by omega
  have i2 : (n : Int) < (n : Int) + 1 := by omega
  go_enter Tryd.func87, Tryd.ntmps87
  go_wp2_with fail
  cases hne : (p1 != p2)
  case true =>
    refine region_sched [(0, true), (1, true), (2, true), (3, true), (4, true), (6, true), (7, true), (8, true), (9, true), (10, true), (5, false), (11, false), (12, true)] (fun w' : World => w'.cell? ⟨w.heap.size, 0, none⟩ = some (.int .i64 na) ∧ w'.cell? ⟨w.heap.size, 1, none⟩ = some (.string SA) ∧ w'.cell? ⟨w.heap.size, 2, none⟩ = some (.string RA) ∧ w'.cell? ⟨w.heap.size + 1, 0, none⟩ = some (.int .i64 nb) ∧ w'.cell? ⟨w.heap.size + 1, 1, none⟩ = some (.string SB) ∧ w'.cell? ⟨w.heap.size + 1, 2, none⟩ = some (.string RB) ∧ w'.cell? ⟨ga, n, none⟩ = some (.int .i64 x) ∧ w'.cell? ⟨gb, n, none⟩ = some (.int .i64 n)) (by kernel_rfl) (by kernel_rfl) (by kernel_rfl) (by kernel_rfl) (fun _ _ _ _ h => h) ?_ (fun Q1 hQ1 => ?_)
    · obtain ⟨m0, m1, m2, m3, m4, m5⟩ := X0.out.drew.six; exact ⟨m0, m1, m2, m3, m4, m5, (Hrow.out _ B0.out.drew).1, (Hrow.out _ B0.out.drew).2⟩
    try simp only [List.append]
    refine sched_take' (v := ?_) (a' := ?_) rfl (by kernel_rfl) ?_ rfl ?_ ?_
    rotate_left 2
    · intro w hSw
      (try dsimp only at hSw)
      go_simp
      try with_reducible rfl
    · (try simp only [Act.put, List.setIfInBounds_toArray, List.set_cons_zero, List.set_cons_succ])
      try rfl
    refine sched_take' (v := ?_) (a' := ?_) rfl (by kernel_rfl) ?_ rfl ?_ ?_
    rotate_left 2
    · intro w hSw
      (try dsimp only at hSw)
      go_simp
      try with_reducible rfl
    · (try simp only [Act.put, List.setIfInBounds_toArray, List.set_cons_zero, List.set_cons_succ])
      try rfl
    refine sched_take' (v := ?_) (a' := ?_) rfl (by kernel_rfl) ?_ rfl ?_ ?_
    rotate_left 2
    · intro w hSw
      (try dsimp only at hSw)
      go_simp
      try with_reducible rfl
    · (try simp only [Act.put, List.setIfInBounds_toArray, List.set_cons_zero, List.set_cons_succ])
      try rfl
    refine sched_take' (v := ?_) (a' := ?_) rfl (by kernel_rfl) ?_ rfl ?_ ?_
    rotate_left 2
    · intro w hSw
      (try dsimp only at hSw)
      go_simp
      try with_reducible rfl
    · (try simp only [Act.put, List.setIfInBounds_toArray, List.set_cons_zero, List.set_cons_succ])
      try rfl
    refine sched_take' (v := ?_) (a' := ?_) rfl (by kernel_rfl) ?_ rfl ?_ ?_
    rotate_left 2
    · intro w hSw
      (try dsimp only at hSw)
      go_simp
      try with_reducible rfl
    · (try simp only [Act.put, List.setIfInBounds_toArray, List.set_cons_zero, List.set_cons_succ])
      try rfl
    refine sched_take' (v := ?_) (a' := ?_) rfl (by kernel_rfl) ?_ rfl ?_ ?_
    rotate_left 2
    · intro w hSw
      (try dsimp only at hSw)
      go_simp
      try with_reducible rfl
    · (try simp only [Act.put, List.setIfInBounds_toArray, List.set_cons_zero, List.set_cons_succ])
      try rfl
    refine sched_take' (v := ?_) (a' := ?_) rfl (by kernel_rfl) ?_ rfl ?_ ?_
    rotate_left 2
    · intro w hSw
      (try dsimp only at hSw)
      go_simp
      try with_reducible rfl
    · (try simp only [Act.put, List.setIfInBounds_toArray, List.set_cons_zero, List.set_cons_succ])
      try rfl
    refine sched_take' (v := ?_) (a' := ?_) rfl (by kernel_rfl) ?_ rfl ?_ ?_
    rotate_left 2
    · intro w hSw
      (try dsimp only at hSw)
      go_simp
      try with_reducible rfl
    · (try simp only [Act.put, List.setIfInBounds_toArray, List.set_cons_zero, List.set_cons_succ])
      try rfl
    refine sched_take' (v := ?_) (a' := ?_) rfl (by kernel_rfl) ?_ rfl ?_ ?_
    rotate_left 2
    · intro w hSw
      (try dsimp only at hSw)
      go_simp
      try with_reducible rfl
    · (try simp only [Act.put, List.setIfInBounds_toArray, List.set_cons_zero, List.set_cons_succ])
      try rfl
    refine sched_take' (v := ?_) (a' := ?_) rfl (by kernel_rfl) ?_ rfl ?_ ?_
    rotate_left 2
    · intro w hSw
      (try dsimp only at hSw)
      go_simp
      try with_reducible rfl
    · (try simp only [Act.put, List.setIfInBounds_toArray, List.set_cons_zero, List.set_cons_succ])
      try rfl
    refine sched_call rfl (by kernel_rfl) (fun K1 hK1 => ?_)
    go_simp
    refine (S1.out _).mono ?_
    rintro e w1 ⟨rfl, hz⟩
    have X1 := Lib.hid (X0.out.drew.call hz)
    have B1 := Lib.hid (B0.out.drew.trans (hz.mono B0.out.drew.size))
    clear hz
    go_wp2_with fail
    refine hK1.out _ _ ?_ (sched_lay (a' := ?_) ?_ ?_)
    · obtain ⟨m0, m1, m2, m3, m4, m5⟩ := X1.out.six; exact ⟨m0, m1, m2, m3, m4, m5, (Hrow.out _ B1.out).1, (Hrow.out _ B1.out).2⟩
    rotate_left 1
    · (try simp only [Act.put, List.getElem_toArray, List.getElem_cons_succ, List.getElem_cons_zero, List.setIfInBounds_toArray, List.set_cons_zero, List.set_cons_succ])
      try rfl
    clear hK1 K1
    refine sched_call rfl (by kernel_rfl) (fun K1 hK1 => ?_)
    go_simp
    refine (S2.out _).mono ?_
    rintro e w2 ⟨rfl, hz⟩
    have X2 := Lib.hid (X1.out.call hz)
    have B2 := Lib.hid (B1.out.trans (hz.mono B1.out.size))
    clear hz
    go_wp2_with fail
    refine hK1.out _ _ ?_ (sched_lay (a' := ?_) ?_ ?_)
    · obtain ⟨m0, m1, m2, m3, m4, m5⟩ := X2.out.six; exact ⟨m0, m1, m2, m3, m4, m5, (Hrow.out _ B2.out).1, (Hrow.out _ B2.out).2⟩
    rotate_left 1
    · (try simp only [Act.put, List.getElem_toArray, List.getElem_cons_succ, List.getElem_cons_zero, List.setIfInBounds_toArray, List.set_cons_zero, List.set_cons_succ])
      try rfl
    clear hK1 K1
    refine sched_take' (v := .bool true) (a' := ?_) rfl (by kernel_rfl) ?_ rfl ?_ ?_
    rotate_left 1
    · intro w hSw
      (try dsimp only at hSw)
      go_simp
      first | done | exact hne | (rw [← hne]; simp [bne]; done) | simpa using hne
    · (try simp only [Act.put, List.setIfInBounds_toArray, List.set_cons_zero, List.set_cons_succ])
      try rfl
    refine sched_done (hQ1.out _ _ ?_)
    have hv : V = false := by rw [Hfe.out, show (p1 == p2) = false by simpa [bne] using hne]; rfl
    have Hv2 := Lib.hid hv
    clear hv
    go_wp2_with fail
    go_ret
    exact ⟨by rw [Hv2.out]; try rfl, B2.out⟩
  case false =>
    refine region_sched [(0, true), (1, true), (2, true), (3, true), (4, true), (6, true), (7, true), (8, true), (9, true), (10, true), (5, false), (11, false), (12, true)] (fun w' : World => w'.cell? ⟨w.heap.size, 0, none⟩ = some (.int .i64 na) ∧ w'.cell? ⟨w.heap.size, 1, none⟩ = some (.string SA) ∧ w'.cell? ⟨w.heap.size, 2, none⟩ = some (.string RA) ∧ w'.cell? ⟨w.heap.size + 1, 0, none⟩ = some (.int .i64 nb) ∧ w'.cell? ⟨w.heap.size + 1, 1, none⟩ = some (.string SB) ∧ w'.cell? ⟨w.heap.size + 1, 2, none⟩ = some (.string RB) ∧ w'.cell? ⟨ga, n, none⟩ = some (.int .i64 x) ∧ w'.cell? ⟨gb, n, none⟩ = some (.int .i64 n)) (by kernel_rfl) (by kernel_rfl) (by kernel_rfl) (by kernel_rfl) (fun _ _ _ _ h => h) ?_ (fun Q1 hQ1 => ?_)
    · obtain ⟨m0, m1, m2, m3, m4, m5⟩ := X0.out.drew.six; exact ⟨m0, m1, m2, m3, m4, m5, (Hrow.out _ B0.out.drew).1, (Hrow.out _ B0.out.drew).2⟩
    try simp only [List.append]
    refine sched_take' (v := ?_) (a' := ?_) rfl (by kernel_rfl) ?_ rfl ?_ ?_
    rotate_left 2
    · intro w hSw
      (try dsimp only at hSw)
      go_simp
      try with_reducible rfl
    · (try simp only [Act.put, List.setIfInBounds_toArray, List.set_cons_zero, List.set_cons_succ])
      try rfl
    refine sched_take' (v := ?_) (a' := ?_) rfl (by kernel_rfl) ?_ rfl ?_ ?_
    rotate_left 2
    · intro w hSw
      (try dsimp only at hSw)
      go_simp
      try with_reducible rfl
    · (try simp only [Act.put, List.setIfInBounds_toArray, List.set_cons_zero, List.set_cons_succ])
      try rfl
    refine sched_take' (v := ?_) (a' := ?_) rfl (by kernel_rfl) ?_ rfl ?_ ?_
    rotate_left 2
    · intro w hSw
      (try dsimp only at hSw)
      go_simp
      try with_reducible rfl
    · (try simp only [Act.put, List.setIfInBounds_toArray, List.set_cons_zero, List.set_cons_succ])
      try rfl
    refine sched_take' (v := ?_) (a' := ?_) rfl (by kernel_rfl) ?_ rfl ?_ ?_
    rotate_left 2
    · intro w hSw
      (try dsimp only at hSw)
      go_simp
      try with_reducible rfl
    · (try simp only [Act.put, List.setIfInBounds_toArray, List.set_cons_zero, List.set_cons_succ])
      try rfl
    refine sched_take' (v := ?_) (a' := ?_) rfl (by kernel_rfl) ?_ rfl ?_ ?_
    rotate_left 2
    · intro w hSw
      (try dsimp only at hSw)
      go_simp
      try with_reducible rfl
    · (try simp only [Act.put, List.setIfInBounds_toArray, List.set_cons_zero, List.set_cons_succ])
      try rfl
    refine sched_take' (v := ?_) (a' := ?_) rfl (by kernel_rfl) ?_ rfl ?_ ?_
    rotate_left 2
    · intro w hSw
      (try dsimp only at hSw)
      go_simp
      try with_reducible rfl
    · (try simp only [Act.put, List.setIfInBounds_toArray, List.set_cons_zero, List.set_cons_succ])
      try rfl
    refine sched_take' (v := ?_) (a' := ?_) rfl (by kernel_rfl) ?_ rfl ?_ ?_
    rotate_left 2
    · intro w hSw
      (try dsimp only at hSw)
      go_simp
      try with_reducible rfl
    · (try simp only [Act.put, List.setIfInBounds_toArray, List.set_cons_zero, List.set_cons_succ])
      try rfl
    refine sched_take' (v := ?_) (a' := ?_) rfl (by kernel_rfl) ?_ rfl ?_ ?_
    rotate_left 2
    · intro w hSw
      (try dsimp only at hSw)
      go_simp
      try with_reducible rfl
    · (try simp only [Act.put, List.setIfInBounds_toArray, List.set_cons_zero, List.set_cons_succ])
      try rfl
    refine sched_take' (v := ?_) (a' := ?_) rfl (by kernel_rfl) ?_ rfl ?_ ?_
    rotate_left 2
    · intro w hSw
      (try dsimp only at hSw)
      go_simp
      try with_reducible rfl
    · (try simp only [Act.put, List.setIfInBounds_toArray, List.set_cons_zero, List.set_cons_succ])
      try rfl
    refine sched_take' (v := ?_) (a' := ?_) rfl (by kernel_rfl) ?_ rfl ?_ ?_
    rotate_left 2
    · intro w hSw
      (try dsimp only at hSw)
      go_simp
      try with_reducible rfl
    · (try simp only [Act.put, List.setIfInBounds_toArray, List.set_cons_zero, List.set_cons_succ])
      try rfl
    refine sched_call rfl (by kernel_rfl) (fun K1 hK1 => ?_)
    go_simp
    refine (S1.out _).mono ?_
    rintro e w1 ⟨rfl, hz⟩
    have X1 := Lib.hid (X0.out.drew.call hz)
    have B1 := Lib.hid (B0.out.drew.trans (hz.mono B0.out.drew.size))
    clear hz
    go_wp2_with fail
    refine hK1.out _ _ ?_ (sched_lay (a' := ?_) ?_ ?_)
    · obtain ⟨m0, m1, m2, m3, m4, m5⟩ := X1.out.six; exact ⟨m0, m1, m2, m3, m4, m5, (Hrow.out _ B1.out).1, (Hrow.out _ B1.out).2⟩
    rotate_left 1
    · (try simp only [Act.put, List.getElem_toArray, List.getElem_cons_succ, List.getElem_cons_zero, List.setIfInBounds_toArray, List.set_cons_zero, List.set_cons_succ])
      try rfl
    clear hK1 K1
    refine sched_call rfl (by kernel_rfl) (fun K1 hK1 => ?_)
    go_simp
    refine (S2.out _).mono ?_
    rintro e w2 ⟨rfl, hz⟩
    have X2 := Lib.hid (X1.out.call hz)
    have B2 := Lib.hid (B1.out.trans (hz.mono B1.out.size))
    clear hz
    go_wp2_with fail
    refine hK1.out _ _ ?_ (sched_lay (a' := ?_) ?_ ?_)
    · obtain ⟨m0, m1, m2, m3, m4, m5⟩ := X2.out.six; exact ⟨m0, m1, m2, m3, m4, m5, (Hrow.out _ B2.out).1, (Hrow.out _ B2.out).2⟩
    rotate_left 1
    · (try simp only [Act.put, List.getElem_toArray, List.getElem_cons_succ, List.getElem_cons_zero, List.setIfInBounds_toArray, List.set_cons_zero, List.set_cons_succ])
      try rfl
    clear hK1 K1
    refine sched_take' (v := .bool false) (a' := ?_) rfl (by kernel_rfl) ?_ rfl ?_ ?_
    rotate_left 1
    · intro w hSw
      (try dsimp only at hSw)
      go_simp
      first | done | exact hne | (rw [← hne]; simp [bne]; done) | simpa using hne
    · (try simp only [Act.put, List.setIfInBounds_toArray, List.set_cons_zero, List.set_cons_succ])
      try rfl
    refine sched_done (hQ1.out _ _ ?_)
    have hv : V = (List.range (n + 1)).all fa := by rw [Hfe.out, show (p1 == p2) = true by simpa [bne] using hne]; rfl
    have Hv := Lib.hid hv
    clear hv hne Hfe
    go_wp2_with fail
    go_loopg [10] (n + 1) (fun c i wr => ∃ k : Nat, k + c = n + 1 ∧ i = .int .i64 k ∧ Two w wr #[.int .i64 na, .string SA, .string RA] #[.int .i64 nb, .string SB, .string RB] ∧ Below w.heap.size w wr ∧ ∀ j, j < k → fa j = true)
    case atStart => exact ⟨0, by omega, rfl, X2.out, B2.out, fun j hj => absurd hj (Nat.not_lt_zero _)⟩
    case round =>
      clear X0 X1 X2 B0 B1 B2
      obtain ⟨k, hk, rfl, hx, hb, hall⟩ := hrel
      have X5 := Lib.hid hx
      have B5 := Lib.hid hb
      have Hall := Lib.hid hall
      clear hx hb hall
      by_cases hlt : k ≤ n
      · have i1 : (0 : Int) ≤ (k : Int) := by omega
        have i2 : (k : Int) < (n : Int) + 1 := by omega
        have i3 : (k : Int) ≤ (n : Int) := by omega
        have Hrow2 := Lib.hid (HL2.out k hlt)
        go_upto_region 7 with (fail)
        have U1 := Lib.hid (T1.out k hlt)
        have U2 := Lib.hid (T2.out k hlt)
        have U3 := Lib.hid (T3.out k hlt)
        have U4 := Lib.hid (T4.out k hlt)
        have hfk := Hfa.out k
        have hst : ∀ b : Bool, fa k = b → (∀ j, j < k → fa j = true) → (if b then ∀ j, j < k + 1 → fa j = true else (List.range (n + 1)).all fa = false) := fun b e h => by
          cases b with
          | true =>
            intro j hj
            by_cases hjk : j = k
            · rw [hjk, e]
            · exact h j (by omega)
          | false => exact all_not (by omega) e
        have Hst := Lib.hid hst
        clear hst
        obtain ⟨ei, hei⟩ : ∃ ei : Bool, (((d k : Nat) : Int) == (x : Int)) = ei := ⟨_, rfl⟩
        obtain ⟨fi, hfi⟩ : ∃ fi : Bool, ((k : Int) == (n : Int)) = fi := ⟨_, rfl⟩
        have hfk2 : fa k = (ei == fi && A1 k == A2 k && A3 k == A4 k) := by
          have e1 : (((d k : Nat) : Int) == (x : Int)) = decide (d k = x) := by rw [Bool.eq_iff_iff, beq_iff_eq, decide_eq_true_eq]; omega
          have e2 : ((k : Int) == (n : Int)) = decide (k = n) := by rw [Bool.eq_iff_iff, beq_iff_eq, decide_eq_true_eq]; omega
          rw [hfk, ← hei, ← hfi, e1, e2]
        clear hfk
        generalize A1 k = a1 at *
        generalize A2 k = a2 at *
        generalize A3 k = a3 at *
        generalize A4 k = a4 at *
        have Hfk := Lib.hid hfk2
        clear hfk2
        obtain ⟨pe, hpe⟩ : ∃ pe : Bool, (ei != fi) = pe := ⟨_, rfl⟩
        obtain ⟨pq, hpq⟩ : ∃ pq : Bool, (a1 != a2) = pq := ⟨_, rfl⟩
        obtain ⟨pr, hpr⟩ : ∃ pr : Bool, (a3 != a4) = pr := ⟨_, rfl⟩
        refine region_sched [(0, true), (1, true), (2, true), (3, true), (4, true), (5, true), (6, true), (7, true), (8, true), (9, true), (10, true), (11, true), (12, true), (13, true), (14, true), (15, true), (16, true), (17, true), (18, true), (19, true), (20, true), (21, true), (22, true), (23, true), (24, true), (25, true), (26, true), (27, true), (28, true), (30, true), (31, true), (32, true), (33, true), (34, true), (35, true), (36, true), (37, true), (38, true), (29, false), (39, false), (40, true), (41, true), (42, true), (43, true), (44, true), (45, true), (46, true), (47, true), (48, true), (49, true), (50, true), (51, true), (53, true), (54, true), (55, true), (56, true), (57, true), (58, true), (59, true), (60, true), (61, true), (52, false), (62, false), (63, true), (64, true)] (fun w' : World => w'.cell? ⟨w.heap.size, 0, none⟩ = some (.int .i64 na) ∧ w'.cell? ⟨w.heap.size, 1, none⟩ = some (.string SA) ∧ w'.cell? ⟨w.heap.size, 2, none⟩ = some (.string RA) ∧ w'.cell? ⟨w.heap.size + 1, 0, none⟩ = some (.int .i64 nb) ∧ w'.cell? ⟨w.heap.size + 1, 1, none⟩ = some (.string SB) ∧ w'.cell? ⟨w.heap.size + 1, 2, none⟩ = some (.string RB) ∧ w'.cell? ⟨ga, n, none⟩ = some (.int .i64 x) ∧ w'.cell? ⟨gb, n, none⟩ = some (.int .i64 n) ∧ w'.cell? ⟨ga, k, none⟩ = some (.int .i64 (d k)) ∧ w'.cell? ⟨gb, k, none⟩ = some (.int .i64 k)) (by kernel_rfl) (by kernel_rfl) (by kernel_rfl) (by kernel_rfl) (fun _ _ _ _ h => h) ?_ (fun Q1 hQ1 => ?_)
        · obtain ⟨m0, m1, m2, m3, m4, m5⟩ := X5.out.drew.six; exact ⟨m0, m1, m2, m3, m4, m5, (Hrow.out _ B5.out.drew).1, (Hrow.out _ B5.out.drew).2, (Hrow2.out _ B5.out.drew).1, (Hrow2.out _ B5.out.drew).2⟩
        try simp only [List.append]
        refine sched_take' (v := ?_) (a' := ?_) rfl (by kernel_rfl) ?_ rfl ?_ ?_
        rotate_left 2
        · intro w hSw
          (try dsimp only at hSw)
          go_simp
          try with_reducible rfl
        · (try simp only [Act.put, List.setIfInBounds_toArray, List.set_cons_zero, List.set_cons_succ])
          try rfl
        refine sched_take' (v := ?_) (a' := ?_) rfl (by kernel_rfl) ?_ rfl ?_ ?_
        rotate_left 2
        · intro w hSw
          (try dsimp only at hSw)
          go_simp
          try with_reducible rfl
        · (try simp only [Act.put, List.setIfInBounds_toArray, List.set_cons_zero, List.set_cons_succ])
          try rfl
        refine sched_take' (v := ?_) (a' := ?_) rfl (by kernel_rfl) ?_ rfl ?_ ?_
        rotate_left 2
        · intro w hSw
          (try dsimp only at hSw)
          go_simp
          try with_reducible rfl
        · (try simp only [Act.put, List.setIfInBounds_toArray, List.set_cons_zero, List.set_cons_succ])
          try rfl
        refine sched_take' (v := ?_) (a' := ?_) rfl (by kernel_rfl) ?_ rfl ?_ ?_
        rotate_left 2
        · intro w hSw
          (try dsimp only at hSw)
          go_simp
          try with_reducible rfl
        · (try simp only [Act.put, List.setIfInBounds_toArray, List.set_cons_zero, List.set_cons_succ])
          try rfl
        refine sched_take' (v := ?_) (a' := ?_) rfl (by kernel_rfl) ?_ rfl ?_ ?_
        rotate_left 2
        · intro w hSw
          (try dsimp only at hSw)
          go_simp
          try with_reducible rfl
        · (try simp only [Act.put, List.setIfInBounds_toArray, List.set_cons_zero, List.set_cons_succ])
          try rfl
        refine sched_take' (v := ?_) (a' := ?_) rfl (by kernel_rfl) ?_ rfl ?_ ?_
        rotate_left 2
        · intro w hSw
          (try dsimp only at hSw)
          go_simp
          try with_reducible rfl
        · (try simp only [Act.put, List.setIfInBounds_toArray, List.set_cons_zero, List.set_cons_succ])
          try rfl
        refine sched_take' (v := ?_) (a' := ?_) rfl (by kernel_rfl) ?_ rfl ?_ ?_
        rotate_left 2
        · intro w hSw
          (try dsimp only at hSw)
          go_simp
          try with_reducible rfl
        · (try simp only [Act.put, List.setIfInBounds_toArray, List.set_cons_zero, List.set_cons_succ])
          try rfl
        refine sched_take' (v := ?_) (a' := ?_) rfl (by kernel_rfl) ?_ rfl ?_ ?_
        rotate_left 2
        · intro w hSw
          (try dsimp only at hSw)
          go_simp
          try with_reducible rfl
        · (try simp only [Act.put, List.setIfInBounds_toArray, List.set_cons_zero, List.set_cons_succ])
          try rfl
        refine sched_take' (v := .bool ei) (a' := ?_) rfl (by kernel_rfl) ?_ rfl ?_ ?_
        rotate_left 1
        · intro w hSw
          (try dsimp only at hSw)
          go_simp
          first | done | exact hei | (rw [← hei]; simp [bne]; done) | simpa using hei
        · (try simp only [Act.put, List.setIfInBounds_toArray, List.set_cons_zero, List.set_cons_succ])
          try rfl
        refine sched_take' (v := ?_) (a' := ?_) rfl (by kernel_rfl) ?_ rfl ?_ ?_
        rotate_left 2
        · intro w hSw
          (try dsimp only at hSw)
          go_simp
          try with_reducible rfl
        · (try simp only [Act.put, List.setIfInBounds_toArray, List.set_cons_zero, List.set_cons_succ])
          try rfl
        refine sched_take' (v := ?_) (a' := ?_) rfl (by kernel_rfl) ?_ rfl ?_ ?_
        rotate_left 2
        · intro w hSw
          (try dsimp only at hSw)
          go_simp
          try with_reducible rfl
        · (try simp only [Act.put, List.setIfInBounds_toArray, List.set_cons_zero, List.set_cons_succ])
          try rfl
        refine sched_take' (v := ?_) (a' := ?_) rfl (by kernel_rfl) ?_ rfl ?_ ?_
        rotate_left 2
        · intro w hSw
          (try dsimp only at hSw)
          go_simp
          try with_reducible rfl
        · (try simp only [Act.put, List.setIfInBounds_toArray, List.set_cons_zero, List.set_cons_succ])
          try rfl
        refine sched_take' (v := ?_) (a' := ?_) rfl (by kernel_rfl) ?_ rfl ?_ ?_
        rotate_left 2
        · intro w hSw
          (try dsimp only at hSw)
          go_simp
          try with_reducible rfl
        · (try simp only [Act.put, List.setIfInBounds_toArray, List.set_cons_zero, List.set_cons_succ])
          try rfl
        refine sched_take' (v := ?_) (a' := ?_) rfl (by kernel_rfl) ?_ rfl ?_ ?_
        rotate_left 2
        · intro w hSw
          (try dsimp only at hSw)
          go_simp
          try with_reducible rfl
        · (try simp only [Act.put, List.setIfInBounds_toArray, List.set_cons_zero, List.set_cons_succ])
          try rfl
        refine sched_take' (v := ?_) (a' := ?_) rfl (by kernel_rfl) ?_ rfl ?_ ?_
        rotate_left 2
        · intro w hSw
          (try dsimp only at hSw)
          go_simp
          try with_reducible rfl
        · (try simp only [Act.put, List.setIfInBounds_toArray, List.set_cons_zero, List.set_cons_succ])
          try rfl
        refine sched_take' (v := ?_) (a' := ?_) rfl (by kernel_rfl) ?_ rfl ?_ ?_
        rotate_left 2
        · intro w hSw
          (try dsimp only at hSw)
          go_simp
          try with_reducible rfl
        · (try simp only [Act.put, List.setIfInBounds_toArray, List.set_cons_zero, List.set_cons_succ])
          try rfl
        refine sched_take' (v := ?_) (a' := ?_) rfl (by kernel_rfl) ?_ rfl ?_ ?_
        rotate_left 2
        · intro w hSw
          (try dsimp only at hSw)
          go_simp
          try with_reducible rfl
        · (try simp only [Act.put, List.setIfInBounds_toArray, List.set_cons_zero, List.set_cons_succ])
          try rfl
        refine sched_take' (v := .bool fi) (a' := ?_) rfl (by kernel_rfl) ?_ rfl ?_ ?_
        rotate_left 1
        · intro w hSw
          (try dsimp only at hSw)
          go_simp
          first | done | exact hfi | (rw [← hfi]; simp [bne]; done) | simpa using hfi
        · (try simp only [Act.put, List.setIfInBounds_toArray, List.set_cons_zero, List.set_cons_succ])
          try rfl
        refine sched_take' (v := .bool pe) (a' := ?_) rfl (by kernel_rfl) ?_ rfl ?_ ?_
        rotate_left 1
        · intro w hSw
          (try dsimp only at hSw)
          go_simp
          first | done | exact hpe | (rw [← hpe]; simp [bne]; done) | simpa using hpe
        · (try simp only [Act.put, List.setIfInBounds_toArray, List.set_cons_zero, List.set_cons_succ])
          try rfl
        refine sched_take' (v := ?_) (a' := ?_) rfl (by kernel_rfl) ?_ rfl ?_ ?_
        rotate_left 2
        · intro w hSw
          (try dsimp only at hSw)
          go_simp
          try with_reducible rfl
        · (try simp only [Act.put, List.setIfInBounds_toArray, List.set_cons_zero, List.set_cons_succ])
          try rfl
        cases pe with
        | true =>
          refine sched_skip' (a' := ?_) rfl (by kernel_rfl) rfl ?_ ?_
          rotate_left 1
          · (try simp only [Act.put, List.setIfInBounds_toArray, List.set_cons_zero, List.set_cons_succ])
            try rfl
          refine sched_skip' (a' := ?_) rfl (by kernel_rfl) rfl ?_ ?_
          rotate_left 1
          · (try simp only [Act.put, List.setIfInBounds_toArray, List.set_cons_zero, List.set_cons_succ])
            try rfl
          refine sched_skip' (a' := ?_) rfl (by kernel_rfl) rfl ?_ ?_
          rotate_left 1
          · (try simp only [Act.put, List.setIfInBounds_toArray, List.set_cons_zero, List.set_cons_succ])
            try rfl
          refine sched_skip' (a' := ?_) rfl (by kernel_rfl) rfl ?_ ?_
          rotate_left 1
          · (try simp only [Act.put, List.setIfInBounds_toArray, List.set_cons_zero, List.set_cons_succ])
            try rfl
          refine sched_skip' (a' := ?_) rfl (by kernel_rfl) rfl ?_ ?_
          rotate_left 1
          · (try simp only [Act.put, List.setIfInBounds_toArray, List.set_cons_zero, List.set_cons_succ])
            try rfl
          refine sched_skip' (a' := ?_) rfl (by kernel_rfl) rfl ?_ ?_
          rotate_left 1
          · (try simp only [Act.put, List.setIfInBounds_toArray, List.set_cons_zero, List.set_cons_succ])
            try rfl
          refine sched_skip' (a' := ?_) rfl (by kernel_rfl) rfl ?_ ?_
          rotate_left 1
          · (try simp only [Act.put, List.setIfInBounds_toArray, List.set_cons_zero, List.set_cons_succ])
            try rfl
          refine sched_skip' (a' := ?_) rfl (by kernel_rfl) rfl ?_ ?_
          rotate_left 1
          · (try simp only [Act.put, List.setIfInBounds_toArray, List.set_cons_zero, List.set_cons_succ])
            try rfl
          refine sched_skip' (a' := ?_) rfl (by kernel_rfl) rfl ?_ ?_
          rotate_left 1
          · (try simp only [Act.put, List.setIfInBounds_toArray, List.set_cons_zero, List.set_cons_succ])
            try rfl
          refine sched_skip' (a' := ?_) rfl (by kernel_rfl) rfl ?_ ?_
          rotate_left 1
          · (try simp only [Act.put, List.setIfInBounds_toArray, List.set_cons_zero, List.set_cons_succ])
            try rfl
          refine sched_skip' (a' := ?_) rfl (by kernel_rfl) rfl ?_ ?_
          rotate_left 1
          · (try simp only [Act.put, List.setIfInBounds_toArray, List.set_cons_zero, List.set_cons_succ])
            try rfl
          refine sched_skip' (a' := ?_) rfl (by kernel_rfl) rfl ?_ ?_
          rotate_left 1
          · (try simp only [Act.put, List.setIfInBounds_toArray, List.set_cons_zero, List.set_cons_succ])
            try rfl
          refine sched_skip' (a' := ?_) rfl (by kernel_rfl) rfl ?_ ?_
          rotate_left 1
          · (try simp only [Act.put, List.setIfInBounds_toArray, List.set_cons_zero, List.set_cons_succ])
            try rfl
          refine sched_skip' (a' := ?_) rfl (by kernel_rfl) rfl ?_ ?_
          rotate_left 1
          · (try simp only [Act.put, List.setIfInBounds_toArray, List.set_cons_zero, List.set_cons_succ])
            try rfl
          refine sched_skip' (a' := ?_) rfl (by kernel_rfl) rfl ?_ ?_
          rotate_left 1
          · (try simp only [Act.put, List.setIfInBounds_toArray, List.set_cons_zero, List.set_cons_succ])
            try rfl
          refine sched_skip' (a' := ?_) rfl (by kernel_rfl) rfl ?_ ?_
          rotate_left 1
          · (try simp only [Act.put, List.setIfInBounds_toArray, List.set_cons_zero, List.set_cons_succ])
            try rfl
          refine sched_skip' (a' := ?_) rfl (by kernel_rfl) rfl ?_ ?_
          rotate_left 1
          · (try simp only [Act.put, List.setIfInBounds_toArray, List.set_cons_zero, List.set_cons_succ])
            try rfl
          refine sched_skip' (a' := ?_) rfl (by kernel_rfl) rfl ?_ ?_
          rotate_left 1
          · (try simp only [Act.put, List.setIfInBounds_toArray, List.set_cons_zero, List.set_cons_succ])
            try rfl
          refine sched_skipC' (a' := ?_) rfl (by kernel_rfl) ?_ rfl ?_ ?_
          rotate_left 1
          · obtain ⟨m0, m1, m2, m3, m4, m5⟩ := X5.out.drew.six; exact ⟨m0, m1, m2, m3, m4, m5, (Hrow.out _ B5.out.drew).1, (Hrow.out _ B5.out.drew).2, (Hrow2.out _ B5.out.drew).1, (Hrow2.out _ B5.out.drew).2⟩
          · (try simp only [Act.put, List.setIfInBounds_toArray, List.set_cons_zero, List.set_cons_succ])
            try rfl
          refine sched_skipC' (a' := ?_) rfl (by kernel_rfl) ?_ rfl ?_ ?_
          rotate_left 1
          · obtain ⟨m0, m1, m2, m3, m4, m5⟩ := X5.out.drew.six; exact ⟨m0, m1, m2, m3, m4, m5, (Hrow.out _ B5.out.drew).1, (Hrow.out _ B5.out.drew).2, (Hrow2.out _ B5.out.drew).1, (Hrow2.out _ B5.out.drew).2⟩
          · (try simp only [Act.put, List.setIfInBounds_toArray, List.set_cons_zero, List.set_cons_succ])
            try rfl
          refine sched_skip' (a' := ?_) rfl (by kernel_rfl) rfl ?_ ?_
          rotate_left 1
          · (try simp only [Act.put, List.setIfInBounds_toArray, List.set_cons_zero, List.set_cons_succ])
            try rfl
          refine sched_take' (v := ?_) (a' := ?_) rfl (by kernel_rfl) ?_ rfl ?_ ?_
          rotate_left 2
          · intro w hSw
            (try dsimp only at hSw)
            go_simp
            try with_reducible rfl
          · (try simp only [Act.put, List.setIfInBounds_toArray, List.set_cons_zero, List.set_cons_succ])
            try rfl
          refine sched_take' (v := ?_) (a' := ?_) rfl (by kernel_rfl) ?_ rfl ?_ ?_
          rotate_left 2
          · intro w hSw
            (try dsimp only at hSw)
            go_simp
            try with_reducible rfl
          · (try simp only [Act.put, List.setIfInBounds_toArray, List.set_cons_zero, List.set_cons_succ])
            try rfl
          refine sched_skip' (a' := ?_) rfl (by kernel_rfl) rfl ?_ ?_
          rotate_left 1
          · (try simp only [Act.put, List.setIfInBounds_toArray, List.set_cons_zero, List.set_cons_succ])
            try rfl
          refine sched_skip' (a' := ?_) rfl (by kernel_rfl) rfl ?_ ?_
          rotate_left 1
          · (try simp only [Act.put, List.setIfInBounds_toArray, List.set_cons_zero, List.set_cons_succ])
            try rfl
          refine sched_skip' (a' := ?_) rfl (by kernel_rfl) rfl ?_ ?_
          rotate_left 1
          · (try simp only [Act.put, List.setIfInBounds_toArray, List.set_cons_zero, List.set_cons_succ])
            try rfl
          refine sched_skip' (a' := ?_) rfl (by kernel_rfl) rfl ?_ ?_
          rotate_left 1
          · (try simp only [Act.put, List.setIfInBounds_toArray, List.set_cons_zero, List.set_cons_succ])
            try rfl
          refine sched_skip' (a' := ?_) rfl (by kernel_rfl) rfl ?_ ?_
          rotate_left 1
          · (try simp only [Act.put, List.setIfInBounds_toArray, List.set_cons_zero, List.set_cons_succ])
            try rfl
          refine sched_skip' (a' := ?_) rfl (by kernel_rfl) rfl ?_ ?_
          rotate_left 1
          · (try simp only [Act.put, List.setIfInBounds_toArray, List.set_cons_zero, List.set_cons_succ])
            try rfl
          refine sched_skip' (a' := ?_) rfl (by kernel_rfl) rfl ?_ ?_
          rotate_left 1
          · (try simp only [Act.put, List.setIfInBounds_toArray, List.set_cons_zero, List.set_cons_succ])
            try rfl
          refine sched_skip' (a' := ?_) rfl (by kernel_rfl) rfl ?_ ?_
          rotate_left 1
          · (try simp only [Act.put, List.setIfInBounds_toArray, List.set_cons_zero, List.set_cons_succ])
            try rfl
          refine sched_skip' (a' := ?_) rfl (by kernel_rfl) rfl ?_ ?_
          rotate_left 1
          · (try simp only [Act.put, List.setIfInBounds_toArray, List.set_cons_zero, List.set_cons_succ])
            try rfl
          refine sched_skip' (a' := ?_) rfl (by kernel_rfl) rfl ?_ ?_
          rotate_left 1
          · (try simp only [Act.put, List.setIfInBounds_toArray, List.set_cons_zero, List.set_cons_succ])
            try rfl
          refine sched_skip' (a' := ?_) rfl (by kernel_rfl) rfl ?_ ?_
          rotate_left 1
          · (try simp only [Act.put, List.setIfInBounds_toArray, List.set_cons_zero, List.set_cons_succ])
            try rfl
          refine sched_skip' (a' := ?_) rfl (by kernel_rfl) rfl ?_ ?_
          rotate_left 1
          · (try simp only [Act.put, List.setIfInBounds_toArray, List.set_cons_zero, List.set_cons_succ])
            try rfl
          refine sched_skip' (a' := ?_) rfl (by kernel_rfl) rfl ?_ ?_
          rotate_left 1
          · (try simp only [Act.put, List.setIfInBounds_toArray, List.set_cons_zero, List.set_cons_succ])
            try rfl
          refine sched_skip' (a' := ?_) rfl (by kernel_rfl) rfl ?_ ?_
          rotate_left 1
          · (try simp only [Act.put, List.setIfInBounds_toArray, List.set_cons_zero, List.set_cons_succ])
            try rfl
          refine sched_skip' (a' := ?_) rfl (by kernel_rfl) rfl ?_ ?_
          rotate_left 1
          · (try simp only [Act.put, List.setIfInBounds_toArray, List.set_cons_zero, List.set_cons_succ])
            try rfl
          refine sched_skip' (a' := ?_) rfl (by kernel_rfl) rfl ?_ ?_
          rotate_left 1
          · (try simp only [Act.put, List.setIfInBounds_toArray, List.set_cons_zero, List.set_cons_succ])
            try rfl
          refine sched_skip' (a' := ?_) rfl (by kernel_rfl) rfl ?_ ?_
          rotate_left 1
          · (try simp only [Act.put, List.setIfInBounds_toArray, List.set_cons_zero, List.set_cons_succ])
            try rfl
          refine sched_skip' (a' := ?_) rfl (by kernel_rfl) rfl ?_ ?_
          rotate_left 1
          · (try simp only [Act.put, List.setIfInBounds_toArray, List.set_cons_zero, List.set_cons_succ])
            try rfl
          refine sched_skipC' (a' := ?_) rfl (by kernel_rfl) ?_ rfl ?_ ?_
          rotate_left 1
          · obtain ⟨m0, m1, m2, m3, m4, m5⟩ := X5.out.drew.six; exact ⟨m0, m1, m2, m3, m4, m5, (Hrow.out _ B5.out.drew).1, (Hrow.out _ B5.out.drew).2, (Hrow2.out _ B5.out.drew).1, (Hrow2.out _ B5.out.drew).2⟩
          · (try simp only [Act.put, List.setIfInBounds_toArray, List.set_cons_zero, List.set_cons_succ])
            try rfl
          refine sched_skipC' (a' := ?_) rfl (by kernel_rfl) ?_ rfl ?_ ?_
          rotate_left 1
          · obtain ⟨m0, m1, m2, m3, m4, m5⟩ := X5.out.drew.six; exact ⟨m0, m1, m2, m3, m4, m5, (Hrow.out _ B5.out.drew).1, (Hrow.out _ B5.out.drew).2, (Hrow2.out _ B5.out.drew).1, (Hrow2.out _ B5.out.drew).2⟩
          · (try simp only [Act.put, List.setIfInBounds_toArray, List.set_cons_zero, List.set_cons_succ])
            try rfl
          refine sched_skip' (a' := ?_) rfl (by kernel_rfl) rfl ?_ ?_
          rotate_left 1
          · (try simp only [Act.put, List.setIfInBounds_toArray, List.set_cons_zero, List.set_cons_succ])
            try rfl
          refine sched_take' (v := ?_) (a' := ?_) rfl (by kernel_rfl) ?_ rfl ?_ ?_
          rotate_left 2
          · intro w hSw
            (try dsimp only at hSw)
            go_simp
            try with_reducible rfl
          · (try simp only [Act.put, List.setIfInBounds_toArray, List.set_cons_zero, List.set_cons_succ])
            try rfl
          refine sched_done (hQ1.out _ _ ?_)
          have hv : V = false := by rw [Hv.out]; exact Hst.out false (by rw [Hfk.out, show (ei == fi) = false by simpa [bne] using hpe]; rfl) Hall.out
          have Hv2 := Lib.hid hv
          clear hv
          go_wp2_with fail
          go_ret
          exact ⟨by rw [Hv2.out]; try rfl, B5.out.drew⟩
        | false =>
          refine sched_take' (v := ?_) (a' := ?_) rfl (by kernel_rfl) ?_ rfl ?_ ?_
          rotate_left 2
          · intro w hSw
            (try dsimp only at hSw)
            go_simp
            try with_reducible rfl
          · (try simp only [Act.put, List.setIfInBounds_toArray, List.set_cons_zero, List.set_cons_succ])
            try rfl
          refine sched_take' (v := ?_) (a' := ?_) rfl (by kernel_rfl) ?_ rfl ?_ ?_
          rotate_left 2
          · intro w hSw
            (try dsimp only at hSw)
            go_simp
            try with_reducible rfl
          · (try simp only [Act.put, List.setIfInBounds_toArray, List.set_cons_zero, List.set_cons_succ])
            try rfl
          refine sched_take' (v := ?_) (a' := ?_) rfl (by kernel_rfl) ?_ rfl ?_ ?_
          rotate_left 2
          · intro w hSw
            (try dsimp only at hSw)
            go_simp
            try with_reducible rfl
          · (try simp only [Act.put, List.setIfInBounds_toArray, List.set_cons_zero, List.set_cons_succ])
            try rfl
          refine sched_take' (v := ?_) (a' := ?_) rfl (by kernel_rfl) ?_ rfl ?_ ?_
          rotate_left 2
          · intro w hSw
            (try dsimp only at hSw)
            go_simp
            try with_reducible rfl
          · (try simp only [Act.put, List.setIfInBounds_toArray, List.set_cons_zero, List.set_cons_succ])
            try rfl
          refine sched_take' (v := ?_) (a' := ?_) rfl (by kernel_rfl) ?_ rfl ?_ ?_
          rotate_left 2
          · intro w hSw
            (try dsimp only at hSw)
            go_simp
            try with_reducible rfl
          · (try simp only [Act.put, List.setIfInBounds_toArray, List.set_cons_zero, List.set_cons_succ])
            try rfl
          refine sched_take' (v := ?_) (a' := ?_) rfl (by kernel_rfl) ?_ rfl ?_ ?_
          rotate_left 2
          · intro w hSw
            (try dsimp only at hSw)
            go_simp
            try with_reducible rfl
          · (try simp only [Act.put, List.setIfInBounds_toArray, List.set_cons_zero, List.set_cons_succ])
            try rfl
          refine sched_take' (v := ?_) (a' := ?_) rfl (by kernel_rfl) ?_ rfl ?_ ?_
          rotate_left 2
          · intro w hSw
            (try dsimp only at hSw)
            go_simp
            try with_reducible rfl
          · (try simp only [Act.put, List.setIfInBounds_toArray, List.set_cons_zero, List.set_cons_succ])
            try rfl
          refine sched_take' (v := ?_) (a' := ?_) rfl (by kernel_rfl) ?_ rfl ?_ ?_
          rotate_left 2
          · intro w hSw
            (try dsimp only at hSw)
            go_simp
            try with_reducible rfl
          · (try simp only [Act.put, List.setIfInBounds_toArray, List.set_cons_zero, List.set_cons_succ])
            try rfl
          refine sched_take' (v := ?_) (a' := ?_) rfl (by kernel_rfl) ?_ rfl ?_ ?_
          rotate_left 2
          · intro w hSw
            (try dsimp only at hSw)
            go_simp
            try with_reducible rfl
          · (try simp only [Act.put, List.setIfInBounds_toArray, List.set_cons_zero, List.set_cons_succ])
            try rfl
          refine sched_take' (v := ?_) (a' := ?_) rfl (by kernel_rfl) ?_ rfl ?_ ?_
          rotate_left 2
          · intro w hSw
            (try dsimp only at hSw)
            go_simp
            try with_reducible rfl
          · (try simp only [Act.put, List.setIfInBounds_toArray, List.set_cons_zero, List.set_cons_succ])
            try rfl
          refine sched_take' (v := ?_) (a' := ?_) rfl (by kernel_rfl) ?_ rfl ?_ ?_
          rotate_left 2
          · intro w hSw
            (try dsimp only at hSw)
            go_simp
            try with_reducible rfl
          · (try simp only [Act.put, List.setIfInBounds_toArray, List.set_cons_zero, List.set_cons_succ])
            try rfl
          refine sched_take' (v := ?_) (a' := ?_) rfl (by kernel_rfl) ?_ rfl ?_ ?_
          rotate_left 2
          · intro w hSw
            (try dsimp only at hSw)
            go_simp
            try with_reducible rfl
          · (try simp only [Act.put, List.setIfInBounds_toArray, List.set_cons_zero, List.set_cons_succ])
            try rfl
          refine sched_take' (v := ?_) (a' := ?_) rfl (by kernel_rfl) ?_ rfl ?_ ?_
          rotate_left 2
          · intro w hSw
            (try dsimp only at hSw)
            go_simp
            try with_reducible rfl
          · (try simp only [Act.put, List.setIfInBounds_toArray, List.set_cons_zero, List.set_cons_succ])
            try rfl
          refine sched_take' (v := ?_) (a' := ?_) rfl (by kernel_rfl) ?_ rfl ?_ ?_
          rotate_left 2
          · intro w hSw
            (try dsimp only at hSw)
            go_simp
            try with_reducible rfl
          · (try simp only [Act.put, List.setIfInBounds_toArray, List.set_cons_zero, List.set_cons_succ])
            try rfl
          refine sched_take' (v := ?_) (a' := ?_) rfl (by kernel_rfl) ?_ rfl ?_ ?_
          rotate_left 2
          · intro w hSw
            (try dsimp only at hSw)
            go_simp
            try with_reducible rfl
          · (try simp only [Act.put, List.setIfInBounds_toArray, List.set_cons_zero, List.set_cons_succ])
            try rfl
          refine sched_take' (v := ?_) (a' := ?_) rfl (by kernel_rfl) ?_ rfl ?_ ?_
          rotate_left 2
          · intro w hSw
            (try dsimp only at hSw)
            go_simp
            try with_reducible rfl
          · (try simp only [Act.put, List.setIfInBounds_toArray, List.set_cons_zero, List.set_cons_succ])
            try rfl
          refine sched_take' (v := ?_) (a' := ?_) rfl (by kernel_rfl) ?_ rfl ?_ ?_
          rotate_left 2
          · intro w hSw
            (try dsimp only at hSw)
            go_simp
            try with_reducible rfl
          · (try simp only [Act.put, List.setIfInBounds_toArray, List.set_cons_zero, List.set_cons_succ])
            try rfl
          refine sched_take' (v := ?_) (a' := ?_) rfl (by kernel_rfl) ?_ rfl ?_ ?_
          rotate_left 2
          · intro w hSw
            (try dsimp only at hSw)
            go_simp
            try with_reducible rfl
          · (try simp only [Act.put, List.setIfInBounds_toArray, List.set_cons_zero, List.set_cons_succ])
            try rfl
          refine sched_call rfl (by kernel_rfl) (fun K1 hK1 => ?_)
          go_simp
          refine (U1.out _).mono ?_
          rintro e w6 ⟨rfl, hz⟩
          have X6 := Lib.hid (X5.out.drew.call hz)
          have B6 := Lib.hid (B5.out.drew.trans (hz.mono B5.out.drew.size))
          clear hz
          go_wp2_with fail
          refine hK1.out _ _ ?_ (sched_lay (a' := ?_) ?_ ?_)
          · obtain ⟨m0, m1, m2, m3, m4, m5⟩ := X6.out.six; exact ⟨m0, m1, m2, m3, m4, m5, (Hrow.out _ B6.out).1, (Hrow.out _ B6.out).2, (Hrow2.out _ B6.out).1, (Hrow2.out _ B6.out).2⟩
          rotate_left 1
          · (try simp only [Act.put, List.getElem_toArray, List.getElem_cons_succ, List.getElem_cons_zero, List.setIfInBounds_toArray, List.set_cons_zero, List.set_cons_succ])
            try rfl
          clear hK1 K1
          refine sched_call rfl (by kernel_rfl) (fun K1 hK1 => ?_)
          go_simp
          refine (U2.out _).mono ?_
          rintro e w7 ⟨rfl, hz⟩
          have X7 := Lib.hid (X6.out.call hz)
          have B7 := Lib.hid (B6.out.trans (hz.mono B6.out.size))
          clear hz
          go_wp2_with fail
          refine hK1.out _ _ ?_ (sched_lay (a' := ?_) ?_ ?_)
          · obtain ⟨m0, m1, m2, m3, m4, m5⟩ := X7.out.six; exact ⟨m0, m1, m2, m3, m4, m5, (Hrow.out _ B7.out).1, (Hrow.out _ B7.out).2, (Hrow2.out _ B7.out).1, (Hrow2.out _ B7.out).2⟩
          rotate_left 1
          · (try simp only [Act.put, List.getElem_toArray, List.getElem_cons_succ, List.getElem_cons_zero, List.setIfInBounds_toArray, List.set_cons_zero, List.set_cons_succ])
            try rfl
          clear hK1 K1
          refine sched_take' (v := .bool pq) (a' := ?_) rfl (by kernel_rfl) ?_ rfl ?_ ?_
          rotate_left 1
          · intro w hSw
            (try dsimp only at hSw)
            go_simp
            first | done | exact hpq | (rw [← hpq]; simp [bne]; done) | simpa using hpq
          · (try simp only [Act.put, List.setIfInBounds_toArray, List.set_cons_zero, List.set_cons_succ])
            try rfl
          refine sched_take' (v := ?_) (a' := ?_) rfl (by kernel_rfl) ?_ rfl ?_ ?_
          rotate_left 2
          · intro w hSw
            (try dsimp only at hSw)
            go_simp
            try with_reducible rfl
          · (try simp only [Act.put, List.setIfInBounds_toArray, List.set_cons_zero, List.set_cons_succ])
            try rfl
          refine sched_take' (v := ?_) (a' := ?_) rfl (by kernel_rfl) ?_ rfl ?_ ?_
          rotate_left 2
          · intro w hSw
            (try dsimp only at hSw)
            go_simp
            try with_reducible rfl
          · (try simp only [Act.put, List.setIfInBounds_toArray, List.set_cons_zero, List.set_cons_succ])
            try rfl
          cases pq with
          | true =>
            refine sched_skip' (a' := ?_) rfl (by kernel_rfl) rfl ?_ ?_
            rotate_left 1
            · (try simp only [Act.put, List.setIfInBounds_toArray, List.set_cons_zero, List.set_cons_succ])
              try rfl
            refine sched_skip' (a' := ?_) rfl (by kernel_rfl) rfl ?_ ?_
            rotate_left 1
            · (try simp only [Act.put, List.setIfInBounds_toArray, List.set_cons_zero, List.set_cons_succ])
              try rfl
            refine sched_skip' (a' := ?_) rfl (by kernel_rfl) rfl ?_ ?_
            rotate_left 1
            · (try simp only [Act.put, List.setIfInBounds_toArray, List.set_cons_zero, List.set_cons_succ])
              try rfl
            refine sched_skip' (a' := ?_) rfl (by kernel_rfl) rfl ?_ ?_
            rotate_left 1
            · (try simp only [Act.put, List.setIfInBounds_toArray, List.set_cons_zero, List.set_cons_succ])
              try rfl
            refine sched_skip' (a' := ?_) rfl (by kernel_rfl) rfl ?_ ?_
            rotate_left 1
            · (try simp only [Act.put, List.setIfInBounds_toArray, List.set_cons_zero, List.set_cons_succ])
              try rfl
            refine sched_skip' (a' := ?_) rfl (by kernel_rfl) rfl ?_ ?_
            rotate_left 1
            · (try simp only [Act.put, List.setIfInBounds_toArray, List.set_cons_zero, List.set_cons_succ])
              try rfl
            refine sched_skip' (a' := ?_) rfl (by kernel_rfl) rfl ?_ ?_
            rotate_left 1
            · (try simp only [Act.put, List.setIfInBounds_toArray, List.set_cons_zero, List.set_cons_succ])
              try rfl
            refine sched_skip' (a' := ?_) rfl (by kernel_rfl) rfl ?_ ?_
            rotate_left 1
            · (try simp only [Act.put, List.setIfInBounds_toArray, List.set_cons_zero, List.set_cons_succ])
              try rfl
            refine sched_skip' (a' := ?_) rfl (by kernel_rfl) rfl ?_ ?_
            rotate_left 1
            · (try simp only [Act.put, List.setIfInBounds_toArray, List.set_cons_zero, List.set_cons_succ])
              try rfl
            refine sched_skip' (a' := ?_) rfl (by kernel_rfl) rfl ?_ ?_
            rotate_left 1
            · (try simp only [Act.put, List.setIfInBounds_toArray, List.set_cons_zero, List.set_cons_succ])
              try rfl
            refine sched_skip' (a' := ?_) rfl (by kernel_rfl) rfl ?_ ?_
            rotate_left 1
            · (try simp only [Act.put, List.setIfInBounds_toArray, List.set_cons_zero, List.set_cons_succ])
              try rfl
            refine sched_skip' (a' := ?_) rfl (by kernel_rfl) rfl ?_ ?_
            rotate_left 1
            · (try simp only [Act.put, List.setIfInBounds_toArray, List.set_cons_zero, List.set_cons_succ])
              try rfl
            refine sched_skip' (a' := ?_) rfl (by kernel_rfl) rfl ?_ ?_
            rotate_left 1
            · (try simp only [Act.put, List.setIfInBounds_toArray, List.set_cons_zero, List.set_cons_succ])
              try rfl
            refine sched_skip' (a' := ?_) rfl (by kernel_rfl) rfl ?_ ?_
            rotate_left 1
            · (try simp only [Act.put, List.setIfInBounds_toArray, List.set_cons_zero, List.set_cons_succ])
              try rfl
            refine sched_skip' (a' := ?_) rfl (by kernel_rfl) rfl ?_ ?_
            rotate_left 1
            · (try simp only [Act.put, List.setIfInBounds_toArray, List.set_cons_zero, List.set_cons_succ])
              try rfl
            refine sched_skip' (a' := ?_) rfl (by kernel_rfl) rfl ?_ ?_
            rotate_left 1
            · (try simp only [Act.put, List.setIfInBounds_toArray, List.set_cons_zero, List.set_cons_succ])
              try rfl
            refine sched_skip' (a' := ?_) rfl (by kernel_rfl) rfl ?_ ?_
            rotate_left 1
            · (try simp only [Act.put, List.setIfInBounds_toArray, List.set_cons_zero, List.set_cons_succ])
              try rfl
            refine sched_skip' (a' := ?_) rfl (by kernel_rfl) rfl ?_ ?_
            rotate_left 1
            · (try simp only [Act.put, List.setIfInBounds_toArray, List.set_cons_zero, List.set_cons_succ])
              try rfl
            refine sched_skipC' (a' := ?_) rfl (by kernel_rfl) ?_ rfl ?_ ?_
            rotate_left 1
            · obtain ⟨m0, m1, m2, m3, m4, m5⟩ := X7.out.six; exact ⟨m0, m1, m2, m3, m4, m5, (Hrow.out _ B7.out).1, (Hrow.out _ B7.out).2, (Hrow2.out _ B7.out).1, (Hrow2.out _ B7.out).2⟩
            · (try simp only [Act.put, List.setIfInBounds_toArray, List.set_cons_zero, List.set_cons_succ])
              try rfl
            refine sched_skipC' (a' := ?_) rfl (by kernel_rfl) ?_ rfl ?_ ?_
            rotate_left 1
            · obtain ⟨m0, m1, m2, m3, m4, m5⟩ := X7.out.six; exact ⟨m0, m1, m2, m3, m4, m5, (Hrow.out _ B7.out).1, (Hrow.out _ B7.out).2, (Hrow2.out _ B7.out).1, (Hrow2.out _ B7.out).2⟩
            · (try simp only [Act.put, List.setIfInBounds_toArray, List.set_cons_zero, List.set_cons_succ])
              try rfl
            refine sched_skip' (a' := ?_) rfl (by kernel_rfl) rfl ?_ ?_
            rotate_left 1
            · (try simp only [Act.put, List.setIfInBounds_toArray, List.set_cons_zero, List.set_cons_succ])
              try rfl
            refine sched_take' (v := ?_) (a' := ?_) rfl (by kernel_rfl) ?_ rfl ?_ ?_
            rotate_left 2
            · intro w hSw
              (try dsimp only at hSw)
              go_simp
              try with_reducible rfl
            · (try simp only [Act.put, List.setIfInBounds_toArray, List.set_cons_zero, List.set_cons_succ])
              try rfl
            refine sched_done (hQ1.out _ _ ?_)
            have hv : V = false := by rw [Hv.out]; exact Hst.out false (by rw [Hfk.out, show (a1 == a2) = false by simpa [bne] using hpq]; simp) Hall.out
            have Hv2 := Lib.hid hv
            clear hv
            go_wp2_with fail
            go_ret
            exact ⟨by rw [Hv2.out]; try rfl, B7.out⟩
          | false =>
            refine sched_take' (v := ?_) (a' := ?_) rfl (by kernel_rfl) ?_ rfl ?_ ?_
            rotate_left 2
            · intro w hSw
              (try dsimp only at hSw)
              go_simp
              try with_reducible rfl
            · (try simp only [Act.put, List.setIfInBounds_toArray, List.set_cons_zero, List.set_cons_succ])
              try rfl
            refine sched_take' (v := ?_) (a' := ?_) rfl (by kernel_rfl) ?_ rfl ?_ ?_
            rotate_left 2
            · intro w hSw
              (try dsimp only at hSw)
              go_simp
              try with_reducible rfl
            · (try simp only [Act.put, List.setIfInBounds_toArray, List.set_cons_zero, List.set_cons_succ])
              try rfl
            refine sched_take' (v := ?_) (a' := ?_) rfl (by kernel_rfl) ?_ rfl ?_ ?_
            rotate_left 2
            · intro w hSw
              (try dsimp only at hSw)
              go_simp
              try with_reducible rfl
            · (try simp only [Act.put, List.setIfInBounds_toArray, List.set_cons_zero, List.set_cons_succ])
              try rfl
            refine sched_take' (v := ?_) (a' := ?_) rfl (by kernel_rfl) ?_ rfl ?_ ?_
            rotate_left 2
            · intro w hSw
              (try dsimp only at hSw)
              go_simp
              try with_reducible rfl
            · (try simp only [Act.put, List.setIfInBounds_toArray, List.set_cons_zero, List.set_cons_succ])
              try rfl
            refine sched_take' (v := ?_) (a' := ?_) rfl (by kernel_rfl) ?_ rfl ?_ ?_
            rotate_left 2
            · intro w hSw
              (try dsimp only at hSw)
              go_simp
              try with_reducible rfl
            · (try simp only [Act.put, List.setIfInBounds_toArray, List.set_cons_zero, List.set_cons_succ])
              try rfl
            refine sched_take' (v := ?_) (a' := ?_) rfl (by kernel_rfl) ?_ rfl ?_ ?_
            rotate_left 2
            · intro w hSw
              (try dsimp only at hSw)
              go_simp
              try with_reducible rfl
            · (try simp only [Act.put, List.setIfInBounds_toArray, List.set_cons_zero, List.set_cons_succ])
              try rfl
            refine sched_take' (v := ?_) (a' := ?_) rfl (by kernel_rfl) ?_ rfl ?_ ?_
            rotate_left 2
            · intro w hSw
              (try dsimp only at hSw)
              go_simp
              try with_reducible rfl
            · (try simp only [Act.put, List.setIfInBounds_toArray, List.set_cons_zero, List.set_cons_succ])
              try rfl
            refine sched_take' (v := ?_) (a' := ?_) rfl (by kernel_rfl) ?_ rfl ?_ ?_
            rotate_left 2
            · intro w hSw
              (try dsimp only at hSw)
              go_simp
              try with_reducible rfl
            · (try simp only [Act.put, List.setIfInBounds_toArray, List.set_cons_zero, List.set_cons_succ])
              try rfl
            refine sched_take' (v := ?_) (a' := ?_) rfl (by kernel_rfl) ?_ rfl ?_ ?_
            rotate_left 2
            · intro w hSw
              (try dsimp only at hSw)
              go_simp
              try with_reducible rfl
            · (try simp only [Act.put, List.setIfInBounds_toArray, List.set_cons_zero, List.set_cons_succ])
              try rfl
            refine sched_take' (v := ?_) (a' := ?_) rfl (by kernel_rfl) ?_ rfl ?_ ?_
            rotate_left 2
            · intro w hSw
              (try dsimp only at hSw)
              go_simp
              try with_reducible rfl
            · (try simp only [Act.put, List.setIfInBounds_toArray, List.set_cons_zero, List.set_cons_succ])
              try rfl
            refine sched_take' (v := ?_) (a' := ?_) rfl (by kernel_rfl) ?_ rfl ?_ ?_
            rotate_left 2
            · intro w hSw
              (try dsimp only at hSw)
              go_simp
              try with_reducible rfl
            · (try simp only [Act.put, List.setIfInBounds_toArray, List.set_cons_zero, List.set_cons_succ])
              try rfl
            refine sched_take' (v := ?_) (a' := ?_) rfl (by kernel_rfl) ?_ rfl ?_ ?_
            rotate_left 2
            · intro w hSw
              (try dsimp only at hSw)
              go_simp
              try with_reducible rfl
            · (try simp only [Act.put, List.setIfInBounds_toArray, List.set_cons_zero, List.set_cons_succ])
              try rfl
            refine sched_take' (v := ?_) (a' := ?_) rfl (by kernel_rfl) ?_ rfl ?_ ?_
            rotate_left 2
            · intro w hSw
              (try dsimp only at hSw)
              go_simp
              try with_reducible rfl
            · (try simp only [Act.put, List.setIfInBounds_toArray, List.set_cons_zero, List.set_cons_succ])
              try rfl
            refine sched_take' (v := ?_) (a' := ?_) rfl (by kernel_rfl) ?_ rfl ?_ ?_
            rotate_left 2
            · intro w hSw
              (try dsimp only at hSw)
              go_simp
              try with_reducible rfl
            · (try simp only [Act.put, List.setIfInBounds_toArray, List.set_cons_zero, List.set_cons_succ])
              try rfl
            refine sched_take' (v := ?_) (a' := ?_) rfl (by kernel_rfl) ?_ rfl ?_ ?_
            rotate_left 2
            · intro w hSw
              (try dsimp only at hSw)
              go_simp
              try with_reducible rfl
            · (try simp only [Act.put, List.setIfInBounds_toArray, List.set_cons_zero, List.set_cons_succ])
              try rfl
            refine sched_take' (v := ?_) (a' := ?_) rfl (by kernel_rfl) ?_ rfl ?_ ?_
            rotate_left 2
            · intro w hSw
              (try dsimp only at hSw)
              go_simp
              try with_reducible rfl
            · (try simp only [Act.put, List.setIfInBounds_toArray, List.set_cons_zero, List.set_cons_succ])
              try rfl
            refine sched_take' (v := ?_) (a' := ?_) rfl (by kernel_rfl) ?_ rfl ?_ ?_
            rotate_left 2
            · intro w hSw
              (try dsimp only at hSw)
              go_simp
              try with_reducible rfl
            · (try simp only [Act.put, List.setIfInBounds_toArray, List.set_cons_zero, List.set_cons_succ])
              try rfl
            refine sched_take' (v := ?_) (a' := ?_) rfl (by kernel_rfl) ?_ rfl ?_ ?_
            rotate_left 2
            · intro w hSw
              (try dsimp only at hSw)
              go_simp
              try with_reducible rfl
            · (try simp only [Act.put, List.setIfInBounds_toArray, List.set_cons_zero, List.set_cons_succ])
              try rfl
            refine sched_call rfl (by kernel_rfl) (fun K1 hK1 => ?_)
            go_simp
            refine (U3.out _).mono ?_
            rintro e w8 ⟨rfl, hz⟩
            have X8 := Lib.hid (X7.out.call hz)
            have B8 := Lib.hid (B7.out.trans (hz.mono B7.out.size))
            clear hz
            go_wp2_with fail
            refine hK1.out _ _ ?_ (sched_lay (a' := ?_) ?_ ?_)
            · obtain ⟨m0, m1, m2, m3, m4, m5⟩ := X8.out.six; exact ⟨m0, m1, m2, m3, m4, m5, (Hrow.out _ B8.out).1, (Hrow.out _ B8.out).2, (Hrow2.out _ B8.out).1, (Hrow2.out _ B8.out).2⟩
            rotate_left 1
            · (try simp only [Act.put, List.getElem_toArray, List.getElem_cons_succ, List.getElem_cons_zero, List.setIfInBounds_toArray, List.set_cons_zero, List.set_cons_succ])
              try rfl
            clear hK1 K1
            refine sched_call rfl (by kernel_rfl) (fun K1 hK1 => ?_)
            go_simp
            refine (U4.out _).mono ?_
            rintro e w9 ⟨rfl, hz⟩
            have X9 := Lib.hid (X8.out.call hz)
            have B9 := Lib.hid (B8.out.trans (hz.mono B8.out.size))
            clear hz
            go_wp2_with fail
            refine hK1.out _ _ ?_ (sched_lay (a' := ?_) ?_ ?_)
            · obtain ⟨m0, m1, m2, m3, m4, m5⟩ := X9.out.six; exact ⟨m0, m1, m2, m3, m4, m5, (Hrow.out _ B9.out).1, (Hrow.out _ B9.out).2, (Hrow2.out _ B9.out).1, (Hrow2.out _ B9.out).2⟩
            rotate_left 1
            · (try simp only [Act.put, List.getElem_toArray, List.getElem_cons_succ, List.getElem_cons_zero, List.setIfInBounds_toArray, List.set_cons_zero, List.set_cons_succ])
              try rfl
            clear hK1 K1
            refine sched_take' (v := .bool pr) (a' := ?_) rfl (by kernel_rfl) ?_ rfl ?_ ?_
            rotate_left 1
            · intro w hSw
              (try dsimp only at hSw)
              go_simp
              first | done | exact hpr | (rw [← hpr]; simp [bne]; done) | simpa using hpr
            · (try simp only [Act.put, List.setIfInBounds_toArray, List.set_cons_zero, List.set_cons_succ])
              try rfl
            refine sched_take' (v := ?_) (a' := ?_) rfl (by kernel_rfl) ?_ rfl ?_ ?_
            rotate_left 2
            · intro w hSw
              (try dsimp only at hSw)
              go_simp
              try with_reducible rfl
            · (try simp only [Act.put, List.setIfInBounds_toArray, List.set_cons_zero, List.set_cons_succ])
              try rfl
            refine sched_done (hQ1.out _ _ ?_)
            cases pr with
            | true =>
              have hv : V = false := by rw [Hv.out]; exact Hst.out false (by rw [Hfk.out, show (a3 == a4) = false by simpa [bne] using hpr]; simp) Hall.out
              have Hv2 := Lib.hid hv
              clear hv
              go_wp2_with fail
              go_ret
              exact ⟨by rw [Hv2.out]; try rfl, B9.out⟩
            | false =>
              have hall2 := Hst.out true (by rw [Hfk.out, show (ei == fi) = true by simpa [bne] using hpe, show (a1 == a2) = true by simpa [bne] using hpq, show (a3 == a4) = true by simpa [bne] using hpr]; rfl) Hall.out
              have Hall2 := Lib.hid hall2
              clear hall2 hpe hpq hpr
              go_wp2_with fail
              go_roundg (n + 1 - k - 1)
              case rel => exact ⟨k + 1, by omega, by go_num, X9.out, B9.out, Hall2.out⟩
              case measure => omega
      · have hk2 : k = n + 1 := by omega
        have hv2 : V = true := by rw [Hv.out, ← hk2, all_upto Hall.out]
        have Hv2 := Lib.hid hv2
        have i1 : ¬ (k : Int) ≤ (n : Int) := by omega
        clear hv2 hk2
        go_wp2_with fail
        go_ret
        exact ⟨by rw [Hv2.out]; try rfl, B5.out⟩

end Go.Proofs.YtgnmlijfenjehaaDoor
