/-
  Laws of the functions that the claim reaches, one after the other (packed by a program of the prover's: Placed, EachA, App, Draw7, Draw10). Conditions: texts below the reach.
-/
import Derived.Test.YteonanaihklgmaaDoorPq2
import Derived.Deep.DrawnRows
import Derived.Test.YteonanaihklgmaaDoorPq0
import Derived.Maps.AppendAt
import Derived.Deep.AppendLies
set_option linter.unusedSimpArgs false
set_option linter.unusedVariables false

namespace Go.Proofs.YteonanaihklgmaaDoor
open Go.RowKit
open Pl
set_option linter.unusedSimpArgs false
set_option linter.unusedVariables false
attribute [local go_sem ↓] Go.wp_at_zero Go.wp_at_succ

/-- two boxes behind a call -/
def Two (w W : World) (ca cb : Array Value) : Prop := Bx W w.heap.size 27 ca ∧ Bx W (w.heap.size + 1) 27 cb
theorem Two.call {w W W' : World} {ca cb : Array Value} (h : Two w W ca cb) (hb : Below W.heap.size W W') : Two w W' ca cb := ⟨h.1.call hb, h.2.call hb⟩
theorem Two.drew {w W : World} {ca cb : Array Value} (h : Two w W ca cb) : Two w W.drew ca cb := h
theorem Two.six {w W : World} {a b c d e f : Value} (h : Two w W #[a, b, c] #[d, e, f]) : W.cell? ⟨w.heap.size, 0, none⟩ = some a ∧ W.cell? ⟨w.heap.size, 1, none⟩ = some b ∧ W.cell? ⟨w.heap.size, 2, none⟩ = some c ∧ W.cell? ⟨w.heap.size + 1, 0, none⟩ = some d ∧ W.cell? ⟨w.heap.size + 1, 1, none⟩ = some e ∧ W.cell? ⟨w.heap.size + 1, 2, none⟩ = some f :=
  ⟨h.1.cell 0, h.1.cell 1, h.1.cell 2, h.2.cell 0, h.2.cell 1, h.2.cell 2⟩

/-- what the k-th element before says -/
def fitAt (a b : St) (o : List Nat) (x k : Nat) : Bool := a.inR x (o.getD k 0) == b.inR o.length k && a.inR (o.getD k 0) x == b.inR k o.length

theorem fitsB_eq (a b : St) (o : List Nat) (x : Nat) : fitsB a b o x = (a.inS x == b.inS o.length && a.inR x x == b.inR o.length o.length && (List.range o.length).all (fitAt a b o x)) := rfl

theorem all_upto {p : Nat → Bool} {n : Nat} (h : ∀ k, k < n → p k = true) : (List.range n).all p = true := List.all_eq_true.2 fun k hk => h k (List.mem_range.1 hk)
theorem all_not {p : Nat → Bool} {n k : Nat} (hk : k < n) (h : p k = false) : (List.range n).all p = false := by
  rw [Bool.eq_false_iff]; intro e
  have := List.all_eq_true.1 e k (List.mem_range.2 hk)
  rw [h] at this; cases this

set_option maxHeartbeats 4000000 in
set_option maxRecDepth 100000 in
theorem placed_calls (a b : St) (ha : a.ok) (hb : b.ok) (hab : a.n = b.n) (o : List Nat) (ho : ∀ y ∈ o, y < a.n) (hl : o.length < a.n) (x : Nat) (hx : x < a.n) (A : Option Addr) (cap : Nat) (w : World) (hA : LRow w A (natsI o)) :
    Calls Tryd.prog 90 #[stA a, stA b, .slice A o.length cap, .int .i64 x] w fun e w' => e = .returned (.bool (fitsB a b o x)) ∧ Below w.heap.size w w' := by
  have hn8 := ha.hi
  have hlt : ∀ k, k < o.length → o.getD k 0 < a.n := fun k hk => getD_lt ho hk
  have s1 : ∀ W, Calls Tryd.prog 57 #[stV (a.n : Int) (bs a.set) (bs a.rel), .int .i64 x] W fun e w' => e = .returned (.bool (a.inS x)) ∧ Below W.heap.size W w' := fun W => inSet_calls a ha x hx W
  have s2 : ∀ W, Calls Tryd.prog 57 #[stV (b.n : Int) (bs b.set) (bs b.rel), .int .i64 o.length] W fun e w' => e = .returned (.bool (b.inS o.length)) ∧ Below W.heap.size W w' := fun W => inSet_calls b hb o.length (by omega) W
  have r1 : ∀ W, Calls Tryd.prog 107 #[stV (a.n : Int) (bs a.set) (bs a.rel), .int .i64 x, .int .i64 x] W fun e w' => e = .returned (.bool (a.inR x x)) ∧ Below W.heap.size W w' := fun W => inRel_calls a ha x x hx hx W
  have r2 : ∀ W, Calls Tryd.prog 107 #[stV (b.n : Int) (bs b.set) (bs b.rel), .int .i64 o.length, .int .i64 o.length] W fun e w' => e = .returned (.bool (b.inR o.length o.length)) ∧ Below W.heap.size W w' := fun W => inRel_calls b hb o.length o.length (by omega) (by omega) W
  have t1 : ∀ k, k < o.length → ∀ W, Calls Tryd.prog 107 #[stV (a.n : Int) (bs a.set) (bs a.rel), .int .i64 x, .int .i64 (o.getD k 0 : Nat)] W fun e w' => e = .returned (.bool (a.inR x (o.getD k 0))) ∧ Below W.heap.size W w' := fun k hk W => inRel_calls a ha x _ hx (hlt k hk) W
  have t2 : ∀ k, k < o.length → ∀ W, Calls Tryd.prog 107 #[stV (b.n : Int) (bs b.set) (bs b.rel), .int .i64 o.length, .int .i64 k] W fun e w' => e = .returned (.bool (b.inR o.length k)) ∧ Below W.heap.size W w' := fun k hk W => inRel_calls b hb o.length k (by omega) (by omega) W
  have t3 : ∀ k, k < o.length → ∀ W, Calls Tryd.prog 107 #[stV (a.n : Int) (bs a.set) (bs a.rel), .int .i64 (o.getD k 0 : Nat), .int .i64 x] W fun e w' => e = .returned (.bool (a.inR (o.getD k 0) x)) ∧ Below W.heap.size W w' := fun k hk W => inRel_calls a ha _ x (hlt k hk) hx W
  have t4 : ∀ k, k < o.length → ∀ W, Calls Tryd.prog 107 #[stV (b.n : Int) (bs b.set) (bs b.rel), .int .i64 k, .int .i64 o.length] W fun e w' => e = .returned (.bool (b.inR k o.length)) ∧ Below W.heap.size W w' := fun k hk W => inRel_calls b hb k o.length (by omega) (by omega) W
  have hfe := fitsB_eq a b o x
  have hfa : ∀ k, fitAt a b o x k = (a.inR x (o.getD k 0) == b.inR o.length k && a.inR (o.getD k 0) x == b.inR k o.length) := fun k => rfl
  obtain ⟨V, hV⟩ : ∃ V, V = fitsB a b o x := ⟨_, rfl⟩
  rw [← hV] at hfe ⊢
  have hL : ∀ k W, k < o.length → Below w.heap.size w W → ∃ g, A = some ⟨g, 0, none⟩ ∧ W.cell? ⟨g, k, none⟩ = some (.int .i64 ((o.getD k 0 : Nat) : Int)) := fun k W hk hW => (hA.call hW).nats hk
  obtain ⟨d, hd⟩ : ∃ d : Nat → Nat, d = fun k => o.getD k 0 := ⟨_, rfl⟩
  have hdd : ∀ k, o.getD k 0 = d k := fun k => by rw [hd]
  simp only [hdd] at t1 t3 hfa hL
  generalize fitAt a b o x = fa at hfe hfa
  generalize a.inS x = p1 at s1 hfe
  generalize b.inS o.length = p2 at s2 hfe
  generalize a.inR x x = q1 at r1 hfe
  generalize b.inR o.length o.length = q2 at r2 hfe
  obtain ⟨A1, hA1⟩ : ∃ A1 : Nat → Bool, A1 = fun k => a.inR x (d k) := ⟨_, rfl⟩
  obtain ⟨A2, hA2⟩ : ∃ A2 : Nat → Bool, A2 = fun k => b.inR o.length k := ⟨_, rfl⟩
  obtain ⟨A3, hA3⟩ : ∃ A3 : Nat → Bool, A3 = fun k => a.inR (d k) x := ⟨_, rfl⟩
  obtain ⟨A4, hA4⟩ : ∃ A4 : Nat → Bool, A4 = fun k => b.inR k o.length := ⟨_, rfl⟩
  have e1 : ∀ k, a.inR x (d k) = A1 k := fun k => by rw [hA1]
  have e2 : ∀ k, b.inR o.length k = A2 k := fun k => by rw [hA2]
  have e3 : ∀ k, a.inR (d k) x = A3 k := fun k => by rw [hA3]
  have e4 : ∀ k, b.inR k o.length = A4 k := fun k => by rw [hA4]
  simp only [e1, e2, e3, e4] at t1 t2 t3 t4 hfa
  have S1 := Lib.hid s1
  have S2 := Lib.hid s2
  have R1 := Lib.hid r1
  have R2 := Lib.hid r2
  have T1 := Lib.hid t1
  have T2 := Lib.hid t2
  have T3 := Lib.hid t3
  have T4 := Lib.hid t4
  have HL := Lib.hid hL
  have Hfe := Lib.hid hfe
  have Hfa := Lib.hid hfa
  clear hA s1 s2 r1 r2 t1 t2 t3 t4 hL hfe hfa hd hdd hA1 hA2 hA3 hA4 e1 e2 e3 e4 hlt ho hV hb ha hab
  show Calls Tryd.prog 90 #[stV (a.n : Int) (bs a.set) (bs a.rel), stV (b.n : Int) (bs b.set) (bs b.rel), .slice A o.length cap, .int .i64 x] w _
  generalize o.length = n at *
  generalize a.n = na at *
  generalize b.n = nb at *
  generalize bs a.set = SA at *
  generalize bs a.rel = RA at *
  generalize bs b.set = SB at *
  generalize bs b.rel = RB at *
  have X0 := Lib.hid (show Two w ((w.alloc (.cells #[.int .i64 na, .string SA, .string RA] 27)).alloc (.cells #[.int .i64 nb, .string SB, .string RB] 27)) #[.int .i64 na, .string SA, .string RA] #[.int .i64 nb, .string SB, .string RB] from ⟨(Bx.new w _ _).alloc _, bx_two w _ _⟩)
  have B0 := Lib.hid (((Below.refl w.heap.size w).alloc (Nat.le_refl _) (.cells #[.int .i64 na, .string SA, .string RA] 27)).alloc (by simp) (.cells #[.int .i64 nb, .string SB, .string RB] 27))
  go_enter Tryd.func90, Tryd.ntmps90
  go_wp2_with fail
  cases hne : (p1 != p2)
  case true =>
    refine wp_region_held_drew (S := (fun w' : World => w'.cell? ⟨w.heap.size, 0, none⟩ = some (.int .i64 na) ∧ w'.cell? ⟨w.heap.size, 1, none⟩ = some (.string SA) ∧ w'.cell? ⟨w.heap.size, 2, none⟩ = some (.string RA) ∧ w'.cell? ⟨w.heap.size + 1, 0, none⟩ = some (.int .i64 nb) ∧ w'.cell? ⟨w.heap.size + 1, 1, none⟩ = some (.string SB) ∧ w'.cell? ⟨w.heap.size + 1, 2, none⟩ = some (.string RB))) (by kernel_rfl) ?_ (fun hHeld => ?_)
    · exact X0.out.drew.six
    refine wpAnyH_take (i := 0) (oi := _) (v := ?_) rfl (by kernel_rfl) (by kernel_rfl) (by kernel_rfl) (fun _ _ _ h => h) (Or.inl ⟨by rfl, ?_⟩) (by assumption) ?_
    rotate_left
    · intro w hSw
      (try dsimp only at hSw)
      go_simp
      try with_reducible rfl
    try simp only [Act.put, List.getElem_toArray, List.getElem_cons_succ, List.getElem_cons_zero, List.setIfInBounds_toArray, List.set_cons_zero, List.set_cons_succ]
    refine wpAnyH_take (i := 1) (oi := _) (v := ?_) rfl (by kernel_rfl) (by kernel_rfl) (by kernel_rfl) (fun _ _ _ h => h) (Or.inl ⟨by rfl, ?_⟩) (by assumption) ?_
    rotate_left
    · intro w hSw
      (try dsimp only at hSw)
      go_simp
      try with_reducible rfl
    try simp only [Act.put, List.getElem_toArray, List.getElem_cons_succ, List.getElem_cons_zero, List.setIfInBounds_toArray, List.set_cons_zero, List.set_cons_succ]
    refine wpAnyH_take (i := 3) (oi := _) (v := ?_) rfl (by kernel_rfl) (by kernel_rfl) (by kernel_rfl) (fun _ _ _ h => h) (Or.inl ⟨by rfl, ?_⟩) (by assumption) ?_
    rotate_left
    · intro w hSw
      (try dsimp only at hSw)
      go_simp
      try with_reducible rfl
    try simp only [Act.put, List.getElem_toArray, List.getElem_cons_succ, List.getElem_cons_zero, List.setIfInBounds_toArray, List.set_cons_zero, List.set_cons_succ]
    refine wpAnyH_take (i := 4) (oi := _) (v := ?_) rfl (by kernel_rfl) (by kernel_rfl) (by kernel_rfl) (fun _ _ _ h => h) (Or.inl ⟨by rfl, ?_⟩) (by assumption) ?_
    rotate_left
    · intro w hSw
      (try dsimp only at hSw)
      go_simp
      try with_reducible rfl
    try simp only [Act.put, List.getElem_toArray, List.getElem_cons_succ, List.getElem_cons_zero, List.setIfInBounds_toArray, List.set_cons_zero, List.set_cons_succ]
    refine wpAnyH_ready (rs := [2]) (by kernel_rfl) (by simp) ?_
    refine AllReadyH.cons (o := _) rfl (fun K hK => ?_) AllReadyH.nil
    simp only [List.getElem_toArray, List.getElem_cons_succ, List.getElem_cons_zero]
    go_simp
    refine (S1.out _).mono ?_
    rintro e w1 ⟨rfl, hz⟩
    have X1 := Lib.hid (X0.out.drew.call hz)
    have B1 := Lib.hid (B0.out.drew.trans (hz.mono B0.out.drew.size))
    clear hz
    go_wp2_with fail
    refine hK.out _ _ ?_ (fun hHeld => ?_)
    · exact X1.out.six
    clear hK K
    try simp only [Act.put, List.getElem_toArray, List.getElem_cons_succ, List.getElem_cons_zero, List.setIfInBounds_toArray, List.set_cons_zero, List.set_cons_succ]
    refine wpAnyH_ready (rs := [5]) (by kernel_rfl) (by simp) ?_
    refine AllReadyH.cons (o := _) rfl (fun K hK => ?_) AllReadyH.nil
    simp only [List.getElem_toArray, List.getElem_cons_succ, List.getElem_cons_zero]
    go_simp
    refine (S2.out _).mono ?_
    rintro e w2 ⟨rfl, hz⟩
    have X2 := Lib.hid (X1.out.call hz)
    have B2 := Lib.hid (B1.out.trans (hz.mono B1.out.size))
    clear hz
    go_wp2_with fail
    refine hK.out _ _ ?_ (fun hHeld => ?_)
    · exact X2.out.six
    clear hK K
    try simp only [Act.put, List.getElem_toArray, List.getElem_cons_succ, List.getElem_cons_zero, List.setIfInBounds_toArray, List.set_cons_zero, List.set_cons_succ]
    refine wpAnyH_take (i := 6) (oi := _) (v := .bool true) rfl (by kernel_rfl) (by kernel_rfl) (by kernel_rfl) (fun _ _ _ h => h) (Or.inl ⟨by rfl, ?_⟩) (by assumption) ?_
    · intro w hSw
      (try dsimp only at hSw)
      go_simp
      (try simpa using hne)
    try simp only [Act.put, List.getElem_toArray, List.getElem_cons_succ, List.getElem_cons_zero, List.setIfInBounds_toArray, List.set_cons_zero, List.set_cons_succ]
    refine wpAnyH_take (i := 7) (oi := _) (v := ?_) rfl (by kernel_rfl) (by kernel_rfl) (by kernel_rfl) (fun _ _ _ h => h) (Or.inl ⟨by rfl, ?_⟩) (by assumption) ?_
    rotate_left
    · intro w hSw
      (try dsimp only at hSw)
      go_simp
      try with_reducible rfl
    try simp only [Act.put, List.getElem_toArray, List.getElem_cons_succ, List.getElem_cons_zero, List.setIfInBounds_toArray, List.set_cons_zero, List.set_cons_succ]
    refine wpAnyH_take (i := 8) (oi := _) (v := undef) rfl (by kernel_rfl) (by kernel_rfl) (by kernel_rfl) (fun _ _ _ h => h) (Or.inr ⟨by rfl, by rfl⟩) (by assumption) ?_
    try simp only [Act.put, List.getElem_toArray, List.getElem_cons_succ, List.getElem_cons_zero, List.setIfInBounds_toArray, List.set_cons_zero, List.set_cons_succ]
    refine wpAnyH_take (i := 9) (oi := _) (v := undef) rfl (by kernel_rfl) (by kernel_rfl) (by kernel_rfl) (fun _ _ _ h => h) (Or.inr ⟨by rfl, by rfl⟩) (by assumption) ?_
    try simp only [Act.put, List.getElem_toArray, List.getElem_cons_succ, List.getElem_cons_zero, List.setIfInBounds_toArray, List.set_cons_zero, List.set_cons_succ]
    refine wpAnyH_take (i := 10) (oi := _) (v := undef) rfl (by kernel_rfl) (by kernel_rfl) (by kernel_rfl) (fun _ _ _ h => h) (Or.inr ⟨by rfl, by rfl⟩) (by assumption) ?_
    try simp only [Act.put, List.getElem_toArray, List.getElem_cons_succ, List.getElem_cons_zero, List.setIfInBounds_toArray, List.set_cons_zero, List.set_cons_succ]
    refine wpAnyH_take (i := 11) (oi := _) (v := undef) rfl (by kernel_rfl) (by kernel_rfl) (by kernel_rfl) (fun _ _ _ h => h) (Or.inr ⟨by rfl, by rfl⟩) (by assumption) ?_
    try simp only [Act.put, List.getElem_toArray, List.getElem_cons_succ, List.getElem_cons_zero, List.setIfInBounds_toArray, List.set_cons_zero, List.set_cons_succ]
    refine wpAnyH_take (i := 12) (oi := _) (v := undef) rfl (by kernel_rfl) (by kernel_rfl) (by kernel_rfl) (fun _ _ _ h => h) (Or.inr ⟨by rfl, by rfl⟩) (by assumption) ?_
    try simp only [Act.put, List.getElem_toArray, List.getElem_cons_succ, List.getElem_cons_zero, List.setIfInBounds_toArray, List.set_cons_zero, List.set_cons_succ]
    refine wpAnyH_take (i := 13) (oi := _) (v := undef) rfl (by kernel_rfl) (by kernel_rfl) (by kernel_rfl) (fun _ _ _ h => h) (Or.inr ⟨by rfl, by rfl⟩) (by assumption) ?_
    try simp only [Act.put, List.getElem_toArray, List.getElem_cons_succ, List.getElem_cons_zero, List.setIfInBounds_toArray, List.set_cons_zero, List.set_cons_succ]
    refine wpAnyH_take (i := 14) (oi := _) (v := undef) rfl (by kernel_rfl) (by kernel_rfl) (by kernel_rfl) (fun _ _ _ h => h) (Or.inr ⟨by rfl, by rfl⟩) (by assumption) ?_
    try simp only [Act.put, List.getElem_toArray, List.getElem_cons_succ, List.getElem_cons_zero, List.setIfInBounds_toArray, List.set_cons_zero, List.set_cons_succ]
    refine wpAnyH_take (i := 15) (oi := _) (v := undef) rfl (by kernel_rfl) (by kernel_rfl) (by kernel_rfl) (fun _ _ _ h => h) (Or.inr ⟨by rfl, by rfl⟩) (by assumption) ?_
    try simp only [Act.put, List.getElem_toArray, List.getElem_cons_succ, List.getElem_cons_zero, List.setIfInBounds_toArray, List.set_cons_zero, List.set_cons_succ]
    refine wpAnyH_take (i := 16) (oi := _) (v := undef) rfl (by kernel_rfl) (by kernel_rfl) (by kernel_rfl) (fun _ _ _ h => h) (Or.inr ⟨by rfl, by rfl⟩) (by assumption) ?_
    try simp only [Act.put, List.getElem_toArray, List.getElem_cons_succ, List.getElem_cons_zero, List.setIfInBounds_toArray, List.set_cons_zero, List.set_cons_succ]
    refine wpAnyH_take (i := 17) (oi := _) (v := ?_) rfl (by kernel_rfl) (by kernel_rfl) (by kernel_rfl) (fun _ _ _ h => h) (Or.inl ⟨by rfl, ?_⟩) (by assumption) ?_
    rotate_left
    · intro w hSw
      (try dsimp only at hSw)
      go_simp
      try with_reducible rfl
    try simp only [Act.put, List.getElem_toArray, List.getElem_cons_succ, List.getElem_cons_zero, List.setIfInBounds_toArray, List.set_cons_zero, List.set_cons_succ]
    refine wpAnyH_done (by kernel_rfl) ?_ _
    have hv : V = false := by rw [Hfe.out, show (p1 == p2) = false by simpa [bne] using hne]; rfl
    have Hv := Lib.hid hv
    clear hv
    go_wp2_with fail
    go_ret
    exact ⟨by rw [Hv.out]; try rfl, B2.out⟩
  case false =>
    cases hnq : (q1 != q2)
    case true =>
      refine wp_region_held_drew (S := (fun w' : World => w'.cell? ⟨w.heap.size, 0, none⟩ = some (.int .i64 na) ∧ w'.cell? ⟨w.heap.size, 1, none⟩ = some (.string SA) ∧ w'.cell? ⟨w.heap.size, 2, none⟩ = some (.string RA) ∧ w'.cell? ⟨w.heap.size + 1, 0, none⟩ = some (.int .i64 nb) ∧ w'.cell? ⟨w.heap.size + 1, 1, none⟩ = some (.string SB) ∧ w'.cell? ⟨w.heap.size + 1, 2, none⟩ = some (.string RB))) (by kernel_rfl) ?_ (fun hHeld => ?_)
      · exact X0.out.drew.six
      refine wpAnyH_take (i := 0) (oi := _) (v := ?_) rfl (by kernel_rfl) (by kernel_rfl) (by kernel_rfl) (fun _ _ _ h => h) (Or.inl ⟨by rfl, ?_⟩) (by assumption) ?_
      rotate_left
      · intro w hSw
        (try dsimp only at hSw)
        go_simp
        try with_reducible rfl
      try simp only [Act.put, List.getElem_toArray, List.getElem_cons_succ, List.getElem_cons_zero, List.setIfInBounds_toArray, List.set_cons_zero, List.set_cons_succ]
      refine wpAnyH_take (i := 1) (oi := _) (v := ?_) rfl (by kernel_rfl) (by kernel_rfl) (by kernel_rfl) (fun _ _ _ h => h) (Or.inl ⟨by rfl, ?_⟩) (by assumption) ?_
      rotate_left
      · intro w hSw
        (try dsimp only at hSw)
        go_simp
        try with_reducible rfl
      try simp only [Act.put, List.getElem_toArray, List.getElem_cons_succ, List.getElem_cons_zero, List.setIfInBounds_toArray, List.set_cons_zero, List.set_cons_succ]
      refine wpAnyH_take (i := 3) (oi := _) (v := ?_) rfl (by kernel_rfl) (by kernel_rfl) (by kernel_rfl) (fun _ _ _ h => h) (Or.inl ⟨by rfl, ?_⟩) (by assumption) ?_
      rotate_left
      · intro w hSw
        (try dsimp only at hSw)
        go_simp
        try with_reducible rfl
      try simp only [Act.put, List.getElem_toArray, List.getElem_cons_succ, List.getElem_cons_zero, List.setIfInBounds_toArray, List.set_cons_zero, List.set_cons_succ]
      refine wpAnyH_take (i := 4) (oi := _) (v := ?_) rfl (by kernel_rfl) (by kernel_rfl) (by kernel_rfl) (fun _ _ _ h => h) (Or.inl ⟨by rfl, ?_⟩) (by assumption) ?_
      rotate_left
      · intro w hSw
        (try dsimp only at hSw)
        go_simp
        try with_reducible rfl
      try simp only [Act.put, List.getElem_toArray, List.getElem_cons_succ, List.getElem_cons_zero, List.setIfInBounds_toArray, List.set_cons_zero, List.set_cons_succ]
      refine wpAnyH_ready (rs := [2]) (by kernel_rfl) (by simp) ?_
      refine AllReadyH.cons (o := _) rfl (fun K hK => ?_) AllReadyH.nil
      simp only [List.getElem_toArray, List.getElem_cons_succ, List.getElem_cons_zero]
      go_simp
      refine (S1.out _).mono ?_
      rintro e w1 ⟨rfl, hz⟩
      have X1 := Lib.hid (X0.out.drew.call hz)
      have B1 := Lib.hid (B0.out.drew.trans (hz.mono B0.out.drew.size))
      clear hz
      go_wp2_with fail
      refine hK.out _ _ ?_ (fun hHeld => ?_)
      · exact X1.out.six
      clear hK K
      try simp only [Act.put, List.getElem_toArray, List.getElem_cons_succ, List.getElem_cons_zero, List.setIfInBounds_toArray, List.set_cons_zero, List.set_cons_succ]
      refine wpAnyH_ready (rs := [5]) (by kernel_rfl) (by simp) ?_
      refine AllReadyH.cons (o := _) rfl (fun K hK => ?_) AllReadyH.nil
      simp only [List.getElem_toArray, List.getElem_cons_succ, List.getElem_cons_zero]
      go_simp
      refine (S2.out _).mono ?_
      rintro e w2 ⟨rfl, hz⟩
      have X2 := Lib.hid (X1.out.call hz)
      have B2 := Lib.hid (B1.out.trans (hz.mono B1.out.size))
      clear hz
      go_wp2_with fail
      refine hK.out _ _ ?_ (fun hHeld => ?_)
      · exact X2.out.six
      clear hK K
      try simp only [Act.put, List.getElem_toArray, List.getElem_cons_succ, List.getElem_cons_zero, List.setIfInBounds_toArray, List.set_cons_zero, List.set_cons_succ]
      refine wpAnyH_take (i := 6) (oi := _) (v := .bool false) rfl (by kernel_rfl) (by kernel_rfl) (by kernel_rfl) (fun _ _ _ h => h) (Or.inl ⟨by rfl, ?_⟩) (by assumption) ?_
      · intro w hSw
        (try dsimp only at hSw)
        go_simp
        (try simpa using hne)
      try simp only [Act.put, List.getElem_toArray, List.getElem_cons_succ, List.getElem_cons_zero, List.setIfInBounds_toArray, List.set_cons_zero, List.set_cons_succ]
      refine wpAnyH_take (i := 7) (oi := _) (v := ?_) rfl (by kernel_rfl) (by kernel_rfl) (by kernel_rfl) (fun _ _ _ h => h) (Or.inl ⟨by rfl, ?_⟩) (by assumption) ?_
      rotate_left
      · intro w hSw
        (try dsimp only at hSw)
        go_simp
        try with_reducible rfl
      try simp only [Act.put, List.getElem_toArray, List.getElem_cons_succ, List.getElem_cons_zero, List.setIfInBounds_toArray, List.set_cons_zero, List.set_cons_succ]
      refine wpAnyH_take (i := 8) (oi := _) (v := ?_) rfl (by kernel_rfl) (by kernel_rfl) (by kernel_rfl) (fun _ _ _ h => h) (Or.inl ⟨by rfl, ?_⟩) (by assumption) ?_
      rotate_left
      · intro w hSw
        (try dsimp only at hSw)
        go_simp
        try with_reducible rfl
      try simp only [Act.put, List.getElem_toArray, List.getElem_cons_succ, List.getElem_cons_zero, List.setIfInBounds_toArray, List.set_cons_zero, List.set_cons_succ]
      refine wpAnyH_take (i := 9) (oi := _) (v := ?_) rfl (by kernel_rfl) (by kernel_rfl) (by kernel_rfl) (fun _ _ _ h => h) (Or.inl ⟨by rfl, ?_⟩) (by assumption) ?_
      rotate_left
      · intro w hSw
        (try dsimp only at hSw)
        go_simp
        try with_reducible rfl
      try simp only [Act.put, List.getElem_toArray, List.getElem_cons_succ, List.getElem_cons_zero, List.setIfInBounds_toArray, List.set_cons_zero, List.set_cons_succ]
      refine wpAnyH_take (i := 10) (oi := _) (v := ?_) rfl (by kernel_rfl) (by kernel_rfl) (by kernel_rfl) (fun _ _ _ h => h) (Or.inl ⟨by rfl, ?_⟩) (by assumption) ?_
      rotate_left
      · intro w hSw
        (try dsimp only at hSw)
        go_simp
        try with_reducible rfl
      try simp only [Act.put, List.getElem_toArray, List.getElem_cons_succ, List.getElem_cons_zero, List.setIfInBounds_toArray, List.set_cons_zero, List.set_cons_succ]
      refine wpAnyH_take (i := 12) (oi := _) (v := ?_) rfl (by kernel_rfl) (by kernel_rfl) (by kernel_rfl) (fun _ _ _ h => h) (Or.inl ⟨by rfl, ?_⟩) (by assumption) ?_
      rotate_left
      · intro w hSw
        (try dsimp only at hSw)
        go_simp
        try with_reducible rfl
      try simp only [Act.put, List.getElem_toArray, List.getElem_cons_succ, List.getElem_cons_zero, List.setIfInBounds_toArray, List.set_cons_zero, List.set_cons_succ]
      refine wpAnyH_take (i := 13) (oi := _) (v := ?_) rfl (by kernel_rfl) (by kernel_rfl) (by kernel_rfl) (fun _ _ _ h => h) (Or.inl ⟨by rfl, ?_⟩) (by assumption) ?_
      rotate_left
      · intro w hSw
        (try dsimp only at hSw)
        go_simp
        try with_reducible rfl
      try simp only [Act.put, List.getElem_toArray, List.getElem_cons_succ, List.getElem_cons_zero, List.setIfInBounds_toArray, List.set_cons_zero, List.set_cons_succ]
      refine wpAnyH_take (i := 14) (oi := _) (v := ?_) rfl (by kernel_rfl) (by kernel_rfl) (by kernel_rfl) (fun _ _ _ h => h) (Or.inl ⟨by rfl, ?_⟩) (by assumption) ?_
      rotate_left
      · intro w hSw
        (try dsimp only at hSw)
        go_simp
        try with_reducible rfl
      try simp only [Act.put, List.getElem_toArray, List.getElem_cons_succ, List.getElem_cons_zero, List.setIfInBounds_toArray, List.set_cons_zero, List.set_cons_succ]
      refine wpAnyH_ready (rs := [11]) (by kernel_rfl) (by simp) ?_
      refine AllReadyH.cons (o := _) rfl (fun K hK => ?_) AllReadyH.nil
      simp only [List.getElem_toArray, List.getElem_cons_succ, List.getElem_cons_zero]
      go_simp
      refine (R1.out _).mono ?_
      rintro e w3 ⟨rfl, hz⟩
      have X3 := Lib.hid (X2.out.call hz)
      have B3 := Lib.hid (B2.out.trans (hz.mono B2.out.size))
      clear hz
      go_wp2_with fail
      refine hK.out _ _ ?_ (fun hHeld => ?_)
      · exact X3.out.six
      clear hK K
      try simp only [Act.put, List.getElem_toArray, List.getElem_cons_succ, List.getElem_cons_zero, List.setIfInBounds_toArray, List.set_cons_zero, List.set_cons_succ]
      refine wpAnyH_ready (rs := [15]) (by kernel_rfl) (by simp) ?_
      refine AllReadyH.cons (o := _) rfl (fun K hK => ?_) AllReadyH.nil
      simp only [List.getElem_toArray, List.getElem_cons_succ, List.getElem_cons_zero]
      go_simp
      refine (R2.out _).mono ?_
      rintro e w4 ⟨rfl, hz⟩
      have X4 := Lib.hid (X3.out.call hz)
      have B4 := Lib.hid (B3.out.trans (hz.mono B3.out.size))
      clear hz
      go_wp2_with fail
      refine hK.out _ _ ?_ (fun hHeld => ?_)
      · exact X4.out.six
      clear hK K
      try simp only [Act.put, List.getElem_toArray, List.getElem_cons_succ, List.getElem_cons_zero, List.setIfInBounds_toArray, List.set_cons_zero, List.set_cons_succ]
      refine wpAnyH_take (i := 16) (oi := _) (v := .bool true) rfl (by kernel_rfl) (by kernel_rfl) (by kernel_rfl) (fun _ _ _ h => h) (Or.inl ⟨by rfl, ?_⟩) (by assumption) ?_
      · intro w hSw
        (try dsimp only at hSw)
        go_simp
        (try simpa using hnq)
      try simp only [Act.put, List.getElem_toArray, List.getElem_cons_succ, List.getElem_cons_zero, List.setIfInBounds_toArray, List.set_cons_zero, List.set_cons_succ]
      refine wpAnyH_take (i := 17) (oi := _) (v := ?_) rfl (by kernel_rfl) (by kernel_rfl) (by kernel_rfl) (fun _ _ _ h => h) (Or.inl ⟨by rfl, ?_⟩) (by assumption) ?_
      rotate_left
      · intro w hSw
        (try dsimp only at hSw)
        go_simp
        try with_reducible rfl
      try simp only [Act.put, List.getElem_toArray, List.getElem_cons_succ, List.getElem_cons_zero, List.setIfInBounds_toArray, List.set_cons_zero, List.set_cons_succ]
      refine wpAnyH_done (by kernel_rfl) ?_ _
      have hv : V = false := by rw [Hfe.out, show (q1 == q2) = false by simpa [bne] using hnq]; simp
      have Hv := Lib.hid hv
      clear hv
      go_wp2_with fail
      go_ret
      exact ⟨by rw [Hv.out]; try rfl, B4.out⟩
    case false =>
      refine wp_region_held_drew (S := (fun w' : World => w'.cell? ⟨w.heap.size, 0, none⟩ = some (.int .i64 na) ∧ w'.cell? ⟨w.heap.size, 1, none⟩ = some (.string SA) ∧ w'.cell? ⟨w.heap.size, 2, none⟩ = some (.string RA) ∧ w'.cell? ⟨w.heap.size + 1, 0, none⟩ = some (.int .i64 nb) ∧ w'.cell? ⟨w.heap.size + 1, 1, none⟩ = some (.string SB) ∧ w'.cell? ⟨w.heap.size + 1, 2, none⟩ = some (.string RB))) (by kernel_rfl) ?_ (fun hHeld => ?_)
      · exact X0.out.drew.six
      refine wpAnyH_take (i := 0) (oi := _) (v := ?_) rfl (by kernel_rfl) (by kernel_rfl) (by kernel_rfl) (fun _ _ _ h => h) (Or.inl ⟨by rfl, ?_⟩) (by assumption) ?_
      rotate_left
      · intro w hSw
        (try dsimp only at hSw)
        go_simp
        try with_reducible rfl
      try simp only [Act.put, List.getElem_toArray, List.getElem_cons_succ, List.getElem_cons_zero, List.setIfInBounds_toArray, List.set_cons_zero, List.set_cons_succ]
      refine wpAnyH_take (i := 1) (oi := _) (v := ?_) rfl (by kernel_rfl) (by kernel_rfl) (by kernel_rfl) (fun _ _ _ h => h) (Or.inl ⟨by rfl, ?_⟩) (by assumption) ?_
      rotate_left
      · intro w hSw
        (try dsimp only at hSw)
        go_simp
        try with_reducible rfl
      try simp only [Act.put, List.getElem_toArray, List.getElem_cons_succ, List.getElem_cons_zero, List.setIfInBounds_toArray, List.set_cons_zero, List.set_cons_succ]
      refine wpAnyH_take (i := 3) (oi := _) (v := ?_) rfl (by kernel_rfl) (by kernel_rfl) (by kernel_rfl) (fun _ _ _ h => h) (Or.inl ⟨by rfl, ?_⟩) (by assumption) ?_
      rotate_left
      · intro w hSw
        (try dsimp only at hSw)
        go_simp
        try with_reducible rfl
      try simp only [Act.put, List.getElem_toArray, List.getElem_cons_succ, List.getElem_cons_zero, List.setIfInBounds_toArray, List.set_cons_zero, List.set_cons_succ]
      refine wpAnyH_take (i := 4) (oi := _) (v := ?_) rfl (by kernel_rfl) (by kernel_rfl) (by kernel_rfl) (fun _ _ _ h => h) (Or.inl ⟨by rfl, ?_⟩) (by assumption) ?_
      rotate_left
      · intro w hSw
        (try dsimp only at hSw)
        go_simp
        try with_reducible rfl
      try simp only [Act.put, List.getElem_toArray, List.getElem_cons_succ, List.getElem_cons_zero, List.setIfInBounds_toArray, List.set_cons_zero, List.set_cons_succ]
      refine wpAnyH_ready (rs := [2]) (by kernel_rfl) (by simp) ?_
      refine AllReadyH.cons (o := _) rfl (fun K hK => ?_) AllReadyH.nil
      simp only [List.getElem_toArray, List.getElem_cons_succ, List.getElem_cons_zero]
      go_simp
      refine (S1.out _).mono ?_
      rintro e w1 ⟨rfl, hz⟩
      have X1 := Lib.hid (X0.out.drew.call hz)
      have B1 := Lib.hid (B0.out.drew.trans (hz.mono B0.out.drew.size))
      clear hz
      go_wp2_with fail
      refine hK.out _ _ ?_ (fun hHeld => ?_)
      · exact X1.out.six
      clear hK K
      try simp only [Act.put, List.getElem_toArray, List.getElem_cons_succ, List.getElem_cons_zero, List.setIfInBounds_toArray, List.set_cons_zero, List.set_cons_succ]
      refine wpAnyH_ready (rs := [5]) (by kernel_rfl) (by simp) ?_
      refine AllReadyH.cons (o := _) rfl (fun K hK => ?_) AllReadyH.nil
      simp only [List.getElem_toArray, List.getElem_cons_succ, List.getElem_cons_zero]
      go_simp
      refine (S2.out _).mono ?_
      rintro e w2 ⟨rfl, hz⟩
      have X2 := Lib.hid (X1.out.call hz)
      have B2 := Lib.hid (B1.out.trans (hz.mono B1.out.size))
      clear hz
      go_wp2_with fail
      refine hK.out _ _ ?_ (fun hHeld => ?_)
      · exact X2.out.six
      clear hK K
      try simp only [Act.put, List.getElem_toArray, List.getElem_cons_succ, List.getElem_cons_zero, List.setIfInBounds_toArray, List.set_cons_zero, List.set_cons_succ]
      refine wpAnyH_take (i := 6) (oi := _) (v := .bool false) rfl (by kernel_rfl) (by kernel_rfl) (by kernel_rfl) (fun _ _ _ h => h) (Or.inl ⟨by rfl, ?_⟩) (by assumption) ?_
      · intro w hSw
        (try dsimp only at hSw)
        go_simp
        (try simpa using hne)
      try simp only [Act.put, List.getElem_toArray, List.getElem_cons_succ, List.getElem_cons_zero, List.setIfInBounds_toArray, List.set_cons_zero, List.set_cons_succ]
      refine wpAnyH_take (i := 7) (oi := _) (v := ?_) rfl (by kernel_rfl) (by kernel_rfl) (by kernel_rfl) (fun _ _ _ h => h) (Or.inl ⟨by rfl, ?_⟩) (by assumption) ?_
      rotate_left
      · intro w hSw
        (try dsimp only at hSw)
        go_simp
        try with_reducible rfl
      try simp only [Act.put, List.getElem_toArray, List.getElem_cons_succ, List.getElem_cons_zero, List.setIfInBounds_toArray, List.set_cons_zero, List.set_cons_succ]
      refine wpAnyH_take (i := 8) (oi := _) (v := ?_) rfl (by kernel_rfl) (by kernel_rfl) (by kernel_rfl) (fun _ _ _ h => h) (Or.inl ⟨by rfl, ?_⟩) (by assumption) ?_
      rotate_left
      · intro w hSw
        (try dsimp only at hSw)
        go_simp
        try with_reducible rfl
      try simp only [Act.put, List.getElem_toArray, List.getElem_cons_succ, List.getElem_cons_zero, List.setIfInBounds_toArray, List.set_cons_zero, List.set_cons_succ]
      refine wpAnyH_take (i := 9) (oi := _) (v := ?_) rfl (by kernel_rfl) (by kernel_rfl) (by kernel_rfl) (fun _ _ _ h => h) (Or.inl ⟨by rfl, ?_⟩) (by assumption) ?_
      rotate_left
      · intro w hSw
        (try dsimp only at hSw)
        go_simp
        try with_reducible rfl
      try simp only [Act.put, List.getElem_toArray, List.getElem_cons_succ, List.getElem_cons_zero, List.setIfInBounds_toArray, List.set_cons_zero, List.set_cons_succ]
      refine wpAnyH_take (i := 10) (oi := _) (v := ?_) rfl (by kernel_rfl) (by kernel_rfl) (by kernel_rfl) (fun _ _ _ h => h) (Or.inl ⟨by rfl, ?_⟩) (by assumption) ?_
      rotate_left
      · intro w hSw
        (try dsimp only at hSw)
        go_simp
        try with_reducible rfl
      try simp only [Act.put, List.getElem_toArray, List.getElem_cons_succ, List.getElem_cons_zero, List.setIfInBounds_toArray, List.set_cons_zero, List.set_cons_succ]
      refine wpAnyH_take (i := 12) (oi := _) (v := ?_) rfl (by kernel_rfl) (by kernel_rfl) (by kernel_rfl) (fun _ _ _ h => h) (Or.inl ⟨by rfl, ?_⟩) (by assumption) ?_
      rotate_left
      · intro w hSw
        (try dsimp only at hSw)
        go_simp
        try with_reducible rfl
      try simp only [Act.put, List.getElem_toArray, List.getElem_cons_succ, List.getElem_cons_zero, List.setIfInBounds_toArray, List.set_cons_zero, List.set_cons_succ]
      refine wpAnyH_take (i := 13) (oi := _) (v := ?_) rfl (by kernel_rfl) (by kernel_rfl) (by kernel_rfl) (fun _ _ _ h => h) (Or.inl ⟨by rfl, ?_⟩) (by assumption) ?_
      rotate_left
      · intro w hSw
        (try dsimp only at hSw)
        go_simp
        try with_reducible rfl
      try simp only [Act.put, List.getElem_toArray, List.getElem_cons_succ, List.getElem_cons_zero, List.setIfInBounds_toArray, List.set_cons_zero, List.set_cons_succ]
      refine wpAnyH_take (i := 14) (oi := _) (v := ?_) rfl (by kernel_rfl) (by kernel_rfl) (by kernel_rfl) (fun _ _ _ h => h) (Or.inl ⟨by rfl, ?_⟩) (by assumption) ?_
      rotate_left
      · intro w hSw
        (try dsimp only at hSw)
        go_simp
        try with_reducible rfl
      try simp only [Act.put, List.getElem_toArray, List.getElem_cons_succ, List.getElem_cons_zero, List.setIfInBounds_toArray, List.set_cons_zero, List.set_cons_succ]
      refine wpAnyH_ready (rs := [11]) (by kernel_rfl) (by simp) ?_
      refine AllReadyH.cons (o := _) rfl (fun K hK => ?_) AllReadyH.nil
      simp only [List.getElem_toArray, List.getElem_cons_succ, List.getElem_cons_zero]
      go_simp
      refine (R1.out _).mono ?_
      rintro e w3 ⟨rfl, hz⟩
      have X3 := Lib.hid (X2.out.call hz)
      have B3 := Lib.hid (B2.out.trans (hz.mono B2.out.size))
      clear hz
      go_wp2_with fail
      refine hK.out _ _ ?_ (fun hHeld => ?_)
      · exact X3.out.six
      clear hK K
      try simp only [Act.put, List.getElem_toArray, List.getElem_cons_succ, List.getElem_cons_zero, List.setIfInBounds_toArray, List.set_cons_zero, List.set_cons_succ]
      refine wpAnyH_ready (rs := [15]) (by kernel_rfl) (by simp) ?_
      refine AllReadyH.cons (o := _) rfl (fun K hK => ?_) AllReadyH.nil
      simp only [List.getElem_toArray, List.getElem_cons_succ, List.getElem_cons_zero]
      go_simp
      refine (R2.out _).mono ?_
      rintro e w4 ⟨rfl, hz⟩
      have X4 := Lib.hid (X3.out.call hz)
      have B4 := Lib.hid (B3.out.trans (hz.mono B3.out.size))
      clear hz
      go_wp2_with fail
      refine hK.out _ _ ?_ (fun hHeld => ?_)
      · exact X4.out.six
      clear hK K
      try simp only [Act.put, List.getElem_toArray, List.getElem_cons_succ, List.getElem_cons_zero, List.setIfInBounds_toArray, List.set_cons_zero, List.set_cons_succ]
      refine wpAnyH_take (i := 16) (oi := _) (v := .bool false) rfl (by kernel_rfl) (by kernel_rfl) (by kernel_rfl) (fun _ _ _ h => h) (Or.inl ⟨by rfl, ?_⟩) (by assumption) ?_
      · intro w hSw
        (try dsimp only at hSw)
        go_simp
        (try simpa using hnq)
      try simp only [Act.put, List.getElem_toArray, List.getElem_cons_succ, List.getElem_cons_zero, List.setIfInBounds_toArray, List.set_cons_zero, List.set_cons_succ]
      refine wpAnyH_take (i := 17) (oi := _) (v := ?_) rfl (by kernel_rfl) (by kernel_rfl) (by kernel_rfl) (fun _ _ _ h => h) (Or.inl ⟨by rfl, ?_⟩) (by assumption) ?_
      rotate_left
      · intro w hSw
        (try dsimp only at hSw)
        go_simp
        try with_reducible rfl
      try simp only [Act.put, List.getElem_toArray, List.getElem_cons_succ, List.getElem_cons_zero, List.setIfInBounds_toArray, List.set_cons_zero, List.set_cons_succ]
      refine wpAnyH_done (by kernel_rfl) ?_ _
      have hv : V = (List.range n).all fa := by rw [Hfe.out, show (p1 == p2) = true by simpa [bne] using hne, show (q1 == q2) = true by simpa [bne] using hnq]; rfl
      have Hv := Lib.hid hv
      clear hv hne hnq Hfe
      go_wp2_with fail
      go_loopg [34] n (fun c i wr => ∃ k : Nat, k + c = n ∧ i = .int .i64 k ∧ Two w wr #[.int .i64 na, .string SA, .string RA] #[.int .i64 nb, .string SB, .string RB] ∧ Below w.heap.size w wr ∧ ∀ j, j < k → fa j = true)
      case atStart => exact ⟨0, by omega, rfl, X4.out, B4.out, fun j hj => absurd hj (Nat.not_lt_zero _)⟩
      case round =>
        clear X0 X1 X2 X3 X4 B0 B1 B2 B3 B4
        obtain ⟨k, hk, rfl, hx, hb, hall⟩ := hrel
        have X5 := Lib.hid hx
        have B5 := Lib.hid hb
        have Hall := Lib.hid hall
        clear hx hb hall
        by_cases hlt : k < n
        · obtain ⟨g, rfl, hc⟩ := HL.out k wr hlt B5.out
          have i1 : (0 : Int) ≤ (k : Int) := by omega
          have i2 : (k : Int) < (n : Int) := by omega
          go_upto_region 7 with (fail)
          have U1 := Lib.hid (T1.out k hlt)
          have U2 := Lib.hid (T2.out k hlt)
          have U3 := Lib.hid (T3.out k hlt)
          have U4 := Lib.hid (T4.out k hlt)
          have hfk := Hfa.out k
          have hst : ∀ b : Bool, fa k = b → (∀ j, j < k → fa j = true) → (if b then ∀ j, j < k + 1 → fa j = true else (List.range n).all fa = false) := fun b e h => by
            cases b with
            | true =>
              intro j hj
              by_cases hjk : j = k
              · rw [hjk, e]
              · exact h j (by omega)
            | false => exact all_not hlt e
          have Hst := Lib.hid hst
          clear hst
          generalize A1 k = a1 at *
          generalize A2 k = a2 at *
          generalize A3 k = a3 at *
          generalize A4 k = a4 at *
          have Hfk := Lib.hid hfk
          clear hfk hc
          cases hne : (a1 != a2)
          case true =>
            refine wp_region_held_drew (S := (fun w' : World => w'.cell? ⟨w.heap.size, 0, none⟩ = some (.int .i64 na) ∧ w'.cell? ⟨w.heap.size, 1, none⟩ = some (.string SA) ∧ w'.cell? ⟨w.heap.size, 2, none⟩ = some (.string RA) ∧ w'.cell? ⟨w.heap.size + 1, 0, none⟩ = some (.int .i64 nb) ∧ w'.cell? ⟨w.heap.size + 1, 1, none⟩ = some (.string SB) ∧ w'.cell? ⟨w.heap.size + 1, 2, none⟩ = some (.string RB))) (by kernel_rfl) ?_ (fun hHeld => ?_)
            · exact X5.out.drew.six
            refine wpAnyH_take (i := 0) (oi := _) (v := ?_) rfl (by kernel_rfl) (by kernel_rfl) (by kernel_rfl) (fun _ _ _ h => h) (Or.inl ⟨by rfl, ?_⟩) (by assumption) ?_
            rotate_left
            · intro w hSw
              (try dsimp only at hSw)
              go_simp
              try with_reducible rfl
            try simp only [Act.put, List.getElem_toArray, List.getElem_cons_succ, List.getElem_cons_zero, List.setIfInBounds_toArray, List.set_cons_zero, List.set_cons_succ]
            refine wpAnyH_take (i := 1) (oi := _) (v := ?_) rfl (by kernel_rfl) (by kernel_rfl) (by kernel_rfl) (fun _ _ _ h => h) (Or.inl ⟨by rfl, ?_⟩) (by assumption) ?_
            rotate_left
            · intro w hSw
              (try dsimp only at hSw)
              go_simp
              try with_reducible rfl
            try simp only [Act.put, List.getElem_toArray, List.getElem_cons_succ, List.getElem_cons_zero, List.setIfInBounds_toArray, List.set_cons_zero, List.set_cons_succ]
            refine wpAnyH_take (i := 2) (oi := _) (v := ?_) rfl (by kernel_rfl) (by kernel_rfl) (by kernel_rfl) (fun _ _ _ h => h) (Or.inl ⟨by rfl, ?_⟩) (by assumption) ?_
            rotate_left
            · intro w hSw
              (try dsimp only at hSw)
              go_simp
              try with_reducible rfl
            try simp only [Act.put, List.getElem_toArray, List.getElem_cons_succ, List.getElem_cons_zero, List.setIfInBounds_toArray, List.set_cons_zero, List.set_cons_succ]
            refine wpAnyH_take (i := 4) (oi := _) (v := ?_) rfl (by kernel_rfl) (by kernel_rfl) (by kernel_rfl) (fun _ _ _ h => h) (Or.inl ⟨by rfl, ?_⟩) (by assumption) ?_
            rotate_left
            · intro w hSw
              (try dsimp only at hSw)
              go_simp
              try with_reducible rfl
            try simp only [Act.put, List.getElem_toArray, List.getElem_cons_succ, List.getElem_cons_zero, List.setIfInBounds_toArray, List.set_cons_zero, List.set_cons_succ]
            refine wpAnyH_take (i := 5) (oi := _) (v := ?_) rfl (by kernel_rfl) (by kernel_rfl) (by kernel_rfl) (fun _ _ _ h => h) (Or.inl ⟨by rfl, ?_⟩) (by assumption) ?_
            rotate_left
            · intro w hSw
              (try dsimp only at hSw)
              go_simp
              try with_reducible rfl
            try simp only [Act.put, List.getElem_toArray, List.getElem_cons_succ, List.getElem_cons_zero, List.setIfInBounds_toArray, List.set_cons_zero, List.set_cons_succ]
            refine wpAnyH_take (i := 6) (oi := _) (v := ?_) rfl (by kernel_rfl) (by kernel_rfl) (by kernel_rfl) (fun _ _ _ h => h) (Or.inl ⟨by rfl, ?_⟩) (by assumption) ?_
            rotate_left
            · intro w hSw
              (try dsimp only at hSw)
              go_simp
              try with_reducible rfl
            try simp only [Act.put, List.getElem_toArray, List.getElem_cons_succ, List.getElem_cons_zero, List.setIfInBounds_toArray, List.set_cons_zero, List.set_cons_succ]
            refine wpAnyH_ready (rs := [3]) (by kernel_rfl) (by simp) ?_
            refine AllReadyH.cons (o := _) rfl (fun K hK => ?_) AllReadyH.nil
            simp only [List.getElem_toArray, List.getElem_cons_succ, List.getElem_cons_zero]
            go_simp
            refine (U1.out _).mono ?_
            rintro e w6 ⟨rfl, hz⟩
            have X6 := Lib.hid (X5.out.drew.call hz)
            have B6 := Lib.hid (B5.out.drew.trans (hz.mono B5.out.drew.size))
            clear hz
            go_wp2_with fail
            refine hK.out _ _ ?_ (fun hHeld => ?_)
            · exact X6.out.six
            clear hK K
            try simp only [Act.put, List.getElem_toArray, List.getElem_cons_succ, List.getElem_cons_zero, List.setIfInBounds_toArray, List.set_cons_zero, List.set_cons_succ]
            refine wpAnyH_ready (rs := [7]) (by kernel_rfl) (by simp) ?_
            refine AllReadyH.cons (o := _) rfl (fun K hK => ?_) AllReadyH.nil
            simp only [List.getElem_toArray, List.getElem_cons_succ, List.getElem_cons_zero]
            go_simp
            refine (U2.out _).mono ?_
            rintro e w7 ⟨rfl, hz⟩
            have X7 := Lib.hid (X6.out.call hz)
            have B7 := Lib.hid (B6.out.trans (hz.mono B6.out.size))
            clear hz
            go_wp2_with fail
            refine hK.out _ _ ?_ (fun hHeld => ?_)
            · exact X7.out.six
            clear hK K
            try simp only [Act.put, List.getElem_toArray, List.getElem_cons_succ, List.getElem_cons_zero, List.setIfInBounds_toArray, List.set_cons_zero, List.set_cons_succ]
            refine wpAnyH_take (i := 8) (oi := _) (v := .bool true) rfl (by kernel_rfl) (by kernel_rfl) (by kernel_rfl) (fun _ _ _ h => h) (Or.inl ⟨by rfl, ?_⟩) (by assumption) ?_
            · intro w hSw
              (try dsimp only at hSw)
              go_simp
              (try simpa using hne)
            try simp only [Act.put, List.getElem_toArray, List.getElem_cons_succ, List.getElem_cons_zero, List.setIfInBounds_toArray, List.set_cons_zero, List.set_cons_succ]
            refine wpAnyH_take (i := 9) (oi := _) (v := ?_) rfl (by kernel_rfl) (by kernel_rfl) (by kernel_rfl) (fun _ _ _ h => h) (Or.inl ⟨by rfl, ?_⟩) (by assumption) ?_
            rotate_left
            · intro w hSw
              (try dsimp only at hSw)
              go_simp
              try with_reducible rfl
            try simp only [Act.put, List.getElem_toArray, List.getElem_cons_succ, List.getElem_cons_zero, List.setIfInBounds_toArray, List.set_cons_zero, List.set_cons_succ]
            refine wpAnyH_take (i := 10) (oi := _) (v := undef) rfl (by kernel_rfl) (by kernel_rfl) (by kernel_rfl) (fun _ _ _ h => h) (Or.inr ⟨by rfl, by rfl⟩) (by assumption) ?_
            try simp only [Act.put, List.getElem_toArray, List.getElem_cons_succ, List.getElem_cons_zero, List.setIfInBounds_toArray, List.set_cons_zero, List.set_cons_succ]
            refine wpAnyH_take (i := 11) (oi := _) (v := undef) rfl (by kernel_rfl) (by kernel_rfl) (by kernel_rfl) (fun _ _ _ h => h) (Or.inr ⟨by rfl, by rfl⟩) (by assumption) ?_
            try simp only [Act.put, List.getElem_toArray, List.getElem_cons_succ, List.getElem_cons_zero, List.setIfInBounds_toArray, List.set_cons_zero, List.set_cons_succ]
            refine wpAnyH_take (i := 12) (oi := _) (v := undef) rfl (by kernel_rfl) (by kernel_rfl) (by kernel_rfl) (fun _ _ _ h => h) (Or.inr ⟨by rfl, by rfl⟩) (by assumption) ?_
            try simp only [Act.put, List.getElem_toArray, List.getElem_cons_succ, List.getElem_cons_zero, List.setIfInBounds_toArray, List.set_cons_zero, List.set_cons_succ]
            refine wpAnyH_take (i := 13) (oi := _) (v := undef) rfl (by kernel_rfl) (by kernel_rfl) (by kernel_rfl) (fun _ _ _ h => h) (Or.inr ⟨by rfl, by rfl⟩) (by assumption) ?_
            try simp only [Act.put, List.getElem_toArray, List.getElem_cons_succ, List.getElem_cons_zero, List.setIfInBounds_toArray, List.set_cons_zero, List.set_cons_succ]
            refine wpAnyH_take (i := 14) (oi := _) (v := undef) rfl (by kernel_rfl) (by kernel_rfl) (by kernel_rfl) (fun _ _ _ h => h) (Or.inr ⟨by rfl, by rfl⟩) (by assumption) ?_
            try simp only [Act.put, List.getElem_toArray, List.getElem_cons_succ, List.getElem_cons_zero, List.setIfInBounds_toArray, List.set_cons_zero, List.set_cons_succ]
            refine wpAnyH_take (i := 15) (oi := _) (v := undef) rfl (by kernel_rfl) (by kernel_rfl) (by kernel_rfl) (fun _ _ _ h => h) (Or.inr ⟨by rfl, by rfl⟩) (by assumption) ?_
            try simp only [Act.put, List.getElem_toArray, List.getElem_cons_succ, List.getElem_cons_zero, List.setIfInBounds_toArray, List.set_cons_zero, List.set_cons_succ]
            refine wpAnyH_take (i := 16) (oi := _) (v := undef) rfl (by kernel_rfl) (by kernel_rfl) (by kernel_rfl) (fun _ _ _ h => h) (Or.inr ⟨by rfl, by rfl⟩) (by assumption) ?_
            try simp only [Act.put, List.getElem_toArray, List.getElem_cons_succ, List.getElem_cons_zero, List.setIfInBounds_toArray, List.set_cons_zero, List.set_cons_succ]
            refine wpAnyH_take (i := 17) (oi := _) (v := undef) rfl (by kernel_rfl) (by kernel_rfl) (by kernel_rfl) (fun _ _ _ h => h) (Or.inr ⟨by rfl, by rfl⟩) (by assumption) ?_
            try simp only [Act.put, List.getElem_toArray, List.getElem_cons_succ, List.getElem_cons_zero, List.setIfInBounds_toArray, List.set_cons_zero, List.set_cons_succ]
            refine wpAnyH_take (i := 18) (oi := _) (v := undef) rfl (by kernel_rfl) (by kernel_rfl) (by kernel_rfl) (fun _ _ _ h => h) (Or.inr ⟨by rfl, by rfl⟩) (by assumption) ?_
            try simp only [Act.put, List.getElem_toArray, List.getElem_cons_succ, List.getElem_cons_zero, List.setIfInBounds_toArray, List.set_cons_zero, List.set_cons_succ]
            refine wpAnyH_take (i := 19) (oi := _) (v := ?_) rfl (by kernel_rfl) (by kernel_rfl) (by kernel_rfl) (fun _ _ _ h => h) (Or.inl ⟨by rfl, ?_⟩) (by assumption) ?_
            rotate_left
            · intro w hSw
              (try dsimp only at hSw)
              go_simp
              try with_reducible rfl
            try simp only [Act.put, List.getElem_toArray, List.getElem_cons_succ, List.getElem_cons_zero, List.setIfInBounds_toArray, List.set_cons_zero, List.set_cons_succ]
            refine wpAnyH_done (by kernel_rfl) ?_ _
            have hv : V = false := by rw [Hv.out]; exact Hst.out false (by rw [Hfk.out, show (a1 == a2) = false by simpa [bne] using hne]; rfl) Hall.out
            have Hv := Lib.hid hv
            clear hv
            go_wp2_with fail
            go_ret
            exact ⟨by rw [Hv.out]; try rfl, B7.out⟩
          case false =>
            cases hnq : (a3 != a4)
            case true =>
              refine wp_region_held_drew (S := (fun w' : World => w'.cell? ⟨w.heap.size, 0, none⟩ = some (.int .i64 na) ∧ w'.cell? ⟨w.heap.size, 1, none⟩ = some (.string SA) ∧ w'.cell? ⟨w.heap.size, 2, none⟩ = some (.string RA) ∧ w'.cell? ⟨w.heap.size + 1, 0, none⟩ = some (.int .i64 nb) ∧ w'.cell? ⟨w.heap.size + 1, 1, none⟩ = some (.string SB) ∧ w'.cell? ⟨w.heap.size + 1, 2, none⟩ = some (.string RB))) (by kernel_rfl) ?_ (fun hHeld => ?_)
              · exact X5.out.drew.six
              refine wpAnyH_take (i := 0) (oi := _) (v := ?_) rfl (by kernel_rfl) (by kernel_rfl) (by kernel_rfl) (fun _ _ _ h => h) (Or.inl ⟨by rfl, ?_⟩) (by assumption) ?_
              rotate_left
              · intro w hSw
                (try dsimp only at hSw)
                go_simp
                try with_reducible rfl
              try simp only [Act.put, List.getElem_toArray, List.getElem_cons_succ, List.getElem_cons_zero, List.setIfInBounds_toArray, List.set_cons_zero, List.set_cons_succ]
              refine wpAnyH_take (i := 1) (oi := _) (v := ?_) rfl (by kernel_rfl) (by kernel_rfl) (by kernel_rfl) (fun _ _ _ h => h) (Or.inl ⟨by rfl, ?_⟩) (by assumption) ?_
              rotate_left
              · intro w hSw
                (try dsimp only at hSw)
                go_simp
                try with_reducible rfl
              try simp only [Act.put, List.getElem_toArray, List.getElem_cons_succ, List.getElem_cons_zero, List.setIfInBounds_toArray, List.set_cons_zero, List.set_cons_succ]
              refine wpAnyH_take (i := 2) (oi := _) (v := ?_) rfl (by kernel_rfl) (by kernel_rfl) (by kernel_rfl) (fun _ _ _ h => h) (Or.inl ⟨by rfl, ?_⟩) (by assumption) ?_
              rotate_left
              · intro w hSw
                (try dsimp only at hSw)
                go_simp
                try with_reducible rfl
              try simp only [Act.put, List.getElem_toArray, List.getElem_cons_succ, List.getElem_cons_zero, List.setIfInBounds_toArray, List.set_cons_zero, List.set_cons_succ]
              refine wpAnyH_take (i := 4) (oi := _) (v := ?_) rfl (by kernel_rfl) (by kernel_rfl) (by kernel_rfl) (fun _ _ _ h => h) (Or.inl ⟨by rfl, ?_⟩) (by assumption) ?_
              rotate_left
              · intro w hSw
                (try dsimp only at hSw)
                go_simp
                try with_reducible rfl
              try simp only [Act.put, List.getElem_toArray, List.getElem_cons_succ, List.getElem_cons_zero, List.setIfInBounds_toArray, List.set_cons_zero, List.set_cons_succ]
              refine wpAnyH_take (i := 5) (oi := _) (v := ?_) rfl (by kernel_rfl) (by kernel_rfl) (by kernel_rfl) (fun _ _ _ h => h) (Or.inl ⟨by rfl, ?_⟩) (by assumption) ?_
              rotate_left
              · intro w hSw
                (try dsimp only at hSw)
                go_simp
                try with_reducible rfl
              try simp only [Act.put, List.getElem_toArray, List.getElem_cons_succ, List.getElem_cons_zero, List.setIfInBounds_toArray, List.set_cons_zero, List.set_cons_succ]
              refine wpAnyH_take (i := 6) (oi := _) (v := ?_) rfl (by kernel_rfl) (by kernel_rfl) (by kernel_rfl) (fun _ _ _ h => h) (Or.inl ⟨by rfl, ?_⟩) (by assumption) ?_
              rotate_left
              · intro w hSw
                (try dsimp only at hSw)
                go_simp
                try with_reducible rfl
              try simp only [Act.put, List.getElem_toArray, List.getElem_cons_succ, List.getElem_cons_zero, List.setIfInBounds_toArray, List.set_cons_zero, List.set_cons_succ]
              refine wpAnyH_ready (rs := [3]) (by kernel_rfl) (by simp) ?_
              refine AllReadyH.cons (o := _) rfl (fun K hK => ?_) AllReadyH.nil
              simp only [List.getElem_toArray, List.getElem_cons_succ, List.getElem_cons_zero]
              go_simp
              refine (U1.out _).mono ?_
              rintro e w6 ⟨rfl, hz⟩
              have X6 := Lib.hid (X5.out.drew.call hz)
              have B6 := Lib.hid (B5.out.drew.trans (hz.mono B5.out.drew.size))
              clear hz
              go_wp2_with fail
              refine hK.out _ _ ?_ (fun hHeld => ?_)
              · exact X6.out.six
              clear hK K
              try simp only [Act.put, List.getElem_toArray, List.getElem_cons_succ, List.getElem_cons_zero, List.setIfInBounds_toArray, List.set_cons_zero, List.set_cons_succ]
              refine wpAnyH_ready (rs := [7]) (by kernel_rfl) (by simp) ?_
              refine AllReadyH.cons (o := _) rfl (fun K hK => ?_) AllReadyH.nil
              simp only [List.getElem_toArray, List.getElem_cons_succ, List.getElem_cons_zero]
              go_simp
              refine (U2.out _).mono ?_
              rintro e w7 ⟨rfl, hz⟩
              have X7 := Lib.hid (X6.out.call hz)
              have B7 := Lib.hid (B6.out.trans (hz.mono B6.out.size))
              clear hz
              go_wp2_with fail
              refine hK.out _ _ ?_ (fun hHeld => ?_)
              · exact X7.out.six
              clear hK K
              try simp only [Act.put, List.getElem_toArray, List.getElem_cons_succ, List.getElem_cons_zero, List.setIfInBounds_toArray, List.set_cons_zero, List.set_cons_succ]
              refine wpAnyH_take (i := 8) (oi := _) (v := .bool false) rfl (by kernel_rfl) (by kernel_rfl) (by kernel_rfl) (fun _ _ _ h => h) (Or.inl ⟨by rfl, ?_⟩) (by assumption) ?_
              · intro w hSw
                (try dsimp only at hSw)
                go_simp
                (try simpa using hne)
              try simp only [Act.put, List.getElem_toArray, List.getElem_cons_succ, List.getElem_cons_zero, List.setIfInBounds_toArray, List.set_cons_zero, List.set_cons_succ]
              refine wpAnyH_take (i := 9) (oi := _) (v := ?_) rfl (by kernel_rfl) (by kernel_rfl) (by kernel_rfl) (fun _ _ _ h => h) (Or.inl ⟨by rfl, ?_⟩) (by assumption) ?_
              rotate_left
              · intro w hSw
                (try dsimp only at hSw)
                go_simp
                try with_reducible rfl
              try simp only [Act.put, List.getElem_toArray, List.getElem_cons_succ, List.getElem_cons_zero, List.setIfInBounds_toArray, List.set_cons_zero, List.set_cons_succ]
              refine wpAnyH_take (i := 10) (oi := _) (v := ?_) rfl (by kernel_rfl) (by kernel_rfl) (by kernel_rfl) (fun _ _ _ h => h) (Or.inl ⟨by rfl, ?_⟩) (by assumption) ?_
              rotate_left
              · intro w hSw
                (try dsimp only at hSw)
                go_simp
                try with_reducible rfl
              try simp only [Act.put, List.getElem_toArray, List.getElem_cons_succ, List.getElem_cons_zero, List.setIfInBounds_toArray, List.set_cons_zero, List.set_cons_succ]
              refine wpAnyH_take (i := 11) (oi := _) (v := ?_) rfl (by kernel_rfl) (by kernel_rfl) (by kernel_rfl) (fun _ _ _ h => h) (Or.inl ⟨by rfl, ?_⟩) (by assumption) ?_
              rotate_left
              · intro w hSw
                (try dsimp only at hSw)
                go_simp
                try with_reducible rfl
              try simp only [Act.put, List.getElem_toArray, List.getElem_cons_succ, List.getElem_cons_zero, List.setIfInBounds_toArray, List.set_cons_zero, List.set_cons_succ]
              refine wpAnyH_take (i := 12) (oi := _) (v := ?_) rfl (by kernel_rfl) (by kernel_rfl) (by kernel_rfl) (fun _ _ _ h => h) (Or.inl ⟨by rfl, ?_⟩) (by assumption) ?_
              rotate_left
              · intro w hSw
                (try dsimp only at hSw)
                go_simp
                try with_reducible rfl
              try simp only [Act.put, List.getElem_toArray, List.getElem_cons_succ, List.getElem_cons_zero, List.setIfInBounds_toArray, List.set_cons_zero, List.set_cons_succ]
              refine wpAnyH_take (i := 14) (oi := _) (v := ?_) rfl (by kernel_rfl) (by kernel_rfl) (by kernel_rfl) (fun _ _ _ h => h) (Or.inl ⟨by rfl, ?_⟩) (by assumption) ?_
              rotate_left
              · intro w hSw
                (try dsimp only at hSw)
                go_simp
                try with_reducible rfl
              try simp only [Act.put, List.getElem_toArray, List.getElem_cons_succ, List.getElem_cons_zero, List.setIfInBounds_toArray, List.set_cons_zero, List.set_cons_succ]
              refine wpAnyH_take (i := 15) (oi := _) (v := ?_) rfl (by kernel_rfl) (by kernel_rfl) (by kernel_rfl) (fun _ _ _ h => h) (Or.inl ⟨by rfl, ?_⟩) (by assumption) ?_
              rotate_left
              · intro w hSw
                (try dsimp only at hSw)
                go_simp
                try with_reducible rfl
              try simp only [Act.put, List.getElem_toArray, List.getElem_cons_succ, List.getElem_cons_zero, List.setIfInBounds_toArray, List.set_cons_zero, List.set_cons_succ]
              refine wpAnyH_take (i := 16) (oi := _) (v := ?_) rfl (by kernel_rfl) (by kernel_rfl) (by kernel_rfl) (fun _ _ _ h => h) (Or.inl ⟨by rfl, ?_⟩) (by assumption) ?_
              rotate_left
              · intro w hSw
                (try dsimp only at hSw)
                go_simp
                try with_reducible rfl
              try simp only [Act.put, List.getElem_toArray, List.getElem_cons_succ, List.getElem_cons_zero, List.setIfInBounds_toArray, List.set_cons_zero, List.set_cons_succ]
              refine wpAnyH_ready (rs := [13]) (by kernel_rfl) (by simp) ?_
              refine AllReadyH.cons (o := _) rfl (fun K hK => ?_) AllReadyH.nil
              simp only [List.getElem_toArray, List.getElem_cons_succ, List.getElem_cons_zero]
              go_simp
              refine (U3.out _).mono ?_
              rintro e w8 ⟨rfl, hz⟩
              have X8 := Lib.hid (X7.out.call hz)
              have B8 := Lib.hid (B7.out.trans (hz.mono B7.out.size))
              clear hz
              go_wp2_with fail
              refine hK.out _ _ ?_ (fun hHeld => ?_)
              · exact X8.out.six
              clear hK K
              try simp only [Act.put, List.getElem_toArray, List.getElem_cons_succ, List.getElem_cons_zero, List.setIfInBounds_toArray, List.set_cons_zero, List.set_cons_succ]
              refine wpAnyH_ready (rs := [17]) (by kernel_rfl) (by simp) ?_
              refine AllReadyH.cons (o := _) rfl (fun K hK => ?_) AllReadyH.nil
              simp only [List.getElem_toArray, List.getElem_cons_succ, List.getElem_cons_zero]
              go_simp
              refine (U4.out _).mono ?_
              rintro e w9 ⟨rfl, hz⟩
              have X9 := Lib.hid (X8.out.call hz)
              have B9 := Lib.hid (B8.out.trans (hz.mono B8.out.size))
              clear hz
              go_wp2_with fail
              refine hK.out _ _ ?_ (fun hHeld => ?_)
              · exact X9.out.six
              clear hK K
              try simp only [Act.put, List.getElem_toArray, List.getElem_cons_succ, List.getElem_cons_zero, List.setIfInBounds_toArray, List.set_cons_zero, List.set_cons_succ]
              refine wpAnyH_take (i := 18) (oi := _) (v := .bool true) rfl (by kernel_rfl) (by kernel_rfl) (by kernel_rfl) (fun _ _ _ h => h) (Or.inl ⟨by rfl, ?_⟩) (by assumption) ?_
              · intro w hSw
                (try dsimp only at hSw)
                go_simp
                (try simpa using hnq)
              try simp only [Act.put, List.getElem_toArray, List.getElem_cons_succ, List.getElem_cons_zero, List.setIfInBounds_toArray, List.set_cons_zero, List.set_cons_succ]
              refine wpAnyH_take (i := 19) (oi := _) (v := ?_) rfl (by kernel_rfl) (by kernel_rfl) (by kernel_rfl) (fun _ _ _ h => h) (Or.inl ⟨by rfl, ?_⟩) (by assumption) ?_
              rotate_left
              · intro w hSw
                (try dsimp only at hSw)
                go_simp
                try with_reducible rfl
              try simp only [Act.put, List.getElem_toArray, List.getElem_cons_succ, List.getElem_cons_zero, List.setIfInBounds_toArray, List.set_cons_zero, List.set_cons_succ]
              refine wpAnyH_done (by kernel_rfl) ?_ _
              have hv : V = false := by rw [Hv.out]; exact Hst.out false (by rw [Hfk.out, show (a3 == a4) = false by simpa [bne] using hnq]; simp) Hall.out
              have Hv := Lib.hid hv
              clear hv
              go_wp2_with fail
              go_ret
              exact ⟨by rw [Hv.out]; try rfl, B9.out⟩
            case false =>
              refine wp_region_held_drew (S := (fun w' : World => w'.cell? ⟨w.heap.size, 0, none⟩ = some (.int .i64 na) ∧ w'.cell? ⟨w.heap.size, 1, none⟩ = some (.string SA) ∧ w'.cell? ⟨w.heap.size, 2, none⟩ = some (.string RA) ∧ w'.cell? ⟨w.heap.size + 1, 0, none⟩ = some (.int .i64 nb) ∧ w'.cell? ⟨w.heap.size + 1, 1, none⟩ = some (.string SB) ∧ w'.cell? ⟨w.heap.size + 1, 2, none⟩ = some (.string RB))) (by kernel_rfl) ?_ (fun hHeld => ?_)
              · exact X5.out.drew.six
              refine wpAnyH_take (i := 0) (oi := _) (v := ?_) rfl (by kernel_rfl) (by kernel_rfl) (by kernel_rfl) (fun _ _ _ h => h) (Or.inl ⟨by rfl, ?_⟩) (by assumption) ?_
              rotate_left
              · intro w hSw
                (try dsimp only at hSw)
                go_simp
                try with_reducible rfl
              try simp only [Act.put, List.getElem_toArray, List.getElem_cons_succ, List.getElem_cons_zero, List.setIfInBounds_toArray, List.set_cons_zero, List.set_cons_succ]
              refine wpAnyH_take (i := 1) (oi := _) (v := ?_) rfl (by kernel_rfl) (by kernel_rfl) (by kernel_rfl) (fun _ _ _ h => h) (Or.inl ⟨by rfl, ?_⟩) (by assumption) ?_
              rotate_left
              · intro w hSw
                (try dsimp only at hSw)
                go_simp
                try with_reducible rfl
              try simp only [Act.put, List.getElem_toArray, List.getElem_cons_succ, List.getElem_cons_zero, List.setIfInBounds_toArray, List.set_cons_zero, List.set_cons_succ]
              refine wpAnyH_take (i := 2) (oi := _) (v := ?_) rfl (by kernel_rfl) (by kernel_rfl) (by kernel_rfl) (fun _ _ _ h => h) (Or.inl ⟨by rfl, ?_⟩) (by assumption) ?_
              rotate_left
              · intro w hSw
                (try dsimp only at hSw)
                go_simp
                try with_reducible rfl
              try simp only [Act.put, List.getElem_toArray, List.getElem_cons_succ, List.getElem_cons_zero, List.setIfInBounds_toArray, List.set_cons_zero, List.set_cons_succ]
              refine wpAnyH_take (i := 4) (oi := _) (v := ?_) rfl (by kernel_rfl) (by kernel_rfl) (by kernel_rfl) (fun _ _ _ h => h) (Or.inl ⟨by rfl, ?_⟩) (by assumption) ?_
              rotate_left
              · intro w hSw
                (try dsimp only at hSw)
                go_simp
                try with_reducible rfl
              try simp only [Act.put, List.getElem_toArray, List.getElem_cons_succ, List.getElem_cons_zero, List.setIfInBounds_toArray, List.set_cons_zero, List.set_cons_succ]
              refine wpAnyH_take (i := 5) (oi := _) (v := ?_) rfl (by kernel_rfl) (by kernel_rfl) (by kernel_rfl) (fun _ _ _ h => h) (Or.inl ⟨by rfl, ?_⟩) (by assumption) ?_
              rotate_left
              · intro w hSw
                (try dsimp only at hSw)
                go_simp
                try with_reducible rfl
              try simp only [Act.put, List.getElem_toArray, List.getElem_cons_succ, List.getElem_cons_zero, List.setIfInBounds_toArray, List.set_cons_zero, List.set_cons_succ]
              refine wpAnyH_take (i := 6) (oi := _) (v := ?_) rfl (by kernel_rfl) (by kernel_rfl) (by kernel_rfl) (fun _ _ _ h => h) (Or.inl ⟨by rfl, ?_⟩) (by assumption) ?_
              rotate_left
              · intro w hSw
                (try dsimp only at hSw)
                go_simp
                try with_reducible rfl
              try simp only [Act.put, List.getElem_toArray, List.getElem_cons_succ, List.getElem_cons_zero, List.setIfInBounds_toArray, List.set_cons_zero, List.set_cons_succ]
              refine wpAnyH_ready (rs := [3]) (by kernel_rfl) (by simp) ?_
              refine AllReadyH.cons (o := _) rfl (fun K hK => ?_) AllReadyH.nil
              simp only [List.getElem_toArray, List.getElem_cons_succ, List.getElem_cons_zero]
              go_simp
              refine (U1.out _).mono ?_
              rintro e w6 ⟨rfl, hz⟩
              have X6 := Lib.hid (X5.out.drew.call hz)
              have B6 := Lib.hid (B5.out.drew.trans (hz.mono B5.out.drew.size))
              clear hz
              go_wp2_with fail
              refine hK.out _ _ ?_ (fun hHeld => ?_)
              · exact X6.out.six
              clear hK K
              try simp only [Act.put, List.getElem_toArray, List.getElem_cons_succ, List.getElem_cons_zero, List.setIfInBounds_toArray, List.set_cons_zero, List.set_cons_succ]
              refine wpAnyH_ready (rs := [7]) (by kernel_rfl) (by simp) ?_
              refine AllReadyH.cons (o := _) rfl (fun K hK => ?_) AllReadyH.nil
              simp only [List.getElem_toArray, List.getElem_cons_succ, List.getElem_cons_zero]
              go_simp
              refine (U2.out _).mono ?_
              rintro e w7 ⟨rfl, hz⟩
              have X7 := Lib.hid (X6.out.call hz)
              have B7 := Lib.hid (B6.out.trans (hz.mono B6.out.size))
              clear hz
              go_wp2_with fail
              refine hK.out _ _ ?_ (fun hHeld => ?_)
              · exact X7.out.six
              clear hK K
              try simp only [Act.put, List.getElem_toArray, List.getElem_cons_succ, List.getElem_cons_zero, List.setIfInBounds_toArray, List.set_cons_zero, List.set_cons_succ]
              refine wpAnyH_take (i := 8) (oi := _) (v := .bool false) rfl (by kernel_rfl) (by kernel_rfl) (by kernel_rfl) (fun _ _ _ h => h) (Or.inl ⟨by rfl, ?_⟩) (by assumption) ?_
              · intro w hSw
                (try dsimp only at hSw)
                go_simp
                (try simpa using hne)
              try simp only [Act.put, List.getElem_toArray, List.getElem_cons_succ, List.getElem_cons_zero, List.setIfInBounds_toArray, List.set_cons_zero, List.set_cons_succ]
              refine wpAnyH_take (i := 9) (oi := _) (v := ?_) rfl (by kernel_rfl) (by kernel_rfl) (by kernel_rfl) (fun _ _ _ h => h) (Or.inl ⟨by rfl, ?_⟩) (by assumption) ?_
              rotate_left
              · intro w hSw
                (try dsimp only at hSw)
                go_simp
                try with_reducible rfl
              try simp only [Act.put, List.getElem_toArray, List.getElem_cons_succ, List.getElem_cons_zero, List.setIfInBounds_toArray, List.set_cons_zero, List.set_cons_succ]
              refine wpAnyH_take (i := 10) (oi := _) (v := ?_) rfl (by kernel_rfl) (by kernel_rfl) (by kernel_rfl) (fun _ _ _ h => h) (Or.inl ⟨by rfl, ?_⟩) (by assumption) ?_
              rotate_left
              · intro w hSw
                (try dsimp only at hSw)
                go_simp
                try with_reducible rfl
              try simp only [Act.put, List.getElem_toArray, List.getElem_cons_succ, List.getElem_cons_zero, List.setIfInBounds_toArray, List.set_cons_zero, List.set_cons_succ]
              refine wpAnyH_take (i := 11) (oi := _) (v := ?_) rfl (by kernel_rfl) (by kernel_rfl) (by kernel_rfl) (fun _ _ _ h => h) (Or.inl ⟨by rfl, ?_⟩) (by assumption) ?_
              rotate_left
              · intro w hSw
                (try dsimp only at hSw)
                go_simp
                try with_reducible rfl
              try simp only [Act.put, List.getElem_toArray, List.getElem_cons_succ, List.getElem_cons_zero, List.setIfInBounds_toArray, List.set_cons_zero, List.set_cons_succ]
              refine wpAnyH_take (i := 12) (oi := _) (v := ?_) rfl (by kernel_rfl) (by kernel_rfl) (by kernel_rfl) (fun _ _ _ h => h) (Or.inl ⟨by rfl, ?_⟩) (by assumption) ?_
              rotate_left
              · intro w hSw
                (try dsimp only at hSw)
                go_simp
                try with_reducible rfl
              try simp only [Act.put, List.getElem_toArray, List.getElem_cons_succ, List.getElem_cons_zero, List.setIfInBounds_toArray, List.set_cons_zero, List.set_cons_succ]
              refine wpAnyH_take (i := 14) (oi := _) (v := ?_) rfl (by kernel_rfl) (by kernel_rfl) (by kernel_rfl) (fun _ _ _ h => h) (Or.inl ⟨by rfl, ?_⟩) (by assumption) ?_
              rotate_left
              · intro w hSw
                (try dsimp only at hSw)
                go_simp
                try with_reducible rfl
              try simp only [Act.put, List.getElem_toArray, List.getElem_cons_succ, List.getElem_cons_zero, List.setIfInBounds_toArray, List.set_cons_zero, List.set_cons_succ]
              refine wpAnyH_take (i := 15) (oi := _) (v := ?_) rfl (by kernel_rfl) (by kernel_rfl) (by kernel_rfl) (fun _ _ _ h => h) (Or.inl ⟨by rfl, ?_⟩) (by assumption) ?_
              rotate_left
              · intro w hSw
                (try dsimp only at hSw)
                go_simp
                try with_reducible rfl
              try simp only [Act.put, List.getElem_toArray, List.getElem_cons_succ, List.getElem_cons_zero, List.setIfInBounds_toArray, List.set_cons_zero, List.set_cons_succ]
              refine wpAnyH_take (i := 16) (oi := _) (v := ?_) rfl (by kernel_rfl) (by kernel_rfl) (by kernel_rfl) (fun _ _ _ h => h) (Or.inl ⟨by rfl, ?_⟩) (by assumption) ?_
              rotate_left
              · intro w hSw
                (try dsimp only at hSw)
                go_simp
                try with_reducible rfl
              try simp only [Act.put, List.getElem_toArray, List.getElem_cons_succ, List.getElem_cons_zero, List.setIfInBounds_toArray, List.set_cons_zero, List.set_cons_succ]
              refine wpAnyH_ready (rs := [13]) (by kernel_rfl) (by simp) ?_
              refine AllReadyH.cons (o := _) rfl (fun K hK => ?_) AllReadyH.nil
              simp only [List.getElem_toArray, List.getElem_cons_succ, List.getElem_cons_zero]
              go_simp
              refine (U3.out _).mono ?_
              rintro e w8 ⟨rfl, hz⟩
              have X8 := Lib.hid (X7.out.call hz)
              have B8 := Lib.hid (B7.out.trans (hz.mono B7.out.size))
              clear hz
              go_wp2_with fail
              refine hK.out _ _ ?_ (fun hHeld => ?_)
              · exact X8.out.six
              clear hK K
              try simp only [Act.put, List.getElem_toArray, List.getElem_cons_succ, List.getElem_cons_zero, List.setIfInBounds_toArray, List.set_cons_zero, List.set_cons_succ]
              refine wpAnyH_ready (rs := [17]) (by kernel_rfl) (by simp) ?_
              refine AllReadyH.cons (o := _) rfl (fun K hK => ?_) AllReadyH.nil
              simp only [List.getElem_toArray, List.getElem_cons_succ, List.getElem_cons_zero]
              go_simp
              refine (U4.out _).mono ?_
              rintro e w9 ⟨rfl, hz⟩
              have X9 := Lib.hid (X8.out.call hz)
              have B9 := Lib.hid (B8.out.trans (hz.mono B8.out.size))
              clear hz
              go_wp2_with fail
              refine hK.out _ _ ?_ (fun hHeld => ?_)
              · exact X9.out.six
              clear hK K
              try simp only [Act.put, List.getElem_toArray, List.getElem_cons_succ, List.getElem_cons_zero, List.setIfInBounds_toArray, List.set_cons_zero, List.set_cons_succ]
              refine wpAnyH_take (i := 18) (oi := _) (v := .bool false) rfl (by kernel_rfl) (by kernel_rfl) (by kernel_rfl) (fun _ _ _ h => h) (Or.inl ⟨by rfl, ?_⟩) (by assumption) ?_
              · intro w hSw
                (try dsimp only at hSw)
                go_simp
                (try simpa using hnq)
              try simp only [Act.put, List.getElem_toArray, List.getElem_cons_succ, List.getElem_cons_zero, List.setIfInBounds_toArray, List.set_cons_zero, List.set_cons_succ]
              refine wpAnyH_take (i := 19) (oi := _) (v := ?_) rfl (by kernel_rfl) (by kernel_rfl) (by kernel_rfl) (fun _ _ _ h => h) (Or.inl ⟨by rfl, ?_⟩) (by assumption) ?_
              rotate_left
              · intro w hSw
                (try dsimp only at hSw)
                go_simp
                try with_reducible rfl
              try simp only [Act.put, List.getElem_toArray, List.getElem_cons_succ, List.getElem_cons_zero, List.setIfInBounds_toArray, List.set_cons_zero, List.set_cons_succ]
              refine wpAnyH_done (by kernel_rfl) ?_ _
              have hall2 := Hst.out true (by rw [Hfk.out, show (a1 == a2) = true by simpa [bne] using hne, show (a3 == a4) = true by simpa [bne] using hnq]; rfl) Hall.out
              have Hall2 := Lib.hid hall2
              clear hall2 hne hnq
              go_wp2_with fail
              go_roundg (n - k - 1)
              case rel => exact ⟨k + 1, by omega, by go_num, X9.out, B9.out, Hall2.out⟩
              case measure => omega
        · obtain rfl : k = n := by omega
          have hv2 : V = true := by rw [Hv.out, all_upto Hall.out]
          have Hv2 := Lib.hid hv2
          clear hv2
          go_wp2_with fail
          go_ret
          exact ⟨by rw [Hv2.out]; try rfl, B5.out⟩

end Go.Proofs.YteonanaihklgmaaDoor

namespace Go.Proofs.YteonanaihklgmaaDoor
open Go.RowKit
open Pl
set_option linter.unusedSimpArgs false
set_option linter.unusedVariables false

/-- what lies from a block on is as it was -/
structure Kp (B : Nat) (W W' : World) : Prop where
  size : W.heap.size ≤ W'.heap.size
  block : ∀ k, B ≤ k → k < W.heap.size → W'.heap[k]? = W.heap[k]?

theorem Kp.of_below {B : Nat} {W W' : World} (h : Below W.heap.size W W') : Kp B W W' := ⟨h.size, fun k _ hk => h.block k hk⟩
theorem Bx.kp {w w' : World} {g B : Nat} {t : TypeId} {cs : Array Value} (h : Bx w g t cs) (hk : Kp B w w') (hg : B ≤ g) : Bx w' g t cs := (hk.block g hg h.lt).trans h
theorem Bx.grown {w w' : World} {g : Nat} {t : TypeId} {cs : Array Value} {row : Option Nat} (h : Bx w g t cs) (hg : w.grownBy w' row) (hne : some g ≠ row) : Bx w' g t cs := (hg.block g h.lt hne).trans h
theorem own_kp {W W' : World} {B base n : Nat} {e : TypeId} {v : Value} {xs : List Value} (h : W.ownsRow base e 1 v n xs) (hk : Kp B W W') (hB : B ≤ base) : W'.ownsRow base e 1 v n xs := by
  obtain ⟨h1, h2⟩ := h
  refine ⟨h1, ?_⟩
  rcases h2 with h2 | ⟨g, cap, cur, hv, hg, hh, r⟩
  · exact .inl h2
  · exact .inr ⟨g, cap, cur, hv, hg, (hk.block g (by omega) (Array.getElem?_eq_some_iff.1 hh).1).trans hh, r⟩
theorem own_far {W : World} {base n : Nat} {e : TypeId} {v : Value} {xs : List Value} (h : W.ownsRow base e 1 v n xs) {p : Addr} (hp : ∀ g, v.ownBlock = some g → g ≠ p.block) (u : Value) : (W.setCell p u).ownsRow base e 1 v n xs := by
  obtain ⟨h1, h2⟩ := h
  refine ⟨h1, ?_⟩
  rcases h2 with h2 | ⟨g, cap, cur, hv, hg, hh, r⟩
  · exact .inl h2
  · exact .inr ⟨g, cap, cur, hv, hg, (Below.heap_setCell W p u g (hp g (by rw [hv]; rfl))).trans hh, r⟩
theorem own_open {W : World} {base : Nat} {v : Value} {o : List Nat} (h : W.ownsRow base 3 1 v o.length (intsV (natsI o))) : ∃ A cap, v = .slice A o.length cap ∧ o.length ≤ cap ∧ LRow W A (natsI o) := by
  have h0 := h
  rcases h.2 with ⟨rfl, hn⟩ | ⟨g, cap, cur, rfl, _, _, hc, _⟩
  · exact ⟨none, 0, by rw [hn], by omega, fun hl => by rw [natsI_len] at hl; omega⟩
  · exact ⟨some ⟨g, 0, none⟩, cap, rfl, hc, LRow_of h0⟩
theorem own_back {W : World} {base : Nat} {v : Value} {o : List Nat} {x : Nat} (h : W.ownsRow base 3 1 v (o ++ [x]).length (intsV (natsI (o ++ [x])))) :
    ∃ g cap, v = .slice (some ⟨g, 0, none⟩) (o.length + 1) cap ∧ o.length + 1 ≤ cap ∧ W.ownsRow base 3 1 (.slice (some ⟨g, 0, none⟩) o.length cap) o.length (intsV (natsI o)) := by
  obtain ⟨h1, ⟨_, h0⟩ | ⟨g, cap, cur, hv, hg, hh, hn, hc, hs, ht⟩⟩ := h
  · simp at h0
  · rw [List.length_append, List.length_singleton] at hn hv
    refine ⟨g, cap, hv, hn, by simp [intsV, natsI], .inr ⟨g, cap, cur, rfl, hg, hh, by omega, hc, hs, ?_⟩⟩
    have ht2 := congrArg (List.take o.length) ht
    simp only [List.take_take, List.length_append, List.length_singleton, Nat.mul_one, intsV, natsI, List.map_append] at ht2 ⊢
    rw [Nat.min_eq_left (by omega)] at ht2
    rw [ht2, List.take_left' (by simp)]

theorem own_form {w : World} {base n : Nat} {e : TypeId} {v : Value} {xs : List Value} (h : w.ownsRow base e 1 v (n + 1) xs) : ∃ g cap, v = .slice (some ⟨g, 0, none⟩) (n + 1) cap := by
  obtain ⟨_, ⟨_, h0⟩ | ⟨g, cap, _, hv, _⟩⟩ := h
  · cases h0
  · exact ⟨g, cap, hv⟩

/-- the variables of the function that tells orders -/
def eEnv (W : World) (B : Nat) (a b : St) (tv : Value) : Prop :=
  Bx W B 27 #[.int .i64 a.n, .string (bs a.set), .string (bs a.rel)] ∧ Bx W (B + 1) 27 #[.int .i64 b.n, .string (bs b.set), .string (bs b.rel)] ∧ Bx W (B + 2) 94 #[tv] ∧ Bx W (B + 5) 106 #[.func (.func 88) #[] #[.pointer (some ⟨B + 4, 0, none⟩), .pointer (some ⟨B, 0, none⟩), .pointer (some ⟨B + 2, 0, none⟩), .pointer (some ⟨B + 1, 0, none⟩), .pointer (some ⟨B + 5, 0, none⟩)]]
/-- the order so far -/
def eRow (W : World) (B : Nat) (o : List Nat) : Prop :=
  ∃ v, Bx W (B + 4) 30 #[v] ∧ W.ownsRow (B + 3) 3 1 v o.length (intsV (natsI o)) ∧ ∀ k, v.ownBlock = some k → k ≠ B + 4 ∧ k ≠ B + 5

theorem eEnv.kp {W W' : World} {B : Nat} {a b : St} {tv : Value} (h : eEnv W B a b tv) (hk : Kp B W W') : eEnv W' B a b tv :=
  ⟨h.1.kp hk (Nat.le_refl _), h.2.1.kp hk (by omega), h.2.2.1.kp hk (by omega), h.2.2.2.kp hk (by omega)⟩
theorem eRow.kp {W W' : World} {B : Nat} {o : List Nat} (h : eRow W B o) (hk : Kp B W W') : eRow W' B o := by
  obtain ⟨v, h1, h2, h3⟩ := h
  exact ⟨v, h1.kp hk (by omega), own_kp h2 hk (by omega), h3⟩
theorem eEnv.lt {W : World} {B : Nat} {a b : St} {tv : Value} (h : eEnv W B a b tv) : B + 6 ≤ W.heap.size := by have := h.2.2.2.lt; omega
theorem eEnv.set {W : World} {B : Nat} {a b : St} {tv : Value} (h : eEnv W B a b tv) (u : Value) : eEnv (W.setCell ⟨B + 4, 0, none⟩ u) B a b tv :=
  ⟨h.1.far (by simp) _, h.2.1.far (by simp) _, h.2.2.1.far (by simp) _, h.2.2.2.far (by simp) _⟩

/-- behind an append: the order has one element more -/
theorem each_put {V w2 : World} {B : Nat} {a b : St} {tv v v' : Value} {o : List Nat} {k : Nat} (he : eEnv V B a b tv) (hb : Bx V (B + 4) 30 #[v]) (hown : V.ownsRow (B + 3) 3 1 v o.length (intsV (natsI o)))
    (hne : ∀ g, v.ownBlock = some g → g ≠ B + 4 ∧ g ≠ B + 5) (hown' : w2.ownsRow (B + 3) 3 1 v' (o.length + 1) (intsV (natsI o) ++ [.int .i64 (k : Nat)]))
    (hgr : (V.alloc (.cells #[.int .i64 (k : Nat)] 3)).grownBy w2 v.ownBlock) (hloc : v'.ownBlock = v.ownBlock ∨ v'.ownBlock = some (V.alloc (.cells #[.int .i64 (k : Nat)] 3)).heap.size) :
    eEnv (w2.setCell ⟨B + 4, 0, none⟩ v') B a b tv ∧ eRow (w2.setCell ⟨B + 4, 0, none⟩ v') B (o ++ [k]) ∧ Below B V (w2.setCell ⟨B + 4, 0, none⟩ v') := by
  have hsz := he.lt
  have hge : ∀ g, v.ownBlock = some g → B + 3 ≤ g := fun g hg => (hown.lt g hg).1
  have n0 : ∀ j, j < B + 3 → some j ≠ v.ownBlock := fun j hj e => by have := hge j e.symm; omega
  have n4 : some (B + 4) ≠ v.ownBlock := fun e => (hne _ e.symm).1 rfl
  have n5 : some (B + 5) ≠ v.ownBlock := fun e => (hne _ e.symm).2 rfl
  have hne' : ∀ g, v'.ownBlock = some g → g ≠ B + 4 ∧ g ≠ B + 5 := fun g hg => by
    rcases hloc with h | h
    · exact hne g (h ▸ hg)
    · rw [h] at hg
      injection hg with hg
      rw [World.size_alloc] at hg
      omega
  have he2 : eEnv w2 B a b tv := ⟨(he.1.alloc _).grown hgr (n0 _ (by omega)), (he.2.1.alloc _).grown hgr (n0 _ (by omega)), (he.2.2.1.alloc _).grown hgr (n0 _ (by omega)), (he.2.2.2.alloc _).grown hgr n5⟩
  have hb2 := (hb.alloc _).grown hgr n4
  refine ⟨he2.set _, ⟨v', by simpa using hb2.set 0 v', ?_, hne'⟩, (((Below.refl B V).alloc (by omega) _).grown hgr (by rw [World.size_alloc]; omega) (fun j hj => by have := hge j hj; omega)).setCell (by simp) _⟩
  rw [show (o ++ [k]).length = o.length + 1 by simp, show intsV (natsI (o ++ [k])) = intsV (natsI o) ++ [.int .i64 (k : Nat)] by simp [intsV, natsI]]
  exact own_far hown' (fun g hg => (hne' g hg).1) _

/-- the element is taken away again -/
theorem each_back {W : World} {B : Nat} {a b : St} {tv : Value} {o : List Nat} {k : Nat} (he : eEnv W B a b tv) (hr : eRow W B (o ++ [k])) :
    ∃ g cap, Bx W (B + 4) 30 #[.slice (some ⟨g, 0, none⟩) (o.length + 1) cap] ∧ o.length + 1 ≤ cap ∧ eEnv (W.setCell ⟨B + 4, 0, none⟩ (.slice (some ⟨g, 0, none⟩) o.length cap)) B a b tv ∧ eRow (W.setCell ⟨B + 4, 0, none⟩ (.slice (some ⟨g, 0, none⟩) o.length cap)) B o ∧ Below B W (W.setCell ⟨B + 4, 0, none⟩ (.slice (some ⟨g, 0, none⟩) o.length cap)) := by
  obtain ⟨v, hb, hown, hne⟩ := hr
  obtain ⟨g, cap, rfl, hc, ho⟩ := own_back hown
  refine ⟨g, cap, hb, hc, he.set _, ⟨_, by simpa using hb.set 0 _, own_far ho (fun j hj => (hne j hj).1) _, fun j hj => hne j hj⟩, (Below.refl B W).setCell (by simp) _⟩

/-- all of them, or the first alone -/
def told (c : Bool) (L : List (List Nat)) : List (List Nat) := if c then L else L.take 1
/-- the orders whose next element is below a number -/
def upTo (a b : St) (m : Nat) (o : List Nat) (k : Nat) : List (List Nat) := (List.range k).flatMap fun x => if nextB a b o x then shapes a b m (o ++ [x]) else []
theorem upTo_zero (a b : St) (m : Nat) (o : List Nat) : upTo a b m o 0 = [] := rfl
theorem upTo_succ (a b : St) (m : Nat) (o : List Nat) (k : Nat) : upTo a b m o (k + 1) = upTo a b m o k ++ (if nextB a b o k then shapes a b m (o ++ [k]) else []) := by
  unfold upTo; rw [List.range_succ, List.flatMap_append]; simp
theorem shapes_upTo (a b : St) (m : Nat) (o : List Nat) : shapes a b (m + 1) o = upTo a b m o a.n := rfl
theorem upTo_more (a b : St) (m : Nat) (o : List Nat) (k : Nat) : ∀ d, ∃ R, upTo a b m o (k + d) = upTo a b m o k ++ R
  | 0 => ⟨[], by simp⟩
  | d + 1 => by
    obtain ⟨R, h⟩ := upTo_more a b m o k d
    exact ⟨R ++ _, by rw [← Nat.add_assoc, upTo_succ, h, List.append_assoc]⟩
/-- where the first is told, the others are not -/
theorem told_stop {a b : St} {m k : Nat} {o : List Nat} (hk : k < a.n) (hn : nextB a b o k = true) (h0 : upTo a b m o k = []) (hs : (shapes a b m (o ++ [k])).isEmpty = false) :
    (shapes a b (m + 1) o).isEmpty = false ∧ told false (shapes a b (m + 1) o) = told false (shapes a b m (o ++ [k])) := by
  obtain ⟨R, h⟩ := upTo_more a b m o (k + 1) (a.n - (k + 1))
  rw [show k + 1 + (a.n - (k + 1)) = a.n by omega, upTo_succ, h0, hn] at h
  rw [shapes_upTo, h]
  generalize shapes a b m (o ++ [k]) = L at *
  cases L with
  | nil => cases hs
  | cons x L => simp [told]

end Go.Proofs.YteonanaihklgmaaDoor

namespace Go.Proofs.YteonanaihklgmaaDoor
open Go.RowKit
open Pl
set_option linter.unusedSimpArgs false
set_option linter.unusedVariables false

theorem LRow.news {w : World} {ga : Nat} {zs : List Int} (h : LRow w (some ⟨ga, 0, none⟩) zs) : ∀ j u, (intsV zs)[j]? = some u → w.cell? ((⟨ga, 0, none⟩ : Addr).add j) = some u := by
  intro j u hj
  have hl : j < zs.length := by
    have := (List.getElem?_eq_some_iff.1 hj).1
    simpa [intsV] using this
  obtain ⟨g, hg, hc⟩ := h (by omega)
  injection hg with hg
  injection hg with hg _
  subst hg
  have h2 := hc j hl
  simp only [intsV, List.getElem?_map, List.getElem?_eq_getElem hl, Option.map_some, Option.some.injEq] at hj
  subst hj
  have e : ((⟨ga, 0, none⟩ : Addr).add j) = ⟨ga, j, none⟩ := by
    rcases Nat.eq_zero_or_pos j with h0 | h0
    · subst h0; rfl
    · simp [Addr.add]; omega
  rw [e]
  simpa [List.getD, hl] using h2

theorem intsV_len (zs : List Int) : (intsV zs).length = zs.length := by simp [intsV]

/-- the empty list that the call makes -/
theorem own_zero (w : World) : (w.alloc (.cells #[] 3)).ownsRow w.heap.size 3 1 (.slice (some ⟨w.heap.size, 0, none⟩) 0 0) 0 [] :=
  ⟨rfl, .inr ⟨_, 0, #[], rfl, Nat.le_refl _, Bx.new w _ _, Nat.le_refl _, Nat.zero_le _, rfl, rfl⟩⟩

/-- behind a copy of a list -/
theorem app_one {w w1 : World} {v1 : Value} {n : Nat} {xs : List Value} (hown : w1.ownsRow w.heap.size 3 1 v1 (0 + n) ([] ++ xs)) (hg : (w.alloc (.cells #[] 3)).grownBy w1 (Value.ownBlock (.slice (some ⟨w.heap.size, 0, none⟩) 0 0))) :
    w1.ownsRow w.heap.size 3 1 v1 n xs ∧ Below w.heap.size w w1 := by
  refine ⟨by simpa using hown, ((Below.refl w.heap.size w).alloc (Nat.le_refl _) _).grown hg (by simp) (fun j hj => ?_)⟩
  simp [Value.ownBlock] at hj
  omega

/-- behind one number more -/
theorem app_two {w w1 w2 : World} {v1 v2 : Value} {o : List Nat} {x n : Nat} (hb : Below w.heap.size w w1) (hown1 : w1.ownsRow w.heap.size 3 1 v1 n (intsV (natsI o)))
    (hown : w2.ownsRow w.heap.size 3 1 v2 (n + 1) (intsV (natsI o) ++ [.int .i64 (x : Nat)])) (hg : (w1.alloc (.cells #[.int .i64 (x : Nat)] 3)).grownBy w2 v1.ownBlock) :
    ∃ g cap, v2 = .slice (some ⟨g, 0, none⟩) (n + 1) cap ∧ w.heap.size ≤ g ∧ LRow w2 (some ⟨g, 0, none⟩) (natsI (o ++ [x])) ∧ Below w.heap.size w w2 := by
  obtain ⟨g, cap, rfl⟩ := own_form hown
  have h2 : w2.ownsRow w.heap.size 3 1 (.slice (some ⟨g, 0, none⟩) (n + 1) cap) (n + 1) (intsV (natsI (o ++ [x]))) := by
    rw [show intsV (natsI (o ++ [x])) = intsV (natsI o) ++ [.int .i64 (x : Nat)] by simp [intsV, natsI]]
    exact hown
  refine ⟨g, cap, rfl, (hown.lt g rfl).1, LRow_of h2, (hb.alloc hb.size _).grown hg (by have := hb.size; simp; omega) (fun j hj => (hown1.lt j hj).1)⟩

theorem range_snoc (n : Nat) : List.range (n + 1) = List.range n ++ [n] := List.range_succ

/-- how many orders there are at most -/
theorem shapes_le {a b : St} (h : a.n ≤ 8) : ∀ (m : Nat) (o : List Nat), (shapes a b m o).length ≤ 8 ^ m := by
  have key : ∀ (m : Nat), (∀ o, (shapes a b m o).length ≤ 8 ^ m) → ∀ o k, (upTo a b m o k).length ≤ k * 8 ^ m := by
    intro m ih o k
    induction k with
    | zero => simp [upTo_zero]
    | succ k ihk =>
      rw [upTo_succ, List.length_append, Nat.succ_mul]
      have : (if nextB a b o k then shapes a b m (o ++ [k]) else []).length ≤ 8 ^ m := by
        split
        · exact ih _
        · simp
      omega
  intro m
  induction m with
  | zero => intro o; simp [shapes]
  | succ m ih =>
    intro o
    rw [shapes_upTo, Nat.pow_succ, Nat.mul_comm]
    exact Nat.le_trans (key m ih o a.n) (Nat.mul_le_mul_right _ h)
theorem upTo_le {a b : St} (h : a.n ≤ 8) (m : Nat) (o : List Nat) (k : Nat) : (upTo a b m o k).length ≤ k * 8 ^ m := by
  induction k with
  | zero => simp [upTo_zero]
  | succ k ihk =>
    rw [upTo_succ, List.length_append, Nat.succ_mul]
    have : (if nextB a b o k then shapes a b m (o ++ [k]) else []).length ≤ 8 ^ m := by
      split
      · exact shapes_le h _ _
      · simp
    omega
theorem pow8 {m : Nat} (h : m ≤ 8) : 8 ^ m ≤ 16777216 := Nat.pow_le_pow_right (by decide) h

end Go.Proofs.YteonanaihklgmaaDoor

namespace Go.Proofs.YteonanaihklgmaaDoor
open Go.RowKit
open Pl
set_option linter.unusedSimpArgs false
set_option linter.unusedVariables false

attribute [local go_sem ↓] Go.wp_at_zero Go.wp_at_succ

/-- a row of one's own behind a call that draws -/
theorem own_dw {W W' : World} {base rb n : Nat} {e : TypeId} {v : Value} {xs : List Value} (h : W.ownsRow base e 1 v n xs) (hg : W.grownBy W' (some rb)) (hrb : rb < base) : W'.ownsRow base e 1 v n xs := by
  obtain ⟨h1, h2⟩ := h
  refine ⟨h1, h2.imp id fun ⟨g, c, cur, hv, hb, hh, hr⟩ => ⟨g, c, cur, hv, hb, ?_, hr⟩⟩
  exact (hg.block g (Array.getElem?_eq_some_iff.1 hh).1 (by simp; omega)).trans hh
theorem own_cap {W : World} {base n g cp : Nat} {e : TypeId} {xs : List Value} (h : W.ownsRow base e 1 (.slice (some ⟨g, 0, none⟩) n cp) n xs) : n ≤ cp ∧ cp ≤ maxLen ∧ base ≤ g ∧ g < W.heap.size := by
  obtain ⟨_, ⟨h0, _⟩ | ⟨g', c, cur, hv, hb, hh, hn, hm, _⟩⟩ := h
  · cases h0
  · injection hv with h1 h2 h3
    injection h1 with h1
    injection h1 with h1
    subst h1; subst h3
    exact ⟨hn, hm, hb, (Array.getElem?_eq_some_iff.1 hh).1⟩
/-- the rest of a list, from an index on -/
theorem rest_cells {w : World} {g d : Nat} {L : List Nat} (h : LRow w (some ⟨g, 0, none⟩) (natsI L)) : ∀ j u, (intsV (natsI (L.drop d)))[j]? = some u → w.cell? ((⟨g, d, none⟩ : Addr).add j) = some u := by
  intro j u hj
  have hl : d + j < L.length := by
    have := (List.getElem?_eq_some_iff.1 hj).1
    simp [intsV, natsI] at this
    omega
  have h2 := LRow.news h (d + j) u (by
    rw [← hj]
    simp [intsV, natsI])
  have e1 : ((⟨g, d, none⟩ : Addr).add j) = ⟨g, d + j, none⟩ := by
    rcases Nat.eq_zero_or_pos j with h0 | h0
    · subst h0; rfl
    · simp [Addr.add]; omega
  have e2 : ((⟨g, 0, none⟩ : Addr).add (d + j)) = ⟨g, d + j, none⟩ := by
    rcases Nat.eq_zero_or_pos (d + j) with h0 | h0
    · rw [h0]; rfl
    · simp [Addr.add]; omega
  rw [e1, ← e2]
  exact h2

theorem own_low {w : World} {base base' n : Nat} {e : TypeId} {v : Value} {xs : List Value} (h : w.ownsRow base e 1 v n xs) (hb : base' ≤ base) : w.ownsRow base' e 1 v n xs :=
  ⟨h.1, h.2.imp (fun h => h) fun ⟨g, c, cur, h1, h2, h3⟩ => ⟨g, c, cur, h1, by omega, h3⟩⟩
theorem own_shape {w : World} {base n : Nat} {e : TypeId} {v : Value} {xs : List Value} (h : w.ownsRow base e 1 v n xs) (hn : 0 < n) : ∃ g cap, v = .slice (some ⟨g, 0, none⟩) n cap := by
  obtain ⟨_, ⟨_, h0⟩ | ⟨g, cap, _, hv, _⟩⟩ := h
  · omega
  · exact ⟨g, cap, hv⟩
theorem own_zero2 (w : World) (o : Obj) : ((w.alloc o).alloc (.cells #[] 3)).ownsRow w.heap.size 3 1 (.slice (some ⟨w.heap.size + 1, 0, none⟩) 0 0) 0 [] := by
  have h := own_zero (w.alloc o)
  rw [World.size_alloc] at h
  exact own_low h (Nat.le_succ _)
theorem take_row {w : World} {A : Option Addr} {L : List Nat} {d : Nat} (h : LRow w A (natsI L)) : LRow w A (natsI (L.take d)) := by
  have := h.take d
  unfold natsI at *
  rwa [List.map_take]
theorem next_order {W : World} {b b2 d k g cp : Nat} {L : List Nat} (hd : d ≤ L.length) (hL : L.length = k) (hlt : ∀ x ∈ L, x < k) (hnd : L.Nodup) (hb : b ≤ b2)
    (h : W.ownsRow b2 3 1 (.slice (some ⟨g, 0, none⟩) (d + 1 + (L.length - d)) cp) (d + 1 + (L.length - d)) ((intsV (natsI (L.take d))) ++ [.int .i64 (k : Nat)] ++ (intsV (natsI (L.drop d))))) :
    W.ownsRow b 3 1 (.slice (some ⟨g, 0, none⟩) (L.take d ++ k :: L.drop d).length cp) (L.take d ++ k :: L.drop d).length (intsV (natsI (L.take d ++ k :: L.drop d))) ∧ (L.take d ++ k :: L.drop d).length = k + 1 ∧ (∀ x ∈ L.take d ++ k :: L.drop d, x < k + 1) ∧ (L.take d ++ k :: L.drop d).Nodup := by
  have hn : (L.take d ++ k :: L.drop d).length = d + 1 + (L.length - d) := by simp; omega
  have hp : (L.take d ++ k :: L.drop d).Perm (k :: L) := by
    have := List.perm_middle (a := k) (l₁ := L.take d) (l₂ := L.drop d)
    rwa [List.take_append_drop] at this
  refine ⟨?_, by rw [hn]; omega, fun x hx => ?_, ?_⟩
  · rw [hn]
    have e : intsV (natsI (L.take d ++ k :: L.drop d)) = (intsV (natsI (L.take d))) ++ [.int .i64 (k : Nat)] ++ (intsV (natsI (L.drop d))) := by simp [intsV, natsI]
    rw [e]
    exact own_low h hb
  · rcases List.mem_cons.1 (hp.mem_iff.1 hx) with rfl | h2
    · omega
    · have := hlt x h2; omega
  · rw [hp.nodup_iff]
    exact List.nodup_cons.2 ⟨fun h2 => by have := hlt k h2; omega, hnd⟩

theorem next_order0 {W : World} {b b2 d k g cp : Nat} {L : List Nat} (hd : L.length = d) (hL : L.length = k) (hlt : ∀ x ∈ L, x < k) (hnd : L.Nodup) (hb : b ≤ b2)
    (h : W.ownsRow b2 3 1 (.slice (some ⟨g, 0, none⟩) (d + 1 + 0) cp) (d + 1 + 0) ((intsV (natsI (L.take d))) ++ [.int .i64 (k : Nat)] ++ [])) :
    W.ownsRow b 3 1 (.slice (some ⟨g, 0, none⟩) (L.take d ++ k :: L.drop d).length cp) (L.take d ++ k :: L.drop d).length (intsV (natsI (L.take d ++ k :: L.drop d))) ∧ (L.take d ++ k :: L.drop d).length = k + 1 ∧ (∀ x ∈ L.take d ++ k :: L.drop d, x < k + 1) ∧ (L.take d ++ k :: L.drop d).Nodup := by
  refine next_order (by omega) hL hlt hnd hb ?_
  have e : L.length - d = 0 := by omega
  have e2 : (intsV (natsI (L.drop d))) = [] := by rw [List.drop_of_length_le (by omega)]; rfl
  rw [e, e2]
  exact h

/-- an order that is drawn -/
def ShufS (w : World) (rb : Nat) (A : Option Addr) (n cap p m : Nat) (e : Ending) (w' : World) : Prop := ∃ (L : List Nat) (g cp : Nat), e = .returned (.slice (some ⟨g, 0, none⟩) L.length cp) ∧ L.length = m ∧ (∀ x ∈ L, x < m) ∧ L.Nodup ∧
  w'.ownsRow w.heap.size 3 1 (.slice (some ⟨g, 0, none⟩) L.length cp) L.length (intsV (natsI L)) ∧ Rd w' rb A n cap (p + m)

end Go.Proofs.YteonanaihklgmaaDoor

namespace Go.Proofs.YteonanaihklgmaaDoor
open Go.RowKit
open Pl
set_option linter.unusedSimpArgs false
set_option linter.unusedVariables false

attribute [local go_sem ↓] Go.wp_at_zero Go.wp_at_succ

/-- the reader where a row of another block grows -/
theorem Rd.app {V V' : World} {rb n cap p : Nat} {A : Option Addr} {row : Option Nat} (h : Rd V rb A n cap p) (hg : V.grownBy V' row) (hr : ∀ j, row = some j → rb < j) : Rd V' rb A n cap p := by
  have hlt := h.box.lt
  refine ⟨h.box.grown' hg (fun e => by have := hr rb e.symm; omega), ?_, h.small, h.sep⟩
  intro h0
  obtain ⟨x, rfl, hc⟩ := h.row h0
  have hx := h.sep h0 x rfl
  refine ⟨x, rfl, fun i hi => ?_⟩
  obtain ⟨b, hb, hcell⟩ := hc i hi
  refine ⟨b, hb, ?_⟩
  rw [← hcell]
  have hbl : (x.add i).block = x.block := by unfold Addr.add; split <;> rfl
  exact World.cell?_of_block (by rw [hbl]; exact hg.block x.block (by omega) (fun e => by have := hr x.block e.symm; omega))
theorem Fr.app {w V V' : World} {rb n cap p : Nat} {A : Option Addr} {row : Option Nat} (h : Fr w rb A n cap p V) (hg : V.grownBy V' row) (hr : ∀ j, row = some j → rb < j) : Fr w rb A n cap p V' :=
  ⟨h.rd.app hg hr, h.bel.grown hg h.bel.size (fun j hj => by have := hr j hj; have := h.rge; omega), h.rge⟩
/-- the first of a row -/
theorem own_first {W : World} {base n n' g cp : Nat} {e : TypeId} {xs : List Value} (h : W.ownsRow base e 1 (.slice (some ⟨g, 0, none⟩) n cp) n xs) (hn : n' ≤ n) : W.ownsRow base e 1 (.slice (some ⟨g, 0, none⟩) n' cp) n' (xs.take n') := by
  obtain ⟨h1, ⟨h0, _⟩ | ⟨g', c, cur, hv, hb, hh, hle, hm, hs, hx⟩⟩ := h
  · cases h0
  · refine ⟨by rw [List.length_take, h1]; omega, .inr ⟨g', c, cur, ?_, hb, hh, ?_, hm, hs, ?_⟩⟩
    · injection hv with e1 e2 e3
      rw [e1, e3]
    · omega
    · rw [← hx, List.take_take]
      congr 1
      omega
theorem intsV_take (zs : List Int) (k : Nat) : (intsV zs).take k = intsV (zs.take k) := by unfold intsV; rw [List.map_take]

/-- a structure and some numbers that are drawn -/
def StL (e : Ending) (w' : World) : Prop := ∃ (i : Int) (s r : ByteArray) (zs : List Int) (A : Option Addr) (c : Nat), e = .returned (.tuple #[stV i s r, .slice A zs.length c]) ∧ s.size ≤ 100 ∧ r.size ≤ 100 ∧ zs.length ≤ 10 ∧ zs.length ≤ c ∧ LRow w' A zs

end Go.Proofs.YteonanaihklgmaaDoor
