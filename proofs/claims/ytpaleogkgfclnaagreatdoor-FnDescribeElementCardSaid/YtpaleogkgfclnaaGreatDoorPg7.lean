/-
  Laws of the functions that the claim reaches, one after the other (packed by a program of the prover's: Placed, EachA, App, Holds2, Val, Holds3, HAt). Conditions: texts below the reach.
-/
import Derived.Test.YtpaleogkgfclnaaGreatDoorPg6
import Derived.Deep.DrawnRows
import Derived.Test.YtpaleogkgfclnaaGreatDoorPg0
import Derived.Maps.AppendAt
import Derived.Test.YtpaleogkgfclnaaGreatDoorPg2
import Derived.Test.YtpaleogkgfclnaaGreatDoorPg4
import Derived.Laws.CopyOwn
import Derived.Test.YtpaleogkgfclnaaGreatDoorPg3
set_option linter.unusedSimpArgs false
set_option linter.unusedVariables false

namespace Go.Proofs.YtpaleogkgfclnaaGreatDoor
open Go.RowKit
open Pl
set_option linter.unusedSimpArgs false
set_option linter.unusedVariables false
attribute [local go_sem ↓] Go.wp_at_zero Go.wp_at_succ

/-- two boxes behind a call -/
def Two (w W : World) (ca cb : Array Value) : Prop := Bx W w.heap.size 24 ca ∧ Bx W (w.heap.size + 1) 24 cb
theorem Two.call {w W W' : World} {ca cb : Array Value} (h : Two w W ca cb) (hb : Below W.heap.size W W') : Two w W' ca cb := ⟨h.1.call hb, h.2.call hb⟩
theorem Two.drew {w W : World} {ca cb : Array Value} (h : Two w W ca cb) : Two w W.drew ca cb := h
theorem Two.six {w W : World} {a b c d e f : Value} (h : Two w W #[a, b, c] #[d, e, f]) : W.cell? ⟨w.heap.size, 0, none⟩ = some a ∧ W.cell? ⟨w.heap.size, 1, none⟩ = some b ∧ W.cell? ⟨w.heap.size, 2, none⟩ = some c ∧ W.cell? ⟨w.heap.size + 1, 0, none⟩ = some d ∧ W.cell? ⟨w.heap.size + 1, 1, none⟩ = some e ∧ W.cell? ⟨w.heap.size + 1, 2, none⟩ = some f :=
  ⟨h.1.cell 0, h.1.cell 1, h.1.cell 2, h.2.cell 0, h.2.cell 1, h.2.cell 2⟩

/-- what the k-th element before says -/
def fitAt (a b : St) (o : List Nat) (x k : Nat) : Bool := a.inR x (o.getD k 0) == b.inR o.length k && a.inR (o.getD k 0) x == b.inR k o.length

theorem fitsB_eq (a b : St) (o : List Nat) (x : Nat) : fitsB a b o x = (a.inS x == b.inS o.length && a.inR x x == b.inR o.length o.length && (List.range o.length).all (fitAt a b o x)) := rfl

theorem all_upto {p : Nat → Bool} {n : Nat} (h : ∀ k, k < n → p k = true) : (List.range n).all p = true := List.all_eq_true.2 fun k hk => h k (List.mem_range.1 hk)
theorem all_not {p : Nat → Bool} {n k : Nat} (hk : k < n) (h : p k = false) : (List.range n).all p = false := by
  rw [Bool.eq_false_iff]; intro e
  have := List.all_eq_true.1 e k (List.mem_range.2 hk)
  rw [h] at this; cases this

set_option maxHeartbeats 4000000 in
set_option maxRecDepth 100000 in
theorem placed_calls (a b : St) (ha : a.ok) (hb : b.ok) (hab : a.n = b.n) (o : List Nat) (ho : ∀ y ∈ o, y < a.n) (hl : o.length < a.n) (x : Nat) (hx : x < a.n) (A : Option Addr) (cap : Nat) (w : World) (hA : LRow w A (natsI o)) :
    Calls Tryz.prog 63 #[stA a, stA b, .slice A o.length cap, .int .i64 x] w fun e w' => e = .returned (.bool (fitsB a b o x)) ∧ Below w.heap.size w w' := by
  have hn8 := ha.hi
  have hlt : ∀ k, k < o.length → o.getD k 0 < a.n := fun k hk => getD_lt ho hk
  have s1 : ∀ W, Calls Tryz.prog 71 #[stV (a.n : Int) (bs a.set) (bs a.rel), .int .i64 x] W fun e w' => e = .returned (.bool (a.inS x)) ∧ Below W.heap.size W w' := fun W => inSet_calls a ha x hx W
  have s2 : ∀ W, Calls Tryz.prog 71 #[stV (b.n : Int) (bs b.set) (bs b.rel), .int .i64 o.length] W fun e w' => e = .returned (.bool (b.inS o.length)) ∧ Below W.heap.size W w' := fun W => inSet_calls b hb o.length (by omega) W
  have r1 : ∀ W, Calls Tryz.prog 73 #[stV (a.n : Int) (bs a.set) (bs a.rel), .int .i64 x, .int .i64 x] W fun e w' => e = .returned (.bool (a.inR x x)) ∧ Below W.heap.size W w' := fun W => inRel_calls a ha x x hx hx W
  have r2 : ∀ W, Calls Tryz.prog 73 #[stV (b.n : Int) (bs b.set) (bs b.rel), .int .i64 o.length, .int .i64 o.length] W fun e w' => e = .returned (.bool (b.inR o.length o.length)) ∧ Below W.heap.size W w' := fun W => inRel_calls b hb o.length o.length (by omega) (by omega) W
  have t1 : ∀ k, k < o.length → ∀ W, Calls Tryz.prog 73 #[stV (a.n : Int) (bs a.set) (bs a.rel), .int .i64 x, .int .i64 (o.getD k 0 : Nat)] W fun e w' => e = .returned (.bool (a.inR x (o.getD k 0))) ∧ Below W.heap.size W w' := fun k hk W => inRel_calls a ha x _ hx (hlt k hk) W
  have t2 : ∀ k, k < o.length → ∀ W, Calls Tryz.prog 73 #[stV (b.n : Int) (bs b.set) (bs b.rel), .int .i64 o.length, .int .i64 k] W fun e w' => e = .returned (.bool (b.inR o.length k)) ∧ Below W.heap.size W w' := fun k hk W => inRel_calls b hb o.length k (by omega) (by omega) W
  have t3 : ∀ k, k < o.length → ∀ W, Calls Tryz.prog 73 #[stV (a.n : Int) (bs a.set) (bs a.rel), .int .i64 (o.getD k 0 : Nat), .int .i64 x] W fun e w' => e = .returned (.bool (a.inR (o.getD k 0) x)) ∧ Below W.heap.size W w' := fun k hk W => inRel_calls a ha _ x (hlt k hk) hx W
  have t4 : ∀ k, k < o.length → ∀ W, Calls Tryz.prog 73 #[stV (b.n : Int) (bs b.set) (bs b.rel), .int .i64 k, .int .i64 o.length] W fun e w' => e = .returned (.bool (b.inR k o.length)) ∧ Below W.heap.size W w' := fun k hk W => inRel_calls b hb k o.length (by omega) (by omega) W
  have hfe := fitsB_eq a b o x
  have hfa : ∀ k, fitAt a b o x k = (a.inR x (o.getD k 0) == b.inR o.length k && a.inR (o.getD k 0) x == b.inR k o.length) := fun k => rfl
  obtain ⟨V, hV⟩ : ∃ V, V = fitsB a b o x := ⟨_, rfl⟩
  rw [← hV] at hfe ⊢
  have hL : ∀ k W, k < o.length → Below w.heap.size w W → ∃ g, A = some ⟨g, 0, none⟩ ∧ W.cell? ⟨g, k, none⟩ = some (.int .i64 ((o.getD k 0 : Nat) : Int)) := fun k W hk hW => (hA.call hW).nats hk
  obtain ⟨d, hd⟩ : ∃ d : Nat → Nat, d = fun k => o.getD k 0 := ⟨_, rfl⟩
  have hdd : ∀ k, o.getD k 0 = d k := fun k => by rw [hd]
  simp only [hdd] at t1 t3 hfa hL
  generalize fitAt a b o x = fa at hfe hfa
  generalize a.inS x = p1 at s1 hfe
  generalize b.inS o.length = p2 at s2 hfe
  generalize a.inR x x = q1 at r1 hfe
  generalize b.inR o.length o.length = q2 at r2 hfe
  obtain ⟨A1, hA1⟩ : ∃ A1 : Nat → Bool, A1 = fun k => a.inR x (d k) := ⟨_, rfl⟩
  obtain ⟨A2, hA2⟩ : ∃ A2 : Nat → Bool, A2 = fun k => b.inR o.length k := ⟨_, rfl⟩
  obtain ⟨A3, hA3⟩ : ∃ A3 : Nat → Bool, A3 = fun k => a.inR (d k) x := ⟨_, rfl⟩
  obtain ⟨A4, hA4⟩ : ∃ A4 : Nat → Bool, A4 = fun k => b.inR k o.length := ⟨_, rfl⟩
  have e1 : ∀ k, a.inR x (d k) = A1 k := fun k => by rw [hA1]
  have e2 : ∀ k, b.inR o.length k = A2 k := fun k => by rw [hA2]
  have e3 : ∀ k, a.inR (d k) x = A3 k := fun k => by rw [hA3]
  have e4 : ∀ k, b.inR k o.length = A4 k := fun k => by rw [hA4]
  simp only [e1, e2, e3, e4] at t1 t2 t3 t4 hfa
  have S1 := Lib.hid s1
  have S2 := Lib.hid s2
  have R1 := Lib.hid r1
  have R2 := Lib.hid r2
  have T1 := Lib.hid t1
  have T2 := Lib.hid t2
  have T3 := Lib.hid t3
  have T4 := Lib.hid t4
  have HL := Lib.hid hL
  have Hfe := Lib.hid hfe
  have Hfa := Lib.hid hfa
  clear hA s1 s2 r1 r2 t1 t2 t3 t4 hL hfe hfa hd hdd hA1 hA2 hA3 hA4 e1 e2 e3 e4 hlt ho hV hb ha hab
  show Calls Tryz.prog 63 #[stV (a.n : Int) (bs a.set) (bs a.rel), stV (b.n : Int) (bs b.set) (bs b.rel), .slice A o.length cap, .int .i64 x] w _
  generalize o.length = n at *
  generalize a.n = na at *
  generalize b.n = nb at *
  generalize bs a.set = SA at *
  generalize bs a.rel = RA at *
  generalize bs b.set = SB at *
  generalize bs b.rel = RB at *
  have X0 := Lib.hid (show Two w ((w.alloc (.cells #[.int .i64 na, .string SA, .string RA] 24)).alloc (.cells #[.int .i64 nb, .string SB, .string RB] 24)) #[.int .i64 na, .string SA, .string RA] #[.int .i64 nb, .string SB, .string RB] from ⟨(Bx.new w _ _).alloc _, bx_two w _ _⟩)
  have B0 := Lib.hid (((Below.refl w.heap.size w).alloc (Nat.le_refl _) (.cells #[.int .i64 na, .string SA, .string RA] 24)).alloc (by simp) (.cells #[.int .i64 nb, .string SB, .string RB] 24))
  go_enter Tryz.func63, Tryz.ntmps63
  go_wp2_with fail
  cases hne : (p1 != p2)
  case true =>
    refine wp_region_held_drew (S := (fun w' : World => w'.cell? ⟨w.heap.size, 0, none⟩ = some (.int .i64 na) ∧ w'.cell? ⟨w.heap.size, 1, none⟩ = some (.string SA) ∧ w'.cell? ⟨w.heap.size, 2, none⟩ = some (.string RA) ∧ w'.cell? ⟨w.heap.size + 1, 0, none⟩ = some (.int .i64 nb) ∧ w'.cell? ⟨w.heap.size + 1, 1, none⟩ = some (.string SB) ∧ w'.cell? ⟨w.heap.size + 1, 2, none⟩ = some (.string RB))) (by kernel_rfl) ?_ (fun hHeld => ?_)
    · exact X0.out.drew.six
    refine wpAnyH_take (i := 0) (oi := _) (v := ?_) rfl (by kernel_rfl) (by kernel_rfl) (by kernel_rfl) (fun _ _ _ h => h) (Or.inl ⟨by rfl, ?_⟩) (by assumption) ?_
    rotate_left
    · intro w hSw
      (try dsimp only at hSw)
      go_simp
      try with_reducible rfl
    try simp only [Act.put, List.getElem_toArray, List.getElem_cons_succ, List.getElem_cons_zero, List.setIfInBounds_toArray, List.set_cons_zero, List.set_cons_succ]
    refine wpAnyH_take (i := 1) (oi := _) (v := ?_) rfl (by kernel_rfl) (by kernel_rfl) (by kernel_rfl) (fun _ _ _ h => h) (Or.inl ⟨by rfl, ?_⟩) (by assumption) ?_
    rotate_left
    · intro w hSw
      (try dsimp only at hSw)
      go_simp
      try with_reducible rfl
    try simp only [Act.put, List.getElem_toArray, List.getElem_cons_succ, List.getElem_cons_zero, List.setIfInBounds_toArray, List.set_cons_zero, List.set_cons_succ]
    refine wpAnyH_take (i := 3) (oi := _) (v := ?_) rfl (by kernel_rfl) (by kernel_rfl) (by kernel_rfl) (fun _ _ _ h => h) (Or.inl ⟨by rfl, ?_⟩) (by assumption) ?_
    rotate_left
    · intro w hSw
      (try dsimp only at hSw)
      go_simp
      try with_reducible rfl
    try simp only [Act.put, List.getElem_toArray, List.getElem_cons_succ, List.getElem_cons_zero, List.setIfInBounds_toArray, List.set_cons_zero, List.set_cons_succ]
    refine wpAnyH_take (i := 4) (oi := _) (v := ?_) rfl (by kernel_rfl) (by kernel_rfl) (by kernel_rfl) (fun _ _ _ h => h) (Or.inl ⟨by rfl, ?_⟩) (by assumption) ?_
    rotate_left
    · intro w hSw
      (try dsimp only at hSw)
      go_simp
      try with_reducible rfl
    try simp only [Act.put, List.getElem_toArray, List.getElem_cons_succ, List.getElem_cons_zero, List.setIfInBounds_toArray, List.set_cons_zero, List.set_cons_succ]
    refine wpAnyH_ready (rs := [2]) (by kernel_rfl) (by simp) ?_
    refine AllReadyH.cons (o := _) rfl (fun K hK => ?_) AllReadyH.nil
    simp only [List.getElem_toArray, List.getElem_cons_succ, List.getElem_cons_zero]
    go_simp
    refine (S1.out _).mono ?_
    rintro e w1 ⟨rfl, hz⟩
    have X1 := Lib.hid (X0.out.drew.call hz)
    have B1 := Lib.hid (B0.out.drew.trans (hz.mono B0.out.drew.size))
    clear hz
    go_wp2_with fail
    refine hK.out _ _ ?_ (fun hHeld => ?_)
    · exact X1.out.six
    clear hK K
    try simp only [Act.put, List.getElem_toArray, List.getElem_cons_succ, List.getElem_cons_zero, List.setIfInBounds_toArray, List.set_cons_zero, List.set_cons_succ]
    refine wpAnyH_ready (rs := [5]) (by kernel_rfl) (by simp) ?_
    refine AllReadyH.cons (o := _) rfl (fun K hK => ?_) AllReadyH.nil
    simp only [List.getElem_toArray, List.getElem_cons_succ, List.getElem_cons_zero]
    go_simp
    refine (S2.out _).mono ?_
    rintro e w2 ⟨rfl, hz⟩
    have X2 := Lib.hid (X1.out.call hz)
    have B2 := Lib.hid (B1.out.trans (hz.mono B1.out.size))
    clear hz
    go_wp2_with fail
    refine hK.out _ _ ?_ (fun hHeld => ?_)
    · exact X2.out.six
    clear hK K
    try simp only [Act.put, List.getElem_toArray, List.getElem_cons_succ, List.getElem_cons_zero, List.setIfInBounds_toArray, List.set_cons_zero, List.set_cons_succ]
    refine wpAnyH_take (i := 6) (oi := _) (v := .bool true) rfl (by kernel_rfl) (by kernel_rfl) (by kernel_rfl) (fun _ _ _ h => h) (Or.inl ⟨by rfl, ?_⟩) (by assumption) ?_
    · intro w hSw
      (try dsimp only at hSw)
      go_simp
      (try simpa using hne)
    try simp only [Act.put, List.getElem_toArray, List.getElem_cons_succ, List.getElem_cons_zero, List.setIfInBounds_toArray, List.set_cons_zero, List.set_cons_succ]
    refine wpAnyH_take (i := 7) (oi := _) (v := ?_) rfl (by kernel_rfl) (by kernel_rfl) (by kernel_rfl) (fun _ _ _ h => h) (Or.inl ⟨by rfl, ?_⟩) (by assumption) ?_
    rotate_left
    · intro w hSw
      (try dsimp only at hSw)
      go_simp
      try with_reducible rfl
    try simp only [Act.put, List.getElem_toArray, List.getElem_cons_succ, List.getElem_cons_zero, List.setIfInBounds_toArray, List.set_cons_zero, List.set_cons_succ]
    refine wpAnyH_take (i := 8) (oi := _) (v := undef) rfl (by kernel_rfl) (by kernel_rfl) (by kernel_rfl) (fun _ _ _ h => h) (Or.inr ⟨by rfl, by rfl⟩) (by assumption) ?_
    try simp only [Act.put, List.getElem_toArray, List.getElem_cons_succ, List.getElem_cons_zero, List.setIfInBounds_toArray, List.set_cons_zero, List.set_cons_succ]
    refine wpAnyH_take (i := 9) (oi := _) (v := undef) rfl (by kernel_rfl) (by kernel_rfl) (by kernel_rfl) (fun _ _ _ h => h) (Or.inr ⟨by rfl, by rfl⟩) (by assumption) ?_
    try simp only [Act.put, List.getElem_toArray, List.getElem_cons_succ, List.getElem_cons_zero, List.setIfInBounds_toArray, List.set_cons_zero, List.set_cons_succ]
    refine wpAnyH_take (i := 10) (oi := _) (v := undef) rfl (by kernel_rfl) (by kernel_rfl) (by kernel_rfl) (fun _ _ _ h => h) (Or.inr ⟨by rfl, by rfl⟩) (by assumption) ?_
    try simp only [Act.put, List.getElem_toArray, List.getElem_cons_succ, List.getElem_cons_zero, List.setIfInBounds_toArray, List.set_cons_zero, List.set_cons_succ]
    refine wpAnyH_take (i := 11) (oi := _) (v := undef) rfl (by kernel_rfl) (by kernel_rfl) (by kernel_rfl) (fun _ _ _ h => h) (Or.inr ⟨by rfl, by rfl⟩) (by assumption) ?_
    try simp only [Act.put, List.getElem_toArray, List.getElem_cons_succ, List.getElem_cons_zero, List.setIfInBounds_toArray, List.set_cons_zero, List.set_cons_succ]
    refine wpAnyH_take (i := 12) (oi := _) (v := undef) rfl (by kernel_rfl) (by kernel_rfl) (by kernel_rfl) (fun _ _ _ h => h) (Or.inr ⟨by rfl, by rfl⟩) (by assumption) ?_
    try simp only [Act.put, List.getElem_toArray, List.getElem_cons_succ, List.getElem_cons_zero, List.setIfInBounds_toArray, List.set_cons_zero, List.set_cons_succ]
    refine wpAnyH_take (i := 13) (oi := _) (v := undef) rfl (by kernel_rfl) (by kernel_rfl) (by kernel_rfl) (fun _ _ _ h => h) (Or.inr ⟨by rfl, by rfl⟩) (by assumption) ?_
    try simp only [Act.put, List.getElem_toArray, List.getElem_cons_succ, List.getElem_cons_zero, List.setIfInBounds_toArray, List.set_cons_zero, List.set_cons_succ]
    refine wpAnyH_take (i := 14) (oi := _) (v := undef) rfl (by kernel_rfl) (by kernel_rfl) (by kernel_rfl) (fun _ _ _ h => h) (Or.inr ⟨by rfl, by rfl⟩) (by assumption) ?_
    try simp only [Act.put, List.getElem_toArray, List.getElem_cons_succ, List.getElem_cons_zero, List.setIfInBounds_toArray, List.set_cons_zero, List.set_cons_succ]
    refine wpAnyH_take (i := 15) (oi := _) (v := undef) rfl (by kernel_rfl) (by kernel_rfl) (by kernel_rfl) (fun _ _ _ h => h) (Or.inr ⟨by rfl, by rfl⟩) (by assumption) ?_
    try simp only [Act.put, List.getElem_toArray, List.getElem_cons_succ, List.getElem_cons_zero, List.setIfInBounds_toArray, List.set_cons_zero, List.set_cons_succ]
    refine wpAnyH_take (i := 16) (oi := _) (v := undef) rfl (by kernel_rfl) (by kernel_rfl) (by kernel_rfl) (fun _ _ _ h => h) (Or.inr ⟨by rfl, by rfl⟩) (by assumption) ?_
    try simp only [Act.put, List.getElem_toArray, List.getElem_cons_succ, List.getElem_cons_zero, List.setIfInBounds_toArray, List.set_cons_zero, List.set_cons_succ]
    refine wpAnyH_take (i := 17) (oi := _) (v := ?_) rfl (by kernel_rfl) (by kernel_rfl) (by kernel_rfl) (fun _ _ _ h => h) (Or.inl ⟨by rfl, ?_⟩) (by assumption) ?_
    rotate_left
    · intro w hSw
      (try dsimp only at hSw)
      go_simp
      try with_reducible rfl
    try simp only [Act.put, List.getElem_toArray, List.getElem_cons_succ, List.getElem_cons_zero, List.setIfInBounds_toArray, List.set_cons_zero, List.set_cons_succ]
    refine wpAnyH_done (by kernel_rfl) ?_ _
    have hv : V = false := by rw [Hfe.out, show (p1 == p2) = false by simpa [bne] using hne]; rfl
    have Hv := Lib.hid hv
    clear hv
    go_wp2_with fail
    go_ret
    exact ⟨by rw [Hv.out]; try rfl, B2.out⟩
  case false =>
    cases hnq : (q1 != q2)
    case true =>
      refine wp_region_held_drew (S := (fun w' : World => w'.cell? ⟨w.heap.size, 0, none⟩ = some (.int .i64 na) ∧ w'.cell? ⟨w.heap.size, 1, none⟩ = some (.string SA) ∧ w'.cell? ⟨w.heap.size, 2, none⟩ = some (.string RA) ∧ w'.cell? ⟨w.heap.size + 1, 0, none⟩ = some (.int .i64 nb) ∧ w'.cell? ⟨w.heap.size + 1, 1, none⟩ = some (.string SB) ∧ w'.cell? ⟨w.heap.size + 1, 2, none⟩ = some (.string RB))) (by kernel_rfl) ?_ (fun hHeld => ?_)
      · exact X0.out.drew.six
      refine wpAnyH_take (i := 0) (oi := _) (v := ?_) rfl (by kernel_rfl) (by kernel_rfl) (by kernel_rfl) (fun _ _ _ h => h) (Or.inl ⟨by rfl, ?_⟩) (by assumption) ?_
      rotate_left
      · intro w hSw
        (try dsimp only at hSw)
        go_simp
        try with_reducible rfl
      try simp only [Act.put, List.getElem_toArray, List.getElem_cons_succ, List.getElem_cons_zero, List.setIfInBounds_toArray, List.set_cons_zero, List.set_cons_succ]
      refine wpAnyH_take (i := 1) (oi := _) (v := ?_) rfl (by kernel_rfl) (by kernel_rfl) (by kernel_rfl) (fun _ _ _ h => h) (Or.inl ⟨by rfl, ?_⟩) (by assumption) ?_
      rotate_left
      · intro w hSw
        (try dsimp only at hSw)
        go_simp
        try with_reducible rfl
      try simp only [Act.put, List.getElem_toArray, List.getElem_cons_succ, List.getElem_cons_zero, List.setIfInBounds_toArray, List.set_cons_zero, List.set_cons_succ]
      refine wpAnyH_take (i := 3) (oi := _) (v := ?_) rfl (by kernel_rfl) (by kernel_rfl) (by kernel_rfl) (fun _ _ _ h => h) (Or.inl ⟨by rfl, ?_⟩) (by assumption) ?_
      rotate_left
      · intro w hSw
        (try dsimp only at hSw)
        go_simp
        try with_reducible rfl
      try simp only [Act.put, List.getElem_toArray, List.getElem_cons_succ, List.getElem_cons_zero, List.setIfInBounds_toArray, List.set_cons_zero, List.set_cons_succ]
      refine wpAnyH_take (i := 4) (oi := _) (v := ?_) rfl (by kernel_rfl) (by kernel_rfl) (by kernel_rfl) (fun _ _ _ h => h) (Or.inl ⟨by rfl, ?_⟩) (by assumption) ?_
      rotate_left
      · intro w hSw
        (try dsimp only at hSw)
        go_simp
        try with_reducible rfl
      try simp only [Act.put, List.getElem_toArray, List.getElem_cons_succ, List.getElem_cons_zero, List.setIfInBounds_toArray, List.set_cons_zero, List.set_cons_succ]
      refine wpAnyH_ready (rs := [2]) (by kernel_rfl) (by simp) ?_
      refine AllReadyH.cons (o := _) rfl (fun K hK => ?_) AllReadyH.nil
      simp only [List.getElem_toArray, List.getElem_cons_succ, List.getElem_cons_zero]
      go_simp
      refine (S1.out _).mono ?_
      rintro e w1 ⟨rfl, hz⟩
      have X1 := Lib.hid (X0.out.drew.call hz)
      have B1 := Lib.hid (B0.out.drew.trans (hz.mono B0.out.drew.size))
      clear hz
      go_wp2_with fail
      refine hK.out _ _ ?_ (fun hHeld => ?_)
      · exact X1.out.six
      clear hK K
      try simp only [Act.put, List.getElem_toArray, List.getElem_cons_succ, List.getElem_cons_zero, List.setIfInBounds_toArray, List.set_cons_zero, List.set_cons_succ]
      refine wpAnyH_ready (rs := [5]) (by kernel_rfl) (by simp) ?_
      refine AllReadyH.cons (o := _) rfl (fun K hK => ?_) AllReadyH.nil
      simp only [List.getElem_toArray, List.getElem_cons_succ, List.getElem_cons_zero]
      go_simp
      refine (S2.out _).mono ?_
      rintro e w2 ⟨rfl, hz⟩
      have X2 := Lib.hid (X1.out.call hz)
      have B2 := Lib.hid (B1.out.trans (hz.mono B1.out.size))
      clear hz
      go_wp2_with fail
      refine hK.out _ _ ?_ (fun hHeld => ?_)
      · exact X2.out.six
      clear hK K
      try simp only [Act.put, List.getElem_toArray, List.getElem_cons_succ, List.getElem_cons_zero, List.setIfInBounds_toArray, List.set_cons_zero, List.set_cons_succ]
      refine wpAnyH_take (i := 6) (oi := _) (v := .bool false) rfl (by kernel_rfl) (by kernel_rfl) (by kernel_rfl) (fun _ _ _ h => h) (Or.inl ⟨by rfl, ?_⟩) (by assumption) ?_
      · intro w hSw
        (try dsimp only at hSw)
        go_simp
        (try simpa using hne)
      try simp only [Act.put, List.getElem_toArray, List.getElem_cons_succ, List.getElem_cons_zero, List.setIfInBounds_toArray, List.set_cons_zero, List.set_cons_succ]
      refine wpAnyH_take (i := 7) (oi := _) (v := ?_) rfl (by kernel_rfl) (by kernel_rfl) (by kernel_rfl) (fun _ _ _ h => h) (Or.inl ⟨by rfl, ?_⟩) (by assumption) ?_
      rotate_left
      · intro w hSw
        (try dsimp only at hSw)
        go_simp
        try with_reducible rfl
      try simp only [Act.put, List.getElem_toArray, List.getElem_cons_succ, List.getElem_cons_zero, List.setIfInBounds_toArray, List.set_cons_zero, List.set_cons_succ]
      refine wpAnyH_take (i := 8) (oi := _) (v := ?_) rfl (by kernel_rfl) (by kernel_rfl) (by kernel_rfl) (fun _ _ _ h => h) (Or.inl ⟨by rfl, ?_⟩) (by assumption) ?_
      rotate_left
      · intro w hSw
        (try dsimp only at hSw)
        go_simp
        try with_reducible rfl
      try simp only [Act.put, List.getElem_toArray, List.getElem_cons_succ, List.getElem_cons_zero, List.setIfInBounds_toArray, List.set_cons_zero, List.set_cons_succ]
      refine wpAnyH_take (i := 9) (oi := _) (v := ?_) rfl (by kernel_rfl) (by kernel_rfl) (by kernel_rfl) (fun _ _ _ h => h) (Or.inl ⟨by rfl, ?_⟩) (by assumption) ?_
      rotate_left
      · intro w hSw
        (try dsimp only at hSw)
        go_simp
        try with_reducible rfl
      try simp only [Act.put, List.getElem_toArray, List.getElem_cons_succ, List.getElem_cons_zero, List.setIfInBounds_toArray, List.set_cons_zero, List.set_cons_succ]
      refine wpAnyH_take (i := 10) (oi := _) (v := ?_) rfl (by kernel_rfl) (by kernel_rfl) (by kernel_rfl) (fun _ _ _ h => h) (Or.inl ⟨by rfl, ?_⟩) (by assumption) ?_
      rotate_left
      · intro w hSw
        (try dsimp only at hSw)
        go_simp
        try with_reducible rfl
      try simp only [Act.put, List.getElem_toArray, List.getElem_cons_succ, List.getElem_cons_zero, List.setIfInBounds_toArray, List.set_cons_zero, List.set_cons_succ]
      refine wpAnyH_take (i := 12) (oi := _) (v := ?_) rfl (by kernel_rfl) (by kernel_rfl) (by kernel_rfl) (fun _ _ _ h => h) (Or.inl ⟨by rfl, ?_⟩) (by assumption) ?_
      rotate_left
      · intro w hSw
        (try dsimp only at hSw)
        go_simp
        try with_reducible rfl
      try simp only [Act.put, List.getElem_toArray, List.getElem_cons_succ, List.getElem_cons_zero, List.setIfInBounds_toArray, List.set_cons_zero, List.set_cons_succ]
      refine wpAnyH_take (i := 13) (oi := _) (v := ?_) rfl (by kernel_rfl) (by kernel_rfl) (by kernel_rfl) (fun _ _ _ h => h) (Or.inl ⟨by rfl, ?_⟩) (by assumption) ?_
      rotate_left
      · intro w hSw
        (try dsimp only at hSw)
        go_simp
        try with_reducible rfl
      try simp only [Act.put, List.getElem_toArray, List.getElem_cons_succ, List.getElem_cons_zero, List.setIfInBounds_toArray, List.set_cons_zero, List.set_cons_succ]
      refine wpAnyH_take (i := 14) (oi := _) (v := ?_) rfl (by kernel_rfl) (by kernel_rfl) (by kernel_rfl) (fun _ _ _ h => h) (Or.inl ⟨by rfl, ?_⟩) (by assumption) ?_
      rotate_left
      · intro w hSw
        (try dsimp only at hSw)
        go_simp
        try with_reducible rfl
      try simp only [Act.put, List.getElem_toArray, List.getElem_cons_succ, List.getElem_cons_zero, List.setIfInBounds_toArray, List.set_cons_zero, List.set_cons_succ]
      refine wpAnyH_ready (rs := [11]) (by kernel_rfl) (by simp) ?_
      refine AllReadyH.cons (o := _) rfl (fun K hK => ?_) AllReadyH.nil
      simp only [List.getElem_toArray, List.getElem_cons_succ, List.getElem_cons_zero]
      go_simp
      refine (R1.out _).mono ?_
      rintro e w3 ⟨rfl, hz⟩
      have X3 := Lib.hid (X2.out.call hz)
      have B3 := Lib.hid (B2.out.trans (hz.mono B2.out.size))
      clear hz
      go_wp2_with fail
      refine hK.out _ _ ?_ (fun hHeld => ?_)
      · exact X3.out.six
      clear hK K
      try simp only [Act.put, List.getElem_toArray, List.getElem_cons_succ, List.getElem_cons_zero, List.setIfInBounds_toArray, List.set_cons_zero, List.set_cons_succ]
      refine wpAnyH_ready (rs := [15]) (by kernel_rfl) (by simp) ?_
      refine AllReadyH.cons (o := _) rfl (fun K hK => ?_) AllReadyH.nil
      simp only [List.getElem_toArray, List.getElem_cons_succ, List.getElem_cons_zero]
      go_simp
      refine (R2.out _).mono ?_
      rintro e w4 ⟨rfl, hz⟩
      have X4 := Lib.hid (X3.out.call hz)
      have B4 := Lib.hid (B3.out.trans (hz.mono B3.out.size))
      clear hz
      go_wp2_with fail
      refine hK.out _ _ ?_ (fun hHeld => ?_)
      · exact X4.out.six
      clear hK K
      try simp only [Act.put, List.getElem_toArray, List.getElem_cons_succ, List.getElem_cons_zero, List.setIfInBounds_toArray, List.set_cons_zero, List.set_cons_succ]
      refine wpAnyH_take (i := 16) (oi := _) (v := .bool true) rfl (by kernel_rfl) (by kernel_rfl) (by kernel_rfl) (fun _ _ _ h => h) (Or.inl ⟨by rfl, ?_⟩) (by assumption) ?_
      · intro w hSw
        (try dsimp only at hSw)
        go_simp
        (try simpa using hnq)
      try simp only [Act.put, List.getElem_toArray, List.getElem_cons_succ, List.getElem_cons_zero, List.setIfInBounds_toArray, List.set_cons_zero, List.set_cons_succ]
      refine wpAnyH_take (i := 17) (oi := _) (v := ?_) rfl (by kernel_rfl) (by kernel_rfl) (by kernel_rfl) (fun _ _ _ h => h) (Or.inl ⟨by rfl, ?_⟩) (by assumption) ?_
      rotate_left
      · intro w hSw
        (try dsimp only at hSw)
        go_simp
        try with_reducible rfl
      try simp only [Act.put, List.getElem_toArray, List.getElem_cons_succ, List.getElem_cons_zero, List.setIfInBounds_toArray, List.set_cons_zero, List.set_cons_succ]
      refine wpAnyH_done (by kernel_rfl) ?_ _
      have hv : V = false := by rw [Hfe.out, show (q1 == q2) = false by simpa [bne] using hnq]; simp
      have Hv := Lib.hid hv
      clear hv
      go_wp2_with fail
      go_ret
      exact ⟨by rw [Hv.out]; try rfl, B4.out⟩
    case false =>
      refine wp_region_held_drew (S := (fun w' : World => w'.cell? ⟨w.heap.size, 0, none⟩ = some (.int .i64 na) ∧ w'.cell? ⟨w.heap.size, 1, none⟩ = some (.string SA) ∧ w'.cell? ⟨w.heap.size, 2, none⟩ = some (.string RA) ∧ w'.cell? ⟨w.heap.size + 1, 0, none⟩ = some (.int .i64 nb) ∧ w'.cell? ⟨w.heap.size + 1, 1, none⟩ = some (.string SB) ∧ w'.cell? ⟨w.heap.size + 1, 2, none⟩ = some (.string RB))) (by kernel_rfl) ?_ (fun hHeld => ?_)
      · exact X0.out.drew.six
      refine wpAnyH_take (i := 0) (oi := _) (v := ?_) rfl (by kernel_rfl) (by kernel_rfl) (by kernel_rfl) (fun _ _ _ h => h) (Or.inl ⟨by rfl, ?_⟩) (by assumption) ?_
      rotate_left
      · intro w hSw
        (try dsimp only at hSw)
        go_simp
        try with_reducible rfl
      try simp only [Act.put, List.getElem_toArray, List.getElem_cons_succ, List.getElem_cons_zero, List.setIfInBounds_toArray, List.set_cons_zero, List.set_cons_succ]
      refine wpAnyH_take (i := 1) (oi := _) (v := ?_) rfl (by kernel_rfl) (by kernel_rfl) (by kernel_rfl) (fun _ _ _ h => h) (Or.inl ⟨by rfl, ?_⟩) (by assumption) ?_
      rotate_left
      · intro w hSw
        (try dsimp only at hSw)
        go_simp
        try with_reducible rfl
      try simp only [Act.put, List.getElem_toArray, List.getElem_cons_succ, List.getElem_cons_zero, List.setIfInBounds_toArray, List.set_cons_zero, List.set_cons_succ]
      refine wpAnyH_take (i := 3) (oi := _) (v := ?_) rfl (by kernel_rfl) (by kernel_rfl) (by kernel_rfl) (fun _ _ _ h => h) (Or.inl ⟨by rfl, ?_⟩) (by assumption) ?_
      rotate_left
      · intro w hSw
        (try dsimp only at hSw)
        go_simp
        try with_reducible rfl
      try simp only [Act.put, List.getElem_toArray, List.getElem_cons_succ, List.getElem_cons_zero, List.setIfInBounds_toArray, List.set_cons_zero, List.set_cons_succ]
      refine wpAnyH_take (i := 4) (oi := _) (v := ?_) rfl (by kernel_rfl) (by kernel_rfl) (by kernel_rfl) (fun _ _ _ h => h) (Or.inl ⟨by rfl, ?_⟩) (by assumption) ?_
      rotate_left
      · intro w hSw
        (try dsimp only at hSw)
        go_simp
        try with_reducible rfl
      try simp only [Act.put, List.getElem_toArray, List.getElem_cons_succ, List.getElem_cons_zero, List.setIfInBounds_toArray, List.set_cons_zero, List.set_cons_succ]
      refine wpAnyH_ready (rs := [2]) (by kernel_rfl) (by simp) ?_
      refine AllReadyH.cons (o := _) rfl (fun K hK => ?_) AllReadyH.nil
      simp only [List.getElem_toArray, List.getElem_cons_succ, List.getElem_cons_zero]
      go_simp
      refine (S1.out _).mono ?_
      rintro e w1 ⟨rfl, hz⟩
      have X1 := Lib.hid (X0.out.drew.call hz)
      have B1 := Lib.hid (B0.out.drew.trans (hz.mono B0.out.drew.size))
      clear hz
      go_wp2_with fail
      refine hK.out _ _ ?_ (fun hHeld => ?_)
      · exact X1.out.six
      clear hK K
      try simp only [Act.put, List.getElem_toArray, List.getElem_cons_succ, List.getElem_cons_zero, List.setIfInBounds_toArray, List.set_cons_zero, List.set_cons_succ]
      refine wpAnyH_ready (rs := [5]) (by kernel_rfl) (by simp) ?_
      refine AllReadyH.cons (o := _) rfl (fun K hK => ?_) AllReadyH.nil
      simp only [List.getElem_toArray, List.getElem_cons_succ, List.getElem_cons_zero]
      go_simp
      refine (S2.out _).mono ?_
      rintro e w2 ⟨rfl, hz⟩
      have X2 := Lib.hid (X1.out.call hz)
      have B2 := Lib.hid (B1.out.trans (hz.mono B1.out.size))
      clear hz
      go_wp2_with fail
      refine hK.out _ _ ?_ (fun hHeld => ?_)
      · exact X2.out.six
      clear hK K
      try simp only [Act.put, List.getElem_toArray, List.getElem_cons_succ, List.getElem_cons_zero, List.setIfInBounds_toArray, List.set_cons_zero, List.set_cons_succ]
      refine wpAnyH_take (i := 6) (oi := _) (v := .bool false) rfl (by kernel_rfl) (by kernel_rfl) (by kernel_rfl) (fun _ _ _ h => h) (Or.inl ⟨by rfl, ?_⟩) (by assumption) ?_
      · intro w hSw
        (try dsimp only at hSw)
        go_simp
        (try simpa using hne)
      try simp only [Act.put, List.getElem_toArray, List.getElem_cons_succ, List.getElem_cons_zero, List.setIfInBounds_toArray, List.set_cons_zero, List.set_cons_succ]
      refine wpAnyH_take (i := 7) (oi := _) (v := ?_) rfl (by kernel_rfl) (by kernel_rfl) (by kernel_rfl) (fun _ _ _ h => h) (Or.inl ⟨by rfl, ?_⟩) (by assumption) ?_
      rotate_left
      · intro w hSw
        (try dsimp only at hSw)
        go_simp
        try with_reducible rfl
      try simp only [Act.put, List.getElem_toArray, List.getElem_cons_succ, List.getElem_cons_zero, List.setIfInBounds_toArray, List.set_cons_zero, List.set_cons_succ]
      refine wpAnyH_take (i := 8) (oi := _) (v := ?_) rfl (by kernel_rfl) (by kernel_rfl) (by kernel_rfl) (fun _ _ _ h => h) (Or.inl ⟨by rfl, ?_⟩) (by assumption) ?_
      rotate_left
      · intro w hSw
        (try dsimp only at hSw)
        go_simp
        try with_reducible rfl
      try simp only [Act.put, List.getElem_toArray, List.getElem_cons_succ, List.getElem_cons_zero, List.setIfInBounds_toArray, List.set_cons_zero, List.set_cons_succ]
      refine wpAnyH_take (i := 9) (oi := _) (v := ?_) rfl (by kernel_rfl) (by kernel_rfl) (by kernel_rfl) (fun _ _ _ h => h) (Or.inl ⟨by rfl, ?_⟩) (by assumption) ?_
      rotate_left
      · intro w hSw
        (try dsimp only at hSw)
        go_simp
        try with_reducible rfl
      try simp only [Act.put, List.getElem_toArray, List.getElem_cons_succ, List.getElem_cons_zero, List.setIfInBounds_toArray, List.set_cons_zero, List.set_cons_succ]
      refine wpAnyH_take (i := 10) (oi := _) (v := ?_) rfl (by kernel_rfl) (by kernel_rfl) (by kernel_rfl) (fun _ _ _ h => h) (Or.inl ⟨by rfl, ?_⟩) (by assumption) ?_
      rotate_left
      · intro w hSw
        (try dsimp only at hSw)
        go_simp
        try with_reducible rfl
      try simp only [Act.put, List.getElem_toArray, List.getElem_cons_succ, List.getElem_cons_zero, List.setIfInBounds_toArray, List.set_cons_zero, List.set_cons_succ]
      refine wpAnyH_take (i := 12) (oi := _) (v := ?_) rfl (by kernel_rfl) (by kernel_rfl) (by kernel_rfl) (fun _ _ _ h => h) (Or.inl ⟨by rfl, ?_⟩) (by assumption) ?_
      rotate_left
      · intro w hSw
        (try dsimp only at hSw)
        go_simp
        try with_reducible rfl
      try simp only [Act.put, List.getElem_toArray, List.getElem_cons_succ, List.getElem_cons_zero, List.setIfInBounds_toArray, List.set_cons_zero, List.set_cons_succ]
      refine wpAnyH_take (i := 13) (oi := _) (v := ?_) rfl (by kernel_rfl) (by kernel_rfl) (by kernel_rfl) (fun _ _ _ h => h) (Or.inl ⟨by rfl, ?_⟩) (by assumption) ?_
      rotate_left
      · intro w hSw
        (try dsimp only at hSw)
        go_simp
        try with_reducible rfl
      try simp only [Act.put, List.getElem_toArray, List.getElem_cons_succ, List.getElem_cons_zero, List.setIfInBounds_toArray, List.set_cons_zero, List.set_cons_succ]
      refine wpAnyH_take (i := 14) (oi := _) (v := ?_) rfl (by kernel_rfl) (by kernel_rfl) (by kernel_rfl) (fun _ _ _ h => h) (Or.inl ⟨by rfl, ?_⟩) (by assumption) ?_
      rotate_left
      · intro w hSw
        (try dsimp only at hSw)
        go_simp
        try with_reducible rfl
      try simp only [Act.put, List.getElem_toArray, List.getElem_cons_succ, List.getElem_cons_zero, List.setIfInBounds_toArray, List.set_cons_zero, List.set_cons_succ]
      refine wpAnyH_ready (rs := [11]) (by kernel_rfl) (by simp) ?_
      refine AllReadyH.cons (o := _) rfl (fun K hK => ?_) AllReadyH.nil
      simp only [List.getElem_toArray, List.getElem_cons_succ, List.getElem_cons_zero]
      go_simp
      refine (R1.out _).mono ?_
      rintro e w3 ⟨rfl, hz⟩
      have X3 := Lib.hid (X2.out.call hz)
      have B3 := Lib.hid (B2.out.trans (hz.mono B2.out.size))
      clear hz
      go_wp2_with fail
      refine hK.out _ _ ?_ (fun hHeld => ?_)
      · exact X3.out.six
      clear hK K
      try simp only [Act.put, List.getElem_toArray, List.getElem_cons_succ, List.getElem_cons_zero, List.setIfInBounds_toArray, List.set_cons_zero, List.set_cons_succ]
      refine wpAnyH_ready (rs := [15]) (by kernel_rfl) (by simp) ?_
      refine AllReadyH.cons (o := _) rfl (fun K hK => ?_) AllReadyH.nil
      simp only [List.getElem_toArray, List.getElem_cons_succ, List.getElem_cons_zero]
      go_simp
      refine (R2.out _).mono ?_
      rintro e w4 ⟨rfl, hz⟩
      have X4 := Lib.hid (X3.out.call hz)
      have B4 := Lib.hid (B3.out.trans (hz.mono B3.out.size))
      clear hz
      go_wp2_with fail
      refine hK.out _ _ ?_ (fun hHeld => ?_)
      · exact X4.out.six
      clear hK K
      try simp only [Act.put, List.getElem_toArray, List.getElem_cons_succ, List.getElem_cons_zero, List.setIfInBounds_toArray, List.set_cons_zero, List.set_cons_succ]
      refine wpAnyH_take (i := 16) (oi := _) (v := .bool false) rfl (by kernel_rfl) (by kernel_rfl) (by kernel_rfl) (fun _ _ _ h => h) (Or.inl ⟨by rfl, ?_⟩) (by assumption) ?_
      · intro w hSw
        (try dsimp only at hSw)
        go_simp
        (try simpa using hnq)
      try simp only [Act.put, List.getElem_toArray, List.getElem_cons_succ, List.getElem_cons_zero, List.setIfInBounds_toArray, List.set_cons_zero, List.set_cons_succ]
      refine wpAnyH_take (i := 17) (oi := _) (v := ?_) rfl (by kernel_rfl) (by kernel_rfl) (by kernel_rfl) (fun _ _ _ h => h) (Or.inl ⟨by rfl, ?_⟩) (by assumption) ?_
      rotate_left
      · intro w hSw
        (try dsimp only at hSw)
        go_simp
        try with_reducible rfl
      try simp only [Act.put, List.getElem_toArray, List.getElem_cons_succ, List.getElem_cons_zero, List.setIfInBounds_toArray, List.set_cons_zero, List.set_cons_succ]
      refine wpAnyH_done (by kernel_rfl) ?_ _
      have hv : V = (List.range n).all fa := by rw [Hfe.out, show (p1 == p2) = true by simpa [bne] using hne, show (q1 == q2) = true by simpa [bne] using hnq]; rfl
      have Hv := Lib.hid hv
      clear hv hne hnq Hfe
      go_wp2_with fail
      go_loopg [34] n (fun c i wr => ∃ k : Nat, k + c = n ∧ i = .int .i64 k ∧ Two w wr #[.int .i64 na, .string SA, .string RA] #[.int .i64 nb, .string SB, .string RB] ∧ Below w.heap.size w wr ∧ ∀ j, j < k → fa j = true)
      case atStart => exact ⟨0, by omega, rfl, X4.out, B4.out, fun j hj => absurd hj (Nat.not_lt_zero _)⟩
      case round =>
        clear X0 X1 X2 X3 X4 B0 B1 B2 B3 B4
        obtain ⟨k, hk, rfl, hx, hb, hall⟩ := hrel
        have X5 := Lib.hid hx
        have B5 := Lib.hid hb
        have Hall := Lib.hid hall
        clear hx hb hall
        by_cases hlt : k < n
        · obtain ⟨g, rfl, hc⟩ := HL.out k wr hlt B5.out
          have i1 : (0 : Int) ≤ (k : Int) := by omega
          have i2 : (k : Int) < (n : Int) := by omega
          go_upto_region 7 with (fail)
          have U1 := Lib.hid (T1.out k hlt)
          have U2 := Lib.hid (T2.out k hlt)
          have U3 := Lib.hid (T3.out k hlt)
          have U4 := Lib.hid (T4.out k hlt)
          have hfk := Hfa.out k
          have hst : ∀ b : Bool, fa k = b → (∀ j, j < k → fa j = true) → (if b then ∀ j, j < k + 1 → fa j = true else (List.range n).all fa = false) := fun b e h => by
            cases b with
            | true =>
              intro j hj
              by_cases hjk : j = k
              · rw [hjk, e]
              · exact h j (by omega)
            | false => exact all_not hlt e
          have Hst := Lib.hid hst
          clear hst
          generalize A1 k = a1 at *
          generalize A2 k = a2 at *
          generalize A3 k = a3 at *
          generalize A4 k = a4 at *
          have Hfk := Lib.hid hfk
          clear hfk hc
          cases hne : (a1 != a2)
          case true =>
            refine wp_region_held_drew (S := (fun w' : World => w'.cell? ⟨w.heap.size, 0, none⟩ = some (.int .i64 na) ∧ w'.cell? ⟨w.heap.size, 1, none⟩ = some (.string SA) ∧ w'.cell? ⟨w.heap.size, 2, none⟩ = some (.string RA) ∧ w'.cell? ⟨w.heap.size + 1, 0, none⟩ = some (.int .i64 nb) ∧ w'.cell? ⟨w.heap.size + 1, 1, none⟩ = some (.string SB) ∧ w'.cell? ⟨w.heap.size + 1, 2, none⟩ = some (.string RB))) (by kernel_rfl) ?_ (fun hHeld => ?_)
            · exact X5.out.drew.six
            refine wpAnyH_take (i := 0) (oi := _) (v := ?_) rfl (by kernel_rfl) (by kernel_rfl) (by kernel_rfl) (fun _ _ _ h => h) (Or.inl ⟨by rfl, ?_⟩) (by assumption) ?_
            rotate_left
            · intro w hSw
              (try dsimp only at hSw)
              go_simp
              try with_reducible rfl
            try simp only [Act.put, List.getElem_toArray, List.getElem_cons_succ, List.getElem_cons_zero, List.setIfInBounds_toArray, List.set_cons_zero, List.set_cons_succ]
            refine wpAnyH_take (i := 1) (oi := _) (v := ?_) rfl (by kernel_rfl) (by kernel_rfl) (by kernel_rfl) (fun _ _ _ h => h) (Or.inl ⟨by rfl, ?_⟩) (by assumption) ?_
            rotate_left
            · intro w hSw
              (try dsimp only at hSw)
              go_simp
              try with_reducible rfl
            try simp only [Act.put, List.getElem_toArray, List.getElem_cons_succ, List.getElem_cons_zero, List.setIfInBounds_toArray, List.set_cons_zero, List.set_cons_succ]
            refine wpAnyH_take (i := 2) (oi := _) (v := ?_) rfl (by kernel_rfl) (by kernel_rfl) (by kernel_rfl) (fun _ _ _ h => h) (Or.inl ⟨by rfl, ?_⟩) (by assumption) ?_
            rotate_left
            · intro w hSw
              (try dsimp only at hSw)
              go_simp
              try with_reducible rfl
            try simp only [Act.put, List.getElem_toArray, List.getElem_cons_succ, List.getElem_cons_zero, List.setIfInBounds_toArray, List.set_cons_zero, List.set_cons_succ]
            refine wpAnyH_take (i := 4) (oi := _) (v := ?_) rfl (by kernel_rfl) (by kernel_rfl) (by kernel_rfl) (fun _ _ _ h => h) (Or.inl ⟨by rfl, ?_⟩) (by assumption) ?_
            rotate_left
            · intro w hSw
              (try dsimp only at hSw)
              go_simp
              try with_reducible rfl
            try simp only [Act.put, List.getElem_toArray, List.getElem_cons_succ, List.getElem_cons_zero, List.setIfInBounds_toArray, List.set_cons_zero, List.set_cons_succ]
            refine wpAnyH_take (i := 5) (oi := _) (v := ?_) rfl (by kernel_rfl) (by kernel_rfl) (by kernel_rfl) (fun _ _ _ h => h) (Or.inl ⟨by rfl, ?_⟩) (by assumption) ?_
            rotate_left
            · intro w hSw
              (try dsimp only at hSw)
              go_simp
              try with_reducible rfl
            try simp only [Act.put, List.getElem_toArray, List.getElem_cons_succ, List.getElem_cons_zero, List.setIfInBounds_toArray, List.set_cons_zero, List.set_cons_succ]
            refine wpAnyH_take (i := 6) (oi := _) (v := ?_) rfl (by kernel_rfl) (by kernel_rfl) (by kernel_rfl) (fun _ _ _ h => h) (Or.inl ⟨by rfl, ?_⟩) (by assumption) ?_
            rotate_left
            · intro w hSw
              (try dsimp only at hSw)
              go_simp
              try with_reducible rfl
            try simp only [Act.put, List.getElem_toArray, List.getElem_cons_succ, List.getElem_cons_zero, List.setIfInBounds_toArray, List.set_cons_zero, List.set_cons_succ]
            refine wpAnyH_ready (rs := [3]) (by kernel_rfl) (by simp) ?_
            refine AllReadyH.cons (o := _) rfl (fun K hK => ?_) AllReadyH.nil
            simp only [List.getElem_toArray, List.getElem_cons_succ, List.getElem_cons_zero]
            go_simp
            refine (U1.out _).mono ?_
            rintro e w6 ⟨rfl, hz⟩
            have X6 := Lib.hid (X5.out.drew.call hz)
            have B6 := Lib.hid (B5.out.drew.trans (hz.mono B5.out.drew.size))
            clear hz
            go_wp2_with fail
            refine hK.out _ _ ?_ (fun hHeld => ?_)
            · exact X6.out.six
            clear hK K
            try simp only [Act.put, List.getElem_toArray, List.getElem_cons_succ, List.getElem_cons_zero, List.setIfInBounds_toArray, List.set_cons_zero, List.set_cons_succ]
            refine wpAnyH_ready (rs := [7]) (by kernel_rfl) (by simp) ?_
            refine AllReadyH.cons (o := _) rfl (fun K hK => ?_) AllReadyH.nil
            simp only [List.getElem_toArray, List.getElem_cons_succ, List.getElem_cons_zero]
            go_simp
            refine (U2.out _).mono ?_
            rintro e w7 ⟨rfl, hz⟩
            have X7 := Lib.hid (X6.out.call hz)
            have B7 := Lib.hid (B6.out.trans (hz.mono B6.out.size))
            clear hz
            go_wp2_with fail
            refine hK.out _ _ ?_ (fun hHeld => ?_)
            · exact X7.out.six
            clear hK K
            try simp only [Act.put, List.getElem_toArray, List.getElem_cons_succ, List.getElem_cons_zero, List.setIfInBounds_toArray, List.set_cons_zero, List.set_cons_succ]
            refine wpAnyH_take (i := 8) (oi := _) (v := .bool true) rfl (by kernel_rfl) (by kernel_rfl) (by kernel_rfl) (fun _ _ _ h => h) (Or.inl ⟨by rfl, ?_⟩) (by assumption) ?_
            · intro w hSw
              (try dsimp only at hSw)
              go_simp
              (try simpa using hne)
            try simp only [Act.put, List.getElem_toArray, List.getElem_cons_succ, List.getElem_cons_zero, List.setIfInBounds_toArray, List.set_cons_zero, List.set_cons_succ]
            refine wpAnyH_take (i := 9) (oi := _) (v := ?_) rfl (by kernel_rfl) (by kernel_rfl) (by kernel_rfl) (fun _ _ _ h => h) (Or.inl ⟨by rfl, ?_⟩) (by assumption) ?_
            rotate_left
            · intro w hSw
              (try dsimp only at hSw)
              go_simp
              try with_reducible rfl
            try simp only [Act.put, List.getElem_toArray, List.getElem_cons_succ, List.getElem_cons_zero, List.setIfInBounds_toArray, List.set_cons_zero, List.set_cons_succ]
            refine wpAnyH_take (i := 10) (oi := _) (v := undef) rfl (by kernel_rfl) (by kernel_rfl) (by kernel_rfl) (fun _ _ _ h => h) (Or.inr ⟨by rfl, by rfl⟩) (by assumption) ?_
            try simp only [Act.put, List.getElem_toArray, List.getElem_cons_succ, List.getElem_cons_zero, List.setIfInBounds_toArray, List.set_cons_zero, List.set_cons_succ]
            refine wpAnyH_take (i := 11) (oi := _) (v := undef) rfl (by kernel_rfl) (by kernel_rfl) (by kernel_rfl) (fun _ _ _ h => h) (Or.inr ⟨by rfl, by rfl⟩) (by assumption) ?_
            try simp only [Act.put, List.getElem_toArray, List.getElem_cons_succ, List.getElem_cons_zero, List.setIfInBounds_toArray, List.set_cons_zero, List.set_cons_succ]
            refine wpAnyH_take (i := 12) (oi := _) (v := undef) rfl (by kernel_rfl) (by kernel_rfl) (by kernel_rfl) (fun _ _ _ h => h) (Or.inr ⟨by rfl, by rfl⟩) (by assumption) ?_
            try simp only [Act.put, List.getElem_toArray, List.getElem_cons_succ, List.getElem_cons_zero, List.setIfInBounds_toArray, List.set_cons_zero, List.set_cons_succ]
            refine wpAnyH_take (i := 13) (oi := _) (v := undef) rfl (by kernel_rfl) (by kernel_rfl) (by kernel_rfl) (fun _ _ _ h => h) (Or.inr ⟨by rfl, by rfl⟩) (by assumption) ?_
            try simp only [Act.put, List.getElem_toArray, List.getElem_cons_succ, List.getElem_cons_zero, List.setIfInBounds_toArray, List.set_cons_zero, List.set_cons_succ]
            refine wpAnyH_take (i := 14) (oi := _) (v := undef) rfl (by kernel_rfl) (by kernel_rfl) (by kernel_rfl) (fun _ _ _ h => h) (Or.inr ⟨by rfl, by rfl⟩) (by assumption) ?_
            try simp only [Act.put, List.getElem_toArray, List.getElem_cons_succ, List.getElem_cons_zero, List.setIfInBounds_toArray, List.set_cons_zero, List.set_cons_succ]
            refine wpAnyH_take (i := 15) (oi := _) (v := undef) rfl (by kernel_rfl) (by kernel_rfl) (by kernel_rfl) (fun _ _ _ h => h) (Or.inr ⟨by rfl, by rfl⟩) (by assumption) ?_
            try simp only [Act.put, List.getElem_toArray, List.getElem_cons_succ, List.getElem_cons_zero, List.setIfInBounds_toArray, List.set_cons_zero, List.set_cons_succ]
            refine wpAnyH_take (i := 16) (oi := _) (v := undef) rfl (by kernel_rfl) (by kernel_rfl) (by kernel_rfl) (fun _ _ _ h => h) (Or.inr ⟨by rfl, by rfl⟩) (by assumption) ?_
            try simp only [Act.put, List.getElem_toArray, List.getElem_cons_succ, List.getElem_cons_zero, List.setIfInBounds_toArray, List.set_cons_zero, List.set_cons_succ]
            refine wpAnyH_take (i := 17) (oi := _) (v := undef) rfl (by kernel_rfl) (by kernel_rfl) (by kernel_rfl) (fun _ _ _ h => h) (Or.inr ⟨by rfl, by rfl⟩) (by assumption) ?_
            try simp only [Act.put, List.getElem_toArray, List.getElem_cons_succ, List.getElem_cons_zero, List.setIfInBounds_toArray, List.set_cons_zero, List.set_cons_succ]
            refine wpAnyH_take (i := 18) (oi := _) (v := undef) rfl (by kernel_rfl) (by kernel_rfl) (by kernel_rfl) (fun _ _ _ h => h) (Or.inr ⟨by rfl, by rfl⟩) (by assumption) ?_
            try simp only [Act.put, List.getElem_toArray, List.getElem_cons_succ, List.getElem_cons_zero, List.setIfInBounds_toArray, List.set_cons_zero, List.set_cons_succ]
            refine wpAnyH_take (i := 19) (oi := _) (v := ?_) rfl (by kernel_rfl) (by kernel_rfl) (by kernel_rfl) (fun _ _ _ h => h) (Or.inl ⟨by rfl, ?_⟩) (by assumption) ?_
            rotate_left
            · intro w hSw
              (try dsimp only at hSw)
              go_simp
              try with_reducible rfl
            try simp only [Act.put, List.getElem_toArray, List.getElem_cons_succ, List.getElem_cons_zero, List.setIfInBounds_toArray, List.set_cons_zero, List.set_cons_succ]
            refine wpAnyH_done (by kernel_rfl) ?_ _
            have hv : V = false := by rw [Hv.out]; exact Hst.out false (by rw [Hfk.out, show (a1 == a2) = false by simpa [bne] using hne]; rfl) Hall.out
            have Hv := Lib.hid hv
            clear hv
            go_wp2_with fail
            go_ret
            exact ⟨by rw [Hv.out]; try rfl, B7.out⟩
          case false =>
            cases hnq : (a3 != a4)
            case true =>
              refine wp_region_held_drew (S := (fun w' : World => w'.cell? ⟨w.heap.size, 0, none⟩ = some (.int .i64 na) ∧ w'.cell? ⟨w.heap.size, 1, none⟩ = some (.string SA) ∧ w'.cell? ⟨w.heap.size, 2, none⟩ = some (.string RA) ∧ w'.cell? ⟨w.heap.size + 1, 0, none⟩ = some (.int .i64 nb) ∧ w'.cell? ⟨w.heap.size + 1, 1, none⟩ = some (.string SB) ∧ w'.cell? ⟨w.heap.size + 1, 2, none⟩ = some (.string RB))) (by kernel_rfl) ?_ (fun hHeld => ?_)
              · exact X5.out.drew.six
              refine wpAnyH_take (i := 0) (oi := _) (v := ?_) rfl (by kernel_rfl) (by kernel_rfl) (by kernel_rfl) (fun _ _ _ h => h) (Or.inl ⟨by rfl, ?_⟩) (by assumption) ?_
              rotate_left
              · intro w hSw
                (try dsimp only at hSw)
                go_simp
                try with_reducible rfl
              try simp only [Act.put, List.getElem_toArray, List.getElem_cons_succ, List.getElem_cons_zero, List.setIfInBounds_toArray, List.set_cons_zero, List.set_cons_succ]
              refine wpAnyH_take (i := 1) (oi := _) (v := ?_) rfl (by kernel_rfl) (by kernel_rfl) (by kernel_rfl) (fun _ _ _ h => h) (Or.inl ⟨by rfl, ?_⟩) (by assumption) ?_
              rotate_left
              · intro w hSw
                (try dsimp only at hSw)
                go_simp
                try with_reducible rfl
              try simp only [Act.put, List.getElem_toArray, List.getElem_cons_succ, List.getElem_cons_zero, List.setIfInBounds_toArray, List.set_cons_zero, List.set_cons_succ]
              refine wpAnyH_take (i := 2) (oi := _) (v := ?_) rfl (by kernel_rfl) (by kernel_rfl) (by kernel_rfl) (fun _ _ _ h => h) (Or.inl ⟨by rfl, ?_⟩) (by assumption) ?_
              rotate_left
              · intro w hSw
                (try dsimp only at hSw)
                go_simp
                try with_reducible rfl
              try simp only [Act.put, List.getElem_toArray, List.getElem_cons_succ, List.getElem_cons_zero, List.setIfInBounds_toArray, List.set_cons_zero, List.set_cons_succ]
              refine wpAnyH_take (i := 4) (oi := _) (v := ?_) rfl (by kernel_rfl) (by kernel_rfl) (by kernel_rfl) (fun _ _ _ h => h) (Or.inl ⟨by rfl, ?_⟩) (by assumption) ?_
              rotate_left
              · intro w hSw
                (try dsimp only at hSw)
                go_simp
                try with_reducible rfl
              try simp only [Act.put, List.getElem_toArray, List.getElem_cons_succ, List.getElem_cons_zero, List.setIfInBounds_toArray, List.set_cons_zero, List.set_cons_succ]
              refine wpAnyH_take (i := 5) (oi := _) (v := ?_) rfl (by kernel_rfl) (by kernel_rfl) (by kernel_rfl) (fun _ _ _ h => h) (Or.inl ⟨by rfl, ?_⟩) (by assumption) ?_
              rotate_left
              · intro w hSw
                (try dsimp only at hSw)
                go_simp
                try with_reducible rfl
              try simp only [Act.put, List.getElem_toArray, List.getElem_cons_succ, List.getElem_cons_zero, List.setIfInBounds_toArray, List.set_cons_zero, List.set_cons_succ]
              refine wpAnyH_take (i := 6) (oi := _) (v := ?_) rfl (by kernel_rfl) (by kernel_rfl) (by kernel_rfl) (fun _ _ _ h => h) (Or.inl ⟨by rfl, ?_⟩) (by assumption) ?_
              rotate_left
              · intro w hSw
                (try dsimp only at hSw)
                go_simp
                try with_reducible rfl
              try simp only [Act.put, List.getElem_toArray, List.getElem_cons_succ, List.getElem_cons_zero, List.setIfInBounds_toArray, List.set_cons_zero, List.set_cons_succ]
              refine wpAnyH_ready (rs := [3]) (by kernel_rfl) (by simp) ?_
              refine AllReadyH.cons (o := _) rfl (fun K hK => ?_) AllReadyH.nil
              simp only [List.getElem_toArray, List.getElem_cons_succ, List.getElem_cons_zero]
              go_simp
              refine (U1.out _).mono ?_
              rintro e w6 ⟨rfl, hz⟩
              have X6 := Lib.hid (X5.out.drew.call hz)
              have B6 := Lib.hid (B5.out.drew.trans (hz.mono B5.out.drew.size))
              clear hz
              go_wp2_with fail
              refine hK.out _ _ ?_ (fun hHeld => ?_)
              · exact X6.out.six
              clear hK K
              try simp only [Act.put, List.getElem_toArray, List.getElem_cons_succ, List.getElem_cons_zero, List.setIfInBounds_toArray, List.set_cons_zero, List.set_cons_succ]
              refine wpAnyH_ready (rs := [7]) (by kernel_rfl) (by simp) ?_
              refine AllReadyH.cons (o := _) rfl (fun K hK => ?_) AllReadyH.nil
              simp only [List.getElem_toArray, List.getElem_cons_succ, List.getElem_cons_zero]
              go_simp
              refine (U2.out _).mono ?_
              rintro e w7 ⟨rfl, hz⟩
              have X7 := Lib.hid (X6.out.call hz)
              have B7 := Lib.hid (B6.out.trans (hz.mono B6.out.size))
              clear hz
              go_wp2_with fail
              refine hK.out _ _ ?_ (fun hHeld => ?_)
              · exact X7.out.six
              clear hK K
              try simp only [Act.put, List.getElem_toArray, List.getElem_cons_succ, List.getElem_cons_zero, List.setIfInBounds_toArray, List.set_cons_zero, List.set_cons_succ]
              refine wpAnyH_take (i := 8) (oi := _) (v := .bool false) rfl (by kernel_rfl) (by kernel_rfl) (by kernel_rfl) (fun _ _ _ h => h) (Or.inl ⟨by rfl, ?_⟩) (by assumption) ?_
              · intro w hSw
                (try dsimp only at hSw)
                go_simp
                (try simpa using hne)
              try simp only [Act.put, List.getElem_toArray, List.getElem_cons_succ, List.getElem_cons_zero, List.setIfInBounds_toArray, List.set_cons_zero, List.set_cons_succ]
              refine wpAnyH_take (i := 9) (oi := _) (v := ?_) rfl (by kernel_rfl) (by kernel_rfl) (by kernel_rfl) (fun _ _ _ h => h) (Or.inl ⟨by rfl, ?_⟩) (by assumption) ?_
              rotate_left
              · intro w hSw
                (try dsimp only at hSw)
                go_simp
                try with_reducible rfl
              try simp only [Act.put, List.getElem_toArray, List.getElem_cons_succ, List.getElem_cons_zero, List.setIfInBounds_toArray, List.set_cons_zero, List.set_cons_succ]
              refine wpAnyH_take (i := 10) (oi := _) (v := ?_) rfl (by kernel_rfl) (by kernel_rfl) (by kernel_rfl) (fun _ _ _ h => h) (Or.inl ⟨by rfl, ?_⟩) (by assumption) ?_
              rotate_left
              · intro w hSw
                (try dsimp only at hSw)
                go_simp
                try with_reducible rfl
              try simp only [Act.put, List.getElem_toArray, List.getElem_cons_succ, List.getElem_cons_zero, List.setIfInBounds_toArray, List.set_cons_zero, List.set_cons_succ]
              refine wpAnyH_take (i := 11) (oi := _) (v := ?_) rfl (by kernel_rfl) (by kernel_rfl) (by kernel_rfl) (fun _ _ _ h => h) (Or.inl ⟨by rfl, ?_⟩) (by assumption) ?_
              rotate_left
              · intro w hSw
                (try dsimp only at hSw)
                go_simp
                try with_reducible rfl
              try simp only [Act.put, List.getElem_toArray, List.getElem_cons_succ, List.getElem_cons_zero, List.setIfInBounds_toArray, List.set_cons_zero, List.set_cons_succ]
              refine wpAnyH_take (i := 12) (oi := _) (v := ?_) rfl (by kernel_rfl) (by kernel_rfl) (by kernel_rfl) (fun _ _ _ h => h) (Or.inl ⟨by rfl, ?_⟩) (by assumption) ?_
              rotate_left
              · intro w hSw
                (try dsimp only at hSw)
                go_simp
                try with_reducible rfl
              try simp only [Act.put, List.getElem_toArray, List.getElem_cons_succ, List.getElem_cons_zero, List.setIfInBounds_toArray, List.set_cons_zero, List.set_cons_succ]
              refine wpAnyH_take (i := 14) (oi := _) (v := ?_) rfl (by kernel_rfl) (by kernel_rfl) (by kernel_rfl) (fun _ _ _ h => h) (Or.inl ⟨by rfl, ?_⟩) (by assumption) ?_
              rotate_left
              · intro w hSw
                (try dsimp only at hSw)
                go_simp
                try with_reducible rfl
              try simp only [Act.put, List.getElem_toArray, List.getElem_cons_succ, List.getElem_cons_zero, List.setIfInBounds_toArray, List.set_cons_zero, List.set_cons_succ]
              refine wpAnyH_take (i := 15) (oi := _) (v := ?_) rfl (by kernel_rfl) (by kernel_rfl) (by kernel_rfl) (fun _ _ _ h => h) (Or.inl ⟨by rfl, ?_⟩) (by assumption) ?_
              rotate_left
              · intro w hSw
                (try dsimp only at hSw)
                go_simp
                try with_reducible rfl
              try simp only [Act.put, List.getElem_toArray, List.getElem_cons_succ, List.getElem_cons_zero, List.setIfInBounds_toArray, List.set_cons_zero, List.set_cons_succ]
              refine wpAnyH_take (i := 16) (oi := _) (v := ?_) rfl (by kernel_rfl) (by kernel_rfl) (by kernel_rfl) (fun _ _ _ h => h) (Or.inl ⟨by rfl, ?_⟩) (by assumption) ?_
              rotate_left
              · intro w hSw
                (try dsimp only at hSw)
                go_simp
                try with_reducible rfl
              try simp only [Act.put, List.getElem_toArray, List.getElem_cons_succ, List.getElem_cons_zero, List.setIfInBounds_toArray, List.set_cons_zero, List.set_cons_succ]
              refine wpAnyH_ready (rs := [13]) (by kernel_rfl) (by simp) ?_
              refine AllReadyH.cons (o := _) rfl (fun K hK => ?_) AllReadyH.nil
              simp only [List.getElem_toArray, List.getElem_cons_succ, List.getElem_cons_zero]
              go_simp
              refine (U3.out _).mono ?_
              rintro e w8 ⟨rfl, hz⟩
              have X8 := Lib.hid (X7.out.call hz)
              have B8 := Lib.hid (B7.out.trans (hz.mono B7.out.size))
              clear hz
              go_wp2_with fail
              refine hK.out _ _ ?_ (fun hHeld => ?_)
              · exact X8.out.six
              clear hK K
              try simp only [Act.put, List.getElem_toArray, List.getElem_cons_succ, List.getElem_cons_zero, List.setIfInBounds_toArray, List.set_cons_zero, List.set_cons_succ]
              refine wpAnyH_ready (rs := [17]) (by kernel_rfl) (by simp) ?_
              refine AllReadyH.cons (o := _) rfl (fun K hK => ?_) AllReadyH.nil
              simp only [List.getElem_toArray, List.getElem_cons_succ, List.getElem_cons_zero]
              go_simp
              refine (U4.out _).mono ?_
              rintro e w9 ⟨rfl, hz⟩
              have X9 := Lib.hid (X8.out.call hz)
              have B9 := Lib.hid (B8.out.trans (hz.mono B8.out.size))
              clear hz
              go_wp2_with fail
              refine hK.out _ _ ?_ (fun hHeld => ?_)
              · exact X9.out.six
              clear hK K
              try simp only [Act.put, List.getElem_toArray, List.getElem_cons_succ, List.getElem_cons_zero, List.setIfInBounds_toArray, List.set_cons_zero, List.set_cons_succ]
              refine wpAnyH_take (i := 18) (oi := _) (v := .bool true) rfl (by kernel_rfl) (by kernel_rfl) (by kernel_rfl) (fun _ _ _ h => h) (Or.inl ⟨by rfl, ?_⟩) (by assumption) ?_
              · intro w hSw
                (try dsimp only at hSw)
                go_simp
                (try simpa using hnq)
              try simp only [Act.put, List.getElem_toArray, List.getElem_cons_succ, List.getElem_cons_zero, List.setIfInBounds_toArray, List.set_cons_zero, List.set_cons_succ]
              refine wpAnyH_take (i := 19) (oi := _) (v := ?_) rfl (by kernel_rfl) (by kernel_rfl) (by kernel_rfl) (fun _ _ _ h => h) (Or.inl ⟨by rfl, ?_⟩) (by assumption) ?_
              rotate_left
              · intro w hSw
                (try dsimp only at hSw)
                go_simp
                try with_reducible rfl
              try simp only [Act.put, List.getElem_toArray, List.getElem_cons_succ, List.getElem_cons_zero, List.setIfInBounds_toArray, List.set_cons_zero, List.set_cons_succ]
              refine wpAnyH_done (by kernel_rfl) ?_ _
              have hv : V = false := by rw [Hv.out]; exact Hst.out false (by rw [Hfk.out, show (a3 == a4) = false by simpa [bne] using hnq]; simp) Hall.out
              have Hv := Lib.hid hv
              clear hv
              go_wp2_with fail
              go_ret
              exact ⟨by rw [Hv.out]; try rfl, B9.out⟩
            case false =>
              refine wp_region_held_drew (S := (fun w' : World => w'.cell? ⟨w.heap.size, 0, none⟩ = some (.int .i64 na) ∧ w'.cell? ⟨w.heap.size, 1, none⟩ = some (.string SA) ∧ w'.cell? ⟨w.heap.size, 2, none⟩ = some (.string RA) ∧ w'.cell? ⟨w.heap.size + 1, 0, none⟩ = some (.int .i64 nb) ∧ w'.cell? ⟨w.heap.size + 1, 1, none⟩ = some (.string SB) ∧ w'.cell? ⟨w.heap.size + 1, 2, none⟩ = some (.string RB))) (by kernel_rfl) ?_ (fun hHeld => ?_)
              · exact X5.out.drew.six
              refine wpAnyH_take (i := 0) (oi := _) (v := ?_) rfl (by kernel_rfl) (by kernel_rfl) (by kernel_rfl) (fun _ _ _ h => h) (Or.inl ⟨by rfl, ?_⟩) (by assumption) ?_
              rotate_left
              · intro w hSw
                (try dsimp only at hSw)
                go_simp
                try with_reducible rfl
              try simp only [Act.put, List.getElem_toArray, List.getElem_cons_succ, List.getElem_cons_zero, List.setIfInBounds_toArray, List.set_cons_zero, List.set_cons_succ]
              refine wpAnyH_take (i := 1) (oi := _) (v := ?_) rfl (by kernel_rfl) (by kernel_rfl) (by kernel_rfl) (fun _ _ _ h => h) (Or.inl ⟨by rfl, ?_⟩) (by assumption) ?_
              rotate_left
              · intro w hSw
                (try dsimp only at hSw)
                go_simp
                try with_reducible rfl
              try simp only [Act.put, List.getElem_toArray, List.getElem_cons_succ, List.getElem_cons_zero, List.setIfInBounds_toArray, List.set_cons_zero, List.set_cons_succ]
              refine wpAnyH_take (i := 2) (oi := _) (v := ?_) rfl (by kernel_rfl) (by kernel_rfl) (by kernel_rfl) (fun _ _ _ h => h) (Or.inl ⟨by rfl, ?_⟩) (by assumption) ?_
              rotate_left
              · intro w hSw
                (try dsimp only at hSw)
                go_simp
                try with_reducible rfl
              try simp only [Act.put, List.getElem_toArray, List.getElem_cons_succ, List.getElem_cons_zero, List.setIfInBounds_toArray, List.set_cons_zero, List.set_cons_succ]
              refine wpAnyH_take (i := 4) (oi := _) (v := ?_) rfl (by kernel_rfl) (by kernel_rfl) (by kernel_rfl) (fun _ _ _ h => h) (Or.inl ⟨by rfl, ?_⟩) (by assumption) ?_
              rotate_left
              · intro w hSw
                (try dsimp only at hSw)
                go_simp
                try with_reducible rfl
              try simp only [Act.put, List.getElem_toArray, List.getElem_cons_succ, List.getElem_cons_zero, List.setIfInBounds_toArray, List.set_cons_zero, List.set_cons_succ]
              refine wpAnyH_take (i := 5) (oi := _) (v := ?_) rfl (by kernel_rfl) (by kernel_rfl) (by kernel_rfl) (fun _ _ _ h => h) (Or.inl ⟨by rfl, ?_⟩) (by assumption) ?_
              rotate_left
              · intro w hSw
                (try dsimp only at hSw)
                go_simp
                try with_reducible rfl
              try simp only [Act.put, List.getElem_toArray, List.getElem_cons_succ, List.getElem_cons_zero, List.setIfInBounds_toArray, List.set_cons_zero, List.set_cons_succ]
              refine wpAnyH_take (i := 6) (oi := _) (v := ?_) rfl (by kernel_rfl) (by kernel_rfl) (by kernel_rfl) (fun _ _ _ h => h) (Or.inl ⟨by rfl, ?_⟩) (by assumption) ?_
              rotate_left
              · intro w hSw
                (try dsimp only at hSw)
                go_simp
                try with_reducible rfl
              try simp only [Act.put, List.getElem_toArray, List.getElem_cons_succ, List.getElem_cons_zero, List.setIfInBounds_toArray, List.set_cons_zero, List.set_cons_succ]
              refine wpAnyH_ready (rs := [3]) (by kernel_rfl) (by simp) ?_
              refine AllReadyH.cons (o := _) rfl (fun K hK => ?_) AllReadyH.nil
              simp only [List.getElem_toArray, List.getElem_cons_succ, List.getElem_cons_zero]
              go_simp
              refine (U1.out _).mono ?_
              rintro e w6 ⟨rfl, hz⟩
              have X6 := Lib.hid (X5.out.drew.call hz)
              have B6 := Lib.hid (B5.out.drew.trans (hz.mono B5.out.drew.size))
              clear hz
              go_wp2_with fail
              refine hK.out _ _ ?_ (fun hHeld => ?_)
              · exact X6.out.six
              clear hK K
              try simp only [Act.put, List.getElem_toArray, List.getElem_cons_succ, List.getElem_cons_zero, List.setIfInBounds_toArray, List.set_cons_zero, List.set_cons_succ]
              refine wpAnyH_ready (rs := [7]) (by kernel_rfl) (by simp) ?_
              refine AllReadyH.cons (o := _) rfl (fun K hK => ?_) AllReadyH.nil
              simp only [List.getElem_toArray, List.getElem_cons_succ, List.getElem_cons_zero]
              go_simp
              refine (U2.out _).mono ?_
              rintro e w7 ⟨rfl, hz⟩
              have X7 := Lib.hid (X6.out.call hz)
              have B7 := Lib.hid (B6.out.trans (hz.mono B6.out.size))
              clear hz
              go_wp2_with fail
              refine hK.out _ _ ?_ (fun hHeld => ?_)
              · exact X7.out.six
              clear hK K
              try simp only [Act.put, List.getElem_toArray, List.getElem_cons_succ, List.getElem_cons_zero, List.setIfInBounds_toArray, List.set_cons_zero, List.set_cons_succ]
              refine wpAnyH_take (i := 8) (oi := _) (v := .bool false) rfl (by kernel_rfl) (by kernel_rfl) (by kernel_rfl) (fun _ _ _ h => h) (Or.inl ⟨by rfl, ?_⟩) (by assumption) ?_
              · intro w hSw
                (try dsimp only at hSw)
                go_simp
                (try simpa using hne)
              try simp only [Act.put, List.getElem_toArray, List.getElem_cons_succ, List.getElem_cons_zero, List.setIfInBounds_toArray, List.set_cons_zero, List.set_cons_succ]
              refine wpAnyH_take (i := 9) (oi := _) (v := ?_) rfl (by kernel_rfl) (by kernel_rfl) (by kernel_rfl) (fun _ _ _ h => h) (Or.inl ⟨by rfl, ?_⟩) (by assumption) ?_
              rotate_left
              · intro w hSw
                (try dsimp only at hSw)
                go_simp
                try with_reducible rfl
              try simp only [Act.put, List.getElem_toArray, List.getElem_cons_succ, List.getElem_cons_zero, List.setIfInBounds_toArray, List.set_cons_zero, List.set_cons_succ]
              refine wpAnyH_take (i := 10) (oi := _) (v := ?_) rfl (by kernel_rfl) (by kernel_rfl) (by kernel_rfl) (fun _ _ _ h => h) (Or.inl ⟨by rfl, ?_⟩) (by assumption) ?_
              rotate_left
              · intro w hSw
                (try dsimp only at hSw)
                go_simp
                try with_reducible rfl
              try simp only [Act.put, List.getElem_toArray, List.getElem_cons_succ, List.getElem_cons_zero, List.setIfInBounds_toArray, List.set_cons_zero, List.set_cons_succ]
              refine wpAnyH_take (i := 11) (oi := _) (v := ?_) rfl (by kernel_rfl) (by kernel_rfl) (by kernel_rfl) (fun _ _ _ h => h) (Or.inl ⟨by rfl, ?_⟩) (by assumption) ?_
              rotate_left
              · intro w hSw
                (try dsimp only at hSw)
                go_simp
                try with_reducible rfl
              try simp only [Act.put, List.getElem_toArray, List.getElem_cons_succ, List.getElem_cons_zero, List.setIfInBounds_toArray, List.set_cons_zero, List.set_cons_succ]
              refine wpAnyH_take (i := 12) (oi := _) (v := ?_) rfl (by kernel_rfl) (by kernel_rfl) (by kernel_rfl) (fun _ _ _ h => h) (Or.inl ⟨by rfl, ?_⟩) (by assumption) ?_
              rotate_left
              · intro w hSw
                (try dsimp only at hSw)
                go_simp
                try with_reducible rfl
              try simp only [Act.put, List.getElem_toArray, List.getElem_cons_succ, List.getElem_cons_zero, List.setIfInBounds_toArray, List.set_cons_zero, List.set_cons_succ]
              refine wpAnyH_take (i := 14) (oi := _) (v := ?_) rfl (by kernel_rfl) (by kernel_rfl) (by kernel_rfl) (fun _ _ _ h => h) (Or.inl ⟨by rfl, ?_⟩) (by assumption) ?_
              rotate_left
              · intro w hSw
                (try dsimp only at hSw)
                go_simp
                try with_reducible rfl
              try simp only [Act.put, List.getElem_toArray, List.getElem_cons_succ, List.getElem_cons_zero, List.setIfInBounds_toArray, List.set_cons_zero, List.set_cons_succ]
              refine wpAnyH_take (i := 15) (oi := _) (v := ?_) rfl (by kernel_rfl) (by kernel_rfl) (by kernel_rfl) (fun _ _ _ h => h) (Or.inl ⟨by rfl, ?_⟩) (by assumption) ?_
              rotate_left
              · intro w hSw
                (try dsimp only at hSw)
                go_simp
                try with_reducible rfl
              try simp only [Act.put, List.getElem_toArray, List.getElem_cons_succ, List.getElem_cons_zero, List.setIfInBounds_toArray, List.set_cons_zero, List.set_cons_succ]
              refine wpAnyH_take (i := 16) (oi := _) (v := ?_) rfl (by kernel_rfl) (by kernel_rfl) (by kernel_rfl) (fun _ _ _ h => h) (Or.inl ⟨by rfl, ?_⟩) (by assumption) ?_
              rotate_left
              · intro w hSw
                (try dsimp only at hSw)
                go_simp
                try with_reducible rfl
              try simp only [Act.put, List.getElem_toArray, List.getElem_cons_succ, List.getElem_cons_zero, List.setIfInBounds_toArray, List.set_cons_zero, List.set_cons_succ]
              refine wpAnyH_ready (rs := [13]) (by kernel_rfl) (by simp) ?_
              refine AllReadyH.cons (o := _) rfl (fun K hK => ?_) AllReadyH.nil
              simp only [List.getElem_toArray, List.getElem_cons_succ, List.getElem_cons_zero]
              go_simp
              refine (U3.out _).mono ?_
              rintro e w8 ⟨rfl, hz⟩
              have X8 := Lib.hid (X7.out.call hz)
              have B8 := Lib.hid (B7.out.trans (hz.mono B7.out.size))
              clear hz
              go_wp2_with fail
              refine hK.out _ _ ?_ (fun hHeld => ?_)
              · exact X8.out.six
              clear hK K
              try simp only [Act.put, List.getElem_toArray, List.getElem_cons_succ, List.getElem_cons_zero, List.setIfInBounds_toArray, List.set_cons_zero, List.set_cons_succ]
              refine wpAnyH_ready (rs := [17]) (by kernel_rfl) (by simp) ?_
              refine AllReadyH.cons (o := _) rfl (fun K hK => ?_) AllReadyH.nil
              simp only [List.getElem_toArray, List.getElem_cons_succ, List.getElem_cons_zero]
              go_simp
              refine (U4.out _).mono ?_
              rintro e w9 ⟨rfl, hz⟩
              have X9 := Lib.hid (X8.out.call hz)
              have B9 := Lib.hid (B8.out.trans (hz.mono B8.out.size))
              clear hz
              go_wp2_with fail
              refine hK.out _ _ ?_ (fun hHeld => ?_)
              · exact X9.out.six
              clear hK K
              try simp only [Act.put, List.getElem_toArray, List.getElem_cons_succ, List.getElem_cons_zero, List.setIfInBounds_toArray, List.set_cons_zero, List.set_cons_succ]
              refine wpAnyH_take (i := 18) (oi := _) (v := .bool false) rfl (by kernel_rfl) (by kernel_rfl) (by kernel_rfl) (fun _ _ _ h => h) (Or.inl ⟨by rfl, ?_⟩) (by assumption) ?_
              · intro w hSw
                (try dsimp only at hSw)
                go_simp
                (try simpa using hnq)
              try simp only [Act.put, List.getElem_toArray, List.getElem_cons_succ, List.getElem_cons_zero, List.setIfInBounds_toArray, List.set_cons_zero, List.set_cons_succ]
              refine wpAnyH_take (i := 19) (oi := _) (v := ?_) rfl (by kernel_rfl) (by kernel_rfl) (by kernel_rfl) (fun _ _ _ h => h) (Or.inl ⟨by rfl, ?_⟩) (by assumption) ?_
              rotate_left
              · intro w hSw
                (try dsimp only at hSw)
                go_simp
                try with_reducible rfl
              try simp only [Act.put, List.getElem_toArray, List.getElem_cons_succ, List.getElem_cons_zero, List.setIfInBounds_toArray, List.set_cons_zero, List.set_cons_succ]
              refine wpAnyH_done (by kernel_rfl) ?_ _
              have hall2 := Hst.out true (by rw [Hfk.out, show (a1 == a2) = true by simpa [bne] using hne, show (a3 == a4) = true by simpa [bne] using hnq]; rfl) Hall.out
              have Hall2 := Lib.hid hall2
              clear hall2 hne hnq
              go_wp2_with fail
              go_roundg (n - k - 1)
              case rel => exact ⟨k + 1, by omega, by go_num, X9.out, B9.out, Hall2.out⟩
              case measure => omega
        · obtain rfl : k = n := by omega
          have hv2 : V = true := by rw [Hv.out, all_upto Hall.out]
          have Hv2 := Lib.hid hv2
          clear hv2
          go_wp2_with fail
          go_ret
          exact ⟨by rw [Hv2.out]; try rfl, B5.out⟩

end Go.Proofs.YtpaleogkgfclnaaGreatDoor

namespace Go.Proofs.YtpaleogkgfclnaaGreatDoor
open Go.RowKit
open Pl
set_option linter.unusedSimpArgs false
set_option linter.unusedVariables false

/-- what lies from a block on is as it was -/
structure Kp (B : Nat) (W W' : World) : Prop where
  size : W.heap.size ≤ W'.heap.size
  block : ∀ k, B ≤ k → k < W.heap.size → W'.heap[k]? = W.heap[k]?

theorem Kp.of_below {B : Nat} {W W' : World} (h : Below W.heap.size W W') : Kp B W W' := ⟨h.size, fun k _ hk => h.block k hk⟩
theorem Bx.kp {w w' : World} {g B : Nat} {t : TypeId} {cs : Array Value} (h : Bx w g t cs) (hk : Kp B w w') (hg : B ≤ g) : Bx w' g t cs := (hk.block g hg h.lt).trans h
theorem Bx.grown {w w' : World} {g : Nat} {t : TypeId} {cs : Array Value} {row : Option Nat} (h : Bx w g t cs) (hg : w.grownBy w' row) (hne : some g ≠ row) : Bx w' g t cs := (hg.block g h.lt hne).trans h
theorem own_kp {W W' : World} {B base n : Nat} {e : TypeId} {v : Value} {xs : List Value} (h : W.ownsRow base e 1 v n xs) (hk : Kp B W W') (hB : B ≤ base) : W'.ownsRow base e 1 v n xs := by
  obtain ⟨h1, h2⟩ := h
  refine ⟨h1, ?_⟩
  rcases h2 with h2 | ⟨g, cap, cur, hv, hg, hh, r⟩
  · exact .inl h2
  · exact .inr ⟨g, cap, cur, hv, hg, (hk.block g (by omega) (Array.getElem?_eq_some_iff.1 hh).1).trans hh, r⟩
theorem own_far {W : World} {base n : Nat} {e : TypeId} {v : Value} {xs : List Value} (h : W.ownsRow base e 1 v n xs) {p : Addr} (hp : ∀ g, v.ownBlock = some g → g ≠ p.block) (u : Value) : (W.setCell p u).ownsRow base e 1 v n xs := by
  obtain ⟨h1, h2⟩ := h
  refine ⟨h1, ?_⟩
  rcases h2 with h2 | ⟨g, cap, cur, hv, hg, hh, r⟩
  · exact .inl h2
  · exact .inr ⟨g, cap, cur, hv, hg, (Below.heap_setCell W p u g (hp g (by rw [hv]; rfl))).trans hh, r⟩
theorem own_open {W : World} {base : Nat} {v : Value} {o : List Nat} (h : W.ownsRow base 3 1 v o.length (intsV (natsI o))) : ∃ A cap, v = .slice A o.length cap ∧ o.length ≤ cap ∧ LRow W A (natsI o) := by
  have h0 := h
  rcases h.2 with ⟨rfl, hn⟩ | ⟨g, cap, cur, rfl, _, _, hc, _⟩
  · exact ⟨none, 0, by rw [hn], by omega, fun hl => by rw [natsI_len] at hl; omega⟩
  · exact ⟨some ⟨g, 0, none⟩, cap, rfl, hc, LRow_of h0⟩
theorem own_back {W : World} {base : Nat} {v : Value} {o : List Nat} {x : Nat} (h : W.ownsRow base 3 1 v (o ++ [x]).length (intsV (natsI (o ++ [x])))) :
    ∃ g cap, v = .slice (some ⟨g, 0, none⟩) (o.length + 1) cap ∧ o.length + 1 ≤ cap ∧ W.ownsRow base 3 1 (.slice (some ⟨g, 0, none⟩) o.length cap) o.length (intsV (natsI o)) := by
  obtain ⟨h1, ⟨_, h0⟩ | ⟨g, cap, cur, hv, hg, hh, hn, hc, hs, ht⟩⟩ := h
  · simp at h0
  · rw [List.length_append, List.length_singleton] at hn hv
    refine ⟨g, cap, hv, hn, by simp [intsV, natsI], .inr ⟨g, cap, cur, rfl, hg, hh, by omega, hc, hs, ?_⟩⟩
    have ht2 := congrArg (List.take o.length) ht
    simp only [List.take_take, List.length_append, List.length_singleton, Nat.mul_one, intsV, natsI, List.map_append] at ht2 ⊢
    rw [Nat.min_eq_left (by omega)] at ht2
    rw [ht2, List.take_left' (by simp)]

theorem own_form {w : World} {base n : Nat} {e : TypeId} {v : Value} {xs : List Value} (h : w.ownsRow base e 1 v (n + 1) xs) : ∃ g cap, v = .slice (some ⟨g, 0, none⟩) (n + 1) cap := by
  obtain ⟨_, ⟨_, h0⟩ | ⟨g, cap, _, hv, _⟩⟩ := h
  · cases h0
  · exact ⟨g, cap, hv⟩

/-- the variables of the function that tells orders -/
def eEnv (W : World) (B : Nat) (a b : St) (tv : Value) : Prop :=
  Bx W B 24 #[.int .i64 a.n, .string (bs a.set), .string (bs a.rel)] ∧ Bx W (B + 1) 24 #[.int .i64 b.n, .string (bs b.set), .string (bs b.rel)] ∧ Bx W (B + 2) 59 #[tv] ∧ Bx W (B + 5) 66 #[.func (.func 61) #[] #[.pointer (some ⟨B + 4, 0, none⟩), .pointer (some ⟨B, 0, none⟩), .pointer (some ⟨B + 2, 0, none⟩), .pointer (some ⟨B + 1, 0, none⟩), .pointer (some ⟨B + 5, 0, none⟩)]]
/-- the order so far -/
def eRow (W : World) (B : Nat) (o : List Nat) : Prop :=
  ∃ v, Bx W (B + 4) 31 #[v] ∧ W.ownsRow (B + 3) 3 1 v o.length (intsV (natsI o)) ∧ ∀ k, v.ownBlock = some k → k ≠ B + 4 ∧ k ≠ B + 5

theorem eEnv.kp {W W' : World} {B : Nat} {a b : St} {tv : Value} (h : eEnv W B a b tv) (hk : Kp B W W') : eEnv W' B a b tv :=
  ⟨h.1.kp hk (Nat.le_refl _), h.2.1.kp hk (by omega), h.2.2.1.kp hk (by omega), h.2.2.2.kp hk (by omega)⟩
theorem eRow.kp {W W' : World} {B : Nat} {o : List Nat} (h : eRow W B o) (hk : Kp B W W') : eRow W' B o := by
  obtain ⟨v, h1, h2, h3⟩ := h
  exact ⟨v, h1.kp hk (by omega), own_kp h2 hk (by omega), h3⟩
theorem eEnv.lt {W : World} {B : Nat} {a b : St} {tv : Value} (h : eEnv W B a b tv) : B + 6 ≤ W.heap.size := by have := h.2.2.2.lt; omega
theorem eEnv.set {W : World} {B : Nat} {a b : St} {tv : Value} (h : eEnv W B a b tv) (u : Value) : eEnv (W.setCell ⟨B + 4, 0, none⟩ u) B a b tv :=
  ⟨h.1.far (by simp) _, h.2.1.far (by simp) _, h.2.2.1.far (by simp) _, h.2.2.2.far (by simp) _⟩

/-- behind an append: the order has one element more -/
theorem each_put {V w2 : World} {B : Nat} {a b : St} {tv v v' : Value} {o : List Nat} {k : Nat} (he : eEnv V B a b tv) (hb : Bx V (B + 4) 31 #[v]) (hown : V.ownsRow (B + 3) 3 1 v o.length (intsV (natsI o)))
    (hne : ∀ g, v.ownBlock = some g → g ≠ B + 4 ∧ g ≠ B + 5) (hown' : w2.ownsRow (B + 3) 3 1 v' (o.length + 1) (intsV (natsI o) ++ [.int .i64 (k : Nat)]))
    (hgr : (V.alloc (.cells #[.int .i64 (k : Nat)] 3)).grownBy w2 v.ownBlock) (hloc : v'.ownBlock = v.ownBlock ∨ v'.ownBlock = some (V.alloc (.cells #[.int .i64 (k : Nat)] 3)).heap.size) :
    eEnv (w2.setCell ⟨B + 4, 0, none⟩ v') B a b tv ∧ eRow (w2.setCell ⟨B + 4, 0, none⟩ v') B (o ++ [k]) ∧ Below B V (w2.setCell ⟨B + 4, 0, none⟩ v') := by
  have hsz := he.lt
  have hge : ∀ g, v.ownBlock = some g → B + 3 ≤ g := fun g hg => (hown.lt g hg).1
  have n0 : ∀ j, j < B + 3 → some j ≠ v.ownBlock := fun j hj e => by have := hge j e.symm; omega
  have n4 : some (B + 4) ≠ v.ownBlock := fun e => (hne _ e.symm).1 rfl
  have n5 : some (B + 5) ≠ v.ownBlock := fun e => (hne _ e.symm).2 rfl
  have hne' : ∀ g, v'.ownBlock = some g → g ≠ B + 4 ∧ g ≠ B + 5 := fun g hg => by
    rcases hloc with h | h
    · exact hne g (h ▸ hg)
    · rw [h] at hg
      injection hg with hg
      rw [World.size_alloc] at hg
      omega
  have he2 : eEnv w2 B a b tv := ⟨(he.1.alloc _).grown hgr (n0 _ (by omega)), (he.2.1.alloc _).grown hgr (n0 _ (by omega)), (he.2.2.1.alloc _).grown hgr (n0 _ (by omega)), (he.2.2.2.alloc _).grown hgr n5⟩
  have hb2 := (hb.alloc _).grown hgr n4
  refine ⟨he2.set _, ⟨v', by simpa using hb2.set 0 v', ?_, hne'⟩, (((Below.refl B V).alloc (by omega) _).grown hgr (by rw [World.size_alloc]; omega) (fun j hj => by have := hge j hj; omega)).setCell (by simp) _⟩
  rw [show (o ++ [k]).length = o.length + 1 by simp, show intsV (natsI (o ++ [k])) = intsV (natsI o) ++ [.int .i64 (k : Nat)] by simp [intsV, natsI]]
  exact own_far hown' (fun g hg => (hne' g hg).1) _

/-- the element is taken away again -/
theorem each_back {W : World} {B : Nat} {a b : St} {tv : Value} {o : List Nat} {k : Nat} (he : eEnv W B a b tv) (hr : eRow W B (o ++ [k])) :
    ∃ g cap, Bx W (B + 4) 31 #[.slice (some ⟨g, 0, none⟩) (o.length + 1) cap] ∧ o.length + 1 ≤ cap ∧ eEnv (W.setCell ⟨B + 4, 0, none⟩ (.slice (some ⟨g, 0, none⟩) o.length cap)) B a b tv ∧ eRow (W.setCell ⟨B + 4, 0, none⟩ (.slice (some ⟨g, 0, none⟩) o.length cap)) B o ∧ Below B W (W.setCell ⟨B + 4, 0, none⟩ (.slice (some ⟨g, 0, none⟩) o.length cap)) := by
  obtain ⟨v, hb, hown, hne⟩ := hr
  obtain ⟨g, cap, rfl, hc, ho⟩ := own_back hown
  refine ⟨g, cap, hb, hc, he.set _, ⟨_, by simpa using hb.set 0 _, own_far ho (fun j hj => (hne j hj).1) _, fun j hj => hne j hj⟩, (Below.refl B W).setCell (by simp) _⟩

/-- all of them, or the first alone -/
def told (c : Bool) (L : List (List Nat)) : List (List Nat) := if c then L else L.take 1
/-- the orders whose next element is below a number -/
def upTo (a b : St) (m : Nat) (o : List Nat) (k : Nat) : List (List Nat) := (List.range k).flatMap fun x => if nextB a b o x then shapes a b m (o ++ [x]) else []
theorem upTo_zero (a b : St) (m : Nat) (o : List Nat) : upTo a b m o 0 = [] := rfl
theorem upTo_succ (a b : St) (m : Nat) (o : List Nat) (k : Nat) : upTo a b m o (k + 1) = upTo a b m o k ++ (if nextB a b o k then shapes a b m (o ++ [k]) else []) := by
  unfold upTo; rw [List.range_succ, List.flatMap_append]; simp
theorem shapes_upTo (a b : St) (m : Nat) (o : List Nat) : shapes a b (m + 1) o = upTo a b m o a.n := rfl
theorem upTo_more (a b : St) (m : Nat) (o : List Nat) (k : Nat) : ∀ d, ∃ R, upTo a b m o (k + d) = upTo a b m o k ++ R
  | 0 => ⟨[], by simp⟩
  | d + 1 => by
    obtain ⟨R, h⟩ := upTo_more a b m o k d
    exact ⟨R ++ _, by rw [← Nat.add_assoc, upTo_succ, h, List.append_assoc]⟩
/-- where the first is told, the others are not -/
theorem told_stop {a b : St} {m k : Nat} {o : List Nat} (hk : k < a.n) (hn : nextB a b o k = true) (h0 : upTo a b m o k = []) (hs : (shapes a b m (o ++ [k])).isEmpty = false) :
    (shapes a b (m + 1) o).isEmpty = false ∧ told false (shapes a b (m + 1) o) = told false (shapes a b m (o ++ [k])) := by
  obtain ⟨R, h⟩ := upTo_more a b m o (k + 1) (a.n - (k + 1))
  rw [show k + 1 + (a.n - (k + 1)) = a.n by omega, upTo_succ, h0, hn] at h
  rw [shapes_upTo, h]
  generalize shapes a b m (o ++ [k]) = L at *
  cases L with
  | nil => cases hs
  | cons x L => simp [told]

end Go.Proofs.YtpaleogkgfclnaaGreatDoor

namespace Go.Proofs.YtpaleogkgfclnaaGreatDoor
open Go.RowKit
open Pl
set_option linter.unusedSimpArgs false
set_option linter.unusedVariables false

theorem LRow.news {w : World} {ga : Nat} {zs : List Int} (h : LRow w (some ⟨ga, 0, none⟩) zs) : ∀ j u, (intsV zs)[j]? = some u → w.cell? ((⟨ga, 0, none⟩ : Addr).add j) = some u := by
  intro j u hj
  have hl : j < zs.length := by
    have := (List.getElem?_eq_some_iff.1 hj).1
    simpa [intsV] using this
  obtain ⟨g, hg, hc⟩ := h (by omega)
  injection hg with hg
  injection hg with hg _
  subst hg
  have h2 := hc j hl
  simp only [intsV, List.getElem?_map, List.getElem?_eq_getElem hl, Option.map_some, Option.some.injEq] at hj
  subst hj
  have e : ((⟨ga, 0, none⟩ : Addr).add j) = ⟨ga, j, none⟩ := by
    rcases Nat.eq_zero_or_pos j with h0 | h0
    · subst h0; rfl
    · simp [Addr.add]; omega
  rw [e]
  simpa [List.getD, hl] using h2

theorem intsV_len (zs : List Int) : (intsV zs).length = zs.length := by simp [intsV]

/-- the empty list that the call makes -/
theorem own_zero (w : World) : (w.alloc (.cells #[] 3)).ownsRow w.heap.size 3 1 (.slice (some ⟨w.heap.size, 0, none⟩) 0 0) 0 [] :=
  ⟨rfl, .inr ⟨_, 0, #[], rfl, Nat.le_refl _, Bx.new w _ _, Nat.le_refl _, Nat.zero_le _, rfl, rfl⟩⟩

/-- behind a copy of a list -/
theorem app_one {w w1 : World} {v1 : Value} {n : Nat} {xs : List Value} (hown : w1.ownsRow w.heap.size 3 1 v1 (0 + n) ([] ++ xs)) (hg : (w.alloc (.cells #[] 3)).grownBy w1 (Value.ownBlock (.slice (some ⟨w.heap.size, 0, none⟩) 0 0))) :
    w1.ownsRow w.heap.size 3 1 v1 n xs ∧ Below w.heap.size w w1 := by
  refine ⟨by simpa using hown, ((Below.refl w.heap.size w).alloc (Nat.le_refl _) _).grown hg (by simp) (fun j hj => ?_)⟩
  simp [Value.ownBlock] at hj
  omega

/-- behind one number more -/
theorem app_two {w w1 w2 : World} {v1 v2 : Value} {o : List Nat} {x n : Nat} (hb : Below w.heap.size w w1) (hown1 : w1.ownsRow w.heap.size 3 1 v1 n (intsV (natsI o)))
    (hown : w2.ownsRow w.heap.size 3 1 v2 (n + 1) (intsV (natsI o) ++ [.int .i64 (x : Nat)])) (hg : (w1.alloc (.cells #[.int .i64 (x : Nat)] 3)).grownBy w2 v1.ownBlock) :
    ∃ g cap, v2 = .slice (some ⟨g, 0, none⟩) (n + 1) cap ∧ w.heap.size ≤ g ∧ LRow w2 (some ⟨g, 0, none⟩) (natsI (o ++ [x])) ∧ Below w.heap.size w w2 := by
  obtain ⟨g, cap, rfl⟩ := own_form hown
  have h2 : w2.ownsRow w.heap.size 3 1 (.slice (some ⟨g, 0, none⟩) (n + 1) cap) (n + 1) (intsV (natsI (o ++ [x]))) := by
    rw [show intsV (natsI (o ++ [x])) = intsV (natsI o) ++ [.int .i64 (x : Nat)] by simp [intsV, natsI]]
    exact hown
  refine ⟨g, cap, rfl, (hown.lt g rfl).1, LRow_of h2, (hb.alloc hb.size _).grown hg (by have := hb.size; simp; omega) (fun j hj => (hown1.lt j hj).1)⟩

theorem range_snoc (n : Nat) : List.range (n + 1) = List.range n ++ [n] := List.range_succ

/-- how many orders there are at most -/
theorem shapes_le {a b : St} (h : a.n ≤ 8) : ∀ (m : Nat) (o : List Nat), (shapes a b m o).length ≤ 8 ^ m := by
  have key : ∀ (m : Nat), (∀ o, (shapes a b m o).length ≤ 8 ^ m) → ∀ o k, (upTo a b m o k).length ≤ k * 8 ^ m := by
    intro m ih o k
    induction k with
    | zero => simp [upTo_zero]
    | succ k ihk =>
      rw [upTo_succ, List.length_append, Nat.succ_mul]
      have : (if nextB a b o k then shapes a b m (o ++ [k]) else []).length ≤ 8 ^ m := by
        split
        · exact ih _
        · simp
      omega
  intro m
  induction m with
  | zero => intro o; simp [shapes]
  | succ m ih =>
    intro o
    rw [shapes_upTo, Nat.pow_succ, Nat.mul_comm]
    exact Nat.le_trans (key m ih o a.n) (Nat.mul_le_mul_right _ h)
theorem upTo_le {a b : St} (h : a.n ≤ 8) (m : Nat) (o : List Nat) (k : Nat) : (upTo a b m o k).length ≤ k * 8 ^ m := by
  induction k with
  | zero => simp [upTo_zero]
  | succ k ihk =>
    rw [upTo_succ, List.length_append, Nat.succ_mul]
    have : (if nextB a b o k then shapes a b m (o ++ [k]) else []).length ≤ 8 ^ m := by
      split
      · exact shapes_le h _ _
      · simp
    omega
theorem pow8 {m : Nat} (h : m ≤ 8) : 8 ^ m ≤ 16777216 := Nat.pow_le_pow_right (by decide) h

end Go.Proofs.YtpaleogkgfclnaaGreatDoor

namespace Go.Proofs.YtpaleogkgfclnaaGreatDoor
open Go.RowKit
open Go.ChangeMaps
open Pl
set_option linter.unusedSimpArgs false
set_option linter.unusedVariables false

set_option maxRecDepth 100000 in
set_option maxHeartbeats 1000000 in
theorem newHolder_calls (lo : Nat) (w0 : World) (a : St) (w : World) (h0 : Below w0.heap.size w0 w) :
    Calls Tryz.prog 45 #[stA a] w fun e w' => e = .returned (.pointer (some ⟨w.heap.size + 1 + 1, 0, none⟩)) ∧ HoldW lo w0 a (w.heap.size + 1) w' ∧ Below w.heap.size w w' := by
  have hmk := fun W => run_makeMap (P := Tryz.prog) 96 W
  obtain ⟨k0, k1, k2⟩ := box_load (Bx.new w 24 #[.int .i64 (a.n : Int), .string (bs a.set), .string (bs a.rel)])
  unfold stA
  go_enter Tryz.func45, Tryz.ntmps45
  go_wp2_with fail
  go_ret
  have hS : Below w.heap.size w (w.alloc (.cells #[.int .i64 (a.n : Int), .string (bs a.set), .string (bs a.rel)] 24)) := (Below.refl _ _).alloc (Nat.le_refl _) _
  have hM := hS.alloc (by simp) (.map #[] 0)
  have hB := hM.alloc (by simp; omega) (.cells #[.int .i64 (a.n : Int), .string (bs a.set), .string (bs a.rel), .map (some (w.heap.size + 1))] 98)
  have hc := cache_new (Good lo w0 a) (w.alloc (.cells #[.int .i64 (a.n : Int), .string (bs a.set), .string (bs a.rel)] 24))
  rw [World.size_alloc] at hc
  exact ⟨rfl, ⟨h0.trans (hB.mono h0.size), by have := h0.size; omega, (by have := bx_two (w.alloc (.cells #[.int .i64 (a.n : Int), .string (bs a.set), .string (bs a.rel)] 24)) (.map #[] 0) #[.int .i64 (a.n : Int), .string (bs a.set), .string (bs a.rel), .map (some (w.heap.size + 1))] (t := 98); rwa [World.size_alloc] at this), hc.alloc _⟩, hB⟩

end Go.Proofs.YtpaleogkgfclnaaGreatDoor

namespace Go.Proofs.YtpaleogkgfclnaaGreatDoor
open Pl

/-- the elements for the first variables, 0 for the others -/
def envL (zs : List Nat) : Env := fun v => zs.getD v.val 0

/-- the formula of a text -/
noncomputable def fmOf (s : ByteArray) : Fm := match parse s.data.toList with | some (f, _) => f | none => .fls
theorem fmOf_eq {s : ByteArray} {f : Fm} (h : s.data.toList = f.text) : fmOf s = f := by
  unfold fmOf
  rw [parse_some.2 (show s.data.toList = f.text ++ [] by rw [h]; simp)]

/-- a structure and a formula of which the first variables alone are free -/
noncomputable def rdyB (i : Int) (s r f : ByteArray) (k : Nat) : Bool := okB i s r && (fmB f.data.toList && decide ((fmOf f).freeBits / 2 ^ k = 0))
noncomputable def truV (i : Int) (s r f : ByteArray) (zs : List Nat) : Bool := (fmOf f).holds (ofSt i s r) (envL zs)
noncomputable def holdB (i : Int) (s r f : ByteArray) (zs : List Int) : Bool := rdyB i s r f zs.length && (decide (zs.length ≤ 4) && elAll i zs)
noncomputable def holdV (i : Int) (s r f : ByteArray) (zs : List Int) : Bool := holdB i s r f zs && truV i s r f (zs.map Int.toNat)

theorem rdy_noSt {i : Int} {s r : ByteArray} (h : okB i s r = false) (f : ByteArray) (k : Nat) : rdyB i s r f k = false := by unfold rdyB; rw [h]; rfl
theorem rdy_noFm {f : ByteArray} (h : fmB f.data.toList = false) (i : Int) (s r : ByteArray) (k : Nat) : rdyB i s r f k = false := by unfold rdyB; rw [h]; simp
theorem rdy_of {f : ByteArray} {g : Fm} (hg : fmB f.data.toList = true) (hf : f.data.toList = g.text) {a : St} (ha : a.ok) (k : Nat) : rdyB a.n (bs a.set) (bs a.rel) f k = decide (g.freeBits / 2 ^ k = 0) := by
  unfold rdyB
  rw [okB_true ha, hg, fmOf_eq hf]; rfl
theorem tru_of {f : ByteArray} {g : Fm} (hf : f.data.toList = g.text) (a : St) (zs : List Nat) : truV a.n (bs a.set) (bs a.rel) f zs = g.holds a (envL zs) := by
  unfold truV
  rw [fmOf_eq hf, ofSt_eq]
theorem env_lt {a : St} (ha : a.ok) {zs : List Nat} (hz : ∀ x ∈ zs, x < a.n) : ∀ v, envL zs v < a.n := fun v => by
  unfold envL
  by_cases h : v.val < zs.length
  · rw [List.getD_eq_getElem?_getD, List.getElem?_eq_getElem h]; exact hz _ (List.getElem_mem h)
  · rw [List.getD_eq_getElem?_getD, List.getElem?_eq_none (by omega)]; exact ha.lo
theorem hold_no {i : Int} {s r f : ByteArray} {zs : List Int} (h : holdB i s r f zs = false) : holdV i s r f zs = false := by unfold holdV; rw [h]; rfl
theorem hold_noRdy {i : Int} {s r f : ByteArray} {zs : List Int} (h : rdyB i s r f zs.length = false) : holdB i s r f zs = false := by unfold holdB; rw [h]; rfl
theorem hold_noLen {i : Int} {s r f : ByteArray} {zs : List Int} (h : ¬ zs.length ≤ 4) : holdB i s r f zs = false := by unfold holdB; rw [decide_eq_false h]; simp
theorem hold_noEl {i : Int} {s r f : ByteArray} {zs : List Int} (h : elAll i zs = false) : holdB i s r f zs = false := by unfold holdB; rw [h]; simp
theorem hold_yes {i : Int} {s r f : ByteArray} {zs : List Int} (h1 : rdyB i s r f zs.length = true) (h2 : zs.length ≤ 4) (h3 : elAll i zs = true) : holdB i s r f zs = true := by unfold holdB; rw [h1, h3, decide_eq_true h2]; rfl
theorem hold_yesV {i : Int} {s r f : ByteArray} {zs : List Int} (h : holdB i s r f zs = true) : holdV i s r f zs = truV i s r f (zs.map Int.toNat) := by unfold holdV; rw [h]; rfl
theorem elAll_nats {n : Nat} : ∀ {zs : List Int}, elAll n zs = true → zs = natsI (zs.map Int.toNat) ∧ ∀ x ∈ zs.map Int.toNat, x < n := by
  intro zs h
  unfold elAll at h
  rw [List.all_eq_true] at h
  constructor
  · unfold natsI
    rw [List.map_map]
    conv => lhs; rw [← List.map_id zs]
    refine List.map_congr_left fun z hz => ?_
    have := h z hz
    unfold elB at this
    simp at this ⊢
    omega
  · intro x hx
    obtain ⟨z, hz, rfl⟩ := List.mem_map.1 hx
    have := h z hz
    unfold elB at this
    simp at this
    omega

end Go.Proofs.YtpaleogkgfclnaaGreatDoor

namespace Go.Proofs.YtpaleogkgfclnaaGreatDoor
open Go.RowKit
open Go.ChangeMaps
open Pl
set_option linter.unusedSimpArgs false
set_option linter.unusedVariables false

theorem splice_env {zs : List Nat} (h : zs.length ≤ 4) : (splice [Value.int .i64 0, .int .i64 0, .int .i64 0, .int .i64 0] 0 (intsV (natsI zs))).toArray = envA (envL zs) := by
  match zs, h with
  | [], _ => rfl
  | [a], _ => rfl
  | [a, b], _ => rfl
  | [a, b, c], _ => rfl
  | [a, b, c, d], _ => rfl

theorem row_news {w : World} {A : Option Addr} {zs : List Int} (h : LRow w A zs) : 0 < (intsV zs).length → ∃ ad, A = some ad ∧ ∀ j v, (intsV zs)[j]? = some v → w.cell? (ad.add j) = some v := fun hn => by
  obtain ⟨g, rfl, _⟩ := h (by simpa [intsV] using hn)
  exact ⟨_, rfl, LRow.news h⟩

set_option maxRecDepth 100000 in
set_option maxHeartbeats 1000000 in
theorem holds_calls (lo : Nat) (w0 : World) (a : St) (ha : a.ok) (hb : Nat) (f : Fm) (nb : Nat) (zs : List Nat) (A : Option Addr) (cap : Nat) (w : World) (ht : TreeAt lo w0 f nb) (hz : ∀ x ∈ zs, x < a.n) (hl : zs.length ≤ 4) (hA : LRow w A (natsI zs)) (hw : HoldW lo w0 a hb w) :
    Calls Tryz.prog 46 #[.pointer (some ⟨hb + 1, 0, none⟩), kidV nb, .slice A zs.length cap] w fun ed w' => ed = .returned (.bool (f.holds a (envL zs))) ∧ HoldW lo w0 a hb w' ∧ Fz hb w w' := by
  have he := env_lt ha hz
  have ci := fun (W : World) (hW : HoldW lo w0 a hb W) => isTrue_calls lo w0 a ha hb f.size f (Nat.le_refl _) nb (envL zs) W ht he hW
  have CI := Lib.hid ci
  have hs : (Tryz.prog.info? 3).map (·.size) = some 1 := by kernel_rfl
  have hln : (intsV (natsI zs)).length = Nat.min zs.length 4 := by
    rw [show (intsV (natsI zs)).length = zs.length by simp [intsV, natsI]]
    exact (Nat.min_eq_left hl).symm
  have HA := Lib.hid (hA.alloc (.cells #[.int .i64 0, .int .i64 0, .int .i64 0, .int .i64 0] 99))
  have HW0 := Lib.hid hw
  have XZ := Lib.hid (Bx.new w 99 #[.int .i64 0, .int .i64 0, .int .i64 0, .int .i64 0])
  have Hlt := Lib.hid hw.cache.lt
  clear ci ht hz he hA hw
  go_enter Tryz.func46, Tryz.ntmps46
  go_wp2_with (refine wpList_copy_splice rfl (.tmp 9) (.tmp 10) 31 31 rfl 3 Tryz.underlying31 hs _ _ 4 4 zs.length cap rfl rfl w.heap.size 0 [.int .i64 0, .int .i64 0, .int .i64 0, .int .i64 0] 99 XZ.out (intsV (natsI zs)) hln (fun h => by obtain ⟨ad, h1, h2⟩ := row_news HA.out h; exact ⟨rfl, ad, h1, h2⟩) (by simp [intsV, natsI]; omega) (ints_oneCell .i64 _) w.heap.size w ((Below.refl _ _).alloc (Nat.le_refl _) _) (Nat.le_refl _) ?_; intro w1 hx1 hb1; have XE := Lib.hid (show Bx w1 w.heap.size 99 (envA (envL zs)) from by rw [← splice_env hl]; exact hx1.out); have B1 := Lib.hid hb1; have x0 := XE.out.cell 0; have x1 := XE.out.cell 1; have x2 := XE.out.cell 2; have x3 := XE.out.cell 3; simp only [envA, List.getElem?_toArray, List.getElem?_cons_zero, List.getElem?_cons_succ] at x0 x1 x2 x3; clear hx1 hb1)
  refine (CI.out _ (HW0.out.call B1.out)).mono ?_
  rintro ed w2 ⟨rfl, hW, hF⟩
  have F2 := Lib.hid ((Fz.call (Nat.le_of_lt Hlt.out) B1.out).trans hF)
  have W2 := Lib.hid hW
  clear hW hF x0 x1 x2 x3
  go_wp2_with fail
  go_ret
  exact ⟨rfl, W2.out, F2.out⟩

end Go.Proofs.YtpaleogkgfclnaaGreatDoor

namespace Go.Proofs.YtpaleogkgfclnaaGreatDoor
open Go.RowKit
open Pl
set_option linter.unusedSimpArgs false
set_option linter.unusedVariables false

theorem div_nat (m k : Nat) : (m : Int) / 2 ^ k = ((m / 2 ^ k : Nat) : Int) := by
  rw [Int.natCast_ediv, Int.natCast_pow]; rfl

/-- a structure of whole numbers and texts that is one -/
theorem st_of {i : Int} {s r : ByteArray} (h : okB i s r = true) : ∃ a : St, a.ok ∧ i = a.n ∧ s = bs a.set ∧ r = bs a.rel := by
  rcases ok_cases i s r with h2 | h2
  · rw [h] at h2; cases h2
  · exact h2

set_option maxRecDepth 100000 in
set_option maxHeartbeats 2000000 in
theorem HoldsAt_impl (i : Int) (s r f : ByteArray) (A : Option Addr) (zs : List Int) (cap : Nat) (w : World) (hs : s.size ≤ maxLen) (hr : r.size ≤ maxLen) (hn : zs.length ≤ 1048576) (hcap : zs.length ≤ cap) (hA : LRow w A zs) :
    Calls Tryz.prog 19 #[stV i s r, .string f, .slice A zs.length cap] w fun e w' => e = .returned (.tuple #[.bool (holdV i s r f zs), .bool (holdB i s r f zs)]) ∧ Below w.heap.size w w' := by
  have HcI := fun W => isStructure_calls i s r W hs hr
  have HcE := fun (W : World) (hW : LRow W A zs) => areElements_calls i s r A zs cap W hn hW
  have B0 := Lib.hid (show Below w.heap.size w (w.alloc (.cells #[.int .i64 i, .string s, .string r] 24)) from (Below.refl _ _).alloc (Nat.le_refl _) _)
  have La := Lib.hid (hA.alloc (.cells #[.int .i64 i, .string s, .string r] 24))
  have Xa := Lib.hid (Bx.new w 24 #[.int .i64 i, .string s, .string r])
  clear hA hs hr
  rcases fm_cases f with ⟨hb, hno⟩ | ⟨g, hb, hf, hs4, hl4⟩
  · rw [hold_no (hold_noRdy (rdy_noFm hb i s r zs.length)), hold_noRdy (rdy_noFm hb i s r zs.length)]
    have Hno := Lib.hid hno
    clear hb hno HcI HcE
    go_enter Tryz.func19, Tryz.ntmps19
    go_wp2_with fail
    refine (parseFormula_no f _ Hno.out).mono ?_
    rintro e w1 ⟨rfl, hz⟩
    have B1 := Lib.hid (B0.out.trans (hz.mono (by simp)))
    clear hz
    go_wp2_with fail
    go_ret2
    exact ⟨rfl, B1.out⟩
  have Hf := Lib.hid hf
  have Hb := Lib.hid hb
  have hfr : g.freeBits < 16 := freeBits_lt g
  clear hf hb
  cases hok : okB i s r
  case false =>
    have hh := rdy_noSt hok f zs.length
    rw [hold_no (hold_noRdy hh), hold_noRdy hh]
    simp only [hok] at HcI
    clear hh hok
    have CI := Lib.hid HcI
    have CE := Lib.hid HcE
    clear HcI HcE
    go_enter Tryz.func19, Tryz.ntmps19
    go_wp2_with fail
    refine (parseFormula_yes f g _ hs4 Hf.out).mono ?_
    rintro e w1 ⟨b, rfl, htr, hz⟩
    have B1 := Lib.hid (B0.out.trans (hz.mono (by simp)))
    have X1 := Lib.hid (Xa.out.call hz)
    have L1 := Lib.hid (La.out.call hz)
    have T1 := Lib.hid htr
    clear hz htr
    obtain ⟨k0, k1, k2⟩ := box_load X1.out
    go_wp2_with fail
    refine (CI.out _).mono ?_
    rintro e w2 ⟨rfl, hz⟩
    have B2 := Lib.hid (B1.out.trans (hz.mono B1.out.size))
    have X2 := Lib.hid (X1.out.call hz)
    have L2 := Lib.hid (L1.out.call hz)
    have T2 := Lib.hid (T1.out.below hz)
    have D2 := Lib.hid hz
    clear hz k0 k1 k2
    go_wp2_with fail
    go_ret2
    exact ⟨rfl, B2.out⟩
  case true =>
  simp only [hok] at HcI
  by_cases h4 : zs.length ≤ 4
  case neg =>
    rw [hold_no (hold_noLen h4), hold_noLen h4]
    clear hok
    have CI := Lib.hid HcI
    have CE := Lib.hid HcE
    clear HcI HcE
    go_enter Tryz.func19, Tryz.ntmps19
    go_wp2_with fail
    refine (parseFormula_yes f g _ hs4 Hf.out).mono ?_
    rintro e w1 ⟨b, rfl, htr, hz⟩
    have B1 := Lib.hid (B0.out.trans (hz.mono (by simp)))
    have X1 := Lib.hid (Xa.out.call hz)
    have L1 := Lib.hid (La.out.call hz)
    have T1 := Lib.hid htr
    clear hz htr
    obtain ⟨k0, k1, k2⟩ := box_load X1.out
    go_wp2_with fail
    refine (CI.out _).mono ?_
    rintro e w2 ⟨rfl, hz⟩
    have B2 := Lib.hid (B1.out.trans (hz.mono B1.out.size))
    have X2 := Lib.hid (X1.out.call hz)
    have L2 := Lib.hid (L1.out.call hz)
    have T2 := Lib.hid (T1.out.below hz)
    have D2 := Lib.hid hz
    clear hz k0 k1 k2
    go_wp2_with fail
    go_ret2
    exact ⟨rfl, B2.out⟩
  case pos =>
  have h4i : (zs.length : Int) ≤ 4 := by omega
  cases hel : elAll i zs
  case false =>
    rw [hold_no (hold_noEl hel), hold_noEl hel]
    simp only [hel] at HcE
    clear hok hel
    have CI := Lib.hid HcI
    have CE := Lib.hid HcE
    clear HcI HcE
    go_enter Tryz.func19, Tryz.ntmps19
    go_wp2_with fail
    refine (parseFormula_yes f g _ hs4 Hf.out).mono ?_
    rintro e w1 ⟨b, rfl, htr, hz⟩
    have B1 := Lib.hid (B0.out.trans (hz.mono (by simp)))
    have X1 := Lib.hid (Xa.out.call hz)
    have L1 := Lib.hid (La.out.call hz)
    have T1 := Lib.hid htr
    clear hz htr
    obtain ⟨k0, k1, k2⟩ := box_load X1.out
    go_wp2_with fail
    refine (CI.out _).mono ?_
    rintro e w2 ⟨rfl, hz⟩
    have B2 := Lib.hid (B1.out.trans (hz.mono B1.out.size))
    have X2 := Lib.hid (X1.out.call hz)
    have L2 := Lib.hid (L1.out.call hz)
    have T2 := Lib.hid (T1.out.below hz)
    have D2 := Lib.hid hz
    clear hz k0 k1 k2
    obtain ⟨k0, k1, k2⟩ := box_load X2.out
    go_wp2_with fail
    refine (CE.out _ L2.out).mono ?_
    rintro e w3 ⟨rfl, hz⟩
    have B3 := Lib.hid (B2.out.trans (hz.mono B2.out.size))
    have X3 := Lib.hid (X2.out.call hz)
    have L3 := Lib.hid (L2.out.call hz)
    have T3 := Lib.hid (T2.out.below hz)
    have D3 := Lib.hid (D2.out.trans (hz.mono D2.out.size))
    clear hz k0 k1 k2
    go_wp2_with fail
    go_ret2
    exact ⟨rfl, B3.out⟩
  case true =>
  simp only [hel] at HcE
  obtain ⟨a, ha, rfl, rfl, rfl⟩ := st_of hok
  have hry := rdy_of Hb.out Hf.out ha zs.length
  by_cases hfz : g.freeBits / 2 ^ zs.length = 0
  case neg =>
    rw [decide_eq_false hfz] at hry
    rw [hold_no (hold_noRdy hry), hold_noRdy hry]
    clear hok hel hry
    have CI := Lib.hid HcI
    have CE := Lib.hid HcE
    clear HcI HcE
    go_enter Tryz.func19, Tryz.ntmps19
    go_wp2_with fail
    refine (parseFormula_yes f g _ hs4 Hf.out).mono ?_
    rintro e w1 ⟨b, rfl, htr, hz⟩
    have B1 := Lib.hid (B0.out.trans (hz.mono (by simp)))
    have X1 := Lib.hid (Xa.out.call hz)
    have L1 := Lib.hid (La.out.call hz)
    have T1 := Lib.hid htr
    clear hz htr
    obtain ⟨k0, k1, k2⟩ := box_load X1.out
    go_wp2_with fail
    refine (CI.out _).mono ?_
    rintro e w2 ⟨rfl, hz⟩
    have B2 := Lib.hid (B1.out.trans (hz.mono B1.out.size))
    have X2 := Lib.hid (X1.out.call hz)
    have L2 := Lib.hid (L1.out.call hz)
    have T2 := Lib.hid (T1.out.below hz)
    have D2 := Lib.hid hz
    clear hz k0 k1 k2
    obtain ⟨k0, k1, k2⟩ := box_load X2.out
    go_wp2_with fail
    refine (CE.out _ L2.out).mono ?_
    rintro e w3 ⟨rfl, hz⟩
    have B3 := Lib.hid (B2.out.trans (hz.mono B2.out.size))
    have X3 := Lib.hid (X2.out.call hz)
    have L3 := Lib.hid (L2.out.call hz)
    have T3 := Lib.hid (T2.out.below hz)
    have D3 := Lib.hid (D2.out.trans (hz.mono D2.out.size))
    clear hz k0 k1 k2
    obtain ⟨_, _, _, _, _, _, hc3, _⟩ := node_cells T3.out
    have hdv := div_nat g.freeBits zs.length
    have hne : ((g.freeBits : Int) / 2 ^ zs.length != 0) = true := by rw [hdv, bne_iff_ne]; omega
    clear hdv hfz
    go_wp2_with fail
    go_ret2
    exact ⟨rfl, B3.out⟩
  case pos =>
    rw [decide_eq_true hfz] at hry
    have hh := hold_yes hry h4 hel
    rw [hold_yesV hh, hh, tru_of Hf.out a]
    obtain ⟨hzs, hlt⟩ := elAll_nats hel
    obtain ⟨ns, hns⟩ : ∃ ns, ns = zs.map Int.toNat := ⟨_, rfl⟩
    rw [← hns] at hlt hzs ⊢
    subst hzs
    rw [natsI_len] at *
    have Hlt := Lib.hid hlt
    clear hok hel hry hh hns hlt hn hcap
    have CI := Lib.hid HcI
    have CE := Lib.hid HcE
    clear HcI HcE
    go_enter Tryz.func19, Tryz.ntmps19
    go_wp2_with fail
    refine (parseFormula_yes f g _ hs4 Hf.out).mono ?_
    rintro e w1 ⟨b, rfl, htr, hz⟩
    have B1 := Lib.hid (B0.out.trans (hz.mono (by simp)))
    have X1 := Lib.hid (Xa.out.call hz)
    have L1 := Lib.hid (La.out.call hz)
    have T1 := Lib.hid htr
    clear hz htr
    obtain ⟨k0, k1, k2⟩ := box_load X1.out
    go_wp2_with fail
    refine (CI.out _).mono ?_
    rintro e w2 ⟨rfl, hz⟩
    have B2 := Lib.hid (B1.out.trans (hz.mono B1.out.size))
    have X2 := Lib.hid (X1.out.call hz)
    have L2 := Lib.hid (L1.out.call hz)
    have T2 := Lib.hid (T1.out.below hz)
    have D2 := Lib.hid hz
    clear hz k0 k1 k2
    obtain ⟨k0, k1, k2⟩ := box_load X2.out
    go_wp2_with fail
    refine (CE.out _ L2.out).mono ?_
    rintro e w3 ⟨rfl, hz⟩
    have B3 := Lib.hid (B2.out.trans (hz.mono B2.out.size))
    have X3 := Lib.hid (X2.out.call hz)
    have L3 := Lib.hid (L2.out.call hz)
    have T3 := Lib.hid (T2.out.below hz)
    have D3 := Lib.hid (D2.out.trans (hz.mono D2.out.size))
    clear hz k0 k1 k2
    obtain ⟨_, _, _, _, _, _, hc3, _⟩ := node_cells T3.out
    have hdv := div_nat g.freeBits ns.length
    have heq : (g.freeBits : Int) / 2 ^ ns.length = 0 := by rw [hdv]; omega
    obtain ⟨k0, k1, k2⟩ := box_load X3.out
    clear hdv hfz
    go_wp2_with fail
    refine (newHolder_calls (w.alloc (.cells #[.int .i64 (a.n : Int), .string (bs a.set), .string (bs a.rel)] 24)).heap.size w1 a w3 D3.out).mono ?_
    rintro e w4 ⟨rfl, hW, hz⟩
    have B4 := Lib.hid (B3.out.trans (hz.mono B3.out.size))
    have L4 := Lib.hid (L3.out.call hz)
    have HW := Lib.hid hW
    clear hz hW k0 k1 k2 hc3
    go_wp2_with fail
    refine (holds_calls _ w1 a ha (w3.heap.size + 1) g b ns A cap w4 T1.out Hlt.out h4 L4.out HW.out).mono ?_
    rintro e w5 ⟨rfl, hW5, hF⟩
    have B5 := Lib.hid (B4.out.trans (hF.below.mono (by have := B3.out.size; omega)))
    clear hF hW5
    go_wp2_with fail
    go_ret2
    exact ⟨rfl, B5.out⟩

set_option maxRecDepth 100000 in
theorem HoldsIn_impl (i : Int) (s r f : ByteArray) (w : World) (hs : s.size ≤ maxLen) (hr : r.size ≤ maxLen) :
    Calls Tryz.prog 9 #[stV i s r, .string f] w fun e w' => e = .returned (.tuple #[.bool (holdV i s r f []), .bool (holdB i s r f [])]) ∧ Below w.heap.size w w' := by
  have B0 := Lib.hid (show Below w.heap.size w (w.alloc (.cells #[.int .i64 i, .string s, .string r] 24)) from (Below.refl _ _).alloc (Nat.le_refl _) _)
  have hc := fun W => HoldsAt_impl i s r f none [] 0 W hs hr (by simp) (by simp) (fun h => absurd h (by simp))
  have Hc := Lib.hid hc
  obtain ⟨k0, k1, k2⟩ := box_load (Bx.new w 24 #[.int .i64 i, .string s, .string r])
  clear hc hs hr
  go_enter Tryz.func9, Tryz.ntmps9
  go_wp2_with fail
  refine (Hc.out _).mono ?_
  rintro e w1 ⟨rfl, hz⟩
  have B1 := Lib.hid (B0.out.trans (hz.mono (by simp)))
  clear hz k0 k1 k2
  go_wp2_with fail
  go_ret2
  exact ⟨rfl, B1.out⟩

end Go.Proofs.YtpaleogkgfclnaaGreatDoor
