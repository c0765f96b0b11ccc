/-
  Draws from bytes: a structure, a structure and an element, a text. Condition: at most 2^20 bytes.
-/
import Derived.Test.YtpaoffjicgmleaaDoorDraw5
import Derived.Test.YtpaoffjicgmleaaDoorFmt
namespace Go.Proofs.YtpaoffjicgmleaaDoor
open Go.RowKit
open Pl
set_option linter.unusedSimpArgs false
set_option linter.unusedVariables false

theorem byte_of {z : Int} (h : (Lit.int .u8 z).wf = true) : ∃ b : Nat, b < 256 ∧ z = b := by
  have h2 : IntKind.u8.min = 0 := by decide
  have h3 : IntKind.u8.max = 255 := by decide
  have h4 : (decide (IntKind.u8.min ≤ z) && decide (z ≤ IntKind.u8.max)) = true := h
  rw [h2, h3] at h4
  simp at h4
  exact ⟨z.toNat, by omega, by omega⟩

theorem ByRow.call {w w' : World} {A : Option Addr} {n : Nat} (h : ByRow w A n) (hb : Below w.heap.size w w') : ByRow w' A n := fun hn => by
  obtain ⟨x, rfl, hc⟩ := h hn
  refine ⟨x, rfl, fun i hi => ?_⟩
  obtain ⟨b, hb2, hcell⟩ := hc i hi
  exact ⟨b, hb2, (hb.cell (World.block_lt_of_cell? w _ hcell)).trans hcell⟩

/-- what is known while something is drawn from bytes: the reader, new; all that was before is as it was -/
structure Fr (w : World) (rb : Nat) (A : Option Addr) (n cap p : Nat) (V : World) : Prop where
  rd : Rd V rb A n cap p
  bel : Below w.heap.size w V
  rge : w.heap.size ≤ rb

theorem Fr.step {w V V' : World} {rb n cap p p' : Nat} {A : Option Addr} (h : Fr w rb A n cap p V) (hr : Rd V' rb A n cap p') (hg : V.grownBy V' (some rb)) : Fr w rb A n cap p' V' :=
  ⟨hr, h.bel.grown hg h.bel.size (fun j hj => by have := h.rge; have e : rb = j := Option.some.inj hj; omega), h.rge⟩
theorem Fr.call {w V V' : World} {rb n cap p : Nat} {A : Option Addr} (h : Fr w rb A n cap p V) (hb : Below V.heap.size V V') : Fr w rb A n cap p V' := ⟨h.rd.call hb, h.bel.trans (hb.mono h.bel.size), h.rge⟩
theorem Fr.alloc {w V : World} {rb n cap p : Nat} {A : Option Addr} (h : Fr w rb A n cap p V) (o : Obj) : Fr w rb A n cap p (V.alloc o) := ⟨h.rd.alloc o, h.bel.alloc h.bel.size o, h.rge⟩
theorem Fr.drew {w V : World} {rb n cap p : Nat} {A : Option Addr} (h : Fr w rb A n cap p V) : Fr w rb A n cap p V.drew := ⟨h.rd.drew, h.bel.drew, h.rge⟩
theorem Rd.put {V : World} {rb n cap p g : Nat} {A : Option Addr} (hr : Rd V rb A n cap p) (hg : rb < g) (i : Nat) (v : Value) : Rd (V.setCell ⟨g, i, none⟩ v) rb A n cap p := by
  refine ⟨hr.box.far (by simp; omega) _, ?_, hr.small, hr.sep⟩
  intro h0
  obtain ⟨x, rfl, hc⟩ := hr.row h0
  have hx := hr.sep h0 x rfl
  refine ⟨x, rfl, fun i hi => ?_⟩
  obtain ⟨b, hb, hcell⟩ := hc i hi
  refine ⟨b, hb, ?_⟩
  rw [← hcell]
  have hbl : (x.add i).block = x.block := by unfold Addr.add; split <;> rfl
  exact World.cell?_of_block (by rw [hbl]; exact Below.heap_setCell V _ _ _ (by simp; omega))
theorem Fr.put {w V : World} {rb n cap p g : Nat} {A : Option Addr} (h : Fr w rb A n cap p V) (hg : rb < g) (i : Nat) (v : Value) : Fr w rb A n cap p (V.setCell ⟨g, i, none⟩ v) :=
  ⟨h.rd.put hg i v, h.bel.setCell (by have := h.rge; simp; omega) v, h.rge⟩
theorem Fr.puts {w V : World} {rb n cap p g : Nat} {A : Option Addr} (h : Fr w rb A n cap p V) (hg : rb < g) (a b c : Value) : Fr w rb A n cap p (((V.setCell ⟨g, 0, none⟩ a).setCell ⟨g, 1, none⟩ b).setCell ⟨g, 2, none⟩ c) :=
  ((h.put hg 0 a).put hg 1 b).put hg 2 c
theorem below_puts {w V : World} {g : Nat} (h : Below w.heap.size w V) (hg : w.heap.size ≤ g) (a b c : Value) : Below w.heap.size w (((V.setCell ⟨g, 0, none⟩ a).setCell ⟨g, 1, none⟩ b).setCell ⟨g, 2, none⟩ c) :=
  ((h.setCell (by simpa using hg) a).setCell (by simpa using hg) b).setCell (by simpa using hg) c
/-- the reader that is new -/
theorem Fr.new {w V V' : World} {A : Option Addr} {n cap p rb : Nat} (h : Below w.heap.size w V) (hr : Rd V' V.heap.size A n cap p) (hb : Below V.heap.size V V') (hrb : V.heap.size = rb) : Fr w rb A n cap p V' :=
  hrb ▸ ⟨hr, h.trans (hb.mono h.size), h.size⟩

def StS (e : Ending) : Prop := ∃ (i : Int) (s r : ByteArray), e = .returned (stV i s r) ∧ IOk i ∧ s.size ≤ 100 ∧ r.size ≤ 100
def StX (e : Ending) : Prop := ∃ (i : Int) (s r : ByteArray) (x : Int), e = .returned (.tuple #[stV i s r, .int .i64 x]) ∧ IOk i ∧ s.size ≤ 100 ∧ r.size ≤ 100 ∧ IOk x


set_option maxHeartbeats 1000000 in
theorem DrawOtherStructure_calls (A : Option Addr) (n cap : Nat) (w : World) (h : ByRow w A n) (hn : n ≤ 1048576) (hc : n ≤ cap) (hm : cap ≤ maxLen) :
    Calls Tryd.prog 16 #[.slice A n cap] w fun e w' => StS e ∧ Below w.heap.size w w' := by
  have ho := fun W h => l15Open_calls A n cap W h hn hc hm
  have Ho := Lib.hid ho
  have H0 := Lib.hid (h.call ((Below.refl w.heap.size w).alloc (Nat.le_refl _) (.cells #[.int .i64 0, .string (bs []), .string (bs [])] 24)))
  have hop := fun (rb n cap : Nat) (A : Option Addr) (W : World) (h : Rd W rb A n cap 0) => l1Open_calls rb A n cap 0 W h (by omega)
  have Hop := Lib.hid hop
  have X0 := Lib.hid (Bx.new w 24 #[.int .i64 0, .string (bs []), .string (bs [])])
  have B0 := Lib.hid ((Below.refl w.heap.size w).alloc (Nat.le_refl _) (.cells #[.int .i64 0, .string (bs []), .string (bs [])] 24))
  clear ho hop h hn hc hm
  go_enter Tryd.func16, Tryd.ntmps16
  go_wp2_with fail
  refine (Ho.out _ H0.out).mono ?_
  rintro e w1 ⟨⟨A', n', cap', rfl, hr⟩, hb⟩
  have F1 := Lib.hid (Fr.new (rb := w.heap.size + 1) B0.out hr hb (by simp))
  have X1 := Lib.hid (X0.out.call hb)
  have hne : w.heap.size ≠ (w.alloc (.cells #[.int .i64 0, .string (bs []), .string (bs [])] 24)).heap.size := by simp
  clear hr hb
  go_wp2_with fail
  refine (Hop.out _ _ _ _ _ F1.out.rd).mono ?_
  rintro e w2 ⟨⟨i, s, r, p', rfl, hi, hs, hr, _, hrd⟩, hg⟩
  have F2 := Lib.hid (F1.out.step hrd hg)
  have hax := X1.out.grown' hg (by simp)
  obtain ⟨c0, c1, c2⟩ := box_load hax
  have f0 := hax.free 0
  have f1 := hax.free 1
  have f2 := hax.free 2
  obtain ⟨q0, q1, q2⟩ := box_load (hax.puts (.int .i64 i) (.string s) (.string r))
  have HI := Lib.hid hi
  clear hrd hg hax hi hne
  go_wp2_with fail
  refine bodyPost_ret (v := stV i s r) ?_ rfl ⟨⟨i, s, r, rfl, HI.out, hs, hr⟩, below_puts F2.out.bel (Nat.le_refl _) _ _ _⟩
  simp [results, Tryd.results16, go_sem, q0, q1, q2]


set_option maxHeartbeats 1000000 in
theorem DrawFormatStructure_calls (A : Option Addr) (n cap : Nat) (w : World) (h : ByRow w A n) (hn : n ≤ 1048576) (hc : n ≤ cap) (hm : cap ≤ maxLen) :
    Calls Tryd.prog 22 #[.slice A n cap] w fun e w' => StS e ∧ Below w.heap.size w w' := by
  have ho := fun W h => l15Open_calls A n cap W h hn hc hm
  have Ho := Lib.hid ho
  have H0 := Lib.hid (h.call ((Below.refl w.heap.size w).alloc (Nat.le_refl _) (.cells #[.int .i64 0, .string (bs []), .string (bs [])] 24)))
  have hop := fun (rb n cap : Nat) (A : Option Addr) (W : World) (h : Rd W rb A n cap 0) => l1Open_calls rb A n cap 0 W h (by omega)
  have Hop := Lib.hid hop
  have X0 := Lib.hid (Bx.new w 24 #[.int .i64 0, .string (bs []), .string (bs [])])
  have B0 := Lib.hid ((Below.refl w.heap.size w).alloc (Nat.le_refl _) (.cells #[.int .i64 0, .string (bs []), .string (bs [])] 24))
  clear ho hop h hn hc hm
  go_enter Tryd.func22, Tryd.ntmps22
  go_wp2_with fail
  refine (Ho.out _ H0.out).mono ?_
  rintro e w1 ⟨⟨A', n', cap', rfl, hr⟩, hb⟩
  have F1 := Lib.hid (Fr.new (rb := w.heap.size + 1) B0.out hr hb (by simp))
  have X1 := Lib.hid (X0.out.call hb)
  have hne : w.heap.size ≠ (w.alloc (.cells #[.int .i64 0, .string (bs []), .string (bs [])] 24)).heap.size := by simp
  clear hr hb
  go_wp2_with fail
  refine (Hop.out _ _ _ _ _ F1.out.rd).mono ?_
  rintro e w2 ⟨⟨i, s, r, p', rfl, hi, hs, hr, _, hrd⟩, hg⟩
  have F2 := Lib.hid (F1.out.step hrd hg)
  have hax := X1.out.grown' hg (by simp)
  obtain ⟨c0, c1, c2⟩ := box_load hax
  have f0 := hax.free 0
  have f1 := hax.free 1
  have f2 := hax.free 2
  obtain ⟨q0, q1, q2⟩ := box_load (hax.puts (.int .i64 i) (.string s) (.string r))
  have HI := Lib.hid hi
  clear hrd hg hax hi hne
  go_wp2_with fail
  refine bodyPost_ret (v := stV i s r) ?_ rfl ⟨⟨i, s, r, rfl, HI.out, hs, hr⟩, below_puts F2.out.bel (Nat.le_refl _) _ _ _⟩
  simp [results, Tryd.results22, go_sem, q0, q1, q2]


set_option maxHeartbeats 2000000 in
theorem DrawInSet_calls (A : Option Addr) (n cap : Nat) (w : World) (h : ByRow w A n) (hn : n ≤ 1048576) (hc : n ≤ cap) (hm : cap ≤ maxLen) :
    Calls Tryd.prog 68 #[.slice A n cap] w fun e w' => StX e ∧ Below w.heap.size w w' := by
  have ho := fun W h => l15Open_calls A n cap W h hn hc hm
  have Ho := Lib.hid ho
  have H0 := Lib.hid (h.call ((Below.refl w.heap.size w).alloc (Nat.le_refl _) (.cells #[.int .i64 0, .string (bs []), .string (bs [])] 24)))
  have hop := fun (rb n cap : Nat) (A : Option Addr) (W : World) (h : Rd W rb A n cap 0) => l1Open_calls rb A n cap 0 W h (by omega)
  have hel := fun (rb n cap p : Nat) (A : Option Addr) (hp : p ≤ 10000) (W : World) (h : Rd W rb A n cap p) => l1Element_calls rb A n cap p W h (by omega)
  have hel2 : ∀ (rb n cap p : Nat) (A : Option Addr), p ≤ 10000 → ∀ (W : World), Rd W rb A n cap p → _ := hel
  have Hop := Lib.hid hop
  have Hel := Lib.hid hel
  have X0 := Lib.hid (Bx.new w 24 #[.int .i64 0, .string (bs []), .string (bs [])])
  have B0 := Lib.hid ((Below.refl w.heap.size w).alloc (Nat.le_refl _) (.cells #[.int .i64 0, .string (bs []), .string (bs [])] 24))
  clear ho hop hel hel2 h hn hc hm
  go_enter Tryd.func68, Tryd.ntmps68
  go_wp2_with fail
  refine (Ho.out _ H0.out).mono ?_
  rintro e w1 ⟨⟨A', n', cap', rfl, hr⟩, hb⟩
  have F1 := Lib.hid (Fr.new (rb := w.heap.size + 1) B0.out hr hb (by simp))
  have X1 := Lib.hid (X0.out.call hb)
  have hs1 : w.heap.size + 1 < w1.heap.size := by have := hr.box.lt; simpa using this
  clear hr hb
  go_wp2_with fail
  refine (Hop.out _ _ _ _ _ F1.out.rd).mono ?_
  rintro e w2 ⟨⟨i, s, r, p', rfl, hi, hs, hr, hp', hrd⟩, hg⟩
  have F2 := Lib.hid (F1.out.step hrd hg)
  have X2 := Lib.hid (X1.out.grown' hg (by simp))
  have hs2 : w.heap.size + 1 < w2.heap.size := Nat.lt_of_lt_of_le hs1 hg.size
  have HI := Lib.hid hi
  clear hrd hg hi
  go_upto_region 3 with (fail)
  have F4 := Lib.hid ((F2.out.alloc (.cells #[.int .i64 i, .string s, .string r] 24)).drew)
  have X4 := Lib.hid ((X2.out.alloc (.cells #[.int .i64 i, .string s, .string r] 24)).drew)
  have Y4 := Lib.hid ((Bx.new w2 24 #[.int .i64 i, .string s, .string r]).drew)
  obtain ⟨m0, m1, m2⟩ := box_load Y4.out
  refine region_sched [(0, true), (1, true), (2, false), (3, false), (4, true)] (fun w' : World => w'.cell? ⟨w2.heap.size, 0, none⟩ = some (.int .i64 i) ∧ w'.cell? ⟨w2.heap.size, 1, none⟩ = some (.string s) ∧ w'.cell? ⟨w2.heap.size, 2, none⟩ = some (.string r)) (by kernel_rfl) (by kernel_rfl) (by kernel_rfl) (by kernel_rfl) (fun _ _ _ _ h => h) ?_ (fun Q1 hQ1 => ?_)
  · exact ⟨m0, m1, m2⟩
  try simp only [List.append]
  refine sched_take' (v := .agg #[.int .i64 i, .string s, .string r]) (a' := ?_) rfl (by kernel_rfl) ?_ rfl ?_ ?_
  rotate_left 1
  · intro w hSw
    (try dsimp only at hSw)
    go_simp
    first | done | (obtain ⟨u0, u1, u2⟩ := hSw; simp [u0, u1, u2])
  · (try simp only [Act.put, List.setIfInBounds_toArray, List.set_cons_zero, List.set_cons_succ])
    try rfl
  refine sched_take' (v := ?_) (a' := ?_) rfl (by kernel_rfl) ?_ rfl ?_ ?_
  rotate_left 2
  · intro w hSw
    (try dsimp only at hSw)
    go_simp
    try with_reducible rfl
  · (try simp only [Act.put, List.setIfInBounds_toArray, List.set_cons_zero, List.set_cons_succ])
    try rfl
  refine sched_call rfl (by kernel_rfl) (fun K1 hK1 => ?_)
  go_simp
  refine (Hel.out _ _ _ p' _ (by omega) _ F4.out.rd).mono ?_
  rintro e w4 ⟨⟨x, p4, rfl, hx, _, hrd⟩, hg⟩
  have F5 := Lib.hid (F4.out.step hrd hg)
  have X5 := Lib.hid (X4.out.grown' hg (by simp))
  have Y5 := Lib.hid (Y4.out.grown' hg (by simp; omega))
  have HX := Lib.hid hx
  clear hrd hg hx m0 m1 m2
  go_wp2_with fail
  refine hK1.out _ _ ?_ (sched_lay (a' := ?_) ?_ ?_)
  · exact box_load Y5.out
  rotate_left 1
  · (try simp only [Act.put, List.getElem_toArray, List.getElem_cons_succ, List.getElem_cons_zero, List.setIfInBounds_toArray, List.set_cons_zero, List.set_cons_succ])
    try rfl
  clear hK1 K1
  obtain ⟨c0, c1, c2⟩ := box_load X5.out
  have f0 := X5.out.free 0
  have f1 := X5.out.free 1
  have f2 := X5.out.free 2
  refine sched_call rfl (by kernel_rfl) (fun K1 hK1 => ?_)
  go_simp
  refine hK1.out _ _ ?_ (sched_lay (a' := ?_) ?_ ?_)
  · exact box_load (((Y5.out.far (p := ⟨w.heap.size, 0, none⟩) (by simp; omega) _).far (p := ⟨w.heap.size, 1, none⟩) (by simp; omega) _).far (p := ⟨w.heap.size, 2, none⟩) (by simp; omega) _)
  rotate_left 1
  · (try simp only [Act.put, List.getElem_toArray, List.getElem_cons_succ, List.getElem_cons_zero, List.setIfInBounds_toArray, List.set_cons_zero, List.set_cons_succ])
    try rfl
  clear hK1 K1
  refine sched_take' (v := ?_) (a' := ?_) rfl (by kernel_rfl) ?_ rfl ?_ ?_
  rotate_left 2
  · intro w hSw
    (try dsimp only at hSw)
    go_simp
    try with_reducible rfl
  · (try simp only [Act.put, List.setIfInBounds_toArray, List.set_cons_zero, List.set_cons_succ])
    try rfl
  refine sched_done (hQ1.out _ _ ?_)
  obtain ⟨q0, q1, q2⟩ := box_load (X5.out.puts (.int .i64 i) (.string s) (.string r))
  clear c0 c1 c2 f0 f1 f2
  go_wp2_with fail
  refine bodyPost_ret (v := .tuple #[stV i s r, .int .i64 x]) ?_ rfl ⟨⟨i, s, r, x, rfl, HI.out, hs, hr, HX.out⟩, below_puts F5.out.bel (Nat.le_refl _) _ _ _⟩
  simp [results, Tryd.results68, go_sem, q0, q1, q2]

set_option maxHeartbeats 1000000 in
theorem DrawOrbitOf_calls (A : Option Addr) (n cap : Nat) (w : World) (h : ByRow w A n) (hn : n ≤ 1048576) (hc : n ≤ cap) (hm : cap ≤ maxLen) :
    Calls Tryd.prog 28 #[.slice A n cap] w fun e w' => StX e ∧ Below w.heap.size w w' := by
  have hd := DrawInSet_calls A n cap _ (h.call ((Below.refl w.heap.size w).alloc (Nat.le_refl _) (.cells #[.int .i64 0, .string (bs []), .string (bs [])] 24))) hn hc hm
  have Hd := Lib.hid hd
  have X0 := Lib.hid (Bx.new w 24 #[.int .i64 0, .string (bs []), .string (bs [])])
  have B0 := Lib.hid ((Below.refl w.heap.size w).alloc (Nat.le_refl _) (.cells #[.int .i64 0, .string (bs []), .string (bs [])] 24))
  clear hd h hn hc hm
  go_enter Tryd.func28, Tryd.ntmps28
  go_wp2_with fail
  refine (Hd.out).mono ?_
  rintro e w1 ⟨⟨i, s, r, x, rfl, hi, hs, hr, hx⟩, hb⟩
  have B1 := Lib.hid (B0.out.trans (hb.mono B0.out.size))
  have hax := X0.out.call hb
  obtain ⟨c0, c1, c2⟩ := box_load hax
  have f0 := hax.free 0
  have f1 := hax.free 1
  have f2 := hax.free 2
  obtain ⟨q0, q1, q2⟩ := box_load (hax.puts (.int .i64 i) (.string s) (.string r))
  have HI := Lib.hid hi
  have HX := Lib.hid hx
  clear hb hax hi hx
  go_wp2_with fail
  refine bodyPost_ret (v := .tuple #[stV i s r, .int .i64 x]) ?_ rfl ⟨⟨i, s, r, x, rfl, HI.out, hs, hr, HX.out⟩, below_puts B1.out (Nat.le_refl _) _ _ _⟩
  simp [results, Tryd.results28, go_sem, q0, q1, q2]


set_option maxHeartbeats 2000000 in
set_option maxRecDepth 100000 in
theorem DrawParseStructure_calls (A : Option Addr) (n cap : Nat) (w : World) (h : ByRow w A n) (hn : n ≤ 1048576) (hc : n ≤ cap) (hm : cap ≤ maxLen) :
    Calls Tryd.prog 26 #[.slice A n cap] w fun e w' => (∃ t : ByteArray, e = .returned (.string t) ∧ t.size ≤ 100) ∧ Below w.heap.size w w' := by
  have ho := fun W h => l15Open_calls A n cap W h hn hc hm
  have hso := fun (rb n cap : Nat) (A : Option Addr) (W : World) (h : Rd W rb A n cap 0) => l1Some_calls rb A n cap 0 W h (by omega)
  have hpk : ∀ (rb n cap : Nat) (A : Option Addr) (q : Nat) (k : Int) (V : World), k ≤ 100 → q ≤ 10000 → Rd V rb A n cap q → Calls Tryd.prog 43 #[.pointer (some ⟨rb, 0, none⟩), .int .i64 k] V fun e w' => PickP k e ∧ Rd w' rb A n cap (q + 1) ∧ V.grownBy w' (some rb) := fun rb n cap A q k V hk hq hr => pick_calls rb A n cap q k V hr (by omega) (by omega)
  have hof : ∀ (rb p n cap g : Nat) (A : Option Addr) (W : World), p ≤ 10000 → SCells W g [bs [], bs [48], bs [49], bs [58], bs [50]] → g ≠ rb → Rd W rb A n cap p → Calls Tryd.prog 66 #[.pointer (some ⟨rb, 0, none⟩), .slice (some ⟨g, 0, none⟩) 5 5] W fun e w' => (∃ t : ByteArray, e = .returned (.string t) ∧ t.size ≤ 1) ∧ Rd w' rb A n cap (p + 1) ∧ W.grownBy w' (some rb) :=
    fun rb p n cap g A W hp h1 h2 h3 => (of_calls rb A n cap p g 5 [bs [], bs [48], bs [49], bs [58], bs [50]] W h3 (by omega) (by simp) (by simp) h1 h2).mono fun e w' ⟨⟨m, h4, h5⟩, h6⟩ => ⟨⟨m, h4, by
      simp only [List.mem_cons, List.not_mem_nil, or_false] at h5
      rcases h5 with rfl | rfl | rfl | rfl | rfl <;> decide⟩, h6⟩
  have hfm : ∀ (a : St) (W : World), a.ok → a.n ≤ 5 → Calls Tryd.prog 24 #[stA a] W fun e w' => (∃ S : ByteArray, e = .returned (.string S) ∧ 1 ≤ S.size ∧ S.size ≤ 40) ∧ Below W.heap.size W w' := fun a W ha h5 => by
    have hz : (bs a.set).size ≤ 5 ∧ (bs a.rel).size ≤ 25 := by
      have h1 := ha.sl; have h2 := ha.rl
      have h4 : a.n * a.n ≤ 5 * 5 := Nat.mul_le_mul h5 h5
      rw [bs_size, bs_size]; omega
    refine (FormatStructure_spec (a.n : Int) (bs a.set) (bs a.rel) W (by unfold maxLen; omega) (by unfold maxLen; omega)).mono fun e w' ⟨he, hb⟩ => ⟨⟨_, he, ?_⟩, hb⟩
    rw [fmt_yes (okB_true ha), ByteArray.size_append, ByteArray.size_append]
    have h4 : (ByteArray.mk #[58]).size = 1 := rfl
    omega
  have Ho := Lib.hid ho
  have Hso := Lib.hid hso
  have Hpk := Lib.hid hpk
  have Hof := Lib.hid hof
  have Hfm := Lib.hid hfm
  have H0 := Lib.hid h
  clear ho hso hpk hof hfm h hn hc hm
  go_enter Tryd.func26, Tryd.ntmps26
  go_wp2_with fail
  refine (Ho.out _ H0.out).mono ?_
  rintro e w1 ⟨⟨A', n', cap', rfl, hr⟩, hb⟩
  have F1 := Lib.hid (Fr.new (rb := w.heap.size) (Below.refl _ _) hr hb rfl)
  clear hr hb
  go_wp2_with fail
  refine (Hso.out _ _ _ _ _ F1.out.rd).mono ?_
  rintro e w2 ⟨⟨a, p1, rfl, ha, han, hp1, hrd⟩, hg⟩
  have F2 := Lib.hid (F1.out.step hrd hg)
  have Ha := Lib.hid ha
  clear hrd hg ha
  go_wp2_with fail
  refine (Hfm.out a _ Ha.out han).mono ?_
  rintro e w3 ⟨⟨S, rfl, hS1, hS2⟩, hz⟩
  have F3 := Lib.hid (F2.out.call hz)
  clear hz
  go_wp2_with fail
  refine (Hpk.out _ _ _ _ p1 2 _ (by omega) (by omega) F3.out.rd).mono ?_
  rintro e w4 ⟨⟨m, rfl, hm0, hm1, _⟩, hrd, hg⟩
  have F4 := Lib.hid (F3.out.step hrd hg)
  clear hrd hg hm1
  by_cases h0 : m = 0
  · subst h0
    go_wp2_with fail
    go_ret
    exact ⟨⟨S, rfl, by omega⟩, F4.out.bel⟩
  · have hb : (m == 0) = false := by simp; omega
    have hsi : (S.size : Int) ≤ 40 := by omega
    have hsi0 : (1 : Int) ≤ (S.size : Int) := by omega
    go_wp2_with fail
    refine (Hpk.out _ _ _ _ (p1 + 1) (S.size : Nat) _ (by omega) (by omega) F4.out.rd).mono ?_
    rintro e w5 ⟨⟨m1, rfl, hm10, hm11, _⟩, hrd, hg⟩
    have hm12 := hm11 (by omega)
    obtain ⟨k, rfl⟩ : ∃ k : Nat, m1 = k := ⟨m1.toNat, by omega⟩
    have hk : k < S.size := by omega
    have hki : (k : Int) ≤ (S.size : Int) := by omega
    have hki0 : (0 : Int) ≤ (k : Int) := by omega
    have F4' := Lib.hid (F4.out.step hrd hg)
    have F5 := Lib.hid (F4'.out.drew.alloc (.cells #[.string (bs []), .string (bs [48]), .string (bs [49]), .string (bs [58]), .string (bs [50])] 9))
    have N5 := Lib.hid (scells_new w5.drew [bs [], bs [48], bs [49], bs [58], bs [50]] 9)
    clear hrd hg hm11 hm12
    go_upto_region 6 with (fail)
    refine region_sched [(0, true), (1, true), (2, true), (3, true), (7, true), (8, true), (9, true), (4, false), (5, false), (6, true), (10, false), (11, true), (12, true), (13, true), (14, true)] (fun _ : World => True) (by kernel_rfl) (by kernel_rfl) (by kernel_rfl) (by kernel_rfl) (fun _ _ _ _ h => h) ?_ (fun Q1 hQ1 => ?_)
    · trivial
    try simp only [List.append]
    refine sched_take' (v := ?_) (a' := ?_) rfl (by kernel_rfl) ?_ rfl ?_ ?_
    rotate_left 2
    · intro w hSw
      (try dsimp only at hSw)
      go_simp
      try with_reducible rfl
    · (try simp only [Act.put, List.setIfInBounds_toArray, List.set_cons_zero, List.set_cons_succ])
      try rfl
    refine sched_take' (v := ?_) (a' := ?_) rfl (by kernel_rfl) ?_ rfl ?_ ?_
    rotate_left 2
    · intro w hSw
      (try dsimp only at hSw)
      go_simp
      try with_reducible rfl
    · (try simp only [Act.put, List.setIfInBounds_toArray, List.set_cons_zero, List.set_cons_succ])
      try rfl
    refine sched_take' (v := ?_) (a' := ?_) rfl (by kernel_rfl) ?_ rfl ?_ ?_
    rotate_left 2
    · intro w hSw
      (try dsimp only at hSw)
      go_simp
      try with_reducible rfl
    · (try simp only [Act.put, List.setIfInBounds_toArray, List.set_cons_zero, List.set_cons_succ])
      try rfl
    refine sched_take' (v := ?_) (a' := ?_) rfl (by kernel_rfl) ?_ rfl ?_ ?_
    rotate_left 2
    · intro w hSw
      (try dsimp only at hSw)
      go_simp
      try with_reducible rfl
    · (try simp only [Act.put, List.setIfInBounds_toArray, List.set_cons_zero, List.set_cons_succ])
      try rfl
    refine sched_take' (v := ?_) (a' := ?_) rfl (by kernel_rfl) ?_ rfl ?_ ?_
    rotate_left 2
    · intro w hSw
      (try dsimp only at hSw)
      go_simp
      try with_reducible rfl
    · (try simp only [Act.put, List.setIfInBounds_toArray, List.set_cons_zero, List.set_cons_succ])
      try rfl
    refine sched_take' (v := ?_) (a' := ?_) rfl (by kernel_rfl) ?_ rfl ?_ ?_
    rotate_left 2
    · intro w hSw
      (try dsimp only at hSw)
      go_simp
      try with_reducible rfl
    · (try simp only [Act.put, List.setIfInBounds_toArray, List.set_cons_zero, List.set_cons_succ])
      try rfl
    refine sched_take' (v := ?_) (a' := ?_) rfl (by kernel_rfl) ?_ rfl ?_ ?_
    rotate_left 2
    · intro w hSw
      (try dsimp only at hSw)
      go_simp
      try with_reducible rfl
    · (try simp only [Act.put, List.setIfInBounds_toArray, List.set_cons_zero, List.set_cons_succ])
      try rfl
    refine sched_call rfl (by kernel_rfl) (fun K1 hK1 => ?_)
    go_simp
    refine hK1.out _ _ ?_ (sched_lay (a' := ?_) ?_ ?_)
    · trivial
    rotate_left 1
    · (try simp only [Act.put, List.getElem_toArray, List.getElem_cons_succ, List.getElem_cons_zero, List.setIfInBounds_toArray, List.set_cons_zero, List.set_cons_succ])
      try rfl
    clear hK1 K1
    refine sched_call rfl (by kernel_rfl) (fun K1 hK1 => ?_)
    go_simp
    refine (Hof.out _ (p1 + 1 + 1) _ _ _ _ _ (by omega) (by have := N5.out; simpa using this) (by have := F4'.out.rd.box.lt; omega) F5.out.rd).mono ?_
    rintro e w5 ⟨⟨t, rfl, ht⟩, hrd, hg⟩
    have F6 := Lib.hid (F5.out.step hrd hg)
    clear hrd hg
    go_wp2_with fail
    refine hK1.out _ _ ?_ (sched_lay (a' := ?_) ?_ ?_)
    · trivial
    rotate_left 1
    · (try simp only [Act.put, List.getElem_toArray, List.getElem_cons_succ, List.getElem_cons_zero, List.setIfInBounds_toArray, List.set_cons_zero, List.set_cons_succ])
      try rfl
    clear hK1 K1
    refine sched_take' (v := .string (S.extract 0 k ++ t)) (a' := ?_) rfl (by kernel_rfl) ?_ rfl ?_ ?_
    rotate_left 1
    · intro w hSw
      (try dsimp only at hSw)
      go_simp
      first | done | omega | (rw [if_neg (by omega)]) | (simp; omega)
    · (try simp only [Act.put, List.setIfInBounds_toArray, List.set_cons_zero, List.set_cons_succ])
      try rfl
    refine sched_call rfl (by kernel_rfl) (fun K1 hK1 => ?_)
    go_simp
    refine (Hpk.out _ _ _ _ (p1 + 1 + 1 + 1) 2 _ (by omega) (by omega) F6.out.rd).mono ?_
    rintro e w6 ⟨⟨m2, rfl, hm20, hm21, _⟩, hrd, hg⟩
    have hm22 := hm21 (by omega)
    have F7 := Lib.hid (F6.out.step hrd hg)
    have hw2 : IntKind.i64.wrap ((k : Int) + m2) = (k : Int) + m2 := IntWalk.i64_in _ (by omega)
    have hk2 : (k : Int) + m2 ≤ (S.size : Int) := by omega
    have hk3 : (0 : Int) ≤ (k : Int) + m2 := by omega
    clear hrd hg hm21
    go_wp2_with fail
    refine hK1.out _ _ ?_ (sched_lay (a' := ?_) ?_ ?_)
    · trivial
    rotate_left 1
    · (try simp only [Act.put, List.getElem_toArray, List.getElem_cons_succ, List.getElem_cons_zero, List.setIfInBounds_toArray, List.set_cons_zero, List.set_cons_succ])
      try rfl
    clear hK1 K1
    refine sched_take' (v := .int .i64 ((k : Int) + m2)) (a' := ?_) rfl (by kernel_rfl) ?_ rfl ?_ ?_
    rotate_left 1
    · intro w hSw
      (try dsimp only at hSw)
      go_simp
      first | done | omega | (rw [if_neg (by omega)]) | (simp; omega)
    · (try simp only [Act.put, List.setIfInBounds_toArray, List.set_cons_zero, List.set_cons_succ])
      try rfl
    refine sched_take' (v := .string (S.extract ((k : Int) + m2).toNat S.size)) (a' := ?_) rfl (by kernel_rfl) ?_ rfl ?_ ?_
    rotate_left 1
    · intro w hSw
      (try dsimp only at hSw)
      go_simp
      first | done | omega | (rw [if_neg (by omega)]) | (simp; omega)
    · (try simp only [Act.put, List.setIfInBounds_toArray, List.set_cons_zero, List.set_cons_succ])
      try rfl
    have hz1 : (S.extract 0 k ++ t).size ≤ 41 := by rw [ByteArray.size_append, ByteArray.size_extract]; omega
    have hz2 : (S.extract ((k : Int) + m2).toNat S.size).size ≤ 40 := by rw [ByteArray.size_extract]; omega
    generalize hY1 : S.extract 0 k ++ t = Y1 at *
    generalize hY2 : S.extract ((k : Int) + m2).toNat S.size = Y2 at *
    clear hY1 hY2
    refine sched_take' (v := .string (Y1 ++ Y2)) (a' := ?_) rfl (by kernel_rfl) ?_ rfl ?_ ?_
    rotate_left 1
    · intro w hSw
      (try dsimp only at hSw)
      go_simp
      first | done | omega | (rw [if_neg (by omega)]) | (simp; omega)
    · (try simp only [Act.put, List.setIfInBounds_toArray, List.set_cons_zero, List.set_cons_succ])
      try rfl
    refine sched_take' (v := ?_) (a' := ?_) rfl (by kernel_rfl) ?_ rfl ?_ ?_
    rotate_left 2
    · intro w hSw
      (try dsimp only at hSw)
      go_simp
      try with_reducible rfl
    · (try simp only [Act.put, List.setIfInBounds_toArray, List.set_cons_zero, List.set_cons_succ])
      try rfl
    refine sched_done (hQ1.out _ _ ?_)
    go_wp2_with fail
    go_ret
    exact ⟨⟨_, rfl, by rw [ByteArray.size_append]; omega⟩, F7.out.bel⟩


end Go.Proofs.YtpaoffjicgmleaaDoor
