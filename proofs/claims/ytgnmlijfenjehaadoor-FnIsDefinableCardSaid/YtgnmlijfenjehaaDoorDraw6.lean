/-
  Draws from bytes: a structure, a structure and an element, a text. Condition: at most 2^20 bytes.
-/
import Derived.Test.YtgnmlijfenjehaaDoorDraw5
import Derived.Test.YtgnmlijfenjehaaDoorFmt
namespace Go.Proofs.YtgnmlijfenjehaaDoor
open Go.RowKit
open Pl
set_option linter.unusedSimpArgs false
set_option linter.unusedVariables false

theorem byte_of {z : Int} (h : (Lit.int .u8 z).wf = true) : ∃ b : Nat, b < 256 ∧ z = b := by
  have h2 : IntKind.u8.min = 0 := by decide
  have h3 : IntKind.u8.max = 255 := by decide
  have h4 : (decide (IntKind.u8.min ≤ z) && decide (z ≤ IntKind.u8.max)) = true := h
  rw [h2, h3] at h4
  simp at h4
  exact ⟨z.toNat, by omega, by omega⟩

theorem ByRow.call {w w' : World} {A : Option Addr} {n : Nat} (h : ByRow w A n) (hb : Below w.heap.size w w') : ByRow w' A n := fun hn => by
  obtain ⟨x, rfl, hc⟩ := h hn
  refine ⟨x, rfl, fun i hi => ?_⟩
  obtain ⟨b, hb2, hcell⟩ := hc i hi
  exact ⟨b, hb2, (hb.cell (World.block_lt_of_cell? w _ hcell)).trans hcell⟩

/-- what is known while something is drawn from bytes: the reader, new; all that was before is as it was -/
structure Fr (w : World) (rb : Nat) (A : Option Addr) (n cap p : Nat) (V : World) : Prop where
  rd : Rd V rb A n cap p
  bel : Below w.heap.size w V
  rge : w.heap.size ≤ rb

theorem Fr.step {w V V' : World} {rb n cap p p' : Nat} {A : Option Addr} (h : Fr w rb A n cap p V) (hr : Rd V' rb A n cap p') (hg : V.grownBy V' (some rb)) : Fr w rb A n cap p' V' :=
  ⟨hr, h.bel.grown hg h.bel.size (fun j hj => by have := h.rge; have e : rb = j := Option.some.inj hj; omega), h.rge⟩
theorem Fr.call {w V V' : World} {rb n cap p : Nat} {A : Option Addr} (h : Fr w rb A n cap p V) (hb : Below V.heap.size V V') : Fr w rb A n cap p V' := ⟨h.rd.call hb, h.bel.trans (hb.mono h.bel.size), h.rge⟩
theorem Fr.alloc {w V : World} {rb n cap p : Nat} {A : Option Addr} (h : Fr w rb A n cap p V) (o : Obj) : Fr w rb A n cap p (V.alloc o) := ⟨h.rd.alloc o, h.bel.alloc h.bel.size o, h.rge⟩
theorem Fr.drew {w V : World} {rb n cap p : Nat} {A : Option Addr} (h : Fr w rb A n cap p V) : Fr w rb A n cap p V.drew := ⟨h.rd.drew, h.bel.drew, h.rge⟩
theorem Rd.put {V : World} {rb n cap p g : Nat} {A : Option Addr} (hr : Rd V rb A n cap p) (hg : rb < g) (i : Nat) (v : Value) : Rd (V.setCell ⟨g, i, none⟩ v) rb A n cap p := by
  refine ⟨hr.box.far (by simp; omega) _, ?_, hr.small, hr.sep⟩
  intro h0
  obtain ⟨x, rfl, hc⟩ := hr.row h0
  have hx := hr.sep h0 x rfl
  refine ⟨x, rfl, fun i hi => ?_⟩
  obtain ⟨b, hb, hcell⟩ := hc i hi
  refine ⟨b, hb, ?_⟩
  rw [← hcell]
  have hbl : (x.add i).block = x.block := by unfold Addr.add; split <;> rfl
  exact World.cell?_of_block (by rw [hbl]; exact Below.heap_setCell V _ _ _ (by simp; omega))
theorem Fr.put {w V : World} {rb n cap p g : Nat} {A : Option Addr} (h : Fr w rb A n cap p V) (hg : rb < g) (i : Nat) (v : Value) : Fr w rb A n cap p (V.setCell ⟨g, i, none⟩ v) :=
  ⟨h.rd.put hg i v, h.bel.setCell (by have := h.rge; simp; omega) v, h.rge⟩
theorem Fr.puts {w V : World} {rb n cap p g : Nat} {A : Option Addr} (h : Fr w rb A n cap p V) (hg : rb < g) (a b c : Value) : Fr w rb A n cap p (((V.setCell ⟨g, 0, none⟩ a).setCell ⟨g, 1, none⟩ b).setCell ⟨g, 2, none⟩ c) :=
  ((h.put hg 0 a).put hg 1 b).put hg 2 c
theorem below_puts {w V : World} {g : Nat} (h : Below w.heap.size w V) (hg : w.heap.size ≤ g) (a b c : Value) : Below w.heap.size w (((V.setCell ⟨g, 0, none⟩ a).setCell ⟨g, 1, none⟩ b).setCell ⟨g, 2, none⟩ c) :=
  ((h.setCell (by simpa using hg) a).setCell (by simpa using hg) b).setCell (by simpa using hg) c
/-- the reader that is new -/
theorem Fr.new {w V V' : World} {A : Option Addr} {n cap p rb : Nat} (h : Below w.heap.size w V) (hr : Rd V' V.heap.size A n cap p) (hb : Below V.heap.size V V') (hrb : V.heap.size = rb) : Fr w rb A n cap p V' :=
  hrb ▸ ⟨hr, h.trans (hb.mono h.size), h.size⟩

def StS (e : Ending) : Prop := ∃ (i : Int) (s r : ByteArray), e = .returned (stV i s r) ∧ IOk i ∧ s.size ≤ 100 ∧ r.size ≤ 100
def StX (e : Ending) : Prop := ∃ (i : Int) (s r : ByteArray) (x : Int), e = .returned (.tuple #[stV i s r, .int .i64 x]) ∧ IOk i ∧ s.size ≤ 100 ∧ r.size ≤ 100 ∧ IOk x


end Go.Proofs.YtgnmlijfenjehaaDoor
