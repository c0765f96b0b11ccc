/-
  Draws from bytes: a structure and some elements. Condition: at most 2^20 bytes.
-/
import Derived.Test.YtgnmlijfenjehaaDoorDraw7
namespace Go.Proofs.YtgnmlijfenjehaaDoor
open Go.RowKit
open Pl
set_option linter.unusedSimpArgs false
set_option linter.unusedVariables false

attribute [local go_sem ↓] Go.wp_at_zero Go.wp_at_succ

/-- the reader where a row of another block grows -/
theorem Rd.app {V V' : World} {rb n cap p : Nat} {A : Option Addr} {row : Option Nat} (h : Rd V rb A n cap p) (hg : V.grownBy V' row) (hr : ∀ j, row = some j → rb < j) : Rd V' rb A n cap p := by
  have hlt := h.box.lt
  refine ⟨h.box.grown' hg (fun e => by have := hr rb e.symm; omega), ?_, h.small, h.sep⟩
  intro h0
  obtain ⟨x, rfl, hc⟩ := h.row h0
  have hx := h.sep h0 x rfl
  refine ⟨x, rfl, fun i hi => ?_⟩
  obtain ⟨b, hb, hcell⟩ := hc i hi
  refine ⟨b, hb, ?_⟩
  rw [← hcell]
  have hbl : (x.add i).block = x.block := by unfold Addr.add; split <;> rfl
  exact World.cell?_of_block (by rw [hbl]; exact hg.block x.block (by omega) (fun e => by have := hr x.block e.symm; omega))
theorem Fr.app {w V V' : World} {rb n cap p : Nat} {A : Option Addr} {row : Option Nat} (h : Fr w rb A n cap p V) (hg : V.grownBy V' row) (hr : ∀ j, row = some j → rb < j) : Fr w rb A n cap p V' :=
  ⟨h.rd.app hg hr, h.bel.grown hg h.bel.size (fun j hj => by have := hr j hj; have := h.rge; omega), h.rge⟩
/-- the first of a row -/
theorem own_first {W : World} {base n n' g cp : Nat} {e : TypeId} {xs : List Value} (h : W.ownsRow base e 1 (.slice (some ⟨g, 0, none⟩) n cp) n xs) (hn : n' ≤ n) : W.ownsRow base e 1 (.slice (some ⟨g, 0, none⟩) n' cp) n' (xs.take n') := by
  obtain ⟨h1, ⟨h0, _⟩ | ⟨g', c, cur, hv, hb, hh, hle, hm, hs, hx⟩⟩ := h
  · cases h0
  · refine ⟨by rw [List.length_take, h1]; omega, .inr ⟨g', c, cur, ?_, hb, hh, ?_, hm, hs, ?_⟩⟩
    · injection hv with e1 e2 e3
      rw [e1, e3]
    · omega
    · rw [← hx, List.take_take]
      congr 1
      omega
theorem intsV_take (zs : List Int) (k : Nat) : (intsV zs).take k = intsV (zs.take k) := by unfold intsV; rw [List.map_take]

/-- a structure and some numbers that are drawn -/
def StL (e : Ending) (w' : World) : Prop := ∃ (i : Int) (s r : ByteArray) (zs : List Int) (A : Option Addr) (c : Nat), e = .returned (.tuple #[stV i s r, .slice A zs.length c]) ∧ s.size ≤ 100 ∧ r.size ≤ 100 ∧ zs.length ≤ 10 ∧ zs.length ≤ c ∧ LRow w' A zs

end Go.Proofs.YtgnmlijfenjehaaDoor
