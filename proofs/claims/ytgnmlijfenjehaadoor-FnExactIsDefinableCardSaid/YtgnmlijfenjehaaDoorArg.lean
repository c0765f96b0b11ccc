/-
  A list of numbers that a law is handed: at any address. Condition: at most 2^20 numbers.
-/
import Derived.Test.YtgnmlijfenjehaaDoorList
import Derived.Test.YtgnmlijfenjehaaDoorFmt
namespace Go.Proofs.YtgnmlijfenjehaaDoor
open Go.RowKit
open Pl
set_option linter.unusedSimpArgs false
set_option linter.unusedVariables false

/-- an address at which the numbers lie, be it within a block -/
def ARow (w : World) (A : Option Addr) (zs : List Int) : Prop := 0 < zs.length → ∃ x : Addr, A = some x ∧ ∀ i, i < zs.length → w.cell? (x.add i) = some (.int .i64 (zs.getD i 0))

theorem ARow.call {w w' : World} {A : Option Addr} {zs : List Int} (h : ARow w A zs) (hb : Below w.heap.size w w') : ARow w' A zs := fun hn => by
  obtain ⟨x, rfl, hc⟩ := h hn
  exact ⟨x, rfl, fun i hi => (hb.cell (World.block_lt_of_cell? w _ (hc i hi))).trans (hc i hi)⟩
theorem ARow.alloc {w : World} {A : Option Addr} {zs : List Int} (h : ARow w A zs) (o : Obj) : ARow (w.alloc o) A zs := h.call ((Below.refl _ _).alloc (Nat.le_refl _) _)

set_option maxHeartbeats 400000 in
theorem toIntS_arg (A : Option Addr) (cap : Nat) (zs : List Int) (w : World) (hn : zs.length ≤ 1048576) (hA : ARow w A zs) :
    Calls Tryd.prog 12 #[.slice A zs.length cap] w fun e w' => e = .returned (.slice (some ⟨w.heap.size, 0, none⟩) zs.length zs.length) ∧ w'.ownsRow w.heap.size 3 1 (.slice (some ⟨w.heap.size, 0, none⟩) zs.length zs.length) zs.length (intsV zs) ∧ Below w.heap.size w w' := by
  obtain ⟨i0, hi, hz0, hz1, hz2⟩ := info_parts (P := Tryd.prog) (e := 3) (z := .int .i64 0) (size := 1) (bytes := 8) (by kernel_rfl)
  obtain ⟨w1, hrun, hown, hgr⟩ := run_make_full (P := Tryd.prog) w w.heap.size 24 3 i0 (.int .i64 0) 1 Tryd.underlying24 hi hz0 hz1 .i64 .i64 zs.length (by rw [hz2]; omega) (by unfold maxLen; omega) (Nat.le_refl _)
  clear hi hz0 hz1 hz2
  have hb1 : Below w.heap.size w w1 := (Below.refl _ _).grown hgr (Nat.le_refl _) (by simp)
  have Hown := Lib.hid hown
  have Hb1 := Lib.hid hb1
  have HA := Lib.hid hA
  clear hown hgr hb1 hA
  go_enter Tryd.func12, Tryd.ntmps12
  go_wp2_with fail
  go_loopg [4] zs.length (fun c i wr => ∃ (k : Nat) (xs : List Value), k + c = zs.length ∧ i = .int .i64 k ∧ wr.ownsRow w.heap.size 3 1 (.slice (some ⟨w.heap.size, 0, none⟩) zs.length zs.length) zs.length xs ∧ (∀ j, j < k → xs[j]? = some (.int .i64 (zs.getD j 0))) ∧ Below w.heap.size w wr)
  case atStart => exact ⟨0, _, by omega, rfl, Hown.out, fun j hj => absurd hj (Nat.not_lt_zero _), Hb1.out⟩
  case round =>
    obtain ⟨k, xs, hk, rfl, ho, hx, hbr⟩ := hrel
    have Ho := Lib.hid ho
    have Hx := Lib.hid hx
    have Hbr := Lib.hid hbr
    clear ho hx hbr
    by_cases hlt : k < zs.length
    · obtain ⟨g, rfl, hc⟩ := HA.out (by omega)
      have hck := (Hbr.out.cell (World.block_lt_of_cell? w _ (hc k hlt))).trans (hc k hlt)
      have hxl : k < xs.length := by have := Ho.out.1; omega
      have hco := (Ho.out.cellAt k (by omega)).trans (List.getElem?_eq_getElem hxl)
      have hfo := Ho.out.frozenAt k
      obtain ⟨z, hz⟩ : ∃ z, z = zs.getD k 0 := ⟨_, rfl⟩
      rw [← hz] at hck
      have Hz := Lib.hid hz
      clear hc hz
      go_wp2_with fail
      go_roundg (gk - 1)
      case rel =>
        obtain ⟨h1, h2⟩ := Ho.out.stored k (.int .i64 z)
        refine ⟨k + 1, _, by omega, by go_num, h1, fun j hj => ?_, Hbr.out.grown h2 Hbr.out.size (fun _ e => by cases e; exact Nat.le_refl _)⟩
        by_cases hjk : j = k
        · subst hjk; rw [List.getElem?_set_self hxl, Hz.out]
        · rw [List.getElem?_set_ne (by omega)]; exact Hx.out j (by omega)
      case measure => omega
    · have hk2 : k = zs.length := by omega
      have hxs : xs = intsV zs := by
        apply List.ext_getElem?
        intro j
        have hxl := Ho.out.1
        by_cases hj : j < zs.length
        · rw [Hx.out j (by omega)]
          simp [intsV, List.getD, hj]
        · rw [List.getElem?_eq_none (by omega), List.getElem?_eq_none (by simp [intsV]; omega)]
      have Hxs := Lib.hid hxs
      clear hxs hk2
      go_wp2_with fail
      go_ret
      exact ⟨rfl, by rw [← Hxs.out]; exact Ho.out, Hbr.out⟩


end Go.Proofs.YtgnmlijfenjehaaDoor
