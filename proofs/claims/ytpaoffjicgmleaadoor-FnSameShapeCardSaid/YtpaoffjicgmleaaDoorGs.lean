/-
  Whether two lists of numbers are equal, and whether a list has a number, as the laws ask. Condition: at most 2^20 numbers.
-/
import Derived.Test.YtpaoffjicgmleaaDoorList
import Derived.BigQuiet
namespace Go.Proofs.YtpaoffjicgmleaaDoor
open Go.RowKit
open Pl
set_option linter.unusedSimpArgs false
set_option linter.unusedVariables false

set_option maxHeartbeats 400000 in
theorem gsHas_calls (A : Option Addr) (zs : List Int) (cap : Nat) (x : Int) (w : World) (hn : zs.length ≤ 1048576) (hA : LRow w A zs) :
    Calls Tryd.prog 32 #[.slice A zs.length cap, .int .i64 x] w fun e w' => e = .returned (.bool (decide (x ∈ zs))) ∧ w = w' := by
  have HA := Lib.hid hA
  obtain ⟨V, hV⟩ : ∃ V, V = decide (x ∈ zs) := ⟨_, rfl⟩
  rw [← hV]
  have HV := Lib.hid hV
  clear hA hV
  go_enter Tryd.func32, Tryd.ntmps32
  go_wp2_with fail
  go_loop [5] (fun i => ∃ k : Nat, k ≤ zs.length ∧ i = .int .i64 k ∧ ∀ j, j < k → zs.getD j 0 ≠ x) (fun i => zs.length - (intOf i).toNat)
  case atStart => exact ⟨0, Nat.zero_le _, rfl, fun j hj => absurd hj (Nat.not_lt_zero _)⟩
  case round =>
    obtain ⟨k, hk, rfl, hno⟩ := hrel
    have Hno := Lib.hid hno
    clear hno
    by_cases hlt : k < zs.length
    · obtain ⟨g, rfl, hc⟩ := HA.out (by omega)
      have hck := hc k hlt
      have hmem := getD_mem hlt
      obtain ⟨z, hz⟩ : ∃ z, z = zs.getD k 0 := ⟨_, rfl⟩
      rw [← hz] at hck hmem
      have Hz := Lib.hid hz
      clear hc hz
      by_cases hx : z = x
      · have hb : (z == x) = true := beq_iff_eq.2 hx
        subst hx
        have Hm := Lib.hid hmem
        clear hmem
        go_wp2_with fail
        go_ret
        exact ⟨by rw [HV.out, decide_eq_true Hm.out]; rfl, rfl⟩
      · have hb : (z == x) = false := beq_eq_false_iff_ne.2 hx
        have Hx := Lib.hid hx
        clear hmem hx
        go_wp2_with fail
        go_round
        case rel =>
          refine ⟨k + 1, by omega, by go_num, fun j hj => ?_⟩
          by_cases hjk : j = k
          · subst hjk; rw [← Hz.out]; exact Hx.out
          · exact Hno.out j (by omega)
        case measure => simp [intOf]; omega
    · have hne : ¬ x ∈ zs := fun h => by
        obtain ⟨j, hj, e⟩ := mem_getD h
        exact absurd e (Hno.out j (by omega))
      have Hne := Lib.hid hne
      clear hne
      go_wp2_with fail
      go_ret
      exact ⟨by rw [HV.out, decide_eq_false Hne.out]; rfl, rfl⟩

theorem getD_eq {xs ys : List Int} (hl : xs.length = ys.length) (h : ∀ j, j < xs.length → xs.getD j 0 = ys.getD j 0) : xs = ys := by
  apply List.ext_getElem hl
  intro i h1 h2
  have := h i h1
  simpa [List.getD, h1, h2] using this

set_option maxHeartbeats 400000 in
theorem gsSame_calls (A C : Option Addr) (c1 c2 : Nat) (xs ys : List Int) (w : World) (hm : xs.length ≤ 1048576) (hm2 : ys.length ≤ 1048576) (h1 : LRow w A xs) (h2 : LRow w C ys) :
    Calls Tryd.prog 30 #[.slice A xs.length c1, .slice C ys.length c2] w fun e w' => e = .returned (.bool (decide (xs = ys))) ∧ Below w.heap.size w w' := by
  have H1 := Lib.hid h1
  have H2 := Lib.hid h2
  clear h1 h2
  obtain ⟨V, hV⟩ : ∃ V, V = decide (xs = ys) := ⟨_, rfl⟩
  rw [← hV]
  have HV := Lib.hid hV
  clear hV
  by_cases hl : xs.length = ys.length
  · have hli : ((xs.length : Int) != (ys.length : Int)) = false := by simp; omega
    have hli3 : ¬ (xs.length : Int) ≠ (ys.length : Int) := by omega
    have hli2 : (xs.length : Int) = (ys.length : Int) := by omega
    have Hl := Lib.hid hl
    clear hl hli3
    go_enter Tryd.func30, Tryd.ntmps30
    go_wp2_with fail
    go_loopg [5] xs.length (fun c i wr => ∃ k : Nat, k + c = xs.length ∧ i = .int .i64 k ∧ Below w.heap.size w wr ∧ ∀ j, j < k → xs.getD j 0 = ys.getD j 0)
    case atStart => exact ⟨0, by omega, rfl, Below.refl _ _, fun j hj => absurd hj (Nat.not_lt_zero _)⟩
    case round =>
      obtain ⟨k, hk, rfl, hbr, hall⟩ := hrel
      have Hall := Lib.hid hall
      clear hall
      by_cases hlt : k < xs.length
      · obtain ⟨g, rfl, hc⟩ := H1.out (by omega)
        obtain ⟨g2, rfl, hc2⟩ := H2.out (by have := Hl.out; omega)
        have hlt2 : k < ys.length := by have := Hl.out; omega
        have d1 := (hbr.cell (World.block_lt_of_cell? w _ (hc k hlt))).trans (hc k hlt)
        have d2 := (hbr.cell (World.block_lt_of_cell? w _ (hc2 k hlt2))).trans (hc2 k hlt2)
        have Hbr := Lib.hid hbr
        obtain ⟨z1, hz1⟩ : ∃ z, z = xs.getD k 0 := ⟨_, rfl⟩
        obtain ⟨z2, hz2⟩ : ∃ z, z = ys.getD k 0 := ⟨_, rfl⟩
        rw [← hz1] at d1
        rw [← hz2] at d2
        have Z1 := Lib.hid hz1
        have Z2 := Lib.hid hz2
        have hki : (k : Int) < (ys.length : Int) := by omega
        clear hbr hc hc2 hz1 hz2
        by_cases hz : z1 = z2
        · have hb : (z1 != z2) = false := by simp [hz]
          subst hz
          go_upto_region 6 with (fail)
          go_quiet (fail)
          go_wp2_with fail
          go_roundg (xs.length - k - 1)
          case rel =>
            refine ⟨k + 1, by omega, by go_num, below_drewN' Hbr.out _, fun j hj => ?_⟩
            by_cases hjk : j = k
            · subst hjk; rw [← Z1.out, ← Z2.out]
            · exact Hall.out j (by omega)
          case measure => omega
        · have hb : (z1 != z2) = true := by simp [hz]
          have Hz := Lib.hid hz
          clear hz
          go_upto_region 6 with (fail)
          go_quiet (fail)
          go_wp2_with fail
          go_ret
          exact ⟨by rw [HV.out, decide_eq_false (fun e => Hz.out (by rw [Z1.out, Z2.out, e]))]; rfl, below_drewN' Hbr.out _⟩
      · have Hbr := Lib.hid hbr
        have hkl : k = xs.length := by omega
        have hke : xs = ys := getD_eq Hl.out (fun j hj => Hall.out j (by omega))
        have Hke := Lib.hid hke
        clear hbr hke hkl
        go_wp2_with fail
        go_ret
        exact ⟨by rw [HV.out, decide_eq_true Hke.out]; rfl, Hbr.out⟩
  · have hli : ((xs.length : Int) != (ys.length : Int)) = true := by simp; omega
    have hli2 : ¬ (xs.length : Int) = (ys.length : Int) := by omega
    have Hl := Lib.hid hl
    clear hl
    go_enter Tryd.func30, Tryd.ntmps30
    go_wp2_with fail
    go_ret
    exact ⟨by rw [HV.out, decide_eq_false (fun e => Hl.out (by rw [e]))]; rfl, Below.refl _ _⟩

end Go.Proofs.YtpaoffjicgmleaaDoor
