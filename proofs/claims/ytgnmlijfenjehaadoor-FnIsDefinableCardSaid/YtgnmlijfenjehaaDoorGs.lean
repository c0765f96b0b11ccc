/-
  Whether two lists of numbers are equal, and whether a list has a number, as the laws ask. Condition: at most 2^20 numbers.
-/
import Derived.Test.YtgnmlijfenjehaaDoorList
import Derived.BigQuiet
namespace Go.Proofs.YtgnmlijfenjehaaDoor
open Go.RowKit
open Pl
set_option linter.unusedSimpArgs false
set_option linter.unusedVariables false

set_option maxHeartbeats 400000 in
theorem gsHas_calls (A : Option Addr) (zs : List Int) (cap : Nat) (x : Int) (w : World) (hn : zs.length ≤ 1048576) (hA : LRow w A zs) :
    Calls Tryd.prog 18 #[.slice A zs.length cap, .int .i64 x] w fun e w' => e = .returned (.bool (decide (x ∈ zs))) ∧ w = w' := by
  have HA := Lib.hid hA
  obtain ⟨V, hV⟩ : ∃ V, V = decide (x ∈ zs) := ⟨_, rfl⟩
  rw [← hV]
  have HV := Lib.hid hV
  clear hA hV
  go_enter Tryd.func18, Tryd.ntmps18
  go_wp2_with fail
  go_loop [5] (fun i => ∃ k : Nat, k ≤ zs.length ∧ i = .int .i64 k ∧ ∀ j, j < k → zs.getD j 0 ≠ x) (fun i => zs.length - (intOf i).toNat)
  case atStart => exact ⟨0, Nat.zero_le _, rfl, fun j hj => absurd hj (Nat.not_lt_zero _)⟩
  case round =>
    obtain ⟨k, hk, rfl, hno⟩ := hrel
    have Hno := Lib.hid hno
    clear hno
    by_cases hlt : k < zs.length
    · obtain ⟨g, rfl, hc⟩ := HA.out (by omega)
      have hck := hc k hlt
      have hmem := getD_mem hlt
      obtain ⟨z, hz⟩ : ∃ z, z = zs.getD k 0 := ⟨_, rfl⟩
      rw [← hz] at hck hmem
      have Hz := Lib.hid hz
      clear hc hz
      by_cases hx : z = x
      · have hb : (z == x) = true := beq_iff_eq.2 hx
        subst hx
        have Hm := Lib.hid hmem
        clear hmem
        go_wp2_with fail
        go_ret
        exact ⟨by rw [HV.out, decide_eq_true Hm.out]; rfl, rfl⟩
      · have hb : (z == x) = false := beq_eq_false_iff_ne.2 hx
        have Hx := Lib.hid hx
        clear hmem hx
        go_wp2_with fail
        go_round
        case rel =>
          refine ⟨k + 1, by omega, by go_num, fun j hj => ?_⟩
          by_cases hjk : j = k
          · subst hjk; rw [← Hz.out]; exact Hx.out
          · exact Hno.out j (by omega)
        case measure => simp [intOf]; omega
    · have hne : ¬ x ∈ zs := fun h => by
        obtain ⟨j, hj, e⟩ := mem_getD h
        exact absurd e (Hno.out j (by omega))
      have Hne := Lib.hid hne
      clear hne
      go_wp2_with fail
      go_ret
      exact ⟨by rw [HV.out, decide_eq_false Hne.out]; rfl, rfl⟩

theorem getD_eq {xs ys : List Int} (hl : xs.length = ys.length) (h : ∀ j, j < xs.length → xs.getD j 0 = ys.getD j 0) : xs = ys := by
  apply List.ext_getElem hl
  intro i h1 h2
  have := h i h1
  simpa [List.getD, h1, h2] using this

end Go.Proofs.YtgnmlijfenjehaaDoor
