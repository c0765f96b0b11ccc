/-
  Contracts over any structure of small texts, as the laws ask them. Condition: texts below the reach.
-/
import Derived.Test.YtpaoffjicgmleaaDoorGs
import Derived.Test.YtpaoffjicgmleaaDoorWOrb
import Derived.Test.YtpaoffjicgmleaaDoorSym
import Derived.Test.YtpaoffjicgmleaaDoorPlLaws
namespace Go.Proofs.YtpaoffjicgmleaaDoor
open Go.RowKit
open Pl
set_option linter.unusedSimpArgs false
set_option linter.unusedVariables false

/-- contracts over any structure, as a law asks them -/
theorem orbI_any (i : Int) (s r : ByteArray) (x : Int) (hs : s.size ≤ 100) (hr : r.size ≤ 100) (W : World) :
    Calls Tryd.prog 29 #[stV i s r, .int .i64 x] W fun e w' => (∃ A cap, e = .returned (.slice A (orbV i s r x).length cap) ∧ LRow w' A (natsI (orbV i s r x))) ∧ Below W.heap.size W w' :=
  (OrbitOf_impl i s r x W (by unfold maxLen; omega) (by unfold maxLen; omega)).mono fun e w' ⟨⟨v, h1, h2⟩, h3⟩ => by
    obtain ⟨A, cap, rfl⟩ := own_slice2 h2
    exact ⟨⟨A, cap, h1, LRow_of h2⟩, h3⟩
theorem orbS_any (i : Int) (s r : ByteArray) (x : Int) (hs : s.size ≤ 100) (hr : r.size ≤ 100) (W : World) :
    Calls Tryd.prog 31 #[stV i s r, .int .i64 x] W fun e w' => (∃ A cap, e = .returned (.slice A (orbV i s r x).length cap) ∧ LRow w' A (natsI (orbV i s r x))) ∧ Below W.heap.size W w' :=
  (OrbitOf_spec i s r x W (by unfold maxLen; omega) (by unfold maxLen; omega)).mono fun e w' ⟨⟨v, h1, h2⟩, h3⟩ => by
    obtain ⟨A, cap, rfl⟩ := own_slice2 h2
    exact ⟨⟨A, cap, h1, LRow_of h2⟩, h3⟩
theorem natsI_inj {a b : List Nat} (h : natsI a = natsI b) : a = b := by
  unfold natsI at h
  have := congrArg (List.map Int.toNat) h
  simpa [List.map_map, Function.comp_def] using this
theorem same_any (A C : Option Addr) (c1 c2 : Nat) (xs ys : List Nat) (W : World) (hx : xs.length ≤ 100) (hy : ys.length ≤ 100) (h1 : LRow W A (natsI xs)) (h2 : LRow W C (natsI ys)) :
    Calls Tryd.prog 30 #[.slice A xs.length c1, .slice C ys.length c2] W fun e w' => e = .returned (.bool (decide (xs = ys))) ∧ Below W.heap.size W w' := by
  have h := gsSame_calls A C c1 c2 (natsI xs) (natsI ys) W (by rw [natsI_len]; omega) (by rw [natsI_len]; omega) h1 h2
  rw [natsI_len, natsI_len] at h
  rwa [show decide (natsI xs = natsI ys) = decide (xs = ys) from decide_eq_decide.2 ⟨natsI_inj, fun e => by rw [e]⟩] at h
theorem has_any (A : Option Addr) (c : Nat) (xs : List Nat) (x : Nat) (W : World) (hx : xs.length ≤ 100) (h1 : LRow W A (natsI xs)) :
    Calls Tryd.prog 32 #[.slice A xs.length c, .int .i64 (x : Nat)] W fun e w' => e = .returned (.bool (decide (x ∈ xs))) ∧ W = w' := by
  have h := gsHas_calls A (natsI xs) c x W (by rw [natsI_len]; omega) h1
  rw [natsI_len] at h
  rwa [show decide ((x : Int) ∈ natsI xs) = decide (x ∈ xs) from decide_eq_decide.2 ⟨fun h => by
    obtain ⟨a, ha, e⟩ := List.mem_map.1 h
    have : a = x := by omega
    exact this ▸ ha, fun h => List.mem_map.2 ⟨x, h, rfl⟩⟩] at h

theorem fact_le8 : ∀ {n : Nat}, n ≤ 8 → fact n ≤ 40320 ∧ 0 < fact n := by
  intro n h
  have : n = 0 ∨ n = 1 ∨ n = 2 ∨ n = 3 ∨ n = 4 ∨ n = 5 ∨ n = 6 ∨ n = 7 ∨ n = 8 := by omega
  rcases this with rfl | rfl | rfl | rfl | rfl | rfl | rfl | rfl | rfl <;> decide

end Go.Proofs.YtpaoffjicgmleaaDoor
