/-
  Marks in lists: markIntS and heldIntS of the laws. Condition: at most 2^20 numbers.
-/
import Derived.Test.YtgnmlijfenjehaaDoorApp
namespace Go.Proofs.YtgnmlijfenjehaaDoor
open Go.RowKit
open Pl
set_option linter.unusedSimpArgs false
set_option linter.unusedVariables false

/-- the marks -/
def marksI (n : Nat) : List Int := (List.range n).map fun j : Nat => 1 + (j : Int)
theorem marks_len (n : Nat) : (marksI n).length = n := by simp [marksI]
theorem marks_get {n j : Nat} (h : j < n) : (marksI n).getD j 0 = 1 + (j : Int) := by simp [marksI, List.getD, h]

theorem own_form0 {w : World} {base n : Nat} {e : TypeId} {v : Value} {xs : List Value} (h : w.ownsRow base e 1 v n xs) (hn : 0 < n) : ∃ g cap, v = .slice (some ⟨g, 0, none⟩) n cap := by
  obtain ⟨_, ⟨_, h0⟩ | ⟨g, cap, _, hv, _⟩⟩ := h
  · omega
  · exact ⟨g, cap, hv⟩

end Go.Proofs.YtgnmlijfenjehaaDoor
