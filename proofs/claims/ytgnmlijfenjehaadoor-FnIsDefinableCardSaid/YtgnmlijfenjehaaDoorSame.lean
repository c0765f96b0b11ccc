/-
  SameShape, the program's and the reference's. Condition: texts below the reach.
-/
import Derived.Test.YtgnmlijfenjehaaDoorSOrder
import Derived.Test.YtgnmlijfenjehaaDoorSFits
namespace Go.Proofs.YtgnmlijfenjehaaDoor
open Go.RowKit
open Pl
set_option linter.unusedSimpArgs false
set_option linter.unusedVariables false

theorem fits_c (a b : St) (ha : a.ok) (hb : b.ok) (hab : a.n = b.n) : FitsC a b := fun o ho hl x hx ga gb c1 c2 w hA hB => l1Fits_calls a b ha hb hab o ho hl x hx ga gb c1 c2 w hA hB

theorem own_form' {w : World} {base n : Nat} {e : TypeId} {v : Value} {xs : List Value} (h : w.ownsRow base e 1 v n xs) (hn : 0 < n) : ∃ g cap, v = .slice (some ⟨g, 0, none⟩) n cap := by
  obtain ⟨_, ⟨_, h0⟩ | ⟨g, cap, _, hv, _⟩⟩ := h
  · omega
  · exact ⟨g, cap, hv⟩

/-- what the closure leaves -/
def SameP (w : World) (nb : Nat) (l : List Nat) (w' : World) : Prop := (∃ v, Bx w' nb 24 #[v] ∧ w'.ownsRow w.heap.size 3 1 v l.length (intsV (natsI l))) ∧ Below nb w w' ∧ ∀ B, nb < B → B ≤ w.heap.size → Kp B w w'

/-- the orders that turn one structure into the other -/
def shpL (i : Int) (s r : ByteArray) (j : Int) (t u : ByteArray) : List (List Nat) := if okB i s r && (okB j t u && decide (i = j)) then isos (ofSt i s r) (ofSt j t u) else []

theorem shp_cases (i : Int) (s r : ByteArray) (j : Int) (t u : ByteArray) : (okB i s r = false ∧ shpL i s r j t u = []) ∨ (okB i s r = true ∧ okB j t u = false ∧ shpL i s r j t u = []) ∨ (okB i s r = true ∧ okB j t u = true ∧ i ≠ j ∧ shpL i s r j t u = []) ∨
    ∃ a b : St, a.ok ∧ b.ok ∧ a.n = b.n ∧ i = a.n ∧ s = bs a.set ∧ r = bs a.rel ∧ j = b.n ∧ t = bs b.set ∧ u = bs b.rel ∧ shpL i s r j t u = isos a b := by
  rcases ok_cases i s r with h1 | ⟨a, ha, rfl, rfl, rfl⟩
  · exact .inl ⟨h1, by unfold shpL; rw [h1]; rfl⟩
  · have h1 := okB_true ha
    rcases ok_cases j t u with h2 | ⟨b, hb, rfl, rfl, rfl⟩
    · exact .inr (.inl ⟨h1, h2, by unfold shpL; rw [h1, h2]; rfl⟩)
    · have h2 := okB_true hb
      by_cases hab : a.n = b.n
      · exact .inr (.inr (.inr ⟨a, b, ha, hb, hab, rfl, rfl, rfl, rfl, rfl, rfl, by unfold shpL; rw [h1, h2, decide_eq_true (by omega)]; rfl⟩))
      · exact .inr (.inr (.inl ⟨h1, h2, by omega, by unfold shpL; rw [h1, h2, decide_eq_false (by omega)]; rfl⟩))

/-- a fresh list, the first of some -/
def ImpL (w : World) (L : List (List Nat)) (e : Ending) (w' : World) : Prop := ∃ v, e = .returned (.tuple #[v, .bool (!L.isEmpty)]) ∧ w'.ownsRow w.heap.size 3 1 v (L.headD []).length (intsV (natsI (L.headD [])))

/-- what lies in the variable -/
def FoundJ (w : World) (nb : Nat) (L : List (List Nat)) (V : World) : Prop := (∃ v, Bx V nb 24 #[v] ∧ (L = [] → v = .slice none 0 0) ∧ (∀ l, L = [l] → 0 < l.length ∧ V.ownsRow w.heap.size 3 1 v l.length (intsV (natsI l)))) ∧ Below w.heap.size w V

end Go.Proofs.YtgnmlijfenjehaaDoor
