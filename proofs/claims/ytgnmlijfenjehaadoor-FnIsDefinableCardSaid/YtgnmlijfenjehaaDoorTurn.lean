/-
  TurnStructure, the program's and the reference's. Condition: texts below the reach.
-/
import Derived.Test.YtgnmlijfenjehaaDoorMk
namespace Go.Proofs.YtgnmlijfenjehaaDoor
open Go.RowKit
open Pl
set_option linter.unusedSimpArgs false
set_option linter.unusedVariables false

/-- a structure and whether there is one -/
def resV : Option St → Value
  | some a => .tuple #[stA a, .bool true]
  | none => .tuple #[stV 0 (bs []) (bs []), .bool false]

def turnO (i : Int) (s r : ByteArray) : Option St := if okB i s r then some (ofSt i s r).turn else none

theorem box_load {w : World} {g : Nat} {a b c : Value} {t : TypeId} (h : Bx w g t #[a, b, c]) : w.cell? ⟨g, 0, none⟩ = some a ∧ w.cell? ⟨g, 1, none⟩ = some b ∧ w.cell? ⟨g, 2, none⟩ = some c :=
  ⟨h.cell 0, h.cell 1, h.cell 2⟩

/-- the bits of a structure that is made, as lists -/
theorem mkSt_set (n : Nat) (f : Nat → Bool) (g : Nat → Nat → Bool) : (mkSt n f g).set = setTo f n := rfl
theorem mkSt_rel (n : Nat) (f : Nat → Bool) (g : Nat → Nat → Bool) : (mkSt n f g).rel = relTo n g n := rfl
theorem setTo_self {a : St} (ha : a.ok) : setTo a.inS a.n = a.set := by rw [← mkSt_set a.n a.inS a.inR, mkSt_self ha]

theorem enter_inSet : ∀ (args : Array Value) (w : World), (callFunc 77 args).run Tryd.prog w = .ok (.enter 77 args) w := enter_of Tryd.func77 (by kernel_rfl) (by kernel_rfl)

end Go.Proofs.YtgnmlijfenjehaaDoor
