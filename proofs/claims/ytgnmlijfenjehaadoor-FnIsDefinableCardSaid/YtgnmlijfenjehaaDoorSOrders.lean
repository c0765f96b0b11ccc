/-
  l1Orders of the reference: how many orders fit. Condition: valid structures of one size.
-/
import Derived.Test.YtgnmlijfenjehaaDoorApp
import Derived.Test.YtgnmlijfenjehaaDoorCount
namespace Go.Proofs.YtgnmlijfenjehaaDoor
open Go.RowKit
open Pl
set_option linter.unusedSimpArgs false
set_option linter.unusedVariables false

/-- what l1Fits says -/
def FitsC (a b : St) : Prop := ∀ (o : List Nat), (∀ y ∈ o, y < a.n) → o.length < a.n → ∀ x, x < a.n → ∀ (ga gb c1 c2 : Nat) (w : World), LRow w (some ⟨ga, 0, none⟩) (natsI (o ++ [x])) → LRow w (some ⟨gb, 0, none⟩) (natsI (List.range (o.length + 1))) →
    Calls Tryd.prog 87 #[stA a, .slice (some ⟨ga, 0, none⟩) (o.length + 1) c1, stA b, .slice (some ⟨gb, 0, none⟩) (o.length + 1) c2] w fun e w' => e = .returned (.bool (nextB a b o x)) ∧ Below w.heap.size w w'

/-- a number, and some list -/
def NumL (n : Nat) (e : Ending) : Prop := ∃ F k cap, e = .returned (.tuple #[.int .i64 (n : Nat), .slice F k cap])

end Go.Proofs.YtgnmlijfenjehaaDoor
