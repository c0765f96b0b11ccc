/-
  InSet and InRel, the program's and the reference's, and the laws' walks. Condition: texts below the reach.
-/
import Derived.Test.YtgnmlijfenjehaaDoorElems
namespace Go.Proofs.YtgnmlijfenjehaaDoor
open Go.RowKit
open Pl
set_option linter.unusedSimpArgs false
set_option linter.unusedVariables false

/-- the structure that is meant -/
def ofSt (i : Int) (s r : ByteArray) : St := ⟨i.toNat, s.data.toList, r.data.toList⟩
theorem ofSt_eq (a : St) : ofSt (a.n : Int) (bs a.set) (bs a.rel) = a := rfl

def inSetV (i : Int) (s r : ByteArray) (x : Int) : Bool := okB i s r && (elB i x && (ofSt i s r).inS x.toNat)
def inRelV (i : Int) (s r : ByteArray) (x y : Int) : Bool := okB i s r && (elB i x && (elB i y && (ofSt i s r).inR x.toNat y.toNat))

theorem el_cases (n : Nat) (x : Int) : elB n x = false ∨ ∃ k : Nat, x = k ∧ k < n ∧ elB n x = true := by
  cases h : elB n x with
  | false => exact .inl rfl
  | true =>
    right
    unfold elB at h
    simp only [Bool.and_eq_true, decide_eq_true_eq] at h
    exact ⟨x.toNat, by omega, by omega, rfl⟩

theorem el_in {n : Nat} {x : Int} (h : 1 ≤ n) : (decide (0 ≤ x) && decide (x ≤ (n : Int) - 1)) = elB n x := by
  unfold elB
  rw [show decide (x ≤ (n : Int) - 1) = decide (x < (n : Int)) from by rw [decide_eq_decide]; omega]

theorem st_bounds {a : St} (ha : a.ok) : (bs a.set).size ≤ maxLen ∧ (bs a.rel).size ≤ maxLen := by
  have h8 := ha.hi; have h1 := ha.sl; have h2 := ha.rl; have h3 := sq_le h8
  rw [bs_size, bs_size]
  unfold maxLen
  constructor <;> omega

end Go.Proofs.YtgnmlijfenjehaaDoor
