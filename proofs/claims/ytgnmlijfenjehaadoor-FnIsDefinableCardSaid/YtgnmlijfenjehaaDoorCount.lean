/-
  CountSymmetries of the program. Condition: texts below the reach.
-/
import Derived.Test.YtgnmlijfenjehaaDoorEach2
import Derived.Test.YtgnmlijfenjehaaDoorPerms
namespace Go.Proofs.YtgnmlijfenjehaaDoor
open Go.RowKit
open Pl
set_option linter.unusedSimpArgs false
set_option linter.unusedVariables false

/-- a counter as the machine has it -/
def cnt : Nat → Int
  | 0 => 0
  | k + 1 => IntKind.i64.wrap (cnt k + 1)
theorem cnt_small : ∀ (k : Nat), k ≤ 1048576 → cnt k = k
  | 0, _ => rfl
  | k + 1, h => by
    show IntKind.i64.wrap (cnt k + 1) = _
    rw [cnt_small k (by omega), IntKind.wrap_i64]
    omega

theorem Kp.setCell {B : Nat} {W : World} {p : Addr} (hp : p.block < B) (u : Value) : Kp B W (W.setCell p u) :=
  ⟨by simp, fun k hk _ => Below.heap_setCell W p u k (by omega)⟩
theorem Kp.refl (B : Nat) (W : World) : Kp B W W := ⟨Nat.le_refl _, fun _ _ _ => rfl⟩

theorem fact_le : ∀ n, n ≤ 8 → fact n ≤ 40320
  | 0, _ => by decide
  | 1, _ => by decide
  | 2, _ => by decide
  | 3, _ => by decide
  | 4, _ => by decide
  | 5, _ => by decide
  | 6, _ => by decide
  | 7, _ => by decide
  | 8, _ => by decide
theorem fact_pos : ∀ n, 0 < fact n
  | 0 => by decide
  | n + 1 => Nat.mul_pos (Nat.succ_pos n) (fact_pos n)
theorem isos_le {a : St} (ha : a.ok) : (isos a a).length ≤ 40320 := by
  have h := Nat.le_of_dvd (by have := fact_pos a.n; omega) (count_dvd_fact a)
  have := fact_le a.n ha.hi
  omega

/-- the number of symmetries -/
def symV (i : Int) (s r : ByteArray) : Int := if okB i s r then ((isos (ofSt i s r) (ofSt i s r)).length : Int) else -1
theorem symV_no {i : Int} {s r : ByteArray} (h : okB i s r = false) : symV i s r = -1 := by unfold symV; rw [h]; rfl

end Go.Proofs.YtgnmlijfenjehaaDoor
