/-
  Plain facts: rank, counting and the variables of a formula, out of its operator, variables and parts, and out of its text. No condition.
-/
import Derived.Test.YtjmfldakfokoaaaParseA
namespace Go.Proofs.Ytjmfldakfokoaaa
open Pl

def Pl.Fm.rank : Fm → Nat
  | .neg p => p.rank | .con p q => max p.rank q.rank | .dis p q => max p.rank q.rank | .qu k _ p => p.rank + k.n | _ => 0

def Pl.Fm.counts : Fm → Bool
  | .neg p => p.counts | .con p q => p.counts || q.counts | .dis p q => p.counts || q.counts
  | .qu k _ p => isCoB k.b || p.counts | _ => false

/-- what an operator adds to the rank -/
def rankAdd (b : UInt8) : Nat := if isCoB b then b.toNat - 48 else if isQuB b then 1 else 0

theorem rank_eq (f : Fm) : f.rank = f.parts.foldl (fun m p => max m p.rank) 0 + rankAdd f.op := by
  cases f with
  | qu k v p => cases k <;> simp [Fm.rank, Fm.parts, Fm.op, rankAdd, isCoB, isQuB, Qn.b, Qn.n]
  | _ => simp [Fm.rank, Fm.parts, Fm.op, rankAdd, isCoB, isQuB]

theorem counts_eq (f : Fm) : f.counts = (isCoB f.op || f.parts.any Fm.counts) := by
  cases f with
  | qu k v p => cases k <;> simp [Fm.counts, Fm.parts, Fm.op, isCoB, Qn.b]
  | _ => simp [Fm.counts, Fm.parts, Fm.op, isCoB]

theorem rank_le (f : Fm) : f.rank ≤ 4 * f.text.length := by
  induction f with
  | qu k v p ih => cases k <;> simp [Fm.rank, Fm.text, Qn.n] <;> omega
  | neg p ih => simp [Fm.rank, Fm.text]; omega
  | con p q ihp ihq => simp [Fm.rank, Fm.text]; omega
  | dis p q ihp ihq => simp [Fm.rank, Fm.text]; omega
  | _ => simp [Fm.rank]

theorem vb_ge (v : Fin 4) : 97 ≤ (vb v).toNat := by revert v; decide

theorem counts_text (f : Fm) : f.counts = true ↔ ((50 : UInt8) ∈ f.text ∨ (51 : UInt8) ∈ f.text ∨ (52 : UInt8) ∈ f.text) := by
  have hv : ∀ v : Fin 4, (50 : UInt8) ≠ vb v ∧ (51 : UInt8) ≠ vb v ∧ (52 : UInt8) ≠ vb v := by decide
  induction f with
  | tru => simp [Fm.counts, Fm.text]
  | fls => simp [Fm.counts, Fm.text]
  | pr v => simp [Fm.counts, Fm.text, hv v]
  | eq v u => simp [Fm.counts, Fm.text, hv v, hv u]
  | rel v u => simp [Fm.counts, Fm.text, hv v, hv u]
  | neg p ih => simp [Fm.counts, Fm.text, ih]
  | con p q ihp ihq =>
    simp only [Fm.counts, Bool.or_eq_true, ihp, ihq, Fm.text, List.mem_cons, List.mem_append]
    constructor
    · rintro ((h | h | h) | (h | h | h)) <;> simp [h]
    · rintro ((h | h | h) | (h | h | h) | (h | h | h)) <;> first | (exact absurd h (by decide)) | simp [h]
  | dis p q ihp ihq =>
    simp only [Fm.counts, Bool.or_eq_true, ihp, ihq, Fm.text, List.mem_cons, List.mem_append]
    constructor
    · rintro ((h | h | h) | (h | h | h)) <;> simp [h]
    · rintro ((h | h | h) | (h | h | h) | (h | h | h)) <;> first | (exact absurd h (by decide)) | simp [h]
  | qu k v p ih =>
    cases k <;> simp [Fm.counts, Fm.text, Qn.b, isCoB, ih, hv v]

theorem bit_or (a b i : Nat) : (a ||| b).testBit i = (a.testBit i || b.testBit i) := Nat.testBit_or a b i

theorem bit_one (v w : Fin 4) : (1 <<< v.val).testBit w.val = decide (w = v) := by revert v w; decide

theorem all_text (f : Fm) (v : Fin 4) : f.allBits.testBit v.val = true ↔ vb v ∈ f.text := by
  have hb : ∀ u w : Fin 4, vb u = vb w ↔ u = w := fun u w => ⟨vb_inj, fun h => by rw [h]⟩
  have h1 : ∀ b ∈ [(116 : UInt8), 102, 80, 61, 69, 33, 38, 124, 65, 83, 50, 51, 52], vb v ≠ b := by revert v; decide
  induction f with
  | tru => simp [Fm.allBits, Fm.text, h1]
  | fls => simp [Fm.allBits, Fm.text, h1]
  | pr u => simp [Fm.allBits, Fm.text, h1, bit_one, hb, -Nat.testBit_shiftLeft]
  | eq u w => simp [Fm.allBits, Fm.text, h1, bit_one, hb, -Nat.testBit_shiftLeft]
  | rel u w => simp [Fm.allBits, Fm.text, h1, bit_one, hb, -Nat.testBit_shiftLeft]
  | neg p ih => simp [Fm.allBits, Fm.text, h1, ih]
  | con p q ihp ihq => simp [Fm.allBits, Fm.text, h1, ihp, ihq]
  | dis p q ihp ihq => simp [Fm.allBits, Fm.text, h1, ihp, ihq]
  | qu k u p ih => cases k <;> simp [Fm.allBits, Fm.text, Qn.b, h1, ih, bit_one, hb, -Nat.testBit_shiftLeft]

/-- the first k variables of a set -/
def varsL (m k : Nat) : List UInt8 := ((List.range k).filter fun i => m.testBit i).map fun i => UInt8.ofNat (97 + i)

theorem varsL_yes {m k : Nat} (h : m.testBit k = true) : varsL m (k + 1) = varsL m k ++ [UInt8.ofNat (97 + k)] := by
  simp [varsL, List.range_succ, List.filter_append, h]
theorem varsL_no {m k : Nat} (h : m.testBit k = false) : varsL m (k + 1) = varsL m k := by
  simp [varsL, List.range_succ, List.filter_append, h]

theorem varsL_len (m k : Nat) : (varsL m k).length ≤ k := by
  unfold varsL
  rw [List.length_map]
  exact Nat.le_trans (List.length_filter_le _ _) (by simp)

end Go.Proofs.Ytjmfldakfokoaaa
