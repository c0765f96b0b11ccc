/-
  Lists of numbers: a copy of a list, a list with one number more, in memory. No condition.
-/
import Derived.Test.YtgnmlijfenjehaaDoorEachA
namespace Go.Proofs.YtgnmlijfenjehaaDoor
open Go.RowKit
open Pl
set_option linter.unusedSimpArgs false
set_option linter.unusedVariables false

theorem LRow.news {w : World} {ga : Nat} {zs : List Int} (h : LRow w (some ⟨ga, 0, none⟩) zs) : ∀ j u, (intsV zs)[j]? = some u → w.cell? ((⟨ga, 0, none⟩ : Addr).add j) = some u := by
  intro j u hj
  have hl : j < zs.length := by
    have := (List.getElem?_eq_some_iff.1 hj).1
    simpa [intsV] using this
  obtain ⟨g, hg, hc⟩ := h (by omega)
  injection hg with hg
  injection hg with hg _
  subst hg
  have h2 := hc j hl
  simp only [intsV, List.getElem?_map, List.getElem?_eq_getElem hl, Option.map_some, Option.some.injEq] at hj
  subst hj
  have e : ((⟨ga, 0, none⟩ : Addr).add j) = ⟨ga, j, none⟩ := by
    rcases Nat.eq_zero_or_pos j with h0 | h0
    · subst h0; rfl
    · simp [Addr.add]; omega
  rw [e]
  simpa [List.getD, hl] using h2

theorem intsV_len (zs : List Int) : (intsV zs).length = zs.length := by simp [intsV]

/-- the empty list that the call makes -/
theorem own_zero (w : World) : (w.alloc (.cells #[] 3)).ownsRow w.heap.size 3 1 (.slice (some ⟨w.heap.size, 0, none⟩) 0 0) 0 [] :=
  ⟨rfl, .inr ⟨_, 0, #[], rfl, Nat.le_refl _, Bx.new w _ _, Nat.le_refl _, Nat.zero_le _, rfl, rfl⟩⟩

/-- behind a copy of a list -/
theorem app_one {w w1 : World} {v1 : Value} {n : Nat} {xs : List Value} (hown : w1.ownsRow w.heap.size 3 1 v1 (0 + n) ([] ++ xs)) (hg : (w.alloc (.cells #[] 3)).grownBy w1 (Value.ownBlock (.slice (some ⟨w.heap.size, 0, none⟩) 0 0))) :
    w1.ownsRow w.heap.size 3 1 v1 n xs ∧ Below w.heap.size w w1 := by
  refine ⟨by simpa using hown, ((Below.refl w.heap.size w).alloc (Nat.le_refl _) _).grown hg (by simp) (fun j hj => ?_)⟩
  simp [Value.ownBlock] at hj
  omega

/-- behind one number more -/
theorem app_two {w w1 w2 : World} {v1 v2 : Value} {o : List Nat} {x n : Nat} (hb : Below w.heap.size w w1) (hown1 : w1.ownsRow w.heap.size 3 1 v1 n (intsV (natsI o)))
    (hown : w2.ownsRow w.heap.size 3 1 v2 (n + 1) (intsV (natsI o) ++ [.int .i64 (x : Nat)])) (hg : (w1.alloc (.cells #[.int .i64 (x : Nat)] 3)).grownBy w2 v1.ownBlock) :
    ∃ g cap, v2 = .slice (some ⟨g, 0, none⟩) (n + 1) cap ∧ w.heap.size ≤ g ∧ LRow w2 (some ⟨g, 0, none⟩) (natsI (o ++ [x])) ∧ Below w.heap.size w w2 := by
  obtain ⟨g, cap, rfl⟩ := own_form hown
  have h2 : w2.ownsRow w.heap.size 3 1 (.slice (some ⟨g, 0, none⟩) (n + 1) cap) (n + 1) (intsV (natsI (o ++ [x]))) := by
    rw [show intsV (natsI (o ++ [x])) = intsV (natsI o) ++ [.int .i64 (x : Nat)] by simp [intsV, natsI]]
    exact hown
  refine ⟨g, cap, rfl, (hown.lt g rfl).1, LRow_of h2, (hb.alloc hb.size _).grown hg (by have := hb.size; simp; omega) (fun j hj => (hown1.lt j hj).1)⟩

theorem range_snoc (n : Nat) : List.range (n + 1) = List.range n ++ [n] := List.range_succ

/-- how many orders there are at most -/
theorem shapes_le {a b : St} (h : a.n ≤ 8) : ∀ (m : Nat) (o : List Nat), (shapes a b m o).length ≤ 8 ^ m := by
  have key : ∀ (m : Nat), (∀ o, (shapes a b m o).length ≤ 8 ^ m) → ∀ o k, (upTo a b m o k).length ≤ k * 8 ^ m := by
    intro m ih o k
    induction k with
    | zero => simp [upTo_zero]
    | succ k ihk =>
      rw [upTo_succ, List.length_append, Nat.succ_mul]
      have : (if nextB a b o k then shapes a b m (o ++ [k]) else []).length ≤ 8 ^ m := by
        split
        · exact ih _
        · simp
      omega
  intro m
  induction m with
  | zero => intro o; simp [shapes]
  | succ m ih =>
    intro o
    rw [shapes_upTo, Nat.pow_succ, Nat.mul_comm]
    exact Nat.le_trans (key m ih o a.n) (Nat.mul_le_mul_right _ h)
theorem upTo_le {a b : St} (h : a.n ≤ 8) (m : Nat) (o : List Nat) (k : Nat) : (upTo a b m o k).length ≤ k * 8 ^ m := by
  induction k with
  | zero => simp [upTo_zero]
  | succ k ihk =>
    rw [upTo_succ, List.length_append, Nat.succ_mul]
    have : (if nextB a b o k then shapes a b m (o ++ [k]) else []).length ≤ 8 ^ m := by
      split
      · exact shapes_le h _ _
      · simp
    omega
theorem pow8 {m : Nat} (h : m ≤ 8) : 8 ^ m ≤ 16777216 := Nat.pow_le_pow_right (by decide) h

end Go.Proofs.YtgnmlijfenjehaaDoor
