/-
  Plain facts: the orders of elements that turn one structure into another one, and how they are enumerated. No condition.
-/
import Derived.Test.YtgnmlijfenjehaaDoorStPlain
namespace Go.Proofs.YtgnmlijfenjehaaDoor
namespace Pl

/-- an element behind an order is to the elements as the next element of the other structure -/
def fitsB (a b : St) (o : List Nat) (x : Nat) : Bool :=
  a.inS x == b.inS o.length && a.inR x x == b.inR o.length o.length && (List.range o.length).all fun k => a.inR x (o.getD k 0) == b.inR o.length k && a.inR (o.getD k 0) x == b.inR k o.length

/-- the element can be placed next -/
def nextB (a b : St) (o : List Nat) (x : Nat) : Bool := !o.contains x && fitsB a b o x

/-- all orders that begin with one, m elements more -/
def shapes (a b : St) : Nat → List Nat → List (List Nat)
  | 0, o => [o]
  | m + 1, o => (List.range a.n).flatMap fun x => if nextB a b o x then shapes a b m (o ++ [x]) else []

/-- some elements of a are to each other as the first ones of b -/
structure Fits (a b : St) (o : List Nat) : Prop where
  nodup : o.Nodup
  lt : ∀ x ∈ o, x < a.n
  set : ∀ i, i < o.length → a.inS (o.getD i 0) = b.inS i
  rel : ∀ i j, i < o.length → j < o.length → a.inR (o.getD i 0) (o.getD j 0) = b.inR i j

theorem Fits.nil (a b : St) : Fits a b [] := ⟨by simp, by simp, fun i h => absurd h (Nat.not_lt_zero _), fun i j h => absurd h (Nat.not_lt_zero _)⟩

theorem getD_snoc_lt {o : List Nat} {x i : Nat} (h : i < o.length) : (o ++ [x]).getD i 0 = o.getD i 0 := by
  simp [List.getD, List.getElem?_append_left h]
theorem getD_snoc_eq {o : List Nat} {x : Nat} : (o ++ [x]).getD o.length 0 = x := by
  simp [List.getD]

theorem fits_snoc {a b : St} {o : List Nat} {x : Nat} : Fits a b (o ++ [x]) ↔ Fits a b o ∧ x < a.n ∧ nextB a b o x = true := by
  unfold nextB fitsB
  simp only [Bool.and_eq_true, Bool.not_eq_true', List.contains_eq_mem, decide_eq_false_iff_not, beq_iff_eq, List.all_eq_true, List.mem_range]
  constructor
  · intro h
    have hnd := h.nodup
    rw [List.nodup_append] at hnd
    obtain ⟨h1, _, h3⟩ := hnd
    refine ⟨⟨h1, fun y hy => h.lt y (by simp [hy]), fun i hi => ?_, fun i j hi hj => ?_⟩, h.lt x (by simp), fun hx => h3 x hx x (by simp) rfl, ⟨?_, ?_⟩, fun k hk => ⟨?_, ?_⟩⟩
    · have := h.set i (by simp; omega)
      rwa [getD_snoc_lt hi] at this
    · have := h.rel i j (by simp; omega) (by simp; omega)
      rwa [getD_snoc_lt hi, getD_snoc_lt hj] at this
    · have := h.set o.length (by simp)
      rwa [getD_snoc_eq] at this
    · have := h.rel o.length o.length (by simp) (by simp)
      rwa [getD_snoc_eq] at this
    · have := h.rel o.length k (by simp) (by simp; omega)
      rwa [getD_snoc_eq, getD_snoc_lt hk] at this
    · have := h.rel k o.length (by simp; omega) (by simp)
      rwa [getD_snoc_eq, getD_snoc_lt hk] at this
  · rintro ⟨h, hx, hn, ⟨hs, hr⟩, hk⟩
    refine ⟨?_, ?_, fun i hi => ?_, fun i j hi hj => ?_⟩
    · rw [List.nodup_append]
      exact ⟨h.nodup, by simp, fun y hy z hz => by simp only [List.mem_singleton] at hz; subst hz; rintro rfl; exact hn hy⟩
    · intro y hy
      rcases List.mem_append.1 hy with hy | hy
      · exact h.lt y hy
      · simp only [List.mem_singleton] at hy; subst hy; exact hx
    · simp only [List.length_append, List.length_singleton] at hi
      by_cases e : i = o.length
      · subst e; rw [getD_snoc_eq]; exact hs
      · rw [getD_snoc_lt (by omega)]; exact h.set i (by omega)
    · simp only [List.length_append, List.length_singleton] at hi hj
      by_cases e : i = o.length
      · subst e
        by_cases e2 : j = o.length
        · subst e2; rw [getD_snoc_eq]; exact hr
        · rw [getD_snoc_eq, getD_snoc_lt (by omega)]; exact (hk j (by omega)).1
      · by_cases e2 : j = o.length
        · subst e2; rw [getD_snoc_eq, getD_snoc_lt (by omega)]; exact (hk i (by omega)).2
        · rw [getD_snoc_lt (by omega), getD_snoc_lt (by omega)]; exact h.rel i j (by omega) (by omega)

theorem Fits.prefix {a b : St} {o : List Nat} : ∀ (t : List Nat), Fits a b (o ++ t) → Fits a b o := by
  intro t
  induction t generalizing o with
  | nil => intro h; simpa using h
  | cons x t ih =>
    intro h
    have h2 : Fits a b ((o ++ [x]) ++ t) := by simpa using h
    exact (fits_snoc.1 (ih h2)).1

theorem mem_shapes {a b : St} : ∀ (m : Nat) (o l : List Nat), Fits a b o → (l ∈ shapes a b m o ↔ ∃ t, l = o ++ t ∧ t.length = m ∧ Fits a b l) := by
  intro m
  induction m with
  | zero =>
    intro o l h
    simp only [shapes, List.mem_singleton]
    constructor
    · rintro rfl; exact ⟨[], by simp, rfl, h⟩
    · rintro ⟨t, rfl, ht, _⟩; rw [List.eq_nil_of_length_eq_zero ht]; simp
  | succ m ih =>
    intro o l h
    simp only [shapes, List.mem_flatMap, List.mem_range]
    constructor
    · rintro ⟨x, hx, hl⟩
      by_cases hn : nextB a b o x = true
      · rw [if_pos hn] at hl
        obtain ⟨t, rfl, ht, hf⟩ := (ih _ _ (fits_snoc.2 ⟨h, hx, hn⟩)).1 hl
        exact ⟨x :: t, by simp, by simp [ht], hf⟩
      · rw [if_neg hn] at hl; cases hl
    · rintro ⟨t, rfl, ht, hf⟩
      match t, ht with
      | x :: t, ht =>
        have h2 : Fits a b ((o ++ [x]) ++ t) := by simpa using hf
        have h3 := fits_snoc.1 (Fits.prefix t h2)
        refine ⟨x, h3.2.1, ?_⟩
        rw [if_pos h3.2.2]
        exact (ih _ _ (Fits.prefix t h2)).2 ⟨t, by simp, by simpa using ht, hf⟩

theorem shapes_nodup {a b : St} : ∀ (m : Nat) (o : List Nat), Fits a b o → (shapes a b m o).Nodup := by
  intro m
  induction m with
  | zero => intro o _; simp [shapes]
  | succ m ih =>
    intro o h
    simp only [shapes]
    have key : ∀ (xs : List Nat), xs.Nodup → (∀ x ∈ xs, x < a.n) → (xs.flatMap fun x => if nextB a b o x then shapes a b m (o ++ [x]) else []).Nodup := by
      intro xs
      induction xs with
      | nil => intro _ _; simp
      | cons x xs ihx =>
        intro hnd hlt
        rw [List.flatMap_cons, List.nodup_append]
        obtain ⟨h1, h2⟩ := List.nodup_cons.1 hnd
        refine ⟨?_, ihx h2 (fun y hy => hlt y (by simp [hy])), ?_⟩
        · by_cases hn : nextB a b o x = true
          · rw [if_pos hn]; exact ih _ (fits_snoc.2 ⟨h, hlt x (by simp), hn⟩)
          · rw [if_neg hn]; simp
        · rintro l hl m' hm rfl
          by_cases hn : nextB a b o x = true
          · rw [if_pos hn] at hl
            obtain ⟨t, rfl, _, _⟩ := (mem_shapes m _ _ (fits_snoc.2 ⟨h, hlt x (by simp), hn⟩)).1 hl
            rw [List.mem_flatMap] at hm
            obtain ⟨y, hy, hm⟩ := hm
            by_cases hn2 : nextB a b o y = true
            · rw [if_pos hn2] at hm
              obtain ⟨t2, e, _, _⟩ := (mem_shapes m _ _ (fits_snoc.2 ⟨h, hlt y (by simp [hy]), hn2⟩)).1 hm
              have e2 : x = y := by simpa using congrArg (fun l => l.getD o.length 0) e
              subst e2
              exact h1 hy
            · rw [if_neg hn2] at hm; cases hm
          · rw [if_neg hn] at hl; cases hl
    exact key _ List.nodup_range (fun x hx => List.mem_range.1 hx)

/-- all orders that turn a into b -/
def isos (a b : St) : List (List Nat) := shapes a b a.n []

theorem mem_isos {a b : St} {l : List Nat} : l ∈ isos a b ↔ l.length = a.n ∧ Fits a b l := by
  unfold isos
  rw [mem_shapes _ _ _ (Fits.nil a b)]
  constructor
  · rintro ⟨t, rfl, ht, hf⟩; exact ⟨by simpa using ht, hf⟩
  · rintro ⟨ht, hf⟩; exact ⟨l, by simp, ht, hf⟩

theorem isos_nodup (a b : St) : (isos a b).Nodup := shapes_nodup _ _ (Fits.nil a b)

end Pl
end Go.Proofs.YtgnmlijfenjehaaDoor
