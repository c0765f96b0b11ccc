/-
  What lies in memory while the orders are told: lemmas. No condition.
-/
import Derived.Test.YtgnmlijfenjehaaDoorPlaced
import Derived.Test.YtgnmlijfenjehaaDoorShapes
import Derived.Maps.AppendAt
namespace Go.Proofs.YtgnmlijfenjehaaDoor
open Go.RowKit
open Pl
set_option linter.unusedSimpArgs false
set_option linter.unusedVariables false

/-- what lies from a block on is as it was -/
structure Kp (B : Nat) (W W' : World) : Prop where
  size : W.heap.size ≤ W'.heap.size
  block : ∀ k, B ≤ k → k < W.heap.size → W'.heap[k]? = W.heap[k]?

theorem Kp.of_below {B : Nat} {W W' : World} (h : Below W.heap.size W W') : Kp B W W' := ⟨h.size, fun k _ hk => h.block k hk⟩
theorem Bx.kp {w w' : World} {g B : Nat} {t : TypeId} {cs : Array Value} (h : Bx w g t cs) (hk : Kp B w w') (hg : B ≤ g) : Bx w' g t cs := (hk.block g hg h.lt).trans h
theorem Bx.grown {w w' : World} {g : Nat} {t : TypeId} {cs : Array Value} {row : Option Nat} (h : Bx w g t cs) (hg : w.grownBy w' row) (hne : some g ≠ row) : Bx w' g t cs := (hg.block g h.lt hne).trans h
theorem own_kp {W W' : World} {B base n : Nat} {e : TypeId} {v : Value} {xs : List Value} (h : W.ownsRow base e 1 v n xs) (hk : Kp B W W') (hB : B ≤ base) : W'.ownsRow base e 1 v n xs := by
  obtain ⟨h1, h2⟩ := h
  refine ⟨h1, ?_⟩
  rcases h2 with h2 | ⟨g, cap, cur, hv, hg, hh, r⟩
  · exact .inl h2
  · exact .inr ⟨g, cap, cur, hv, hg, (hk.block g (by omega) (Array.getElem?_eq_some_iff.1 hh).1).trans hh, r⟩
theorem own_far {W : World} {base n : Nat} {e : TypeId} {v : Value} {xs : List Value} (h : W.ownsRow base e 1 v n xs) {p : Addr} (hp : ∀ g, v.ownBlock = some g → g ≠ p.block) (u : Value) : (W.setCell p u).ownsRow base e 1 v n xs := by
  obtain ⟨h1, h2⟩ := h
  refine ⟨h1, ?_⟩
  rcases h2 with h2 | ⟨g, cap, cur, hv, hg, hh, r⟩
  · exact .inl h2
  · exact .inr ⟨g, cap, cur, hv, hg, (Below.heap_setCell W p u g (hp g (by rw [hv]; rfl))).trans hh, r⟩
theorem own_open {W : World} {base : Nat} {v : Value} {o : List Nat} (h : W.ownsRow base 3 1 v o.length (intsV (natsI o))) : ∃ A cap, v = .slice A o.length cap ∧ o.length ≤ cap ∧ LRow W A (natsI o) := by
  have h0 := h
  rcases h.2 with ⟨rfl, hn⟩ | ⟨g, cap, cur, rfl, _, _, hc, _⟩
  · exact ⟨none, 0, by rw [hn], by omega, fun hl => by rw [natsI_len] at hl; omega⟩
  · exact ⟨some ⟨g, 0, none⟩, cap, rfl, hc, LRow_of h0⟩
theorem own_back {W : World} {base : Nat} {v : Value} {o : List Nat} {x : Nat} (h : W.ownsRow base 3 1 v (o ++ [x]).length (intsV (natsI (o ++ [x])))) :
    ∃ g cap, v = .slice (some ⟨g, 0, none⟩) (o.length + 1) cap ∧ o.length + 1 ≤ cap ∧ W.ownsRow base 3 1 (.slice (some ⟨g, 0, none⟩) o.length cap) o.length (intsV (natsI o)) := by
  obtain ⟨h1, ⟨_, h0⟩ | ⟨g, cap, cur, hv, hg, hh, hn, hc, hs, ht⟩⟩ := h
  · simp at h0
  · rw [List.length_append, List.length_singleton] at hn hv
    refine ⟨g, cap, hv, hn, by simp [intsV, natsI], .inr ⟨g, cap, cur, rfl, hg, hh, by omega, hc, hs, ?_⟩⟩
    have ht2 := congrArg (List.take o.length) ht
    simp only [List.take_take, List.length_append, List.length_singleton, Nat.mul_one, intsV, natsI, List.map_append] at ht2 ⊢
    rw [Nat.min_eq_left (by omega)] at ht2
    rw [ht2, List.take_left' (by simp)]

theorem own_form {w : World} {base n : Nat} {e : TypeId} {v : Value} {xs : List Value} (h : w.ownsRow base e 1 v (n + 1) xs) : ∃ g cap, v = .slice (some ⟨g, 0, none⟩) (n + 1) cap := by
  obtain ⟨_, ⟨_, h0⟩ | ⟨g, cap, _, hv, _⟩⟩ := h
  · cases h0
  · exact ⟨g, cap, hv⟩

/-- the variables of the function that tells orders -/
def eEnv (W : World) (B : Nat) (a b : St) (tv : Value) : Prop :=
  Bx W B 27 #[.int .i64 a.n, .string (bs a.set), .string (bs a.rel)] ∧ Bx W (B + 1) 27 #[.int .i64 b.n, .string (bs b.set), .string (bs b.rel)] ∧ Bx W (B + 2) 49 #[tv] ∧ Bx W (B + 5) 114 #[.func (.func 90) #[] #[.pointer (some ⟨B + 4, 0, none⟩), .pointer (some ⟨B, 0, none⟩), .pointer (some ⟨B + 2, 0, none⟩), .pointer (some ⟨B + 1, 0, none⟩), .pointer (some ⟨B + 5, 0, none⟩)]]
/-- the order so far -/
def eRow (W : World) (B : Nat) (o : List Nat) : Prop :=
  ∃ v, Bx W (B + 4) 24 #[v] ∧ W.ownsRow (B + 3) 3 1 v o.length (intsV (natsI o)) ∧ ∀ k, v.ownBlock = some k → k ≠ B + 4 ∧ k ≠ B + 5

theorem eEnv.kp {W W' : World} {B : Nat} {a b : St} {tv : Value} (h : eEnv W B a b tv) (hk : Kp B W W') : eEnv W' B a b tv :=
  ⟨h.1.kp hk (Nat.le_refl _), h.2.1.kp hk (by omega), h.2.2.1.kp hk (by omega), h.2.2.2.kp hk (by omega)⟩
theorem eRow.kp {W W' : World} {B : Nat} {o : List Nat} (h : eRow W B o) (hk : Kp B W W') : eRow W' B o := by
  obtain ⟨v, h1, h2, h3⟩ := h
  exact ⟨v, h1.kp hk (by omega), own_kp h2 hk (by omega), h3⟩
theorem eEnv.lt {W : World} {B : Nat} {a b : St} {tv : Value} (h : eEnv W B a b tv) : B + 6 ≤ W.heap.size := by have := h.2.2.2.lt; omega
theorem eEnv.set {W : World} {B : Nat} {a b : St} {tv : Value} (h : eEnv W B a b tv) (u : Value) : eEnv (W.setCell ⟨B + 4, 0, none⟩ u) B a b tv :=
  ⟨h.1.far (by simp) _, h.2.1.far (by simp) _, h.2.2.1.far (by simp) _, h.2.2.2.far (by simp) _⟩

/-- behind an append: the order has one element more -/
theorem each_put {V w2 : World} {B : Nat} {a b : St} {tv v v' : Value} {o : List Nat} {k : Nat} (he : eEnv V B a b tv) (hb : Bx V (B + 4) 24 #[v]) (hown : V.ownsRow (B + 3) 3 1 v o.length (intsV (natsI o)))
    (hne : ∀ g, v.ownBlock = some g → g ≠ B + 4 ∧ g ≠ B + 5) (hown' : w2.ownsRow (B + 3) 3 1 v' (o.length + 1) (intsV (natsI o) ++ [.int .i64 (k : Nat)]))
    (hgr : (V.alloc (.cells #[.int .i64 (k : Nat)] 3)).grownBy w2 v.ownBlock) (hloc : v'.ownBlock = v.ownBlock ∨ v'.ownBlock = some (V.alloc (.cells #[.int .i64 (k : Nat)] 3)).heap.size) :
    eEnv (w2.setCell ⟨B + 4, 0, none⟩ v') B a b tv ∧ eRow (w2.setCell ⟨B + 4, 0, none⟩ v') B (o ++ [k]) ∧ Below B V (w2.setCell ⟨B + 4, 0, none⟩ v') := by
  have hsz := he.lt
  have hge : ∀ g, v.ownBlock = some g → B + 3 ≤ g := fun g hg => (hown.lt g hg).1
  have n0 : ∀ j, j < B + 3 → some j ≠ v.ownBlock := fun j hj e => by have := hge j e.symm; omega
  have n4 : some (B + 4) ≠ v.ownBlock := fun e => (hne _ e.symm).1 rfl
  have n5 : some (B + 5) ≠ v.ownBlock := fun e => (hne _ e.symm).2 rfl
  have hne' : ∀ g, v'.ownBlock = some g → g ≠ B + 4 ∧ g ≠ B + 5 := fun g hg => by
    rcases hloc with h | h
    · exact hne g (h ▸ hg)
    · rw [h] at hg
      injection hg with hg
      rw [World.size_alloc] at hg
      omega
  have he2 : eEnv w2 B a b tv := ⟨(he.1.alloc _).grown hgr (n0 _ (by omega)), (he.2.1.alloc _).grown hgr (n0 _ (by omega)), (he.2.2.1.alloc _).grown hgr (n0 _ (by omega)), (he.2.2.2.alloc _).grown hgr n5⟩
  have hb2 := (hb.alloc _).grown hgr n4
  refine ⟨he2.set _, ⟨v', by simpa using hb2.set 0 v', ?_, hne'⟩, (((Below.refl B V).alloc (by omega) _).grown hgr (by rw [World.size_alloc]; omega) (fun j hj => by have := hge j hj; omega)).setCell (by simp) _⟩
  rw [show (o ++ [k]).length = o.length + 1 by simp, show intsV (natsI (o ++ [k])) = intsV (natsI o) ++ [.int .i64 (k : Nat)] by simp [intsV, natsI]]
  exact own_far hown' (fun g hg => (hne' g hg).1) _

/-- the element is taken away again -/
theorem each_back {W : World} {B : Nat} {a b : St} {tv : Value} {o : List Nat} {k : Nat} (he : eEnv W B a b tv) (hr : eRow W B (o ++ [k])) :
    ∃ g cap, Bx W (B + 4) 24 #[.slice (some ⟨g, 0, none⟩) (o.length + 1) cap] ∧ o.length + 1 ≤ cap ∧ eEnv (W.setCell ⟨B + 4, 0, none⟩ (.slice (some ⟨g, 0, none⟩) o.length cap)) B a b tv ∧ eRow (W.setCell ⟨B + 4, 0, none⟩ (.slice (some ⟨g, 0, none⟩) o.length cap)) B o ∧ Below B W (W.setCell ⟨B + 4, 0, none⟩ (.slice (some ⟨g, 0, none⟩) o.length cap)) := by
  obtain ⟨v, hb, hown, hne⟩ := hr
  obtain ⟨g, cap, rfl, hc, ho⟩ := own_back hown
  refine ⟨g, cap, hb, hc, he.set _, ⟨_, by simpa using hb.set 0 _, own_far ho (fun j hj => (hne j hj).1) _, fun j hj => hne j hj⟩, (Below.refl B W).setCell (by simp) _⟩

/-- all of them, or the first alone -/
def told (c : Bool) (L : List (List Nat)) : List (List Nat) := if c then L else L.take 1
/-- the orders whose next element is below a number -/
def upTo (a b : St) (m : Nat) (o : List Nat) (k : Nat) : List (List Nat) := (List.range k).flatMap fun x => if nextB a b o x then shapes a b m (o ++ [x]) else []
theorem upTo_zero (a b : St) (m : Nat) (o : List Nat) : upTo a b m o 0 = [] := rfl
theorem upTo_succ (a b : St) (m : Nat) (o : List Nat) (k : Nat) : upTo a b m o (k + 1) = upTo a b m o k ++ (if nextB a b o k then shapes a b m (o ++ [k]) else []) := by
  unfold upTo; rw [List.range_succ, List.flatMap_append]; simp
theorem shapes_upTo (a b : St) (m : Nat) (o : List Nat) : shapes a b (m + 1) o = upTo a b m o a.n := rfl
theorem upTo_more (a b : St) (m : Nat) (o : List Nat) (k : Nat) : ∀ d, ∃ R, upTo a b m o (k + d) = upTo a b m o k ++ R
  | 0 => ⟨[], by simp⟩
  | d + 1 => by
    obtain ⟨R, h⟩ := upTo_more a b m o k d
    exact ⟨R ++ _, by rw [← Nat.add_assoc, upTo_succ, h, List.append_assoc]⟩
/-- where the first is told, the others are not -/
theorem told_stop {a b : St} {m k : Nat} {o : List Nat} (hk : k < a.n) (hn : nextB a b o k = true) (h0 : upTo a b m o k = []) (hs : (shapes a b m (o ++ [k])).isEmpty = false) :
    (shapes a b (m + 1) o).isEmpty = false ∧ told false (shapes a b (m + 1) o) = told false (shapes a b m (o ++ [k])) := by
  obtain ⟨R, h⟩ := upTo_more a b m o (k + 1) (a.n - (k + 1))
  rw [show k + 1 + (a.n - (k + 1)) = a.n by omega, upTo_succ, h0, hn] at h
  rw [shapes_upTo, h]
  generalize shapes a b m (o ++ [k]) = L at *
  cases L with
  | nil => cases hs
  | cons x L => simp [told]

end Go.Proofs.YtgnmlijfenjehaaDoor
