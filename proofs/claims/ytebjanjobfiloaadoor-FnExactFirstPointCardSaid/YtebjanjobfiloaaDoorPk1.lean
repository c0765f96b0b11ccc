/-
  Laws of the functions that the claim reaches, one after the other (packed by a program of the prover's: StPlain, Shapes, Perms, Sem, KeyP, Bs, Bits, Struct, Elems, In, Mk, Cache). Conditions: texts below the reach.
-/
import Derived.KernelRfl
import Derived.Test.YtebjanjobfiloaaDoorPk0
import Derived.Lib.Strings
import Derived.Lib.Hide
import Derived.WalkKit
import Derived.Test.YtebjanjobfiloaaDoorTrimLay
import Derived.Test.YtebjanjobfiloaaDoorRows
import Derived.Below
import Derived.WalkSpells
import Derived.WalkLawsBesides
import Derived.Deep.RegionHeld3
import Derived.Deep.RegionWith
import Derived.RegionTactic
import Derived.Deep.DrawnRows
import Derived.Deep.LoopGhost
import Derived.Deep.DeepCutAuto
set_option linter.unusedSimpArgs false
set_option linter.unusedVariables false

namespace Go.Proofs.YtebjanjobfiloaaDoor
namespace Pl

/-- a structure -/
structure St where
  n : Nat
  set : List UInt8
  rel : List UInt8

def IsBit (b : UInt8) : Prop := b = 48 ∨ b = 49

structure St.ok (a : St) : Prop where
  lo : 1 ≤ a.n
  hi : a.n ≤ 8
  sl : a.set.length = a.n
  rl : a.rel.length = a.n * a.n
  sb : ∀ b ∈ a.set, IsBit b
  rb : ∀ b ∈ a.rel, IsBit b

/-- an element is in the set; two are related -/
def St.inS (a : St) (x : Nat) : Bool := a.set.getD x 0 == 49
def St.inR (a : St) (x y : Nat) : Bool := a.rel.getD (x * a.n + y) 0 == 49

def bitB (b : Bool) : UInt8 := if b then 49 else 48

theorem bitB_isBit (b : Bool) : IsBit (bitB b) := by cases b <;> simp [bitB, IsBit]
theorem bitB_49 (b : Bool) : (bitB b == 49) = b := by cases b <;> rfl
theorem bitB_of {b : UInt8} (h : IsBit b) : bitB (b == 49) = b := by rcases h with rfl | rfl <;> rfl
theorem bitB_inj {a b : Bool} (h : bitB a = bitB b) : a = b := by cases a <;> cases b <;> first | rfl | exact absurd h (by decide)

theorem sq_le {n : Nat} (h : n ≤ 8) : n * n ≤ 64 := Nat.mul_le_mul h h

theorem cell_lt {n x y : Nat} (hx : x < n) (hy : y < n) : x * n + y < n * n := by
  have h1 : (x + 1) * n ≤ n * n := Nat.mul_le_mul_right n hx
  rw [Nat.succ_mul] at h1
  omega

/-- the structure with some elements in the set, and some related -/
def mkSt (n : Nat) (f : Nat → Bool) (g : Nat → Nat → Bool) : St :=
  ⟨n, (List.range n).map fun x => bitB (f x), (List.range n).flatMap fun x => (List.range n).map fun y => bitB (g x y)⟩

theorem flat_get {m : Nat} (g : Nat → Nat → UInt8) : ∀ (k : Nat), ((List.range k).flatMap fun x => (List.range m).map fun y => g x y).length = k * m ∧
    ∀ x y, x < k → y < m → ((List.range k).flatMap fun x => (List.range m).map fun y => g x y)[x * m + y]? = some (g x y) := by
  intro k
  induction k with
  | zero => exact ⟨by simp, fun x y h => absurd h (Nat.not_lt_zero _)⟩
  | succ k ih =>
    obtain ⟨h1, h2⟩ := ih
    rw [List.range_succ, List.flatMap_append]
    refine ⟨by simp only [List.length_append, h1, List.flatMap_cons, List.flatMap_nil, List.append_nil, List.length_map, List.length_range, Nat.succ_mul], fun x y hx hy => ?_⟩
    by_cases hxk : x < k
    · have hlt : x * m + y < k * m := by
        have h3 : (x + 1) * m ≤ k * m := Nat.mul_le_mul_right m hxk
        rw [Nat.succ_mul] at h3
        omega
      rw [List.getElem?_append_left (by rw [h1]; exact hlt)]
      exact h2 x y hxk hy
    · obtain rfl : x = k := by omega
      rw [List.getElem?_append_right (by rw [h1]; omega), h1]
      have e : x * m + y - x * m = y := by omega
      rw [e]
      simp [hy]

theorem mkSt_n (n : Nat) (f : Nat → Bool) (g : Nat → Nat → Bool) : (mkSt n f g).n = n := rfl

theorem mkSt_inS {n : Nat} {f : Nat → Bool} {g : Nat → Nat → Bool} {x : Nat} (h : x < n) : (mkSt n f g).inS x = f x := by
  unfold St.inS mkSt
  simp only [List.getD_eq_getElem?_getD, List.getElem?_map, List.getElem?_range h, Option.map_some, Option.getD_some, bitB_49]

theorem mkSt_inR {n : Nat} {f : Nat → Bool} {g : Nat → Nat → Bool} {x y : Nat} (hx : x < n) (hy : y < n) : (mkSt n f g).inR x y = g x y := by
  have h := (flat_get (m := n) (fun x y => bitB (g x y)) n).2 x y hx hy
  unfold St.inR mkSt
  simp only [List.getD_eq_getElem?_getD, h, Option.getD_some, bitB_49]

theorem mkSt_ok {n : Nat} {f : Nat → Bool} {g : Nat → Nat → Bool} (h1 : 1 ≤ n) (h8 : n ≤ 8) : (mkSt n f g).ok where
  lo := h1
  hi := h8
  sl := by simp [mkSt]
  rl := (flat_get (m := n) (fun x y => bitB (g x y)) n).1
  sb := by
    intro b hb
    simp only [mkSt, List.mem_map] at hb
    obtain ⟨x, _, rfl⟩ := hb
    exact bitB_isBit _
  rb := by
    intro b hb
    simp only [mkSt, List.mem_flatMap, List.mem_map] at hb
    obtain ⟨x, _, y, _, rfl⟩ := hb
    exact bitB_isBit _

theorem St.ext' {a b : St} (ha : a.ok) (hb : b.ok) (hn : a.n = b.n) (hs : ∀ x, x < a.n → a.inS x = b.inS x) (hr : ∀ x y, x < a.n → y < a.n → a.inR x y = b.inR x y) : a = b := by
  have key : ∀ (l m : List UInt8), l.length = m.length → (∀ c ∈ l, IsBit c) → (∀ c ∈ m, IsBit c) → (∀ i, i < l.length → (l.getD i 0 == 49) = (m.getD i 0 == 49)) → l = m := by
    intro l m hl h1 h2 h
    apply List.ext_getElem hl
    intro i hi hi2
    have h3 := h i hi
    have e1 : l.getD i 0 = l[i] := by simp [List.getD, hi]
    have e2 : m.getD i 0 = m[i] := by simp [List.getD, hi2]
    rw [e1, e2] at h3
    rw [← bitB_of (h1 _ (List.getElem_mem hi)), ← bitB_of (h2 _ (List.getElem_mem hi2)), h3]
  obtain ⟨n, s, r⟩ := a
  obtain ⟨n', s', r'⟩ := b
  have hn' : n = n' := hn
  subst hn'
  have hsl : s.length = n := ha.sl
  have hrl : r.length = n * n := ha.rl
  have hlo : 1 ≤ n := ha.lo
  have e1 : s = s' := key s s' (ha.sl.trans hb.sl.symm) ha.sb hb.sb (fun i hi => hs i (show i < n by omega))
  have e2 : r = r' := key r r' (ha.rl.trans hb.rl.symm) ha.rb hb.rb (fun i hi => by
    have h4 : ((r.getD (i / n * n + i % n) 0) == 49) = ((r'.getD (i / n * n + i % n) 0) == 49) := hr (i / n) (i % n) (show i / n < n from Nat.div_lt_of_lt_mul (by omega)) (show i % n < n from Nat.mod_lt _ (by omega))
    have e : i / n * n + i % n = i := by rw [Nat.mul_comm]; exact Nat.div_add_mod i n
    rw [e] at h4
    exact h4)
  subst e1 e2
  rfl

theorem mkSt_self {a : St} (ha : a.ok) : mkSt a.n a.inS a.inR = a :=
  St.ext' (mkSt_ok ha.lo ha.hi) ha rfl (fun _ h => mkSt_inS h) (fun _ _ hx hy => mkSt_inR hx hy)

theorem inS_get {a : St} (ha : a.ok) {x : Nat} (hx : x < a.n) : ∃ h : x < a.set.length, a.set[x] = bitB (a.inS x) := by
  have hl : x < a.set.length := by rw [ha.sl]; exact hx
  refine ⟨hl, ?_⟩
  unfold St.inS
  have e1 : a.set.getD x 0 = a.set[x] := by simp [List.getD, hl]
  rw [e1, bitB_of (ha.sb _ (List.getElem_mem hl))]

theorem inR_get {a : St} (ha : a.ok) {x y : Nat} (hx : x < a.n) (hy : y < a.n) : ∃ h : x * a.n + y < a.rel.length, a.rel[x * a.n + y] = bitB (a.inR x y) := by
  have hl : x * a.n + y < a.rel.length := by rw [ha.rl]; exact cell_lt hx hy
  refine ⟨hl, ?_⟩
  unfold St.inR
  have e1 : a.rel.getD (x * a.n + y) 0 = a.rel[x * a.n + y] := by simp [List.getD, hl]
  rw [e1, bitB_of (ha.rb _ (List.getElem_mem hl))]

/-! ### the operations -/

def St.part (a : St) (l : List Nat) : St := mkSt l.length (fun x => a.inS (l.getD x 0)) (fun x y => a.inR (l.getD x 0) (l.getD y 0))
def St.other (a : St) : St := mkSt a.n (fun x => !a.inS x) (fun x y => !a.inR x y)
def St.turn (a : St) : St := mkSt a.n a.inS (fun x y => a.inR y x)

/-- the reference's l1Flip -/
def flipL (l : List UInt8) : List UInt8 := l.map fun b => bitB (b == 48)

theorem flip_bit {b : UInt8} (h : IsBit b) : bitB (b == 48) = bitB (!(b == 49)) := by rcases h with rfl | rfl <;> rfl

theorem other_set {a : St} (ha : a.ok) : a.other.set = flipL a.set := by
  unfold St.other mkSt flipL
  simp only
  apply List.ext_getElem (by simp [ha.sl])
  intro i h1 h2
  simp only [List.length_map, List.length_range] at h1
  obtain ⟨hl, e⟩ := inS_get ha h1
  simp only [List.getElem_map, List.getElem_range]
  rw [flip_bit (ha.sb _ (List.getElem_mem hl)), e, bitB_49]

theorem other_rel {a : St} (ha : a.ok) : a.other.rel = flipL a.rel := by
  have hok := mkSt_ok (f := fun x => !a.inS x) (g := fun x y => !a.inR x y) ha.lo ha.hi
  have hfl : (St.mk a.n (flipL a.set) (flipL a.rel)).ok := {
    lo := ha.lo, hi := ha.hi, sl := by simp [flipL, ha.sl], rl := by simp [flipL, ha.rl]
    sb := by intro b hb; simp only [flipL, List.mem_map] at hb; obtain ⟨x, _, rfl⟩ := hb; exact bitB_isBit _
    rb := by intro b hb; simp only [flipL, List.mem_map] at hb; obtain ⟨x, _, rfl⟩ := hb; exact bitB_isBit _ }
  have : mkSt a.n (fun x => !a.inS x) (fun x y => !a.inR x y) = St.mk a.n (flipL a.set) (flipL a.rel) := by
    refine St.ext' hok hfl rfl (fun x hx0 => ?_) (fun x y hx hy => ?_)
    · have hx : x < a.n := hx0
      rw [mkSt_inS hx]
      obtain ⟨hl, e⟩ := inS_get ha hx
      have e1 : (flipL a.set).getD x 0 = bitB (a.set[x] == 48) := by simp [flipL, List.getD, hl]
      show (!a.inS x) = ((flipL a.set).getD x 0 == 49)
      rw [e1, bitB_49, e]
      cases a.inS x <;> rfl
    · have hx' : x < a.n := hx
      have hy' : y < a.n := hy
      rw [mkSt_inR hx' hy']
      obtain ⟨hl, e⟩ := inR_get ha hx' hy'
      have e1 : (flipL a.rel).getD (x * a.n + y) 0 = bitB (a.rel[x * a.n + y] == 48) := by simp [flipL, List.getD, hl]
      show (!a.inR x y) = ((flipL a.rel).getD (x * a.n + y) 0 == 49)
      rw [e1, bitB_49, e]
      cases a.inR x y <;> rfl
  unfold St.other
  rw [this]

end Pl
end Go.Proofs.YtebjanjobfiloaaDoor

namespace Go.Proofs.YtebjanjobfiloaaDoor
namespace Pl

/-- an element behind an order is to the elements as the next element of the other structure -/
def fitsB (a b : St) (o : List Nat) (x : Nat) : Bool :=
  a.inS x == b.inS o.length && a.inR x x == b.inR o.length o.length && (List.range o.length).all fun k => a.inR x (o.getD k 0) == b.inR o.length k && a.inR (o.getD k 0) x == b.inR k o.length

/-- the element can be placed next -/
def nextB (a b : St) (o : List Nat) (x : Nat) : Bool := !o.contains x && fitsB a b o x

/-- all orders that begin with one, m elements more -/
def shapes (a b : St) : Nat → List Nat → List (List Nat)
  | 0, o => [o]
  | m + 1, o => (List.range a.n).flatMap fun x => if nextB a b o x then shapes a b m (o ++ [x]) else []

/-- some elements of a are to each other as the first ones of b -/
structure Fits (a b : St) (o : List Nat) : Prop where
  nodup : o.Nodup
  lt : ∀ x ∈ o, x < a.n
  set : ∀ i, i < o.length → a.inS (o.getD i 0) = b.inS i
  rel : ∀ i j, i < o.length → j < o.length → a.inR (o.getD i 0) (o.getD j 0) = b.inR i j

theorem Fits.nil (a b : St) : Fits a b [] := ⟨by simp, by simp, fun i h => absurd h (Nat.not_lt_zero _), fun i j h => absurd h (Nat.not_lt_zero _)⟩

theorem getD_snoc_lt {o : List Nat} {x i : Nat} (h : i < o.length) : (o ++ [x]).getD i 0 = o.getD i 0 := by
  simp [List.getD, List.getElem?_append_left h]
theorem getD_snoc_eq {o : List Nat} {x : Nat} : (o ++ [x]).getD o.length 0 = x := by
  simp [List.getD]

theorem fits_snoc {a b : St} {o : List Nat} {x : Nat} : Fits a b (o ++ [x]) ↔ Fits a b o ∧ x < a.n ∧ nextB a b o x = true := by
  unfold nextB fitsB
  simp only [Bool.and_eq_true, Bool.not_eq_true', List.contains_eq_mem, decide_eq_false_iff_not, beq_iff_eq, List.all_eq_true, List.mem_range]
  constructor
  · intro h
    have hnd := h.nodup
    rw [List.nodup_append] at hnd
    obtain ⟨h1, _, h3⟩ := hnd
    refine ⟨⟨h1, fun y hy => h.lt y (by simp [hy]), fun i hi => ?_, fun i j hi hj => ?_⟩, h.lt x (by simp), fun hx => h3 x hx x (by simp) rfl, ⟨?_, ?_⟩, fun k hk => ⟨?_, ?_⟩⟩
    · have := h.set i (by simp; omega)
      rwa [getD_snoc_lt hi] at this
    · have := h.rel i j (by simp; omega) (by simp; omega)
      rwa [getD_snoc_lt hi, getD_snoc_lt hj] at this
    · have := h.set o.length (by simp)
      rwa [getD_snoc_eq] at this
    · have := h.rel o.length o.length (by simp) (by simp)
      rwa [getD_snoc_eq] at this
    · have := h.rel o.length k (by simp) (by simp; omega)
      rwa [getD_snoc_eq, getD_snoc_lt hk] at this
    · have := h.rel k o.length (by simp; omega) (by simp)
      rwa [getD_snoc_eq, getD_snoc_lt hk] at this
  · rintro ⟨h, hx, hn, ⟨hs, hr⟩, hk⟩
    refine ⟨?_, ?_, fun i hi => ?_, fun i j hi hj => ?_⟩
    · rw [List.nodup_append]
      exact ⟨h.nodup, by simp, fun y hy z hz => by simp only [List.mem_singleton] at hz; subst hz; rintro rfl; exact hn hy⟩
    · intro y hy
      rcases List.mem_append.1 hy with hy | hy
      · exact h.lt y hy
      · simp only [List.mem_singleton] at hy; subst hy; exact hx
    · simp only [List.length_append, List.length_singleton] at hi
      by_cases e : i = o.length
      · subst e; rw [getD_snoc_eq]; exact hs
      · rw [getD_snoc_lt (by omega)]; exact h.set i (by omega)
    · simp only [List.length_append, List.length_singleton] at hi hj
      by_cases e : i = o.length
      · subst e
        by_cases e2 : j = o.length
        · subst e2; rw [getD_snoc_eq]; exact hr
        · rw [getD_snoc_eq, getD_snoc_lt (by omega)]; exact (hk j (by omega)).1
      · by_cases e2 : j = o.length
        · subst e2; rw [getD_snoc_eq, getD_snoc_lt (by omega)]; exact (hk i (by omega)).2
        · rw [getD_snoc_lt (by omega), getD_snoc_lt (by omega)]; exact h.rel i j (by omega) (by omega)

theorem Fits.prefix {a b : St} {o : List Nat} : ∀ (t : List Nat), Fits a b (o ++ t) → Fits a b o := by
  intro t
  induction t generalizing o with
  | nil => intro h; simpa using h
  | cons x t ih =>
    intro h
    have h2 : Fits a b ((o ++ [x]) ++ t) := by simpa using h
    exact (fits_snoc.1 (ih h2)).1

theorem mem_shapes {a b : St} : ∀ (m : Nat) (o l : List Nat), Fits a b o → (l ∈ shapes a b m o ↔ ∃ t, l = o ++ t ∧ t.length = m ∧ Fits a b l) := by
  intro m
  induction m with
  | zero =>
    intro o l h
    simp only [shapes, List.mem_singleton]
    constructor
    · rintro rfl; exact ⟨[], by simp, rfl, h⟩
    · rintro ⟨t, rfl, ht, _⟩; rw [List.eq_nil_of_length_eq_zero ht]; simp
  | succ m ih =>
    intro o l h
    simp only [shapes, List.mem_flatMap, List.mem_range]
    constructor
    · rintro ⟨x, hx, hl⟩
      by_cases hn : nextB a b o x = true
      · rw [if_pos hn] at hl
        obtain ⟨t, rfl, ht, hf⟩ := (ih _ _ (fits_snoc.2 ⟨h, hx, hn⟩)).1 hl
        exact ⟨x :: t, by simp, by simp [ht], hf⟩
      · rw [if_neg hn] at hl; cases hl
    · rintro ⟨t, rfl, ht, hf⟩
      match t, ht with
      | x :: t, ht =>
        have h2 : Fits a b ((o ++ [x]) ++ t) := by simpa using hf
        have h3 := fits_snoc.1 (Fits.prefix t h2)
        refine ⟨x, h3.2.1, ?_⟩
        rw [if_pos h3.2.2]
        exact (ih _ _ (Fits.prefix t h2)).2 ⟨t, by simp, by simpa using ht, hf⟩

theorem shapes_nodup {a b : St} : ∀ (m : Nat) (o : List Nat), Fits a b o → (shapes a b m o).Nodup := by
  intro m
  induction m with
  | zero => intro o _; simp [shapes]
  | succ m ih =>
    intro o h
    simp only [shapes]
    have key : ∀ (xs : List Nat), xs.Nodup → (∀ x ∈ xs, x < a.n) → (xs.flatMap fun x => if nextB a b o x then shapes a b m (o ++ [x]) else []).Nodup := by
      intro xs
      induction xs with
      | nil => intro _ _; simp
      | cons x xs ihx =>
        intro hnd hlt
        rw [List.flatMap_cons, List.nodup_append]
        obtain ⟨h1, h2⟩ := List.nodup_cons.1 hnd
        refine ⟨?_, ihx h2 (fun y hy => hlt y (by simp [hy])), ?_⟩
        · by_cases hn : nextB a b o x = true
          · rw [if_pos hn]; exact ih _ (fits_snoc.2 ⟨h, hlt x (by simp), hn⟩)
          · rw [if_neg hn]; simp
        · rintro l hl m' hm rfl
          by_cases hn : nextB a b o x = true
          · rw [if_pos hn] at hl
            obtain ⟨t, rfl, _, _⟩ := (mem_shapes m _ _ (fits_snoc.2 ⟨h, hlt x (by simp), hn⟩)).1 hl
            rw [List.mem_flatMap] at hm
            obtain ⟨y, hy, hm⟩ := hm
            by_cases hn2 : nextB a b o y = true
            · rw [if_pos hn2] at hm
              obtain ⟨t2, e, _, _⟩ := (mem_shapes m _ _ (fits_snoc.2 ⟨h, hlt y (by simp [hy]), hn2⟩)).1 hm
              have e2 : x = y := by simpa using congrArg (fun l => l.getD o.length 0) e
              subst e2
              exact h1 hy
            · rw [if_neg hn2] at hm; cases hm
          · rw [if_neg hn] at hl; cases hl
    exact key _ List.nodup_range (fun x hx => List.mem_range.1 hx)

/-- all orders that turn a into b -/
def isos (a b : St) : List (List Nat) := shapes a b a.n []

theorem mem_isos {a b : St} {l : List Nat} : l ∈ isos a b ↔ l.length = a.n ∧ Fits a b l := by
  unfold isos
  rw [mem_shapes _ _ _ (Fits.nil a b)]
  constructor
  · rintro ⟨t, rfl, ht, hf⟩; exact ⟨by simpa using ht, hf⟩
  · rintro ⟨ht, hf⟩; exact ⟨l, by simp, ht, hf⟩

theorem isos_nodup (a b : St) : (isos a b).Nodup := shapes_nodup _ _ (Fits.nil a b)

end Pl
end Go.Proofs.YtebjanjobfiloaaDoor

namespace Go.Proofs.YtebjanjobfiloaaDoor
namespace Pl
set_option linter.unusedVariables false

theorem nodup_len_le {α : Type} [DecidableEq α] : ∀ (l m : List α), l.Nodup → (∀ x ∈ l, x ∈ m) → l.length ≤ m.length := by
  intro l
  induction l with
  | nil => intro m _ _; simp
  | cons x l ih =>
    intro m hnd hs
    obtain ⟨h1, h2⟩ := List.nodup_cons.1 hnd
    have hx := hs x (by simp)
    have h3 := ih (m.erase x) h2 (fun y hy => (List.mem_erase_of_ne (by rintro rfl; exact h1 hy)).2 (hs y (by simp [hy])))
    rw [List.length_erase_of_mem hx] at h3
    have : 0 < m.length := List.length_pos_of_mem hx
    simp only [List.length_cons]
    omega

theorem nodup_len_eq {α : Type} [DecidableEq α] {l m : List α} (hl : l.Nodup) (hm : m.Nodup) (h : ∀ x, x ∈ l ↔ x ∈ m) : l.length = m.length :=
  Nat.le_antisymm (nodup_len_le l m hl fun x hx => (h x).1 hx) (nodup_len_le m l hm fun x hx => (h x).2 hx)

/-- an order of all elements -/
structure IsPerm (n : Nat) (l : List Nat) : Prop where
  len : l.length = n
  nodup : l.Nodup
  lt : ∀ x ∈ l, x < n

def app (l : List Nat) (x : Nat) : Nat := l.getD x 0
def comp (l m : List Nat) : List Nat := m.map (app l)
def inv (l : List Nat) : List Nat := (List.range l.length).map fun y => l.idxOf y

theorem app_mem {l : List Nat} {x : Nat} (h : x < l.length) : app l x ∈ l := by
  unfold app
  simp only [List.getD_eq_getElem?_getD, List.getElem?_eq_getElem h, Option.getD_some]
  exact List.getElem_mem h

theorem IsPerm.app_lt {n : Nat} {l : List Nat} (h : IsPerm n l) {x : Nat} (hx : x < n) : app l x < n := h.lt _ (app_mem (by rw [h.len]; exact hx))

theorem IsPerm.mem {n : Nat} {l : List Nat} (h : IsPerm n l) {y : Nat} (hy : y < n) : y ∈ l := by
  rcases Classical.em (y ∈ l) with h1 | h1
  · exact h1
  · have h2 := nodup_len_le (y :: l) (List.range n) (List.nodup_cons.2 ⟨h1, h.nodup⟩) (fun x hx => by
      rcases List.mem_cons.1 hx with rfl | hx
      · exact List.mem_range.2 hy
      · exact List.mem_range.2 (h.lt x hx))
    have := h.len
    simp only [List.length_cons, List.length_range] at h2
    omega

theorem IsPerm.inj {n : Nat} {l : List Nat} (h : IsPerm n l) {x y : Nat} (hx : x < n) (hy : y < n) (e : app l x = app l y) : x = y := by
  unfold app at e
  have h1 := h.len
  simp only [List.getD_eq_getElem?_getD, List.getElem?_eq_getElem (show x < l.length by omega), List.getElem?_eq_getElem (show y < l.length by omega), Option.getD_some] at e
  have hp := List.pairwise_iff_getElem.1 h.nodup
  rcases Nat.lt_trichotomy x y with hlt | heq | hlt
  · exact absurd e (hp x y (by omega) (by omega) hlt)
  · exact heq
  · exact absurd e.symm (hp y x (by omega) (by omega) hlt)

theorem app_comp {l m : List Nat} {x : Nat} (h : x < m.length) : app (comp l m) x = app l (app m x) := by
  unfold app comp
  simp [List.getD, h, app]

theorem app_ext {n : Nat} {l m : List Nat} (h1 : l.length = n) (h2 : m.length = n) (h : ∀ x, x < n → app l x = app m x) : l = m := by
  apply List.ext_getElem (by omega)
  intro i hi hi2
  have := h i (by omega)
  unfold app at this
  simpa [List.getD, hi, hi2] using this

theorem app_idx {l : List Nat} {y : Nat} (h : y ∈ l) : l.idxOf y < l.length ∧ app l (l.idxOf y) = y := by
  have h1 := List.idxOf_lt_length_of_mem h
  refine ⟨h1, ?_⟩
  unfold app
  simp [List.getD, h1]

theorem len_comp (l m : List Nat) : (comp l m).length = m.length := by simp [comp]
theorem len_inv (l : List Nat) : (inv l).length = l.length := by simp [inv]

theorem app_inv {n : Nat} {l : List Nat} (h : IsPerm n l) {y : Nat} (hy : y < n) : app (inv l) y < n ∧ app l (app (inv l) y) = y := by
  have h1 := app_idx (h.mem hy)
  have e : app (inv l) y = l.idxOf y := by
    unfold app inv
    have := h.len
    simp [List.getD, show y < l.length by omega]
  rw [e, ← h.len]
  exact h1

theorem inv_app {n : Nat} {l : List Nat} (h : IsPerm n l) {x : Nat} (hx : x < n) : app (inv l) (app l x) = x := by
  have h1 := app_inv h (h.app_lt hx)
  exact h.inj h1.1 hx h1.2

theorem nodup_of_inj {n : Nat} {l : List Nat} (hl : l.length = n) (h : ∀ x y, x < n → y < n → app l x = app l y → x = y) : l.Nodup := by
  refine List.pairwise_iff_getElem.2 fun i j hi hj hij e => ?_
  have := h i j (by omega) (by omega) (by
    unfold app
    simp only [List.getD_eq_getElem?_getD, List.getElem?_eq_getElem hi, List.getElem?_eq_getElem hj, Option.getD_some, e])
  omega

theorem mem_app {l : List Nat} {y : Nat} (h : y ∈ l) : ∃ x, x < l.length ∧ app l x = y := ⟨_, app_idx h⟩

theorem IsPerm.of {n : Nat} {l : List Nat} (hl : l.length = n) (hlt : ∀ x, x < n → app l x < n) (h : ∀ x y, x < n → y < n → app l x = app l y → x = y) : IsPerm n l :=
  ⟨hl, nodup_of_inj hl h, fun y hy => by obtain ⟨x, hx, rfl⟩ := mem_app hy; exact hlt x (by omega)⟩

theorem IsPerm.comp {n : Nat} {l m : List Nat} (hl : IsPerm n l) (hm : IsPerm n m) : IsPerm n (comp l m) := by
  have e : ∀ x, x < n → app (Pl.comp l m) x = app l (app m x) := fun x hx => app_comp (by rw [hm.len]; exact hx)
  refine .of (by rw [len_comp, hm.len]) (fun x hx => ?_) (fun x y hx hy h => ?_)
  · rw [e x hx]; exact hl.app_lt (hm.app_lt hx)
  · rw [e x hx, e y hy] at h
    exact hm.inj hx hy (hl.inj (hm.app_lt hx) (hm.app_lt hy) h)

theorem IsPerm.inv {n : Nat} {l : List Nat} (hl : IsPerm n l) : IsPerm n (inv l) := by
  refine .of (by rw [len_inv, hl.len]) (fun x hx => (app_inv hl hx).1) (fun x y hx hy h => ?_)
  rw [← (app_inv hl hx).2, ← (app_inv hl hy).2, h]

theorem app_range {n x : Nat} (h : x < n) : app (List.range n) x = x := by
  unfold app; simp [List.getD, h]

theorem IsPerm.range (n : Nat) : IsPerm n (List.range n) := .of (by simp) (fun x hx => by rw [app_range hx]; exact hx) (fun x y hx hy h => by rwa [app_range hx, app_range hy] at h)

theorem comp_assoc {n : Nat} {l m k : List Nat} (hm : IsPerm n m) (hk : IsPerm n k) : comp (comp l m) k = comp l (comp m k) := by
  apply app_ext (n := n) (by rw [len_comp, hk.len]) (by rw [len_comp, len_comp, hk.len])
  intro x hx
  rw [app_comp (by rw [hk.len]; exact hx), app_comp (by rw [hm.len]; exact hk.app_lt hx), app_comp (by rw [len_comp, hk.len]; exact hx), app_comp (by rw [hk.len]; exact hx)]

theorem comp_inv {n : Nat} {l : List Nat} (h : IsPerm n l) : comp l (inv l) = List.range n := by
  apply app_ext (n := n) (by rw [len_comp, len_inv, h.len]) (by simp)
  intro x hx
  rw [app_comp (by rw [len_inv, h.len]; exact hx), (app_inv h hx).2, app_range hx]

theorem inv_comp {n : Nat} {l : List Nat} (h : IsPerm n l) : comp (inv l) l = List.range n := by
  apply app_ext (n := n) (by rw [len_comp, h.len]) (by simp)
  intro x hx
  rw [app_comp (by rw [h.len]; exact hx), inv_app h hx, app_range hx]

theorem comp_range {n : Nat} {l : List Nat} (h : IsPerm n l) : comp l (List.range n) = l := by
  apply app_ext (n := n) (by rw [len_comp]; simp) h.len
  intro x hx
  rw [app_comp (by simpa using hx), app_range hx]

theorem range_comp {n : Nat} {l : List Nat} (h : IsPerm n l) : comp (List.range n) l = l := by
  apply app_ext (n := n) (by rw [len_comp, h.len]) h.len
  intro x hx
  rw [app_comp (by rw [h.len]; exact hx), app_range (h.app_lt hx)]

theorem comp_left_inj {n : Nat} {g l m : List Nat} (hg : IsPerm n g) (hl : IsPerm n l) (hm : IsPerm n m) (e : comp g l = comp g m) : l = m := by
  have : comp (inv g) (comp g l) = comp (inv g) (comp g m) := by rw [e]
  rwa [← comp_assoc hg hl, ← comp_assoc hg hm, inv_comp hg, range_comp hl, range_comp hm] at this

/-- a group of orders -/
structure Grp (n : Nat) (G : List (List Nat)) : Prop where
  nodup : G.Nodup
  perm : ∀ l ∈ G, IsPerm n l
  one : List.range n ∈ G
  comp : ∀ l ∈ G, ∀ m ∈ G, Pl.comp l m ∈ G
  inv : ∀ l ∈ G, Pl.inv l ∈ G

theorem map_nodup {α β : Type} {f : α → β} : ∀ (l : List α), l.Nodup → (∀ x ∈ l, ∀ y ∈ l, f x = f y → x = y) → (l.map f).Nodup := by
  intro l
  induction l with
  | nil => intro _ _; simp
  | cons x l ih =>
    intro h hi
    obtain ⟨h1, h2⟩ := List.nodup_cons.1 h
    rw [List.map_cons, List.nodup_cons]
    refine ⟨fun hm => ?_, ih h2 (fun y hy z hz => hi y (by simp [hy]) z (by simp [hz]))⟩
    obtain ⟨y, hy, e⟩ := List.mem_map.1 hm
    have := hi y (by simp [hy]) x (by simp) e
    subst this
    exact h1 hy

theorem filter_len {α : Type} (p : α → Bool) : ∀ (l : List α), l.length = (l.filter p).length + (l.filter fun x => !p x).length := by
  intro l
  induction l with
  | nil => rfl
  | cons x l ih =>
    cases h : p x <;> simp [h] <;> omega

theorem cosets {n : Nat} {H : List (List Nat)} (hH : Grp n H) : ∀ (k : Nat) (S : List (List Nat)), S.length ≤ k → S.Nodup → (∀ g ∈ S, IsPerm n g) → (∀ g ∈ S, ∀ h ∈ H, comp g h ∈ S) → H.length ∣ S.length := by
  intro k
  induction k with
  | zero =>
    intro S hk _ _ _
    rw [Nat.le_zero.1 hk]
    exact Nat.dvd_zero _
  | succ k ih =>
    intro S hk hnd hp hc
    match S, hk, hnd, hp, hc with
    | [], _, _, _, _ => exact Nat.dvd_zero _
    | g :: S0, hk, hnd, hp, hc =>
      generalize hS : g :: S0 = S at *
      have hg : g ∈ S := by rw [← hS]; simp
      have hC : (H.map (comp g)).Nodup := map_nodup H hH.nodup fun x hx y hy e => comp_left_inj (hp g hg) (hH.perm x hx) (hH.perm y hy) e
      have hlen : (S.filter fun l => decide (l ∈ H.map (comp g))).length = H.length := by
        rw [show H.length = (H.map (comp g)).length by simp]
        refine nodup_len_eq (hnd.filter _) hC fun x => ?_
        rw [List.mem_filter]
        constructor
        · rintro ⟨_, h⟩; simpa using h
        · intro h
          refine ⟨?_, by simpa using h⟩
          obtain ⟨y, hy, rfl⟩ := List.mem_map.1 h
          exact hc g hg y hy
      have hsum := filter_len (fun l => decide (l ∈ H.map (comp g))) S
      have hpos : 0 < H.length := List.length_pos_of_mem hH.one
      have := ih (S.filter fun l => !decide (l ∈ H.map (comp g))) (by omega) (hnd.filter _) (fun x hx => hp x (List.mem_filter.1 hx).1) (fun x hx h hh => by
        obtain ⟨h1, h2⟩ := List.mem_filter.1 hx
        refine List.mem_filter.2 ⟨hc x h1 h hh, ?_⟩
        simp only [Bool.not_eq_true', decide_eq_false_iff_not] at h2 ⊢
        intro hm
        apply h2
        obtain ⟨y, hy, e⟩ := List.mem_map.1 hm
        refine List.mem_map.2 ⟨comp y (inv h), hH.comp _ hy _ (hH.inv _ hh), ?_⟩
        rw [← comp_assoc (hH.perm y hy) (hH.perm h hh).inv, e, comp_assoc (hH.perm h hh) (hH.perm h hh).inv, comp_inv (hH.perm h hh), comp_range (hp x h1)])
      rw [hsum, hlen]
      exact Nat.dvd_add (Nat.dvd_refl _) this

theorem lagrange {n : Nat} {H G : List (List Nat)} (hH : Grp n H) (hG : Grp n G) (hs : ∀ l ∈ H, l ∈ G) : H.length ∣ G.length :=
  cosets hH G.length G (Nat.le_refl _) hG.nodup hG.perm fun g hg h hh => hG.comp g hg h (hs h hh)

theorem fibers {α : Type} (key : α → Nat) (s : Nat) : ∀ (O : List Nat), O.Nodup → ∀ (S : List α), (∀ g ∈ S, key g ∈ O) → (∀ y ∈ O, (S.filter fun g => key g == y).length = s) → S.length = O.length * s := by
  intro O
  induction O with
  | nil =>
    intro _ S h _
    match S, h with
    | [], _ => simp
    | g :: S, h => exact absurd (h g (by simp)) (by simp)
  | cons y O ih =>
    intro hnd S h hf
    obtain ⟨h1, h2⟩ := List.nodup_cons.1 hnd
    have hsum := filter_len (fun g => key g == y) S
    have h3 := ih h2 (S.filter fun g => !(key g == y)) (fun g hg => by
      obtain ⟨h4, h5⟩ := List.mem_filter.1 hg
      rcases List.mem_cons.1 (h g h4) with e | e
      · simp [e] at h5
      · exact e) (fun z hz => by
      rw [← hf z (by simp [hz]), List.filter_filter]
      congr 1
      apply List.filter_congr
      intro g _
      have hzy : z ≠ y := by rintro rfl; exact h1 hz
      by_cases e : key g = z
      · simp [e, hzy]
      · simp [e])
    rw [hsum, hf y (by simp), h3, List.length_cons, Nat.succ_mul]
    omega

/-- the elements to which a group moves one -/
def orbL (n : Nat) (G : List (List Nat)) (x : Nat) : List Nat := (List.range n).filter fun y => G.any fun l => app l x == y

theorem mem_orbL {n : Nat} {G : List (List Nat)} (hG : Grp n G) {x y : Nat} (hx : x < n) : y ∈ orbL n G x ↔ ∃ l ∈ G, app l x = y := by
  unfold orbL
  rw [List.mem_filter, List.mem_range, List.any_eq_true]
  constructor
  · rintro ⟨_, l, hl, e⟩; exact ⟨l, hl, by simpa using e⟩
  · rintro ⟨l, hl, e⟩; exact ⟨by rw [← e]; exact (hG.perm l hl).app_lt hx, l, hl, by simpa using e⟩

theorem orb_dvd {n : Nat} {G : List (List Nat)} (hG : Grp n G) {x : Nat} (hx : x < n) : (orbL n G x).length ∣ G.length := by
  have hf := fibers (fun l => app l x) (G.filter fun l => app l x == x).length (orbL n G x) (List.nodup_range.filter _) G (fun g hg => (mem_orbL hG hx).2 ⟨g, hg, rfl⟩) (fun y hy => by
    obtain ⟨s, hs, rfl⟩ := (mem_orbL hG hx).1 hy
    have hps := hG.perm s hs
    apply Nat.le_antisymm
    · rw [show (G.filter fun l => app l x == app s x).length = ((G.filter fun l => app l x == app s x).map (comp (inv s))).length by simp]
      refine nodup_len_le _ _ (map_nodup _ (hG.nodup.filter _) fun a ha b hb e => comp_left_inj hps.inv (hG.perm a (List.mem_filter.1 ha).1) (hG.perm b (List.mem_filter.1 hb).1) e) fun a ha => ?_
      obtain ⟨b, hb, rfl⟩ := List.mem_map.1 ha
      obtain ⟨h1, h2⟩ := List.mem_filter.1 hb
      have h3 : app b x = app s x := by simpa using h2
      refine List.mem_filter.2 ⟨hG.comp _ (hG.inv _ hs) _ h1, ?_⟩
      rw [app_comp (by rw [(hG.perm b h1).len]; exact hx), h3, inv_app hps hx]
      simp
    · rw [show (G.filter fun l => app l x == x).length = ((G.filter fun l => app l x == x).map (comp s)).length by simp]
      refine nodup_len_le _ _ (map_nodup _ (hG.nodup.filter _) fun a ha b hb e => comp_left_inj hps (hG.perm a (List.mem_filter.1 ha).1) (hG.perm b (List.mem_filter.1 hb).1) e) fun a ha => ?_
      obtain ⟨b, hb, rfl⟩ := List.mem_map.1 ha
      obtain ⟨h1, h2⟩ := List.mem_filter.1 hb
      have h3 : app b x = x := by simpa using h2
      refine List.mem_filter.2 ⟨hG.comp _ hs _ h1, ?_⟩
      rw [app_comp (by rw [(hG.perm b h1).len]; exact hx), h3]
      simp)
  rw [hf]
  exact Nat.dvd_mul_right _ _

/-! ### isomorphisms -/

theorem iso_perm {a b : St} {l : List Nat} (h : l ∈ isos a b) : IsPerm a.n l := by
  obtain ⟨h1, h2⟩ := mem_isos.1 h
  exact ⟨h1, h2.nodup, h2.lt⟩

theorem mem_isos_iff {a b : St} {l : List Nat} : l ∈ isos a b ↔ IsPerm a.n l ∧ (∀ i, i < a.n → a.inS (app l i) = b.inS i) ∧ ∀ i j, i < a.n → j < a.n → a.inR (app l i) (app l j) = b.inR i j := by
  rw [mem_isos]
  constructor
  · rintro ⟨h1, h2⟩; exact ⟨⟨h1, h2.nodup, h2.lt⟩, fun i hi => h2.set i (by omega), fun i j hi hj => h2.rel i j (by omega) (by omega)⟩
  · rintro ⟨h1, h2, h3⟩; exact ⟨h1.len, h1.nodup, h1.lt, fun i hi => h2 i (by rw [← h1.len]; exact hi), fun i j hi hj => h3 i j (by rw [← h1.len]; exact hi) (by rw [← h1.len]; exact hj)⟩

theorem iso_comp {a b c : St} (hab : a.n = b.n) {l m : List Nat} (hl : l ∈ isos a b) (hm : m ∈ isos b c) : comp l m ∈ isos a c := by
  obtain ⟨h1, h2, h3⟩ := mem_isos_iff.1 hl
  obtain ⟨g1, g2, g3⟩ := mem_isos_iff.1 hm
  rw [← hab] at g1 g2 g3
  have e : ∀ x, x < a.n → app (comp l m) x = app l (app m x) := fun x hx => app_comp (by rw [g1.len]; exact hx)
  exact mem_isos_iff.2 ⟨h1.comp g1, fun i hi => by rw [e i hi, h2 _ (g1.app_lt hi), g2 i hi], fun i j hi hj => by rw [e i hi, e j hj, h3 _ _ (g1.app_lt hi) (g1.app_lt hj), g3 i j hi hj]⟩

theorem iso_inv {a b : St} (hab : a.n = b.n) {l : List Nat} (hl : l ∈ isos a b) : inv l ∈ isos b a := by
  obtain ⟨h1, h2, h3⟩ := mem_isos_iff.1 hl
  refine mem_isos_iff.2 ⟨by rw [← hab]; exact h1.inv, fun i hi => ?_, fun i j hi hj => ?_⟩
  · rw [← hab] at hi
    obtain ⟨g1, g2⟩ := app_inv h1 hi
    rw [← h2 _ g1, g2]
  · rw [← hab] at hi hj
    obtain ⟨g1, g2⟩ := app_inv h1 hi
    obtain ⟨g3, g4⟩ := app_inv h1 hj
    rw [← h3 _ _ g1 g3, g2, g4]

theorem iso_refl (a : St) : List.range a.n ∈ isos a a :=
  mem_isos_iff.2 ⟨.range _, fun i hi => by rw [app_range hi], fun i j hi hj => by rw [app_range hi, app_range hj]⟩

theorem aut_grp (a : St) : Grp a.n (isos a a) where
  nodup := isos_nodup a a
  perm l h := iso_perm h
  one := iso_refl a
  comp l hl m hm := iso_comp rfl hl hm
  inv l hl := iso_inv rfl hl

/-- isomorphic structures have as many symmetries -/
theorem isos_count {a b : St} (hab : a.n = b.n) {l : List Nat} (hl : l ∈ isos a b) : (isos a a).length = (isos b b).length := by
  have key : ∀ {a b : St} (_ : a.n = b.n) {l : List Nat} (_ : l ∈ isos a b), (isos a a).length ≤ (isos b b).length := by
    intro a b hab l hl
    have hli := iso_inv hab hl
    have hp := iso_perm hl
    rw [show (isos a a).length = ((isos a a).map fun m => comp (inv l) (comp m l)).length by simp]
    refine nodup_len_le _ _ (map_nodup _ (isos_nodup a a) fun x hx y hy e => ?_) fun x hx => ?_
    · have hx' := iso_perm hx
      have hy' := iso_perm hy
      have e2 := comp_left_inj hp.inv (hx'.comp hp) (hy'.comp hp) e
      have e3 : comp (comp x l) (inv l) = comp (comp y l) (inv l) := by rw [e2]
      rwa [comp_assoc hp hp.inv, comp_assoc hp hp.inv, comp_inv hp, comp_range hx', comp_range hy'] at e3
    · obtain ⟨m, hm, rfl⟩ := List.mem_map.1 hx
      exact iso_comp hab.symm hli (iso_comp rfl hm hl)
  exact Nat.le_antisymm (key hab hl) (key hab.symm (iso_inv hab hl))

/-! ### the number of all orders -/

def fact : Nat → Nat
  | 0 => 1
  | n + 1 => (n + 1) * fact n

def noSt (n : Nat) : St := mkSt n (fun _ => false) (fun _ _ => false)

theorem flatMap_len {α : Type} (f : α → List (List Nat)) (k : Nat) : ∀ (l : List α), (∀ x ∈ l, (f x).length = k) → (l.flatMap f).length = l.length * k := by
  intro l
  induction l with
  | nil => intro _; simp
  | cons x l ih =>
    intro h
    rw [List.flatMap_cons, List.length_append, h x (by simp), ih (fun y hy => h y (by simp [hy])), List.length_cons, Nat.succ_mul]
    omega

theorem flatMap_if {α : Type} (p : α → Bool) (f : α → List (List Nat)) : ∀ (l : List α), (l.flatMap fun x => if p x then f x else []) = (l.filter p).flatMap f := by
  intro l
  induction l with
  | nil => rfl
  | cons x l ih =>
    cases h : p x <;> simp [h, ih]

theorem noSt_shapes {n : Nat} : ∀ (m : Nat) (o : List Nat), o.length + m = n → o.Nodup → (∀ x ∈ o, x < n) → (shapes (noSt n) (noSt n) m o).length = fact m := by
  intro m
  induction m with
  | zero => intro o _ _ _; rfl
  | succ m ih =>
    intro o hl hnd hlt
    have hn : ∀ x, x < n → nextB (noSt n) (noSt n) o x = !o.contains x := by
      intro x hx
      have hS : ∀ y, y < n → (noSt n).inS y = false := fun y hy => mkSt_inS hy
      have hR : ∀ y z, y < n → z < n → (noSt n).inR y z = false := fun y z hy hz => mkSt_inR hy hz
      unfold nextB fitsB
      have hol : o.length < n := by omega
      have hall : ((List.range o.length).all fun k => (noSt n).inR x (o.getD k 0) == (noSt n).inR o.length k && (noSt n).inR (o.getD k 0) x == (noSt n).inR k o.length) = true := by
        rw [List.all_eq_true]
        intro k hk
        have hk' := List.mem_range.1 hk
        have hok : o.getD k 0 < n := hlt _ (by
          rw [List.getD_eq_getElem?_getD, List.getElem?_eq_getElem hk', Option.getD_some]
          exact List.getElem_mem hk')
        rw [hR _ _ hx hok, hR _ _ hol (by omega), hR _ _ hok hx, hR _ _ (by omega) hol]
        rfl
      rw [hall, hS _ hx, hS _ hol, hR _ _ hx hx, hR _ _ hol hol]
      simp
    simp only [shapes]
    rw [flatMap_if]
    have hfil : ((List.range (noSt n).n).filter (nextB (noSt n) (noSt n) o)).length = m + 1 := by
      have h1 : (List.range (noSt n).n).filter (nextB (noSt n) (noSt n) o) = (List.range n).filter fun x => !o.contains x := by
        apply List.filter_congr
        intro x hx
        exact hn x (List.mem_range.1 hx)
      rw [h1]
      have h2 := filter_len (fun x => o.contains x) (List.range n)
      have h3 : ((List.range n).filter fun x => o.contains x).length = o.length := by
        refine nodup_len_eq (List.nodup_range.filter _) hnd fun x => ?_
        rw [List.mem_filter, List.mem_range]
        simp only [List.contains_eq_mem, decide_eq_true_eq]
        exact ⟨fun h => h.2, fun h => ⟨hlt x h, h⟩⟩
      simp only [List.length_range] at h2
      omega
    rw [flatMap_len _ (fact m) _ (fun x hx => by
      obtain ⟨h1, h2⟩ := List.mem_filter.1 hx
      have hxn : x < n := List.mem_range.1 h1
      rw [hn x hxn] at h2
      have hxo : x ∉ o := by simpa using h2
      refine ih _ (by simp; omega) ?_ ?_
      · rw [List.nodup_append]
        exact ⟨hnd, by simp, fun y hy z hz => by simp only [List.mem_singleton] at hz; subst hz; rintro rfl; exact hxo hy⟩
      · intro y hy
        rcases List.mem_append.1 hy with hy | hy
        · exact hlt y hy
        · simp only [List.mem_singleton] at hy; subst hy; exact hxn), hfil]
    rfl

theorem noSt_count (n : Nat) : (isos (noSt n) (noSt n)).length = fact n := noSt_shapes n [] (by simp) (by simp) (by simp)

theorem count_dvd_fact (a : St) : (isos a a).length ∣ fact a.n := by
  rw [← noSt_count]
  refine lagrange (aut_grp a) (aut_grp (noSt a.n)) fun l hl => ?_
  have hp := iso_perm hl
  refine mem_isos_iff.2 ⟨hp, fun i hi => ?_, fun i j hi hj => ?_⟩
  · have hi2 : i < a.n := hi
    have h1 : (noSt a.n).inS (app l i) = false := mkSt_inS (f := fun _ => false) (hp.app_lt hi2)
    have h2 : (noSt a.n).inS i = false := mkSt_inS (f := fun _ => false) hi2
    rw [h1, h2]
  · have hi2 : i < a.n := hi
    have hj2 : j < a.n := hj
    have h1 : (noSt a.n).inR (app l i) (app l j) = false := mkSt_inR (g := fun _ _ => false) (hp.app_lt hi2) (hp.app_lt hj2)
    have h2 : (noSt a.n).inR i j = false := mkSt_inR (g := fun _ _ => false) hi2 hj2
    rw [h1, h2]

end Pl
end Go.Proofs.YtebjanjobfiloaaDoor

namespace Go.Proofs.YtebjanjobfiloaaDoor
open Pl

/-- elements for the variables -/
abbrev Pl.Env := Fin 4 → Nat

def Pl.upd (e : Env) (v : Fin 4) (x : Nat) : Env := fun u => if u = v then x else e u

def Pl.cnt (n : Nat) (p : Nat → Bool) : Nat := ((List.range n).filter p).length

/-- a quantifier's word on how many elements there are -/
def Pl.Qn.says (k : Qn) (n c : Nat) : Bool := match k with
  | .A => c == n
  | .S => decide (0 < c)
  | .c2 => decide (2 ≤ c)
  | .c3 => decide (3 ≤ c)
  | .c4 => decide (4 ≤ c)

/-- a formula is true -/
def Pl.Fm.holds (a : St) : Fm → Env → Bool
  | .tru, _ => true
  | .fls, _ => false
  | .pr v, e => a.inS (e v)
  | .eq v w, e => e v == e w
  | .rel v w, e => a.inR (e v) (e w)
  | .neg p, e => !(p.holds a e)
  | .con p q, e => p.holds a e && q.holds a e
  | .dis p q, e => p.holds a e || q.holds a e
  | .qu k v p, e => k.says a.n (cnt a.n fun x => p.holds a (upd e v x))

theorem Pl.cnt_congr {n : Nat} {p q : Nat → Bool} (h : ∀ x, x < n → p x = q x) : cnt n p = cnt n q := by
  unfold cnt
  rw [List.filter_congr fun x hx => h x (List.mem_range.1 hx)]

theorem Pl.cnt_le (n : Nat) (p : Nat → Bool) : cnt n p ≤ n := by
  unfold cnt
  have := List.length_filter_le p (List.range n)
  simpa using this

theorem Pl.cnt_succ (n : Nat) (p : Nat → Bool) : cnt (n + 1) p = cnt n p + if p n then 1 else 0 := by
  unfold cnt
  rw [List.range_succ, List.filter_append, List.length_append]
  cases h : p n <;> simp [h]

theorem Pl.cnt_all {n : Nat} {p : Nat → Bool} : cnt n p = n ↔ ∀ x, x < n → p x = true := by
  induction n with
  | zero => simp [cnt]
  | succ n ih =>
    rw [cnt_succ]
    have hle := cnt_le n p
    constructor
    · intro h x hx
      cases hp : p n with
      | false => rw [hp] at h; simp at h; omega
      | true =>
        rw [hp] at h
        simp at h
        by_cases e : x = n
        · subst e; exact hp
        · exact ih.1 h x (by omega)
    · intro h
      rw [h n (by omega), ih.2 fun x hx => h x (by omega)]
      rfl

theorem Pl.cnt_pos {n : Nat} {p : Nat → Bool} : 0 < cnt n p ↔ ∃ x, x < n ∧ p x = true := by
  unfold cnt
  rw [List.length_pos_iff_exists_mem]
  constructor
  · rintro ⟨x, hx⟩; obtain ⟨h1, h2⟩ := List.mem_filter.1 hx; exact ⟨x, List.mem_range.1 h1, h2⟩
  · rintro ⟨x, h1, h2⟩; exact ⟨x, List.mem_filter.2 ⟨List.mem_range.2 h1, h2⟩⟩

theorem Pl.cnt_not (n : Nat) (p : Nat → Bool) : cnt n p + cnt n (fun x => !p x) = n := by
  unfold cnt
  have := filter_len p (List.range n)
  simpa using this.symm

theorem Pl.cnt_perm {n : Nat} {l : List Nat} (hl : IsPerm n l) (p : Nat → Bool) : cnt n (fun x => p (app l x)) = cnt n p := by
  unfold cnt
  rw [show ((List.range n).filter fun x => p (app l x)).length = (((List.range n).filter fun x => p (app l x)).map (app l)).length by simp]
  refine nodup_len_eq (map_nodup _ (List.nodup_range.filter _) fun x hx y hy e => hl.inj (List.mem_range.1 (List.mem_filter.1 hx).1) (List.mem_range.1 (List.mem_filter.1 hy).1) e) (List.nodup_range.filter _) fun x => ?_
  rw [List.mem_map, List.mem_filter, List.mem_range]
  constructor
  · rintro ⟨y, hy, rfl⟩
    obtain ⟨h1, h2⟩ := List.mem_filter.1 hy
    exact ⟨hl.app_lt (List.mem_range.1 h1), h2⟩
  · rintro ⟨h1, h2⟩
    obtain ⟨g1, g2⟩ := app_inv hl h1
    exact ⟨app (inv l) x, List.mem_filter.2 ⟨List.mem_range.2 g1, by rw [g2]; exact h2⟩, g2⟩

theorem Pl.upd_same (e : Env) (v : Fin 4) (x : Nat) : upd e v x v = x := by simp [upd]
theorem Pl.upd_other {e : Env} {v u : Fin 4} {x : Nat} (h : u ≠ v) : upd e v x u = e u := by simp [upd, h]

/-- the variables that are free -/
def Pl.Fm.isFree (f : Fm) (v : Fin 4) : Prop := f.freeBits.testBit v.val = true

theorem bit_test (v u : Fin 4) : (1 <<< v.val).testBit u.val = decide (v = u) := by revert v u; decide

theorem free_qu (k : Qn) (v : Fin 4) (p : Fm) (u : Fin 4) : (Fm.qu k v p).isFree u ↔ p.isFree u ∧ u ≠ v := by
  unfold Fm.isFree
  simp only [Fm.freeBits, Nat.testBit_and, Nat.testBit_xor, bit_test]
  have h15 : (15 : Nat).testBit u.val = true := by revert u; decide
  rw [h15]
  by_cases h : v = u
  · subst h; simp
  · simp [h, Ne.symm h]

/-- only the free variables matter -/
theorem holds_free (a : St) : ∀ (f : Fm) (e e' : Env), (∀ v, f.isFree v → e v = e' v) → f.holds a e = f.holds a e' := by
  intro f
  induction f with
  | tru => intros; rfl
  | fls => intros; rfl
  | pr v => intro e e' h; simp only [Fm.holds]; rw [h v (by simp [Fm.isFree, Fm.freeBits, bit_test])]
  | eq v w => intro e e' h; simp only [Fm.holds]; rw [h v (by simp [Fm.isFree, Fm.freeBits, bit_test]), h w (by simp [Fm.isFree, Fm.freeBits, bit_test])]
  | rel v w => intro e e' h; simp only [Fm.holds]; rw [h v (by simp [Fm.isFree, Fm.freeBits, bit_test]), h w (by simp [Fm.isFree, Fm.freeBits, bit_test])]
  | neg p ih => intro e e' h; simp only [Fm.holds]; rw [ih e e' h]
  | con p q ihp ihq =>
    intro e e' h
    simp only [Fm.holds]
    rw [ihp e e' fun v hv => h v (by unfold Fm.isFree at *; simp [Fm.freeBits, hv]), ihq e e' fun v hv => h v (by unfold Fm.isFree at *; simp [Fm.freeBits, hv])]
  | dis p q ihp ihq =>
    intro e e' h
    simp only [Fm.holds]
    rw [ihp e e' fun v hv => h v (by unfold Fm.isFree at *; simp [Fm.freeBits, hv]), ihq e e' fun v hv => h v (by unfold Fm.isFree at *; simp [Fm.freeBits, hv])]
  | qu k v p ih =>
    intro e e' h
    simp only [Fm.holds]
    rw [cnt_congr fun x _ => ih (upd e v x) (upd e' v x) fun u hu => ?_]
    by_cases huv : u = v
    · subst huv; rw [upd_same, upd_same]
    · rw [upd_other huv, upd_other huv]; exact h u ((free_qu k v p u).2 ⟨hu, huv⟩)

/-- a structure that is turned into another one: the same formulas are true of the elements that are turned -/
theorem holds_iso {a b : St} (hab : a.n = b.n) {l : List Nat} (hl : l ∈ isos a b) : ∀ (f : Fm) (e : Env), (∀ v, f.isFree v → e v < b.n) → f.holds b e = f.holds a (fun v => app l (e v)) := by
  obtain ⟨h1, h2, h3⟩ := mem_isos_iff.1 hl
  intro f
  induction f with
  | tru => intros; rfl
  | fls => intros; rfl
  | pr v => intro e h; simp only [Fm.holds]; rw [h2 _ (by rw [hab]; exact h v (by simp [Fm.isFree, Fm.freeBits, bit_test]))]
  | eq v w =>
    intro e h
    have hv := h v (by simp [Fm.isFree, Fm.freeBits, bit_test])
    have hw := h w (by simp [Fm.isFree, Fm.freeBits, bit_test])
    rw [← hab] at hv hw
    simp only [Fm.holds]
    rw [Bool.eq_iff_iff, beq_iff_eq, beq_iff_eq]
    exact ⟨fun e1 => by rw [e1], fun e1 => h1.inj hv hw e1⟩
  | rel v w =>
    intro e h
    simp only [Fm.holds]
    rw [h3 _ _ (by rw [hab]; exact h v (by simp [Fm.isFree, Fm.freeBits, bit_test])) (by rw [hab]; exact h w (by simp [Fm.isFree, Fm.freeBits, bit_test]))]
  | neg p ih => intro e h; simp only [Fm.holds]; rw [ih e h]
  | con p q ihp ihq =>
    intro e h
    simp only [Fm.holds]
    rw [ihp e fun v hv => h v (by unfold Fm.isFree at *; simp [Fm.freeBits, hv]), ihq e fun v hv => h v (by unfold Fm.isFree at *; simp [Fm.freeBits, hv])]
  | dis p q ihp ihq =>
    intro e h
    simp only [Fm.holds]
    rw [ihp e fun v hv => h v (by unfold Fm.isFree at *; simp [Fm.freeBits, hv]), ihq e fun v hv => h v (by unfold Fm.isFree at *; simp [Fm.freeBits, hv])]
  | qu k v p ih =>
    intro e h
    simp only [Fm.holds]
    rw [← hab]
    congr 1
    rw [← cnt_perm h1 (fun y => p.holds a (upd (fun u => app l (e u)) v y))]
    refine cnt_congr fun x hx => ?_
    rw [ih (upd e v x) fun u hu => ?_]
    · apply holds_free
      intro u hu
      by_cases huv : u = v
      · subst huv; rw [upd_same, upd_same]
      · rw [upd_other huv, upd_other huv]
    · by_cases huv : u = v
      · subst huv; rw [upd_same, ← hab]; exact hx
      · rw [upd_other huv]; exact h u ((free_qu k v p u).2 ⟨hu, huv⟩)

/-- pushed negations -/
theorem holds_push (a : St) : ∀ (f : Fm) (b : Bool) (e : Env), (f.push b).holds a e = (if b then !(f.holds a e) else f.holds a e) := by
  intro f
  induction f with
  | tru => intro b e; cases b <;> rfl
  | fls => intro b e; cases b <;> rfl
  | pr v => intro b e; cases b <;> rfl
  | eq v w => intro b e; cases b <;> rfl
  | rel v w => intro b e; cases b <;> rfl
  | neg p ih => intro b e; simp only [Fm.push, Fm.holds, ih]; cases b <;> simp
  | con p q ihp ihq => intro b e; cases b <;> simp [Fm.push, Fm.holds, ihp, ihq]
  | dis p q ihp ihq => intro b e; cases b <;> simp [Fm.push, Fm.holds, ihp, ihq]
  | qu k v p ih =>
    intro b e
    have h2 : cnt a.n (fun x => !(p.holds a (upd e v x))) + cnt a.n (fun x => p.holds a (upd e v x)) = a.n := by
      have := cnt_not a.n (fun x => p.holds a (upd e v x)); omega
    cases k <;> cases b <;> simp only [Fm.push, Fm.holds, ih, if_true, if_false, Bool.false_eq_true, Bool.not_true, Bool.not_false, Bool.not_not] <;> try rfl
    · simp only [Qn.says]
      rw [Bool.eq_iff_iff]
      simp only [decide_eq_true_eq, Bool.not_eq_true', beq_eq_false_iff_ne]
      omega
    · simp only [Qn.says]
      rw [Bool.eq_iff_iff]
      simp only [beq_iff_eq, Bool.not_eq_true', decide_eq_false_iff_not]
      omega

end Go.Proofs.YtebjanjobfiloaaDoor

namespace Go.Proofs.YtebjanjobfiloaaDoor
open Go.RowKit
open Pl
set_option linter.unusedSimpArgs false
set_option linter.unusedVariables false

/-- the elements of the first free variables as octal digits -/
def keyTo (fr : Nat) (e : Nat → Nat) : Nat → Nat
  | 0 => 0
  | k + 1 => if fr.testBit k then keyTo fr e k ||| (e k * 8 ^ k) else keyTo fr e k

theorem or_add {a x k : Nat} (h : a < 8 ^ k) : a ||| (x * 8 ^ k) = a + x * 8 ^ k := by
  have e : (8 : Nat) ^ k = 2 ^ (3 * k) := by rw [Nat.pow_mul]
  rw [e] at h ⊢
  have := Nat.shiftLeft_add_eq_or_of_lt h x
  rw [Nat.shiftLeft_eq] at this
  rw [Nat.or_comm, ← this, Nat.add_comm]

theorem keyTo_lt {fr : Nat} {e : Nat → Nat} (he : ∀ i, e i < 8) : ∀ k, keyTo fr e k < 8 ^ k
  | 0 => by simp [keyTo]
  | k + 1 => by
    have h := keyTo_lt (fr := fr) he k
    have hx := he k
    have hp : (8 : Nat) ^ (k + 1) = 8 * 8 ^ k := by rw [Nat.pow_succ, Nat.mul_comm]
    have hm : e k * 8 ^ k ≤ 7 * 8 ^ k := Nat.mul_le_mul_right _ (by omega)
    unfold keyTo
    split
    · rw [or_add h]; omega
    · omega

theorem keyTo_inj {fr : Nat} {e e' : Nat → Nat} (he : ∀ i, e i < 8) (he' : ∀ i, e' i < 8) : ∀ k, keyTo fr e k = keyTo fr e' k → ∀ i, i < k → fr.testBit i = true → e i = e' i
  | 0, _, i, hi, _ => absurd hi (Nat.not_lt_zero _)
  | k + 1, h, i, hi, hb => by
    have h1 := keyTo_lt (fr := fr) he k
    have h2 := keyTo_lt (fr := fr) he' k
    unfold keyTo at h
    cases hk : fr.testBit k with
    | false =>
      rw [hk] at h
      simp only [Bool.false_eq_true, if_false] at h
      have : i ≠ k := fun e => by rw [e, hk] at hb; cases hb
      exact keyTo_inj he he' k h i (by omega) hb
    | true =>
      rw [hk] at h
      simp only [if_true] at h
      rw [or_add h1, or_add h2] at h
      have hd1 : (keyTo fr e k + e k * 8 ^ k) / 8 ^ k = e k := by
        rw [Nat.add_mul_div_right _ _ (Nat.pow_pos (by decide)), Nat.div_eq_of_lt h1, Nat.zero_add]
      have hd2 : (keyTo fr e' k + e' k * 8 ^ k) / 8 ^ k = e' k := by
        rw [Nat.add_mul_div_right _ _ (Nat.pow_pos (by decide)), Nat.div_eq_of_lt h2, Nat.zero_add]
      have hk2 : e k = e' k := by rw [← hd1, ← hd2, h]
      by_cases hik : i = k
      · subst hik; exact hk2
      · refine keyTo_inj he he' k ?_ i (by omega) hb
        rw [hk2] at h
        omega

/-- an environment as a function of numbers -/
def eN (e : Env) (i : Nat) : Nat := if h : i < 4 then e ⟨i, h⟩ else 0
theorem eN_lt {e : Env} (he : ∀ v, e v < 8) (i : Nat) : eN e i < 8 := by
  unfold eN
  split
  · exact he _
  · omega
theorem eN_fin (e : Env) (v : Fin 4) : eN e v.val = e v := by simp [eN]
/-- the number under which truth is kept -/
def keyN (fr : Nat) (e : Env) : Nat := keyTo fr (eN e) 4
theorem keyN_lt {fr : Nat} {e : Env} (he : ∀ v, e v < 8) : keyN fr e < 4096 := keyTo_lt (eN_lt he) 4
theorem keyN_holds (a : St) (f : Fm) {e e' : Env} (he : ∀ v, e v < 8) (he' : ∀ v, e' v < 8) (h : keyN f.freeBits e = keyN f.freeBits e') : f.holds a e = f.holds a e' :=
  holds_free a f e e' fun v hv => by
    have := keyTo_inj (eN_lt he) (eN_lt he') 4 h v.val v.isLt hv
    rwa [eN_fin, eN_fin] at this

/-! ### one tree at most -/

theorem own_same {W : World} {base base' n n' : Nat} {e : TypeId} {v : Value} {xs xs' : List Value} (h : W.ownsRow base e 1 v n xs) (h' : W.ownsRow base' e 1 v n' xs') : xs = xs' := by
  obtain ⟨hl, h2⟩ := h
  obtain ⟨hl', h2'⟩ := h'
  rcases h2 with ⟨rfl, h0⟩ | ⟨g, cap, cur, rfl, _, hh, _, _, _, ht⟩
  · rcases h2' with ⟨_, h0'⟩ | ⟨g, cap, cur, hv, _⟩
    · have e1 : xs = [] := List.length_eq_zero_iff.1 (by rw [hl, h0])
      have e2 : xs' = [] := List.length_eq_zero_iff.1 (by rw [hl', h0'])
      rw [e1, e2]
    · cases hv
  · rcases h2' with ⟨hv, _⟩ | ⟨g', cap', cur', hv, _, hh', _, _, _, ht'⟩
    · cases hv
    · simp only [Value.slice.injEq, Option.some.injEq, Addr.mk.injEq] at hv
      obtain ⟨⟨rfl, _⟩, hn, _⟩ := hv
      rw [hh] at hh'
      simp only [Option.some.injEq, Obj.cells.injEq] at hh'
      obtain ⟨rfl, _⟩ := hh'
      rw [hn, ht'] at ht
      exact ht.symm

theorem vb_inj {v w : Fin 4} (h : byteV (vb v) = byteV (vb w)) : v = w := by
  unfold byteV at h
  injection h with _ h
  revert v w
  decide

theorem node_same {S S' : Nat → Prop} {w : World} {op op' : UInt8} {vars vars' : List (Fin 4)} {fr fr' al al' b : Nat} {ks ks' : List Nat} (h : NodeIn S w op vars fr al b ks) (h' : NodeIn S' w op' vars' fr' al' b ks') : op = op' ∧ vars = vars' ∧ ks = ks' := by
  obtain ⟨_, vs, ps, hh, hv, _, hp, _⟩ := h
  obtain ⟨_, vs', ps', hh', hv', _, hp', _⟩ := h'
  rw [hh] at hh'
  simp only [Option.some.injEq, Obj.cells.injEq, Array.mk.injEq, List.cons.injEq, Value.int.injEq, true_and, and_true] at hh'
  obtain ⟨h1, rfl, rfl, _⟩ := hh'
  refine ⟨UInt8.toNat_inj.1 (by omega), ?_, ?_⟩
  · exact (List.map_inj_right (fun a b hab => vb_inj hab)).1 (own_same hv hv')
  · exact (List.map_inj_right (fun a b hab => by injection hab with e; injection e with e; injection e)).1 (own_same hp hp')

theorem qb_inj {k l : Qn} (h : k.b = l.b) : k = l := by
  cases k <;> cases l <;> first | rfl | exact absurd h (by decide)
theorem qb_out (k : Qn) : k.b ≠ 116 ∧ k.b ≠ 102 ∧ k.b ≠ 80 ∧ k.b ≠ 61 ∧ k.b ≠ 69 ∧ k.b ≠ 33 ∧ k.b ≠ 38 ∧ k.b ≠ 124 := by
  cases k <;> decide
theorem fm_same {f g : Fm} (h1 : f.op = g.op) (h2 : f.vars = g.vars) (h3 : f.parts = g.parts) : f = g := by
  cases f <;> cases g <;> simp only [Fm.op] at h1 <;> first
    | exact absurd h1 (by decide)
    | (rename_i k _ _; have q := qb_out k; simp_all; done)
    | (rename_i k _ _ _; have q := qb_out k; simp_all; done)
    | (rename_i k _ _ _ _; have q := qb_out k; simp_all; done)
    | (rename_i k _ _; have q := qb_out k; obtain ⟨q1, q2, q3, q4, q5, q6, q7, q8⟩ := q; first | exact absurd h1 q1 | exact absurd h1.symm q1 | exact absurd h1 q2 | exact absurd h1.symm q2 | exact absurd h1 q3 | exact absurd h1 q4 | exact absurd h1 q5 | exact absurd h1 q6 | exact absurd h1 q7 | exact absurd h1 q8)
    | (simp_all [Fm.vars, Fm.parts]; done)
    | (obtain rfl := qb_inj h1; simp_all [Fm.vars, Fm.parts]; done)

theorem part_size {f p : Fm} (h : p ∈ f.parts) : p.size < f.size := by
  cases f <;> simp [Fm.parts] at h <;> (try rcases h with rfl | rfl) <;> (try subst h) <;> simp [Fm.size] <;> omega

theorem tree_same {S S' : Nat → Prop} {w : World} : ∀ (n : Nat) (f g : Fm) (b : Nat), f.size ≤ n → TreeIn S w f b → TreeIn S' w g b → f = g
  | 0, f, g, b, hn, _, _ => by cases f <;> simp [Fm.size] at hn
  | n + 1, f, g, b, hn, h, h' => by
    obtain ⟨ks, hf, hl, ht⟩ := h.open
    obtain ⟨ks', hg, hl', ht'⟩ := h'.open
    obtain ⟨h1, h2, rfl⟩ := node_same hf hg
    refine fm_same h1 h2 (List.ext_getElem (by omega) fun i hi hi' => ?_)
    have hk : i < ks.length := by omega
    exact tree_same n _ _ ks[i] (by have := part_size (List.getElem_mem hi); omega) (ht i _ _ (List.getElem?_eq_getElem hi) (List.getElem?_eq_getElem hk)) (ht' i _ _ (List.getElem?_eq_getElem hi') (List.getElem?_eq_getElem hk))

/-- what is kept at a number is right for whatever tree lies there -/
def Good (lo : Nat) (w0 : World) (a : St) (nb k : Nat) (v : Bool) : Prop := ∀ f, TreeAt lo w0 f nb → ∀ e : Env, (∀ u, e u < 8) → keyN f.freeBits e = k → f.holds a e = v
theorem good_new {lo : Nat} {w0 : World} (a : St) {f : Fm} {nb : Nat} (h : TreeAt lo w0 f nb) {e : Env} (he : ∀ u, e u < 8) : Good lo w0 a nb (keyN f.freeBits e) (f.holds a e) := fun g hg e' he' hk => by
  have := tree_same g.size g f nb (Nat.le_refl _) hg h
  subst this
  exact keyN_holds a g he' he hk

end Go.Proofs.YtebjanjobfiloaaDoor

namespace Go.Proofs.YtebjanjobfiloaaDoor
open Go.RowKit

def bs (l : List UInt8) : ByteArray := ⟨l.toArray⟩
theorem bs_data (l : List UInt8) : (bs l).data.toList = l := rfl
theorem bs_size (l : List UInt8) : (bs l).size = l.length := by rw [Lib.size_eq]; rfl
theorem bs_of (s : ByteArray) : bs s.data.toList = s := Lib.mk_data s
theorem bs_inj {a b : List UInt8} (h : bs a = bs b) : a = b := by rw [← bs_data a, ← bs_data b, h]
theorem eq_bs {s : ByteArray} {l : List UInt8} (h : s.data.toList = l) : s = bs l := by rw [← h, bs_of]

theorem append_bs (a b : ByteArray) : a ++ b = bs (a.data.toList ++ b.data.toList) := by
  apply eq_bs
  simp

theorem ret_pair {a b c d : Value} (h1 : a = c) (h2 : b = d) : Ending.returned (.tuple #[a, b]) = .returned (.tuple #[c, d]) := by rw [h1, h2]
theorem str_eq {a b : ByteArray} (h : a = b) : Value.string a = .string b := by rw [h]

theorem size_le_of {s : ByteArray} {l : List UInt8} (h : s.data.toList = l) : s.size = l.length := by rw [Lib.size_eq, h]

end Go.Proofs.YtebjanjobfiloaaDoor

namespace Go.Proofs.YtebjanjobfiloaaDoor
open Go.RowKit
open Pl
set_option linter.unusedSimpArgs false

theorem bcell {W w1 : World} (hb : Below W.heap.size W w1) : (∀ b o, b < W.heap.size → w1.cell? ⟨b, o, none⟩ = W.cell? ⟨b, o, none⟩) ∧ (∀ b o, b < W.heap.size → w1.frozen? ⟨b, o, none⟩ = W.frozen? ⟨b, o, none⟩) :=
  ⟨fun b o h => hb.cell (p := ⟨b, o, none⟩) h, fun b o h => hb.frozen (p := ⟨b, o, none⟩) h⟩

/-- a box of three cells behind a call -/
theorem box3 {w wN : World} {a b c : Value} {t : TypeId} (h : Below (w.heap.size + 1) (w.alloc (.cells #[a, b, c] t)) wN) :
    wN.cell? ⟨w.heap.size, 0, none⟩ = some a ∧ wN.cell? ⟨w.heap.size, 1, none⟩ = some b ∧ wN.cell? ⟨w.heap.size, 2, none⟩ = some c := by
  have hk : ∀ o, wN.cell? ⟨w.heap.size, o, none⟩ = (w.alloc (.cells #[a, b, c] t)).cell? ⟨w.heap.size, o, none⟩ := fun o => h.cell (p := ⟨w.heap.size, o, none⟩) (Nat.lt_succ_self _)
  refine ⟨?_, ?_, ?_⟩ <;> rw [hk] <;> simp

theorem box_down {w wN : World} {o : Obj} (h : Below (w.heap.size + 1) (w.alloc o) wN) : Below w.heap.size w wN :=
  ((Below.refl w.heap.size w).alloc (Nat.le_refl _) o).trans (h.mono (Nat.le_succ _))

theorem box_refl (w : World) (o : Obj) : Below (w.heap.size + 1) (w.alloc o) (w.alloc o) := Below.refl _ _

theorem box_next {w w1 w2 : World} {o : Obj} (h : Below (w.heap.size + 1) (w.alloc o) w1) (h2 : Below w1.heap.size w1 w2) : Below (w.heap.size + 1) (w.alloc o) w2 :=
  h.trans (h2.mono (by have := h.size; simpa using this))

/-- all bytes are bits -/
def bitsL (l : List UInt8) : Bool := l.all fun b => b == 48 || b == 49

theorem dropWhile_nil {α : Type} (p : α → Bool) : ∀ l : List α, l.dropWhile p = [] ↔ l.all p = true := by
  intro l
  induction l with
  | nil => simp
  | cons x l ih =>
    by_cases h : p x = true
    · simp [List.dropWhile_cons, h, ih]
    · simp [List.dropWhile_cons, h]

theorem dropWhile_all {α : Type} (p : α → Bool) : ∀ l : List α, (l.dropWhile p).all p = l.all p := by
  intro l
  induction l with
  | nil => rfl
  | cons x l ih =>
    by_cases h : p x = true
    · simp [List.dropWhile_cons, h, ih]
    · simp [List.dropWhile_cons, h]

theorem trim_bits (l : List UInt8) : Lib.trimS l [48, 49] = [] ↔ bitsL l = true := by
  have hp : ∀ b : UInt8, ([48, 49] : List UInt8).contains b = (b == 48 || b == 49) := fun b => by
    simp only [List.contains_cons, List.contains_nil, Bool.or_false]
  have e : Lib.trimS l [48, 49] = ((l.reverse.dropWhile fun b => b == 48 || b == 49).reverse).dropWhile fun b => b == 48 || b == 49 := by
    unfold Lib.trimS Lib.trimLeftS Lib.trimRightS
    simp only [hp]
  rw [e, dropWhile_nil, List.all_reverse, dropWhile_all, List.all_reverse]
  rfl

/-- a text has n bytes that are bits -/
def bitsB (s : ByteArray) (n : Int) : Bool := decide ((s.size : Int) = n) && bitsL s.data.toList

set_option maxHeartbeats 400000 in
theorem areBits_calls (s : ByteArray) (n : Int) (w : World) (hs : s.size ≤ maxLen) :
    Calls Tryd.prog 56 #[.string s, .int .i64 n] w fun e w' => e = .returned (.bool (bitsB s n)) ∧ Below w.heap.size w w' := by
  unfold maxLen at hs
  by_cases hn : (s.size : Int) = n
  · have hc : ∀ W, Calls Tryd.prog 68 #[.string s, .string ⟨#[48, 49]⟩] W fun e w' => e = .returned (.string ⟨(Lib.trimS s.data.toList [48, 49]).toArray⟩) ∧ Below W.heap.size W w' := fun W =>
      Any.strings_Trim_laid Tryd.lays160 (by kernel_rfl) s ⟨#[48, 49]⟩ W hs (by decide) (ascii_of_all (by decide))
    obtain ⟨l, hl⟩ : ∃ l, l = Lib.trimS s.data.toList [48, 49] := ⟨_, rfl⟩
    rw [← hl] at hc
    have hb : bitsB s n = decide (l = []) := by
      unfold bitsB
      rw [decide_eq_true hn, Bool.true_and, Bool.eq_iff_iff, decide_eq_true_eq, hl, trim_bits]
    rw [hb]
    have Hc := Lib.hid hc
    clear hc hl hb
    cases l with
    | nil =>
      subst hn
      go_enter Tryd.func56, Tryd.ntmps56
      go_wp2_with (go_at_call 68; refine (Hc.out _).mono ?_; rintro e w' ⟨rfl, hb1⟩)
      go_ret
      exact ⟨rfl, hb1⟩
    | cons b l =>
      subst hn
      go_enter Tryd.func56, Tryd.ntmps56
      go_wp2_with (go_at_call 68; refine (Hc.out _).mono ?_; rintro e w' ⟨rfl, hb1⟩)
      go_ret
      exact ⟨rfl, hb1⟩
  · have hb : bitsB s n = false := by unfold bitsB; rw [decide_eq_false hn, Bool.false_and]
    rw [hb]
    have h1 : ((s.size : Int) == n) = false := beq_eq_false_iff_ne.2 hn
    clear hb
    go_enter Tryd.func56, Tryd.ntmps56
    go_wp2_with fail
    go_ret
    exact ⟨rfl, Below.refl _ _⟩

end Go.Proofs.YtebjanjobfiloaaDoor

namespace Go.Proofs.YtebjanjobfiloaaDoor
open Go.RowKit
open Pl
set_option linter.unusedSimpArgs false
set_option linter.unusedVariables false

/-- a structure in Go -/
abbrev stV (i : Int) (s r : ByteArray) : Value := .agg #[.int .i64 i, .string s, .string r]

/-- a structure is valid -/
def okB (i : Int) (s r : ByteArray) : Bool := decide (1 ≤ i) && (decide (i ≤ 8) && (bitsB s i && bitsB r (i * i)))

theorem sq_bd {i : Int} (h1 : 1 ≤ i) (h2 : i ≤ 8) : 1 ≤ i * i ∧ i * i ≤ 64 := by
  have : i = 1 ∨ i = 2 ∨ i = 3 ∨ i = 4 ∨ i = 5 ∨ i = 6 ∨ i = 7 ∨ i = 8 := by omega
  rcases this with rfl | rfl | rfl | rfl | rfl | rfl | rfl | rfl <;> decide

theorem bits_get (s : ByteArray) (k : Nat) (h : k < s.size) : bitsL (s.data.toList.take (k + 1)) = (bitsL (s.data.toList.take k) && (s[k] == 48 || s[k] == 49)) := by
  unfold bitsL
  rw [List.take_succ_eq_append_getElem (by simpa using h), List.all_append]
  simp [List.all_cons]
  rfl

theorem bits_no (s : ByteArray) (k : Nat) (h : k < s.size) (hb : (s[k] == 48 || s[k] == 49) = false) : bitsL s.data.toList = false := by
  rw [Bool.eq_false_iff]
  intro e
  unfold bitsL at e
  have := List.all_eq_true.1 e s[k] (by rw [show s[k] = s.data.toList[k]'(by simpa using h) from rfl]; exact List.getElem_mem _)
  rw [hb] at this
  cases this

theorem bit_ne {b : UInt8} {m : Int} {c : UInt8} (hm : m = c.toNat) : ((b.toNat : Int) == m) = (b == c) := by
  subst hm
  rw [Bool.eq_iff_iff, beq_iff_eq, beq_iff_eq]
  exact ⟨fun h => UInt8.toNat_inj.1 (by omega), fun h => by rw [h]⟩

set_option maxHeartbeats 1000000 in
theorem isStructure_calls (i : Int) (s r : ByteArray) (w : World) (hs : s.size ≤ maxLen) (hr : r.size ≤ maxLen) :
    Calls Tryd.prog 36 #[stV i s r] w fun e w' => e = .returned (.bool (okB i s r)) ∧ Below w.heap.size w w' := by
  have Hs := Lib.hid hs
  have Hr := Lib.hid hr
  clear hs hr
  by_cases h1 : 1 ≤ i
  · by_cases h2 : i ≤ 8
    · obtain ⟨g1, g2⟩ := sq_bd h1 h2
      have c1 := areBits_calls s i
      have c2 := areBits_calls r (i * i)
      obtain ⟨q, hq⟩ : ∃ q, q = i * i := ⟨_, rfl⟩
      have hv : okB i s r = (bitsB s i && bitsB r q) := by unfold okB; rw [decide_eq_true h1, decide_eq_true h2, hq]; rfl
      rw [hv]
      rw [← hq] at g1 g2 c2
      have hmul : IntKind.i64.wrap (i * i) = q := by rw [← hq]; exact IntWalk.i64_in _ (by omega)
      have C1 := Lib.hid c1
      have C2 := Lib.hid c2
      clear c1 c2 hv
      cases hb1 : bitsB s i with
      | false =>
        rw [hb1] at C1
        clear hq hmul hb1
        go_enter Tryd.func36, Tryd.ntmps36
        go_wp2_with (go_at_call 56; (with_reducible refine (C1.out _ Hs.out).mono ?_); rintro e w' ⟨rfl, hx1⟩)
        go_ret
        exact ⟨rfl, ((Below.refl _ _).alloc (Nat.le_refl _) _).trans (hx1.mono (by simp))⟩
      | true =>
        rw [hb1] at C1
        have Hq := Lib.hid hq
        clear hq hb1
        go_enter Tryd.func36, Tryd.ntmps36
        go_wp2_with fail
        refine (C1.out _ Hs.out).mono ?_
        rintro e w1 ⟨rfl, hx1⟩
        obtain ⟨hc, hf⟩ := bcell hx1
        have Hx1 := Lib.hid hx1
        clear hx1
        go_wp2_with fail
        refine (C2.out _ Hr.out).mono ?_
        rintro e w2 ⟨rfl, hx2⟩
        have Hx2 := Lib.hid hx2
        clear hx2 hc hf
        go_wp2_with fail
        go_ret
        exact ⟨rfl, (((Below.refl _ _).alloc (Nat.le_refl _) _).trans (Hx1.out.mono (by simp))).trans (Hx2.out.mono (by have := Hx1.out.size; simp at this; omega))⟩
    · have hv : okB i s r = false := by unfold okB; rw [decide_eq_false h2]; simp
      rw [hv]
      have hd : decide (i ≤ 8) = false := decide_eq_false h2
      clear hv
      go_enter Tryd.func36, Tryd.ntmps36
      go_wp2_with fail
      go_ret
      exact ⟨rfl, (Below.refl _ _).alloc (Nat.le_refl _) _⟩
  · have hv : okB i s r = false := by unfold okB; rw [decide_eq_false h1]; simp
    rw [hv]
    have hd : decide (1 ≤ i) = false := decide_eq_false h1
    clear hv
    go_enter Tryd.func36, Tryd.ntmps36
    go_wp2_with fail
    go_ret
    exact ⟨rfl, (Below.refl _ _).alloc (Nat.le_refl _) _⟩

theorem l1In_calls (n lo hi : Int) (w : World) :
    Calls Tryd.prog 32 #[.int .i64 n, .int .i64 lo, .int .i64 hi] w fun e w' => e = .returned (.bool (decide (lo ≤ n) && decide (n ≤ hi))) ∧ w = w' := by
  by_cases h1 : lo ≤ n
  · by_cases h2 : n ≤ hi
    · rw [decide_eq_true h1, decide_eq_true h2]
      go_enter Tryd.func32, Tryd.ntmps32
      go_wp2_with fail
      go_ret
      exact ⟨rfl, rfl⟩
    · rw [decide_eq_true h1, decide_eq_false h2]
      have hd : decide (n ≤ hi) = false := decide_eq_false h2
      go_enter Tryd.func32, Tryd.ntmps32
      go_wp2_with fail
      go_ret
      exact ⟨rfl, rfl⟩
  · rw [decide_eq_false h1]
    have hd : decide (lo ≤ n) = false := decide_eq_false h1
    go_enter Tryd.func32, Tryd.ntmps32
    go_wp2_with fail
    go_ret
    exact ⟨rfl, rfl⟩

set_option maxHeartbeats 400000 in
theorem l1Bits_calls (s : ByteArray) (n : Int) (w : World) (hs : s.size ≤ maxLen) :
    Calls Tryd.prog 50 #[.string s, .int .i64 n] w fun e w' => e = .returned (.bool (bitsB s n)) ∧ w = w' := by
  unfold maxLen at hs
  have hv1 : bitsL s.data.toList = false → bitsB s n = false := fun h => by unfold bitsB; rw [h, Bool.and_false]
  have hv2 : bitsL s.data.toList = true → bitsB s n = decide ((s.size : Int) = n) := fun h => by unfold bitsB; rw [h, Bool.and_true]
  obtain ⟨V, hV⟩ : ∃ V, V = bitsB s n := ⟨_, rfl⟩
  rw [← hV] at hv1 hv2 ⊢
  have Hv1 := Lib.hid hv1
  have Hv2 := Lib.hid hv2
  clear hv1 hv2 hV
  go_enter Tryd.func50, Tryd.ntmps50
  go_wp2
  go_loop [5] (fun i => ∃ k : Nat, k ≤ s.size ∧ i = .int .i64 k ∧ bitsL (s.data.toList.take k) = true) (fun i => s.size - (intOf i).toNat)
  case atStart => exact ⟨0, Nat.zero_le _, rfl, rfl⟩
  case round =>
    obtain ⟨k, hk, rfl, hb⟩ := hrel
    have Hb := Lib.hid hb
    clear hb
    by_cases hlt : k < s.size
    · have hg := bits_get s k hlt
      have hn := bits_no s k hlt
      rw [← bit_ne (m := 48) rfl, ← bit_ne (m := 49) rfl] at hg hn
      cases h48 : ((s[k].toNat : Int) == 48) with
      | true =>
        rw [h48] at hg
        have n48 : ((s[k].toNat : Int) != 48) = false := by simp only [bne, h48]; rfl
        have Hg := Lib.hid hg
        clear hg hn
        go_wp2
        go_round
        case rel => exact ⟨k + 1, by omega, by go_num, by rw [Hg.out, Hb.out]; rfl⟩
        case measure => simp [intOf]; omega
      | false =>
        cases h49 : ((s[k].toNat : Int) == 49) with
        | true =>
          rw [h48, h49] at hg
          have n48 : ((s[k].toNat : Int) != 48) = true := by simp only [bne, h48]; rfl
          have n49 : ((s[k].toNat : Int) != 49) = false := by simp only [bne, h49]; rfl
          have Hg := Lib.hid hg
          clear hg hn
          go_wp2
          go_round
          case rel => exact ⟨k + 1, by omega, by go_num, by rw [Hg.out, Hb.out]; rfl⟩
          case measure => simp [intOf]; omega
        | false =>
          rw [h48, h49] at hn
          have n48 : ((s[k].toNat : Int) != 48) = true := by simp only [bne, h48]; rfl
          have n49 : ((s[k].toNat : Int) != 49) = true := by simp only [bne, h49]; rfl
          have Hn := Lib.hid (hn rfl)
          clear hg hn
          go_wp2
          go_ret
          exact ⟨by rw [Hv1.out Hn.out]; rfl, rfl⟩
    · have hall : bitsL s.data.toList = true := by
        have := Hb.out
        rwa [List.take_of_length_le (by simp; omega)] at this
      have Hall := Lib.hid hall
      clear hall
      go_wp2
      go_ret
      refine ⟨?_, rfl⟩
      rw [Hv2.out Hall.out]
      congr 2

set_option maxHeartbeats 1000000 in
theorem StructureValid_spec (i : Int) (s r : ByteArray) (w : World) (hs : s.size ≤ maxLen) (hr : r.size ≤ maxLen) :
    Calls Tryd.prog 30 #[stV i s r] w fun e w' => e = .returned (.bool (okB i s r)) ∧ Below w.heap.size w w' := by
  have Hs := Lib.hid hs
  have Hr := Lib.hid hr
  clear hs hr
  by_cases h1 : 1 ≤ i ∧ i ≤ 8
  · obtain ⟨h1, h2⟩ := h1
    obtain ⟨g1, g2⟩ := sq_bd h1 h2
    have c0 : ∀ W, Calls Tryd.prog 32 #[.int .i64 i, .int .i64 1, .int .i64 8] W fun e w' => e = .returned (.bool true) ∧ W = w' := fun W => by
      have := l1In_calls i 1 8 W
      rwa [decide_eq_true h1, decide_eq_true h2] at this
    have c1 := l1Bits_calls s i
    have c2 := l1Bits_calls r (i * i)
    obtain ⟨q, hq⟩ : ∃ q, q = i * i := ⟨_, rfl⟩
    have hv : okB i s r = (bitsB s i && bitsB r q) := by unfold okB; rw [decide_eq_true h1, decide_eq_true h2, hq]; rfl
    rw [hv]
    rw [← hq] at g1 g2 c2
    have hmul : IntKind.i64.wrap (i * i) = q := by rw [← hq]; exact IntWalk.i64_in _ (by omega)
    have C0 := Lib.hid c0
    have C1 := Lib.hid c1
    have C2 := Lib.hid c2
    clear c0 c1 c2 hv
    cases hb1 : bitsB s i with
    | false =>
      rw [hb1] at C1
      clear hq hmul hb1
      go_enter Tryd.func30, Tryd.ntmps30
      go_wp2_with (first | (go_at_call 32; (with_reducible refine (C0.out _).mono ?_); rintro e w' ⟨rfl, rfl⟩) | (go_at_call 50; (with_reducible refine (C1.out _ Hs.out).mono ?_); rintro e w' ⟨rfl, rfl⟩))
      go_ret
      exact ⟨rfl, (Below.refl _ _).alloc (Nat.le_refl _) _⟩
    | true =>
      rw [hb1] at C1
      have Hq := Lib.hid hq
      clear hq hb1
      go_enter Tryd.func30, Tryd.ntmps30
      go_wp2_with fail
      refine (C0.out _).mono ?_
      rintro e w1 ⟨rfl, rfl⟩
      go_wp2_with fail
      refine (C1.out _ Hs.out).mono ?_
      rintro e w1 ⟨rfl, rfl⟩
      go_wp2_with fail
      refine (C2.out _ Hr.out).mono ?_
      rintro e w2 ⟨rfl, rfl⟩
      go_wp2_with fail
      go_ret
      exact ⟨rfl, (Below.refl _ _).alloc (Nat.le_refl _) _⟩
  · have hv : okB i s r = false := by
      unfold okB
      by_cases h2 : 1 ≤ i
      · rw [decide_eq_false (p := i ≤ 8) (fun h => h1 ⟨h2, h⟩)]; simp
      · rw [decide_eq_false h2]; simp
    rw [hv]
    have c0 : ∀ W, Calls Tryd.prog 32 #[.int .i64 i, .int .i64 1, .int .i64 8] W fun e w' => e = .returned (.bool false) ∧ W = w' := fun W => by
      have := l1In_calls i 1 8 W
      have e : (decide (1 ≤ i) && decide (i ≤ 8)) = false := by
        rw [Bool.eq_false_iff]; simp only [ne_eq, Bool.and_eq_true, decide_eq_true_eq]; exact h1
      rwa [e] at this
    have C0 := Lib.hid c0
    clear hv c0 h1
    go_enter Tryd.func30, Tryd.ntmps30
    go_wp2_with (go_at_call 32; (with_reducible refine (C0.out _).mono ?_); rintro e w' ⟨rfl, rfl⟩)
    go_ret
    exact ⟨rfl, (Below.refl _ _).alloc (Nat.le_refl _) _⟩

theorem szStructure_calls (i : Int) (s r : ByteArray) (left : Nat) (w : World) (hl : left ≤ 1048576) (hs : s.size ≤ maxLen) (hr : r.size ≤ maxLen) :
    Calls Tryd.prog 10 #[stV i s r, .int .i64 left] w fun e w' => (∃ m : Int, e = .returned (.int .i64 m) ∧ (0 ≤ m → s.size + r.size ≤ left ∧ m = left - s.size - r.size)) ∧ Below w.heap.size w w' := by
  unfold maxLen at hs hr
  go_enter Tryd.func10, Tryd.ntmps10
  go_wp2_with fail
  · go_ret
    exact ⟨⟨_, rfl, fun h => absurd h (by decide)⟩, (Below.refl _ _).alloc (Nat.le_refl _) _⟩
  · go_ret
    exact ⟨⟨_, rfl, fun h => absurd h (by decide)⟩, (Below.refl _ _).alloc (Nat.le_refl _) _⟩
  · go_ret
    exact ⟨⟨_, rfl, fun h => ⟨by omega, rfl⟩⟩, (Below.refl _ _).alloc (Nat.le_refl _) _⟩

theorem toStructure_calls (i : Int) (s r : ByteArray) (w : World) :
    Calls Tryd.prog 12 #[stV i s r] w fun e w' => e = .returned (stV i s r) ∧ Below w.heap.size w w' := by
  go_enter Tryd.func12, Tryd.ntmps12
  go_wp2_with fail
  exact bodyPost_ret (v := stV i s r) (by simp [results, Tryd.results12, go_sem]) rfl ⟨rfl, by first | exact (Below.refl _ _).alloc (Nat.le_refl _) _ | exact ((Below.refl _ _).alloc (Nat.le_refl _) _).alloc (by simp) _ | exact (((Below.refl _ _).alloc (Nat.le_refl _) _).alloc (by simp) _).alloc (by simp; omega) _⟩

end Go.Proofs.YtebjanjobfiloaaDoor

namespace Go.Proofs.YtebjanjobfiloaaDoor
open Go.RowKit
open Pl
set_option linter.unusedSimpArgs false
set_option linter.unusedVariables false

/-- a valid structure in Go -/
abbrev stA (a : St) : Value := stV (a.n : Int) (bs a.set) (bs a.rel)

theorem bitsL_iff (l : List UInt8) : bitsL l = true ↔ ∀ b ∈ l, IsBit b := by
  unfold bitsL IsBit
  rw [List.all_eq_true]
  simp only [Bool.or_eq_true, beq_iff_eq]

theorem okB_true {a : St} (h : a.ok) : okB (a.n : Int) (bs a.set) (bs a.rel) = true := by
  have h1 := h.lo; have h8 := h.hi
  unfold okB bitsB
  rw [decide_eq_true (show (1 : Int) ≤ a.n by omega), decide_eq_true (show (a.n : Int) ≤ 8 by omega), bs_data, bs_data, (bitsL_iff _).2 h.sb, (bitsL_iff _).2 h.rb, bs_size, bs_size, h.sl, h.rl]
  simp

theorem ok_cases (i : Int) (s r : ByteArray) : okB i s r = false ∨ ∃ a : St, a.ok ∧ i = a.n ∧ s = bs a.set ∧ r = bs a.rel := by
  cases hb : okB i s r with
  | false => exact .inl rfl
  | true =>
    right
    unfold okB bitsB at hb
    simp only [Bool.and_eq_true, decide_eq_true_eq] at hb
    obtain ⟨h1, h8, ⟨h2, h3⟩, h4, h5⟩ := hb
    have hn : i = (i.toNat : Int) := by omega
    refine ⟨⟨i.toNat, s.data.toList, r.data.toList⟩, ⟨by show 1 ≤ i.toNat; omega, by show i.toNat ≤ 8; omega, ?_, ?_, (bitsL_iff _).1 h3, (bitsL_iff _).1 h5⟩, hn, (bs_of s).symm, (bs_of r).symm⟩
    · show s.data.toList.length = i.toNat
      rw [← Lib.size_eq]; omega
    · show r.data.toList.length = i.toNat * i.toNat
      rw [← Lib.size_eq]
      rw [hn] at h4
      have : ((i.toNat * i.toNat : Nat) : Int) = (i.toNat : Int) * (i.toNat : Int) := by simp
      omega

theorem bs_get (l : List UInt8) (k : Nat) (h : k < l.length) : ∃ h2 : k < (bs l).size, (bs l)[k] = l[k] := ⟨by rw [bs_size]; exact h, rfl⟩

theorem bit_49 (b : Bool) : (((bitB b).toNat : Int) == 49) = b := by cases b <;> rfl

/-- what a walk asks of the set's byte -/
theorem set_byte {a : St} (h : a.ok) {x : Nat} (hx : x < a.n) : ∃ S : ByteArray, S = bs a.set ∧ ∃ h2 : x < S.size, ((S[x].toNat : Int) == 49) = a.inS x := by
  obtain ⟨hl, hg⟩ := inS_get h hx
  refine ⟨_, rfl, by rw [bs_size]; exact hl, ?_⟩
  show ((a.set[x].toNat : Int) == 49) = _
  rw [hg, bit_49]

theorem rel_byte {a : St} (h : a.ok) {x y : Nat} (hx : x < a.n) (hy : y < a.n) : ∃ (R : ByteArray) (m : Nat), R = bs a.rel ∧ IntKind.i64.wrap ((x : Int) * (a.n : Int)) = m ∧ m ≤ 64 ∧ R.size ≤ 64 ∧ ∃ h2 : m + y < R.size, ((R[m + y].toNat : Int) == 49) = a.inR x y := by
  obtain ⟨hl, hg⟩ := inR_get h hx hy
  have h8 := sq_le h.hi
  have hrl := h.rl
  refine ⟨_, x * a.n, rfl, ?_, by omega, by rw [bs_size]; omega, by rw [bs_size]; exact hl, ?_⟩
  · rw [show ((x : Int) * (a.n : Int)) = ((x * a.n : Nat) : Int) by simp]
    exact IntWalk.i64_in _ (by omega)
  · show ((a.rel[x * a.n + y].toNat : Int) == 49) = _
    rw [hg, bit_49]

theorem inSet_calls (a : St) (ha : a.ok) (x : Nat) (hx : x < a.n) (w : World) :
    Calls Tryd.prog 43 #[stA a, .int .i64 x] w fun e w' => e = .returned (.bool (a.inS x)) ∧ Below w.heap.size w w' := by
  obtain ⟨S, hS, hlt, hv⟩ := set_byte ha hx
  have hn := ha.hi
  unfold stA
  rw [← hS]
  generalize bs a.rel = R
  generalize a.n = n at hx hn
  have Hv := Lib.hid hv
  clear hS hv
  go_enter Tryd.func43, Tryd.ntmps43
  go_wp2_with fail
  go_ret
  exact ⟨by rw [← Hv.out]; rfl, (Below.refl _ _).alloc (Nat.le_refl _) _⟩

theorem l1Set_calls (a : St) (ha : a.ok) (x : Nat) (hx : x < a.n) (w : World) :
    Calls Tryd.prog 64 #[stA a, .int .i64 x] w fun e w' => e = .returned (.bool (a.inS x)) ∧ Below w.heap.size w w' := by
  obtain ⟨S, hS, hlt, hv⟩ := set_byte ha hx
  have hn := ha.hi
  unfold stA
  rw [← hS]
  generalize bs a.rel = R
  generalize a.n = n at hx hn
  have Hv := Lib.hid hv
  clear hS hv
  go_enter Tryd.func64, Tryd.ntmps64
  go_wp2_with fail
  go_ret
  exact ⟨by rw [← Hv.out]; rfl, (Below.refl _ _).alloc (Nat.le_refl _) _⟩

set_option maxHeartbeats 400000 in
theorem inRel_calls (a : St) (ha : a.ok) (x y : Nat) (hx : x < a.n) (hy : y < a.n) (w : World) :
    Calls Tryd.prog 81 #[stA a, .int .i64 x, .int .i64 y] w fun e w' => e = .returned (.bool (a.inR x y)) ∧ Below w.heap.size w w' := by
  obtain ⟨R, m, hR, hm, hm64, hR64, hlt, hv⟩ := rel_byte ha hx hy
  have hn := ha.hi
  unfold stA
  rw [← hR]
  generalize bs a.set = S
  generalize a.inR x y = V at hv
  generalize a.n = n at hx hy hn hm
  have Hv := Lib.hid hv
  have e1 : (m : Int) + (y : Int) < (R.size : Int) := by omega
  have e2 : ((m : Int) + (y : Int)).toNat = m + y := by omega
  have e3 : IntKind.i64.wrap ((m : Int) + (y : Int)) = (m : Int) + (y : Int) := IntWalk.i64_in _ (by omega)
  clear hR hv
  go_enter Tryd.func81, Tryd.ntmps81
  go_wp2_with fail
  go_ret
  exact ⟨by rw [← Hv.out]; rfl, (Below.refl _ _).alloc (Nat.le_refl _) _⟩

set_option maxHeartbeats 400000 in
theorem l1Rel_calls (a : St) (ha : a.ok) (x y : Nat) (hx : x < a.n) (hy : y < a.n) (w : World) :
    Calls Tryd.prog 65 #[stA a, .int .i64 x, .int .i64 y] w fun e w' => e = .returned (.bool (a.inR x y)) ∧ Below w.heap.size w w' := by
  obtain ⟨R, m, hR, hm, hm64, hR64, hlt, hv⟩ := rel_byte ha hx hy
  have hn := ha.hi
  unfold stA
  rw [← hR]
  generalize bs a.set = S
  generalize a.inR x y = V at hv
  generalize a.n = n at hx hy hn hm
  have Hv := Lib.hid hv
  have e1 : (m : Int) + (y : Int) < (R.size : Int) := by omega
  have e2 : ((m : Int) + (y : Int)).toNat = m + y := by omega
  have e3 : IntKind.i64.wrap ((m : Int) + (y : Int)) = (m : Int) + (y : Int) := IntWalk.i64_in _ (by omega)
  clear hR hv
  go_enter Tryd.func65, Tryd.ntmps65
  go_wp2_with fail
  go_ret
  exact ⟨by rw [← Hv.out]; rfl, (Below.refl _ _).alloc (Nat.le_refl _) _⟩

/-- a number is an element -/
def elB (i x : Int) : Bool := decide (0 ≤ x) && decide (x < i)

end Go.Proofs.YtebjanjobfiloaaDoor

namespace Go.Proofs.YtebjanjobfiloaaDoor
open Go.RowKit
open Pl
set_option linter.unusedSimpArgs false
set_option linter.unusedVariables false

/-- the structure that is meant -/
def ofSt (i : Int) (s r : ByteArray) : St := ⟨i.toNat, s.data.toList, r.data.toList⟩
theorem ofSt_eq (a : St) : ofSt (a.n : Int) (bs a.set) (bs a.rel) = a := rfl

def inSetV (i : Int) (s r : ByteArray) (x : Int) : Bool := okB i s r && (elB i x && (ofSt i s r).inS x.toNat)
def inRelV (i : Int) (s r : ByteArray) (x y : Int) : Bool := okB i s r && (elB i x && (elB i y && (ofSt i s r).inR x.toNat y.toNat))

theorem el_cases (n : Nat) (x : Int) : elB n x = false ∨ ∃ k : Nat, x = k ∧ k < n ∧ elB n x = true := by
  cases h : elB n x with
  | false => exact .inl rfl
  | true =>
    right
    unfold elB at h
    simp only [Bool.and_eq_true, decide_eq_true_eq] at h
    exact ⟨x.toNat, by omega, by omega, rfl⟩

theorem el_in {n : Nat} {x : Int} (h : 1 ≤ n) : (decide (0 ≤ x) && decide (x ≤ (n : Int) - 1)) = elB n x := by
  unfold elB
  rw [show decide (x ≤ (n : Int) - 1) = decide (x < (n : Int)) from by rw [decide_eq_decide]; omega]

theorem st_bounds {a : St} (ha : a.ok) : (bs a.set).size ≤ maxLen ∧ (bs a.rel).size ≤ maxLen := by
  have h8 := ha.hi; have h1 := ha.sl; have h2 := ha.rl; have h3 := sq_le h8
  rw [bs_size, bs_size]
  unfold maxLen
  constructor <;> omega

end Go.Proofs.YtebjanjobfiloaaDoor

namespace Go.Proofs.YtebjanjobfiloaaDoor
open Go.RowKit
open Pl
set_option linter.unusedSimpArgs false
set_option linter.unusedVariables false

theorem bitOf_calls (b : Bool) (w : World) : Calls Tryd.prog 61 #[.bool b] w fun e w' => e = .returned (.string (bs [bitB b])) ∧ w = w' := by
  cases b
  all_goals
    go_enter Tryd.func61, Tryd.ntmps61
    go_wp2_with fail
    go_ret
    exact ⟨rfl, rfl⟩

theorem l1Bit_calls (b : Bool) (w : World) : Calls Tryd.prog 60 #[.bool b] w fun e w' => e = .returned (.string (bs [bitB b])) ∧ w = w' := by
  cases b
  all_goals
    go_enter Tryd.func60, Tryd.ntmps60
    go_wp2_with fail
    go_ret
    exact ⟨rfl, rfl⟩

/-- the set's bits up to k, the relation's bits up to row k, up to place j of row k -/
def setTo (f : Nat → Bool) (k : Nat) : List UInt8 := (List.range k).map fun x => bitB (f x)
def relTo (n : Nat) (g : Nat → Nat → Bool) (k : Nat) : List UInt8 := (List.range k).flatMap fun x => (List.range n).map fun y => bitB (g x y)
def relAt (n : Nat) (g : Nat → Nat → Bool) (k j : Nat) : List UInt8 := relTo n g k ++ (List.range j).map fun y => bitB (g k y)

theorem setTo_succ (f : Nat → Bool) (k : Nat) : setTo f (k + 1) = setTo f k ++ [bitB (f k)] := by simp [setTo, List.range_succ]
theorem relAt_succ (n : Nat) (g : Nat → Nat → Bool) (k j : Nat) : relAt n g k (j + 1) = relAt n g k j ++ [bitB (g k j)] := by simp [relAt, List.range_succ]
theorem relAt_zero (n : Nat) (g : Nat → Nat → Bool) (k : Nat) : relAt n g k 0 = relTo n g k := by simp [relAt]
theorem relTo_succ (n : Nat) (g : Nat → Nat → Bool) (k : Nat) : relTo n g (k + 1) = relAt n g k n := by simp [relTo, relAt, List.range_succ]
theorem setTo_len (f : Nat → Bool) (k : Nat) : (setTo f k).length = k := by simp [setTo]
theorem relTo_len (n : Nat) (g : Nat → Nat → Bool) (k : Nat) : (relTo n g k).length = k * n := (flat_get (fun x y => bitB (g x y)) k).1
theorem relAt_len (n : Nat) (g : Nat → Nat → Bool) (k j : Nat) : (relAt n g k j).length = k * n + j := by simp [relAt, relTo_len]

theorem enter_of {P : Program} {F : FuncId} {fn : Func} (hf : P.funcs[F]? = some fn) (hn : (fn.name == "runtime.NumGoroutine") = false) (hb : fn.body.isNone = false) : ∀ (args : Array Value) (w : World), (callFunc F args).run P w = .ok (.enter F args) w := by
  intro args w
  have hn2 : ¬ fn.name = "runtime.NumGoroutine" := beq_eq_false_iff_ne.1 hn
  have hb2 : ¬ fn.body = none := by intro e; rw [e] at hb; cases hb
  simp [callFunc, hf, hn2, hb2]

/-- a block that is known whole -/
def Bx (w : World) (g : Nat) (t : TypeId) (cs : Array Value) : Prop := w.heap[g]? = some (.cells cs t (0, 0))

theorem Bx.lt {w : World} {g : Nat} {t : TypeId} {cs : Array Value} (h : Bx w g t cs) : g < w.heap.size := by
  rcases Nat.lt_or_ge g w.heap.size with h1 | h1
  · exact h1
  · unfold Bx at h; rw [Array.getElem?_eq_none h1] at h; cases h
theorem Bx.cell {w : World} {g : Nat} {t : TypeId} {cs : Array Value} (h : Bx w g t cs) (i : Nat) : w.cell? ⟨g, i, none⟩ = cs[i]? := by
  unfold Bx at h; simp [World.cell?, h]
theorem Bx.free {w : World} {g : Nat} {t : TypeId} {cs : Array Value} (h : Bx w g t cs) (i : Nat) : w.frozen? ⟨g, i, none⟩ = false := by
  unfold Bx at h; simp [World.frozen?, h]
theorem Bx.new (w : World) (t : TypeId) (cs : Array Value) : Bx (w.alloc (.cells cs t)) w.heap.size t cs := heap_alloc_new w _
theorem bx_two (w : World) (o : Obj) (cs : Array Value) {t : TypeId} : Bx ((w.alloc o).alloc (.cells cs t)) (w.heap.size + 1) t cs := by
  have h := Bx.new (w.alloc o) t cs
  rwa [World.size_alloc] at h
theorem Bx.alloc {w : World} {g : Nat} {t : TypeId} {cs : Array Value} (h : Bx w g t cs) (o : Obj) : Bx (w.alloc o) g t cs := (Below.heap_alloc w o g h.lt).trans h
theorem Bx.drew {w : World} {g : Nat} {t : TypeId} {cs : Array Value} (h : Bx w g t cs) : Bx w.drew g t cs := h
theorem Bx.drewN {w : World} {g : Nat} {t : TypeId} {cs : Array Value} (h : Bx w g t cs) (k : Nat) : Bx (w.drewN k) g t cs := h
theorem Bx.below {w w' : World} {g B : Nat} {t : TypeId} {cs : Array Value} (h : Bx w g t cs) (hb : Below B w w') (hg : g < B) : Bx w' g t cs := (hb.block g hg).trans h
theorem Bx.call {w w' : World} {g : Nat} {t : TypeId} {cs : Array Value} (h : Bx w g t cs) (hb : Below w.heap.size w w') : Bx w' g t cs := h.below hb h.lt
theorem Bx.set {w : World} {g : Nat} {t : TypeId} {cs : Array Value} (h : Bx w g t cs) (i : Nat) (u : Value) : Bx (w.setCell ⟨g, i, none⟩ u) g t (cs.setIfInBounds i u) := by
  unfold Bx at h ⊢
  simp [World.setCell, Array.getElem?_modify, h]
theorem Bx.far {w : World} {g : Nat} {t : TypeId} {cs : Array Value} (h : Bx w g t cs) {p : Addr} (hp : g ≠ p.block) (u : Value) : Bx (w.setCell p u) g t cs := (Below.heap_setCell w p u g hp).trans h

set_option maxHeartbeats 1000000 in
set_option maxRecDepth 100000 in
theorem makeStructure_calls (n : Nat) (hn : n ≤ 8) (f : Nat → Bool) (g : Nat → Nat → Bool) (F G : FuncId) (fF cF fG cG : Array Value) (w : World)
    (eF : ∀ (args : Array Value) (W : World), (callFunc F args).run Tryd.prog W = .ok (.enter F args) W) (eG : ∀ (args : Array Value) (W : World), (callFunc G args).run Tryd.prog W = .ok (.enter G args) W)
    (hF : ∀ (x : Nat) (W : World), x < n → Below w.heap.size w W → Calls Tryd.prog F (fF.push (.int .i64 x) ++ cF) W fun e W' => e = .returned (.bool (f x)) ∧ Below W.heap.size W W')
    (hG : ∀ (x y : Nat) (W : World), x < n → y < n → Below w.heap.size w W → Calls Tryd.prog G (fG ++ (#[.int .i64 x, .int .i64 y] ++ cG)) W fun e W' => e = .returned (.bool (g x y)) ∧ Below W.heap.size W W') :
    Calls Tryd.prog 42 #[.int .i64 n, .func (.func F) fF cF, .func (.func G) fG cG] w fun e w' => e = .returned (stA (mkSt n f g)) ∧ Below w.heap.size w w' := by
  have HF := Lib.hid hF
  have HG := Lib.hid hG
  clear hF hG
  go_enter Tryd.func42, Tryd.ntmps42
  go_wp2_with fail
  go_loopg [13] n (fun c i wr => ∃ k : Nat, k + c = n ∧ i = .int .i64 k ∧ Bx wr w.heap.size 28 #[.int .i64 0, .string (bs []), .string (bs [])] ∧ Bx wr (w.heap.size + 1) 28 #[.int .i64 n, .string (bs (setTo f k)), .string (bs (relTo n g k))] ∧ Below w.heap.size w wr)
  case atStart => exact ⟨0, by omega, rfl, (Bx.new w _ _).alloc _, bx_two _ _ _, ((Below.refl _ _).alloc (Nat.le_refl _) _).alloc (by simp) _⟩
  case round =>
    obtain ⟨k, hk, rfl, hr0, hb0, hbw⟩ := hrel
    have Hr0 := Lib.hid hr0
    have Hb0 := Lib.hid hb0
    have Hbw := Lib.hid hbw
    clear hr0 hb0 hbw
    by_cases hlt : k < n
    · have c1 := Hb0.out.cell 1
      have f1 := Hb0.out.free 1
      simp at c1
      have s1 : (bs (setTo f k)).size ≤ 8 := by rw [bs_size, setTo_len]; omega
      have s2 : (bs [bitB (f k)]).size ≤ 1 := by rw [bs_size]; simp
      have hs3 : bs (setTo f k) ++ bs [bitB (f k)] = bs (setTo f (k + 1)) := by rw [append_bs, bs_data, bs_data, setTo_succ]
      have Hs3 := Lib.hid hs3
      clear hs3
      go_upto_region 5 with (fail)
      go_cut [22] (fun v wx => v = .string (bs (setTo f (k + 1))) ∧ Bx wx w.heap.size 28 #[.int .i64 0, .string (bs []), .string (bs [])] ∧ Bx wx (w.heap.size + 1) 28 #[.int .i64 n, .string (bs (setTo f (k + 1))), .string (bs (relTo n g k))] ∧ Below w.heap.size w wx)
      case first =>
        go_region_with (first | (go_at_call 61; refine (bitOf_calls _ _).mono ?_; rintro e w2 ⟨rfl, rfl⟩) | (go_simp; refine (HF.out k _ hlt Hbw.out.drew).mono ?_; rintro e w1 ⟨rfl, hz⟩; have c2 := (Hb0.out.drew.call hz).cell 1; have f2 := (Hb0.out.drew.call hz).free 1; simp at c2; have Hz := Lib.hid hz; clear hz))
        all_goals
          go_wp2_with fail
          go_meet
          case rel => exact ⟨str_eq Hs3.out, (Hr0.out.drew.call Hz.out).far (by simp) _, by rw [← Hs3.out]; exact (Hb0.out.drew.call Hz.out).set 1 _, (Hbw.out.drew.trans (Hz.out.mono Hbw.out.drew.size)).setCell (by simp) _⟩
      case rest =>
        obtain ⟨rfl, hr1, hb1, hbw1⟩ := hcut
        have Hr1 := Lib.hid hr1
        have Hb1 := Lib.hid hb1
        have Hbw1 := Lib.hid hbw1
        clear hr1 hb1 hbw1 c1 f1 s1 s2
        go_wp2_with fail
        go_loopg [25] n (fun c i wr => ∃ j : Nat, j + c = n ∧ i = .int .i64 j ∧ Bx wr w.heap.size 28 #[.int .i64 0, .string (bs []), .string (bs [])] ∧ Bx wr (w.heap.size + 1) 28 #[.int .i64 n, .string (bs (setTo f (k + 1))), .string (bs (relAt n g k j))] ∧ Below w.heap.size w wr)
        case atStart => exact ⟨0, by omega, rfl, Hr1.out, by rw [relAt_zero]; exact Hb1.out, Hbw1.out⟩
        case round =>
          clear Hr0 Hb0 Hbw Hr1 Hb1 Hbw1 Hs3
          obtain ⟨j, hj, rfl, hr0, hb0, hbw⟩ := hrel
          have Hr0 := Lib.hid hr0
          have Hb0 := Lib.hid hb0
          have Hbw := Lib.hid hbw
          clear hr0 hb0 hbw
          by_cases hlj : j < n
          · have c1 := Hb0.out.cell 2
            have f1 := Hb0.out.free 2
            simp at c1
            have s1 : (bs (relAt n g k j)).size ≤ 100 := by
              rw [bs_size, relAt_len]
              have h64 := sq_le hn
              have hkn : k * n ≤ n * n := Nat.mul_le_mul_right n (by omega)
              omega
            have s2 : (bs [bitB (g k j)]).size ≤ 1 := by rw [bs_size]; simp
            have hs3 : bs (relAt n g k j) ++ bs [bitB (g k j)] = bs (relAt n g k (j + 1)) := by rw [append_bs, bs_data, bs_data, relAt_succ]
            have Hs3 := Lib.hid hs3
            clear hs3
            go_upto_region 9 with (fail)
            go_region_with (first | (go_at_call 61; refine (bitOf_calls _ _).mono ?_; rintro e w2 ⟨rfl, rfl⟩) | (go_simp; refine (HG.out k j _ hlt hlj Hbw.out.drew).mono ?_; rintro e w1 ⟨rfl, hz⟩; have c2 := (Hb0.out.drew.call hz).cell 2; have f2 := (Hb0.out.drew.call hz).free 2; simp at c2; have Hz := Lib.hid hz; clear hz))
            all_goals
              go_wp2_with fail
              go_roundg (n - j - 1)
              case rel => exact ⟨j + 1, by omega, by go_num, (Hr0.out.drew.call Hz.out).far (by simp) _, by rw [← Hs3.out]; exact (Hb0.out.drew.call Hz.out).set 2 _, (Hbw.out.drew.trans (Hz.out.mono Hbw.out.drew.size)).setCell (by simp) _⟩
              case measure => omega
          · obtain rfl : n = j := by omega
            go_wp2_with fail
            go_roundg (n - k - 1)
            case rel => exact ⟨k + 1, by omega, by go_num, Hr0.out, by rw [relTo_succ]; exact Hb0.out, Hbw.out⟩
            case measure => omega
    · obtain rfl : n = k := by omega
      have c0 := Hb0.out.cell 0
      have c1 := Hb0.out.cell 1
      have c2 := Hb0.out.cell 2
      simp at c0 c1 c2
      have d0 := Hr0.out.cell 0
      have d1 := Hr0.out.cell 1
      have d2 := Hr0.out.cell 2
      have e0 := Hr0.out.free 0
      have e1 := Hr0.out.free 1
      have e2 := Hr0.out.free 2
      simp at d0 d1 d2
      go_wp2_with fail
      have x3 := ((Hr0.out.set 0 (.int .i64 n)).set 1 (.string (bs (setTo f n)))).set 2 (.string (bs (relTo n g n)))
      have q0 := x3.cell 0
      have q1 := x3.cell 1
      have q2 := x3.cell 2
      simp at q0 q1 q2
      refine bodyPost_ret (v := stA (mkSt n f g)) ?_ rfl ⟨rfl, ?_⟩
      · simp [results, Tryd.results42, go_sem, q0, q1, q2]
        exact ⟨rfl, rfl, rfl⟩
      · exact ((Hbw.out.setCell (Nat.le_refl _) _).setCell (Nat.le_refl _) _).setCell (Nat.le_refl _) _

end Go.Proofs.YtebjanjobfiloaaDoor

namespace Go.Proofs.YtebjanjobfiloaaDoor
open Go.RowKit
open Go.ChangeMaps
open Pl
set_option linter.unusedSimpArgs false
set_option linter.unusedVariables false

/-- a map from numbers to truth, of which each entry is right -/
def InnerOK (G : Nat → Bool → Prop) (es : Array MapEntry) : Prop := ∀ x ∈ es.toList, ∃ (k : Nat) (v : Bool), k < 4096 ∧ x.key = .int .i64 (k : Nat) ∧ x.val = .bool v ∧ G k v

/-- the holder's map of maps -/
structure Cache (G : Nat → Nat → Bool → Prop) (hb : Nat) (w : World) : Prop where
  at_ : ∃ (es : Array MapEntry) (clock : Nat), w.heap[hb]? = some (.map es clock) ∧
    (∀ x ∈ es.toList, ∃ (nb ib : Nat) (c : Array Value) (t : TypeId) (esi : Array MapEntry) (ci : Nat), x.key = kidV nb ∧ w.heap[nb]? = some (.cells c t (0, 0)) ∧ x.val = .map (some ib) ∧ hb < ib ∧ w.heap[ib]? = some (.map esi ci) ∧ InnerOK (G nb) esi) ∧
    ((∀ x ∈ es.toList, ∀ y ∈ es.toList, x.val = y.val → x.key = y.key) ∧ ∀ x ∈ es.toList, ∃ nb, x.key = kidV nb ∧ nb < hb)

/-- an inner map that the holder keeps for a formula -/
def Kept (G : Nat → Nat → Bool → Prop) (hb nb ib : Nat) (w : World) : Prop := ∃ (es : Array MapEntry) (clock : Nat), w.heap[hb]? = some (.map es clock) ∧ ∃ x ∈ es.toList, x.key = kidV nb ∧ x.val = .map (some ib)

/-- what a call of the holder leaves as it was: all below its map, and all cells -/
structure Fz (B : Nat) (w w' : World) : Prop where
  below : Below B w w'
  cells : ∀ (j : Nat) (c : Array Value) (t : TypeId) (k : Nat × Nat), w.heap[j]? = some (.cells c t k) → w'.heap[j]? = some (.cells c t k)

theorem Fz.refl (B : Nat) (w : World) : Fz B w w := ⟨Below.refl _ _, fun _ _ _ _ h => h⟩
theorem Fz.trans {B : Nat} {w w' w'' : World} (h : Fz B w w') (h' : Fz B w' w'') : Fz B w w'' := ⟨h.below.trans h'.below, fun j c t k hj => h'.cells j c t k (h.cells j c t k hj)⟩
theorem Fz.call {B : Nat} {w w' : World} (hB : B ≤ w.heap.size) (h : Below w.heap.size w w') : Fz B w w' := ⟨h.mono hB, fun j c t k hj => (h.block j (Array.getElem?_eq_some_iff.1 hj).1).trans hj⟩
theorem Fz.alloc {B : Nat} {w : World} (hB : B ≤ w.heap.size) (o : Obj) : Fz B w (w.alloc o) := Fz.call hB ((Below.refl _ _).alloc (Nat.le_refl _) o)
theorem Fz.drew {B : Nat} {w w' : World} (h : Fz B w w') : Fz B w w'.drew := ⟨h.below.drew, h.cells⟩
theorem Fz.bx {B : Nat} {w w' : World} {g : Nat} {t : TypeId} {cs : Array Value} (h : Fz B w w') (hx : Bx w g t cs) : Bx w' g t cs := h.cells g cs t (0, 0) hx

theorem Cache.keep {G : Nat → Nat → Bool → Prop} {hb : Nat} {w w' : World} (h : Cache G hb w) (hm : ∀ (j : Nat) (es : Array MapEntry) (c : Nat), w.heap[j]? = some (.map es c) → w'.heap[j]? = some (.map es c)) (hc : ∀ (j : Nat) (c : Array Value) (t : TypeId), w.heap[j]? = some (.cells c t (0, 0)) → ∃ (c' : Array Value) (t' : TypeId), w'.heap[j]? = some (.cells c' t' (0, 0))) : Cache G hb w' := by
  obtain ⟨es, clock, h1, h2, h3⟩ := h.at_
  refine ⟨es, clock, hm _ _ _ h1, fun x hx => ?_, h3⟩
  obtain ⟨nb, ib, c, t, esi, ci, a1, a2, a3, a4, a5, a6⟩ := h2 x hx
  obtain ⟨c', t', e⟩ := hc _ _ _ a2
  exact ⟨nb, ib, c', t', esi, ci, a1, e, a3, a4, hm _ _ _ a5, a6⟩
theorem Cache.call {G : Nat → Nat → Bool → Prop} {hb : Nat} {w w' : World} (h : Cache G hb w) (hb' : Below w.heap.size w w') : Cache G hb w' :=
  h.keep (fun j es c hj => (hb'.block j (Array.getElem?_eq_some_iff.1 hj).1).trans hj) (fun j c t hj => ⟨c, t, (hb'.block j (Array.getElem?_eq_some_iff.1 hj).1).trans hj⟩)
theorem Cache.alloc {G : Nat → Nat → Bool → Prop} {hb : Nat} {w : World} (h : Cache G hb w) (o : Obj) : Cache G hb (w.alloc o) := h.call ((Below.refl _ _).alloc (Nat.le_refl _) o)
theorem Cache.drew {G : Nat → Nat → Bool → Prop} {hb : Nat} {w : World} (h : Cache G hb w) : Cache G hb w.drew := ⟨h.at_⟩
/-- behind a list outside the cache that has grown -/
theorem Cache.app {G : Nat → Nat → Bool → Prop} {hb : Nat} {w w' : World} {row : Option Nat} (h : Cache G hb w) (hg : w.grownBy w' row) (hr : ∀ k, row = some k → hb < k ∧ ∃ c t, w.heap[k]? = some (.cells c t (0, 0))) : Cache G hb w' := by
  obtain ⟨es, clock, h1, h2, h3⟩ := h.at_
  have hm : ∀ (j : Nat) (es : Array MapEntry) (c : Nat), w.heap[j]? = some (.map es c) → w'.heap[j]? = some (.map es c) := fun j es c hj => (hg.block j (Array.getElem?_eq_some_iff.1 hj).1 (fun e => by
    obtain ⟨_, c', t', e2⟩ := hr j e.symm
    rw [hj] at e2; cases e2)).trans hj
  refine ⟨es, clock, hm _ _ _ h1, fun x hx => ?_, h3⟩
  obtain ⟨nb, ib, c, t, esi, ci, a1, a2, a3, a4, a5, a6⟩ := h2 x hx
  obtain ⟨nb', b1, b2⟩ := h3.2 x hx
  have hnb : nb' = nb := by
    rw [a1] at b1
    simp only [kidV, Value.pointer.injEq, Option.some.injEq, Addr.mk.injEq] at b1
    exact b1.1.symm
  subst hnb
  exact ⟨nb', ib, c, t, esi, ci, a1, (hg.block nb' (Array.getElem?_eq_some_iff.1 a2).1 (fun e => by
    have := (hr nb' e.symm).1; omega)).trans a2, a3, a4, hm _ _ _ a5, a6⟩
theorem Cache.lt {G : Nat → Nat → Bool → Prop} {hb : Nat} {w : World} (h : Cache G hb w) : hb < w.heap.size := by
  obtain ⟨es, clock, h1, _⟩ := h.at_
  exact (Array.getElem?_eq_some_iff.1 h1).1

section
variable {P : Program} {G : Nat → Nat → Bool → Prop} {hb nb : Nat} {w : World} {tm ko ti ki tb e : TypeId} {j : TypeInfo} {c : Array Value} {t : TypeId}

/-- looking up a formula's map -/
theorem Cache.look (h : Cache G hb w) (hto : P.underlying tm = some (.map ko ti)) (hko : P.underlying ko = some (.pointer e)) (he : P.info? e = some j) (hsz : j.size ≠ 0) (hz : (zeroValue ti).run P w = .ok (.map none) w) (hn : w.heap[nb]? = some (.cells c t (0, 0))) :
    (Instr.lookup tm (.map (some hb)) (kidV nb) false).run P w = .ok (.map none) w ∨
    ∃ (ib : Nat) (esi : Array MapEntry) (ci : Nat), (Instr.lookup tm (.map (some hb)) (kidV nb) false).run P w = .ok (.map (some ib)) w ∧ Kept G hb nb ib w ∧ hb < ib ∧ w.heap[ib]? = some (.map esi ci) ∧ InnerOK (G nb) esi := by
  obtain ⟨es, clock, h1, h2, h3⟩ := h.at_
  have hS : ∀ x ∈ es.toList, PKey w x.key := fun x hx => by
    obtain ⟨nb, ib, c, t, esi, ci, a1, a2, _⟩ := h2 x hx
    exact ⟨nb, c, t, a1, a2⟩
  rcases mlook false (pkey hko he hsz) hto hz h1 hS (key := kidV nb) ⟨nb, c, t, rfl, hn⟩ with ⟨hr, _⟩ | ⟨x, hx, hk, hr⟩
  · exact .inl (by simpa using hr)
  · obtain ⟨nb', ib, c', t', esi, ci, a1, a2, a3, a4, a5, a6⟩ := h2 x hx
    have hnb : nb' = nb := by
      rw [hk] at a1
      simp only [kidV, Value.pointer.injEq, Option.some.injEq, Addr.mk.injEq] at a1
      exact a1.1.symm
    subst hnb
    rw [a3] at hr
    exact .inr ⟨ib, esi, ci, by simpa using hr, ⟨es, clock, h1, x, hx, hk, a3⟩, a4, a5, a6⟩

/-- looking up a number -/
theorem inner_look {G : Nat → Bool → Prop} {ib : Nat} {esi : Array MapEntry} {ci k : Nat} (hi : w.heap[ib]? = some (.map esi ci)) (hok : InnerOK G esi) (hti : P.underlying ti = some (.map ki tb)) (hki : P.underlying ki = some (.int .i64)) (hz : (zeroValue tb).run P w = .ok (.bool false) w) (hk : k < 4096) :
    (Instr.lookup ti (.map (some ib)) (.int .i64 (k : Nat)) true).run P w = .ok (.tuple #[.bool false, .bool false]) w ∨
    ∃ v, (Instr.lookup ti (.map (some ib)) (.int .i64 (k : Nat)) true).run P w = .ok (.tuple #[.bool v, .bool true]) w ∧ G k v := by
  have hS : ∀ x ∈ esi.toList, IKey x.key := fun x hx => by
    obtain ⟨k, v, a1, a2, _⟩ := hok x hx
    exact ⟨k, a2, a1⟩
  rcases mlook true (ikey hki) hti hz hi hS (key := .int .i64 (k : Nat)) ⟨k, rfl, hk⟩ with ⟨hr, _⟩ | ⟨x, hx, hkx, hr⟩
  · exact .inl (by simpa using hr)
  · obtain ⟨k', v, a1, a2, a3, a4⟩ := hok x hx
    have : k' = k := by
      rw [hkx] at a2
      simp only [Value.int.injEq, true_and] at a2
      omega
    subst this
    rw [a3] at hr
    exact .inr ⟨v, by simpa using hr, a4⟩
theorem inner_look_nil {k : Nat} (hti : P.underlying ti = some (.map ki tb)) (hki : P.underlying ki = some (.int .i64)) (hz : (zeroValue tb).run P w = .ok (.bool false) w) (hk : k < 4096) :
    (Instr.lookup ti (.map none) (.int .i64 (k : Nat)) true).run P w = .ok (.tuple #[.bool false, .bool false]) w := by
  have := mlook_nil true (ikey (w := w) hki) hti hz (key := .int .i64 (k : Nat)) ⟨k, rfl, hk⟩
  simpa using this

theorem fz_set {B b : Nat} {es es' : Array MapEntry} {ci ci' : Nat} (hb : w.heap[b]? = some (.map es ci)) (hB : B ≤ b) : Fz B w (setBlock w b (.map es' ci')) := by
  refine ⟨⟨rfl, rfl, rfl, by simp [setBlock], fun i hi => heap_setBlock_other hb _ (by omega)⟩, fun j c t k hj => ?_⟩
  by_cases hjb : j = b
  · subst hjb; rw [hb] at hj; cases hj
  · rw [heap_setBlock_other hb _ hjb]; exact hj

/-- keeping a formula's truth at a number -/
theorem Cache.put {ib k : Nat} {esi : Array MapEntry} {ci : Nat} (h : Cache G hb w) (hkept : Kept G hb nb ib w) (hlt : hb < ib) (hi : w.heap[ib]? = some (.map esi ci)) (hok : InnerOK (G nb) esi) (hti : P.underlying ti = some (.map ki tb)) (hki : P.underlying ki = some (.int .i64)) (hk : k < 4096) {v : Bool} (hv : G nb k v) :
    ∃ W, (Instr.mapUpdate ti (.map (some ib)) (.int .i64 (k : Nat)) (.bool v)).run P w = .ok () W ∧ Cache G hb W ∧ Fz hb w W := by
  have hS : ∀ x ∈ esi.toList, IKey x.key := fun x hx => by
    obtain ⟨k, v, a1, a2, _⟩ := hok x hx
    exact ⟨k, a2, a1⟩
  obtain ⟨es', clock', hr, hes, _⟩ := mput (ikey hki) hti hi hS (key := .int .i64 (k : Nat)) ⟨k, rfl, hk⟩ (.bool v)
  have hok' : InnerOK (G nb) es' := fun x hx => by
    rcases hes x hx with ⟨hx, _⟩ | ⟨h1, h2⟩
    · exact hok x hx
    · exact ⟨k, v, hk, h1, h2, hv⟩
  refine ⟨_, hr, ?_, fz_set hi (Nat.le_of_lt hlt)⟩
  obtain ⟨es, clock, h1, h2, h3⟩ := h.at_
  obtain ⟨es0, clock0, h1', x0, hx0, hk0, hv0⟩ := hkept
  rw [h1] at h1'
  simp only [Option.some.injEq, Obj.map.injEq] at h1'
  obtain ⟨rfl, rfl⟩ := h1'
  refine ⟨es, clock, by rw [heap_setBlock_other hi _ (by omega)]; exact h1, fun x hx => ?_, h3⟩
  obtain ⟨nb', ib', c', t', esi', ci', a1, a2, a3, a4, a5, a6⟩ := h2 x hx
  have hc : (setBlock w ib (.map es' clock')).heap[nb']? = some (.cells c' t' (0, 0)) := (fz_set (B := hb) hi (Nat.le_of_lt hlt)).cells _ _ _ _ a2
  by_cases hib : ib' = ib
  · subst hib
    have hkk := h3.1 x hx x0 hx0 (by rw [a3, hv0])
    rw [a1, hk0] at hkk
    simp only [kidV, Value.pointer.injEq, Option.some.injEq, Addr.mk.injEq] at hkk
    obtain ⟨rfl, _⟩ := hkk
    exact ⟨nb', ib', c', t', es', clock', a1, hc, a3, a4, heap_setBlock_same hi _, hok'⟩
  · exact ⟨nb', ib', c', t', esi', ci', a1, hc, a3, a4, by rw [heap_setBlock_other hi _ hib]; exact a5, a6⟩

/-- a new map for a formula -/
theorem Cache.grow (h : Cache G hb w) (hto : P.underlying tm = some (.map ko ti)) (hko : P.underlying ko = some (.pointer e)) (he : P.info? e = some j) (hsz : j.size ≠ 0) (hn : w.heap[nb]? = some (.cells c t (0, 0))) (hnb : nb < hb) :
    ∃ W, (Instr.mapUpdate tm (.map (some hb)) (kidV nb) (.map (some w.heap.size))).run P (w.alloc (.map #[] 0)) = .ok () W ∧ Cache G hb W ∧ Fz hb w W ∧ ∃ (es : Array MapEntry) (clock : Nat), W.heap[hb]? = some (.map es clock) ∧ ∃ x ∈ es.toList, x.key = kidV nb := by
  have hA := h.alloc (.map #[] 0)
  have hlt := h.lt
  obtain ⟨es, clock, h1, h2, h3⟩ := h.at_
  have hkeep : ∀ (i : Nat) (o : Obj), w.heap[i]? = some o → (w.alloc (.map #[] 0)).heap[i]? = some o := fun i o hi => (((Below.refl w.heap.size w).alloc (Nat.le_refl _) (.map #[] 0)).block i (Array.getElem?_eq_some_iff.1 hi).1).trans hi
  have h1' := hkeep _ _ h1
  have hS : ∀ x ∈ es.toList, PKey (w.alloc (.map #[] 0)) x.key := fun x hx => by
    obtain ⟨nb, ib, c, t, esi, ci, a1, a2, _⟩ := h2 x hx
    exact ⟨nb, c, t, a1, hkeep _ _ a2⟩
  obtain ⟨es', clock', hr, hes, x0, hx0, hk0, hv0⟩ := mput (pkey hko he hsz) hto h1' hS (key := kidV nb) ⟨nb, c, t, rfl, hkeep _ _ hn⟩ (.map (some w.heap.size))
  have hnew : (w.alloc (.map #[] 0)).heap[w.heap.size]? = some (.map #[] 0) := heap_alloc_new w _
  have hfz : Fz hb (w.alloc (.map #[] 0)) (setBlock (w.alloc (.map #[] 0)) hb (.map es' clock')) := fz_set h1' (Nat.le_refl _)
  have hset : ∀ i, i ≠ hb → (setBlock (w.alloc (.map #[] 0)) hb (.map es' clock')).heap[i]? = (w.alloc (.map #[] 0)).heap[i]? := fun i hi => heap_setBlock_other h1' _ hi
  refine ⟨_, hr, ⟨es', clock', heap_setBlock_same h1' _, fun x hx => ?_, fun x hx y hy hxy => ?_, fun x hx => ?_⟩, (Fz.alloc (Nat.le_of_lt hlt) _).trans hfz, es', clock', heap_setBlock_same h1' _, x0, hx0, hk0⟩
  · rcases hes x hx with ⟨hx, _⟩ | ⟨e1, e2⟩
    · obtain ⟨nb', ib', c', t', esi', ci', a1, a2, a3, a4, a5, a6⟩ := h2 x hx
      exact ⟨nb', ib', c', t', esi', ci', a1, hfz.cells _ _ _ _ (hkeep _ _ a2), a3, a4, by rw [hset _ (by omega)]; exact hkeep _ _ a5, a6⟩
    · exact ⟨nb, w.heap.size, c, t, #[], 0, e1, hfz.cells _ _ _ _ (hkeep _ _ hn), e2, hlt, by rw [hset _ (by omega)]; exact hnew, fun x hx => by simp at hx⟩
  · have old : ∀ z, z ∈ es.toList → z.val ≠ .map (some w.heap.size) := fun z hz e => by
      obtain ⟨nb', ib', c', t', esi', ci', a1, a2, a3, a4, a5, a6⟩ := h2 z hz
      rw [a3] at e
      have := (Array.getElem?_eq_some_iff.1 a5).1
      simp only [Value.map.injEq, Option.some.injEq] at e
      omega
    rcases hes x hx with ⟨hx', _⟩ | ⟨e1, e2⟩ <;> rcases hes y hy with ⟨hy', _⟩ | ⟨f1, f2⟩
    · exact h3.1 x hx' y hy' hxy
    · exact absurd (hxy.trans f2) (old x hx')
    · exact absurd (hxy.symm.trans e2) (old y hy')
    · rw [e1, f1]
  · rcases hes x hx with ⟨hx', _⟩ | ⟨e1, _⟩
    · exact h3.2 x hx'
    · exact ⟨nb, e1, hnb⟩

/-- behind that the formula's map is found -/
theorem Cache.found (h : Cache G hb w) (hto : P.underlying tm = some (.map ko ti)) (hko : P.underlying ko = some (.pointer e)) (he : P.info? e = some j) (hsz : j.size ≠ 0) (hz : (zeroValue ti).run P w = .ok (.map none) w) (hn : w.heap[nb]? = some (.cells c t (0, 0)))
    (hx : ∃ (es : Array MapEntry) (clock : Nat), w.heap[hb]? = some (.map es clock) ∧ ∃ x ∈ es.toList, x.key = kidV nb) :
    ∃ (ib : Nat) (esi : Array MapEntry) (ci : Nat), (Instr.lookup tm (.map (some hb)) (kidV nb) false).run P w = .ok (.map (some ib)) w ∧ Kept G hb nb ib w ∧ hb < ib ∧ w.heap[ib]? = some (.map esi ci) ∧ InnerOK (G nb) esi := by
  obtain ⟨es, clock, h1, h2, h3⟩ := h.at_
  obtain ⟨es0, clock0, h1', x0, hx0, hk0⟩ := hx
  rw [h1] at h1'
  simp only [Option.some.injEq, Obj.map.injEq] at h1'
  obtain ⟨rfl, rfl⟩ := h1'
  have hS : ∀ x ∈ es.toList, PKey w x.key := fun x hx => by
    obtain ⟨nb, ib, c, t, esi, ci, a1, a2, _⟩ := h2 x hx
    exact ⟨nb, c, t, a1, a2⟩
  rcases mlook false (pkey hko he hsz) hto hz h1 hS (key := kidV nb) ⟨nb, c, t, rfl, hn⟩ with ⟨_, hno⟩ | ⟨x, hx, hk, hr⟩
  · exact absurd hk0 (hno x0 hx0)
  · obtain ⟨nb', ib, c', t', esi, ci, a1, a2, a3, a4, a5, a6⟩ := h2 x hx
    have hnb : nb' = nb := by
      rw [hk] at a1
      simp only [kidV, Value.pointer.injEq, Option.some.injEq, Addr.mk.injEq] at a1
      exact a1.1.symm
    subst hnb
    rw [a3] at hr
    exact ⟨ib, esi, ci, by simpa using hr, ⟨es, clock, h1, x, hx, hk, a3⟩, a4, a5, a6⟩

/-- a new holder's map -/
theorem cache_new (G : Nat → Nat → Bool → Prop) (w : World) : Cache G w.heap.size (w.alloc (.map #[] 0)) :=
  ⟨#[], 0, heap_alloc_new w _, fun x hx => by simp at hx, fun x hx => by simp at hx, fun x hx => by simp at hx⟩

end

end Go.Proofs.YtebjanjobfiloaaDoor
