/-
  Laws of the functions that the claim reaches, one after the other (packed by a program of the prover's: StPlain, Shapes, Bs, Bits, Struct, Elems, In, Mk, List, Reg, Draw, Draw2, Turn, Other). Conditions: texts below the reach.
-/
import Derived.KernelRfl
import Derived.Lib.Strings
import Derived.Lib.Hide
import Derived.WalkKit
import Derived.Test.YtpaleogkgfclnaaDoorTrimLay
import Derived.Test.YtpaleogkgfclnaaDoorRows
import Derived.Below
import Derived.WalkSpells
import Derived.WalkLawsBesides
import Derived.Deep.RegionHeld3
import Derived.Deep.RegionWith
import Derived.RegionTactic
import Derived.Deep.DrawnRows
import Derived.Deep.LoopGhost
import Derived.Deep.DeepCutAuto
import Derived.Laws.MakeOwn
import Derived.Laws.OwnMore
import Derived.OwnWalk
import Derived.Deep.QuietTactic
import Derived.BigQuiet
import Derived.OrdersHeld
import Derived.Laws.IdiomStrings
import Derived.Laws.BytesString
set_option linter.unusedSimpArgs false
set_option linter.unusedVariables false

namespace Go.Proofs.YtpaleogkgfclnaaDoor
namespace Pl

/-- a structure -/
structure St where
  n : Nat
  set : List UInt8
  rel : List UInt8

def IsBit (b : UInt8) : Prop := b = 48 ∨ b = 49

structure St.ok (a : St) : Prop where
  lo : 1 ≤ a.n
  hi : a.n ≤ 8
  sl : a.set.length = a.n
  rl : a.rel.length = a.n * a.n
  sb : ∀ b ∈ a.set, IsBit b
  rb : ∀ b ∈ a.rel, IsBit b

/-- an element is in the set; two are related -/
def St.inS (a : St) (x : Nat) : Bool := a.set.getD x 0 == 49
def St.inR (a : St) (x y : Nat) : Bool := a.rel.getD (x * a.n + y) 0 == 49

def bitB (b : Bool) : UInt8 := if b then 49 else 48

theorem bitB_isBit (b : Bool) : IsBit (bitB b) := by cases b <;> simp [bitB, IsBit]
theorem bitB_49 (b : Bool) : (bitB b == 49) = b := by cases b <;> rfl
theorem bitB_of {b : UInt8} (h : IsBit b) : bitB (b == 49) = b := by rcases h with rfl | rfl <;> rfl
theorem bitB_inj {a b : Bool} (h : bitB a = bitB b) : a = b := by cases a <;> cases b <;> first | rfl | exact absurd h (by decide)

theorem sq_le {n : Nat} (h : n ≤ 8) : n * n ≤ 64 := Nat.mul_le_mul h h

theorem cell_lt {n x y : Nat} (hx : x < n) (hy : y < n) : x * n + y < n * n := by
  have h1 : (x + 1) * n ≤ n * n := Nat.mul_le_mul_right n hx
  rw [Nat.succ_mul] at h1
  omega

/-- the structure with some elements in the set, and some related -/
def mkSt (n : Nat) (f : Nat → Bool) (g : Nat → Nat → Bool) : St :=
  ⟨n, (List.range n).map fun x => bitB (f x), (List.range n).flatMap fun x => (List.range n).map fun y => bitB (g x y)⟩

theorem flat_get {m : Nat} (g : Nat → Nat → UInt8) : ∀ (k : Nat), ((List.range k).flatMap fun x => (List.range m).map fun y => g x y).length = k * m ∧
    ∀ x y, x < k → y < m → ((List.range k).flatMap fun x => (List.range m).map fun y => g x y)[x * m + y]? = some (g x y) := by
  intro k
  induction k with
  | zero => exact ⟨by simp, fun x y h => absurd h (Nat.not_lt_zero _)⟩
  | succ k ih =>
    obtain ⟨h1, h2⟩ := ih
    rw [List.range_succ, List.flatMap_append]
    refine ⟨by simp only [List.length_append, h1, List.flatMap_cons, List.flatMap_nil, List.append_nil, List.length_map, List.length_range, Nat.succ_mul], fun x y hx hy => ?_⟩
    by_cases hxk : x < k
    · have hlt : x * m + y < k * m := by
        have h3 : (x + 1) * m ≤ k * m := Nat.mul_le_mul_right m hxk
        rw [Nat.succ_mul] at h3
        omega
      rw [List.getElem?_append_left (by rw [h1]; exact hlt)]
      exact h2 x y hxk hy
    · obtain rfl : x = k := by omega
      rw [List.getElem?_append_right (by rw [h1]; omega), h1]
      have e : x * m + y - x * m = y := by omega
      rw [e]
      simp [hy]

theorem mkSt_n (n : Nat) (f : Nat → Bool) (g : Nat → Nat → Bool) : (mkSt n f g).n = n := rfl

theorem mkSt_inS {n : Nat} {f : Nat → Bool} {g : Nat → Nat → Bool} {x : Nat} (h : x < n) : (mkSt n f g).inS x = f x := by
  unfold St.inS mkSt
  simp only [List.getD_eq_getElem?_getD, List.getElem?_map, List.getElem?_range h, Option.map_some, Option.getD_some, bitB_49]

theorem mkSt_inR {n : Nat} {f : Nat → Bool} {g : Nat → Nat → Bool} {x y : Nat} (hx : x < n) (hy : y < n) : (mkSt n f g).inR x y = g x y := by
  have h := (flat_get (m := n) (fun x y => bitB (g x y)) n).2 x y hx hy
  unfold St.inR mkSt
  simp only [List.getD_eq_getElem?_getD, h, Option.getD_some, bitB_49]

theorem mkSt_ok {n : Nat} {f : Nat → Bool} {g : Nat → Nat → Bool} (h1 : 1 ≤ n) (h8 : n ≤ 8) : (mkSt n f g).ok where
  lo := h1
  hi := h8
  sl := by simp [mkSt]
  rl := (flat_get (m := n) (fun x y => bitB (g x y)) n).1
  sb := by
    intro b hb
    simp only [mkSt, List.mem_map] at hb
    obtain ⟨x, _, rfl⟩ := hb
    exact bitB_isBit _
  rb := by
    intro b hb
    simp only [mkSt, List.mem_flatMap, List.mem_map] at hb
    obtain ⟨x, _, y, _, rfl⟩ := hb
    exact bitB_isBit _

theorem St.ext' {a b : St} (ha : a.ok) (hb : b.ok) (hn : a.n = b.n) (hs : ∀ x, x < a.n → a.inS x = b.inS x) (hr : ∀ x y, x < a.n → y < a.n → a.inR x y = b.inR x y) : a = b := by
  have key : ∀ (l m : List UInt8), l.length = m.length → (∀ c ∈ l, IsBit c) → (∀ c ∈ m, IsBit c) → (∀ i, i < l.length → (l.getD i 0 == 49) = (m.getD i 0 == 49)) → l = m := by
    intro l m hl h1 h2 h
    apply List.ext_getElem hl
    intro i hi hi2
    have h3 := h i hi
    have e1 : l.getD i 0 = l[i] := by simp [List.getD, hi]
    have e2 : m.getD i 0 = m[i] := by simp [List.getD, hi2]
    rw [e1, e2] at h3
    rw [← bitB_of (h1 _ (List.getElem_mem hi)), ← bitB_of (h2 _ (List.getElem_mem hi2)), h3]
  obtain ⟨n, s, r⟩ := a
  obtain ⟨n', s', r'⟩ := b
  have hn' : n = n' := hn
  subst hn'
  have hsl : s.length = n := ha.sl
  have hrl : r.length = n * n := ha.rl
  have hlo : 1 ≤ n := ha.lo
  have e1 : s = s' := key s s' (ha.sl.trans hb.sl.symm) ha.sb hb.sb (fun i hi => hs i (show i < n by omega))
  have e2 : r = r' := key r r' (ha.rl.trans hb.rl.symm) ha.rb hb.rb (fun i hi => by
    have h4 : ((r.getD (i / n * n + i % n) 0) == 49) = ((r'.getD (i / n * n + i % n) 0) == 49) := hr (i / n) (i % n) (show i / n < n from Nat.div_lt_of_lt_mul (by omega)) (show i % n < n from Nat.mod_lt _ (by omega))
    have e : i / n * n + i % n = i := by rw [Nat.mul_comm]; exact Nat.div_add_mod i n
    rw [e] at h4
    exact h4)
  subst e1 e2
  rfl

theorem mkSt_self {a : St} (ha : a.ok) : mkSt a.n a.inS a.inR = a :=
  St.ext' (mkSt_ok ha.lo ha.hi) ha rfl (fun _ h => mkSt_inS h) (fun _ _ hx hy => mkSt_inR hx hy)

theorem inS_get {a : St} (ha : a.ok) {x : Nat} (hx : x < a.n) : ∃ h : x < a.set.length, a.set[x] = bitB (a.inS x) := by
  have hl : x < a.set.length := by rw [ha.sl]; exact hx
  refine ⟨hl, ?_⟩
  unfold St.inS
  have e1 : a.set.getD x 0 = a.set[x] := by simp [List.getD, hl]
  rw [e1, bitB_of (ha.sb _ (List.getElem_mem hl))]

theorem inR_get {a : St} (ha : a.ok) {x y : Nat} (hx : x < a.n) (hy : y < a.n) : ∃ h : x * a.n + y < a.rel.length, a.rel[x * a.n + y] = bitB (a.inR x y) := by
  have hl : x * a.n + y < a.rel.length := by rw [ha.rl]; exact cell_lt hx hy
  refine ⟨hl, ?_⟩
  unfold St.inR
  have e1 : a.rel.getD (x * a.n + y) 0 = a.rel[x * a.n + y] := by simp [List.getD, hl]
  rw [e1, bitB_of (ha.rb _ (List.getElem_mem hl))]

/-! ### the operations -/

def St.part (a : St) (l : List Nat) : St := mkSt l.length (fun x => a.inS (l.getD x 0)) (fun x y => a.inR (l.getD x 0) (l.getD y 0))
def St.other (a : St) : St := mkSt a.n (fun x => !a.inS x) (fun x y => !a.inR x y)
def St.turn (a : St) : St := mkSt a.n a.inS (fun x y => a.inR y x)

/-- the reference's l1Flip -/
def flipL (l : List UInt8) : List UInt8 := l.map fun b => bitB (b == 48)

theorem flip_bit {b : UInt8} (h : IsBit b) : bitB (b == 48) = bitB (!(b == 49)) := by rcases h with rfl | rfl <;> rfl

theorem other_set {a : St} (ha : a.ok) : a.other.set = flipL a.set := by
  unfold St.other mkSt flipL
  simp only
  apply List.ext_getElem (by simp [ha.sl])
  intro i h1 h2
  simp only [List.length_map, List.length_range] at h1
  obtain ⟨hl, e⟩ := inS_get ha h1
  simp only [List.getElem_map, List.getElem_range]
  rw [flip_bit (ha.sb _ (List.getElem_mem hl)), e, bitB_49]

theorem other_rel {a : St} (ha : a.ok) : a.other.rel = flipL a.rel := by
  have hok := mkSt_ok (f := fun x => !a.inS x) (g := fun x y => !a.inR x y) ha.lo ha.hi
  have hfl : (St.mk a.n (flipL a.set) (flipL a.rel)).ok := {
    lo := ha.lo, hi := ha.hi, sl := by simp [flipL, ha.sl], rl := by simp [flipL, ha.rl]
    sb := by intro b hb; simp only [flipL, List.mem_map] at hb; obtain ⟨x, _, rfl⟩ := hb; exact bitB_isBit _
    rb := by intro b hb; simp only [flipL, List.mem_map] at hb; obtain ⟨x, _, rfl⟩ := hb; exact bitB_isBit _ }
  have : mkSt a.n (fun x => !a.inS x) (fun x y => !a.inR x y) = St.mk a.n (flipL a.set) (flipL a.rel) := by
    refine St.ext' hok hfl rfl (fun x hx0 => ?_) (fun x y hx hy => ?_)
    · have hx : x < a.n := hx0
      rw [mkSt_inS hx]
      obtain ⟨hl, e⟩ := inS_get ha hx
      have e1 : (flipL a.set).getD x 0 = bitB (a.set[x] == 48) := by simp [flipL, List.getD, hl]
      show (!a.inS x) = ((flipL a.set).getD x 0 == 49)
      rw [e1, bitB_49, e]
      cases a.inS x <;> rfl
    · have hx' : x < a.n := hx
      have hy' : y < a.n := hy
      rw [mkSt_inR hx' hy']
      obtain ⟨hl, e⟩ := inR_get ha hx' hy'
      have e1 : (flipL a.rel).getD (x * a.n + y) 0 = bitB (a.rel[x * a.n + y] == 48) := by simp [flipL, List.getD, hl]
      show (!a.inR x y) = ((flipL a.rel).getD (x * a.n + y) 0 == 49)
      rw [e1, bitB_49, e]
      cases a.inR x y <;> rfl
  unfold St.other
  rw [this]

end Pl
end Go.Proofs.YtpaleogkgfclnaaDoor

namespace Go.Proofs.YtpaleogkgfclnaaDoor
namespace Pl

/-- an element behind an order is to the elements as the next element of the other structure -/
def fitsB (a b : St) (o : List Nat) (x : Nat) : Bool :=
  a.inS x == b.inS o.length && a.inR x x == b.inR o.length o.length && (List.range o.length).all fun k => a.inR x (o.getD k 0) == b.inR o.length k && a.inR (o.getD k 0) x == b.inR k o.length

/-- the element can be placed next -/
def nextB (a b : St) (o : List Nat) (x : Nat) : Bool := !o.contains x && fitsB a b o x

/-- all orders that begin with one, m elements more -/
def shapes (a b : St) : Nat → List Nat → List (List Nat)
  | 0, o => [o]
  | m + 1, o => (List.range a.n).flatMap fun x => if nextB a b o x then shapes a b m (o ++ [x]) else []

/-- some elements of a are to each other as the first ones of b -/
structure Fits (a b : St) (o : List Nat) : Prop where
  nodup : o.Nodup
  lt : ∀ x ∈ o, x < a.n
  set : ∀ i, i < o.length → a.inS (o.getD i 0) = b.inS i
  rel : ∀ i j, i < o.length → j < o.length → a.inR (o.getD i 0) (o.getD j 0) = b.inR i j

theorem Fits.nil (a b : St) : Fits a b [] := ⟨by simp, by simp, fun i h => absurd h (Nat.not_lt_zero _), fun i j h => absurd h (Nat.not_lt_zero _)⟩

theorem getD_snoc_lt {o : List Nat} {x i : Nat} (h : i < o.length) : (o ++ [x]).getD i 0 = o.getD i 0 := by
  simp [List.getD, List.getElem?_append_left h]
theorem getD_snoc_eq {o : List Nat} {x : Nat} : (o ++ [x]).getD o.length 0 = x := by
  simp [List.getD]

theorem fits_snoc {a b : St} {o : List Nat} {x : Nat} : Fits a b (o ++ [x]) ↔ Fits a b o ∧ x < a.n ∧ nextB a b o x = true := by
  unfold nextB fitsB
  simp only [Bool.and_eq_true, Bool.not_eq_true', List.contains_eq_mem, decide_eq_false_iff_not, beq_iff_eq, List.all_eq_true, List.mem_range]
  constructor
  · intro h
    have hnd := h.nodup
    rw [List.nodup_append] at hnd
    obtain ⟨h1, _, h3⟩ := hnd
    refine ⟨⟨h1, fun y hy => h.lt y (by simp [hy]), fun i hi => ?_, fun i j hi hj => ?_⟩, h.lt x (by simp), fun hx => h3 x hx x (by simp) rfl, ⟨?_, ?_⟩, fun k hk => ⟨?_, ?_⟩⟩
    · have := h.set i (by simp; omega)
      rwa [getD_snoc_lt hi] at this
    · have := h.rel i j (by simp; omega) (by simp; omega)
      rwa [getD_snoc_lt hi, getD_snoc_lt hj] at this
    · have := h.set o.length (by simp)
      rwa [getD_snoc_eq] at this
    · have := h.rel o.length o.length (by simp) (by simp)
      rwa [getD_snoc_eq] at this
    · have := h.rel o.length k (by simp) (by simp; omega)
      rwa [getD_snoc_eq, getD_snoc_lt hk] at this
    · have := h.rel k o.length (by simp; omega) (by simp)
      rwa [getD_snoc_eq, getD_snoc_lt hk] at this
  · rintro ⟨h, hx, hn, ⟨hs, hr⟩, hk⟩
    refine ⟨?_, ?_, fun i hi => ?_, fun i j hi hj => ?_⟩
    · rw [List.nodup_append]
      exact ⟨h.nodup, by simp, fun y hy z hz => by simp only [List.mem_singleton] at hz; subst hz; rintro rfl; exact hn hy⟩
    · intro y hy
      rcases List.mem_append.1 hy with hy | hy
      · exact h.lt y hy
      · simp only [List.mem_singleton] at hy; subst hy; exact hx
    · simp only [List.length_append, List.length_singleton] at hi
      by_cases e : i = o.length
      · subst e; rw [getD_snoc_eq]; exact hs
      · rw [getD_snoc_lt (by omega)]; exact h.set i (by omega)
    · simp only [List.length_append, List.length_singleton] at hi hj
      by_cases e : i = o.length
      · subst e
        by_cases e2 : j = o.length
        · subst e2; rw [getD_snoc_eq]; exact hr
        · rw [getD_snoc_eq, getD_snoc_lt (by omega)]; exact (hk j (by omega)).1
      · by_cases e2 : j = o.length
        · subst e2; rw [getD_snoc_eq, getD_snoc_lt (by omega)]; exact (hk i (by omega)).2
        · rw [getD_snoc_lt (by omega), getD_snoc_lt (by omega)]; exact h.rel i j (by omega) (by omega)

theorem Fits.prefix {a b : St} {o : List Nat} : ∀ (t : List Nat), Fits a b (o ++ t) → Fits a b o := by
  intro t
  induction t generalizing o with
  | nil => intro h; simpa using h
  | cons x t ih =>
    intro h
    have h2 : Fits a b ((o ++ [x]) ++ t) := by simpa using h
    exact (fits_snoc.1 (ih h2)).1

theorem mem_shapes {a b : St} : ∀ (m : Nat) (o l : List Nat), Fits a b o → (l ∈ shapes a b m o ↔ ∃ t, l = o ++ t ∧ t.length = m ∧ Fits a b l) := by
  intro m
  induction m with
  | zero =>
    intro o l h
    simp only [shapes, List.mem_singleton]
    constructor
    · rintro rfl; exact ⟨[], by simp, rfl, h⟩
    · rintro ⟨t, rfl, ht, _⟩; rw [List.eq_nil_of_length_eq_zero ht]; simp
  | succ m ih =>
    intro o l h
    simp only [shapes, List.mem_flatMap, List.mem_range]
    constructor
    · rintro ⟨x, hx, hl⟩
      by_cases hn : nextB a b o x = true
      · rw [if_pos hn] at hl
        obtain ⟨t, rfl, ht, hf⟩ := (ih _ _ (fits_snoc.2 ⟨h, hx, hn⟩)).1 hl
        exact ⟨x :: t, by simp, by simp [ht], hf⟩
      · rw [if_neg hn] at hl; cases hl
    · rintro ⟨t, rfl, ht, hf⟩
      match t, ht with
      | x :: t, ht =>
        have h2 : Fits a b ((o ++ [x]) ++ t) := by simpa using hf
        have h3 := fits_snoc.1 (Fits.prefix t h2)
        refine ⟨x, h3.2.1, ?_⟩
        rw [if_pos h3.2.2]
        exact (ih _ _ (Fits.prefix t h2)).2 ⟨t, by simp, by simpa using ht, hf⟩

theorem shapes_nodup {a b : St} : ∀ (m : Nat) (o : List Nat), Fits a b o → (shapes a b m o).Nodup := by
  intro m
  induction m with
  | zero => intro o _; simp [shapes]
  | succ m ih =>
    intro o h
    simp only [shapes]
    have key : ∀ (xs : List Nat), xs.Nodup → (∀ x ∈ xs, x < a.n) → (xs.flatMap fun x => if nextB a b o x then shapes a b m (o ++ [x]) else []).Nodup := by
      intro xs
      induction xs with
      | nil => intro _ _; simp
      | cons x xs ihx =>
        intro hnd hlt
        rw [List.flatMap_cons, List.nodup_append]
        obtain ⟨h1, h2⟩ := List.nodup_cons.1 hnd
        refine ⟨?_, ihx h2 (fun y hy => hlt y (by simp [hy])), ?_⟩
        · by_cases hn : nextB a b o x = true
          · rw [if_pos hn]; exact ih _ (fits_snoc.2 ⟨h, hlt x (by simp), hn⟩)
          · rw [if_neg hn]; simp
        · rintro l hl m' hm rfl
          by_cases hn : nextB a b o x = true
          · rw [if_pos hn] at hl
            obtain ⟨t, rfl, _, _⟩ := (mem_shapes m _ _ (fits_snoc.2 ⟨h, hlt x (by simp), hn⟩)).1 hl
            rw [List.mem_flatMap] at hm
            obtain ⟨y, hy, hm⟩ := hm
            by_cases hn2 : nextB a b o y = true
            · rw [if_pos hn2] at hm
              obtain ⟨t2, e, _, _⟩ := (mem_shapes m _ _ (fits_snoc.2 ⟨h, hlt y (by simp [hy]), hn2⟩)).1 hm
              have e2 : x = y := by simpa using congrArg (fun l => l.getD o.length 0) e
              subst e2
              exact h1 hy
            · rw [if_neg hn2] at hm; cases hm
          · rw [if_neg hn] at hl; cases hl
    exact key _ List.nodup_range (fun x hx => List.mem_range.1 hx)

/-- all orders that turn a into b -/
def isos (a b : St) : List (List Nat) := shapes a b a.n []

theorem mem_isos {a b : St} {l : List Nat} : l ∈ isos a b ↔ l.length = a.n ∧ Fits a b l := by
  unfold isos
  rw [mem_shapes _ _ _ (Fits.nil a b)]
  constructor
  · rintro ⟨t, rfl, ht, hf⟩; exact ⟨by simpa using ht, hf⟩
  · rintro ⟨ht, hf⟩; exact ⟨l, by simp, ht, hf⟩

theorem isos_nodup (a b : St) : (isos a b).Nodup := shapes_nodup _ _ (Fits.nil a b)

end Pl
end Go.Proofs.YtpaleogkgfclnaaDoor

namespace Go.Proofs.YtpaleogkgfclnaaDoor
open Go.RowKit

def bs (l : List UInt8) : ByteArray := ⟨l.toArray⟩
theorem bs_data (l : List UInt8) : (bs l).data.toList = l := rfl
theorem bs_size (l : List UInt8) : (bs l).size = l.length := by rw [Lib.size_eq]; rfl
theorem bs_of (s : ByteArray) : bs s.data.toList = s := Lib.mk_data s
theorem bs_inj {a b : List UInt8} (h : bs a = bs b) : a = b := by rw [← bs_data a, ← bs_data b, h]
theorem eq_bs {s : ByteArray} {l : List UInt8} (h : s.data.toList = l) : s = bs l := by rw [← h, bs_of]

theorem append_bs (a b : ByteArray) : a ++ b = bs (a.data.toList ++ b.data.toList) := by
  apply eq_bs
  simp

theorem ret_pair {a b c d : Value} (h1 : a = c) (h2 : b = d) : Ending.returned (.tuple #[a, b]) = .returned (.tuple #[c, d]) := by rw [h1, h2]
theorem str_eq {a b : ByteArray} (h : a = b) : Value.string a = .string b := by rw [h]

theorem size_le_of {s : ByteArray} {l : List UInt8} (h : s.data.toList = l) : s.size = l.length := by rw [Lib.size_eq, h]

end Go.Proofs.YtpaleogkgfclnaaDoor

namespace Go.Proofs.YtpaleogkgfclnaaDoor
open Go.RowKit
open Pl
set_option linter.unusedSimpArgs false

theorem bcell {W w1 : World} (hb : Below W.heap.size W w1) : (∀ b o, b < W.heap.size → w1.cell? ⟨b, o, none⟩ = W.cell? ⟨b, o, none⟩) ∧ (∀ b o, b < W.heap.size → w1.frozen? ⟨b, o, none⟩ = W.frozen? ⟨b, o, none⟩) :=
  ⟨fun b o h => hb.cell (p := ⟨b, o, none⟩) h, fun b o h => hb.frozen (p := ⟨b, o, none⟩) h⟩

/-- a box of three cells behind a call -/
theorem box3 {w wN : World} {a b c : Value} {t : TypeId} (h : Below (w.heap.size + 1) (w.alloc (.cells #[a, b, c] t)) wN) :
    wN.cell? ⟨w.heap.size, 0, none⟩ = some a ∧ wN.cell? ⟨w.heap.size, 1, none⟩ = some b ∧ wN.cell? ⟨w.heap.size, 2, none⟩ = some c := by
  have hk : ∀ o, wN.cell? ⟨w.heap.size, o, none⟩ = (w.alloc (.cells #[a, b, c] t)).cell? ⟨w.heap.size, o, none⟩ := fun o => h.cell (p := ⟨w.heap.size, o, none⟩) (Nat.lt_succ_self _)
  refine ⟨?_, ?_, ?_⟩ <;> rw [hk] <;> simp

theorem box_down {w wN : World} {o : Obj} (h : Below (w.heap.size + 1) (w.alloc o) wN) : Below w.heap.size w wN :=
  ((Below.refl w.heap.size w).alloc (Nat.le_refl _) o).trans (h.mono (Nat.le_succ _))

theorem box_refl (w : World) (o : Obj) : Below (w.heap.size + 1) (w.alloc o) (w.alloc o) := Below.refl _ _

theorem box_next {w w1 w2 : World} {o : Obj} (h : Below (w.heap.size + 1) (w.alloc o) w1) (h2 : Below w1.heap.size w1 w2) : Below (w.heap.size + 1) (w.alloc o) w2 :=
  h.trans (h2.mono (by have := h.size; simpa using this))

/-- all bytes are bits -/
def bitsL (l : List UInt8) : Bool := l.all fun b => b == 48 || b == 49

theorem dropWhile_nil {α : Type} (p : α → Bool) : ∀ l : List α, l.dropWhile p = [] ↔ l.all p = true := by
  intro l
  induction l with
  | nil => simp
  | cons x l ih =>
    by_cases h : p x = true
    · simp [List.dropWhile_cons, h, ih]
    · simp [List.dropWhile_cons, h]

theorem dropWhile_all {α : Type} (p : α → Bool) : ∀ l : List α, (l.dropWhile p).all p = l.all p := by
  intro l
  induction l with
  | nil => rfl
  | cons x l ih =>
    by_cases h : p x = true
    · simp [List.dropWhile_cons, h, ih]
    · simp [List.dropWhile_cons, h]

theorem trim_bits (l : List UInt8) : Lib.trimS l [48, 49] = [] ↔ bitsL l = true := by
  have hp : ∀ b : UInt8, ([48, 49] : List UInt8).contains b = (b == 48 || b == 49) := fun b => by
    simp only [List.contains_cons, List.contains_nil, Bool.or_false]
  have e : Lib.trimS l [48, 49] = ((l.reverse.dropWhile fun b => b == 48 || b == 49).reverse).dropWhile fun b => b == 48 || b == 49 := by
    unfold Lib.trimS Lib.trimLeftS Lib.trimRightS
    simp only [hp]
  rw [e, dropWhile_nil, List.all_reverse, dropWhile_all, List.all_reverse]
  rfl

/-- a text has n bytes that are bits -/
def bitsB (s : ByteArray) (n : Int) : Bool := decide ((s.size : Int) = n) && bitsL s.data.toList

set_option maxHeartbeats 400000 in
theorem areBits_calls (s : ByteArray) (n : Int) (w : World) (hs : s.size ≤ maxLen) :
    Calls Tryd.prog 56 #[.string s, .int .i64 n] w fun e w' => e = .returned (.bool (bitsB s n)) ∧ Below w.heap.size w w' := by
  unfold maxLen at hs
  by_cases hn : (s.size : Int) = n
  · have hc : ∀ W, Calls Tryd.prog 82 #[.string s, .string ⟨#[48, 49]⟩] W fun e w' => e = .returned (.string ⟨(Lib.trimS s.data.toList [48, 49]).toArray⟩) ∧ Below W.heap.size W w' := fun W =>
      Any.strings_Trim_laid Tryd.lays160 (by kernel_rfl) s ⟨#[48, 49]⟩ W hs (by decide) (ascii_of_all (by decide))
    obtain ⟨l, hl⟩ : ∃ l, l = Lib.trimS s.data.toList [48, 49] := ⟨_, rfl⟩
    rw [← hl] at hc
    have hb : bitsB s n = decide (l = []) := by
      unfold bitsB
      rw [decide_eq_true hn, Bool.true_and, Bool.eq_iff_iff, decide_eq_true_eq, hl, trim_bits]
    rw [hb]
    have Hc := Lib.hid hc
    clear hc hl hb
    cases l with
    | nil =>
      subst hn
      go_enter Tryd.func56, Tryd.ntmps56
      go_wp2_with (go_at_call 82; refine (Hc.out _).mono ?_; rintro e w' ⟨rfl, hb1⟩)
      go_ret
      exact ⟨rfl, hb1⟩
    | cons b l =>
      subst hn
      go_enter Tryd.func56, Tryd.ntmps56
      go_wp2_with (go_at_call 82; refine (Hc.out _).mono ?_; rintro e w' ⟨rfl, hb1⟩)
      go_ret
      exact ⟨rfl, hb1⟩
  · have hb : bitsB s n = false := by unfold bitsB; rw [decide_eq_false hn, Bool.false_and]
    rw [hb]
    have h1 : ((s.size : Int) == n) = false := beq_eq_false_iff_ne.2 hn
    clear hb
    go_enter Tryd.func56, Tryd.ntmps56
    go_wp2_with fail
    go_ret
    exact ⟨rfl, Below.refl _ _⟩

end Go.Proofs.YtpaleogkgfclnaaDoor

namespace Go.Proofs.YtpaleogkgfclnaaDoor
open Go.RowKit
open Pl
set_option linter.unusedSimpArgs false
set_option linter.unusedVariables false

/-- a structure in Go -/
abbrev stV (i : Int) (s r : ByteArray) : Value := .agg #[.int .i64 i, .string s, .string r]

/-- a structure is valid -/
def okB (i : Int) (s r : ByteArray) : Bool := decide (1 ≤ i) && (decide (i ≤ 8) && (bitsB s i && bitsB r (i * i)))

theorem sq_bd {i : Int} (h1 : 1 ≤ i) (h2 : i ≤ 8) : 1 ≤ i * i ∧ i * i ≤ 64 := by
  have : i = 1 ∨ i = 2 ∨ i = 3 ∨ i = 4 ∨ i = 5 ∨ i = 6 ∨ i = 7 ∨ i = 8 := by omega
  rcases this with rfl | rfl | rfl | rfl | rfl | rfl | rfl | rfl <;> decide

theorem bits_get (s : ByteArray) (k : Nat) (h : k < s.size) : bitsL (s.data.toList.take (k + 1)) = (bitsL (s.data.toList.take k) && (s[k] == 48 || s[k] == 49)) := by
  unfold bitsL
  rw [List.take_succ_eq_append_getElem (by simpa using h), List.all_append]
  simp [List.all_cons]
  rfl

theorem bits_no (s : ByteArray) (k : Nat) (h : k < s.size) (hb : (s[k] == 48 || s[k] == 49) = false) : bitsL s.data.toList = false := by
  rw [Bool.eq_false_iff]
  intro e
  unfold bitsL at e
  have := List.all_eq_true.1 e s[k] (by rw [show s[k] = s.data.toList[k]'(by simpa using h) from rfl]; exact List.getElem_mem _)
  rw [hb] at this
  cases this

theorem bit_ne {b : UInt8} {m : Int} {c : UInt8} (hm : m = c.toNat) : ((b.toNat : Int) == m) = (b == c) := by
  subst hm
  rw [Bool.eq_iff_iff, beq_iff_eq, beq_iff_eq]
  exact ⟨fun h => UInt8.toNat_inj.1 (by omega), fun h => by rw [h]⟩

set_option maxHeartbeats 1000000 in
theorem isStructure_calls (i : Int) (s r : ByteArray) (w : World) (hs : s.size ≤ maxLen) (hr : r.size ≤ maxLen) :
    Calls Tryd.prog 35 #[stV i s r] w fun e w' => e = .returned (.bool (okB i s r)) ∧ Below w.heap.size w w' := by
  have Hs := Lib.hid hs
  have Hr := Lib.hid hr
  clear hs hr
  by_cases h1 : 1 ≤ i
  · by_cases h2 : i ≤ 8
    · obtain ⟨g1, g2⟩ := sq_bd h1 h2
      have c1 := areBits_calls s i
      have c2 := areBits_calls r (i * i)
      obtain ⟨q, hq⟩ : ∃ q, q = i * i := ⟨_, rfl⟩
      have hv : okB i s r = (bitsB s i && bitsB r q) := by unfold okB; rw [decide_eq_true h1, decide_eq_true h2, hq]; rfl
      rw [hv]
      rw [← hq] at g1 g2 c2
      have hmul : IntKind.i64.wrap (i * i) = q := by rw [← hq]; exact IntWalk.i64_in _ (by omega)
      have C1 := Lib.hid c1
      have C2 := Lib.hid c2
      clear c1 c2 hv
      cases hb1 : bitsB s i with
      | false =>
        rw [hb1] at C1
        clear hq hmul hb1
        go_enter Tryd.func35, Tryd.ntmps35
        go_wp2_with (go_at_call 56; (with_reducible refine (C1.out _ Hs.out).mono ?_); rintro e w' ⟨rfl, hx1⟩)
        go_ret
        exact ⟨rfl, ((Below.refl _ _).alloc (Nat.le_refl _) _).trans (hx1.mono (by simp))⟩
      | true =>
        rw [hb1] at C1
        have Hq := Lib.hid hq
        clear hq hb1
        go_enter Tryd.func35, Tryd.ntmps35
        go_wp2_with fail
        refine (C1.out _ Hs.out).mono ?_
        rintro e w1 ⟨rfl, hx1⟩
        obtain ⟨hc, hf⟩ := bcell hx1
        have Hx1 := Lib.hid hx1
        clear hx1
        go_wp2_with fail
        refine (C2.out _ Hr.out).mono ?_
        rintro e w2 ⟨rfl, hx2⟩
        have Hx2 := Lib.hid hx2
        clear hx2 hc hf
        go_wp2_with fail
        go_ret
        exact ⟨rfl, (((Below.refl _ _).alloc (Nat.le_refl _) _).trans (Hx1.out.mono (by simp))).trans (Hx2.out.mono (by have := Hx1.out.size; simp at this; omega))⟩
    · have hv : okB i s r = false := by unfold okB; rw [decide_eq_false h2]; simp
      rw [hv]
      have hd : decide (i ≤ 8) = false := decide_eq_false h2
      clear hv
      go_enter Tryd.func35, Tryd.ntmps35
      go_wp2_with fail
      go_ret
      exact ⟨rfl, (Below.refl _ _).alloc (Nat.le_refl _) _⟩
  · have hv : okB i s r = false := by unfold okB; rw [decide_eq_false h1]; simp
    rw [hv]
    have hd : decide (1 ≤ i) = false := decide_eq_false h1
    clear hv
    go_enter Tryd.func35, Tryd.ntmps35
    go_wp2_with fail
    go_ret
    exact ⟨rfl, (Below.refl _ _).alloc (Nat.le_refl _) _⟩

theorem StructureValid_impl (i : Int) (s r : ByteArray) (w : World) (hs : s.size ≤ maxLen) (hr : r.size ≤ maxLen) :
    Calls Tryd.prog 10 #[stV i s r] w fun e w' => e = .returned (.bool (okB i s r)) ∧ Below w.heap.size w w' := by
  have hc : ∀ W, Calls Tryd.prog 35 #[stV i s r] W fun e w' => e = .returned (.bool (okB i s r)) ∧ Below W.heap.size W w' := fun W => isStructure_calls i s r W hs hr
  have Hc := Lib.hid hc
  clear hc hs hr
  go_enter Tryd.func10, Tryd.ntmps10
  go_wp2_with (go_at_call 35; (with_reducible refine (Hc.out _).mono ?_); rintro e w' ⟨rfl, hx1⟩)
  go_ret
  exact ⟨rfl, ((Below.refl _ _).alloc (Nat.le_refl _) _).trans (hx1.mono (by simp))⟩

theorem l1In_calls (n lo hi : Int) (w : World) :
    Calls Tryd.prog 45 #[.int .i64 n, .int .i64 lo, .int .i64 hi] w fun e w' => e = .returned (.bool (decide (lo ≤ n) && decide (n ≤ hi))) ∧ w = w' := by
  by_cases h1 : lo ≤ n
  · by_cases h2 : n ≤ hi
    · rw [decide_eq_true h1, decide_eq_true h2]
      go_enter Tryd.func45, Tryd.ntmps45
      go_wp2_with fail
      go_ret
      exact ⟨rfl, rfl⟩
    · rw [decide_eq_true h1, decide_eq_false h2]
      have hd : decide (n ≤ hi) = false := decide_eq_false h2
      go_enter Tryd.func45, Tryd.ntmps45
      go_wp2_with fail
      go_ret
      exact ⟨rfl, rfl⟩
  · rw [decide_eq_false h1]
    have hd : decide (lo ≤ n) = false := decide_eq_false h1
    go_enter Tryd.func45, Tryd.ntmps45
    go_wp2_with fail
    go_ret
    exact ⟨rfl, rfl⟩

set_option maxHeartbeats 400000 in
theorem l1Bits_calls (s : ByteArray) (n : Int) (w : World) (hs : s.size ≤ maxLen) :
    Calls Tryd.prog 63 #[.string s, .int .i64 n] w fun e w' => e = .returned (.bool (bitsB s n)) ∧ w = w' := by
  unfold maxLen at hs
  have hv1 : bitsL s.data.toList = false → bitsB s n = false := fun h => by unfold bitsB; rw [h, Bool.and_false]
  have hv2 : bitsL s.data.toList = true → bitsB s n = decide ((s.size : Int) = n) := fun h => by unfold bitsB; rw [h, Bool.and_true]
  obtain ⟨V, hV⟩ : ∃ V, V = bitsB s n := ⟨_, rfl⟩
  rw [← hV] at hv1 hv2 ⊢
  have Hv1 := Lib.hid hv1
  have Hv2 := Lib.hid hv2
  clear hv1 hv2 hV
  go_enter Tryd.func63, Tryd.ntmps63
  go_wp2
  go_loop [5] (fun i => ∃ k : Nat, k ≤ s.size ∧ i = .int .i64 k ∧ bitsL (s.data.toList.take k) = true) (fun i => s.size - (intOf i).toNat)
  case atStart => exact ⟨0, Nat.zero_le _, rfl, rfl⟩
  case round =>
    obtain ⟨k, hk, rfl, hb⟩ := hrel
    have Hb := Lib.hid hb
    clear hb
    by_cases hlt : k < s.size
    · have hg := bits_get s k hlt
      have hn := bits_no s k hlt
      rw [← bit_ne (m := 48) rfl, ← bit_ne (m := 49) rfl] at hg hn
      cases h48 : ((s[k].toNat : Int) == 48) with
      | true =>
        rw [h48] at hg
        have n48 : ((s[k].toNat : Int) != 48) = false := by simp only [bne, h48]; rfl
        have Hg := Lib.hid hg
        clear hg hn
        go_wp2
        go_round
        case rel => exact ⟨k + 1, by omega, by go_num, by rw [Hg.out, Hb.out]; rfl⟩
        case measure => simp [intOf]; omega
      | false =>
        cases h49 : ((s[k].toNat : Int) == 49) with
        | true =>
          rw [h48, h49] at hg
          have n48 : ((s[k].toNat : Int) != 48) = true := by simp only [bne, h48]; rfl
          have n49 : ((s[k].toNat : Int) != 49) = false := by simp only [bne, h49]; rfl
          have Hg := Lib.hid hg
          clear hg hn
          go_wp2
          go_round
          case rel => exact ⟨k + 1, by omega, by go_num, by rw [Hg.out, Hb.out]; rfl⟩
          case measure => simp [intOf]; omega
        | false =>
          rw [h48, h49] at hn
          have n48 : ((s[k].toNat : Int) != 48) = true := by simp only [bne, h48]; rfl
          have n49 : ((s[k].toNat : Int) != 49) = true := by simp only [bne, h49]; rfl
          have Hn := Lib.hid (hn rfl)
          clear hg hn
          go_wp2
          go_ret
          exact ⟨by rw [Hv1.out Hn.out]; rfl, rfl⟩
    · have hall : bitsL s.data.toList = true := by
        have := Hb.out
        rwa [List.take_of_length_le (by simp; omega)] at this
      have Hall := Lib.hid hall
      clear hall
      go_wp2
      go_ret
      refine ⟨?_, rfl⟩
      rw [Hv2.out Hall.out]
      congr 2

set_option maxHeartbeats 1000000 in
theorem StructureValid_spec (i : Int) (s r : ByteArray) (w : World) (hs : s.size ≤ maxLen) (hr : r.size ≤ maxLen) :
    Calls Tryd.prog 40 #[stV i s r] w fun e w' => e = .returned (.bool (okB i s r)) ∧ Below w.heap.size w w' := by
  have Hs := Lib.hid hs
  have Hr := Lib.hid hr
  clear hs hr
  by_cases h1 : 1 ≤ i ∧ i ≤ 8
  · obtain ⟨h1, h2⟩ := h1
    obtain ⟨g1, g2⟩ := sq_bd h1 h2
    have c0 : ∀ W, Calls Tryd.prog 45 #[.int .i64 i, .int .i64 1, .int .i64 8] W fun e w' => e = .returned (.bool true) ∧ W = w' := fun W => by
      have := l1In_calls i 1 8 W
      rwa [decide_eq_true h1, decide_eq_true h2] at this
    have c1 := l1Bits_calls s i
    have c2 := l1Bits_calls r (i * i)
    obtain ⟨q, hq⟩ : ∃ q, q = i * i := ⟨_, rfl⟩
    have hv : okB i s r = (bitsB s i && bitsB r q) := by unfold okB; rw [decide_eq_true h1, decide_eq_true h2, hq]; rfl
    rw [hv]
    rw [← hq] at g1 g2 c2
    have hmul : IntKind.i64.wrap (i * i) = q := by rw [← hq]; exact IntWalk.i64_in _ (by omega)
    have C0 := Lib.hid c0
    have C1 := Lib.hid c1
    have C2 := Lib.hid c2
    clear c0 c1 c2 hv
    cases hb1 : bitsB s i with
    | false =>
      rw [hb1] at C1
      clear hq hmul hb1
      go_enter Tryd.func40, Tryd.ntmps40
      go_wp2_with (first | (go_at_call 45; (with_reducible refine (C0.out _).mono ?_); rintro e w' ⟨rfl, rfl⟩) | (go_at_call 63; (with_reducible refine (C1.out _ Hs.out).mono ?_); rintro e w' ⟨rfl, rfl⟩))
      go_ret
      exact ⟨rfl, (Below.refl _ _).alloc (Nat.le_refl _) _⟩
    | true =>
      rw [hb1] at C1
      have Hq := Lib.hid hq
      clear hq hb1
      go_enter Tryd.func40, Tryd.ntmps40
      go_wp2_with fail
      refine (C0.out _).mono ?_
      rintro e w1 ⟨rfl, rfl⟩
      go_wp2_with fail
      refine (C1.out _ Hs.out).mono ?_
      rintro e w1 ⟨rfl, rfl⟩
      go_wp2_with fail
      refine (C2.out _ Hr.out).mono ?_
      rintro e w2 ⟨rfl, rfl⟩
      go_wp2_with fail
      go_ret
      exact ⟨rfl, (Below.refl _ _).alloc (Nat.le_refl _) _⟩
  · have hv : okB i s r = false := by
      unfold okB
      by_cases h2 : 1 ≤ i
      · rw [decide_eq_false (p := i ≤ 8) (fun h => h1 ⟨h2, h⟩)]; simp
      · rw [decide_eq_false h2]; simp
    rw [hv]
    have c0 : ∀ W, Calls Tryd.prog 45 #[.int .i64 i, .int .i64 1, .int .i64 8] W fun e w' => e = .returned (.bool false) ∧ W = w' := fun W => by
      have := l1In_calls i 1 8 W
      have e : (decide (1 ≤ i) && decide (i ≤ 8)) = false := by
        rw [Bool.eq_false_iff]; simp only [ne_eq, Bool.and_eq_true, decide_eq_true_eq]; exact h1
      rwa [e] at this
    have C0 := Lib.hid c0
    clear hv c0 h1
    go_enter Tryd.func40, Tryd.ntmps40
    go_wp2_with (go_at_call 45; (with_reducible refine (C0.out _).mono ?_); rintro e w' ⟨rfl, rfl⟩)
    go_ret
    exact ⟨rfl, (Below.refl _ _).alloc (Nat.le_refl _) _⟩

theorem szStructure_calls (i : Int) (s r : ByteArray) (left : Nat) (w : World) (hl : left ≤ 1048576) (hs : s.size ≤ maxLen) (hr : r.size ≤ maxLen) :
    Calls Tryd.prog 17 #[stV i s r, .int .i64 left] w fun e w' => (∃ m : Int, e = .returned (.int .i64 m) ∧ (0 ≤ m → s.size + r.size ≤ left ∧ m = left - s.size - r.size)) ∧ Below w.heap.size w w' := by
  unfold maxLen at hs hr
  go_enter Tryd.func17, Tryd.ntmps17
  go_wp2_with fail
  · go_ret
    exact ⟨⟨_, rfl, fun h => absurd h (by decide)⟩, (Below.refl _ _).alloc (Nat.le_refl _) _⟩
  · go_ret
    exact ⟨⟨_, rfl, fun h => absurd h (by decide)⟩, (Below.refl _ _).alloc (Nat.le_refl _) _⟩
  · go_ret
    exact ⟨⟨_, rfl, fun h => ⟨by omega, rfl⟩⟩, (Below.refl _ _).alloc (Nat.le_refl _) _⟩

theorem toStructure_calls (i : Int) (s r : ByteArray) (w : World) :
    Calls Tryd.prog 19 #[stV i s r] w fun e w' => e = .returned (stV i s r) ∧ Below w.heap.size w w' := by
  go_enter Tryd.func19, Tryd.ntmps19
  go_wp2_with fail
  exact bodyPost_ret (v := stV i s r) (by simp [results, Tryd.results19, go_sem]) rfl ⟨rfl, by first | exact (Below.refl _ _).alloc (Nat.le_refl _) _ | exact ((Below.refl _ _).alloc (Nat.le_refl _) _).alloc (by simp) _ | exact (((Below.refl _ _).alloc (Nat.le_refl _) _).alloc (by simp) _).alloc (by simp; omega) _⟩

end Go.Proofs.YtpaleogkgfclnaaDoor

namespace Go.Proofs.YtpaleogkgfclnaaDoor
open Go.RowKit
open Pl
set_option linter.unusedSimpArgs false
set_option linter.unusedVariables false

/-- a valid structure in Go -/
abbrev stA (a : St) : Value := stV (a.n : Int) (bs a.set) (bs a.rel)

theorem bitsL_iff (l : List UInt8) : bitsL l = true ↔ ∀ b ∈ l, IsBit b := by
  unfold bitsL IsBit
  rw [List.all_eq_true]
  simp only [Bool.or_eq_true, beq_iff_eq]

theorem okB_true {a : St} (h : a.ok) : okB (a.n : Int) (bs a.set) (bs a.rel) = true := by
  have h1 := h.lo; have h8 := h.hi
  unfold okB bitsB
  rw [decide_eq_true (show (1 : Int) ≤ a.n by omega), decide_eq_true (show (a.n : Int) ≤ 8 by omega), bs_data, bs_data, (bitsL_iff _).2 h.sb, (bitsL_iff _).2 h.rb, bs_size, bs_size, h.sl, h.rl]
  simp

theorem ok_cases (i : Int) (s r : ByteArray) : okB i s r = false ∨ ∃ a : St, a.ok ∧ i = a.n ∧ s = bs a.set ∧ r = bs a.rel := by
  cases hb : okB i s r with
  | false => exact .inl rfl
  | true =>
    right
    unfold okB bitsB at hb
    simp only [Bool.and_eq_true, decide_eq_true_eq] at hb
    obtain ⟨h1, h8, ⟨h2, h3⟩, h4, h5⟩ := hb
    have hn : i = (i.toNat : Int) := by omega
    refine ⟨⟨i.toNat, s.data.toList, r.data.toList⟩, ⟨by show 1 ≤ i.toNat; omega, by show i.toNat ≤ 8; omega, ?_, ?_, (bitsL_iff _).1 h3, (bitsL_iff _).1 h5⟩, hn, (bs_of s).symm, (bs_of r).symm⟩
    · show s.data.toList.length = i.toNat
      rw [← Lib.size_eq]; omega
    · show r.data.toList.length = i.toNat * i.toNat
      rw [← Lib.size_eq]
      rw [hn] at h4
      have : ((i.toNat * i.toNat : Nat) : Int) = (i.toNat : Int) * (i.toNat : Int) := by simp
      omega

theorem bs_get (l : List UInt8) (k : Nat) (h : k < l.length) : ∃ h2 : k < (bs l).size, (bs l)[k] = l[k] := ⟨by rw [bs_size]; exact h, rfl⟩

theorem bit_49 (b : Bool) : (((bitB b).toNat : Int) == 49) = b := by cases b <;> rfl

/-- what a walk asks of the set's byte -/
theorem set_byte {a : St} (h : a.ok) {x : Nat} (hx : x < a.n) : ∃ S : ByteArray, S = bs a.set ∧ ∃ h2 : x < S.size, ((S[x].toNat : Int) == 49) = a.inS x := by
  obtain ⟨hl, hg⟩ := inS_get h hx
  refine ⟨_, rfl, by rw [bs_size]; exact hl, ?_⟩
  show ((a.set[x].toNat : Int) == 49) = _
  rw [hg, bit_49]

theorem rel_byte {a : St} (h : a.ok) {x y : Nat} (hx : x < a.n) (hy : y < a.n) : ∃ (R : ByteArray) (m : Nat), R = bs a.rel ∧ IntKind.i64.wrap ((x : Int) * (a.n : Int)) = m ∧ m ≤ 64 ∧ R.size ≤ 64 ∧ ∃ h2 : m + y < R.size, ((R[m + y].toNat : Int) == 49) = a.inR x y := by
  obtain ⟨hl, hg⟩ := inR_get h hx hy
  have h8 := sq_le h.hi
  have hrl := h.rl
  refine ⟨_, x * a.n, rfl, ?_, by omega, by rw [bs_size]; omega, by rw [bs_size]; exact hl, ?_⟩
  · rw [show ((x : Int) * (a.n : Int)) = ((x * a.n : Nat) : Int) by simp]
    exact IntWalk.i64_in _ (by omega)
  · show ((a.rel[x * a.n + y].toNat : Int) == 49) = _
    rw [hg, bit_49]

theorem inSet_calls (a : St) (ha : a.ok) (x : Nat) (hx : x < a.n) (w : World) :
    Calls Tryd.prog 71 #[stA a, .int .i64 x] w fun e w' => e = .returned (.bool (a.inS x)) ∧ Below w.heap.size w w' := by
  obtain ⟨S, hS, hlt, hv⟩ := set_byte ha hx
  have hn := ha.hi
  unfold stA
  rw [← hS]
  generalize bs a.rel = R
  generalize a.n = n at hx hn
  have Hv := Lib.hid hv
  clear hS hv
  go_enter Tryd.func71, Tryd.ntmps71
  go_wp2_with fail
  go_ret
  exact ⟨by rw [← Hv.out]; rfl, (Below.refl _ _).alloc (Nat.le_refl _) _⟩

theorem l1Set_calls (a : St) (ha : a.ok) (x : Nat) (hx : x < a.n) (w : World) :
    Calls Tryd.prog 106 #[stA a, .int .i64 x] w fun e w' => e = .returned (.bool (a.inS x)) ∧ Below w.heap.size w w' := by
  obtain ⟨S, hS, hlt, hv⟩ := set_byte ha hx
  have hn := ha.hi
  unfold stA
  rw [← hS]
  generalize bs a.rel = R
  generalize a.n = n at hx hn
  have Hv := Lib.hid hv
  clear hS hv
  go_enter Tryd.func106, Tryd.ntmps106
  go_wp2_with fail
  go_ret
  exact ⟨by rw [← Hv.out]; rfl, (Below.refl _ _).alloc (Nat.le_refl _) _⟩

set_option maxHeartbeats 400000 in
theorem inRel_calls (a : St) (ha : a.ok) (x y : Nat) (hx : x < a.n) (hy : y < a.n) (w : World) :
    Calls Tryd.prog 73 #[stA a, .int .i64 x, .int .i64 y] w fun e w' => e = .returned (.bool (a.inR x y)) ∧ Below w.heap.size w w' := by
  obtain ⟨R, m, hR, hm, hm64, hR64, hlt, hv⟩ := rel_byte ha hx hy
  have hn := ha.hi
  unfold stA
  rw [← hR]
  generalize bs a.set = S
  generalize a.inR x y = V at hv
  generalize a.n = n at hx hy hn hm
  have Hv := Lib.hid hv
  have e1 : (m : Int) + (y : Int) < (R.size : Int) := by omega
  have e2 : ((m : Int) + (y : Int)).toNat = m + y := by omega
  have e3 : IntKind.i64.wrap ((m : Int) + (y : Int)) = (m : Int) + (y : Int) := IntWalk.i64_in _ (by omega)
  clear hR hv
  go_enter Tryd.func73, Tryd.ntmps73
  go_wp2_with fail
  go_ret
  exact ⟨by rw [← Hv.out]; rfl, (Below.refl _ _).alloc (Nat.le_refl _) _⟩

set_option maxHeartbeats 400000 in
theorem l1Rel_calls (a : St) (ha : a.ok) (x y : Nat) (hx : x < a.n) (hy : y < a.n) (w : World) :
    Calls Tryd.prog 107 #[stA a, .int .i64 x, .int .i64 y] w fun e w' => e = .returned (.bool (a.inR x y)) ∧ Below w.heap.size w w' := by
  obtain ⟨R, m, hR, hm, hm64, hR64, hlt, hv⟩ := rel_byte ha hx hy
  have hn := ha.hi
  unfold stA
  rw [← hR]
  generalize bs a.set = S
  generalize a.inR x y = V at hv
  generalize a.n = n at hx hy hn hm
  have Hv := Lib.hid hv
  have e1 : (m : Int) + (y : Int) < (R.size : Int) := by omega
  have e2 : ((m : Int) + (y : Int)).toNat = m + y := by omega
  have e3 : IntKind.i64.wrap ((m : Int) + (y : Int)) = (m : Int) + (y : Int) := IntWalk.i64_in _ (by omega)
  clear hR hv
  go_enter Tryd.func107, Tryd.ntmps107
  go_wp2_with fail
  go_ret
  exact ⟨by rw [← Hv.out]; rfl, (Below.refl _ _).alloc (Nat.le_refl _) _⟩

/-- a number is an element -/
def elB (i x : Int) : Bool := decide (0 ≤ x) && decide (x < i)

set_option maxHeartbeats 1000000 in
theorem hasElement_calls (i : Int) (s r : ByteArray) (x : Int) (w : World) (hs : s.size ≤ maxLen) (hr : r.size ≤ maxLen) :
    Calls Tryd.prog 46 #[stV i s r, .int .i64 x] w fun e w' => e = .returned (.bool (okB i s r && elB i x)) ∧ Below w.heap.size w w' := by
  have hc : ∀ W, Calls Tryd.prog 35 #[stV i s r] W fun e w' => e = .returned (.bool (okB i s r)) ∧ Below W.heap.size W w' := fun W => isStructure_calls i s r W hs hr
  cases hok : okB i s r with
  | false =>
    rw [hok] at hc
    have Hc := Lib.hid hc
    clear hc hs hr hok
    go_enter Tryd.func46, Tryd.ntmps46
    go_wp2_with (go_at_call 35; (with_reducible refine (Hc.out _).mono ?_); rintro e w' ⟨rfl, hx1⟩)
    go_ret
    exact ⟨rfl, box_down (box_next (box_refl w _) hx1)⟩
  | true =>
    rw [hok] at hc
    have Hc := Lib.hid hc
    rw [Bool.true_and]
    clear hc hs hr hok
    unfold elB
    by_cases h0 : 0 ≤ x
    · have d0 : decide (0 ≤ x) = true := decide_eq_true h0
      cases d1 : decide (x < i)
      all_goals
        rw [d0]
        go_enter Tryd.func46, Tryd.ntmps46
        go_wp2_with fail
        refine (Hc.out _).mono ?_
        rintro e w' ⟨rfl, hx1⟩
        have HB := Lib.hid (box_next (box_refl w _) hx1)
        clear hx1
        obtain ⟨k0, k1, k2⟩ := box3 HB.out
        go_wp2_with fail
        go_ret
        exact ⟨rfl, box_down HB.out⟩
    · have d0 : decide (0 ≤ x) = false := decide_eq_false h0
      rw [d0]
      go_enter Tryd.func46, Tryd.ntmps46
      go_wp2_with fail
      refine (Hc.out _).mono ?_
      rintro e w' ⟨rfl, hx1⟩
      have HB := Lib.hid (box_next (box_refl w _) hx1)
      clear hx1
      obtain ⟨k0, k1, k2⟩ := box3 HB.out
      go_wp2_with fail
      go_ret
      exact ⟨rfl, box_down HB.out⟩

end Go.Proofs.YtpaleogkgfclnaaDoor

namespace Go.Proofs.YtpaleogkgfclnaaDoor
open Go.RowKit
open Pl
set_option linter.unusedSimpArgs false
set_option linter.unusedVariables false

/-- the structure that is meant -/
def ofSt (i : Int) (s r : ByteArray) : St := ⟨i.toNat, s.data.toList, r.data.toList⟩
theorem ofSt_eq (a : St) : ofSt (a.n : Int) (bs a.set) (bs a.rel) = a := rfl

def inSetV (i : Int) (s r : ByteArray) (x : Int) : Bool := okB i s r && (elB i x && (ofSt i s r).inS x.toNat)
def inRelV (i : Int) (s r : ByteArray) (x y : Int) : Bool := okB i s r && (elB i x && (elB i y && (ofSt i s r).inR x.toNat y.toNat))

theorem el_cases (n : Nat) (x : Int) : elB n x = false ∨ ∃ k : Nat, x = k ∧ k < n ∧ elB n x = true := by
  cases h : elB n x with
  | false => exact .inl rfl
  | true =>
    right
    unfold elB at h
    simp only [Bool.and_eq_true, decide_eq_true_eq] at h
    exact ⟨x.toNat, by omega, by omega, rfl⟩

theorem el_in {n : Nat} {x : Int} (h : 1 ≤ n) : (decide (0 ≤ x) && decide (x ≤ (n : Int) - 1)) = elB n x := by
  unfold elB
  rw [show decide (x ≤ (n : Int) - 1) = decide (x < (n : Int)) from by rw [decide_eq_decide]; omega]

theorem st_bounds {a : St} (ha : a.ok) : (bs a.set).size ≤ maxLen ∧ (bs a.rel).size ≤ maxLen := by
  have h8 := ha.hi; have h1 := ha.sl; have h2 := ha.rl; have h3 := sq_le h8
  rw [bs_size, bs_size]
  unfold maxLen
  constructor <;> omega

end Go.Proofs.YtpaleogkgfclnaaDoor

namespace Go.Proofs.YtpaleogkgfclnaaDoor
open Go.RowKit
open Pl
set_option linter.unusedSimpArgs false
set_option linter.unusedVariables false

theorem bitOf_calls (b : Bool) (w : World) : Calls Tryd.prog 91 #[.bool b] w fun e w' => e = .returned (.string (bs [bitB b])) ∧ w = w' := by
  cases b
  all_goals
    go_enter Tryd.func91, Tryd.ntmps91
    go_wp2_with fail
    go_ret
    exact ⟨rfl, rfl⟩

theorem l1Bit_calls (b : Bool) (w : World) : Calls Tryd.prog 94 #[.bool b] w fun e w' => e = .returned (.string (bs [bitB b])) ∧ w = w' := by
  cases b
  all_goals
    go_enter Tryd.func94, Tryd.ntmps94
    go_wp2_with fail
    go_ret
    exact ⟨rfl, rfl⟩

/-- the set's bits up to k, the relation's bits up to row k, up to place j of row k -/
def setTo (f : Nat → Bool) (k : Nat) : List UInt8 := (List.range k).map fun x => bitB (f x)
def relTo (n : Nat) (g : Nat → Nat → Bool) (k : Nat) : List UInt8 := (List.range k).flatMap fun x => (List.range n).map fun y => bitB (g x y)
def relAt (n : Nat) (g : Nat → Nat → Bool) (k j : Nat) : List UInt8 := relTo n g k ++ (List.range j).map fun y => bitB (g k y)

theorem setTo_succ (f : Nat → Bool) (k : Nat) : setTo f (k + 1) = setTo f k ++ [bitB (f k)] := by simp [setTo, List.range_succ]
theorem relAt_succ (n : Nat) (g : Nat → Nat → Bool) (k j : Nat) : relAt n g k (j + 1) = relAt n g k j ++ [bitB (g k j)] := by simp [relAt, List.range_succ]
theorem relAt_zero (n : Nat) (g : Nat → Nat → Bool) (k : Nat) : relAt n g k 0 = relTo n g k := by simp [relAt]
theorem relTo_succ (n : Nat) (g : Nat → Nat → Bool) (k : Nat) : relTo n g (k + 1) = relAt n g k n := by simp [relTo, relAt, List.range_succ]
theorem setTo_len (f : Nat → Bool) (k : Nat) : (setTo f k).length = k := by simp [setTo]
theorem relTo_len (n : Nat) (g : Nat → Nat → Bool) (k : Nat) : (relTo n g k).length = k * n := (flat_get (fun x y => bitB (g x y)) k).1
theorem relAt_len (n : Nat) (g : Nat → Nat → Bool) (k j : Nat) : (relAt n g k j).length = k * n + j := by simp [relAt, relTo_len]

theorem enter_of {P : Program} {F : FuncId} {fn : Func} (hf : P.funcs[F]? = some fn) (hn : (fn.name == "runtime.NumGoroutine") = false) (hb : fn.body.isNone = false) : ∀ (args : Array Value) (w : World), (callFunc F args).run P w = .ok (.enter F args) w := by
  intro args w
  have hn2 : ¬ fn.name = "runtime.NumGoroutine" := beq_eq_false_iff_ne.1 hn
  have hb2 : ¬ fn.body = none := by intro e; rw [e] at hb; cases hb
  simp [callFunc, hf, hn2, hb2]

/-- a block that is known whole -/
def Bx (w : World) (g : Nat) (t : TypeId) (cs : Array Value) : Prop := w.heap[g]? = some (.cells cs t (0, 0))

theorem Bx.lt {w : World} {g : Nat} {t : TypeId} {cs : Array Value} (h : Bx w g t cs) : g < w.heap.size := by
  rcases Nat.lt_or_ge g w.heap.size with h1 | h1
  · exact h1
  · unfold Bx at h; rw [Array.getElem?_eq_none h1] at h; cases h
theorem Bx.cell {w : World} {g : Nat} {t : TypeId} {cs : Array Value} (h : Bx w g t cs) (i : Nat) : w.cell? ⟨g, i, none⟩ = cs[i]? := by
  unfold Bx at h; simp [World.cell?, h]
theorem Bx.free {w : World} {g : Nat} {t : TypeId} {cs : Array Value} (h : Bx w g t cs) (i : Nat) : w.frozen? ⟨g, i, none⟩ = false := by
  unfold Bx at h; simp [World.frozen?, h]
theorem Bx.new (w : World) (t : TypeId) (cs : Array Value) : Bx (w.alloc (.cells cs t)) w.heap.size t cs := heap_alloc_new w _
theorem bx_two (w : World) (o : Obj) (cs : Array Value) {t : TypeId} : Bx ((w.alloc o).alloc (.cells cs t)) (w.heap.size + 1) t cs := by
  have h := Bx.new (w.alloc o) t cs
  rwa [World.size_alloc] at h
theorem Bx.alloc {w : World} {g : Nat} {t : TypeId} {cs : Array Value} (h : Bx w g t cs) (o : Obj) : Bx (w.alloc o) g t cs := (Below.heap_alloc w o g h.lt).trans h
theorem Bx.drew {w : World} {g : Nat} {t : TypeId} {cs : Array Value} (h : Bx w g t cs) : Bx w.drew g t cs := h
theorem Bx.drewN {w : World} {g : Nat} {t : TypeId} {cs : Array Value} (h : Bx w g t cs) (k : Nat) : Bx (w.drewN k) g t cs := h
theorem Bx.below {w w' : World} {g B : Nat} {t : TypeId} {cs : Array Value} (h : Bx w g t cs) (hb : Below B w w') (hg : g < B) : Bx w' g t cs := (hb.block g hg).trans h
theorem Bx.call {w w' : World} {g : Nat} {t : TypeId} {cs : Array Value} (h : Bx w g t cs) (hb : Below w.heap.size w w') : Bx w' g t cs := h.below hb h.lt
theorem Bx.set {w : World} {g : Nat} {t : TypeId} {cs : Array Value} (h : Bx w g t cs) (i : Nat) (u : Value) : Bx (w.setCell ⟨g, i, none⟩ u) g t (cs.setIfInBounds i u) := by
  unfold Bx at h ⊢
  simp [World.setCell, Array.getElem?_modify, h]
theorem Bx.far {w : World} {g : Nat} {t : TypeId} {cs : Array Value} (h : Bx w g t cs) {p : Addr} (hp : g ≠ p.block) (u : Value) : Bx (w.setCell p u) g t cs := (Below.heap_setCell w p u g hp).trans h

set_option maxHeartbeats 1000000 in
set_option maxRecDepth 100000 in
theorem makeStructure_calls (n : Nat) (hn : n ≤ 8) (f : Nat → Bool) (g : Nat → Nat → Bool) (F G : FuncId) (fF cF fG cG : Array Value) (w : World)
    (eF : ∀ (args : Array Value) (W : World), (callFunc F args).run Tryd.prog W = .ok (.enter F args) W) (eG : ∀ (args : Array Value) (W : World), (callFunc G args).run Tryd.prog W = .ok (.enter G args) W)
    (hF : ∀ (x : Nat) (W : World), x < n → Below w.heap.size w W → Calls Tryd.prog F (fF.push (.int .i64 x) ++ cF) W fun e W' => e = .returned (.bool (f x)) ∧ Below W.heap.size W W')
    (hG : ∀ (x y : Nat) (W : World), x < n → y < n → Below w.heap.size w W → Calls Tryd.prog G (fG ++ (#[.int .i64 x, .int .i64 y] ++ cG)) W fun e W' => e = .returned (.bool (g x y)) ∧ Below W.heap.size W W') :
    Calls Tryd.prog 69 #[.int .i64 n, .func (.func F) fF cF, .func (.func G) fG cG] w fun e w' => e = .returned (stA (mkSt n f g)) ∧ Below w.heap.size w w' := by
  have HF := Lib.hid hF
  have HG := Lib.hid hG
  clear hF hG
  go_enter Tryd.func69, Tryd.ntmps69
  go_wp2_with fail
  go_loopg [13] n (fun c i wr => ∃ k : Nat, k + c = n ∧ i = .int .i64 k ∧ Bx wr w.heap.size 27 #[.int .i64 0, .string (bs []), .string (bs [])] ∧ Bx wr (w.heap.size + 1) 27 #[.int .i64 n, .string (bs (setTo f k)), .string (bs (relTo n g k))] ∧ Below w.heap.size w wr)
  case atStart => exact ⟨0, by omega, rfl, (Bx.new w _ _).alloc _, bx_two _ _ _, ((Below.refl _ _).alloc (Nat.le_refl _) _).alloc (by simp) _⟩
  case round =>
    obtain ⟨k, hk, rfl, hr0, hb0, hbw⟩ := hrel
    have Hr0 := Lib.hid hr0
    have Hb0 := Lib.hid hb0
    have Hbw := Lib.hid hbw
    clear hr0 hb0 hbw
    by_cases hlt : k < n
    · have c1 := Hb0.out.cell 1
      have f1 := Hb0.out.free 1
      simp at c1
      have s1 : (bs (setTo f k)).size ≤ 8 := by rw [bs_size, setTo_len]; omega
      have s2 : (bs [bitB (f k)]).size ≤ 1 := by rw [bs_size]; simp
      have hs3 : bs (setTo f k) ++ bs [bitB (f k)] = bs (setTo f (k + 1)) := by rw [append_bs, bs_data, bs_data, setTo_succ]
      have Hs3 := Lib.hid hs3
      clear hs3
      go_upto_region 5 with (fail)
      go_cut [22] (fun v wx => v = .string (bs (setTo f (k + 1))) ∧ Bx wx w.heap.size 27 #[.int .i64 0, .string (bs []), .string (bs [])] ∧ Bx wx (w.heap.size + 1) 27 #[.int .i64 n, .string (bs (setTo f (k + 1))), .string (bs (relTo n g k))] ∧ Below w.heap.size w wx)
      case first =>
        go_region_with (first | (go_at_call 91; refine (bitOf_calls _ _).mono ?_; rintro e w2 ⟨rfl, rfl⟩) | (go_simp; refine (HF.out k _ hlt Hbw.out.drew).mono ?_; rintro e w1 ⟨rfl, hz⟩; have c2 := (Hb0.out.drew.call hz).cell 1; have f2 := (Hb0.out.drew.call hz).free 1; simp at c2; have Hz := Lib.hid hz; clear hz))
        all_goals
          go_wp2_with fail
          go_meet
          case rel => exact ⟨str_eq Hs3.out, (Hr0.out.drew.call Hz.out).far (by simp) _, by rw [← Hs3.out]; exact (Hb0.out.drew.call Hz.out).set 1 _, (Hbw.out.drew.trans (Hz.out.mono Hbw.out.drew.size)).setCell (by simp) _⟩
      case rest =>
        obtain ⟨rfl, hr1, hb1, hbw1⟩ := hcut
        have Hr1 := Lib.hid hr1
        have Hb1 := Lib.hid hb1
        have Hbw1 := Lib.hid hbw1
        clear hr1 hb1 hbw1 c1 f1 s1 s2
        go_wp2_with fail
        go_loopg [25] n (fun c i wr => ∃ j : Nat, j + c = n ∧ i = .int .i64 j ∧ Bx wr w.heap.size 27 #[.int .i64 0, .string (bs []), .string (bs [])] ∧ Bx wr (w.heap.size + 1) 27 #[.int .i64 n, .string (bs (setTo f (k + 1))), .string (bs (relAt n g k j))] ∧ Below w.heap.size w wr)
        case atStart => exact ⟨0, by omega, rfl, Hr1.out, by rw [relAt_zero]; exact Hb1.out, Hbw1.out⟩
        case round =>
          clear Hr0 Hb0 Hbw Hr1 Hb1 Hbw1 Hs3
          obtain ⟨j, hj, rfl, hr0, hb0, hbw⟩ := hrel
          have Hr0 := Lib.hid hr0
          have Hb0 := Lib.hid hb0
          have Hbw := Lib.hid hbw
          clear hr0 hb0 hbw
          by_cases hlj : j < n
          · have c1 := Hb0.out.cell 2
            have f1 := Hb0.out.free 2
            simp at c1
            have s1 : (bs (relAt n g k j)).size ≤ 100 := by
              rw [bs_size, relAt_len]
              have h64 := sq_le hn
              have hkn : k * n ≤ n * n := Nat.mul_le_mul_right n (by omega)
              omega
            have s2 : (bs [bitB (g k j)]).size ≤ 1 := by rw [bs_size]; simp
            have hs3 : bs (relAt n g k j) ++ bs [bitB (g k j)] = bs (relAt n g k (j + 1)) := by rw [append_bs, bs_data, bs_data, relAt_succ]
            have Hs3 := Lib.hid hs3
            clear hs3
            go_upto_region 9 with (fail)
            go_region_with (first | (go_at_call 91; refine (bitOf_calls _ _).mono ?_; rintro e w2 ⟨rfl, rfl⟩) | (go_simp; refine (HG.out k j _ hlt hlj Hbw.out.drew).mono ?_; rintro e w1 ⟨rfl, hz⟩; have c2 := (Hb0.out.drew.call hz).cell 2; have f2 := (Hb0.out.drew.call hz).free 2; simp at c2; have Hz := Lib.hid hz; clear hz))
            all_goals
              go_wp2_with fail
              go_roundg (n - j - 1)
              case rel => exact ⟨j + 1, by omega, by go_num, (Hr0.out.drew.call Hz.out).far (by simp) _, by rw [← Hs3.out]; exact (Hb0.out.drew.call Hz.out).set 2 _, (Hbw.out.drew.trans (Hz.out.mono Hbw.out.drew.size)).setCell (by simp) _⟩
              case measure => omega
          · obtain rfl : n = j := by omega
            go_wp2_with fail
            go_roundg (n - k - 1)
            case rel => exact ⟨k + 1, by omega, by go_num, Hr0.out, by rw [relTo_succ]; exact Hb0.out, Hbw.out⟩
            case measure => omega
    · obtain rfl : n = k := by omega
      have c0 := Hb0.out.cell 0
      have c1 := Hb0.out.cell 1
      have c2 := Hb0.out.cell 2
      simp at c0 c1 c2
      have d0 := Hr0.out.cell 0
      have d1 := Hr0.out.cell 1
      have d2 := Hr0.out.cell 2
      have e0 := Hr0.out.free 0
      have e1 := Hr0.out.free 1
      have e2 := Hr0.out.free 2
      simp at d0 d1 d2
      go_wp2_with fail
      have x3 := ((Hr0.out.set 0 (.int .i64 n)).set 1 (.string (bs (setTo f n)))).set 2 (.string (bs (relTo n g n)))
      have q0 := x3.cell 0
      have q1 := x3.cell 1
      have q2 := x3.cell 2
      simp at q0 q1 q2
      refine bodyPost_ret (v := stA (mkSt n f g)) ?_ rfl ⟨rfl, ?_⟩
      · simp [results, Tryd.results69, go_sem, q0, q1, q2]
        exact ⟨rfl, rfl, rfl⟩
      · exact ((Hbw.out.setCell (Nat.le_refl _) _).setCell (Nat.le_refl _) _).setCell (Nat.le_refl _) _

end Go.Proofs.YtpaleogkgfclnaaDoor

namespace Go.Proofs.YtpaleogkgfclnaaDoor
open Go.RowKit
open Pl
set_option linter.unusedSimpArgs false
set_option linter.unusedVariables false

theorem below_drewN' {B : Nat} {a w : World} (h : Below B a w) (n : Nat) : Below B a (w.drewN n) := ⟨h.os, h.tape, h.output, h.size, h.block⟩

/-- an address at which the numbers lie -/
def LRow (w : World) (A : Option Addr) (zs : List Int) : Prop := 0 < zs.length → ∃ g, A = some ⟨g, 0, none⟩ ∧ ∀ i, i < zs.length → w.cell? ⟨g, i, none⟩ = some (.int .i64 (zs.getD i 0))

theorem LRow.call {w w' : World} {A : Option Addr} {zs : List Int} (h : LRow w A zs) (hb : Below w.heap.size w w') : LRow w' A zs := fun hn => by
  obtain ⟨g, rfl, hc⟩ := h hn
  exact ⟨g, rfl, fun i hi => (hb.cell (World.block_lt_of_cell? w _ (hc i hi))).trans (hc i hi)⟩
theorem LRow.below {w w' : World} {A : Option Addr} {zs : List Int} {B : Nat} (h : LRow w A zs) (hB : ∀ g, A = some ⟨g, 0, none⟩ → g < B) (hb : Below B w w') : LRow w' A zs := fun hn => by
  obtain ⟨g, rfl, hc⟩ := h hn
  exact ⟨g, rfl, fun i hi => (hb.cell (p := ⟨g, i, none⟩) (hB g rfl)).trans (hc i hi)⟩
theorem LRow.drew {w : World} {A : Option Addr} {zs : List Int} (h : LRow w A zs) : LRow w.drew A zs := h
theorem LRow.alloc {w : World} {A : Option Addr} {zs : List Int} (h : LRow w A zs) (o : Obj) : LRow (w.alloc o) A zs := h.call ((Below.refl _ _).alloc (Nat.le_refl _) _)
theorem LRow.take {w : World} {A : Option Addr} {zs : List Int} (h : LRow w A zs) (k : Nat) : LRow w A (zs.take k) := fun hn => by
  rw [List.length_take] at hn
  obtain ⟨g, rfl, hc⟩ := h (by omega)
  refine ⟨g, rfl, fun i hi => ?_⟩
  rw [List.length_take] at hi
  rw [hc i (by omega)]
  simp [List.getD, List.getElem?_take, show i < k by omega]

theorem getD_mem {zs : List Int} {k : Nat} (h : k < zs.length) : zs.getD k 0 ∈ zs := by
  simp only [List.getD_eq_getElem?_getD, List.getElem?_eq_getElem h, Option.getD_some]
  exact List.getElem_mem h
theorem mem_getD {zs : List Int} {x : Int} (h : x ∈ zs) : ∃ k, k < zs.length ∧ zs.getD k 0 = x := by
  obtain ⟨k, hk, rfl⟩ := List.getElem_of_mem h
  exact ⟨k, hk, by simp [List.getD, hk]⟩

/-- a list as a row of the call's own -/
def intsV (zs : List Int) : List Value := zs.map (Value.int .i64)

theorem LRow_of {w : World} {base : Nat} {A : Option Addr} {n cap : Nat} {zs : List Int} (h : w.ownsRow base 3 1 (.slice A n cap) n (intsV zs)) : LRow w A zs := by
  intro hn
  have hl := h.1
  have hzl : zs.length = n := by simpa [intsV] using hl
  obtain ⟨g, hA⟩ : ∃ g, A = some ⟨g, 0, none⟩ := by
    rcases h.2 with ⟨_, h0⟩ | ⟨g, c, cur, hv, _⟩
    · omega
    · exact ⟨g, by injection hv⟩
  subst hA
  refine ⟨g, rfl, fun i hi => ?_⟩
  have := h.cellAt i (by omega)
  rw [this]
  simp [intsV, List.getD, hi]

end Go.Proofs.YtpaleogkgfclnaaDoor

namespace Go.Proofs.YtpaleogkgfclnaaDoor
open Go.RowKit
set_option linter.unusedVariables false

section
variable {P : Program} {ops : Array Oper} {Q : Exit → Act → World → Prop} {md : Region.Mode} {S : World → Prop}

/-- the order laid: numbers that are taken first where they yield, numbers that alone may come up -/
def schedOk (md : Region.Mode) (ops : Array Oper) : List (Nat × Bool) → Array Bool → Bool
  | [], listed => (Region.ready md ops listed).isEmpty
  | (i, true) :: is, listed => Region.free md ops listed i && ((Region.ready md ops listed).contains i && schedOk md ops is (listed.setIfInBounds i true))
  | (i, false) :: is, listed => (Region.ready md ops listed == [i]) && schedOk md ops is (listed.setIfInBounds i true)

def wpSched (P : Program) (ops : Array Oper) (Q : Exit → Act → World → Prop) (S : World → Prop) : List (Nat × Bool) → Act → World → Prop
  | [], a, w => Q .normal a w
  | (i, true) :: is, a, w => ∃ o v, ops[i]? = some o ∧ YieldsIf P ops S o v a ∧ wpSched P ops Q S is (a.put o.dst v) w
  | (i, false) :: is, a, w => wpOp P ops Q i (fun a' w' => S w' ∧ wpSched P ops Q S is a' w') a w

theorem wpAnyH_sched (hs : Region.noSelect ops = true) (hQ : ∀ t c a w, Q (.panic c) { a with tmps := t } w → Q (.panic c) a w) :
    ∀ (is : List (Nat × Bool)) (listed : Array Bool) (a : Act) (w : World), schedOk md ops is listed = true → S w → wpSched P ops Q S is a w → wpAnyH P md ops Q S is.length listed a w := by
  intro is
  induction is with
  | nil => intro listed a w h _ hw; exact ⟨by simpa [schedOk] using h, hw⟩
  | cons p is ih =>
    obtain ⟨i, b⟩ := p
    intro listed a w h hS hw
    cases b with
    | true =>
      simp only [schedOk, Bool.and_eq_true] at h
      obtain ⟨o, v, ho, hy, hr⟩ := hw
      exact wpAnyH_take ho hs h.1 h.2.1 (fun c a w h => by cases hd : o.dst with | none => rw [hd] at h; exact h | some d => rw [hd] at h; exact hQ _ c a w h) hy hS (ih _ _ _ h.2.2 hS hr)
    | false =>
      simp only [schedOk, Bool.and_eq_true, beq_iff_eq] at h
      refine wpAnyH_all h.1 (by simp) fun j hj => ?_
      obtain rfl : j = i := by simpa using hj
      exact wpOp_mono (fun a' w' hk => ⟨hk.1, ih _ _ _ h.2 hk.1 hk.2⟩) hw

/-- the same, behind a name that nothing unfolds -/
structure Sd (P : Program) (ops : Array Oper) (Q : Exit → Act → World → Prop) (S : World → Prop) (is : List (Nat × Bool)) (a : Act) (w : World) : Prop where
  out : wpSched P ops Q S is a w

/-- a region that draws, by an order that is laid; what follows stands behind a letter -/
theorem region_sched {id : Nat} {a : Act} {w : World} (is : List (Nat × Bool)) (S : World → Prop) (hm : P.follows .mixedOrders = true) (hs : Region.noSelect ops = true) (hl : is.length = ops.size)
    (hk : schedOk .any ops is (Array.replicate ops.size false) = true) (hQ : ∀ t c a w, Q (.panic c) { a with tmps := t } w → Q (.panic c) a w) (hS : S w.drew)
    (h : ∀ Q' : Exit → Act → World → Prop, Hid (∀ a' w', Q .normal a' w' → Q' .normal a' w') → Sd P ops Q' S is a w.drew) : (Code.region id ops true).wp P Q a w := by
  refine wp_region_held (S := S) hm ?_
  have h2 := wpAnyH_sched (md := .any) (S := S) hs hQ is (Array.replicate ops.size false) a w.drew hk hS (h Q (Lib.hid fun _ _ h => h)).out
  rw [hl] at h2
  exact h2

theorem sched_take {i : Nat} {is : List (Nat × Bool)} {a : Act} {w : World} {o : Oper} {v : Value} (ho : ops[i]? = some o) (hw : Region.wanted o (yielded ops a.tmps) = true) (hy : ∀ w, S w → (execOp a.eval o).run P w = .ok (.value v) w)
    (h : Sd P ops Q S is (a.put o.dst v) w) : Sd P ops Q S ((i, true) :: is) a w := ⟨⟨o, v, ho, .inl ⟨hw, hy⟩, h.out⟩⟩
theorem sched_skip {i : Nat} {is : List (Nat × Bool)} {a : Act} {w : World} {o : Oper} (ho : ops[i]? = some o) (hw : Region.wanted o (yielded ops a.tmps) = false)
    (h : Sd P ops Q S is (a.put o.dst undef) w) : Sd P ops Q S ((i, true) :: is) a w := ⟨⟨o, undef, ho, .inr ⟨hw, rfl⟩, h.out⟩⟩
theorem sched_call {i : Nat} {is : List (Nat × Bool)} {a : Act} {w : World} {o : Oper} (ho : ops[i]? = some o) (hw : Region.wanted o (yielded ops a.tmps) = true)
    (h : ∀ K : Act → World → Prop, Hid (∀ a' w', S w' → Sd P ops Q S is a' w' → K a' w') → o.wp P a w K Q) : Sd P ops Q S ((i, false) :: is) a w := by
  refine ⟨?_⟩
  show wpOp P ops Q i _ a w
  unfold wpOp
  simp only [ho, hw, if_true]
  exact .inl (h _ (Lib.hid fun _ _ h1 h2 => ⟨h1, h2.out⟩))
theorem sched_skipC {i : Nat} {is : List (Nat × Bool)} {a : Act} {w : World} {o : Oper} (ho : ops[i]? = some o) (hw : Region.wanted o (yielded ops a.tmps) = false) (hS : S w)
    (h : Sd P ops Q S is (a.put o.dst undef) w) : Sd P ops Q S ((i, false) :: is) a w := by
  refine ⟨?_⟩
  show wpOp P ops Q i _ a w
  unfold wpOp
  simp only [ho, hw]
  exact ⟨hS, h.out⟩
theorem sched_take' {i : Nat} {is : List (Nat × Bool)} {a : Act} {w : World} {o : Oper} {v : Value} {a' : Act} (ho : ops[i]? = some o) (hw : Region.wanted o (yielded ops a.tmps) = true) (hy : ∀ w, S w → (execOp a.eval o).run P w = .ok (.value v) w)
    {d : Tmp} (hd : o.dst = some d) (ha : a.put (some d) v = a') (h : Sd P ops Q S is a' w) : Sd P ops Q S ((i, true) :: is) a w := ⟨⟨o, v, ho, .inl ⟨hw, hy⟩, by rw [hd, ha]; exact h.out⟩⟩
theorem sched_skip' {i : Nat} {is : List (Nat × Bool)} {a : Act} {w : World} {o : Oper} {a' : Act} (ho : ops[i]? = some o) (hw : Region.wanted o (yielded ops a.tmps) = false) {d : Tmp} (hd : o.dst = some d) (ha : a.put (some d) undef = a')
    (h : Sd P ops Q S is a' w) : Sd P ops Q S ((i, true) :: is) a w := ⟨⟨o, undef, ho, .inr ⟨hw, rfl⟩, by rw [hd, ha]; exact h.out⟩⟩
theorem sched_lay {is : List (Nat × Bool)} {a a' : Act} {w : World} (ha : a = a') (h : Sd P ops Q S is a' w) : Sd P ops Q S is a w := by rw [ha]; exact h
theorem sched_skipC' {i : Nat} {is : List (Nat × Bool)} {a : Act} {w : World} {o : Oper} {a' : Act} (ho : ops[i]? = some o) (hw : Region.wanted o (yielded ops a.tmps) = false) (hS : S w) {d : Tmp} (hd : o.dst = some d) (ha : a.put (some d) undef = a')
    (h : Sd P ops Q S is a' w) : Sd P ops Q S ((i, false) :: is) a w := by
  refine ⟨?_⟩
  show wpOp P ops Q i _ a w
  unfold wpOp
  rw [← ha] at h
  simp only [ho, hw, hd] at *
  exact ⟨hS, h.out⟩
theorem sched_done {a : Act} {w : World} (h : Q .normal a w) : Sd P ops Q S [] a w := ⟨h⟩
end

end Go.Proofs.YtpaleogkgfclnaaDoor

namespace Go.Proofs.YtpaleogkgfclnaaDoor
open Go.RowKit
open Pl
set_option linter.unusedSimpArgs false
set_option linter.unusedVariables false
attribute [local go_sem ↓] Go.wp_at_zero Go.wp_at_succ

/-- bytes that lie at an address -/
def ByRow (w : World) (A : Option Addr) (n : Nat) : Prop := 0 < n → ∃ x : Addr, A = some x ∧ ∀ i, i < n → ∃ b : Nat, b < 256 ∧ w.cell? (x.add i) = some (.int .u8 b)

theorem Bx.grown' {w w' : World} {g : Nat} {t : TypeId} {cs : Array Value} {row : Option Nat} (h : Bx w g t cs) (hg : w.grownBy w' row) (hne : some g ≠ row) : Bx w' g t cs := (hg.block g h.lt hne).trans h

/-- the reader in memory -/
structure Rd (w : World) (rb : Nat) (A : Option Addr) (n cap p : Nat) : Prop where
  box : Bx w rb 74 #[.slice A n cap, .int .i64 p]
  row : ByRow w A n
  small : n ≤ 2000
  sep : 0 < n → ∀ x, A = some x → x.block < rb

theorem ByRow.grown {w w' : World} {A : Option Addr} {n rb : Nat} (h : ByRow w A n) (hs : 0 < n → ∀ x, A = some x → x.block < rb) (hrb : rb < w.heap.size) (hg : w.grownBy w' (some rb)) : ByRow w' A n := fun hn => by
  obtain ⟨x, rfl, hc⟩ := h hn
  have hx := hs hn x rfl
  refine ⟨x, rfl, fun i hi => ?_⟩
  obtain ⟨b, hb, hcell⟩ := hc i hi
  refine ⟨b, hb, ?_⟩
  rw [← hcell]
  have hbl : (x.add i).block = x.block := by unfold Addr.add; split <;> rfl
  exact World.cell?_of_block (by rw [hbl]; exact hg.block x.block (by omega) (by simp; omega))

theorem xor_nn (a b : Int) (ha0 : 0 ≤ a) (ha : a ≤ 1000000000000000) (hb0 : 0 ≤ b) (hb : b ≤ 1000000000000000) : 0 ≤ bits .xor .i64 a b := by
  obtain ⟨m, rfl⟩ : ∃ m : Nat, a = m := ⟨a.toNat, by omega⟩
  obtain ⟨k, rfl⟩ : ∃ k : Nat, b = k := ⟨b.toNat, by omega⟩
  have hx : m ^^^ k < 2 ^ 62 := Nat.xor_lt_two_pow (by omega) (by omega)
  have h1 : (BitVec.ofInt 64 (m : Int)).toNat = m := by
    rw [BitVec.ofInt_natCast, BitVec.toNat_ofNat]; exact Nat.mod_eq_of_lt (by omega)
  have h2 : (BitVec.ofInt 64 (k : Int)).toNat = k := by
    rw [BitVec.ofInt_natCast, BitVec.toNat_ofNat]; exact Nat.mod_eq_of_lt (by omega)
  show 0 ≤ IntKind.i64.wrap ((BitVec.ofInt 64 (m : Int) ^^^ BitVec.ofInt 64 (k : Int)).toNat : Int)
  rw [BitVec.toNat_xor, h1, h2, IntWalk.i64_in _ (by omega)]
  omega

/-- what a drawn number is -/
def PickP (k : Int) (e : Ending) : Prop := ∃ m : Int, e = .returned (.int .i64 m) ∧ 0 ≤ m ∧ (1 ≤ k → m < k) ∧ (k < 1 → m = 0)

theorem Rd.next {w : World} {rb : Nat} {A : Option Addr} {n cap p : Nat} (h : Rd w rb A n cap p) (p' : Nat) (j : Nat) : Rd ((w.setCell ⟨rb, 1, none⟩ (.int .i64 (p' : Nat))).drewN j) rb A n cap p' ∧ w.grownBy ((w.setCell ⟨rb, 1, none⟩ (.int .i64 (p' : Nat))).drewN j) (some rb) := by
  have hg : w.grownBy ((w.setCell ⟨rb, 1, none⟩ (.int .i64 (p' : Nat))).drewN j) (some rb) := ⟨rfl, rfl, rfl, by simp, fun k _ hk => Below.heap_setCell w ⟨rb, 1, none⟩ _ k (fun e => hk (by rw [e]))⟩
  refine ⟨⟨?_, h.row.grown h.sep h.box.lt hg, h.small, h.sep⟩, hg⟩
  have h2 : Bx (w.setCell ⟨rb, 1, none⟩ (.int .i64 (p' : Nat))) rb 74 #[.slice A n cap, .int .i64 (p' : Nat)] := by
    have := h.box.set 1 (.int .i64 (p' : Nat))
    simpa using this
  exact h2.drewN j

set_option maxHeartbeats 4000000 in
set_option maxRecDepth 100000 in
theorem pick_calls (rb : Nat) (A : Option Addr) (n cap p : Nat) (k : Int) (w : World) (h : Rd w rb A n cap p) (hp : p ≤ 1099511627776) (hk : k ≤ 1099511627776) :
    Calls Tryd.prog 24 #[.pointer (some ⟨rb, 0, none⟩), .int .i64 k] w fun e w' => PickP k e ∧ Rd w' rb A n cap (p + 1) ∧ w.grownBy w' (some rb) := by
  have c0 := h.box.cell 0
  have c1 := h.box.cell 1
  have f1 := h.box.free 1
  simp at c0 c1
  have hn := h.small
  obtain ⟨V, hV⟩ : ∃ V, V = w.setCell ⟨rb, 1, none⟩ (.int .i64 ((p : Int) + 1)) := ⟨_, rfl⟩
  have hnx : ∀ j, Rd (V.drewN j) rb A n cap (p + 1) ∧ w.grownBy (V.drewN j) (some rb) := fun j => by
    have h2 := h.next (p + 1) j
    rw [show (((p + 1 : Nat)) : Int) = (p : Int) + 1 from by omega] at h2
    rw [hV]; exact h2
  have hrd : Rd V rb A n cap (p + 1) := (hnx 0).1
  have d0 := hrd.box.cell 0
  have d1 := hrd.box.cell 1
  simp at d0 d1
  have Hnx := Lib.hid hnx
  have Hrow := Lib.hid hrd.row
  have HV := Lib.hid hV
  have hp0 : (0 : Int) ≤ (p : Int) := by omega
  have hp1 : (p : Int) ≤ 1099511627776 := by omega
  have hn3 : (n : Int) ≤ 2000 := by omega
  have hn4 : (0 : Int) ≤ (n : Int) := by omega
  clear h hV hnx hrd
  go_enter Tryd.func24, Tryd.ntmps24
  go_upto_region 2 with (fail)
  rw [← HV.out]
  clear c0 c1 f1 HV
  by_cases hk1 : k < 1
  · have hP : ∀ m : Int, m = 0 → PickP k (.returned (.int .i64 m)) := fun m hm => ⟨m, rfl, by omega, fun h => by omega, fun _ => hm⟩
    have HP := Lib.hid hP
    clear hP
    go_wp2_with fail
    go_ret
    exact ⟨HP.out 0 rfl, Hnx.out 0⟩
  · have hP : ∀ m : Int, 0 ≤ m → m < k → PickP k (.returned (.int .i64 m)) := fun m h0 h1 => ⟨m, rfl, h0, fun _ => h1, fun h => by omega⟩
    have HP := Lib.hid hP
    have hk0 : 1 ≤ k := by omega
    clear hP
    by_cases hn0 : n = 0
    · subst hn0
      go_wp2_with fail
      go_ret
      exact ⟨HP.out 0 (by omega) (by omega), Hnx.out 0⟩
    · have hn1 : (0 : Int) < (n : Int) := by omega
      have hn2 : ((n : Int) == 0) = false := by simp; omega
      have hn5 : ¬ (n : Int) = 0 := by omega
      by_cases hpn : p < n
      · have hpi : (p : Int) < (n : Int) := by omega
        obtain ⟨x, rfl, hc⟩ := Hrow.out (by omega)
        obtain ⟨b, hb, hcb⟩ := hc p hpn
        have hb1 : (b : Int) < 256 := by omega
        have hb0 : (0 : Int) ≤ (b : Int) := by omega
        clear hc
        go_wp2_with fail
        go_ret
        exact ⟨HP.out _ (Int.emod_nonneg _ (by omega)) (Int.emod_lt_of_pos _ (by omega)), Hnx.out 0⟩
      · have hpi : ¬ (p : Int) < (n : Int) := by omega
        have hj1 : p % n < n := Nat.mod_lt _ (by omega)
        have hj2 : (p * 7 + 3) % n < n := Nat.mod_lt _ (by omega)
        obtain ⟨x, rfl, hc⟩ := Hrow.out (by omega)
        obtain ⟨b1, hb1, hcb1⟩ := hc _ hj1
        obtain ⟨b2, hb2, hcb2⟩ := hc _ hj2
        have hq0 : p / n ≤ p := Nat.div_le_self _ _
        obtain ⟨q, hq⟩ : ∃ q, q = p / n := ⟨_, rfl⟩
        obtain ⟨i1, hi1⟩ : ∃ i1, i1 = p % n := ⟨_, rfl⟩
        obtain ⟨i2, hi2⟩ : ∃ i2, i2 = (p * 7 + 3) % n := ⟨_, rfl⟩
        rw [← hq] at hq0
        rw [← hi1] at hj1 hcb1
        rw [← hi2] at hj2 hcb2
        have Hq := Lib.hid (show IntKind.i64.wrap ((p : Int) / n) = ((q : Nat) : Int) from by rw [show ((p : Int) / n) = ((q : Nat) : Int) by rw [hq]; rfl]; exact IntWalk.i64_in _ (by omega))
        have Hi1 := Lib.hid (show (p : Int) % n = ((i1 : Nat) : Int) from by rw [hi1]; rfl)
        have Hi2 := Lib.hid (show ((p : Int) * 7 + 3) % n = ((i2 : Nat) : Int) from by rw [hi2]; rfl)
        have z1 : (0 : Int) ≤ (i1 : Int) := by omega
        have z2 : (i1 : Int) < (n : Int) := by omega
        have z3 : (0 : Int) ≤ (i2 : Int) := by omega
        have z4 : (i2 : Int) < (n : Int) := by omega
        have y1 : (0 : Int) ≤ (b1 : Int) := by omega
        have y2 : (b1 : Int) < 256 := by omega
        have y3 : (0 : Int) ≤ (b2 : Int) := by omega
        have y4 : (b2 : Int) < 256 := by omega
        have y5 : (0 : Int) ≤ (q : Int) := by omega
        have y6 : (q : Int) ≤ 1099511627776 := by omega
        clear hc hq hi1 hi2
        go_upto_region 7 with (fail)
        refine region_sched [(0, true), (1, true), (2, true), (3, true), (4, true), (5, true), (6, true), (7, true), (8, true), (9, true), (10, true), (11, true), (12, true), (13, true), (14, true), (15, true), (16, true), (17, true), (18, true), (19, true), (20, true), (21, true), (22, true), (23, true), (24, true), (25, true), (26, true), (27, true), (28, true), (29, true), (30, true), (31, true), (32, true), (33, true), (34, true), (35, true), (36, true), (37, true), (38, true), (39, true), (40, true), (41, true), (42, true), (43, true), (44, true), (45, true)] (fun w' : World => w'.cell? ⟨rb, 0, none⟩ = some (.slice (some x) n cap) ∧ w'.cell? (x.add i1) = some (.int .u8 b1) ∧ w'.cell? (x.add i2) = some (.int .u8 b2)) (by kernel_rfl) (by kernel_rfl) (by kernel_rfl) (by kernel_rfl) (fun _ _ _ _ h => h) ?_ (fun Q1 hQ1 => ?_)
        · exact ⟨d0, hcb1, hcb2⟩
        try simp only [List.append]
        refine sched_take' (v := ?_) (a' := ?_) rfl (by kernel_rfl) ?_ rfl ?_ ?_
        rotate_left 2
        · intro w hSw
          (try dsimp only at hSw)
          go_simp
          try with_reducible rfl
        · (try simp only [Act.put, List.setIfInBounds_toArray, List.set_cons_zero, List.set_cons_succ])
          try rfl
        refine sched_take' (v := ?_) (a' := ?_) rfl (by kernel_rfl) ?_ rfl ?_ ?_
        rotate_left 2
        · intro w hSw
          (try dsimp only at hSw)
          go_simp
          try with_reducible rfl
        · (try simp only [Act.put, List.setIfInBounds_toArray, List.set_cons_zero, List.set_cons_succ])
          try rfl
        refine sched_take' (v := ?_) (a' := ?_) rfl (by kernel_rfl) ?_ rfl ?_ ?_
        rotate_left 2
        · intro w hSw
          (try dsimp only at hSw)
          go_simp
          try with_reducible rfl
        · (try simp only [Act.put, List.setIfInBounds_toArray, List.set_cons_zero, List.set_cons_succ])
          try rfl
        refine sched_take' (v := ?_) (a' := ?_) rfl (by kernel_rfl) ?_ rfl ?_ ?_
        rotate_left 2
        · intro w hSw
          (try dsimp only at hSw)
          go_simp
          try with_reducible rfl
        · (try simp only [Act.put, List.setIfInBounds_toArray, List.set_cons_zero, List.set_cons_succ])
          try rfl
        refine sched_take' (v := ?_) (a' := ?_) rfl (by kernel_rfl) ?_ rfl ?_ ?_
        rotate_left 2
        · intro w hSw
          (try dsimp only at hSw)
          go_simp
          try with_reducible rfl
        · (try simp only [Act.put, List.setIfInBounds_toArray, List.set_cons_zero, List.set_cons_succ])
          try rfl
        refine sched_take' (v := ?_) (a' := ?_) rfl (by kernel_rfl) ?_ rfl ?_ ?_
        rotate_left 2
        · intro w hSw
          (try dsimp only at hSw)
          go_simp
          try with_reducible rfl
        · (try simp only [Act.put, List.setIfInBounds_toArray, List.set_cons_zero, List.set_cons_succ])
          try rfl
        refine sched_take' (v := ?_) (a' := ?_) rfl (by kernel_rfl) ?_ rfl ?_ ?_
        rotate_left 2
        · intro w hSw
          (try dsimp only at hSw)
          go_simp
          try with_reducible rfl
        · (try simp only [Act.put, List.setIfInBounds_toArray, List.set_cons_zero, List.set_cons_succ])
          try rfl
        refine sched_take' (v := ?_) (a' := ?_) rfl (by kernel_rfl) ?_ rfl ?_ ?_
        rotate_left 2
        · intro w hSw
          (try dsimp only at hSw)
          go_simp
          try with_reducible rfl
        · (try simp only [Act.put, List.setIfInBounds_toArray, List.set_cons_zero, List.set_cons_succ])
          try rfl
        refine sched_take' (v := ?_) (a' := ?_) rfl (by kernel_rfl) ?_ rfl ?_ ?_
        rotate_left 2
        · intro w hSw
          (try dsimp only at hSw)
          go_simp
          try with_reducible rfl
        · (try simp only [Act.put, List.setIfInBounds_toArray, List.set_cons_zero, List.set_cons_succ])
          try rfl
        refine sched_take' (v := ?_) (a' := ?_) rfl (by kernel_rfl) ?_ rfl ?_ ?_
        rotate_left 2
        · intro w hSw
          (try dsimp only at hSw)
          go_simp
          try with_reducible rfl
        · (try simp only [Act.put, List.setIfInBounds_toArray, List.set_cons_zero, List.set_cons_succ])
          try rfl
        refine sched_take' (v := .int .i64 (i1 : Int)) (a' := ?_) rfl (by kernel_rfl) ?_ rfl ?_ ?_
        rotate_left 1
        · intro w hSw
          (try dsimp only at hSw)
          go_simp
          first | done | exact Hi1.out | (simp only [Hi1.out]; done)
        · (try simp only [Act.put, List.setIfInBounds_toArray, List.set_cons_zero, List.set_cons_succ])
          try rfl
        refine sched_take' (v := ?_) (a' := ?_) rfl (by kernel_rfl) ?_ rfl ?_ ?_
        rotate_left 2
        · intro w hSw
          (try dsimp only at hSw)
          go_simp
          try with_reducible rfl
        · (try simp only [Act.put, List.setIfInBounds_toArray, List.set_cons_zero, List.set_cons_succ])
          try rfl
        refine sched_take' (v := ?_) (a' := ?_) rfl (by kernel_rfl) ?_ rfl ?_ ?_
        rotate_left 2
        · intro w hSw
          (try dsimp only at hSw)
          go_simp
          try with_reducible rfl
        · (try simp only [Act.put, List.setIfInBounds_toArray, List.set_cons_zero, List.set_cons_succ])
          try rfl
        refine sched_take' (v := .int .i64 (b1 : Int)) (a' := ?_) rfl (by kernel_rfl) ?_ rfl ?_ ?_
        rotate_left 1
        · intro w hSw
          (try dsimp only at hSw)
          go_simp
          first | done | exact IntWalk.i64_in _ (by omega) | (rw [IntWalk.i64_in _ (by omega)]; done) | (simp; omega)
        · (try simp only [Act.put, List.setIfInBounds_toArray, List.set_cons_zero, List.set_cons_succ])
          try rfl
        refine sched_take' (v := .int .i64 ((b1 : Int) * 131)) (a' := ?_) rfl (by kernel_rfl) ?_ rfl ?_ ?_
        rotate_left 1
        · intro w hSw
          (try dsimp only at hSw)
          go_simp
          first | done | exact IntWalk.i64_in _ (by omega) | (rw [IntWalk.i64_in _ (by omega)]; done) | (simp; omega)
        · (try simp only [Act.put, List.setIfInBounds_toArray, List.set_cons_zero, List.set_cons_succ])
          try rfl
        refine sched_take' (v := ?_) (a' := ?_) rfl (by kernel_rfl) ?_ rfl ?_ ?_
        rotate_left 2
        · intro w hSw
          (try dsimp only at hSw)
          go_simp
          try with_reducible rfl
        · (try simp only [Act.put, List.setIfInBounds_toArray, List.set_cons_zero, List.set_cons_succ])
          try rfl
        refine sched_take' (v := ?_) (a' := ?_) rfl (by kernel_rfl) ?_ rfl ?_ ?_
        rotate_left 2
        · intro w hSw
          (try dsimp only at hSw)
          go_simp
          try with_reducible rfl
        · (try simp only [Act.put, List.setIfInBounds_toArray, List.set_cons_zero, List.set_cons_succ])
          try rfl
        refine sched_take' (v := ?_) (a' := ?_) rfl (by kernel_rfl) ?_ rfl ?_ ?_
        rotate_left 2
        · intro w hSw
          (try dsimp only at hSw)
          go_simp
          try with_reducible rfl
        · (try simp only [Act.put, List.setIfInBounds_toArray, List.set_cons_zero, List.set_cons_succ])
          try rfl
        refine sched_take' (v := ?_) (a' := ?_) rfl (by kernel_rfl) ?_ rfl ?_ ?_
        rotate_left 2
        · intro w hSw
          (try dsimp only at hSw)
          go_simp
          try with_reducible rfl
        · (try simp only [Act.put, List.setIfInBounds_toArray, List.set_cons_zero, List.set_cons_succ])
          try rfl
        refine sched_take' (v := ?_) (a' := ?_) rfl (by kernel_rfl) ?_ rfl ?_ ?_
        rotate_left 2
        · intro w hSw
          (try dsimp only at hSw)
          go_simp
          try with_reducible rfl
        · (try simp only [Act.put, List.setIfInBounds_toArray, List.set_cons_zero, List.set_cons_succ])
          try rfl
        refine sched_take' (v := .int .i64 ((p : Int) * 7)) (a' := ?_) rfl (by kernel_rfl) ?_ rfl ?_ ?_
        rotate_left 1
        · intro w hSw
          (try dsimp only at hSw)
          go_simp
          first | done | exact IntWalk.i64_in _ (by omega) | (rw [IntWalk.i64_in _ (by omega)]; done) | (simp; omega)
        · (try simp only [Act.put, List.setIfInBounds_toArray, List.set_cons_zero, List.set_cons_succ])
          try rfl
        refine sched_take' (v := .int .i64 ((p : Int) * 7 + 3)) (a' := ?_) rfl (by kernel_rfl) ?_ rfl ?_ ?_
        rotate_left 1
        · intro w hSw
          (try dsimp only at hSw)
          go_simp
          first | done | exact IntWalk.i64_in _ (by omega) | (rw [IntWalk.i64_in _ (by omega)]; done) | (simp; omega)
        · (try simp only [Act.put, List.setIfInBounds_toArray, List.set_cons_zero, List.set_cons_succ])
          try rfl
        refine sched_take' (v := ?_) (a' := ?_) rfl (by kernel_rfl) ?_ rfl ?_ ?_
        rotate_left 2
        · intro w hSw
          (try dsimp only at hSw)
          go_simp
          try with_reducible rfl
        · (try simp only [Act.put, List.setIfInBounds_toArray, List.set_cons_zero, List.set_cons_succ])
          try rfl
        refine sched_take' (v := ?_) (a' := ?_) rfl (by kernel_rfl) ?_ rfl ?_ ?_
        rotate_left 2
        · intro w hSw
          (try dsimp only at hSw)
          go_simp
          try with_reducible rfl
        · (try simp only [Act.put, List.setIfInBounds_toArray, List.set_cons_zero, List.set_cons_succ])
          try rfl
        refine sched_take' (v := ?_) (a' := ?_) rfl (by kernel_rfl) ?_ rfl ?_ ?_
        rotate_left 2
        · intro w hSw
          (try dsimp only at hSw)
          go_simp
          try with_reducible rfl
        · (try simp only [Act.put, List.setIfInBounds_toArray, List.set_cons_zero, List.set_cons_succ])
          try rfl
        refine sched_take' (v := ?_) (a' := ?_) rfl (by kernel_rfl) ?_ rfl ?_ ?_
        rotate_left 2
        · intro w hSw
          (try dsimp only at hSw)
          go_simp
          try with_reducible rfl
        · (try simp only [Act.put, List.setIfInBounds_toArray, List.set_cons_zero, List.set_cons_succ])
          try rfl
        refine sched_take' (v := ?_) (a' := ?_) rfl (by kernel_rfl) ?_ rfl ?_ ?_
        rotate_left 2
        · intro w hSw
          (try dsimp only at hSw)
          go_simp
          try with_reducible rfl
        · (try simp only [Act.put, List.setIfInBounds_toArray, List.set_cons_zero, List.set_cons_succ])
          try rfl
        refine sched_take' (v := .int .i64 (i2 : Int)) (a' := ?_) rfl (by kernel_rfl) ?_ rfl ?_ ?_
        rotate_left 1
        · intro w hSw
          (try dsimp only at hSw)
          go_simp
          first | done | exact Hi2.out | (simp only [Hi2.out]; done)
        · (try simp only [Act.put, List.setIfInBounds_toArray, List.set_cons_zero, List.set_cons_succ])
          try rfl
        refine sched_take' (v := ?_) (a' := ?_) rfl (by kernel_rfl) ?_ rfl ?_ ?_
        rotate_left 2
        · intro w hSw
          (try dsimp only at hSw)
          go_simp
          try with_reducible rfl
        · (try simp only [Act.put, List.setIfInBounds_toArray, List.set_cons_zero, List.set_cons_succ])
          try rfl
        refine sched_take' (v := ?_) (a' := ?_) rfl (by kernel_rfl) ?_ rfl ?_ ?_
        rotate_left 2
        · intro w hSw
          (try dsimp only at hSw)
          go_simp
          try with_reducible rfl
        · (try simp only [Act.put, List.setIfInBounds_toArray, List.set_cons_zero, List.set_cons_succ])
          try rfl
        refine sched_take' (v := .int .i64 (b2 : Int)) (a' := ?_) rfl (by kernel_rfl) ?_ rfl ?_ ?_
        rotate_left 1
        · intro w hSw
          (try dsimp only at hSw)
          go_simp
          first | done | exact IntWalk.i64_in _ (by omega) | (rw [IntWalk.i64_in _ (by omega)]; done) | (simp; omega)
        · (try simp only [Act.put, List.setIfInBounds_toArray, List.set_cons_zero, List.set_cons_succ])
          try rfl
        refine sched_take' (v := .int .i64 ((b2 : Int) * 1117)) (a' := ?_) rfl (by kernel_rfl) ?_ rfl ?_ ?_
        rotate_left 1
        · intro w hSw
          (try dsimp only at hSw)
          go_simp
          first | done | exact IntWalk.i64_in _ (by omega) | (rw [IntWalk.i64_in _ (by omega)]; done) | (simp; omega)
        · (try simp only [Act.put, List.setIfInBounds_toArray, List.set_cons_zero, List.set_cons_succ])
          try rfl
        refine sched_take' (v := .int .i64 ((b1 : Int) * 131 + (b2 : Int) * 1117)) (a' := ?_) rfl (by kernel_rfl) ?_ rfl ?_ ?_
        rotate_left 1
        · intro w hSw
          (try dsimp only at hSw)
          go_simp
          first | done | exact IntWalk.i64_in _ (by omega) | (rw [IntWalk.i64_in _ (by omega)]; done) | (simp; omega)
        · (try simp only [Act.put, List.setIfInBounds_toArray, List.set_cons_zero, List.set_cons_succ])
          try rfl
        refine sched_take' (v := ?_) (a' := ?_) rfl (by kernel_rfl) ?_ rfl ?_ ?_
        rotate_left 2
        · intro w hSw
          (try dsimp only at hSw)
          go_simp
          try with_reducible rfl
        · (try simp only [Act.put, List.setIfInBounds_toArray, List.set_cons_zero, List.set_cons_succ])
          try rfl
        refine sched_take' (v := .int .i64 ((p : Int) * 29)) (a' := ?_) rfl (by kernel_rfl) ?_ rfl ?_ ?_
        rotate_left 1
        · intro w hSw
          (try dsimp only at hSw)
          go_simp
          first | done | exact IntWalk.i64_in _ (by omega) | (rw [IntWalk.i64_in _ (by omega)]; done) | (simp; omega)
        · (try simp only [Act.put, List.setIfInBounds_toArray, List.set_cons_zero, List.set_cons_succ])
          try rfl
        refine sched_take' (v := .int .i64 ((b1 : Int) * 131 + (b2 : Int) * 1117 + (p : Int) * 29)) (a' := ?_) rfl (by kernel_rfl) ?_ rfl ?_ ?_
        rotate_left 1
        · intro w hSw
          (try dsimp only at hSw)
          go_simp
          first | done | exact IntWalk.i64_in _ (by omega) | (rw [IntWalk.i64_in _ (by omega)]; done) | (simp; omega)
        · (try simp only [Act.put, List.setIfInBounds_toArray, List.set_cons_zero, List.set_cons_succ])
          try rfl
        refine sched_take' (v := ?_) (a' := ?_) rfl (by kernel_rfl) ?_ rfl ?_ ?_
        rotate_left 2
        · intro w hSw
          (try dsimp only at hSw)
          go_simp
          try with_reducible rfl
        · (try simp only [Act.put, List.setIfInBounds_toArray, List.set_cons_zero, List.set_cons_succ])
          try rfl
        refine sched_take' (v := ?_) (a' := ?_) rfl (by kernel_rfl) ?_ rfl ?_ ?_
        rotate_left 2
        · intro w hSw
          (try dsimp only at hSw)
          go_simp
          try with_reducible rfl
        · (try simp only [Act.put, List.setIfInBounds_toArray, List.set_cons_zero, List.set_cons_succ])
          try rfl
        refine sched_take' (v := ?_) (a' := ?_) rfl (by kernel_rfl) ?_ rfl ?_ ?_
        rotate_left 2
        · intro w hSw
          (try dsimp only at hSw)
          go_simp
          try with_reducible rfl
        · (try simp only [Act.put, List.setIfInBounds_toArray, List.set_cons_zero, List.set_cons_succ])
          try rfl
        refine sched_take' (v := ?_) (a' := ?_) rfl (by kernel_rfl) ?_ rfl ?_ ?_
        rotate_left 2
        · intro w hSw
          (try dsimp only at hSw)
          go_simp
          try with_reducible rfl
        · (try simp only [Act.put, List.setIfInBounds_toArray, List.set_cons_zero, List.set_cons_succ])
          try rfl
        refine sched_take' (v := ?_) (a' := ?_) rfl (by kernel_rfl) ?_ rfl ?_ ?_
        rotate_left 2
        · intro w hSw
          (try dsimp only at hSw)
          go_simp
          try with_reducible rfl
        · (try simp only [Act.put, List.setIfInBounds_toArray, List.set_cons_zero, List.set_cons_succ])
          try rfl
        refine sched_take' (v := ?_) (a' := ?_) rfl (by kernel_rfl) ?_ rfl ?_ ?_
        rotate_left 2
        · intro w hSw
          (try dsimp only at hSw)
          go_simp
          try with_reducible rfl
        · (try simp only [Act.put, List.setIfInBounds_toArray, List.set_cons_zero, List.set_cons_succ])
          try rfl
        refine sched_take' (v := .int .i64 (q : Int)) (a' := ?_) rfl (by kernel_rfl) ?_ rfl ?_ ?_
        rotate_left 1
        · intro w hSw
          (try dsimp only at hSw)
          go_simp
          first | done | exact Hq.out | (simp only [Hq.out]; done)
        · (try simp only [Act.put, List.setIfInBounds_toArray, List.set_cons_zero, List.set_cons_succ])
          try rfl
        refine sched_take' (v := .int .i64 ((q : Int) * 53)) (a' := ?_) rfl (by kernel_rfl) ?_ rfl ?_ ?_
        rotate_left 1
        · intro w hSw
          (try dsimp only at hSw)
          go_simp
          first | done | exact IntWalk.i64_in _ (by omega) | (rw [IntWalk.i64_in _ (by omega)]; done) | (simp; omega)
        · (try simp only [Act.put, List.setIfInBounds_toArray, List.set_cons_zero, List.set_cons_succ])
          try rfl
        refine sched_take' (v := .int .i64 ((b1 : Int) * 131 + (b2 : Int) * 1117 + (p : Int) * 29 + (q : Int) * 53)) (a' := ?_) rfl (by kernel_rfl) ?_ rfl ?_ ?_
        rotate_left 1
        · intro w hSw
          (try dsimp only at hSw)
          go_simp
          first | done | exact IntWalk.i64_in _ (by omega) | (rw [IntWalk.i64_in _ (by omega)]; done) | (simp; omega)
        · (try simp only [Act.put, List.setIfInBounds_toArray, List.set_cons_zero, List.set_cons_succ])
          try rfl
        refine sched_take' (v := ?_) (a' := ?_) rfl (by kernel_rfl) ?_ rfl ?_ ?_
        rotate_left 2
        · intro w hSw
          (try dsimp only at hSw)
          go_simp
          try with_reducible rfl
        · (try simp only [Act.put, List.setIfInBounds_toArray, List.set_cons_zero, List.set_cons_succ])
          try rfl
        refine sched_done (hQ1.out _ _ ?_)
        clear hcb1 hcb2
        obtain ⟨X, hX⟩ : ∃ X : Int, X = (b1 : Int) * 131 + (b2 : Int) * 1117 + (p : Int) * 29 + (q : Int) * 53 := ⟨_, rfl⟩
        have hX0 : 0 ≤ X := by omega
        have hX1 : X ≤ 1000000000000000 := by omega
        rw [← hX]
        clear hX y1 y2 y3 y4 y5 y6 z1 z2 z3 z4 hb1 hb2 hq0 hj1 hj2
        go_wp2_with fail
        go_ret
        have hb := xor_nn X (X / 64) hX0 hX1 (by omega) (by omega)
        exact ⟨HP.out _ (Int.tmod_nonneg _ hb) (Int.tmod_lt_of_pos _ (by omega)), Hnx.out 1⟩

end Go.Proofs.YtpaleogkgfclnaaDoor

namespace Go.Proofs.YtpaleogkgfclnaaDoor
open Go.RowKit
open Pl
set_option linter.unusedSimpArgs false
set_option linter.unusedVariables false

/-- texts that lie in a block -/
def SCells (w : World) (g : Nat) (ss : List ByteArray) : Prop := ∀ i, i < ss.length → w.cell? ⟨g, i, none⟩ = some (.string (ss.getD i ⟨#[]⟩))
def NCells (w : World) (g : Nat) (zs : List Int) : Prop := ∀ i, i < zs.length → w.cell? ⟨g, i, none⟩ = some (.int .i64 (zs.getD i 0))

theorem grown_cell {w w' : World} {rb g i : Nat} {v : Value} (hg : w.grownBy w' (some rb)) (hne : g ≠ rb) (h : w.cell? ⟨g, i, none⟩ = some v) : w'.cell? ⟨g, i, none⟩ = some v := by
  rw [← h]
  exact World.cell?_of_block (hg.block g (World.block_lt_of_cell? w _ h) (by simp; exact hne))

set_option maxHeartbeats 1000000 in
theorem num_calls (rb : Nat) (A : Option Addr) (n cap p g c : Nat) (zs : List Int) (w : World) (h : Rd w rb A n cap p) (hp : p ≤ 1099511627776) (hz : 0 < zs.length) (hz2 : zs.length ≤ 1000) (hL : NCells w g zs) (hg : g ≠ rb) :
    Calls Tryd.prog 79 #[.pointer (some ⟨rb, 0, none⟩), .slice (some ⟨g, 0, none⟩) zs.length c] w fun e w' => (∃ m : Int, e = .returned (.int .i64 m) ∧ m ∈ zs) ∧ Rd w' rb A n cap (p + 1) ∧ w.grownBy w' (some rb) := by
  have hpk := pick_calls rb A n cap p (zs.length : Nat) w h hp (by omega)
  have Hpk := Lib.hid hpk
  have HL := Lib.hid hL
  clear hpk hL h
  go_enter Tryd.func79, Tryd.ntmps79
  go_wp2_with fail
  refine (Hpk.out).mono ?_
  rintro e w1 ⟨⟨m, rfl, hm0, hm1, _⟩, hr, hg1⟩
  have hmm := hm1 (by omega)
  obtain ⟨k, rfl⟩ : ∃ k : Nat, m = k := ⟨m.toNat, by omega⟩
  have hk : k < zs.length := by omega
  have hc := grown_cell hg1 hg (HL.out k hk)
  have Hr := Lib.hid hr
  have Hg1 := Lib.hid hg1
  have hmem := getD_mem hk
  have Hmem := Lib.hid hmem
  clear hr hg1 hm1 hmem
  go_wp2_with fail
  go_ret
  exact ⟨⟨_, rfl, List.getElem_mem hk⟩, Hr.out, Hg1.out⟩

set_option maxHeartbeats 1000000 in
theorem of_calls (rb : Nat) (A : Option Addr) (n cap p g c : Nat) (ss : List ByteArray) (w : World) (h : Rd w rb A n cap p) (hp : p ≤ 1099511627776) (hz : 0 < ss.length) (hz2 : ss.length ≤ 1000) (hL : SCells w g ss) (hg : g ≠ rb) :
    Calls Tryd.prog 27 #[.pointer (some ⟨rb, 0, none⟩), .slice (some ⟨g, 0, none⟩) ss.length c] w fun e w' => (∃ t : ByteArray, e = .returned (.string t) ∧ t ∈ ss) ∧ Rd w' rb A n cap (p + 1) ∧ w.grownBy w' (some rb) := by
  have hpk := pick_calls rb A n cap p (ss.length : Nat) w h hp (by omega)
  have Hpk := Lib.hid hpk
  have HL := Lib.hid hL
  clear hpk hL h
  go_enter Tryd.func27, Tryd.ntmps27
  go_wp2_with fail
  refine (Hpk.out).mono ?_
  rintro e w1 ⟨⟨m, rfl, hm0, hm1, _⟩, hr, hg1⟩
  have hmm := hm1 (by omega)
  obtain ⟨k, rfl⟩ : ∃ k : Nat, m = k := ⟨m.toNat, by omega⟩
  have hk : k < ss.length := by omega
  have hc := grown_cell hg1 hg (HL.out k hk)
  have hmem : ss.getD k ⟨#[]⟩ ∈ ss := by
    simp only [List.getD_eq_getElem?_getD, List.getElem?_eq_getElem hk, Option.getD_some]
    exact List.getElem_mem hk
  have Hr := Lib.hid hr
  have Hg1 := Lib.hid hg1
  have Hmem := Lib.hid hmem
  clear hr hg1 hm1 hmem
  go_wp2_with fail
  go_ret
  exact ⟨⟨_, rfl, List.getElem_mem hk⟩, Hr.out, Hg1.out⟩

/-- the reader, new -/
def OpenP (rb : Nat) (e : Ending) (w' : World) : Prop := ∃ (A' : Option Addr) (n' cap' : Nat), e = .returned (.pointer (some ⟨rb, 0, none⟩)) ∧ Rd w' rb A' n' cap' 0

set_option maxHeartbeats 1000000 in
theorem l15Open_calls (A : Option Addr) (n cap : Nat) (w : World) (h : ByRow w A n) (hn : n ≤ 1048576) (hc : n ≤ cap) (hm : cap ≤ maxLen) :
    Calls Tryd.prog 23 #[.slice A n cap] w fun e w' => OpenP w.heap.size e w' ∧ Below w.heap.size w w' := by
  have hrd : ∀ (m c : Nat), m ≤ 2000 → m ≤ n → Rd (w.alloc (.cells #[.slice A m c, .int .i64 0] 74)) w.heap.size A m c 0 := fun m c h1 h2 =>
    ⟨Bx.new w _ _, fun h0 => by
      obtain ⟨x, rfl, hcs⟩ := h (by omega)
      refine ⟨x, rfl, fun i hi => ?_⟩
      obtain ⟨b, hb, hcell⟩ := hcs i (by omega)
      exact ⟨b, hb, (((Below.refl w.heap.size w).alloc (Nat.le_refl _) _).cell (World.block_lt_of_cell? w _ hcell)).trans hcell⟩, h1, fun h0 x hx => by
      obtain ⟨y, hy, hcs⟩ := h (by omega)
      obtain rfl : y = x := Option.some.inj (hy.symm.trans hx)
      obtain ⟨b, _, hcell⟩ := hcs 0 (by omega)
      have hl := World.block_lt_of_cell? w _ hcell
      have hbl : (y.add 0).block = y.block := by unfold Addr.add; split <;> rfl
      rwa [hbl] at hl⟩
  have Hrd := Lib.hid hrd
  clear hrd h
  unfold maxLen at hm
  have i1 : (0 : Int) ≤ (n : Int) := by omega
  have i2 : (n : Int) ≤ (cap : Int) := by omega
  by_cases hl : 2000 < n
  · have h1 : (2000 : Int) < (n : Int) := by omega
    have h2 : (2000 : Int) ≤ (cap : Int) := by omega
    go_enter Tryd.func23, Tryd.ntmps23
    go_wp2_with fail
    go_ret
    exact ⟨⟨_, _, _, rfl, Hrd.out 2000 cap (by omega) (by omega)⟩, (Below.refl _ _).alloc (Nat.le_refl _) _⟩
  · have h1 : ¬ (2000 : Int) < (n : Int) := by omega
    go_enter Tryd.func23, Tryd.ntmps23
    go_wp2_with fail
    go_ret
    exact ⟨⟨_, _, _, rfl, Hrd.out n cap (by omega) (by omega)⟩, (Below.refl _ _).alloc (Nat.le_refl _) _⟩

end Go.Proofs.YtpaleogkgfclnaaDoor

namespace Go.Proofs.YtpaleogkgfclnaaDoor
open Go.RowKit
open Pl
set_option linter.unusedSimpArgs false
set_option linter.unusedVariables false

/-- a structure and whether there is one -/
def resV : Option St → Value
  | some a => .tuple #[stA a, .bool true]
  | none => .tuple #[stV 0 (bs []) (bs []), .bool false]

def turnO (i : Int) (s r : ByteArray) : Option St := if okB i s r then some (ofSt i s r).turn else none

theorem box_load {w : World} {g : Nat} {a b c : Value} {t : TypeId} (h : Bx w g t #[a, b, c]) : w.cell? ⟨g, 0, none⟩ = some a ∧ w.cell? ⟨g, 1, none⟩ = some b ∧ w.cell? ⟨g, 2, none⟩ = some c :=
  ⟨h.cell 0, h.cell 1, h.cell 2⟩

/-- the bits of a structure that is made, as lists -/
theorem mkSt_set (n : Nat) (f : Nat → Bool) (g : Nat → Nat → Bool) : (mkSt n f g).set = setTo f n := rfl
theorem mkSt_rel (n : Nat) (f : Nat → Bool) (g : Nat → Nat → Bool) : (mkSt n f g).rel = relTo n g n := rfl
theorem setTo_self {a : St} (ha : a.ok) : setTo a.inS a.n = a.set := by rw [← mkSt_set a.n a.inS a.inR, mkSt_self ha]

theorem enter_inSet : ∀ (args : Array Value) (w : World), (callFunc 71 args).run Tryd.prog w = .ok (.enter 71 args) w := enter_of Tryd.func71 (by kernel_rfl) (by kernel_rfl)

end Go.Proofs.YtpaleogkgfclnaaDoor

namespace Go.Proofs.YtpaleogkgfclnaaDoor
open Go.RowKit
open Pl
set_option linter.unusedSimpArgs false
set_option linter.unusedVariables false

theorem flip_snoc (s : ByteArray) (k : Nat) (h : k < s.size) : bs (flipL (s.data.toList.take k)) ++ bs [bitB (s[k] == 48)] = bs (flipL (s.data.toList.take (k + 1))) := by
  rw [append_bs, bs_data, bs_data]
  congr 1
  unfold flipL
  rw [List.take_succ_eq_append_getElem (by simpa using h), List.map_append]
  rfl

def byteS (b : UInt8) : Value := .int .u8 b.toNat

/-- a row of bytes that may be written -/
def BRow (w : World) (g : Nat) (l : List UInt8) : Prop := ∀ j, j < l.length → w.cell? ⟨g, j, none⟩ = some (byteS (l.getD j 0)) ∧ w.frozen? ⟨g, j, none⟩ = false

/-- the first k bytes turned -/
def flipTo (l : List UInt8) (k : Nat) : List UInt8 := flipL (l.take k) ++ l.drop k

theorem flipTo_len (l : List UInt8) (k : Nat) : (flipTo l k).length = l.length := by simp [flipTo, flipL]; omega
theorem flipTo_get (l : List UInt8) (k j : Nat) (h : j < l.length) : (flipTo l k).getD j 0 = if j < k then bitB (l[j] == 48) else l[j] := by
  unfold flipTo
  by_cases hj : j < k
  · rw [if_pos hj, List.getD_eq_getElem?_getD, List.getElem?_append_left (by simp [flipL]; omega)]
    simp [flipL, List.getElem?_take, hj, h]
  · rw [if_neg hj, List.getD_eq_getElem?_getD, List.getElem?_append_right (by simp [flipL]; omega)]
    have e : j - (flipL (l.take k)).length = j - k := by simp [flipL]; omega
    rw [e, List.getElem?_drop, show k + (j - k) = j by omega]
    simp [h]

theorem BRow.step {w : World} {g : Nat} {l : List UInt8} {k : Nat} (h : BRow w g (flipTo l k)) (hk : k < l.length) : BRow (w.setCell ⟨g, k, none⟩ (byteS (bitB (l[k] == 48)))) g (flipTo l (k + 1)) := by
  intro j hj
  rw [flipTo_len] at hj
  have h1 := h j (by rw [flipTo_len]; exact hj)
  refine ⟨?_, by rw [World.frozen?_setCell]; exact h1.2⟩
  rw [flipTo_get l (k + 1) j hj]
  by_cases e : j = k
  · subst e
    rw [if_pos (Nat.lt_succ_self _), World.cell?_setCell_same w _ _ h1.1]
  · rw [World.cell?_setCell_other w _ _ _ (by intro h2; injection h2 with _ h3; exact e h3.symm), h1.1, flipTo_get l k j hj]
    by_cases hjk : j < k
    · rw [if_pos hjk, if_pos (by omega)]
    · rw [if_neg hjk, if_neg (by omega)]

theorem bytes_pushS : ∀ (bytes : List UInt8) (s : ByteArray), (bytes.map fun b => (b.toNat : Int)).foldl (fun r n => r.push (UInt8.ofNat n.toNat)) s = bs (s.data.toList ++ bytes) := by
  intro bytes
  induction bytes with
  | nil => intro s; simp [bs_of]
  | cons b bytes ih =>
    intro s
    rw [List.map_cons, List.foldl_cons, ih]
    congr 1
    simp

theorem row_text {w : World} {g cap : Nat} {l : List UInt8} (h : BRow w g l) : (convert 22 9 (.slice (some ⟨g, 0, none⟩) l.length cap)).run Tryd.prog w = .ok (.string (bs l)) w := by
  rw [run_convert_bytes_string w _ _ 5 _ _ cap Tryd.underlying22 Tryd.underlying5 Tryd.underlying9]
  rw [run_bytesToString w ⟨g, 0, none⟩ l.length cap (l.map fun b => (b.toNat : Int))]
  · rw [bytes_pushS]; rfl
  · have hcells := run_loadCells (P := Tryd.prog) (w := w) ⟨g, 0, none⟩ l.length (fun j => byteS (l.getD j 0)) (fun j hj => by
      have e1 : (⟨g, 0, none⟩ : Addr).add j = ⟨g, j, none⟩ := by unfold Addr.add; split <;> simp_all
      rw [e1]; exact (h j hj).1)
    rw [hcells]
    congr 1
    apply Array.ext'
    simp only [List.map_map]
    apply List.ext_getElem?
    intro i
    by_cases hi : i < l.length
    · simp [List.getElem?_map, hi, byteS, List.getD]
    · simp [hi, List.getElem?_eq_none (show l.length ≤ i by omega)]

theorem bytesRow_get (s : ByteArray) (cap j : Nat) (h : j < s.size) : (bytesRow s cap)[j]? = some (byteS (s.data.toList.getD j 0)) := by
  unfold bytesRow
  have hl : j < s.data.size := h
  rw [Array.getElem?_append_left (by simpa using hl)]
  simp [byteS, List.getD, Array.getElem?_eq_getElem hl]

theorem bytesRow_size (s : ByteArray) (cap : Nat) : s.size ≤ (bytesRow s cap).size := by
  have h1 : s.size = s.data.size := rfl
  unfold bytesRow; rw [h1]; simp only [Array.size_append, Array.size_map]; omega

theorem flip_byte {b : UInt8} (h : IsBit b) : IntKind.u8.wrap (97 - (b.toNat : Int)) = ((bitB (b == 48)).toNat : Int) := by
  rcases h with rfl | rfl <;> decide

def otherO (i : Int) (s r : ByteArray) : Option St := if okB i s r then some (ofSt i s r).other else none
def fmtV (i : Int) (s r : ByteArray) : ByteArray := if okB i s r then s ++ ⟨#[58]⟩ ++ r else bs []

theorem other_eq {a : St} (ha : a.ok) : stV (a.n : Int) (bs (flipL (bs a.set).data.toList)) (bs (flipL (bs a.rel).data.toList)) = stA a.other := by
  show stV _ _ _ = stV _ _ _
  rw [bs_data, bs_data, other_set ha, other_rel ha]
  rfl

theorem st_small {a : St} (ha : a.ok) : (bs a.set).size ≤ 64 ∧ (bs a.rel).size ≤ 64 := by
  have h8 := ha.hi; have h1 := ha.sl; have h2 := ha.rl; have h3 := sq_le h8
  rw [bs_size, bs_size]
  constructor <;> omega

end Go.Proofs.YtpaleogkgfclnaaDoor
