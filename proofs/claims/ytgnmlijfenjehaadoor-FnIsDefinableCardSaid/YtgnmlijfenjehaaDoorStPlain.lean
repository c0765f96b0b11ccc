/-
  Plain facts, no program in sight: structures, their bits, and which orders of elements turn one into another. No condition.
-/
import Derived.KernelRfl
namespace Go.Proofs.YtgnmlijfenjehaaDoor
namespace Pl

/-- a structure -/
structure St where
  n : Nat
  set : List UInt8
  rel : List UInt8

def IsBit (b : UInt8) : Prop := b = 48 ∨ b = 49

structure St.ok (a : St) : Prop where
  lo : 1 ≤ a.n
  hi : a.n ≤ 8
  sl : a.set.length = a.n
  rl : a.rel.length = a.n * a.n
  sb : ∀ b ∈ a.set, IsBit b
  rb : ∀ b ∈ a.rel, IsBit b

/-- an element is in the set; two are related -/
def St.inS (a : St) (x : Nat) : Bool := a.set.getD x 0 == 49
def St.inR (a : St) (x y : Nat) : Bool := a.rel.getD (x * a.n + y) 0 == 49

def bitB (b : Bool) : UInt8 := if b then 49 else 48

theorem bitB_isBit (b : Bool) : IsBit (bitB b) := by cases b <;> simp [bitB, IsBit]
theorem bitB_49 (b : Bool) : (bitB b == 49) = b := by cases b <;> rfl
theorem bitB_of {b : UInt8} (h : IsBit b) : bitB (b == 49) = b := by rcases h with rfl | rfl <;> rfl
theorem bitB_inj {a b : Bool} (h : bitB a = bitB b) : a = b := by cases a <;> cases b <;> first | rfl | exact absurd h (by decide)

theorem sq_le {n : Nat} (h : n ≤ 8) : n * n ≤ 64 := Nat.mul_le_mul h h

theorem cell_lt {n x y : Nat} (hx : x < n) (hy : y < n) : x * n + y < n * n := by
  have h1 : (x + 1) * n ≤ n * n := Nat.mul_le_mul_right n hx
  rw [Nat.succ_mul] at h1
  omega

/-- the structure with some elements in the set, and some related -/
def mkSt (n : Nat) (f : Nat → Bool) (g : Nat → Nat → Bool) : St :=
  ⟨n, (List.range n).map fun x => bitB (f x), (List.range n).flatMap fun x => (List.range n).map fun y => bitB (g x y)⟩

theorem flat_get {m : Nat} (g : Nat → Nat → UInt8) : ∀ (k : Nat), ((List.range k).flatMap fun x => (List.range m).map fun y => g x y).length = k * m ∧
    ∀ x y, x < k → y < m → ((List.range k).flatMap fun x => (List.range m).map fun y => g x y)[x * m + y]? = some (g x y) := by
  intro k
  induction k with
  | zero => exact ⟨by simp, fun x y h => absurd h (Nat.not_lt_zero _)⟩
  | succ k ih =>
    obtain ⟨h1, h2⟩ := ih
    rw [List.range_succ, List.flatMap_append]
    refine ⟨by simp only [List.length_append, h1, List.flatMap_cons, List.flatMap_nil, List.append_nil, List.length_map, List.length_range, Nat.succ_mul], fun x y hx hy => ?_⟩
    by_cases hxk : x < k
    · have hlt : x * m + y < k * m := by
        have h3 : (x + 1) * m ≤ k * m := Nat.mul_le_mul_right m hxk
        rw [Nat.succ_mul] at h3
        omega
      rw [List.getElem?_append_left (by rw [h1]; exact hlt)]
      exact h2 x y hxk hy
    · obtain rfl : x = k := by omega
      rw [List.getElem?_append_right (by rw [h1]; omega), h1]
      have e : x * m + y - x * m = y := by omega
      rw [e]
      simp [hy]

theorem mkSt_n (n : Nat) (f : Nat → Bool) (g : Nat → Nat → Bool) : (mkSt n f g).n = n := rfl

theorem mkSt_inS {n : Nat} {f : Nat → Bool} {g : Nat → Nat → Bool} {x : Nat} (h : x < n) : (mkSt n f g).inS x = f x := by
  unfold St.inS mkSt
  simp only [List.getD_eq_getElem?_getD, List.getElem?_map, List.getElem?_range h, Option.map_some, Option.getD_some, bitB_49]

theorem mkSt_inR {n : Nat} {f : Nat → Bool} {g : Nat → Nat → Bool} {x y : Nat} (hx : x < n) (hy : y < n) : (mkSt n f g).inR x y = g x y := by
  have h := (flat_get (m := n) (fun x y => bitB (g x y)) n).2 x y hx hy
  unfold St.inR mkSt
  simp only [List.getD_eq_getElem?_getD, h, Option.getD_some, bitB_49]

theorem mkSt_ok {n : Nat} {f : Nat → Bool} {g : Nat → Nat → Bool} (h1 : 1 ≤ n) (h8 : n ≤ 8) : (mkSt n f g).ok where
  lo := h1
  hi := h8
  sl := by simp [mkSt]
  rl := (flat_get (m := n) (fun x y => bitB (g x y)) n).1
  sb := by
    intro b hb
    simp only [mkSt, List.mem_map] at hb
    obtain ⟨x, _, rfl⟩ := hb
    exact bitB_isBit _
  rb := by
    intro b hb
    simp only [mkSt, List.mem_flatMap, List.mem_map] at hb
    obtain ⟨x, _, y, _, rfl⟩ := hb
    exact bitB_isBit _

theorem St.ext' {a b : St} (ha : a.ok) (hb : b.ok) (hn : a.n = b.n) (hs : ∀ x, x < a.n → a.inS x = b.inS x) (hr : ∀ x y, x < a.n → y < a.n → a.inR x y = b.inR x y) : a = b := by
  have key : ∀ (l m : List UInt8), l.length = m.length → (∀ c ∈ l, IsBit c) → (∀ c ∈ m, IsBit c) → (∀ i, i < l.length → (l.getD i 0 == 49) = (m.getD i 0 == 49)) → l = m := by
    intro l m hl h1 h2 h
    apply List.ext_getElem hl
    intro i hi hi2
    have h3 := h i hi
    have e1 : l.getD i 0 = l[i] := by simp [List.getD, hi]
    have e2 : m.getD i 0 = m[i] := by simp [List.getD, hi2]
    rw [e1, e2] at h3
    rw [← bitB_of (h1 _ (List.getElem_mem hi)), ← bitB_of (h2 _ (List.getElem_mem hi2)), h3]
  obtain ⟨n, s, r⟩ := a
  obtain ⟨n', s', r'⟩ := b
  have hn' : n = n' := hn
  subst hn'
  have hsl : s.length = n := ha.sl
  have hrl : r.length = n * n := ha.rl
  have hlo : 1 ≤ n := ha.lo
  have e1 : s = s' := key s s' (ha.sl.trans hb.sl.symm) ha.sb hb.sb (fun i hi => hs i (show i < n by omega))
  have e2 : r = r' := key r r' (ha.rl.trans hb.rl.symm) ha.rb hb.rb (fun i hi => by
    have h4 : ((r.getD (i / n * n + i % n) 0) == 49) = ((r'.getD (i / n * n + i % n) 0) == 49) := hr (i / n) (i % n) (show i / n < n from Nat.div_lt_of_lt_mul (by omega)) (show i % n < n from Nat.mod_lt _ (by omega))
    have e : i / n * n + i % n = i := by rw [Nat.mul_comm]; exact Nat.div_add_mod i n
    rw [e] at h4
    exact h4)
  subst e1 e2
  rfl

theorem mkSt_self {a : St} (ha : a.ok) : mkSt a.n a.inS a.inR = a :=
  St.ext' (mkSt_ok ha.lo ha.hi) ha rfl (fun _ h => mkSt_inS h) (fun _ _ hx hy => mkSt_inR hx hy)

theorem inS_get {a : St} (ha : a.ok) {x : Nat} (hx : x < a.n) : ∃ h : x < a.set.length, a.set[x] = bitB (a.inS x) := by
  have hl : x < a.set.length := by rw [ha.sl]; exact hx
  refine ⟨hl, ?_⟩
  unfold St.inS
  have e1 : a.set.getD x 0 = a.set[x] := by simp [List.getD, hl]
  rw [e1, bitB_of (ha.sb _ (List.getElem_mem hl))]

theorem inR_get {a : St} (ha : a.ok) {x y : Nat} (hx : x < a.n) (hy : y < a.n) : ∃ h : x * a.n + y < a.rel.length, a.rel[x * a.n + y] = bitB (a.inR x y) := by
  have hl : x * a.n + y < a.rel.length := by rw [ha.rl]; exact cell_lt hx hy
  refine ⟨hl, ?_⟩
  unfold St.inR
  have e1 : a.rel.getD (x * a.n + y) 0 = a.rel[x * a.n + y] := by simp [List.getD, hl]
  rw [e1, bitB_of (ha.rb _ (List.getElem_mem hl))]

/-! ### the operations -/

def St.part (a : St) (l : List Nat) : St := mkSt l.length (fun x => a.inS (l.getD x 0)) (fun x y => a.inR (l.getD x 0) (l.getD y 0))
def St.other (a : St) : St := mkSt a.n (fun x => !a.inS x) (fun x y => !a.inR x y)
def St.turn (a : St) : St := mkSt a.n a.inS (fun x y => a.inR y x)

/-- the reference's l1Flip -/
def flipL (l : List UInt8) : List UInt8 := l.map fun b => bitB (b == 48)

theorem flip_bit {b : UInt8} (h : IsBit b) : bitB (b == 48) = bitB (!(b == 49)) := by rcases h with rfl | rfl <;> rfl

theorem other_set {a : St} (ha : a.ok) : a.other.set = flipL a.set := by
  unfold St.other mkSt flipL
  simp only
  apply List.ext_getElem (by simp [ha.sl])
  intro i h1 h2
  simp only [List.length_map, List.length_range] at h1
  obtain ⟨hl, e⟩ := inS_get ha h1
  simp only [List.getElem_map, List.getElem_range]
  rw [flip_bit (ha.sb _ (List.getElem_mem hl)), e, bitB_49]

theorem other_rel {a : St} (ha : a.ok) : a.other.rel = flipL a.rel := by
  have hok := mkSt_ok (f := fun x => !a.inS x) (g := fun x y => !a.inR x y) ha.lo ha.hi
  have hfl : (St.mk a.n (flipL a.set) (flipL a.rel)).ok := {
    lo := ha.lo, hi := ha.hi, sl := by simp [flipL, ha.sl], rl := by simp [flipL, ha.rl]
    sb := by intro b hb; simp only [flipL, List.mem_map] at hb; obtain ⟨x, _, rfl⟩ := hb; exact bitB_isBit _
    rb := by intro b hb; simp only [flipL, List.mem_map] at hb; obtain ⟨x, _, rfl⟩ := hb; exact bitB_isBit _ }
  have : mkSt a.n (fun x => !a.inS x) (fun x y => !a.inR x y) = St.mk a.n (flipL a.set) (flipL a.rel) := by
    refine St.ext' hok hfl rfl (fun x hx0 => ?_) (fun x y hx hy => ?_)
    · have hx : x < a.n := hx0
      rw [mkSt_inS hx]
      obtain ⟨hl, e⟩ := inS_get ha hx
      have e1 : (flipL a.set).getD x 0 = bitB (a.set[x] == 48) := by simp [flipL, List.getD, hl]
      show (!a.inS x) = ((flipL a.set).getD x 0 == 49)
      rw [e1, bitB_49, e]
      cases a.inS x <;> rfl
    · have hx' : x < a.n := hx
      have hy' : y < a.n := hy
      rw [mkSt_inR hx' hy']
      obtain ⟨hl, e⟩ := inR_get ha hx' hy'
      have e1 : (flipL a.rel).getD (x * a.n + y) 0 = bitB (a.rel[x * a.n + y] == 48) := by simp [flipL, List.getD, hl]
      show (!a.inR x y) = ((flipL a.rel).getD (x * a.n + y) 0 == 49)
      rw [e1, bitB_49, e]
      cases a.inR x y <;> rfl
  unfold St.other
  rw [this]

end Pl
end Go.Proofs.YtgnmlijfenjehaaDoor
