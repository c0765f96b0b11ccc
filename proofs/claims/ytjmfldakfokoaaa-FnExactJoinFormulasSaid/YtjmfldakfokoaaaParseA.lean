/-
  Helpers for the walk of the program's parsePart. No condition.
-/
import Derived.Test.YtjmfldakfokoaaaImplA
import Derived.Deep.RegionHeld
namespace Go.Proofs.Ytjmfldakfokoaaa
open Go.RowKit
open Pl

/-- what parsePart leaves -/
def PartPost (s : ByteArray) (w : World) (e : Ending) (w' : World) : Prop :=
  Below w.heap.size w w' ∧
  ((parse s.data.toList = none ∧ ∃ rest : ByteArray, e = .returned (.tuple #[.pointer none, .string rest])) ∨
   ∃ (f : Fm) (rest : ByteArray) (b : Nat), parse s.data.toList = some (f, rest.data.toList) ∧ TreeAt w.heap.size w' f b ∧
     e = .returned (.tuple #[kidV b, .string rest]))

/-- a byte that is a variable's, or not -/
theorem indexByte_abcd (b : UInt8) : decide (0 ≤ Lib.indexByte [97, 98, 99, 100] b) = (varOf b).isSome := by
  by_cases h0 : b = 97
  · subst h0; rfl
  by_cases h1 : b = 98
  · subst h1; rfl
  by_cases h2 : b = 99
  · subst h2; rfl
  by_cases h3 : b = 100
  · subst h3; rfl
  · have g0 : (97 == b) = false := by simpa using fun e => h0 e.symm
    have g1 : (98 == b) = false := by simpa using fun e => h1 e.symm
    have g2 : (99 == b) = false := by simpa using fun e => h2 e.symm
    have g3 : (100 == b) = false := by simpa using fun e => h3 e.symm
    simp [Lib.indexByte, g0, g1, g2, g3, varOf, h0, h1, h2, h3]

theorem isVar_calls (t : ByteArray) (b : UInt8) (r : Bool) (ht : t.data.toList = [b]) (hr : (varOf b).isSome = r) (w : World) :
    Calls Try.prog 64 #[.string ⟨#[97, 98, 99, 100]⟩, .string t] w fun e w' => e = .returned (.bool r) ∧ w = w' := by
  refine (Contains_one _ t b ht w).mono ?_
  rintro e w' ⟨rfl, rfl⟩
  exact ⟨ret_bool (by rw [← hr]; exact indexByte_abcd b), rfl⟩

/-- the bits of variables -/
def maskV (vs : List (Fin 4)) : Nat := vs.foldl (fun m v => m ||| 1 <<< v.val) 0

theorem maskV_snoc (vs : List (Fin 4)) (v : Fin 4) : maskV (vs ++ [v]) = maskV vs ||| 1 <<< v.val := by simp [maskV]

theorem maskV_lt (vs : List (Fin 4)) : maskV vs < 16 := by
  have h : ∀ (vs : List (Fin 4)) (m : Nat), m < 16 → vs.foldl (fun m v => m ||| 1 <<< v.val) m < 16 := by
    intro vs
    induction vs with
    | nil => intro m h; exact h
    | cons v vs ih =>
      intro m h
      refine ih _ (Nat.or_lt_two_pow (n := 4) h ?_)
      revert v; decide
  exact h vs 0 (by decide)

theorem cell_at {w : World} {b : Nat} {cs : Array Value} {t : TypeId} (h : w.heap[b]? = some (.cells cs t (0, 0))) (j : Nat) : w.cell? ⟨b, j, none⟩ = cs[j]? := cell_of_row w b j cs t _ h
theorem free_at {w : World} {b : Nat} {cs : Array Value} {t : TypeId} (h : w.heap[b]? = some (.cells cs t (0, 0))) (j : Nat) : w.frozen? ⟨b, j, none⟩ = false := by simp [World.frozen?, h]

theorem empty_facts {s : ByteArray} (h0 : 0 < s.size) : (s.toList == []) = false ∧ s.toList.isEmpty = false := by
  have hne : s.toList ≠ [] := by
    intro h
    rw [ByteArray.toList_eq] at h
    rw [Lib.size_eq, h] at h0
    simp at h0
  cases h : s.toList with
  | nil => exact (hne h).elim
  | cons a l => exact ⟨rfl, rfl⟩

theorem Try.infoU8 : (Try.prog.info? 5).map (fun i => (i.zero, i.size, i.bytes)) = some (some (.int .u8 0), 1, 1) := by kernel_rfl
theorem Try.infoPF : (Try.prog.info? 39).map (fun i => (i.zero, i.size, i.bytes)) = some (some (.pointer none), 1, 8) := by kernel_rfl

theorem ownsRow_ne {w : World} {base : Nat} {e : TypeId} {size : Nat} {v : Value} {n : Nat} {xs : List Value} (h : w.ownsRow base e size v n xs)
    {b : Nat} {cs : Array Value} {t : TypeId} {fr : Nat × Nat} (hb : w.heap[b]? = some (.cells cs t fr)) (hne : t ≠ e) : v.ownBlock ≠ some b := by
  obtain ⟨_, ⟨rfl, _⟩ | ⟨g, cap, cur, rfl, _, hg, _⟩⟩ := h
  · intro h; cases h
  · intro h
    have : g = b := by simpa [Value.ownBlock] using h
    subst this
    rw [hb] at hg
    simp at hg
    exact hne hg.2.1

theorem grown_block {wr : World} {o : Obj} {w1 : World} {row : Option Nat} (h : ((wr.alloc o).drew).grownBy w1 row) {b : Nat} {x : Obj} (hb : wr.heap[b]? = some x) (hne : row ≠ some b) : w1.heap[b]? = some x := by
  have hlt : b < wr.heap.size := by
    rcases Nat.lt_or_ge b wr.heap.size with hlt | hge
    · exact hlt
    · rw [Array.getElem?_eq_none hge] at hb; cases hb
  rw [h.block b (by show b < (wr.alloc o).heap.size; simp; omega) (fun e => hne e.symm)]
  show (wr.alloc o).heap[b]? = _
  rw [Below.heap_alloc _ _ _ hlt, hb]

theorem row_set {w : World} {lo : Nat} {e : TypeId} {size : Nat} {v : Value} {n : Nat} {xs : List Value} (h : w.ownsRow lo e size v n xs) {b : Nat} {cs : Array Value} {t : TypeId}
    (hb : w.heap[b]? = some (.cells cs t (0, 0))) (hne : t ≠ e) (j : Nat) (u : Value) : (w.setCell ⟨b, j, none⟩ u).ownsRow lo e size v n xs := by
  have hn := ownsRow_ne h hb hne
  exact ownsRow_setCell_other h (a := ⟨b, j, none⟩) hn u

/-- a row of another element type keeps where one grows -/
theorem row_grown {w w1 : World} {o : Obj} {lo lo' : Nat} {e e' : TypeId} {size size' : Nat} {v v' : Value} {n n' : Nat} {xs xs' : List Value} (h : w.ownsRow lo e size v n xs)
    (h' : w.ownsRow lo' e' size' v' n' xs') (hne : e ≠ e') (hg : ((w.alloc o).drew).grownBy w1 v'.ownBlock) : w1.ownsRow lo e size v n xs := by
  refine ownsRow_keep h fun g hk => ?_
  obtain ⟨h1, h2⟩ := ownsRow_lt h hk
  refine ⟨?_, h1⟩
  obtain ⟨_, ⟨rfl, _⟩ | ⟨g', cap, cur, rfl, _, hg', _⟩⟩ := h
  · cases hk
  · have e0 : g' = g := by simpa [Value.ownBlock] using hk
    subst e0
    rw [grown_block hg hg' (ownsRow_ne h' hg' hne), hg']

/-- the tree's block does not matter to a row of its own -/
theorem node_var {S : Nat → Prop} {w : World} {op : UInt8} {vars : List (Fin 4)} {free all b : Nat} {ks : List Nat} {vs ps nv : Value} (v : Fin 4)
    (hS : S b) (hb : w.heap[b]? = some (.cells #[.int .u8 op.toNat, vs, ps, .int .i64 free, .int .i64 all] 44 (0, 0)))
    (hv : w.ownsRow 0 5 1 nv (vars.length + 1) ((vars.map fun v => byteV (vb v)) ++ [byteV (vb v)])) (hvS : ∀ k, nv.ownBlock = some k → S k)
    (hp : w.ownsRow 0 39 1 ps ks.length (ks.map kidV)) (hpS : ∀ k, ps.ownBlock = some k → S k) :
    NodeIn S (w.setCell ⟨b, 1, none⟩ nv) op (vars ++ [v]) free all b ks := by
  refine ⟨hS, nv, ps, ?_, ?_, hvS, row_set hp hb (by decide) _ _, hpS⟩
  · rw [heap_setCell_same _ _ _ _ _ _ hb]; rfl
  · have := row_set hv hb (by decide) 1 nv
    simpa using this

/-- another mask of all variables -/
theorem NodeIn.setAll {S : Nat → Prop} {w : World} {op : UInt8} {vars : List (Fin 4)} {free all b : Nat} {ks : List Nat} (h : NodeIn S w op vars free all b ks) (m : Nat) :
    NodeIn S (w.setCell ⟨b, 4, none⟩ (.int .i64 m)) op vars free m b ks := by
  obtain ⟨hlo, vs, ps, hb, hv, hvS, hp, hpS⟩ := h
  exact ⟨hlo, vs, ps, by rw [heap_setCell_same _ _ _ _ _ _ hb]; rfl, row_set hv hb (by decide) _ _, hvS, row_set hp hb (by decide) _ _, hpS⟩

/-- another mask of the free ones -/
theorem NodeIn.setFree {S : Nat → Prop} {w : World} {op : UInt8} {vars : List (Fin 4)} {free all b : Nat} {ks : List Nat} (h : NodeIn S w op vars free all b ks) (m : Nat) :
    NodeIn S (w.setCell ⟨b, 3, none⟩ (.int .i64 m)) op vars m all b ks := by
  obtain ⟨hlo, vs, ps, hb, hv, hvS, hp, hpS⟩ := h
  exact ⟨hlo, vs, ps, by rw [heap_setCell_same _ _ _ _ _ _ hb]; rfl, row_set hv hb (by decide) _ _, hvS, row_set hp hb (by decide) _ _, hpS⟩

/-- one more part -/
theorem node_part {S : Nat → Prop} {w : World} {op : UInt8} {vars : List (Fin 4)} {free all b : Nat} {ks : List Nat} {vs ps np : Value} (k : Nat)
    (hS : S b) (hb : w.heap[b]? = some (.cells #[.int .u8 op.toNat, vs, ps, .int .i64 free, .int .i64 all] 44 (0, 0)))
    (hv : w.ownsRow 0 5 1 vs vars.length (vars.map fun v => byteV (vb v))) (hvS : ∀ k, vs.ownBlock = some k → S k)
    (hp : w.ownsRow 0 39 1 np (ks.length + 1) (ks.map kidV ++ [kidV k])) (hpS : ∀ k, np.ownBlock = some k → S k) :
    NodeIn S (w.setCell ⟨b, 2, none⟩ np) op vars free all b (ks ++ [k]) := by
  refine ⟨hS, vs, np, ?_, row_set hv hb (by decide) _ _, hvS, ?_, hpS⟩
  · rw [heap_setCell_same _ _ _ _ _ _ hb]; rfl
  · have := row_set hp hb (by decide) 2 np
    simpa using this

/-- a mask or'ed with a variable's bit, in the walk's own words -/
theorem or_bit (m : Nat) (v : Fin 4) (hm : m < 16) : bits .or .i64 (m : Int) (wrap64 (2 ^ v.val)) = ((m ||| 1 <<< v.val : Nat) : Int) := by
  have h : ∀ (m : Fin 16) (v : Fin 4), bits .or .i64 (m.val : Int) (wrap64 (2 ^ v.val)) = ((m.val ||| 1 <<< v.val : Nat) : Int) := by decide +kernel
  exact h ⟨m, hm⟩ v

theorem or_nat (a b : Nat) (ha : a < 16) (hb : b < 16) : bits .or .i64 (a : Int) (b : Int) = ((a ||| b : Nat) : Int) := by
  have h : ∀ (a b : Fin 16), bits .or .i64 (a.val : Int) (b.val : Int) = ((a.val ||| b.val : Nat) : Int) := by decide +kernel
  exact h ⟨a, ha⟩ ⟨b, hb⟩

theorem andNot_bit (a : Nat) (v : Fin 4) (ha : a < 16) : bits .andNot .i64 (a : Int) (wrap64 (2 ^ v.val)) = ((a &&& (15 ^^^ 1 <<< v.val) : Nat) : Int) := by
  have h : ∀ (a : Fin 16) (v : Fin 4), bits .andNot .i64 (a.val : Int) (wrap64 (2 ^ v.val)) = ((a.val &&& (15 ^^^ 1 <<< v.val) : Nat) : Int) := by decide +kernel
  exact h ⟨a, ha⟩ v

theorem vb_int (v : Fin 4) : ((vb v).toNat : Int) = 97 + (v.val : Int) := by revert v; decide

theorem bit_lt (v : Fin 4) : 1 <<< v.val < 16 := by revert v; decide
theorem or_lt {a b : Nat} (ha : a < 16) (hb : b < 16) : a ||| b < 16 := Nat.or_lt_two_pow (n := 4) ha hb

theorem freeBits_lt : ∀ f : Fm, f.freeBits < 16 := by
  intro f
  induction f with
  | tru => decide
  | fls => decide
  | pr v => exact bit_lt v
  | eq v u => exact or_lt (bit_lt v) (bit_lt u)
  | rel v u => exact or_lt (bit_lt v) (bit_lt u)
  | neg p ih => exact ih
  | con p q ihp ihq => exact or_lt ihp ihq
  | dis p q ihp ihq => exact or_lt ihp ihq
  | qu k v p ih => exact Nat.lt_of_le_of_lt Nat.and_le_left ih

theorem allBits_lt : ∀ f : Fm, f.allBits < 16 := by
  intro f
  induction f with
  | tru => decide
  | fls => decide
  | pr v => exact bit_lt v
  | eq v u => exact or_lt (bit_lt v) (bit_lt u)
  | rel v u => exact or_lt (bit_lt v) (bit_lt u)
  | neg p ih => exact ih
  | con p q ihp ihq => exact or_lt ihp ihq
  | dis p q ihp ihq => exact or_lt ihp ihq
  | qu k v p ih => exact or_lt (bit_lt v) ih

def orAll (m : Nat) (ps : List Fm) : Nat := ps.foldl (fun m p => m ||| p.allBits) m
def orFree (m : Nat) (ps : List Fm) : Nat := ps.foldl (fun m p => m ||| p.freeBits) m

theorem orAll_snoc (m : Nat) (ps : List Fm) (p : Fm) : orAll m (ps ++ [p]) = orAll m ps ||| p.allBits := by simp [orAll]
theorem orFree_snoc (m : Nat) (ps : List Fm) (p : Fm) : orFree m (ps ++ [p]) = orFree m ps ||| p.freeBits := by simp [orFree]
theorem orAll_lt {m : Nat} (hm : m < 16) (ps : List Fm) : orAll m ps < 16 := by
  induction ps generalizing m with
  | nil => exact hm
  | cons p ps ih => exact ih (or_lt hm (allBits_lt p))
theorem orFree_lt {m : Nat} (hm : m < 16) (ps : List Fm) : orFree m ps < 16 := by
  induction ps generalizing m with
  | nil => exact hm
  | cons p ps ih => exact ih (or_lt hm (freeBits_lt p))

/-- is a byte a quantifier's -/
def isQuB (b : UInt8) : Bool := b == 65 || b == 83 || b == 50 || b == 51 || b == 52
def isCoB (b : UInt8) : Bool := b == 50 || b == 51 || b == 52

theorem allBits_eq (f : Fm) : f.allBits = orAll (maskV f.vars) f.parts := by
  cases f <;> simp [Fm.allBits, orAll, maskV, Fm.vars, Fm.parts]

theorem freeBits_no (f : Fm) (h : isQuB f.op = false) : f.freeBits = orFree (if 0 < f.parts.length then 0 else maskV f.vars) f.parts := by
  cases f <;> simp [Fm.freeBits, orFree, maskV, Fm.vars, Fm.parts]
  rename_i k _ _
  cases k <;> simp [Fm.op, Qn.b, isQuB] at h

theorem freeBits_yes (f : Fm) (h : isQuB f.op = true) : ∃ v, f.vars = [v] ∧ f.freeBits = orFree (if 0 < f.parts.length then 0 else maskV f.vars) f.parts &&& (15 ^^^ 1 <<< v.val) := by
  cases f with
  | qu k v p => exact ⟨v, rfl, by simp [Fm.freeBits, orFree, Fm.parts]⟩
  | _ => simp [Fm.op, isQuB] at h

theorem isQuB_vars {b : UInt8} {nv np : Nat} (h : arity b = some (nv, np)) (hq : isQuB b = true) : nv = 1 ∧ np = 1 := by
  simp only [isQuB, Bool.or_eq_true, beq_iff_eq] at hq
  rcases hq with (((rfl | rfl) | rfl) | rfl) | rfl <;> (simp [arity] at h; omega)

theorem indexByte_quant (b : UInt8) : decide (0 ≤ Lib.indexByte [65, 83, 50, 51, 52] b) = isQuB b := by
  by_cases h0 : b = 65
  · subst h0; rfl
  by_cases h1 : b = 83
  · subst h1; rfl
  by_cases h2 : b = 50
  · subst h2; rfl
  by_cases h3 : b = 51
  · subst h3; rfl
  by_cases h4 : b = 52
  · subst h4; rfl
  · have g0 : (65 == b) = false := by simpa using fun e => h0 e.symm
    have g1 : (83 == b) = false := by simpa using fun e => h1 e.symm
    have g2 : (50 == b) = false := by simpa using fun e => h2 e.symm
    have g3 : (51 == b) = false := by simpa using fun e => h3 e.symm
    have g4 : (52 == b) = false := by simpa using fun e => h4 e.symm
    simp [Lib.indexByte, g0, g1, g2, g3, g4, isQuB, h0, h1, h2, h3, h4]

theorem indexByte_count (b : UInt8) : decide (0 ≤ Lib.indexByte [50, 51, 52] b) = isCoB b := by
  by_cases h2 : b = 50
  · subst h2; rfl
  by_cases h3 : b = 51
  · subst h3; rfl
  by_cases h4 : b = 52
  · subst h4; rfl
  · have g2 : (50 == b) = false := by simpa using fun e => h2 e.symm
    have g3 : (51 == b) = false := by simpa using fun e => h3 e.symm
    have g4 : (52 == b) = false := by simpa using fun e => h4 e.symm
    simp [Lib.indexByte, g2, g3, g4, isCoB, h2, h3, h4]

theorem isQuantifier_at (b : UInt8) (r : Bool) (hr : isQuB b = r) (a : Nat) (w : World) (hc : w.cell? ⟨a, 0, none⟩ = some (.int .u8 b.toNat)) :
    Calls Try.prog 62 #[kidV a] w fun e w' => e = .returned (.bool r) ∧ w = w' := by
  unfold kidV
  have Hr := Lib.hid hr
  clear hr
  go_enter Try.func62, Try.ntmps62
  go_wp2_with (go_at_call 65; refine (IndexByte_calls _ _ _).mono ?_; rintro e w' ⟨rfl, rfl⟩)
  go_ret
  exact ⟨ret_bool (by rw [← Hr.out]; exact indexByte_quant b), rfl⟩

theorem isCounting_at (b : UInt8) (r : Bool) (hr : isCoB b = r) (a : Nat) (w : World) (hc : w.cell? ⟨a, 0, none⟩ = some (.int .u8 b.toNat)) :
    Calls Try.prog 61 #[kidV a] w fun e w' => e = .returned (.bool r) ∧ w = w' := by
  unfold kidV
  have Hr := Lib.hid hr
  clear hr
  go_enter Try.func61, Try.ntmps61
  go_wp2_with (go_at_call 65; refine (IndexByte_calls _ _ _).mono ?_; rintro e w' ⟨rfl, rfl⟩)
  go_ret
  exact ⟨ret_bool (by rw [← Hr.out]; exact indexByte_count b), rfl⟩

/-- a new node -/
theorem node_new {S : Nat → Prop} (w : World) (op : UInt8) (hS : S w.heap.size) :
    NodeIn S (w.alloc (.cells #[.int .u8 op.toNat, .slice none 0 0, .slice none 0 0, .int .i64 0, .int .i64 0] 44)) op [] 0 0 w.heap.size [] :=
  ⟨hS, .slice none 0 0, .slice none 0 0, heap_alloc_new w _, World.ownsRow_nil _ _ _ _, (fun k h => by cases h), World.ownsRow_nil _ _ _ _, (fun k h => by cases h)⟩

/-- a node under way: block B, its children's trees in other blocks -/
def NodeT (B : Nat) (w : World) (op : UInt8) (vars : List (Fin 4)) (free all : Nat) (ps : List Fm) : Prop :=
  ∃ ks vsv psv, w.heap[B]? = some (.cells #[.int .u8 op.toNat, vsv, psv, .int .i64 free, .int .i64 all] 44 (0, 0)) ∧
    w.ownsRow 0 5 1 vsv vars.length (vars.map fun v => byteV (vb v)) ∧ (∀ k, vsv.ownBlock = some k → B ≤ k) ∧
    w.ownsRow 0 39 1 psv ks.length (ks.map kidV) ∧ (∀ k, psv.ownBlock = some k → B ≤ k) ∧
    TreesIn (fun g => B < g ∧ psv.ownBlock ≠ some g) w ps ks

theorem NodeT.of {B : Nat} {w : World} {op : UInt8} {vars : List (Fin 4)} {free all : Nat} (h : NodeIn (fun g => B ≤ g) w op vars free all B []) : NodeT B w op vars free all [] := by
  obtain ⟨_, vsv, psv, hb, h1, h2, h3, h4⟩ := h
  exact ⟨[], vsv, psv, hb, h1, h2, h3, h4, treesIn_nil _ _⟩

theorem NodeT.node {B : Nat} {w : World} {op : UInt8} {vars : List (Fin 4)} {free all : Nat} {ps : List Fm} (h : NodeT B w op vars free all ps) :
    ∃ ks, NodeIn (fun g => B ≤ g) w op vars free all B ks ∧ TreesIn (fun g => B ≤ g) w ps ks := by
  obtain ⟨ks, vsv, psv, hb, h1, h2, h3, h4, h5⟩ := h
  exact ⟨ks, ⟨Nat.le_refl _, vsv, psv, hb, h1, h2, h3, h4⟩, h5.keep fun g hg _ => ⟨rfl, Nat.le_of_lt hg.1⟩⟩

theorem NodeT.below {B : Nat} {w w' : World} {op : UInt8} {vars : List (Fin 4)} {free all : Nat} {ps : List Fm} (h : NodeT B w op vars free all ps) (hb : Below w.heap.size w w') : NodeT B w' op vars free all ps := by
  obtain ⟨ks, vsv, psv, h0, h1, h2, h3, h4, h5⟩ := h
  exact ⟨ks, vsv, psv, (hb.block B (block_lt h0)).trans h0, ownsRow_keep h1 (fun g hg => ⟨hb.block g (ownsRow_lt h1 hg).2, Nat.zero_le _⟩), h2,
    ownsRow_keep h3 (fun g hg => ⟨hb.block g (ownsRow_lt h3 hg).2, Nat.zero_le _⟩), h4, h5.keep fun g hg hl => ⟨hb.block g hl, hg⟩⟩

theorem NodeT.setAll {B : Nat} {w : World} {op : UInt8} {vars : List (Fin 4)} {free all : Nat} {ps : List Fm} (h : NodeT B w op vars free all ps) (m : Nat) :
    NodeT B (w.setCell ⟨B, 4, none⟩ (.int .i64 m)) op vars free m ps := by
  obtain ⟨ks, vsv, psv, hb, h1, h2, h3, h4, h5⟩ := h
  exact ⟨ks, vsv, psv, by rw [heap_setCell_same _ _ _ _ _ _ hb]; rfl, row_set h1 hb (by decide) _ _, h2, row_set h3 hb (by decide) _ _, h4,
    h5.keep fun g hg _ => ⟨heap_setCell_other _ _ _ _ (Nat.ne_of_gt hg.1), hg⟩⟩

theorem NodeT.setFree {B : Nat} {w : World} {op : UInt8} {vars : List (Fin 4)} {free all : Nat} {ps : List Fm} (h : NodeT B w op vars free all ps) (m : Nat) :
    NodeT B (w.setCell ⟨B, 3, none⟩ (.int .i64 m)) op vars m all ps := by
  obtain ⟨ks, vsv, psv, hb, h1, h2, h3, h4, h5⟩ := h
  exact ⟨ks, vsv, psv, by rw [heap_setCell_same _ _ _ _ _ _ hb]; rfl, row_set h1 hb (by decide) _ _, h2, row_set h3 hb (by decide) _ _, h4,
    h5.keep fun g hg _ => ⟨heap_setCell_other _ _ _ _ (Nat.ne_of_gt hg.1), hg⟩⟩

theorem grown_heap {w : World} {o : Obj} {w1 : World} {row : Option Nat} (h : (w.alloc o).grownBy w1 row) {g : Nat} (hg : g < w.heap.size) (hne : row ≠ some g) : w1.heap[g]? = w.heap[g]? := by
  rw [h.block g (by simp; omega) (fun e => hne e.symm), Below.heap_alloc _ _ _ hg]

theorem nodeT_part {B lo : Nat} {w1 w2 : World} {op : UInt8} {vars : List (Fin 4)} {free all : Nat} {ps : List Fm} {ks : List Nat} {vsv psv : Value} {f : Fm} {b g cap : Nat}
    (hb : w1.heap[B]? = some (.cells #[.int .u8 op.toNat, vsv, psv, .int .i64 free, .int .i64 all] 44 (0, 0)))
    (h1 : w1.ownsRow 0 5 1 vsv vars.length (vars.map fun v => byteV (vb v))) (h2 : ∀ k, vsv.ownBlock = some k → B ≤ k)
    (h3 : w1.ownsRow 0 39 1 psv ks.length (ks.map kidV)) (h4 : ∀ k, psv.ownBlock = some k → B ≤ k ∧ k < lo)
    (h5 : TreesIn (fun g => B < g ∧ psv.ownBlock ≠ some g ∧ g < lo) w1 ps ks) (hlo : lo ≤ w1.heap.size) (hBlo : B < lo)
    (ht : TreeIn (fun g => lo ≤ g) w1 f b)
    (hown : w2.ownsRow 0 39 1 (.slice (some ⟨g, 0, none⟩) (ks.length + 1) cap) (ks.length + 1) (ks.map kidV ++ [kidV b]))
    (hgrow : (w1.alloc (.cells #[kidV b] 39)).grownBy w2 psv.ownBlock) (hat : psv.ownBlock = some g ∨ g = w1.heap.size + 1) :
    NodeT B (w2.setCell ⟨B, 2, none⟩ (.slice (some ⟨g, 0, none⟩) (ks.length + 1) cap)) op vars free all (ps ++ [f]) := by
  have hBw : B < w1.heap.size := Nat.lt_of_lt_of_le hBlo hlo
  have hb2 : w2.heap[B]? = some (.cells #[.int .u8 op.toNat, vsv, psv, .int .i64 free, .int .i64 all] 44 (0, 0)) := by
    rw [grown_heap hgrow hBw (ownsRow_ne h3 hb (by decide)), hb]
  have hrow2 : w2.ownsRow 0 5 1 vsv vars.length (vars.map fun v => byteV (vb v)) :=
    row_grown h1 h3 (by decide) (o := .cells #[kidV b] 39) ⟨hgrow.os, hgrow.tape, hgrow.output, hgrow.size, hgrow.block⟩
  refine ⟨ks ++ [b], vsv, .slice (some ⟨g, 0, none⟩) (ks.length + 1) cap, ?_, row_set hrow2 hb2 (by decide) _ _, h2, ?_, ?_, ?_⟩
  · rw [heap_setCell_same _ _ _ _ _ _ hb2]; rfl
  · have := row_set hown hb2 (by decide) 2 (.slice (some ⟨g, 0, none⟩) (ks.length + 1) cap)
    simpa using this
  · intro k hk
    have e0 : g = k := by simpa [Value.ownBlock] using hk
    subst e0
    rcases hat with h | h
    · exact (h4 _ h).1
    · omega
  · have k1 : ∀ k, (B < k ∧ psv.ownBlock ≠ some k ∧ k < lo) → k < w1.heap.size →
        (w2.setCell ⟨B, 2, none⟩ (.slice (some ⟨g, 0, none⟩) (ks.length + 1) cap)).heap[k]? = w1.heap[k]? ∧ (B < k ∧ (Value.slice (some ⟨g, 0, none⟩) (ks.length + 1) cap).ownBlock ≠ some k) := by
      intro k hk hl
      refine ⟨?_, hk.1, ?_⟩
      · rw [heap_setCell_other _ _ _ _ (Nat.ne_of_gt hk.1), grown_heap hgrow hl hk.2.1]
      · intro e
        have e0 : g = k := by simpa [Value.ownBlock] using e
        subst e0
        rcases hat with h | h
        · exact hk.2.1 h
        · omega
    have k2 : ∀ k, lo ≤ k → k < w1.heap.size →
        (w2.setCell ⟨B, 2, none⟩ (.slice (some ⟨g, 0, none⟩) (ks.length + 1) cap)).heap[k]? = w1.heap[k]? ∧ (B < k ∧ (Value.slice (some ⟨g, 0, none⟩) (ks.length + 1) cap).ownBlock ≠ some k) := by
      intro k hk hl
      have hne : psv.ownBlock ≠ some k := fun e => by have := (h4 k e).2; omega
      refine ⟨?_, by omega, ?_⟩
      · rw [heap_setCell_other _ _ _ _ (by show k ≠ B; omega), grown_heap hgrow hl hne]
      · intro e
        have e0 : g = k := by simpa [Value.ownBlock] using e
        subst e0
        rcases hat with h | h
        · have := (h4 _ h).2; omega
        · omega
    exact treesIn_snoc (h5.keep k1) (TreeIn.keep k2 f b ht)

/-- what of a child the walk reads -/
def KidCells (w : World) (B b : Nat) (f : Fm) : Prop := b ≠ B ∧ w.cell? ⟨b, 3, none⟩ = some (.int .i64 f.freeBits) ∧ w.cell? ⟨b, 4, none⟩ = some (.int .i64 f.allBits)

theorem kidCells_of {S : Nat → Prop} {w : World} {f : Fm} {b B : Nat} (h : TreeIn S w f b) (hB : ¬ S B) : KidCells w B b f := by
  obtain ⟨ks, ⟨hS, vs, ps, hb, _⟩, _⟩ := h.open
  exact ⟨fun e => hB (e ▸ hS), cell_at hb 3, cell_at hb 4⟩

theorem KidCells.set {w : World} {B b : Nat} {f : Fm} (h : KidCells w B b f) (j : Nat) (u : Value) : KidCells (w.setCell ⟨B, j, none⟩ u) B b f := by
  obtain ⟨h0, h1, h2⟩ := h
  refine ⟨h0, ?_, ?_⟩
  · rw [World.cell?_setCell_far _ _ _ _ (by simpa using fun e => h0 e.symm)]; exact h1
  · rw [World.cell?_setCell_far _ _ _ _ (by simpa using fun e => h0 e.symm)]; exact h2

theorem kidCells_heap {w w' : World} {B b : Nat} {f : Fm} (h : KidCells w B b f) (e : w'.heap[b]? = w.heap[b]?) : KidCells w' B b f := by
  obtain ⟨h0, h1, h2⟩ := h
  exact ⟨h0, (World.cell?_of_block (a := ⟨b, 3, none⟩) e).trans h1, (World.cell?_of_block (a := ⟨b, 4, none⟩) e).trans h2⟩

theorem KidCells.drew {w : World} {B b : Nat} {f : Fm} (h : KidCells w B b f) : KidCells w.drew B b f := h

theorem NodeT.drew {B : Nat} {w : World} {op : UInt8} {vars : List (Fin 4)} {free all : Nat} {ps : List Fm} (h : NodeT B w op vars free all ps) : NodeT B w.drew op vars free all ps := NodeT.below h ((Below.refl _ _).drew)

theorem arity_le {b : UInt8} {nv np : Nat} (h : arity b = some (nv, np)) : nv ≤ 2 ∧ np ≤ 2 := by
  obtain ⟨f, rfl, rfl, rfl⟩ : ∃ f : Fm, f.op = b ∧ f.vars.length = nv ∧ f.parts.length = np := by
    obtain ⟨f, h1, h2, h3⟩ := arity_mk h (List.replicate nv 0) (List.replicate np .tru) (by simp) (by simp)
    exact ⟨f, h1, by rw [h2]; simp, by rw [h3]; simp⟩
  cases f <;> simp [Fm.vars, Fm.parts]

/-- a row of cells of size one that is not empty -/
theorem row_open {w : World} {base : Nat} {e : TypeId} {v : Value} {n : Nat} {xs : List Value} (h : w.ownsRow base e 1 v n xs) (hn : 0 < n) :
    ∃ g cap, v = .slice (some ⟨g, 0, none⟩) n cap ∧ n ≤ cap ∧ cap ≤ maxLen ∧ base ≤ g ∧ g < w.heap.size ∧ ∀ j, j < n → w.cell? ⟨g, j, none⟩ = xs[j]? := by
  obtain ⟨hl, ⟨_, h0⟩ | ⟨g, cap, cur, rfl, h2, h3, h4, h5, h6, h7⟩⟩ := h
  · omega
  · refine ⟨g, cap, rfl, h4, h5, h2, block_lt h3, fun j hj => ?_⟩
    rw [cell_at h3 j, ← h7, List.getElem?_take, if_pos (by omega)]
    simp

theorem tree_done {B : Nat} {w : World} {f : Fm} (h : NodeT B w f.op f.vars f.freeBits f.allBits f.parts) : TreeAt B w f B := by
  obtain ⟨ks, h1, h2⟩ := h.node
  exact TreeIn.shut h1 h2

end Go.Proofs.Ytjmfldakfokoaaa
