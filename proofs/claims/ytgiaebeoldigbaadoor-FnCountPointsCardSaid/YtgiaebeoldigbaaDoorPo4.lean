/-
  Laws of the functions that the claim reaches, one after the other (packed by a program of the prover's: ParseA, RankA, Parse, Form, Rank, SpecRank, Free). Conditions: texts below the reach.
-/
import Derived.Test.YtgiaebeoldigbaaDoorPo3
import Derived.Deep.RegionHeld
import Derived.Deep.DeepCutAuto
import Derived.Deep.CutBlock
import Derived.Deep.LoopGhost
import Derived.Deep.RegionLawGrows
import Derived.Deep.AppendLies
import Derived.Test.YtgiaebeoldigbaaDoorPo0
set_option linter.unusedSimpArgs false
set_option linter.unusedVariables false

namespace Go.Proofs.YtgiaebeoldigbaaDoor
open Go.RowKit
open Pl

/-- what parsePart leaves -/
def PartPost (s : ByteArray) (w : World) (e : Ending) (w' : World) : Prop :=
  Below w.heap.size w w' ∧
  ((parse s.data.toList = none ∧ ∃ rest : ByteArray, e = .returned (.tuple #[.pointer none, .string rest])) ∨
   ∃ (f : Fm) (rest : ByteArray) (b : Nat), parse s.data.toList = some (f, rest.data.toList) ∧ TreeAt w.heap.size w' f b ∧
     e = .returned (.tuple #[kidV b, .string rest]))

/-- a byte that is a variable's, or not -/
theorem indexByte_abcd (b : UInt8) : decide (0 ≤ Lib.indexByte [97, 98, 99, 100] b) = (varOf b).isSome := by
  by_cases h0 : b = 97
  · subst h0; rfl
  by_cases h1 : b = 98
  · subst h1; rfl
  by_cases h2 : b = 99
  · subst h2; rfl
  by_cases h3 : b = 100
  · subst h3; rfl
  · have g0 : (97 == b) = false := by simpa using fun e => h0 e.symm
    have g1 : (98 == b) = false := by simpa using fun e => h1 e.symm
    have g2 : (99 == b) = false := by simpa using fun e => h2 e.symm
    have g3 : (100 == b) = false := by simpa using fun e => h3 e.symm
    simp [Lib.indexByte, g0, g1, g2, g3, varOf, h0, h1, h2, h3]

theorem isVar_calls (t : ByteArray) (b : UInt8) (r : Bool) (ht : t.data.toList = [b]) (hr : (varOf b).isSome = r) (w : World) :
    Calls Tryd.prog 94 #[.string ⟨#[97, 98, 99, 100]⟩, .string t] w fun e w' => e = .returned (.bool r) ∧ w = w' := by
  refine (Contains_one _ t b ht w).mono ?_
  rintro e w' ⟨rfl, rfl⟩
  exact ⟨ret_bool (by rw [← hr]; exact indexByte_abcd b), rfl⟩

/-- the bits of variables -/
def maskV (vs : List (Fin 4)) : Nat := vs.foldl (fun m v => m ||| 1 <<< v.val) 0

theorem maskV_snoc (vs : List (Fin 4)) (v : Fin 4) : maskV (vs ++ [v]) = maskV vs ||| 1 <<< v.val := by simp [maskV]

theorem maskV_lt (vs : List (Fin 4)) : maskV vs < 16 := by
  have h : ∀ (vs : List (Fin 4)) (m : Nat), m < 16 → vs.foldl (fun m v => m ||| 1 <<< v.val) m < 16 := by
    intro vs
    induction vs with
    | nil => intro m h; exact h
    | cons v vs ih =>
      intro m h
      refine ih _ (Nat.or_lt_two_pow (n := 4) h ?_)
      revert v; decide
  exact h vs 0 (by decide)

theorem cell_at {w : World} {b : Nat} {cs : Array Value} {t : TypeId} (h : w.heap[b]? = some (.cells cs t (0, 0))) (j : Nat) : w.cell? ⟨b, j, none⟩ = cs[j]? := cell_of_row w b j cs t _ h
theorem free_at {w : World} {b : Nat} {cs : Array Value} {t : TypeId} (h : w.heap[b]? = some (.cells cs t (0, 0))) (j : Nat) : w.frozen? ⟨b, j, none⟩ = false := by simp [World.frozen?, h]

theorem empty_facts {s : ByteArray} (h0 : 0 < s.size) : (s.toList == []) = false ∧ s.toList.isEmpty = false := by
  have hne : s.toList ≠ [] := by
    intro h
    rw [ByteArray.toList_eq] at h
    rw [Lib.size_eq, h] at h0
    simp at h0
  cases h : s.toList with
  | nil => exact (hne h).elim
  | cons a l => exact ⟨rfl, rfl⟩

theorem Tryd.infoU8 : (Tryd.prog.info? 5).map (fun i => (i.zero, i.size, i.bytes)) = some (some (.int .u8 0), 1, 1) := by kernel_rfl
theorem Tryd.infoPF : (Tryd.prog.info? 61).map (fun i => (i.zero, i.size, i.bytes)) = some (some (.pointer none), 1, 8) := by kernel_rfl

theorem ownsRow_ne {w : World} {base : Nat} {e : TypeId} {size : Nat} {v : Value} {n : Nat} {xs : List Value} (h : w.ownsRow base e size v n xs)
    {b : Nat} {cs : Array Value} {t : TypeId} {fr : Nat × Nat} (hb : w.heap[b]? = some (.cells cs t fr)) (hne : t ≠ e) : v.ownBlock ≠ some b := by
  obtain ⟨_, ⟨rfl, _⟩ | ⟨g, cap, cur, rfl, _, hg, _⟩⟩ := h
  · intro h; cases h
  · intro h
    have : g = b := by simpa [Value.ownBlock] using h
    subst this
    rw [hb] at hg
    simp at hg
    exact hne hg.2.1

theorem grown_block {wr : World} {o : Obj} {w1 : World} {row : Option Nat} (h : ((wr.alloc o).drew).grownBy w1 row) {b : Nat} {x : Obj} (hb : wr.heap[b]? = some x) (hne : row ≠ some b) : w1.heap[b]? = some x := by
  have hlt : b < wr.heap.size := by
    rcases Nat.lt_or_ge b wr.heap.size with hlt | hge
    · exact hlt
    · rw [Array.getElem?_eq_none hge] at hb; cases hb
  rw [h.block b (by show b < (wr.alloc o).heap.size; simp; omega) (fun e => hne e.symm)]
  show (wr.alloc o).heap[b]? = _
  rw [Below.heap_alloc _ _ _ hlt, hb]

theorem row_set {w : World} {lo : Nat} {e : TypeId} {size : Nat} {v : Value} {n : Nat} {xs : List Value} (h : w.ownsRow lo e size v n xs) {b : Nat} {cs : Array Value} {t : TypeId}
    (hb : w.heap[b]? = some (.cells cs t (0, 0))) (hne : t ≠ e) (j : Nat) (u : Value) : (w.setCell ⟨b, j, none⟩ u).ownsRow lo e size v n xs := by
  have hn := ownsRow_ne h hb hne
  exact ownsRow_setCell_other h (a := ⟨b, j, none⟩) hn u

/-- a row of another element type keeps where one grows -/
theorem row_grown {w w1 : World} {o : Obj} {lo lo' : Nat} {e e' : TypeId} {size size' : Nat} {v v' : Value} {n n' : Nat} {xs xs' : List Value} (h : w.ownsRow lo e size v n xs)
    (h' : w.ownsRow lo' e' size' v' n' xs') (hne : e ≠ e') (hg : ((w.alloc o).drew).grownBy w1 v'.ownBlock) : w1.ownsRow lo e size v n xs := by
  refine ownsRow_keep h fun g hk => ?_
  obtain ⟨h1, h2⟩ := ownsRow_lt h hk
  refine ⟨?_, h1⟩
  obtain ⟨_, ⟨rfl, _⟩ | ⟨g', cap, cur, rfl, _, hg', _⟩⟩ := h
  · cases hk
  · have e0 : g' = g := by simpa [Value.ownBlock] using hk
    subst e0
    rw [grown_block hg hg' (ownsRow_ne h' hg' hne), hg']

/-- the tree's block does not matter to a row of its own -/
theorem node_var {S : Nat → Prop} {w : World} {op : UInt8} {vars : List (Fin 4)} {free all b : Nat} {ks : List Nat} {vs ps nv : Value} (v : Fin 4)
    (hS : S b) (hb : w.heap[b]? = some (.cells #[.int .u8 op.toNat, vs, ps, .int .i64 free, .int .i64 all] 66 (0, 0)))
    (hv : w.ownsRow 0 5 1 nv (vars.length + 1) ((vars.map fun v => byteV (vb v)) ++ [byteV (vb v)])) (hvS : ∀ k, nv.ownBlock = some k → S k)
    (hp : w.ownsRow 0 61 1 ps ks.length (ks.map kidV)) (hpS : ∀ k, ps.ownBlock = some k → S k) :
    NodeIn S (w.setCell ⟨b, 1, none⟩ nv) op (vars ++ [v]) free all b ks := by
  refine ⟨hS, nv, ps, ?_, ?_, hvS, row_set hp hb (by decide) _ _, hpS⟩
  · rw [heap_setCell_same _ _ _ _ _ _ hb]; rfl
  · have := row_set hv hb (by decide) 1 nv
    simpa using this

/-- another mask of all variables -/
theorem NodeIn.setAll {S : Nat → Prop} {w : World} {op : UInt8} {vars : List (Fin 4)} {free all b : Nat} {ks : List Nat} (h : NodeIn S w op vars free all b ks) (m : Nat) :
    NodeIn S (w.setCell ⟨b, 4, none⟩ (.int .i64 m)) op vars free m b ks := by
  obtain ⟨hlo, vs, ps, hb, hv, hvS, hp, hpS⟩ := h
  exact ⟨hlo, vs, ps, by rw [heap_setCell_same _ _ _ _ _ _ hb]; rfl, row_set hv hb (by decide) _ _, hvS, row_set hp hb (by decide) _ _, hpS⟩

/-- another mask of the free ones -/
theorem NodeIn.setFree {S : Nat → Prop} {w : World} {op : UInt8} {vars : List (Fin 4)} {free all b : Nat} {ks : List Nat} (h : NodeIn S w op vars free all b ks) (m : Nat) :
    NodeIn S (w.setCell ⟨b, 3, none⟩ (.int .i64 m)) op vars m all b ks := by
  obtain ⟨hlo, vs, ps, hb, hv, hvS, hp, hpS⟩ := h
  exact ⟨hlo, vs, ps, by rw [heap_setCell_same _ _ _ _ _ _ hb]; rfl, row_set hv hb (by decide) _ _, hvS, row_set hp hb (by decide) _ _, hpS⟩

/-- one more part -/
theorem node_part {S : Nat → Prop} {w : World} {op : UInt8} {vars : List (Fin 4)} {free all b : Nat} {ks : List Nat} {vs ps np : Value} (k : Nat)
    (hS : S b) (hb : w.heap[b]? = some (.cells #[.int .u8 op.toNat, vs, ps, .int .i64 free, .int .i64 all] 66 (0, 0)))
    (hv : w.ownsRow 0 5 1 vs vars.length (vars.map fun v => byteV (vb v))) (hvS : ∀ k, vs.ownBlock = some k → S k)
    (hp : w.ownsRow 0 61 1 np (ks.length + 1) (ks.map kidV ++ [kidV k])) (hpS : ∀ k, np.ownBlock = some k → S k) :
    NodeIn S (w.setCell ⟨b, 2, none⟩ np) op vars free all b (ks ++ [k]) := by
  refine ⟨hS, vs, np, ?_, row_set hv hb (by decide) _ _, hvS, ?_, hpS⟩
  · rw [heap_setCell_same _ _ _ _ _ _ hb]; rfl
  · have := row_set hp hb (by decide) 2 np
    simpa using this

/-- a mask or'ed with a variable's bit, in the walk's own words -/
theorem or_bit (m : Nat) (v : Fin 4) (hm : m < 16) : bits .or .i64 (m : Int) (wrap64 (2 ^ v.val)) = ((m ||| 1 <<< v.val : Nat) : Int) := by
  have h : ∀ (m : Fin 16) (v : Fin 4), bits .or .i64 (m.val : Int) (wrap64 (2 ^ v.val)) = ((m.val ||| 1 <<< v.val : Nat) : Int) := by decide +kernel
  exact h ⟨m, hm⟩ v

theorem or_nat (a b : Nat) (ha : a < 16) (hb : b < 16) : bits .or .i64 (a : Int) (b : Int) = ((a ||| b : Nat) : Int) := by
  have h : ∀ (a b : Fin 16), bits .or .i64 (a.val : Int) (b.val : Int) = ((a.val ||| b.val : Nat) : Int) := by decide +kernel
  exact h ⟨a, ha⟩ ⟨b, hb⟩

theorem andNot_bit (a : Nat) (v : Fin 4) (ha : a < 16) : bits .andNot .i64 (a : Int) (wrap64 (2 ^ v.val)) = ((a &&& (15 ^^^ 1 <<< v.val) : Nat) : Int) := by
  have h : ∀ (a : Fin 16) (v : Fin 4), bits .andNot .i64 (a.val : Int) (wrap64 (2 ^ v.val)) = ((a.val &&& (15 ^^^ 1 <<< v.val) : Nat) : Int) := by decide +kernel
  exact h ⟨a, ha⟩ v

theorem vb_int (v : Fin 4) : ((vb v).toNat : Int) = 97 + (v.val : Int) := by revert v; decide

theorem bit_lt (v : Fin 4) : 1 <<< v.val < 16 := by revert v; decide
theorem or_lt {a b : Nat} (ha : a < 16) (hb : b < 16) : a ||| b < 16 := Nat.or_lt_two_pow (n := 4) ha hb

theorem freeBits_lt : ∀ f : Fm, f.freeBits < 16 := by
  intro f
  induction f with
  | tru => decide
  | fls => decide
  | pr v => exact bit_lt v
  | eq v u => exact or_lt (bit_lt v) (bit_lt u)
  | rel v u => exact or_lt (bit_lt v) (bit_lt u)
  | neg p ih => exact ih
  | con p q ihp ihq => exact or_lt ihp ihq
  | dis p q ihp ihq => exact or_lt ihp ihq
  | qu k v p ih => exact Nat.lt_of_le_of_lt Nat.and_le_left ih

theorem allBits_lt : ∀ f : Fm, f.allBits < 16 := by
  intro f
  induction f with
  | tru => decide
  | fls => decide
  | pr v => exact bit_lt v
  | eq v u => exact or_lt (bit_lt v) (bit_lt u)
  | rel v u => exact or_lt (bit_lt v) (bit_lt u)
  | neg p ih => exact ih
  | con p q ihp ihq => exact or_lt ihp ihq
  | dis p q ihp ihq => exact or_lt ihp ihq
  | qu k v p ih => exact or_lt (bit_lt v) ih

def orAll (m : Nat) (ps : List Fm) : Nat := ps.foldl (fun m p => m ||| p.allBits) m
def orFree (m : Nat) (ps : List Fm) : Nat := ps.foldl (fun m p => m ||| p.freeBits) m

theorem orAll_snoc (m : Nat) (ps : List Fm) (p : Fm) : orAll m (ps ++ [p]) = orAll m ps ||| p.allBits := by simp [orAll]
theorem orFree_snoc (m : Nat) (ps : List Fm) (p : Fm) : orFree m (ps ++ [p]) = orFree m ps ||| p.freeBits := by simp [orFree]
theorem orAll_lt {m : Nat} (hm : m < 16) (ps : List Fm) : orAll m ps < 16 := by
  induction ps generalizing m with
  | nil => exact hm
  | cons p ps ih => exact ih (or_lt hm (allBits_lt p))
theorem orFree_lt {m : Nat} (hm : m < 16) (ps : List Fm) : orFree m ps < 16 := by
  induction ps generalizing m with
  | nil => exact hm
  | cons p ps ih => exact ih (or_lt hm (freeBits_lt p))

/-- is a byte a quantifier's -/
def isQuB (b : UInt8) : Bool := b == 65 || b == 83 || b == 50 || b == 51 || b == 52
def isCoB (b : UInt8) : Bool := b == 50 || b == 51 || b == 52

theorem allBits_eq (f : Fm) : f.allBits = orAll (maskV f.vars) f.parts := by
  cases f <;> simp [Fm.allBits, orAll, maskV, Fm.vars, Fm.parts]

theorem freeBits_no (f : Fm) (h : isQuB f.op = false) : f.freeBits = orFree (if 0 < f.parts.length then 0 else maskV f.vars) f.parts := by
  cases f <;> simp [Fm.freeBits, orFree, maskV, Fm.vars, Fm.parts]
  rename_i k _ _
  cases k <;> simp [Fm.op, Qn.b, isQuB] at h

theorem freeBits_yes (f : Fm) (h : isQuB f.op = true) : ∃ v, f.vars = [v] ∧ f.freeBits = orFree (if 0 < f.parts.length then 0 else maskV f.vars) f.parts &&& (15 ^^^ 1 <<< v.val) := by
  cases f with
  | qu k v p => exact ⟨v, rfl, by simp [Fm.freeBits, orFree, Fm.parts]⟩
  | _ => simp [Fm.op, isQuB] at h

theorem isQuB_vars {b : UInt8} {nv np : Nat} (h : arity b = some (nv, np)) (hq : isQuB b = true) : nv = 1 ∧ np = 1 := by
  simp only [isQuB, Bool.or_eq_true, beq_iff_eq] at hq
  rcases hq with (((rfl | rfl) | rfl) | rfl) | rfl <;> (simp [arity] at h; omega)

theorem indexByte_quant (b : UInt8) : decide (0 ≤ Lib.indexByte [65, 83, 50, 51, 52] b) = isQuB b := by
  by_cases h0 : b = 65
  · subst h0; rfl
  by_cases h1 : b = 83
  · subst h1; rfl
  by_cases h2 : b = 50
  · subst h2; rfl
  by_cases h3 : b = 51
  · subst h3; rfl
  by_cases h4 : b = 52
  · subst h4; rfl
  · have g0 : (65 == b) = false := by simpa using fun e => h0 e.symm
    have g1 : (83 == b) = false := by simpa using fun e => h1 e.symm
    have g2 : (50 == b) = false := by simpa using fun e => h2 e.symm
    have g3 : (51 == b) = false := by simpa using fun e => h3 e.symm
    have g4 : (52 == b) = false := by simpa using fun e => h4 e.symm
    simp [Lib.indexByte, g0, g1, g2, g3, g4, isQuB, h0, h1, h2, h3, h4]

theorem indexByte_count (b : UInt8) : decide (0 ≤ Lib.indexByte [50, 51, 52] b) = isCoB b := by
  by_cases h2 : b = 50
  · subst h2; rfl
  by_cases h3 : b = 51
  · subst h3; rfl
  by_cases h4 : b = 52
  · subst h4; rfl
  · have g2 : (50 == b) = false := by simpa using fun e => h2 e.symm
    have g3 : (51 == b) = false := by simpa using fun e => h3 e.symm
    have g4 : (52 == b) = false := by simpa using fun e => h4 e.symm
    simp [Lib.indexByte, g2, g3, g4, isCoB, h2, h3, h4]

theorem isQuantifier_at (b : UInt8) (r : Bool) (hr : isQuB b = r) (a : Nat) (w : World) (hc : w.cell? ⟨a, 0, none⟩ = some (.int .u8 b.toNat)) :
    Calls Tryd.prog 88 #[kidV a] w fun e w' => e = .returned (.bool r) ∧ w = w' := by
  unfold kidV
  have Hr := Lib.hid hr
  clear hr
  go_enter Tryd.func88, Tryd.ntmps88
  go_wp2_with (go_at_call 104; refine (IndexByte_calls _ _ _).mono ?_; rintro e w' ⟨rfl, rfl⟩)
  go_ret
  exact ⟨ret_bool (by rw [← Hr.out]; exact indexByte_quant b), rfl⟩

theorem isCounting_at (b : UInt8) (r : Bool) (hr : isCoB b = r) (a : Nat) (w : World) (hc : w.cell? ⟨a, 0, none⟩ = some (.int .u8 b.toNat)) :
    Calls Tryd.prog 87 #[kidV a] w fun e w' => e = .returned (.bool r) ∧ w = w' := by
  unfold kidV
  have Hr := Lib.hid hr
  clear hr
  go_enter Tryd.func87, Tryd.ntmps87
  go_wp2_with (go_at_call 104; refine (IndexByte_calls _ _ _).mono ?_; rintro e w' ⟨rfl, rfl⟩)
  go_ret
  exact ⟨ret_bool (by rw [← Hr.out]; exact indexByte_count b), rfl⟩

/-- a new node -/
theorem node_new {S : Nat → Prop} (w : World) (op : UInt8) (hS : S w.heap.size) :
    NodeIn S (w.alloc (.cells #[.int .u8 op.toNat, .slice none 0 0, .slice none 0 0, .int .i64 0, .int .i64 0] 66)) op [] 0 0 w.heap.size [] :=
  ⟨hS, .slice none 0 0, .slice none 0 0, heap_alloc_new w _, World.ownsRow_nil _ _ _ _, (fun k h => by cases h), World.ownsRow_nil _ _ _ _, (fun k h => by cases h)⟩

/-- a node under way: block B, its children's trees in other blocks -/
def NodeT (B : Nat) (w : World) (op : UInt8) (vars : List (Fin 4)) (free all : Nat) (ps : List Fm) : Prop :=
  ∃ ks vsv psv, w.heap[B]? = some (.cells #[.int .u8 op.toNat, vsv, psv, .int .i64 free, .int .i64 all] 66 (0, 0)) ∧
    w.ownsRow 0 5 1 vsv vars.length (vars.map fun v => byteV (vb v)) ∧ (∀ k, vsv.ownBlock = some k → B ≤ k) ∧
    w.ownsRow 0 61 1 psv ks.length (ks.map kidV) ∧ (∀ k, psv.ownBlock = some k → B ≤ k) ∧
    TreesIn (fun g => B < g ∧ psv.ownBlock ≠ some g) w ps ks

theorem NodeT.of {B : Nat} {w : World} {op : UInt8} {vars : List (Fin 4)} {free all : Nat} (h : NodeIn (fun g => B ≤ g) w op vars free all B []) : NodeT B w op vars free all [] := by
  obtain ⟨_, vsv, psv, hb, h1, h2, h3, h4⟩ := h
  exact ⟨[], vsv, psv, hb, h1, h2, h3, h4, treesIn_nil _ _⟩

theorem NodeT.node {B : Nat} {w : World} {op : UInt8} {vars : List (Fin 4)} {free all : Nat} {ps : List Fm} (h : NodeT B w op vars free all ps) :
    ∃ ks, NodeIn (fun g => B ≤ g) w op vars free all B ks ∧ TreesIn (fun g => B ≤ g) w ps ks := by
  obtain ⟨ks, vsv, psv, hb, h1, h2, h3, h4, h5⟩ := h
  exact ⟨ks, ⟨Nat.le_refl _, vsv, psv, hb, h1, h2, h3, h4⟩, h5.keep fun g hg _ => ⟨rfl, Nat.le_of_lt hg.1⟩⟩

theorem NodeT.below {B : Nat} {w w' : World} {op : UInt8} {vars : List (Fin 4)} {free all : Nat} {ps : List Fm} (h : NodeT B w op vars free all ps) (hb : Below w.heap.size w w') : NodeT B w' op vars free all ps := by
  obtain ⟨ks, vsv, psv, h0, h1, h2, h3, h4, h5⟩ := h
  exact ⟨ks, vsv, psv, (hb.block B (block_lt h0)).trans h0, ownsRow_keep h1 (fun g hg => ⟨hb.block g (ownsRow_lt h1 hg).2, Nat.zero_le _⟩), h2,
    ownsRow_keep h3 (fun g hg => ⟨hb.block g (ownsRow_lt h3 hg).2, Nat.zero_le _⟩), h4, h5.keep fun g hg hl => ⟨hb.block g hl, hg⟩⟩

theorem NodeT.setAll {B : Nat} {w : World} {op : UInt8} {vars : List (Fin 4)} {free all : Nat} {ps : List Fm} (h : NodeT B w op vars free all ps) (m : Nat) :
    NodeT B (w.setCell ⟨B, 4, none⟩ (.int .i64 m)) op vars free m ps := by
  obtain ⟨ks, vsv, psv, hb, h1, h2, h3, h4, h5⟩ := h
  exact ⟨ks, vsv, psv, by rw [heap_setCell_same _ _ _ _ _ _ hb]; rfl, row_set h1 hb (by decide) _ _, h2, row_set h3 hb (by decide) _ _, h4,
    h5.keep fun g hg _ => ⟨heap_setCell_other _ _ _ _ (Nat.ne_of_gt hg.1), hg⟩⟩

theorem NodeT.setFree {B : Nat} {w : World} {op : UInt8} {vars : List (Fin 4)} {free all : Nat} {ps : List Fm} (h : NodeT B w op vars free all ps) (m : Nat) :
    NodeT B (w.setCell ⟨B, 3, none⟩ (.int .i64 m)) op vars m all ps := by
  obtain ⟨ks, vsv, psv, hb, h1, h2, h3, h4, h5⟩ := h
  exact ⟨ks, vsv, psv, by rw [heap_setCell_same _ _ _ _ _ _ hb]; rfl, row_set h1 hb (by decide) _ _, h2, row_set h3 hb (by decide) _ _, h4,
    h5.keep fun g hg _ => ⟨heap_setCell_other _ _ _ _ (Nat.ne_of_gt hg.1), hg⟩⟩

theorem grown_heap {w : World} {o : Obj} {w1 : World} {row : Option Nat} (h : (w.alloc o).grownBy w1 row) {g : Nat} (hg : g < w.heap.size) (hne : row ≠ some g) : w1.heap[g]? = w.heap[g]? := by
  rw [h.block g (by simp; omega) (fun e => hne e.symm), Below.heap_alloc _ _ _ hg]

theorem nodeT_part {B lo : Nat} {w1 w2 : World} {op : UInt8} {vars : List (Fin 4)} {free all : Nat} {ps : List Fm} {ks : List Nat} {vsv psv : Value} {f : Fm} {b g cap : Nat}
    (hb : w1.heap[B]? = some (.cells #[.int .u8 op.toNat, vsv, psv, .int .i64 free, .int .i64 all] 66 (0, 0)))
    (h1 : w1.ownsRow 0 5 1 vsv vars.length (vars.map fun v => byteV (vb v))) (h2 : ∀ k, vsv.ownBlock = some k → B ≤ k)
    (h3 : w1.ownsRow 0 61 1 psv ks.length (ks.map kidV)) (h4 : ∀ k, psv.ownBlock = some k → B ≤ k ∧ k < lo)
    (h5 : TreesIn (fun g => B < g ∧ psv.ownBlock ≠ some g ∧ g < lo) w1 ps ks) (hlo : lo ≤ w1.heap.size) (hBlo : B < lo)
    (ht : TreeIn (fun g => lo ≤ g) w1 f b)
    (hown : w2.ownsRow 0 61 1 (.slice (some ⟨g, 0, none⟩) (ks.length + 1) cap) (ks.length + 1) (ks.map kidV ++ [kidV b]))
    (hgrow : (w1.alloc (.cells #[kidV b] 61)).grownBy w2 psv.ownBlock) (hat : psv.ownBlock = some g ∨ g = w1.heap.size + 1) :
    NodeT B (w2.setCell ⟨B, 2, none⟩ (.slice (some ⟨g, 0, none⟩) (ks.length + 1) cap)) op vars free all (ps ++ [f]) := by
  have hBw : B < w1.heap.size := Nat.lt_of_lt_of_le hBlo hlo
  have hb2 : w2.heap[B]? = some (.cells #[.int .u8 op.toNat, vsv, psv, .int .i64 free, .int .i64 all] 66 (0, 0)) := by
    rw [grown_heap hgrow hBw (ownsRow_ne h3 hb (by decide)), hb]
  have hrow2 : w2.ownsRow 0 5 1 vsv vars.length (vars.map fun v => byteV (vb v)) :=
    row_grown h1 h3 (by decide) (o := .cells #[kidV b] 61) ⟨hgrow.os, hgrow.tape, hgrow.output, hgrow.size, hgrow.block⟩
  refine ⟨ks ++ [b], vsv, .slice (some ⟨g, 0, none⟩) (ks.length + 1) cap, ?_, row_set hrow2 hb2 (by decide) _ _, h2, ?_, ?_, ?_⟩
  · rw [heap_setCell_same _ _ _ _ _ _ hb2]; rfl
  · have := row_set hown hb2 (by decide) 2 (.slice (some ⟨g, 0, none⟩) (ks.length + 1) cap)
    simpa using this
  · intro k hk
    have e0 : g = k := by simpa [Value.ownBlock] using hk
    subst e0
    rcases hat with h | h
    · exact (h4 _ h).1
    · omega
  · have k1 : ∀ k, (B < k ∧ psv.ownBlock ≠ some k ∧ k < lo) → k < w1.heap.size →
        (w2.setCell ⟨B, 2, none⟩ (.slice (some ⟨g, 0, none⟩) (ks.length + 1) cap)).heap[k]? = w1.heap[k]? ∧ (B < k ∧ (Value.slice (some ⟨g, 0, none⟩) (ks.length + 1) cap).ownBlock ≠ some k) := by
      intro k hk hl
      refine ⟨?_, hk.1, ?_⟩
      · rw [heap_setCell_other _ _ _ _ (Nat.ne_of_gt hk.1), grown_heap hgrow hl hk.2.1]
      · intro e
        have e0 : g = k := by simpa [Value.ownBlock] using e
        subst e0
        rcases hat with h | h
        · exact hk.2.1 h
        · omega
    have k2 : ∀ k, lo ≤ k → k < w1.heap.size →
        (w2.setCell ⟨B, 2, none⟩ (.slice (some ⟨g, 0, none⟩) (ks.length + 1) cap)).heap[k]? = w1.heap[k]? ∧ (B < k ∧ (Value.slice (some ⟨g, 0, none⟩) (ks.length + 1) cap).ownBlock ≠ some k) := by
      intro k hk hl
      have hne : psv.ownBlock ≠ some k := fun e => by have := (h4 k e).2; omega
      refine ⟨?_, by omega, ?_⟩
      · rw [heap_setCell_other _ _ _ _ (by show k ≠ B; omega), grown_heap hgrow hl hne]
      · intro e
        have e0 : g = k := by simpa [Value.ownBlock] using e
        subst e0
        rcases hat with h | h
        · have := (h4 _ h).2; omega
        · omega
    exact treesIn_snoc (h5.keep k1) (TreeIn.keep k2 f b ht)

/-- what of a child the walk reads -/
def KidCells (w : World) (B b : Nat) (f : Fm) : Prop := b ≠ B ∧ w.cell? ⟨b, 3, none⟩ = some (.int .i64 f.freeBits) ∧ w.cell? ⟨b, 4, none⟩ = some (.int .i64 f.allBits)

theorem kidCells_of {S : Nat → Prop} {w : World} {f : Fm} {b B : Nat} (h : TreeIn S w f b) (hB : ¬ S B) : KidCells w B b f := by
  obtain ⟨ks, ⟨hS, vs, ps, hb, _⟩, _⟩ := h.open
  exact ⟨fun e => hB (e ▸ hS), cell_at hb 3, cell_at hb 4⟩

theorem KidCells.set {w : World} {B b : Nat} {f : Fm} (h : KidCells w B b f) (j : Nat) (u : Value) : KidCells (w.setCell ⟨B, j, none⟩ u) B b f := by
  obtain ⟨h0, h1, h2⟩ := h
  refine ⟨h0, ?_, ?_⟩
  · rw [World.cell?_setCell_far _ _ _ _ (by simpa using fun e => h0 e.symm)]; exact h1
  · rw [World.cell?_setCell_far _ _ _ _ (by simpa using fun e => h0 e.symm)]; exact h2

theorem kidCells_heap {w w' : World} {B b : Nat} {f : Fm} (h : KidCells w B b f) (e : w'.heap[b]? = w.heap[b]?) : KidCells w' B b f := by
  obtain ⟨h0, h1, h2⟩ := h
  exact ⟨h0, (World.cell?_of_block (a := ⟨b, 3, none⟩) e).trans h1, (World.cell?_of_block (a := ⟨b, 4, none⟩) e).trans h2⟩

theorem KidCells.drew {w : World} {B b : Nat} {f : Fm} (h : KidCells w B b f) : KidCells w.drew B b f := h

theorem NodeT.drew {B : Nat} {w : World} {op : UInt8} {vars : List (Fin 4)} {free all : Nat} {ps : List Fm} (h : NodeT B w op vars free all ps) : NodeT B w.drew op vars free all ps := NodeT.below h ((Below.refl _ _).drew)

theorem arity_le {b : UInt8} {nv np : Nat} (h : arity b = some (nv, np)) : nv ≤ 2 ∧ np ≤ 2 := by
  obtain ⟨f, rfl, rfl, rfl⟩ : ∃ f : Fm, f.op = b ∧ f.vars.length = nv ∧ f.parts.length = np := by
    obtain ⟨f, h1, h2, h3⟩ := arity_mk h (List.replicate nv 0) (List.replicate np .tru) (by simp) (by simp)
    exact ⟨f, h1, by rw [h2]; simp, by rw [h3]; simp⟩
  cases f <;> simp [Fm.vars, Fm.parts]

/-- a row of cells of size one that is not empty -/
theorem row_open {w : World} {base : Nat} {e : TypeId} {v : Value} {n : Nat} {xs : List Value} (h : w.ownsRow base e 1 v n xs) (hn : 0 < n) :
    ∃ g cap, v = .slice (some ⟨g, 0, none⟩) n cap ∧ n ≤ cap ∧ cap ≤ maxLen ∧ base ≤ g ∧ g < w.heap.size ∧ ∀ j, j < n → w.cell? ⟨g, j, none⟩ = xs[j]? := by
  obtain ⟨hl, ⟨_, h0⟩ | ⟨g, cap, cur, rfl, h2, h3, h4, h5, h6, h7⟩⟩ := h
  · omega
  · refine ⟨g, cap, rfl, h4, h5, h2, block_lt h3, fun j hj => ?_⟩
    rw [cell_at h3 j, ← h7, List.getElem?_take, if_pos (by omega)]
    simp

theorem tree_done {B : Nat} {w : World} {f : Fm} (h : NodeT B w f.op f.vars f.freeBits f.allBits f.parts) : TreeAt B w f B := by
  obtain ⟨ks, h1, h2⟩ := h.node
  exact TreeIn.shut h1 h2

end Go.Proofs.YtgiaebeoldigbaaDoor

namespace Go.Proofs.YtgiaebeoldigbaaDoor
open Pl

def Pl.Fm.rank : Fm → Nat
  | .neg p => p.rank | .con p q => max p.rank q.rank | .dis p q => max p.rank q.rank | .qu k _ p => p.rank + k.n | _ => 0

def Pl.Fm.counts : Fm → Bool
  | .neg p => p.counts | .con p q => p.counts || q.counts | .dis p q => p.counts || q.counts
  | .qu k _ p => isCoB k.b || p.counts | _ => false

/-- what an operator adds to the rank -/
def rankAdd (b : UInt8) : Nat := if isCoB b then b.toNat - 48 else if isQuB b then 1 else 0

theorem rank_eq (f : Fm) : f.rank = f.parts.foldl (fun m p => max m p.rank) 0 + rankAdd f.op := by
  cases f with
  | qu k v p => cases k <;> simp [Fm.rank, Fm.parts, Fm.op, rankAdd, isCoB, isQuB, Qn.b, Qn.n]
  | _ => simp [Fm.rank, Fm.parts, Fm.op, rankAdd, isCoB, isQuB]

theorem counts_eq (f : Fm) : f.counts = (isCoB f.op || f.parts.any Fm.counts) := by
  cases f with
  | qu k v p => cases k <;> simp [Fm.counts, Fm.parts, Fm.op, isCoB, Qn.b]
  | _ => simp [Fm.counts, Fm.parts, Fm.op, isCoB]

theorem rank_le (f : Fm) : f.rank ≤ 4 * f.text.length := by
  induction f with
  | qu k v p ih => cases k <;> simp [Fm.rank, Fm.text, Qn.n] <;> omega
  | neg p ih => simp [Fm.rank, Fm.text]; omega
  | con p q ihp ihq => simp [Fm.rank, Fm.text]; omega
  | dis p q ihp ihq => simp [Fm.rank, Fm.text]; omega
  | _ => simp [Fm.rank]

theorem vb_ge (v : Fin 4) : 97 ≤ (vb v).toNat := by revert v; decide

theorem counts_text (f : Fm) : f.counts = true ↔ ((50 : UInt8) ∈ f.text ∨ (51 : UInt8) ∈ f.text ∨ (52 : UInt8) ∈ f.text) := by
  have hv : ∀ v : Fin 4, (50 : UInt8) ≠ vb v ∧ (51 : UInt8) ≠ vb v ∧ (52 : UInt8) ≠ vb v := by decide
  induction f with
  | tru => simp [Fm.counts, Fm.text]
  | fls => simp [Fm.counts, Fm.text]
  | pr v => simp [Fm.counts, Fm.text, hv v]
  | eq v u => simp [Fm.counts, Fm.text, hv v, hv u]
  | rel v u => simp [Fm.counts, Fm.text, hv v, hv u]
  | neg p ih => simp [Fm.counts, Fm.text, ih]
  | con p q ihp ihq =>
    simp only [Fm.counts, Bool.or_eq_true, ihp, ihq, Fm.text, List.mem_cons, List.mem_append]
    constructor
    · rintro ((h | h | h) | (h | h | h)) <;> simp [h]
    · rintro ((h | h | h) | (h | h | h) | (h | h | h)) <;> first | (exact absurd h (by decide)) | simp [h]
  | dis p q ihp ihq =>
    simp only [Fm.counts, Bool.or_eq_true, ihp, ihq, Fm.text, List.mem_cons, List.mem_append]
    constructor
    · rintro ((h | h | h) | (h | h | h)) <;> simp [h]
    · rintro ((h | h | h) | (h | h | h) | (h | h | h)) <;> first | (exact absurd h (by decide)) | simp [h]
  | qu k v p ih =>
    cases k <;> simp [Fm.counts, Fm.text, Qn.b, isCoB, ih, hv v]

theorem bit_or (a b i : Nat) : (a ||| b).testBit i = (a.testBit i || b.testBit i) := Nat.testBit_or a b i

theorem bit_one (v w : Fin 4) : (1 <<< v.val).testBit w.val = decide (w = v) := by revert v w; decide

theorem all_text (f : Fm) (v : Fin 4) : f.allBits.testBit v.val = true ↔ vb v ∈ f.text := by
  have hb : ∀ u w : Fin 4, vb u = vb w ↔ u = w := fun u w => ⟨vb_inj, fun h => by rw [h]⟩
  have h1 : ∀ b ∈ [(116 : UInt8), 102, 80, 61, 69, 33, 38, 124, 65, 83, 50, 51, 52], vb v ≠ b := by revert v; decide
  induction f with
  | tru => simp [Fm.allBits, Fm.text, h1]
  | fls => simp [Fm.allBits, Fm.text, h1]
  | pr u => simp [Fm.allBits, Fm.text, h1, bit_one, hb, -Nat.testBit_shiftLeft]
  | eq u w => simp [Fm.allBits, Fm.text, h1, bit_one, hb, -Nat.testBit_shiftLeft]
  | rel u w => simp [Fm.allBits, Fm.text, h1, bit_one, hb, -Nat.testBit_shiftLeft]
  | neg p ih => simp [Fm.allBits, Fm.text, h1, ih]
  | con p q ihp ihq => simp [Fm.allBits, Fm.text, h1, ihp, ihq]
  | dis p q ihp ihq => simp [Fm.allBits, Fm.text, h1, ihp, ihq]
  | qu k u p ih => cases k <;> simp [Fm.allBits, Fm.text, Qn.b, h1, ih, bit_one, hb, -Nat.testBit_shiftLeft]

/-- the first k variables of a set -/
def varsL (m k : Nat) : List UInt8 := ((List.range k).filter fun i => m.testBit i).map fun i => UInt8.ofNat (97 + i)

theorem varsL_yes {m k : Nat} (h : m.testBit k = true) : varsL m (k + 1) = varsL m k ++ [UInt8.ofNat (97 + k)] := by
  simp [varsL, List.range_succ, List.filter_append, h]
theorem varsL_no {m k : Nat} (h : m.testBit k = false) : varsL m (k + 1) = varsL m k := by
  simp [varsL, List.range_succ, List.filter_append, h]

theorem varsL_len (m k : Nat) : (varsL m k).length ≤ k := by
  unfold varsL
  rw [List.length_map]
  exact Nat.le_trans (List.length_filter_le _ _) (by simp)

end Go.Proofs.YtgiaebeoldigbaaDoor

namespace Go.Proofs.YtgiaebeoldigbaaDoor
open Go.RowKit
open Pl

theorem parsePart_empty (s : ByteArray) (w : World) (h : s.size = 0) :
    Calls Tryd.prog 73 #[.string s] w (PartPost s w) := by
  have hl : s.data.toList = [] := List.eq_nil_of_length_eq_zero (by rw [← Lib.size_eq]; exact h)
  have hl2 : s.toList = [] := by rw [ByteArray.toList_eq]; exact hl
  have e1 : (s.toList == []) = true := by rw [hl2]; rfl
  have e2 : s.toList.isEmpty = true := by rw [hl2]; rfl
  have Hl := Lib.hid hl
  clear hl hl2 h
  go_enter Tryd.func73, Tryd.ntmps73
  go_wp2_with fail
  go_ret2
  exact ⟨Below.refl _ _, .inl ⟨by rw [Hl.out]; exact parse_nil, s, rfl⟩⟩

set_option maxHeartbeats 1000000 in
set_option maxRecDepth 100000 in
theorem parsePart_calls (n : Nat) : ∀ (s : ByteArray) (w : World), s.size ≤ n → n ≤ 1000000000 →
    Calls Tryd.prog 73 #[.string s] w (PartPost s w) := by
  induction n with
  | zero =>
    intro s w hn _hs
    exact parsePart_empty s w (by omega)
  | succ n ih =>
    intro s w hn hs
    by_cases h0 : 0 < s.size
    · obtain ⟨hne2, hne3⟩ := empty_facts h0
      have Ih := Lib.hid ih
      clear ih
      go_enter Tryd.func73, Tryd.ntmps73
      have hb0 : s.data.toList = s[0] :: s.data.toList.drop 1 := drop_at (k := 0) h0
      have Hb0 := Lib.hid hb0
      clear hb0
      go_upto_block 0 with (fail)
      go_cut [5, 6] (fun v p wx => ∃ nv np : Nat, arity s[0] = some (nv, np) ∧ v = .int .i64 nv ∧ p = .int .i64 np ∧ wx = w.alloc (.cells #[.int .u8 s[0].toNat, .slice none 0 0, .slice none 0 0, .int .i64 0, .int .i64 0] 66))
      case first =>
        go_wp2_with fail
        all_goals first
          | (go_meet
             case rel => first
             | exact ⟨0, 0, ar_of (n := 116) (by assumption) rfl, rfl, rfl, rfl⟩
             | exact ⟨0, 0, ar_of (n := 102) (by assumption) rfl, rfl, rfl, rfl⟩
             | exact ⟨1, 0, ar_of (n := 80) (by assumption) rfl, rfl, rfl, rfl⟩
             | exact ⟨2, 0, ar_of (n := 61) (by assumption) rfl, rfl, rfl, rfl⟩
             | exact ⟨2, 0, ar_of (n := 69) (by assumption) rfl, rfl, rfl, rfl⟩
             | exact ⟨0, 1, ar_of (n := 33) (by assumption) rfl, rfl, rfl, rfl⟩
             | exact ⟨0, 2, ar_of (n := 38) (by assumption) rfl, rfl, rfl, rfl⟩
             | exact ⟨0, 2, ar_of (n := 124) (by assumption) rfl, rfl, rfl, rfl⟩
             | exact ⟨1, 1, ar_of (n := 65) (by assumption) rfl, rfl, rfl, rfl⟩
             | exact ⟨1, 1, ar_of (n := 83) (by assumption) rfl, rfl, rfl, rfl⟩
             | exact ⟨1, 1, ar_of (n := 50) (by assumption) rfl, rfl, rfl, rfl⟩
             | exact ⟨1, 1, ar_of (n := 51) (by assumption) rfl, rfl, rfl, rfl⟩
             | exact ⟨1, 1, ar_of (n := 52) (by assumption) rfl, rfl, rfl, rfl⟩
             done)
          | (go_ret2
             refine ⟨(Below.refl _ _).alloc (Nat.le_refl _) _, .inl ⟨?_, s, rfl⟩⟩
             rw [Hb0.out]
             refine parse_bad (arity_no fun n hn => ?_)
             simp only [List.mem_cons, List.not_mem_nil, or_false] at hn
             rcases hn with rfl | rfl | rfl | rfl | rfl | rfl | rfl | rfl | rfl | rfl | rfl | rfl | rfl <;> assumption)
      case rest =>
        obtain ⟨nv, np, har, rfl, rfl, rfl⟩ := hcut
        have Har := Lib.hid har
        clear har
        go_upto_block 1 with (fail)
        go_wp2_with fail
        go_loopg [0, 41] nv (fun k c i wr => ∃ (vs : List (Fin 4)) (cur : ByteArray), c = .string cur ∧ i = .int .i64 vs.length ∧ vs.length + k = nv ∧ s.data.toList.drop 1 = vs.map vb ++ cur.data.toList ∧ cur.size ≤ n ∧
          NodeIn (fun g => w.heap.size ≤ g) wr s[0] vs 0 (maskV vs) w.heap.size [] ∧ Below w.heap.size w wr)
        case atStart =>
          refine ⟨[], s.extract 1 s.size, rfl, rfl, by simp, by rw [Lib.extract_to_end]; rfl, by simp; omega, node_new w _ (Nat.le_refl _), (Below.refl _ _).alloc (Nat.le_refl _) _⟩
        case round =>
          obtain ⟨vs, cur, rfl, rfl, hk, htl, hcn, hnode, hbel⟩ := hrel
          have Htl := Lib.hid htl
          have Hk := Lib.hid hk
          have Hbel := Lib.hid hbel
          clear htl hk hbel
          by_cases hlt : vs.length < nv
          · by_cases hc0 : 0 < cur.size
            · obtain ⟨hce, hce2⟩ := empty_facts hc0
              cases hv : varOf cur[0] with
              | none =>
                have Hv := Lib.hid hv
                clear hv
                have hcontains : ∀ t w, t.data.toList = [cur[0]] → Calls Tryd.prog 94 #[.string ⟨#[97, 98, 99, 100]⟩, .string t] w fun e w' => e = .returned (.bool false) ∧ w = w' := fun t w ht => isVar_calls t _ false ht (by rw [Hv.out]; rfl) w
                have Hcon := Lib.hid hcontains
                have hext : (cur.extract 0 1).data.toList = [cur[0]] := by
                  rw [Lib.extract_data, drop_at hc0]; rfl
                have Hext := Lib.hid hext
                clear hcontains hext hnode
                go_wp2_with (go_at_call 94; refine (Hcon.out _ _ Hext.out).mono ?_; rintro e w' ⟨rfl, rfl⟩)
                go_ret2
                refine ⟨Hbel.out, .inl ⟨?_, cur, rfl⟩⟩
                rw [Hb0.out, Htl.out]
                refine parse_no_var Har.out vs _ hlt fun u r e => ?_
                have e2 := (drop_at (k := 0) hc0).symm.trans e
                simp only [List.cons.injEq] at e2
                have e3 := Hv.out
                rw [e2.1, varOf_vb] at e3
                cases e3
              | some v =>
                have Hv := Lib.hid hv
                clear hv
                have hcontains : ∀ t w, t.data.toList = [cur[0]] → Calls Tryd.prog 94 #[.string ⟨#[97, 98, 99, 100]⟩, .string t] w fun e w' => e = .returned (.bool true) ∧ w = w' := fun t w ht => isVar_calls t _ true ht (by rw [Hv.out]; rfl) w
                have Hcon := Lib.hid hcontains
                clear hcontains
                obtain ⟨_, vsv, psv, hB, hvs, hvS, hps, hpS⟩ := hnode
                have HvS := Lib.hid hvS
                have HpS := Lib.hid hpS
                clear hvS hpS
                have hc1 := cell_at hB 1
                have hc4 := cell_at hB 4
                have hf1 := free_at hB 1
                have hf4 := free_at hB 4
                have hlw := World.block_lt_of_cell? wr _ hc1
                simp only [List.getElem?_toArray, List.getElem?_cons_succ, List.getElem?_cons_zero] at hc1 hc4
                have hrow := ownsRow_ne hvs hB (by decide)
                have Hrow := Lib.hid hrow
                have HB := Lib.hid hB
                have Hvs := Lib.hid hvs
                have Hps := Lib.hid hps
                clear hB hvs hps hrow
                have hext : (cur.extract 0 1).data.toList = [cur[0]] := by
                  rw [Lib.extract_data, drop_at hc0]; rfl
                have Hext := Lib.hid hext
                clear hext
                obtain ⟨i0, hi0, hz0, hz1, hz2⟩ := info_parts Tryd.infoU8
                have hlen : vs.length < 1000000000 := by
                  have := congrArg List.length Htl.out
                  simp at this; omega
                have hcb : cur[0] = vb v := varOf_some.1 Hv.out
                have Hcb := Lib.hid hcb
                clear hcb
                go_upto_region 30 with (go_at_call 94; refine (Hcon.out _ _ Hext.out).mono ?_; rintro e w' ⟨rfl, rfl⟩)
                go_cut [] (fun wx => NodeIn (fun g => w.heap.size ≤ g) wx s[0] (vs ++ [v]) 0 (maskV vs) w.heap.size [] ∧ Below w.heap.size w wx)
                case first =>
                  go_region_law ((refine step_append_lies _ (by rfl) _ _ _ (by rfl) 0 5 i0 _ 1 1 Tryd.underlying22 hi0 hz0 hz1 hz2 rfl (by omega) vsv vs.length _ (by rfl) ((Hvs.out.alloc _).drew) ⟨wr.heap.size, 0, none⟩ 1 1 [byteV cur[0]] (by rfl) (by rfl) (World.news_of_block (cs := #[byteV cur[0]]) (t := 5) (fr := (0, 0)) (heap_alloc_new wr _)) (by simp [Value.oneCell', byteV]) (by omega) (by unfold maxLen; omega) (by omega) (Nat.zero_le _) (wr.heap.size + 1) (by simp) ?_; intro g cap w1 hown1 hgrow hat hlt1; have hB1 := grown_block hgrow HB.out Hrow.out; have hw1 := cell_at hB1 1; have hw4 := cell_at hB1 4; have gw1 := free_at hB1 1; have gw4 := free_at hB1 4; have HB1 := Lib.hid hB1; clear hB1))
                  all_goals
                    go_wp2_with fail
                    go_meet
                    case rel =>
                      refine ⟨?_, ?_⟩
                      · refine node_var v (Nat.le_refl _) HB1.out ?_ ?_ (row_grown Hps.out Hvs.out (by decide) hgrow) HpS.out
                        · rw [← Hcb.out]; exact hown1
                        · intro k hk
                          have e0 : g = k := by simpa [Value.ownBlock] using hk
                          subst e0
                          rcases hat with h | h
                          · exact HvS.out _ h
                          · omega
                      · refine Below.setCell (p := ⟨w.heap.size, 1, none⟩) ?_ (Nat.le_refl _) _
                        refine Below.grown (((Hbel.out).alloc (by omega) _).drew) hgrow (by simp; omega) HvS.out
                case rest =>
                  obtain ⟨hnode2, hbel2⟩ := hcut
                  have Hbel2 := Lib.hid hbel2
                  have hlwc := hbel2.size
                  clear hbel2
                  go_upto_region 31 with (fail)
                  have Hnode2 := Lib.hid hnode2
                  obtain ⟨_, vsv2, psv2, hB2, _, _, _, _⟩ := hnode2
                  have hd1 := cell_at hB2 1
                  have hd4 := cell_at hB2 4
                  have hg1 := free_at hB2 1
                  have hg4 := free_at hB2 4
                  simp only [List.getElem?_toArray, List.getElem?_cons_succ, List.getElem?_cons_zero] at hd1 hd4
                  clear hB2 hc1 hc4 hf1 hf4
                  obtain ⟨hcv, hv3⟩ : (cur[0].toNat : Int) = 97 + (v.val : Int) ∧ (v.val : Int) < 4 := by
                    rw [Hcb.out]
                    exact ⟨vb_int v, by omega⟩
                  go_cut [] (fun wx => NodeIn (fun g => w.heap.size ≤ g) wx s[0] (vs ++ [v]) 0 (maskV (vs ++ [v])) w.heap.size [] ∧ Below w.heap.size w wx)
                  case first =>
                    go_region
                    all_goals
                      go_wp2_with fail
                      go_meet
                      case rel =>
                        refine ⟨?_, Below.drew (Below.setCell (p := ⟨w.heap.size, 4, none⟩) Hbel2.out (Nat.le_refl _) _)⟩
                        rw [or_bit _ _ (maskV_lt vs), maskV_snoc]
                        exact NodeIn.setAll Hnode2.out _
                  case rest =>
                    obtain ⟨hnode3, hbel3⟩ := hcut
                    clear hcv
                    go_wp2_with fail
                    go_roundg (gk - 1)
                    case measure => have := Hk.out; omega
                    case rel =>
                      refine ⟨vs ++ [v], cur.extract 1 cur.size, rfl, by simp, ?_, ?_, ?_, hnode3, hbel3⟩
                      · have := Hk.out; simp; omega
                      · rw [Htl.out, Lib.extract_to_end, drop_at (k := 0) hc0 |> fun h => (by simpa using h : cur.data.toList = cur[0] :: cur.data.toList.drop 1), Hcb.out]
                        simp
                      · simp; omega
            · have hl : cur.data.toList = [] := List.eq_nil_of_length_eq_zero (by rw [← Lib.size_eq]; omega)
              have hl2 : cur.toList = [] := by rw [ByteArray.toList_eq]; exact hl
              have e1 : (cur.toList == []) = true := by rw [hl2]; rfl
              have e2 : cur.toList.isEmpty = true := by rw [hl2]; rfl
              have Hl := Lib.hid hl
              clear hl hl2 hc0 hnode
              go_wp2_with fail
              go_ret2
              refine ⟨Hbel.out, .inl ⟨?_, cur, rfl⟩⟩
              rw [Hb0.out, Htl.out]
              exact parse_no_var Har.out vs _ hlt fun u r e => by rw [Hl.out] at e; cases e
          · have hvl : vs.length = nv := by have := Hk.out; omega
            have Hvl := Lib.hid hvl
            clear hvl
            have hnt := NodeT.of hnode
            clear hnode
            have Hnt := Lib.hid hnt
            obtain ⟨_, _, _, hB, _, _, _, _, _⟩ := hnt
            have hc4 := cell_at hB 4
            have hc3 := cell_at hB 3
            have hf3 := free_at hB 3
            have hlw := block_lt hB
            simp only [List.getElem?_toArray, List.getElem?_cons_succ, List.getElem?_cons_zero] at hc3 hc4
            clear hB
            go_upto_if 85 with (fail)
            go_cut [] (fun wx => NodeT w.heap.size wx s[0] vs (if 0 < np then 0 else maskV vs) (maskV vs) [] ∧ Below w.heap.size w wx)
            case first =>
              by_cases hnp : 0 < np
              · go_wp2_with fail
                go_meet
                case rel =>
                  refine ⟨?_, Below.setCell (p := ⟨w.heap.size, 3, none⟩) (Below.setCell (p := ⟨w.heap.size, 3, none⟩) Hbel.out (Nat.le_refl _) _) (Nat.le_refl _) _⟩
                  rw [if_pos hnp]
                  exact NodeT.setFree (NodeT.setFree Hnt.out _) 0
              · go_wp2_with fail
                go_meet
                case rel =>
                  refine ⟨?_, Below.setCell (p := ⟨w.heap.size, 3, none⟩) Hbel.out (Nat.le_refl _) _⟩
                  rw [if_neg hnp]
                  exact NodeT.setFree Hnt.out _
            case rest =>
              obtain ⟨hnt1, hbel1⟩ := hcut
              clear hc4 hc3 hf3 hlw
              obtain ⟨F0, HF0, hF0⟩ : ∃ F0, Hid (F0 = if 0 < np then 0 else maskV vs) ∧ F0 < 16 := ⟨_, rfl, by split; decide; exact maskV_lt vs⟩
              rw [← HF0.out] at hnt1
              have Hnt1 := Lib.hid hnt1
              have Hbel1 := Lib.hid hbel1
              have hnp2 := (arity_le Har.out).2
              clear hnt1 hbel1
              go_upto_block 3 with (fail)
              go_wp2_with fail
              go_loopg [0, 90] np (fun k c i wr => ∃ (ps : List Fm) (cur2 : ByteArray), c = .string cur2 ∧ i = .int .i64 ps.length ∧ ps.length + k = np ∧ cur.data.toList = (ps.map Fm.text).flatten ++ cur2.data.toList ∧ cur2.size ≤ n ∧
                NodeT w.heap.size wr s[0] vs (orFree F0 ps) (orAll (maskV vs) ps) ps ∧ Below w.heap.size w wr)
              case atStart => exact ⟨[], cur, rfl, rfl, by simp, by simp, hcn, Hnt1.out, Hbel1.out⟩
              case round =>
                obtain ⟨ps, cur2, rfl, rfl, hk2, htl2, hcn2, hnt2, hbel2⟩ := hrel
                have Hk2 := Lib.hid hk2
                have Htl2 := Lib.hid htl2
                have Hnt2 := Lib.hid hnt2
                have Hbel2 := Lib.hid hbel2
                clear hk2 htl2 hnt2 hbel2
                by_cases hlt2 : ps.length < np
                · go_upto_region 42 with (go_at_call 73; refine (Ih.out _ _ hcn2 (by omega)).mono ?_; rintro e w1 ⟨hb1, ⟨hno, rest, rfl⟩ | ⟨f, rest, b, hp, htr, rfl⟩⟩)
                  · go_wp2_with fail
                    go_ret2
                    refine ⟨Hbel2.out.trans (hb1.mono Hbel2.out.size), .inl ⟨?_, rest, rfl⟩⟩
                    rw [Hb0.out, Htl.out, Htl2.out]
                    exact parse_no_part Har.out vs Hvl.out ps _ hlt2 hno
                  · have Hp := Lib.hid hp
                    have Hb1 := Lib.hid hb1
                    have hsz1 := hb1.size
                    obtain ⟨ks, vsv, psv, hB, h1, h2, h3, h4, h5⟩ := Hnt2.out
                    have hBlo := block_lt hB
                    have hB1 : w1.heap[w.heap.size]? = _ := (hb1.block _ hBlo).trans hB
                    have h1' := ownsRow_keep (base' := 0) h1 (fun g hg => ⟨hb1.block g (ownsRow_lt h1 hg).2, Nat.zero_le _⟩)
                    have h3' := ownsRow_keep (base' := 0) h3 (fun g hg => ⟨hb1.block g (ownsRow_lt h3 hg).2, Nat.zero_le _⟩)
                    have h4' : ∀ k, psv.ownBlock = some k → w.heap.size ≤ k ∧ k < wr.heap.size := fun k hk => ⟨h4 k hk, (ownsRow_lt h3 hk).2⟩
                    have h5' : TreesIn (fun g => w.heap.size < g ∧ psv.ownBlock ≠ some g ∧ g < wr.heap.size) w1 ps ks := h5.keep fun g hg hl => ⟨hb1.block g hl, hg.1, hg.2, hl⟩
                    have hkc := kidCells_of htr (B := w.heap.size) (by omega)
                    have hc2 := cell_at hB1 2
                    have hf2 := free_at hB1 2
                    simp only [List.getElem?_toArray, List.getElem?_cons_succ, List.getElem?_cons_zero] at hc2
                    have HB1 := Lib.hid hB1
                    have H1 := Lib.hid h1'
                    have H2 := Lib.hid h2
                    have H3 := Lib.hid h3'
                    have H4 := Lib.hid h4'
                    have H5 := Lib.hid h5'
                    have Htr := Lib.hid htr
                    have Hkc := Lib.hid hkc
                    clear hp hb1 hB h1 h2 h3 h4 h5 hB1 h1' h3' h4' h5' htr hkc
                    obtain ⟨i1, hi0, hz0, hz1, hz2⟩ := info_parts Tryd.infoPF
                    have hlks : ks.length < 1000000000 := by have := H5.out.1; have := (arity_le Har.out).2; omega
                    go_cut [] (fun wx => NodeT w.heap.size wx s[0] vs (orFree F0 ps) (orAll (maskV vs) ps) (ps ++ [f]) ∧ Below w.heap.size w wx ∧ KidCells wx w.heap.size b f)
                    case first =>
                      go_wp2_with (at_builtin; refine wpList_append_lies _ rfl _ _ _ rfl 0 61 i1 _ 1 8 Tryd.underlying64 hi0 hz0 hz1 hz2 rfl (by omega) psv ks.length _ rfl (H3.out.alloc _) ⟨w1.heap.size, 0, none⟩ 1 1 [kidV b] rfl rfl (World.news_of_block (cs := #[kidV b]) (t := 61) (fr := (0, 0)) (heap_alloc_new w1 _)) (by simp [Value.oneCell', kidV]) (by omega) (by unfold maxLen; omega) (by omega) (Nat.zero_le _) (w1.heap.size + 1) (by simp) ?_; intro g cap w2 hown1 hgrow hat hlt1; have hB2 := (grown_heap hgrow (Nat.lt_of_lt_of_le hBlo hsz1) (ownsRow_ne H3.out HB1.out (by decide))).trans HB1.out; have hw2 := cell_at hB2 2; have gw2 := free_at hB2 2; have HB2 := Lib.hid hB2; clear hB2)
                      go_meet
                      case rel =>
                        refine ⟨nodeT_part HB1.out H1.out H2.out H3.out H4.out H5.out hsz1 hBlo Htr.out hown1 hgrow hat, ?_, KidCells.set (kidCells_heap Hkc.out ?_) 2 _⟩
                        · exact Below.setCell (p := ⟨w.heap.size, 2, none⟩) (Below.grown ((Hbel2.out.trans (Hb1.out.mono Hbel2.out.size)).alloc (by have := Hbel2.out.size; omega) _) hgrow (by have := Hbel2.out.size; simp; omega) (fun k hk => (H4.out k hk).1)) (Nat.le_refl _) _
                        · obtain ⟨_, ⟨hS, _, _, hbb, _⟩, _⟩ := Htr.out.open
                          have hlo : wr.heap.size ≤ b := hS
                          exact grown_heap hgrow (block_lt hbb) (fun e => by have := (H4.out b e).2; omega)
                    case rest =>
                      obtain ⟨hnt3, hbel3, hkc3⟩ := hcut
                      clear hc2 hf2
                      have Hnt3 := Lib.hid hnt3
                      have Hbel3 := Lib.hid hbel3
                      have Hkc3 := Lib.hid hkc3
                      obtain ⟨_, _, _, hB, _, _, _, _, _⟩ := hnt3
                      obtain ⟨_, hk3, _⟩ := hkc3
                      have hc3 := cell_at hB 3
                      have hf3 := free_at hB 3
                      simp only [List.getElem?_toArray, List.getElem?_cons_succ, List.getElem?_cons_zero] at hc3
                      clear hB hbel3
                      go_upto_region 43 with (fail)
                      go_cut [] (fun wx => NodeT w.heap.size wx s[0] vs (orFree F0 (ps ++ [f])) (orAll (maskV vs) ps) (ps ++ [f]) ∧ Below w.heap.size w wx ∧ KidCells wx w.heap.size b f)
                      case first =>
                        go_region
                        all_goals
                          go_wp2_with fail
                          go_meet
                          case rel =>
                            rw [or_nat _ _ (orFree_lt hF0 ps) (freeBits_lt f), orFree_snoc]
                            exact ⟨NodeT.drew (NodeT.setFree Hnt3.out _), Below.drew (Below.setCell (p := ⟨w.heap.size, 3, none⟩) Hbel3.out (Nat.le_refl _) _), KidCells.drew (KidCells.set Hkc3.out 3 _)⟩
                      case rest =>
                        obtain ⟨hnt4, hbel4, hkc4⟩ := hcut
                        clear hc3 hf3 hk3
                        have Hnt4 := Lib.hid hnt4
                        have Hbel4 := Lib.hid hbel4
                        obtain ⟨_, _, _, hB, _, _, _, _, _⟩ := hnt4
                        obtain ⟨_, _, hk4⟩ := hkc4
                        have hc4 := cell_at hB 4
                        have hf4 := free_at hB 4
                        simp only [List.getElem?_toArray, List.getElem?_cons_succ, List.getElem?_cons_zero] at hc4
                        clear hB hbel4
                        go_upto_region 44 with (fail)
                        go_cut [] (fun wx => NodeT w.heap.size wx s[0] vs (orFree F0 (ps ++ [f])) (orAll (maskV vs) (ps ++ [f])) (ps ++ [f]) ∧ Below w.heap.size w wx)
                        case first =>
                          go_region
                          all_goals
                            go_wp2_with fail
                            go_meet
                            case rel =>
                              rw [or_nat _ _ (orAll_lt (maskV_lt vs) ps) (allBits_lt f), orAll_snoc]
                              exact ⟨NodeT.drew (NodeT.setAll Hnt4.out _), Below.drew (Below.setCell (p := ⟨w.heap.size, 4, none⟩) Hbel4.out (Nat.le_refl _) _)⟩
                        case rest =>
                          obtain ⟨hnt5, hbel5⟩ := hcut
                          clear hc4 hf4 hk4
                          have Hnt5 := Lib.hid hnt5
                          have Hbel5 := Lib.hid hbel5
                          clear hnt5 hbel5
                          go_wp2_with fail
                          go_roundg (gk - 1)
                          case measure => have := Hk2.out; omega
                          case rel =>
                            have e1 := parse_some.1 Hp.out
                            refine ⟨ps ++ [f], rest, rfl, by simp, ?_, ?_, ?_, Hnt5.out, Hbel5.out⟩
                            · have := Hk2.out; simp; omega
                            · rw [Htl2.out, e1]; simp
                            · have := congrArg List.length e1
                              rw [List.length_append, ← Lib.size_eq, ← Lib.size_eq] at this
                              omega
                · have hpl : ps.length = np := by have := Hk2.out; omega
                  have Hpl := Lib.hid hpl
                  clear hpl
                  have hhd : parse s.data.toList = parse (s[0] :: (vs.map vb ++ ((ps.map Fm.text).flatten ++ cur2.data.toList))) := by rw [Hb0.out, Htl.out, Htl2.out]
                  obtain ⟨f, ef1, ef2, ef3, ef4⟩ := parse_all Har.out vs Hvl.out ps Hpl.out cur2.data.toList
                  have Hpar := Lib.hid (hhd.trans ef4)
                  have Hf1 := Lib.hid ef1
                  have Hf2 := Lib.hid ef2
                  have Hf3 := Lib.hid ef3
                  clear hhd ef1 ef2 ef3 ef4
                  have hall := allBits_eq f
                  rw [Hf2.out, Hf3.out] at hall
                  have Hall := Lib.hid hall
                  clear hall
                  obtain ⟨_, vsv, _, hB, h1, _, _, _, _⟩ := Hnt2.out
                  have hc0 := cell_at hB 0
                  have hc1 := cell_at hB 1
                  have hc3 := cell_at hB 3
                  have hf3 := free_at hB 3
                  simp only [List.getElem?_toArray, List.getElem?_cons_succ, List.getElem?_cons_zero] at hc0 hc1 hc3
                  clear hB
                  have H1 := Lib.hid h1
                  clear h1
                  cases hq : isQuB s[0] with
                  | false =>
                    have hfree := freeBits_no f (by rw [Hf1.out]; exact hq)
                    rw [Hf2.out, Hf3.out, Hpl.out, ← HF0.out] at hfree
                    have Hfree := Lib.hid hfree
                    have Hq := Lib.hid hq
                    clear hfree hq
                    go_wp2_with (go_at_call 88; refine (isQuantifier_at s[0] _ Hq.out _ _ hc0).mono ?_; rintro e w' ⟨rfl, rfl⟩)
                    go_ret2
                    refine ⟨Hbel2.out, .inr ⟨f, cur2, w.heap.size, Hpar.out, tree_done ?_, rfl⟩⟩
                    rw [Hf1.out, Hf2.out, Hf3.out, Hall.out, Hfree.out]
                    exact Hnt2.out
                  | true =>
                    obtain ⟨v, hv, hfree⟩ := freeBits_yes f (by rw [Hf1.out]; exact hq)
                    rw [Hf2.out] at hv
                    rw [Hf2.out, Hf3.out, Hpl.out, ← HF0.out] at hfree
                    have Hfree := Lib.hid hfree
                    have Hq := Lib.hid hq
                    have Hv := Lib.hid hv
                    clear hfree hq hv
                    have hvl1 : vs.length = 1 := by rw [Hv.out]; rfl
                    obtain ⟨g, cap, rfl, hcap, hcm, _, hglt, hrow⟩ := row_open H1.out (by omega)
                    have hgc : wr.cell? ⟨g, 0, none⟩ = some (.int .u8 (vb v).toNat) := by
                      rw [hrow 0 (by omega), Hv.out]; rfl
                    clear hrow
                    obtain ⟨hcv, hv3⟩ : ((vb v).toNat : Int) = 97 + (v.val : Int) ∧ (v.val : Int) < 4 := ⟨vb_int v, by omega⟩
                    have hvl2 : 0 < vs.length := by omega
                    clear hvl1
                    go_upto_region 48 with (go_at_call 88; refine (isQuantifier_at s[0] _ Hq.out _ _ hc0).mono ?_; rintro e w' ⟨rfl, rfl⟩)
                    go_cut [] (fun wx => NodeT w.heap.size wx s[0] vs f.freeBits (orAll (maskV vs) ps) ps ∧ Below w.heap.size w wx)
                    case first =>
                      go_region
                      all_goals
                        go_wp2_with fail
                        go_meet
                        case rel =>
                          rw [andNot_bit _ _ (orFree_lt hF0 ps), ← Hfree.out]
                          exact ⟨NodeT.drew (NodeT.setFree Hnt2.out _), Below.drew (Below.setCell (p := ⟨w.heap.size, 3, none⟩) Hbel2.out (Nat.le_refl _) _)⟩
                    case rest =>
                      obtain ⟨hnt6, hbel6⟩ := hcut
                      have Hnt6 := Lib.hid hnt6
                      have Hbel6 := Lib.hid hbel6
                      clear hnt6 hbel6 hc0 hc1 hc3 hf3 hgc hcv
                      go_wp2_with fail
                      go_ret2
                      refine ⟨Hbel6.out, .inr ⟨f, cur2, w.heap.size, Hpar.out, tree_done ?_, rfl⟩⟩
                      rw [Hf1.out, Hf2.out, Hf3.out, Hall.out]
                      exact Hnt6.out
    · exact parsePart_empty s w (by omega)
end Go.Proofs.YtgiaebeoldigbaaDoor

namespace Go.Proofs.YtgiaebeoldigbaaDoor
open Go.RowKit
open Pl

/-- a tree of f was laid -/
def TreePost (f : Fm) (w : World) (e : Ending) (w' : World) : Prop := ∃ b, e = .returned (kidV b) ∧ TreeAt w.heap.size w' f b ∧ Below w.heap.size w w'

set_option maxHeartbeats 400000 in
theorem parseFormula_no (s : ByteArray) (w : World) (h : ¬ IsFm s.data.toList) :
    Calls Tryd.prog 42 #[.string s] w fun e w' => e = .returned (.pointer none) ∧ Below w.heap.size w w' := by
  have H := Lib.hid h
  clear h
  by_cases hs : s.size ≤ 4000
  · go_enter Tryd.func42, Tryd.ntmps42
    go_upto_region 4 with (go_at_call 73; refine (parsePart_calls s.size s w (Nat.le_refl _) (by omega)).mono ?_; rintro e w1 ⟨hb1, ⟨hno, rest, rfl⟩ | ⟨f, rest, b, hp, htr, rfl⟩⟩)
    · have Hb1 := Lib.hid hb1
      clear hno hb1
      go_wp2_with fail
      all_goals (go_ret; exact ⟨rfl, Hb1.out⟩)
    · have hr : rest.data.toList ≠ [] := by
        intro e
        apply H.out
        have e1 := parse_some.1 hp
        rw [e] at e1
        exact ⟨by rw [← Lib.size_eq]; exact hs, f, by simpa using e1⟩
      have hr0 : 0 < rest.size := by
        rw [Lib.size_eq]
        exact List.length_pos_iff.2 hr
      obtain ⟨hne, hne2⟩ := empty_facts hr0
      have Hb1 := Lib.hid hb1
      clear hp htr hb1 hr
      go_wp2_with fail
      go_ret
      exact ⟨rfl, Hb1.out⟩
  · go_enter Tryd.func42, Tryd.ntmps42
    go_wp2_with fail
    go_ret
    exact ⟨rfl, Below.refl _ _⟩

set_option maxHeartbeats 400000 in
theorem parseFormula_yes (s : ByteArray) (f : Fm) (w : World) (hs : s.size ≤ 4000) (h : s.data.toList = f.text) :
    Calls Tryd.prog 42 #[.string s] w (TreePost f w) := by
  have H := Lib.hid h
  clear h
  go_enter Tryd.func42, Tryd.ntmps42
  go_upto_region 4 with (go_at_call 73; refine (parsePart_calls s.size s w (Nat.le_refl _) (by omega)).mono ?_; rintro e w1 ⟨hb1, ⟨hno, rest, rfl⟩ | ⟨g, rest, b, hp, htr, rfl⟩⟩)
  · exact absurd (H.out.trans (List.append_nil _).symm) (parse_none.1 hno f [])
  · have e1 := parse_some.1 hp
    rw [H.out] at e1
    obtain ⟨rfl, e2⟩ := Fm.text_inj f g [] _ (by simpa using e1)
    have hl2 : rest.toList = [] := by rw [ByteArray.toList_eq]; exact e2.symm
    have g1 : (rest.toList == []) = true := by rw [hl2]; rfl
    have g2 : rest.toList.isEmpty = true := by rw [hl2]; rfl
    have Hb1 := Lib.hid hb1
    have Htr := Lib.hid htr
    clear hp htr hb1 e1 e2 hl2
    go_wp2_with fail
    go_ret
    exact ⟨b, rfl, Htr.out, Hb1.out⟩

end Go.Proofs.YtgiaebeoldigbaaDoor

namespace Go.Proofs.YtgiaebeoldigbaaDoor
open Go.RowKit
open Pl

/-- the cells of a node that a walk reads -/
theorem node_cells {S : Nat → Prop} {w : World} {f : Fm} {b : Nat} (h : TreeIn S w f b) :
    ∃ ks vsv psv, w.cell? ⟨b, 0, none⟩ = some (.int .u8 f.op.toNat) ∧ w.cell? ⟨b, 1, none⟩ = some vsv ∧ w.cell? ⟨b, 2, none⟩ = some psv ∧
      w.cell? ⟨b, 3, none⟩ = some (.int .i64 f.freeBits) ∧ w.cell? ⟨b, 4, none⟩ = some (.int .i64 f.allBits) ∧
      w.ownsRow 0 5 1 vsv f.vars.length (f.vars.map fun v => byteV (vb v)) ∧ w.ownsRow 0 61 1 psv ks.length (ks.map kidV) ∧ TreesIn S w f.parts ks := by
  obtain ⟨ks, ⟨_, vsv, psv, hb, h1, _, h2, _⟩, h3⟩ := h.open
  exact ⟨ks, vsv, psv, cell_at hb 0, cell_at hb 1, cell_at hb 2, cell_at hb 3, cell_at hb 4, h1, h2, h3⟩

/-- a row that may be empty, as a slice -/
theorem row_slice {w : World} {base : Nat} {e : TypeId} {v : Value} {n : Nat} {xs : List Value} (h : w.ownsRow base e 1 v n xs) :
    ∃ a cap, v = .slice a n cap ∧ xs.length = n ∧ (∀ j, j < n → ∃ g, a = some ⟨g, 0, none⟩ ∧ w.cell? ⟨g, j, none⟩ = xs[j]?) := by
  rcases Nat.eq_zero_or_pos n with h0 | h0
  · subst h0
    obtain ⟨hl, ⟨rfl, _⟩ | ⟨g, cap, cur, rfl, _⟩⟩ := h
    · exact ⟨_, _, rfl, by simpa using hl, fun j hj => absurd hj (Nat.not_lt_zero _)⟩
    · exact ⟨_, _, rfl, by simpa using hl, fun j hj => absurd hj (Nat.not_lt_zero _)⟩
  · obtain ⟨g, cap, rfl, _, _, _, _, hc⟩ := row_open h h0
    exact ⟨_, _, rfl, by simpa using h.1, fun j hj => ⟨g, rfl, hc j hj⟩⟩

theorem parts_le (f : Fm) : f.parts.length ≤ 2 := by cases f <;> simp [Fm.parts]
theorem vars_le (f : Fm) : f.vars.length ≤ 2 := by cases f <;> simp [Fm.vars]

theorem part_text_le {f p : Fm} (h : p ∈ f.parts) : p.text.length ≤ f.text.length := by
  cases f <;> simp [Fm.parts] at h
  case neg => subst h; simp [Fm.text]
  case con => rcases h with h | h <;> subst h <;> simp [Fm.text] <;> omega
  case dis => rcases h with h | h <;> subst h <;> simp [Fm.text] <;> omega
  case qu => subst h; simp [Fm.text]; omega

theorem foldmax_lt {m : Nat} : ∀ (ps : List Fm), m < 100000 → (∀ p ∈ ps, p.rank < 100000) → ps.foldl (fun m p => max m p.rank) m < 100000 := by
  intro ps
  induction ps generalizing m with
  | nil => intro h _; exact h
  | cons p ps ih =>
    intro h hp
    exact ih (Nat.max_lt.2 ⟨h, hp p (by simp)⟩) (fun q hq => hp q (by simp [hq]))

set_option maxHeartbeats 400000 in
theorem rank_calls (n : Nat) : ∀ (f : Fm) (b : Nat) (S : Nat → Prop) (w : World), f.size ≤ n → TreeIn S w f b → f.text.length ≤ 4000 →
    Calls Tryd.prog 60 #[kidV b] w fun e w' => e = .returned (.int .i64 f.rank) ∧ w = w' := by
  induction n with
  | zero => intro f b S w hn _ _; cases f <;> simp [Fm.size] at hn
  | succ n ih =>
    intro f b S w hn ht hl
    obtain ⟨ks, vsv, psv, hc0, _, hc2, _, _, _, hr, hts⟩ := node_cells ht
    obtain ⟨a, cap, rfl, hkl, hrow⟩ := row_slice hr
    have hkl2 : ks.length = f.parts.length := hts.1
    have hp2 := parts_le f
    have hkl3 : ks.length ≤ 2 := by omega
    have Ih := Lib.hid ih
    have Hrow := Lib.hid hrow
    have Hts := Lib.hid hts
    have Hkl := Lib.hid hkl2
    have hrk : ∀ p ∈ f.parts, p.rank < 100000 := fun p hp => by have := rank_le p; have := part_text_le hp; omega
    have Hrk := Lib.hid hrk
    have hfin := rank_eq f
    have hrl := rank_le f
    have Hfin := Lib.hid hfin
    clear ih hrow hts hkl hkl2 hr hrk hfin ht
    go_enter Tryd.func60, Tryd.ntmps60
    go_wp2_with fail
    go_loop [3, 11] (fun m i => ∃ k : Nat, k ≤ ks.length ∧ i = .int .i64 k ∧ m = .int .i64 ((f.parts.take k).foldl (fun m p => max m p.rank) 0 : Nat)) (fun _ i => ks.length - (intOf i).toNat)
    case atStart => exact ⟨0, Nat.zero_le _, rfl, rfl⟩
    case round =>
      obtain ⟨k, hk, rfl, rfl⟩ := hrel
      have hm : ((f.parts.take k).foldl (fun m p => max m p.rank) 0) < 100000 := foldmax_lt _ (by decide) (fun p hp => Hrk.out p (List.mem_of_mem_take hp))
      by_cases hlt : k < ks.length
      · obtain ⟨g, rfl, hcell⟩ := Hrow.out k hlt
        have hkf : k < f.parts.length := by rw [← Hkl.out]; exact hlt
        have hcell2 : w.cell? ⟨g, k, none⟩ = some (kidV ks[k]) := by rw [hcell, List.getElem?_map, List.getElem?_eq_getElem hlt]; rfl
        have hpk := Hts.out.2 k f.parts[k] ks[k] (List.getElem?_eq_getElem hkf) (List.getElem?_eq_getElem hlt)
        have hmem : f.parts[k] ∈ f.parts := List.getElem_mem hkf
        have hsz := Fm.size_parts hmem
        have hcall := Ih.out f.parts[k] ks[k] S w (by omega) hpk (by have := part_text_le hmem; omega)
        have Hcall := Lib.hid hcall
        have hrk2 := Hrk.out _ hmem
        have hsnoc : (f.parts.take (k + 1)).foldl (fun m p => max m p.rank) 0 = max ((f.parts.take k).foldl (fun m p => max m p.rank) 0) f.parts[k].rank := by
          rw [List.take_succ_eq_append_getElem hkf, List.foldl_append]; rfl
        have Hsnoc := Lib.hid hsnoc
        clear hcell hpk hmem hsz hcall hsnoc
        go_wp2_with (go_at_call 60; refine (Hcall.out).mono ?_; rintro e w' ⟨rfl, rfl⟩)
        go_round
        case rel => exact ⟨k + 1, by omega, by go_num, by rw [Hsnoc.out]; congr 1; first | (split <;> omega) | omega⟩
        case measure => simp [intOf]; omega
      · have hk2 : k = ks.length := by omega
        have htk : f.parts.take k = f.parts := List.take_of_length_le (by rw [hk2, Hkl.out]; exact Nat.le_refl _)
        have Htk := Lib.hid htk
        clear htk hk2
        cases hco : isCoB f.op with
        | true =>
          have hadd : rankAdd f.op = f.op.toNat - 48 := by simp [rankAdd, hco]
          have hop : 50 ≤ f.op.toNat ∧ f.op.toNat ≤ 52 := by
            simp only [isCoB, Bool.or_eq_true, beq_iff_eq] at hco
            rcases hco with (h | h) | h <;> rw [h] <;> decide
          obtain ⟨hop1, hop2⟩ : 50 ≤ (f.op.toNat : Int) ∧ (f.op.toNat : Int) ≤ 52 := by omega
          have Hadd := Lib.hid hadd
          have Hco := Lib.hid hco
          clear hadd hco hop
          go_wp2_with (first | (go_at_call 87; refine (isCounting_at f.op _ Hco.out _ _ hc0).mono ?_; rintro e w' ⟨rfl, rfl⟩))
          go_ret
          refine ⟨ret_int ?_, rfl⟩
          rw [Hfin.out, Hadd.out, Htk.out]
          omega
        | false =>
          cases hqu : isQuB f.op with
          | true =>
            have hadd : rankAdd f.op = 1 := by simp [rankAdd, hco, hqu]
            have Hadd := Lib.hid hadd
            have Hco := Lib.hid hco
            have Hqu := Lib.hid hqu
            clear hadd hco hqu
            go_wp2_with (first | (go_at_call 87; refine (isCounting_at f.op _ Hco.out _ _ hc0).mono ?_; rintro e w' ⟨rfl, rfl⟩) | (go_at_call 88; refine (isQuantifier_at f.op _ Hqu.out _ _ hc0).mono ?_; rintro e w' ⟨rfl, rfl⟩))
            go_ret
            refine ⟨ret_int ?_, rfl⟩
            rw [Hfin.out, Hadd.out, Htk.out]
            omega
          | false =>
            have hadd : rankAdd f.op = 0 := by simp [rankAdd, hco, hqu]
            have Hadd := Lib.hid hadd
            have Hco := Lib.hid hco
            have Hqu := Lib.hid hqu
            clear hadd hco hqu
            go_wp2_with (first | (go_at_call 87; refine (isCounting_at f.op _ Hco.out _ _ hc0).mono ?_; rintro e w' ⟨rfl, rfl⟩) | (go_at_call 88; refine (isQuantifier_at f.op _ Hqu.out _ _ hc0).mono ?_; rintro e w' ⟨rfl, rfl⟩))
            go_ret
            refine ⟨ret_int ?_, rfl⟩
            rw [Hfin.out, Hadd.out, Htk.out]
            omega

/-- what a walk over the parts is told -/
def AnyPost (f : Fm) (e : Ending) : Prop := (f.parts.any Fm.counts = false ∧ e = .returned (.int .i64 (-1))) ∨ (f.parts.any Fm.counts = true ∧ ∃ k : Nat, k ≤ 2 ∧ e = .returned (.int .i64 k))

/-- a bit as the walk reckons it -/
theorem shr_bit (m k : Nat) (hm : m < 16) (hk : k < 4) : (bits .and .i64 ((m : Int) / 2 ^ k) 1 == 1) = m.testBit k := by
  have h : ∀ (m : Fin 16) (k : Fin 4), (bits .and .i64 ((m.val : Int) / 2 ^ k.val) 1 == 1) = m.val.testBit k.val := by decide +kernel
  exact h ⟨m, hm⟩ ⟨k, hk⟩

theorem abcd_at (k : Nat) (hk : k < 4) : (ByteArray.mk #[97, 98, 99, 100]).extract k (k + 1) = bs [UInt8.ofNat (97 + k)] := by
  apply eq_bs
  rw [Lib.extract_data]
  match k, hk with
  | 0, _ => rfl
  | 1, _ => rfl
  | 2, _ => rfl
  | 3, _ => rfl

set_option maxHeartbeats 400000 in
theorem varsText_calls (m : Nat) (hm : m < 16) (w : World) :
    Calls Tryd.prog 55 #[.int .i64 m] w fun e w' => e = .returned (.string (bs (varsL m 4))) ∧ w = w' := by
  go_enter Tryd.func55, Tryd.ntmps55
  go_wp2_with fail
  go_loop [3, 5] (fun o i => ∃ k : Nat, k ≤ 4 ∧ i = .int .i64 k ∧ o = .string (bs (varsL m k))) (fun _ i => 4 - (intOf i).toNat)
  case atStart => exact ⟨0, by omega, rfl, rfl⟩
  case round =>
    obtain ⟨k, hk, rfl, rfl⟩ := hrel
    have hsz : (bs (varsL m k)).size ≤ 4 := by rw [bs_size]; have := varsL_len m k; omega
    by_cases hlt : k < 4
    · have hbit := shr_bit m k hm hlt
      cases hb : m.testBit k with
      | true =>
        rw [hb] at hbit
        have Hb := Lib.hid hb
        clear hb
        go_wp2_with fail
        go_round
        case rel => exact ⟨k + 1, by omega, by go_num, str_eq (by rw [varsL_yes Hb.out, abcd_at k hlt, append_bs]; rfl)⟩
        case measure => simp [intOf]; omega
      | false =>
        rw [hb] at hbit
        have Hb := Lib.hid hb
        clear hb
        go_wp2_with fail
        go_round
        case rel => exact ⟨k + 1, by omega, by go_num, str_eq (by rw [varsL_no Hb.out])⟩
        case measure => simp [intOf]; omega
    · obtain rfl : k = 4 := by omega
      go_wp2_with fail
      go_ret
      exact ⟨rfl, rfl⟩

end Go.Proofs.YtgiaebeoldigbaaDoor

namespace Go.Proofs.YtgiaebeoldigbaaDoor
open Go.RowKit
open Pl

theorem findB_quant (b : UInt8) : decide (0 ≤ findB b [65, 83, 50, 51, 52]) = isQuB b := by
  have h := findB_nonneg (c := b) (l := [65, 83, 50, 51, 52])
  rw [Bool.eq_iff_iff, decide_eq_true_iff, h]
  simp [isQuB, or_assoc]

theorem l2Quant_calls (b : UInt8) (r : Bool) (hr : isQuB b = r) (w : World) :
    Calls Tryd.prog 81 #[.int .u8 b.toNat] w fun e w' => e = .returned (.bool r) ∧ w = w' := by
  have Hr := Lib.hid hr
  clear hr
  go_enter Tryd.func81, Tryd.ntmps81
  go_wp2_with (go_at_call 90; refine (l15Find_calls _ b _ (by decide)).mono ?_; rintro e w' ⟨rfl, rfl⟩)
  go_ret
  exact ⟨ret_bool (by rw [← Hr.out]; exact findB_quant b), rfl⟩

/-- a formula at an index -/
theorem at_op {s : ByteArray} {k : Nat} {f : Fm} {r : List UInt8} (h : s.data.toList.drop k = f.text ++ r) :
    ∃ hk : k < s.size, s[k] = f.op ∧ k + f.text.length ≤ s.size := by
  have h1 := congrArg List.length h
  rw [List.length_drop, List.length_append, ← Lib.size_eq] at h1
  have hp := f.text_pos
  have hk : k < s.size := by omega
  refine ⟨hk, ?_, by omega⟩
  rw [drop_at hk, Fm.text_eq] at h
  simp only [List.cons_append, List.cons.injEq] at h
  exact h.1

theorem at_two {l : List UInt8} {k : Nat} {b : UInt8} {p q : Fm} {r : List UInt8} (h : l.drop k = b :: (p.text ++ q.text) ++ r) :
    l.drop (k + 1) = p.text ++ (q.text ++ r) ∧ l.drop (k + 1 + p.text.length) = q.text ++ r := by
  have h1 : l.drop (k + 1) = p.text ++ (q.text ++ r) := drop_add_of (p := [b]) (by simpa using h)
  exact ⟨h1, drop_add_of h1⟩

theorem at_one {l : List UInt8} {k : Nat} {b : UInt8} {p : Fm} {r : List UInt8} (h : l.drop k = b :: p.text ++ r) : l.drop (k + 1) = p.text ++ r := drop_add_of (p := [b]) (by simpa using h)
theorem at_qu {l : List UInt8} {k : Nat} {b c : UInt8} {p : Fm} {r : List UInt8} (h : l.drop k = b :: c :: p.text ++ r) : l.drop (k + 2) = p.text ++ r := drop_add_of (p := [b, c]) (by simpa using h)

/-- -1 for a text that is no formula, else a number -/
noncomputable def numV (l : List UInt8) (g : Fm → Nat) : Int := match parse l with | some (f, []) => if l.length ≤ 4000 then (g f : Int) else -1 | _ => -1

theorem numV_yes {l : List UInt8} {f : Fm} (g : Fm → Nat) (h : l = f.text) (hl : l.length ≤ 4000) : numV l g = g f := by
  unfold numV
  rw [parse_some.2 (show l = f.text ++ [] by rw [h]; simp)]
  simp [hl]

theorem numV_no {l : List UInt8} (g : Fm → Nat) (h : ¬ IsFm l) : numV l g = -1 := by
  unfold numV
  cases hp : parse l with
  | none => rfl
  | some x =>
    obtain ⟨f, r⟩ := x
    cases r with
    | nil =>
      have := parse_some.1 hp
      by_cases hl : l.length ≤ 4000
      · exact absurd ⟨hl, f, by simpa using this⟩ h
      · simp [hl]
    | cons a r => rfl

/-- a formula, or not -/
theorem fm_cases (s : ByteArray) : (fmB s.data.toList = false ∧ ¬ IsFm s.data.toList) ∨ ∃ f : Fm, fmB s.data.toList = true ∧ s.data.toList = f.text ∧ s.size ≤ 4000 ∧ f.text.length ≤ 4000 := by
  by_cases h : IsFm s.data.toList
  · obtain ⟨hl, f, hf⟩ := h
    exact .inr ⟨f, fmB_true.2 ⟨hl, f, hf⟩, hf, by rw [Lib.size_eq]; exact hl, by rw [← hf]; exact hl⟩
  · exact .inl ⟨fmB_false.2 h, h⟩

theorem RankOf_impl (s : ByteArray) (w : World) :
    Calls Tryd.prog 26 #[.string s] w fun e w' => e = .returned (.int .i64 (numV s.data.toList Fm.rank)) ∧ Below w.heap.size w w' := by
  rcases fm_cases s with ⟨hb, hno⟩ | ⟨f, hb, hf, hs4, hl4⟩
  · have hv := numV_no Fm.rank hno
    rw [hv]
    have Hno := Lib.hid hno
    clear hb hv hno
    go_enter Tryd.func26, Tryd.ntmps26
    go_wp2_with (go_at_call 42; refine (parseFormula_no s w Hno.out).mono ?_; rintro e w1 ⟨rfl, hb1⟩)
    go_ret
    exact ⟨rfl, hb1⟩
  · have hv := numV_yes Fm.rank hf (by rw [hf]; exact hl4)
    rw [hv]
    have Hf := Lib.hid hf
    clear hb hv hf
    go_enter Tryd.func26, Tryd.ntmps26
    go_wp2_with (first | (go_at_call 42; refine (parseFormula_yes s f w hs4 Hf.out).mono ?_; rintro e w1 ⟨b, rfl, htr, hb1⟩; have Htr := Lib.hid htr; clear htr) | (go_at_call 60; refine (rank_calls f.size f b _ _ (Nat.le_refl _) Htr.out hl4).mono ?_; rintro e w' ⟨rfl, rfl⟩))
    go_ret
    exact ⟨rfl, hb1⟩


end Go.Proofs.YtgiaebeoldigbaaDoor

namespace Go.Proofs.YtgiaebeoldigbaaDoor
open Go.RowKit
open Pl
set_option linter.unusedSimpArgs false

theorem varI_of {s : ByteArray} {k : Nat} {v : Fin 4} {r : List UInt8} (h : s.data.toList.drop k = vb v :: r) : varI s.data.toList k = v.val := by
  have h1 : s.data.toList[k]? = some (vb v) := by
    have h2 : (s.data.toList.drop k)[0]? = some (vb v) := by rw [h]; rfl
    simpa using h2
  unfold varI
  rw [h1]
  simp [varOf_vb]

theorem l2Var_of (s : ByteArray) (k : Nat) (v : Fin 4) (r : List UInt8) (m : Int) (w : World) (hs : s.size ≤ 4000) (h : s.data.toList.drop k = vb v :: r) (hm : m = k) :
    Calls Tryd.prog 80 #[.string s, .int .i64 m] w fun e w' => e = .returned (.int .i64 v.val) ∧ w = w' := by
  subst hm
  have hk : k < s.size := by
    have := congrArg List.length h
    rw [List.length_drop, ← Lib.size_eq] at this
    simp at this; omega
  rw [← varI_of h]
  exact l2Var_at s k w (by unfold maxLen; omega) (by omega) (by unfold maxLen; omega)

theorem one_bit (v : Fin 4) : wrap64 (2 ^ v.val) = ((1 <<< v.val : Nat) : Int) := by revert v; decide +kernel

set_option maxHeartbeats 1000000 in
set_option maxRecDepth 100000 in
theorem l2Free_calls (n : Nat) : ∀ (f : Fm) (s : ByteArray) (k : Nat) (r : List UInt8) (m : Int) (w : World), f.size ≤ n → s.data.toList.drop k = f.text ++ r → s.size ≤ 4000 → m = k →
    Calls Tryd.prog 50 #[.string s, .int .i64 m] w fun e w' => e = .returned (.tuple #[.int .i64 f.freeBits, .int .i64 (k + f.text.length : Nat)]) ∧ w = w' := by
  induction n with
  | zero => intro f s k r m w hn; cases f <;> simp [Fm.size] at hn
  | succ n ih =>
    intro f s k r m w hn hd hs hm
    subst hm
    obtain ⟨hk1, hop, hle⟩ := at_op hd
    have hk := hk1
    have Ih := Lib.hid ih
    clear ih
    cases f with
    | tru =>
      have hk := hk1
      have hb : (s[k].toNat : Int) = 116 := by rw [hop]; rfl
      clear hop hd
      go_enter Tryd.func50, Tryd.ntmps50
      go_wp2_with fail
      go_ret2
      exact ⟨rfl, rfl⟩
    | fls =>
      have hk := hk1
      have hb : (s[k].toNat : Int) = 102 := by rw [hop]; rfl
      clear hop hd
      go_enter Tryd.func50, Tryd.ntmps50
      go_wp2_with fail
      go_ret2
      exact ⟨rfl, rfl⟩
    | pr v =>
      have hb : (s[k].toNat : Int) = 80 := by rw [hop]; rfl
      have h1 := l2Var_of s (k + 1) v r ((k : Int) + 1) w hs (drop_add_of (p := [80]) (by simpa [Fm.text] using hd)) (by omega)
      have H1 := Lib.hid h1
      have hv3 : (v.val : Int) < 4 := by omega
      simp only [Fm.text, List.length_cons, List.length_nil] at hle
      clear hop hd h1
      go_enter Tryd.func50, Tryd.ntmps50
      go_wp2_with (go_at_call 80; refine (H1.out).mono ?_; rintro e w' ⟨rfl, rfl⟩)
      go_ret2
      exact ⟨ret_pair (by show Value.int .i64 _ = Value.int .i64 _; congr 1 <;> exact one_bit v) (by show Value.int .i64 _ = Value.int .i64 _; congr 1 <;> simp [Fm.text] <;> omega), rfl⟩
    | eq v u =>
      have hb : (s[k].toNat : Int) = 61 := by rw [hop]; rfl
      have h1 := l2Var_of s (k + 1) v (vb u :: r) ((k : Int) + 1) w hs (drop_add_of (p := [61]) (by simpa [Fm.text] using hd)) (by omega)
      have h2 := l2Var_of s (k + 2) u r ((k : Int) + 2) w hs (drop_add_of (p := [61, vb v]) (by simpa [Fm.text] using hd)) (by omega)
      have H1 := Lib.hid h1
      have H2 := Lib.hid h2
      have hv3 : (v.val : Int) < 4 := by omega
      have hu3 : (u.val : Int) < 4 := by omega
      simp only [Fm.text, List.length_cons, List.length_nil] at hle
      clear hop hd h1 h2
      go_enter Tryd.func50, Tryd.ntmps50
      go_wp2_with (first | (go_at_call 80; ((with_reducible refine (H1.out).mono ?_); rintro e w' ⟨rfl, rfl⟩)) | (go_at_call 80; ((with_reducible refine (H2.out).mono ?_); rintro e w' ⟨rfl, rfl⟩)))
      go_ret2
      exact ⟨ret_pair (by show Value.int .i64 _ = Value.int .i64 _; congr 1 <;> (rw [one_bit v]; exact or_bit _ u (bit_lt v))) (by show Value.int .i64 _ = Value.int .i64 _; congr 1 <;> simp [Fm.text] <;> omega), rfl⟩
    | rel v u =>
      have hb : (s[k].toNat : Int) = 69 := by rw [hop]; rfl
      have h1 := l2Var_of s (k + 1) v (vb u :: r) ((k : Int) + 1) w hs (drop_add_of (p := [69]) (by simpa [Fm.text] using hd)) (by omega)
      have h2 := l2Var_of s (k + 2) u r ((k : Int) + 2) w hs (drop_add_of (p := [69, vb v]) (by simpa [Fm.text] using hd)) (by omega)
      have H1 := Lib.hid h1
      have H2 := Lib.hid h2
      have hv3 : (v.val : Int) < 4 := by omega
      have hu3 : (u.val : Int) < 4 := by omega
      simp only [Fm.text, List.length_cons, List.length_nil] at hle
      clear hop hd h1 h2
      go_enter Tryd.func50, Tryd.ntmps50
      go_wp2_with (first | (go_at_call 80; ((with_reducible refine (H1.out).mono ?_); rintro e w' ⟨rfl, rfl⟩)) | (go_at_call 80; ((with_reducible refine (H2.out).mono ?_); rintro e w' ⟨rfl, rfl⟩)))
      go_ret2
      exact ⟨ret_pair (by show Value.int .i64 _ = Value.int .i64 _; congr 1 <;> (rw [one_bit v]; exact or_bit _ u (bit_lt v))) (by show Value.int .i64 _ = Value.int .i64 _; congr 1 <;> simp [Fm.text] <;> omega), rfl⟩
    | neg p =>
      have hb : (s[k].toNat : Int) = 33 := by rw [hop]; rfl
      simp only [Fm.text, List.length_cons] at hle
      have hcall := Ih.out p s (k + 1) r ((k : Int) + 1) w (by simp [Fm.size] at hn; omega) (at_one hd) hs (by omega)
      have Hcall := Lib.hid hcall
      clear hop hcall hd
      go_enter Tryd.func50, Tryd.ntmps50
      go_wp2_with (go_at_call 50; refine (Hcall.out).mono ?_; rintro e w' ⟨rfl, rfl⟩)
      go_ret2
      exact ⟨ret_pair (by show Value.int .i64 _ = Value.int .i64 _; congr 1) (by show Value.int .i64 _ = Value.int .i64 _; congr 1 <;> simp [Fm.text] <;> omega), rfl⟩
    | con p q =>
      have hb : (s[k].toNat : Int) = 38 := by rw [hop]; rfl
      simp only [Fm.text, List.length_cons, List.length_append] at hle
      obtain ⟨hd1, hd2⟩ := at_two hd
      have hcall := Ih.out p s (k + 1) _ ((k : Int) + 1) w (by simp [Fm.size] at hn; omega) hd1 hs (by omega)
      have hcall2 := Ih.out q s (k + 1 + p.text.length) _ ((k + 1 + p.text.length : Nat) : Int) w (by simp [Fm.size] at hn; omega) hd2 hs rfl
      have hq0 : ∀ w, Calls Tryd.prog 81 #[.int .u8 38] w fun e w' => e = .returned (.bool false) ∧ w = w' := fun w => l2Quant_calls 38 false rfl w
      have Hcall := Lib.hid hcall
      have Hcall2 := Lib.hid hcall2
      have Hq0 := Lib.hid hq0
      clear hop hcall hcall2 hd hd1 hd2 hq0
      go_enter Tryd.func50, Tryd.ntmps50
      go_upto_region 13 with (first | (go_at_call 81; refine (Hq0.out _).mono ?_; rintro e w' ⟨rfl, rfl⟩) | (go_at_call 50; refine (Hcall.out).mono ?_; rintro e w' ⟨rfl, rfl⟩))
      go_wp2_with (go_at_call 50; refine (Hcall2.out).mono ?_; rintro e w' ⟨rfl, rfl⟩)
      go_ret2
      exact ⟨ret_pair (by show Value.int .i64 _ = Value.int .i64 _; congr 1 <;> exact or_nat _ _ (freeBits_lt p) (freeBits_lt q)) (by show Value.int .i64 _ = Value.int .i64 _; congr 1 <;> simp [Fm.text] <;> omega), rfl⟩
    | dis p q =>
      have hb : (s[k].toNat : Int) = 124 := by rw [hop]; rfl
      simp only [Fm.text, List.length_cons, List.length_append] at hle
      obtain ⟨hd1, hd2⟩ := at_two hd
      have hcall := Ih.out p s (k + 1) _ ((k : Int) + 1) w (by simp [Fm.size] at hn; omega) hd1 hs (by omega)
      have hcall2 := Ih.out q s (k + 1 + p.text.length) _ ((k + 1 + p.text.length : Nat) : Int) w (by simp [Fm.size] at hn; omega) hd2 hs rfl
      have hq0 : ∀ w, Calls Tryd.prog 81 #[.int .u8 124] w fun e w' => e = .returned (.bool false) ∧ w = w' := fun w => l2Quant_calls 124 false rfl w
      have Hcall := Lib.hid hcall
      have Hcall2 := Lib.hid hcall2
      have Hq0 := Lib.hid hq0
      clear hop hcall hcall2 hd hd1 hd2 hq0
      go_enter Tryd.func50, Tryd.ntmps50
      go_upto_region 13 with (first | (go_at_call 81; refine (Hq0.out _).mono ?_; rintro e w' ⟨rfl, rfl⟩) | (go_at_call 50; refine (Hcall.out).mono ?_; rintro e w' ⟨rfl, rfl⟩))
      go_wp2_with (go_at_call 50; refine (Hcall2.out).mono ?_; rintro e w' ⟨rfl, rfl⟩)
      go_ret2
      exact ⟨ret_pair (by show Value.int .i64 _ = Value.int .i64 _; congr 1 <;> exact or_nat _ _ (freeBits_lt p) (freeBits_lt q)) (by show Value.int .i64 _ = Value.int .i64 _; congr 1 <;> simp [Fm.text] <;> omega), rfl⟩
    | qu q v p =>
      have hd1 := at_qu hd
      have hdv : s.data.toList.drop (k + 1) = vb v :: (p.text ++ r) := drop_add_of (p := [q.b]) (by simpa [Fm.text] using hd)
      have h1 := l2Var_of s (k + 1) v _ ((k : Int) + 1) w hs hdv (by omega)
      simp only [Fm.text, List.length_cons] at hle
      have hcall := Ih.out p s (k + 2) _ ((k : Int) + 2) w (by simp [Fm.size] at hn; omega) hd1 hs (by omega)
      have hv3 : (v.val : Int) < 4 := by omega
      have H1 := Lib.hid h1
      have Hcall := Lib.hid hcall
      clear hcall hd hd1 hdv h1
      cases q with
      | A =>
        have hb : (s[k].toNat : Int) = 65 := by rw [hop]; rfl
        have hq0 : ∀ w, Calls Tryd.prog 81 #[.int .u8 65] w fun e w' => e = .returned (.bool true) ∧ w = w' := fun w => l2Quant_calls 65 true rfl w
        have Hq0 := Lib.hid hq0
        clear hop hq0
        go_enter Tryd.func50, Tryd.ntmps50
        go_wp2_with (first | (go_at_call 81; refine (Hq0.out _).mono ?_; rintro e w' ⟨rfl, rfl⟩) | (go_at_call 50; refine (Hcall.out).mono ?_; rintro e w' ⟨rfl, rfl⟩) | (go_at_call 80; refine (H1.out).mono ?_; rintro e w' ⟨rfl, rfl⟩))
        go_ret2
        exact ⟨ret_pair (by show Value.int .i64 _ = Value.int .i64 _; congr 1 <;> exact andNot_bit _ v (freeBits_lt p)) (by show Value.int .i64 _ = Value.int .i64 _; congr 1 <;> simp [Fm.text] <;> omega), rfl⟩
      | S =>
        have hb : (s[k].toNat : Int) = 83 := by rw [hop]; rfl
        have hq0 : ∀ w, Calls Tryd.prog 81 #[.int .u8 83] w fun e w' => e = .returned (.bool true) ∧ w = w' := fun w => l2Quant_calls 83 true rfl w
        have Hq0 := Lib.hid hq0
        clear hop hq0
        go_enter Tryd.func50, Tryd.ntmps50
        go_wp2_with (first | (go_at_call 81; refine (Hq0.out _).mono ?_; rintro e w' ⟨rfl, rfl⟩) | (go_at_call 50; refine (Hcall.out).mono ?_; rintro e w' ⟨rfl, rfl⟩) | (go_at_call 80; refine (H1.out).mono ?_; rintro e w' ⟨rfl, rfl⟩))
        go_ret2
        exact ⟨ret_pair (by show Value.int .i64 _ = Value.int .i64 _; congr 1 <;> exact andNot_bit _ v (freeBits_lt p)) (by show Value.int .i64 _ = Value.int .i64 _; congr 1 <;> simp [Fm.text] <;> omega), rfl⟩
      | c2 =>
        have hb : (s[k].toNat : Int) = 50 := by rw [hop]; rfl
        have hq0 : ∀ w, Calls Tryd.prog 81 #[.int .u8 50] w fun e w' => e = .returned (.bool true) ∧ w = w' := fun w => l2Quant_calls 50 true rfl w
        have Hq0 := Lib.hid hq0
        clear hop hq0
        go_enter Tryd.func50, Tryd.ntmps50
        go_wp2_with (first | (go_at_call 81; refine (Hq0.out _).mono ?_; rintro e w' ⟨rfl, rfl⟩) | (go_at_call 50; refine (Hcall.out).mono ?_; rintro e w' ⟨rfl, rfl⟩) | (go_at_call 80; refine (H1.out).mono ?_; rintro e w' ⟨rfl, rfl⟩))
        go_ret2
        exact ⟨ret_pair (by show Value.int .i64 _ = Value.int .i64 _; congr 1 <;> exact andNot_bit _ v (freeBits_lt p)) (by show Value.int .i64 _ = Value.int .i64 _; congr 1 <;> simp [Fm.text] <;> omega), rfl⟩
      | c3 =>
        have hb : (s[k].toNat : Int) = 51 := by rw [hop]; rfl
        have hq0 : ∀ w, Calls Tryd.prog 81 #[.int .u8 51] w fun e w' => e = .returned (.bool true) ∧ w = w' := fun w => l2Quant_calls 51 true rfl w
        have Hq0 := Lib.hid hq0
        clear hop hq0
        go_enter Tryd.func50, Tryd.ntmps50
        go_wp2_with (first | (go_at_call 81; refine (Hq0.out _).mono ?_; rintro e w' ⟨rfl, rfl⟩) | (go_at_call 50; refine (Hcall.out).mono ?_; rintro e w' ⟨rfl, rfl⟩) | (go_at_call 80; refine (H1.out).mono ?_; rintro e w' ⟨rfl, rfl⟩))
        go_ret2
        exact ⟨ret_pair (by show Value.int .i64 _ = Value.int .i64 _; congr 1 <;> exact andNot_bit _ v (freeBits_lt p)) (by show Value.int .i64 _ = Value.int .i64 _; congr 1 <;> simp [Fm.text] <;> omega), rfl⟩
      | c4 =>
        have hb : (s[k].toNat : Int) = 52 := by rw [hop]; rfl
        have hq0 : ∀ w, Calls Tryd.prog 81 #[.int .u8 52] w fun e w' => e = .returned (.bool true) ∧ w = w' := fun w => l2Quant_calls 52 true rfl w
        have Hq0 := Lib.hid hq0
        clear hop hq0
        go_enter Tryd.func50, Tryd.ntmps50
        go_wp2_with (first | (go_at_call 81; refine (Hq0.out _).mono ?_; rintro e w' ⟨rfl, rfl⟩) | (go_at_call 50; refine (Hcall.out).mono ?_; rintro e w' ⟨rfl, rfl⟩) | (go_at_call 80; refine (H1.out).mono ?_; rintro e w' ⟨rfl, rfl⟩))
        go_ret2
        exact ⟨ret_pair (by show Value.int .i64 _ = Value.int .i64 _; congr 1 <;> exact andNot_bit _ v (freeBits_lt p)) (by show Value.int .i64 _ = Value.int .i64 _; congr 1 <;> simp [Fm.text] <;> omega), rfl⟩

/-- the free variables' text, for a formula -/
noncomputable def txtV (l : List UInt8) (g : Fm → List UInt8) : ByteArray := match parse l with | some (f, []) => if l.length ≤ 4000 then bs (g f) else bs [] | _ => bs []

theorem txtV_yes {l : List UInt8} {f : Fm} (g : Fm → List UInt8) (h : l = f.text) (hl : l.length ≤ 4000) : txtV l g = bs (g f) := by
  unfold txtV
  rw [parse_some.2 (show l = f.text ++ [] by rw [h]; simp)]
  simp [hl]

theorem txtV_no {l : List UInt8} (g : Fm → List UInt8) (h : ¬ IsFm l) : txtV l g = bs [] := by
  unfold txtV
  cases hp : parse l with
  | none => rfl
  | some x =>
    obtain ⟨f, r⟩ := x
    cases r with
    | nil =>
      have := parse_some.1 hp
      by_cases hl : l.length ≤ 4000
      · exact absurd ⟨hl, f, by simpa using this⟩ h
      · simp [hl]
    | cons a r => rfl

def freeT (f : Fm) : List UInt8 := varsL f.freeBits 4

set_option maxHeartbeats 400000 in
theorem FreeVars_spec (s : ByteArray) (w : World) (hs2 : s.size ≤ maxLen) :
    Calls Tryd.prog 17 #[.string s] w fun e w' => e = .returned (.string (txtV s.data.toList freeT)) ∧ w = w' := by
  rcases fm_cases s with ⟨hb, hno⟩ | ⟨f, hb, hf, hs4, hl4⟩
  · rw [txtV_no freeT hno]
    have Hb := Lib.hid hb
    clear hb hno
    go_enter Tryd.func17, Tryd.ntmps17
    go_wp2_with (go_at_call 48; refine (FormulaValid_spec s _ hs2).mono ?_; rintro e w' ⟨rfl, rfl⟩; rw [Hb.out])
    go_ret
    exact ⟨rfl, rfl⟩
  · rw [txtV_yes freeT hf (by rw [hf]; exact hl4)]
    have hcall := l2Free_calls f.size f s 0 [] 0 w (Nat.le_refl _) (by simpa using hf) hs4 rfl
    have Hb := Lib.hid hb
    have Hcall := Lib.hid hcall
    have hm := freeBits_lt f
    clear hb hf hcall
    go_enter Tryd.func17, Tryd.ntmps17
    go_wp2_with (first | (go_at_call 48; refine (FormulaValid_spec s _ hs2).mono ?_; rintro e w' ⟨rfl, rfl⟩; rw [Hb.out]) | (go_at_call 50; refine (Hcall.out).mono ?_; rintro e w' ⟨rfl, rfl⟩))
    go_loop [3, 6] (fun o i => ∃ k : Nat, k ≤ 4 ∧ i = .int .i64 k ∧ o = .string (bs (varsL f.freeBits k))) (fun _ i => 4 - (intOf i).toNat)
    case atStart => exact ⟨0, by omega, rfl, rfl⟩
    case round =>
      obtain ⟨k, hk, rfl, rfl⟩ := hrel
      have hsz : (bs (varsL f.freeBits k)).size ≤ 4 := by rw [bs_size]; have := varsL_len f.freeBits k; omega
      by_cases hlt : k < 4
      · have hbit := shr_bit f.freeBits k hm hlt
        cases hb : f.freeBits.testBit k with
        | true =>
          rw [hb] at hbit
          have Hb2 := Lib.hid hb
          clear hb
          go_wp2_with fail
          go_round
          case rel => exact ⟨k + 1, by omega, by go_num, str_eq (by rw [varsL_yes Hb2.out, abcd_at k hlt, append_bs]; rfl)⟩
          case measure => simp [intOf]; omega
        | false =>
          rw [hb] at hbit
          have Hb2 := Lib.hid hb
          clear hb
          go_wp2_with fail
          go_round
          case rel => exact ⟨k + 1, by omega, by go_num, str_eq (by rw [varsL_no Hb2.out])⟩
          case measure => simp [intOf]; omega
      · obtain rfl : k = 4 := by omega
        go_wp2_with fail
        go_ret
        exact ⟨rfl, rfl⟩

theorem FreeVars_impl (s : ByteArray) (w : World) :
    Calls Tryd.prog 16 #[.string s] w fun e w' => e = .returned (.string (txtV s.data.toList freeT)) ∧ Below w.heap.size w w' := by
  rcases fm_cases s with ⟨hb, hno⟩ | ⟨f, hb, hf, hs4, hl4⟩
  · rw [txtV_no freeT hno]
    have Hno := Lib.hid hno
    clear hb hno
    go_enter Tryd.func16, Tryd.ntmps16
    go_wp2_with (go_at_call 42; refine (parseFormula_no s w Hno.out).mono ?_; rintro e w1 ⟨rfl, hb1⟩)
    go_ret
    exact ⟨rfl, hb1⟩
  · rw [txtV_yes freeT hf (by rw [hf]; exact hl4)]
    have Hf := Lib.hid hf
    clear hb hf
    go_enter Tryd.func16, Tryd.ntmps16
    go_wp2_with (first | (go_at_call 42; refine (parseFormula_yes s f w hs4 Hf.out).mono ?_; rintro e w1 ⟨b, rfl, htr, hb1⟩; obtain ⟨_, _, _, _, _, _, hc3, _⟩ := node_cells htr; clear htr) | (go_at_call 55; refine (varsText_calls _ (freeBits_lt f) _).mono ?_; rintro e w' ⟨rfl, rfl⟩))
    go_ret
    exact ⟨rfl, hb1⟩

end Go.Proofs.YtgiaebeoldigbaaDoor
