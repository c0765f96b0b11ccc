/-
  Laws of the functions that the claim reaches, one after the other (packed by a program of the prover's: KeyP, Cache, IsTrue, DecA). Conditions: texts below the reach.
-/
import Derived.Test.YteonanaihklgmaaDoorPq6
import Derived.Test.YteonanaihklgmaaDoorPq4
import Derived.Test.YteonanaihklgmaaDoorPq7
import Derived.Test.YteonanaihklgmaaDoorPq0
import Derived.Test.YteonanaihklgmaaDoorPq5
set_option linter.unusedSimpArgs false
set_option linter.unusedVariables false

namespace Go.Proofs.YteonanaihklgmaaDoor
open Go.RowKit
open Pl
set_option linter.unusedSimpArgs false
set_option linter.unusedVariables false

/-- the elements of the first free variables as octal digits -/
def keyTo (fr : Nat) (e : Nat → Nat) : Nat → Nat
  | 0 => 0
  | k + 1 => if fr.testBit k then keyTo fr e k ||| (e k * 8 ^ k) else keyTo fr e k

theorem or_add {a x k : Nat} (h : a < 8 ^ k) : a ||| (x * 8 ^ k) = a + x * 8 ^ k := by
  have e : (8 : Nat) ^ k = 2 ^ (3 * k) := by rw [Nat.pow_mul]
  rw [e] at h ⊢
  have := Nat.shiftLeft_add_eq_or_of_lt h x
  rw [Nat.shiftLeft_eq] at this
  rw [Nat.or_comm, ← this, Nat.add_comm]

theorem keyTo_lt {fr : Nat} {e : Nat → Nat} (he : ∀ i, e i < 8) : ∀ k, keyTo fr e k < 8 ^ k
  | 0 => by simp [keyTo]
  | k + 1 => by
    have h := keyTo_lt (fr := fr) he k
    have hx := he k
    have hp : (8 : Nat) ^ (k + 1) = 8 * 8 ^ k := by rw [Nat.pow_succ, Nat.mul_comm]
    have hm : e k * 8 ^ k ≤ 7 * 8 ^ k := Nat.mul_le_mul_right _ (by omega)
    unfold keyTo
    split
    · rw [or_add h]; omega
    · omega

theorem keyTo_inj {fr : Nat} {e e' : Nat → Nat} (he : ∀ i, e i < 8) (he' : ∀ i, e' i < 8) : ∀ k, keyTo fr e k = keyTo fr e' k → ∀ i, i < k → fr.testBit i = true → e i = e' i
  | 0, _, i, hi, _ => absurd hi (Nat.not_lt_zero _)
  | k + 1, h, i, hi, hb => by
    have h1 := keyTo_lt (fr := fr) he k
    have h2 := keyTo_lt (fr := fr) he' k
    unfold keyTo at h
    cases hk : fr.testBit k with
    | false =>
      rw [hk] at h
      simp only [Bool.false_eq_true, if_false] at h
      have : i ≠ k := fun e => by rw [e, hk] at hb; cases hb
      exact keyTo_inj he he' k h i (by omega) hb
    | true =>
      rw [hk] at h
      simp only [if_true] at h
      rw [or_add h1, or_add h2] at h
      have hd1 : (keyTo fr e k + e k * 8 ^ k) / 8 ^ k = e k := by
        rw [Nat.add_mul_div_right _ _ (Nat.pow_pos (by decide)), Nat.div_eq_of_lt h1, Nat.zero_add]
      have hd2 : (keyTo fr e' k + e' k * 8 ^ k) / 8 ^ k = e' k := by
        rw [Nat.add_mul_div_right _ _ (Nat.pow_pos (by decide)), Nat.div_eq_of_lt h2, Nat.zero_add]
      have hk2 : e k = e' k := by rw [← hd1, ← hd2, h]
      by_cases hik : i = k
      · subst hik; exact hk2
      · refine keyTo_inj he he' k ?_ i (by omega) hb
        rw [hk2] at h
        omega

/-- an environment as a function of numbers -/
def eN (e : Env) (i : Nat) : Nat := if h : i < 4 then e ⟨i, h⟩ else 0
theorem eN_lt {e : Env} (he : ∀ v, e v < 8) (i : Nat) : eN e i < 8 := by
  unfold eN
  split
  · exact he _
  · omega
theorem eN_fin (e : Env) (v : Fin 4) : eN e v.val = e v := by simp [eN]
/-- the number under which truth is kept -/
def keyN (fr : Nat) (e : Env) : Nat := keyTo fr (eN e) 4
theorem keyN_lt {fr : Nat} {e : Env} (he : ∀ v, e v < 8) : keyN fr e < 4096 := keyTo_lt (eN_lt he) 4
theorem keyN_holds (a : St) (f : Fm) {e e' : Env} (he : ∀ v, e v < 8) (he' : ∀ v, e' v < 8) (h : keyN f.freeBits e = keyN f.freeBits e') : f.holds a e = f.holds a e' :=
  holds_free a f e e' fun v hv => by
    have := keyTo_inj (eN_lt he) (eN_lt he') 4 h v.val v.isLt hv
    rwa [eN_fin, eN_fin] at this

/-! ### one tree at most -/

theorem own_same {W : World} {base base' n n' : Nat} {e : TypeId} {v : Value} {xs xs' : List Value} (h : W.ownsRow base e 1 v n xs) (h' : W.ownsRow base' e 1 v n' xs') : xs = xs' := by
  obtain ⟨hl, h2⟩ := h
  obtain ⟨hl', h2'⟩ := h'
  rcases h2 with ⟨rfl, h0⟩ | ⟨g, cap, cur, rfl, _, hh, _, _, _, ht⟩
  · rcases h2' with ⟨_, h0'⟩ | ⟨g, cap, cur, hv, _⟩
    · have e1 : xs = [] := List.length_eq_zero_iff.1 (by rw [hl, h0])
      have e2 : xs' = [] := List.length_eq_zero_iff.1 (by rw [hl', h0'])
      rw [e1, e2]
    · cases hv
  · rcases h2' with ⟨hv, _⟩ | ⟨g', cap', cur', hv, _, hh', _, _, _, ht'⟩
    · cases hv
    · simp only [Value.slice.injEq, Option.some.injEq, Addr.mk.injEq] at hv
      obtain ⟨⟨rfl, _⟩, hn, _⟩ := hv
      rw [hh] at hh'
      simp only [Option.some.injEq, Obj.cells.injEq] at hh'
      obtain ⟨rfl, _⟩ := hh'
      rw [hn, ht'] at ht
      exact ht.symm

theorem vb_inj {v w : Fin 4} (h : byteV (vb v) = byteV (vb w)) : v = w := by
  unfold byteV at h
  injection h with _ h
  revert v w
  decide

theorem node_same {S S' : Nat → Prop} {w : World} {op op' : UInt8} {vars vars' : List (Fin 4)} {fr fr' al al' b : Nat} {ks ks' : List Nat} (h : NodeIn S w op vars fr al b ks) (h' : NodeIn S' w op' vars' fr' al' b ks') : op = op' ∧ vars = vars' ∧ ks = ks' := by
  obtain ⟨_, vs, ps, hh, hv, _, hp, _⟩ := h
  obtain ⟨_, vs', ps', hh', hv', _, hp', _⟩ := h'
  rw [hh] at hh'
  simp only [Option.some.injEq, Obj.cells.injEq, Array.mk.injEq, List.cons.injEq, Value.int.injEq, true_and, and_true] at hh'
  obtain ⟨h1, rfl, rfl, _⟩ := hh'
  refine ⟨UInt8.toNat_inj.1 (by omega), ?_, ?_⟩
  · exact (List.map_inj_right (fun a b hab => vb_inj hab)).1 (own_same hv hv')
  · exact (List.map_inj_right (fun a b hab => by injection hab with e; injection e with e; injection e)).1 (own_same hp hp')

theorem qb_inj {k l : Qn} (h : k.b = l.b) : k = l := by
  cases k <;> cases l <;> first | rfl | exact absurd h (by decide)
theorem qb_out (k : Qn) : k.b ≠ 116 ∧ k.b ≠ 102 ∧ k.b ≠ 80 ∧ k.b ≠ 61 ∧ k.b ≠ 69 ∧ k.b ≠ 33 ∧ k.b ≠ 38 ∧ k.b ≠ 124 := by
  cases k <;> decide
theorem fm_same {f g : Fm} (h1 : f.op = g.op) (h2 : f.vars = g.vars) (h3 : f.parts = g.parts) : f = g := by
  cases f <;> cases g <;> simp only [Fm.op] at h1 <;> first
    | exact absurd h1 (by decide)
    | (rename_i k _ _; have q := qb_out k; simp_all; done)
    | (rename_i k _ _ _; have q := qb_out k; simp_all; done)
    | (rename_i k _ _ _ _; have q := qb_out k; simp_all; done)
    | (rename_i k _ _; have q := qb_out k; obtain ⟨q1, q2, q3, q4, q5, q6, q7, q8⟩ := q; first | exact absurd h1 q1 | exact absurd h1.symm q1 | exact absurd h1 q2 | exact absurd h1.symm q2 | exact absurd h1 q3 | exact absurd h1 q4 | exact absurd h1 q5 | exact absurd h1 q6 | exact absurd h1 q7 | exact absurd h1 q8)
    | (simp_all [Fm.vars, Fm.parts]; done)
    | (obtain rfl := qb_inj h1; simp_all [Fm.vars, Fm.parts]; done)

theorem part_size {f p : Fm} (h : p ∈ f.parts) : p.size < f.size := by
  cases f <;> simp [Fm.parts] at h <;> (try rcases h with rfl | rfl) <;> (try subst h) <;> simp [Fm.size] <;> omega

theorem tree_same {S S' : Nat → Prop} {w : World} : ∀ (n : Nat) (f g : Fm) (b : Nat), f.size ≤ n → TreeIn S w f b → TreeIn S' w g b → f = g
  | 0, f, g, b, hn, _, _ => by cases f <;> simp [Fm.size] at hn
  | n + 1, f, g, b, hn, h, h' => by
    obtain ⟨ks, hf, hl, ht⟩ := h.open
    obtain ⟨ks', hg, hl', ht'⟩ := h'.open
    obtain ⟨h1, h2, rfl⟩ := node_same hf hg
    refine fm_same h1 h2 (List.ext_getElem (by omega) fun i hi hi' => ?_)
    have hk : i < ks.length := by omega
    exact tree_same n _ _ ks[i] (by have := part_size (List.getElem_mem hi); omega) (ht i _ _ (List.getElem?_eq_getElem hi) (List.getElem?_eq_getElem hk)) (ht' i _ _ (List.getElem?_eq_getElem hi') (List.getElem?_eq_getElem hk))

/-- what is kept at a number is right for whatever tree lies there -/
def Good (lo : Nat) (w0 : World) (a : St) (nb k : Nat) (v : Bool) : Prop := ∀ f, TreeAt lo w0 f nb → ∀ e : Env, (∀ u, e u < 8) → keyN f.freeBits e = k → f.holds a e = v
theorem good_new {lo : Nat} {w0 : World} (a : St) {f : Fm} {nb : Nat} (h : TreeAt lo w0 f nb) {e : Env} (he : ∀ u, e u < 8) : Good lo w0 a nb (keyN f.freeBits e) (f.holds a e) := fun g hg e' he' hk => by
  have := tree_same g.size g f nb (Nat.le_refl _) hg h
  subst this
  exact keyN_holds a g he' he hk

end Go.Proofs.YteonanaihklgmaaDoor

namespace Go.Proofs.YteonanaihklgmaaDoor
open Go.RowKit
open Go.ChangeMaps
open Pl
set_option linter.unusedSimpArgs false
set_option linter.unusedVariables false

/-- a map from numbers to truth, of which each entry is right -/
def InnerOK (G : Nat → Bool → Prop) (es : Array MapEntry) : Prop := ∀ x ∈ es.toList, ∃ (k : Nat) (v : Bool), k < 4096 ∧ x.key = .int .i64 (k : Nat) ∧ x.val = .bool v ∧ G k v

/-- the holder's map of maps -/
structure Cache (G : Nat → Nat → Bool → Prop) (hb : Nat) (w : World) : Prop where
  at_ : ∃ (es : Array MapEntry) (clock : Nat), w.heap[hb]? = some (.map es clock) ∧
    (∀ x ∈ es.toList, ∃ (nb ib : Nat) (c : Array Value) (t : TypeId) (esi : Array MapEntry) (ci : Nat), x.key = kidV nb ∧ w.heap[nb]? = some (.cells c t (0, 0)) ∧ x.val = .map (some ib) ∧ hb < ib ∧ w.heap[ib]? = some (.map esi ci) ∧ InnerOK (G nb) esi) ∧
    ((∀ x ∈ es.toList, ∀ y ∈ es.toList, x.val = y.val → x.key = y.key) ∧ ∀ x ∈ es.toList, ∃ nb, x.key = kidV nb ∧ nb < hb)

/-- an inner map that the holder keeps for a formula -/
def Kept (G : Nat → Nat → Bool → Prop) (hb nb ib : Nat) (w : World) : Prop := ∃ (es : Array MapEntry) (clock : Nat), w.heap[hb]? = some (.map es clock) ∧ ∃ x ∈ es.toList, x.key = kidV nb ∧ x.val = .map (some ib)

/-- what a call of the holder leaves as it was: all below its map, and all cells -/
structure Fz (B : Nat) (w w' : World) : Prop where
  below : Below B w w'
  cells : ∀ (j : Nat) (c : Array Value) (t : TypeId) (k : Nat × Nat), w.heap[j]? = some (.cells c t k) → w'.heap[j]? = some (.cells c t k)

theorem Fz.refl (B : Nat) (w : World) : Fz B w w := ⟨Below.refl _ _, fun _ _ _ _ h => h⟩
theorem Fz.trans {B : Nat} {w w' w'' : World} (h : Fz B w w') (h' : Fz B w' w'') : Fz B w w'' := ⟨h.below.trans h'.below, fun j c t k hj => h'.cells j c t k (h.cells j c t k hj)⟩
theorem Fz.call {B : Nat} {w w' : World} (hB : B ≤ w.heap.size) (h : Below w.heap.size w w') : Fz B w w' := ⟨h.mono hB, fun j c t k hj => (h.block j (Array.getElem?_eq_some_iff.1 hj).1).trans hj⟩
theorem Fz.alloc {B : Nat} {w : World} (hB : B ≤ w.heap.size) (o : Obj) : Fz B w (w.alloc o) := Fz.call hB ((Below.refl _ _).alloc (Nat.le_refl _) o)
theorem Fz.drew {B : Nat} {w w' : World} (h : Fz B w w') : Fz B w w'.drew := ⟨h.below.drew, h.cells⟩
theorem Fz.bx {B : Nat} {w w' : World} {g : Nat} {t : TypeId} {cs : Array Value} (h : Fz B w w') (hx : Bx w g t cs) : Bx w' g t cs := h.cells g cs t (0, 0) hx

theorem Cache.keep {G : Nat → Nat → Bool → Prop} {hb : Nat} {w w' : World} (h : Cache G hb w) (hm : ∀ (j : Nat) (es : Array MapEntry) (c : Nat), w.heap[j]? = some (.map es c) → w'.heap[j]? = some (.map es c)) (hc : ∀ (j : Nat) (c : Array Value) (t : TypeId), w.heap[j]? = some (.cells c t (0, 0)) → ∃ (c' : Array Value) (t' : TypeId), w'.heap[j]? = some (.cells c' t' (0, 0))) : Cache G hb w' := by
  obtain ⟨es, clock, h1, h2, h3⟩ := h.at_
  refine ⟨es, clock, hm _ _ _ h1, fun x hx => ?_, h3⟩
  obtain ⟨nb, ib, c, t, esi, ci, a1, a2, a3, a4, a5, a6⟩ := h2 x hx
  obtain ⟨c', t', e⟩ := hc _ _ _ a2
  exact ⟨nb, ib, c', t', esi, ci, a1, e, a3, a4, hm _ _ _ a5, a6⟩
theorem Cache.call {G : Nat → Nat → Bool → Prop} {hb : Nat} {w w' : World} (h : Cache G hb w) (hb' : Below w.heap.size w w') : Cache G hb w' :=
  h.keep (fun j es c hj => (hb'.block j (Array.getElem?_eq_some_iff.1 hj).1).trans hj) (fun j c t hj => ⟨c, t, (hb'.block j (Array.getElem?_eq_some_iff.1 hj).1).trans hj⟩)
theorem Cache.alloc {G : Nat → Nat → Bool → Prop} {hb : Nat} {w : World} (h : Cache G hb w) (o : Obj) : Cache G hb (w.alloc o) := h.call ((Below.refl _ _).alloc (Nat.le_refl _) o)
theorem Cache.drew {G : Nat → Nat → Bool → Prop} {hb : Nat} {w : World} (h : Cache G hb w) : Cache G hb w.drew := ⟨h.at_⟩
/-- behind a list outside the cache that has grown -/
theorem Cache.app {G : Nat → Nat → Bool → Prop} {hb : Nat} {w w' : World} {row : Option Nat} (h : Cache G hb w) (hg : w.grownBy w' row) (hr : ∀ k, row = some k → hb < k ∧ ∃ c t, w.heap[k]? = some (.cells c t (0, 0))) : Cache G hb w' := by
  obtain ⟨es, clock, h1, h2, h3⟩ := h.at_
  have hm : ∀ (j : Nat) (es : Array MapEntry) (c : Nat), w.heap[j]? = some (.map es c) → w'.heap[j]? = some (.map es c) := fun j es c hj => (hg.block j (Array.getElem?_eq_some_iff.1 hj).1 (fun e => by
    obtain ⟨_, c', t', e2⟩ := hr j e.symm
    rw [hj] at e2; cases e2)).trans hj
  refine ⟨es, clock, hm _ _ _ h1, fun x hx => ?_, h3⟩
  obtain ⟨nb, ib, c, t, esi, ci, a1, a2, a3, a4, a5, a6⟩ := h2 x hx
  obtain ⟨nb', b1, b2⟩ := h3.2 x hx
  have hnb : nb' = nb := by
    rw [a1] at b1
    simp only [kidV, Value.pointer.injEq, Option.some.injEq, Addr.mk.injEq] at b1
    exact b1.1.symm
  subst hnb
  exact ⟨nb', ib, c, t, esi, ci, a1, (hg.block nb' (Array.getElem?_eq_some_iff.1 a2).1 (fun e => by
    have := (hr nb' e.symm).1; omega)).trans a2, a3, a4, hm _ _ _ a5, a6⟩
theorem Cache.lt {G : Nat → Nat → Bool → Prop} {hb : Nat} {w : World} (h : Cache G hb w) : hb < w.heap.size := by
  obtain ⟨es, clock, h1, _⟩ := h.at_
  exact (Array.getElem?_eq_some_iff.1 h1).1

section
variable {P : Program} {G : Nat → Nat → Bool → Prop} {hb nb : Nat} {w : World} {tm ko ti ki tb e : TypeId} {j : TypeInfo} {c : Array Value} {t : TypeId}

/-- looking up a formula's map -/
theorem Cache.look (h : Cache G hb w) (hto : P.underlying tm = some (.map ko ti)) (hko : P.underlying ko = some (.pointer e)) (he : P.info? e = some j) (hsz : j.size ≠ 0) (hz : (zeroValue ti).run P w = .ok (.map none) w) (hn : w.heap[nb]? = some (.cells c t (0, 0))) :
    (Instr.lookup tm (.map (some hb)) (kidV nb) false).run P w = .ok (.map none) w ∨
    ∃ (ib : Nat) (esi : Array MapEntry) (ci : Nat), (Instr.lookup tm (.map (some hb)) (kidV nb) false).run P w = .ok (.map (some ib)) w ∧ Kept G hb nb ib w ∧ hb < ib ∧ w.heap[ib]? = some (.map esi ci) ∧ InnerOK (G nb) esi := by
  obtain ⟨es, clock, h1, h2, h3⟩ := h.at_
  have hS : ∀ x ∈ es.toList, PKey w x.key := fun x hx => by
    obtain ⟨nb, ib, c, t, esi, ci, a1, a2, _⟩ := h2 x hx
    exact ⟨nb, c, t, a1, a2⟩
  rcases mlook false (pkey hko he hsz) hto hz h1 hS (key := kidV nb) ⟨nb, c, t, rfl, hn⟩ with ⟨hr, _⟩ | ⟨x, hx, hk, hr⟩
  · exact .inl (by simpa using hr)
  · obtain ⟨nb', ib, c', t', esi, ci, a1, a2, a3, a4, a5, a6⟩ := h2 x hx
    have hnb : nb' = nb := by
      rw [hk] at a1
      simp only [kidV, Value.pointer.injEq, Option.some.injEq, Addr.mk.injEq] at a1
      exact a1.1.symm
    subst hnb
    rw [a3] at hr
    exact .inr ⟨ib, esi, ci, by simpa using hr, ⟨es, clock, h1, x, hx, hk, a3⟩, a4, a5, a6⟩

/-- looking up a number -/
theorem inner_look {G : Nat → Bool → Prop} {ib : Nat} {esi : Array MapEntry} {ci k : Nat} (hi : w.heap[ib]? = some (.map esi ci)) (hok : InnerOK G esi) (hti : P.underlying ti = some (.map ki tb)) (hki : P.underlying ki = some (.int .i64)) (hz : (zeroValue tb).run P w = .ok (.bool false) w) (hk : k < 4096) :
    (Instr.lookup ti (.map (some ib)) (.int .i64 (k : Nat)) true).run P w = .ok (.tuple #[.bool false, .bool false]) w ∨
    ∃ v, (Instr.lookup ti (.map (some ib)) (.int .i64 (k : Nat)) true).run P w = .ok (.tuple #[.bool v, .bool true]) w ∧ G k v := by
  have hS : ∀ x ∈ esi.toList, IKey x.key := fun x hx => by
    obtain ⟨k, v, a1, a2, _⟩ := hok x hx
    exact ⟨k, a2, a1⟩
  rcases mlook true (ikey hki) hti hz hi hS (key := .int .i64 (k : Nat)) ⟨k, rfl, hk⟩ with ⟨hr, _⟩ | ⟨x, hx, hkx, hr⟩
  · exact .inl (by simpa using hr)
  · obtain ⟨k', v, a1, a2, a3, a4⟩ := hok x hx
    have : k' = k := by
      rw [hkx] at a2
      simp only [Value.int.injEq, true_and] at a2
      omega
    subst this
    rw [a3] at hr
    exact .inr ⟨v, by simpa using hr, a4⟩
theorem inner_look_nil {k : Nat} (hti : P.underlying ti = some (.map ki tb)) (hki : P.underlying ki = some (.int .i64)) (hz : (zeroValue tb).run P w = .ok (.bool false) w) (hk : k < 4096) :
    (Instr.lookup ti (.map none) (.int .i64 (k : Nat)) true).run P w = .ok (.tuple #[.bool false, .bool false]) w := by
  have := mlook_nil true (ikey (w := w) hki) hti hz (key := .int .i64 (k : Nat)) ⟨k, rfl, hk⟩
  simpa using this

theorem fz_set {B b : Nat} {es es' : Array MapEntry} {ci ci' : Nat} (hb : w.heap[b]? = some (.map es ci)) (hB : B ≤ b) : Fz B w (setBlock w b (.map es' ci')) := by
  refine ⟨⟨rfl, rfl, rfl, by simp [setBlock], fun i hi => heap_setBlock_other hb _ (by omega)⟩, fun j c t k hj => ?_⟩
  by_cases hjb : j = b
  · subst hjb; rw [hb] at hj; cases hj
  · rw [heap_setBlock_other hb _ hjb]; exact hj

/-- keeping a formula's truth at a number -/
theorem Cache.put {ib k : Nat} {esi : Array MapEntry} {ci : Nat} (h : Cache G hb w) (hkept : Kept G hb nb ib w) (hlt : hb < ib) (hi : w.heap[ib]? = some (.map esi ci)) (hok : InnerOK (G nb) esi) (hti : P.underlying ti = some (.map ki tb)) (hki : P.underlying ki = some (.int .i64)) (hk : k < 4096) {v : Bool} (hv : G nb k v) :
    ∃ W, (Instr.mapUpdate ti (.map (some ib)) (.int .i64 (k : Nat)) (.bool v)).run P w = .ok () W ∧ Cache G hb W ∧ Fz hb w W := by
  have hS : ∀ x ∈ esi.toList, IKey x.key := fun x hx => by
    obtain ⟨k, v, a1, a2, _⟩ := hok x hx
    exact ⟨k, a2, a1⟩
  obtain ⟨es', clock', hr, hes, _⟩ := mput (ikey hki) hti hi hS (key := .int .i64 (k : Nat)) ⟨k, rfl, hk⟩ (.bool v)
  have hok' : InnerOK (G nb) es' := fun x hx => by
    rcases hes x hx with ⟨hx, _⟩ | ⟨h1, h2⟩
    · exact hok x hx
    · exact ⟨k, v, hk, h1, h2, hv⟩
  refine ⟨_, hr, ?_, fz_set hi (Nat.le_of_lt hlt)⟩
  obtain ⟨es, clock, h1, h2, h3⟩ := h.at_
  obtain ⟨es0, clock0, h1', x0, hx0, hk0, hv0⟩ := hkept
  rw [h1] at h1'
  simp only [Option.some.injEq, Obj.map.injEq] at h1'
  obtain ⟨rfl, rfl⟩ := h1'
  refine ⟨es, clock, by rw [heap_setBlock_other hi _ (by omega)]; exact h1, fun x hx => ?_, h3⟩
  obtain ⟨nb', ib', c', t', esi', ci', a1, a2, a3, a4, a5, a6⟩ := h2 x hx
  have hc : (setBlock w ib (.map es' clock')).heap[nb']? = some (.cells c' t' (0, 0)) := (fz_set (B := hb) hi (Nat.le_of_lt hlt)).cells _ _ _ _ a2
  by_cases hib : ib' = ib
  · subst hib
    have hkk := h3.1 x hx x0 hx0 (by rw [a3, hv0])
    rw [a1, hk0] at hkk
    simp only [kidV, Value.pointer.injEq, Option.some.injEq, Addr.mk.injEq] at hkk
    obtain ⟨rfl, _⟩ := hkk
    exact ⟨nb', ib', c', t', es', clock', a1, hc, a3, a4, heap_setBlock_same hi _, hok'⟩
  · exact ⟨nb', ib', c', t', esi', ci', a1, hc, a3, a4, by rw [heap_setBlock_other hi _ hib]; exact a5, a6⟩

/-- a new map for a formula -/
theorem Cache.grow (h : Cache G hb w) (hto : P.underlying tm = some (.map ko ti)) (hko : P.underlying ko = some (.pointer e)) (he : P.info? e = some j) (hsz : j.size ≠ 0) (hn : w.heap[nb]? = some (.cells c t (0, 0))) (hnb : nb < hb) :
    ∃ W, (Instr.mapUpdate tm (.map (some hb)) (kidV nb) (.map (some w.heap.size))).run P (w.alloc (.map #[] 0)) = .ok () W ∧ Cache G hb W ∧ Fz hb w W ∧ ∃ (es : Array MapEntry) (clock : Nat), W.heap[hb]? = some (.map es clock) ∧ ∃ x ∈ es.toList, x.key = kidV nb := by
  have hA := h.alloc (.map #[] 0)
  have hlt := h.lt
  obtain ⟨es, clock, h1, h2, h3⟩ := h.at_
  have hkeep : ∀ (i : Nat) (o : Obj), w.heap[i]? = some o → (w.alloc (.map #[] 0)).heap[i]? = some o := fun i o hi => (((Below.refl w.heap.size w).alloc (Nat.le_refl _) (.map #[] 0)).block i (Array.getElem?_eq_some_iff.1 hi).1).trans hi
  have h1' := hkeep _ _ h1
  have hS : ∀ x ∈ es.toList, PKey (w.alloc (.map #[] 0)) x.key := fun x hx => by
    obtain ⟨nb, ib, c, t, esi, ci, a1, a2, _⟩ := h2 x hx
    exact ⟨nb, c, t, a1, hkeep _ _ a2⟩
  obtain ⟨es', clock', hr, hes, x0, hx0, hk0, hv0⟩ := mput (pkey hko he hsz) hto h1' hS (key := kidV nb) ⟨nb, c, t, rfl, hkeep _ _ hn⟩ (.map (some w.heap.size))
  have hnew : (w.alloc (.map #[] 0)).heap[w.heap.size]? = some (.map #[] 0) := heap_alloc_new w _
  have hfz : Fz hb (w.alloc (.map #[] 0)) (setBlock (w.alloc (.map #[] 0)) hb (.map es' clock')) := fz_set h1' (Nat.le_refl _)
  have hset : ∀ i, i ≠ hb → (setBlock (w.alloc (.map #[] 0)) hb (.map es' clock')).heap[i]? = (w.alloc (.map #[] 0)).heap[i]? := fun i hi => heap_setBlock_other h1' _ hi
  refine ⟨_, hr, ⟨es', clock', heap_setBlock_same h1' _, fun x hx => ?_, fun x hx y hy hxy => ?_, fun x hx => ?_⟩, (Fz.alloc (Nat.le_of_lt hlt) _).trans hfz, es', clock', heap_setBlock_same h1' _, x0, hx0, hk0⟩
  · rcases hes x hx with ⟨hx, _⟩ | ⟨e1, e2⟩
    · obtain ⟨nb', ib', c', t', esi', ci', a1, a2, a3, a4, a5, a6⟩ := h2 x hx
      exact ⟨nb', ib', c', t', esi', ci', a1, hfz.cells _ _ _ _ (hkeep _ _ a2), a3, a4, by rw [hset _ (by omega)]; exact hkeep _ _ a5, a6⟩
    · exact ⟨nb, w.heap.size, c, t, #[], 0, e1, hfz.cells _ _ _ _ (hkeep _ _ hn), e2, hlt, by rw [hset _ (by omega)]; exact hnew, fun x hx => by simp at hx⟩
  · have old : ∀ z, z ∈ es.toList → z.val ≠ .map (some w.heap.size) := fun z hz e => by
      obtain ⟨nb', ib', c', t', esi', ci', a1, a2, a3, a4, a5, a6⟩ := h2 z hz
      rw [a3] at e
      have := (Array.getElem?_eq_some_iff.1 a5).1
      simp only [Value.map.injEq, Option.some.injEq] at e
      omega
    rcases hes x hx with ⟨hx', _⟩ | ⟨e1, e2⟩ <;> rcases hes y hy with ⟨hy', _⟩ | ⟨f1, f2⟩
    · exact h3.1 x hx' y hy' hxy
    · exact absurd (hxy.trans f2) (old x hx')
    · exact absurd (hxy.symm.trans e2) (old y hy')
    · rw [e1, f1]
  · rcases hes x hx with ⟨hx', _⟩ | ⟨e1, _⟩
    · exact h3.2 x hx'
    · exact ⟨nb, e1, hnb⟩

/-- behind that the formula's map is found -/
theorem Cache.found (h : Cache G hb w) (hto : P.underlying tm = some (.map ko ti)) (hko : P.underlying ko = some (.pointer e)) (he : P.info? e = some j) (hsz : j.size ≠ 0) (hz : (zeroValue ti).run P w = .ok (.map none) w) (hn : w.heap[nb]? = some (.cells c t (0, 0)))
    (hx : ∃ (es : Array MapEntry) (clock : Nat), w.heap[hb]? = some (.map es clock) ∧ ∃ x ∈ es.toList, x.key = kidV nb) :
    ∃ (ib : Nat) (esi : Array MapEntry) (ci : Nat), (Instr.lookup tm (.map (some hb)) (kidV nb) false).run P w = .ok (.map (some ib)) w ∧ Kept G hb nb ib w ∧ hb < ib ∧ w.heap[ib]? = some (.map esi ci) ∧ InnerOK (G nb) esi := by
  obtain ⟨es, clock, h1, h2, h3⟩ := h.at_
  obtain ⟨es0, clock0, h1', x0, hx0, hk0⟩ := hx
  rw [h1] at h1'
  simp only [Option.some.injEq, Obj.map.injEq] at h1'
  obtain ⟨rfl, rfl⟩ := h1'
  have hS : ∀ x ∈ es.toList, PKey w x.key := fun x hx => by
    obtain ⟨nb, ib, c, t, esi, ci, a1, a2, _⟩ := h2 x hx
    exact ⟨nb, c, t, a1, a2⟩
  rcases mlook false (pkey hko he hsz) hto hz h1 hS (key := kidV nb) ⟨nb, c, t, rfl, hn⟩ with ⟨_, hno⟩ | ⟨x, hx, hk, hr⟩
  · exact absurd hk0 (hno x0 hx0)
  · obtain ⟨nb', ib, c', t', esi, ci, a1, a2, a3, a4, a5, a6⟩ := h2 x hx
    have hnb : nb' = nb := by
      rw [hk] at a1
      simp only [kidV, Value.pointer.injEq, Option.some.injEq, Addr.mk.injEq] at a1
      exact a1.1.symm
    subst hnb
    rw [a3] at hr
    exact ⟨ib, esi, ci, by simpa using hr, ⟨es, clock, h1, x, hx, hk, a3⟩, a4, a5, a6⟩

/-- a new holder's map -/
theorem cache_new (G : Nat → Nat → Bool → Prop) (w : World) : Cache G w.heap.size (w.alloc (.map #[] 0)) :=
  ⟨#[], 0, heap_alloc_new w _, fun x hx => by simp at hx, fun x hx => by simp at hx, fun x hx => by simp at hx⟩

end

end Go.Proofs.YteonanaihklgmaaDoor

namespace Go.Proofs.YteonanaihklgmaaDoor
open Go.RowKit
open Go.ChangeMaps
open Pl
set_option linter.unusedSimpArgs false
set_option linter.unusedVariables false

theorem or_at {fr : Nat} {e : Nat → Nat} (he : ∀ i, e i < 8) {k : Nat} (hk : k < 4) (hb : fr.testBit k = true) : bits .or .i64 ((keyTo fr e k : Nat) : Int) ((e k * 8 ^ k : Nat) : Int) = ((keyTo fr e (k + 1) : Nat) : Int) := by
  have h1 := keyTo_lt (fr := fr) he k
  have h2 := keyTo_lt (fr := fr) he (k + 1)
  have e1 : keyTo fr e (k + 1) = keyTo fr e k ||| (e k * 8 ^ k) := by rw [show keyTo fr e (k + 1) = if fr.testBit k then keyTo fr e k ||| (e k * 8 ^ k) else keyTo fr e k from rfl, hb]; rfl
  rw [e1] at h2 ⊢
  have hp : (8 : Nat) ^ (k + 1) ≤ 4096 := by
    have : k = 0 ∨ k = 1 ∨ k = 2 ∨ k = 3 := by omega
    rcases this with rfl | rfl | rfl | rfl <;> decide
  have hp1 : (8 : Nat) ^ (k + 1) = 8 * 8 ^ k := by rw [Nat.pow_succ, Nat.mul_comm]
  have hx : e k * 8 ^ k ≤ 7 * 8 ^ k := Nat.mul_le_mul_right _ (by have := he k; omega)
  generalize e k * 8 ^ k = y at *
  generalize keyTo fr e k = m at *
  have g1 : (BitVec.ofInt 64 (m : Int)).toNat = m := by
    rw [BitVec.ofInt_natCast, BitVec.toNat_ofNat]; exact Nat.mod_eq_of_lt (by omega)
  have g2 : (BitVec.ofInt 64 (y : Int)).toNat = y := by
    rw [BitVec.ofInt_natCast, BitVec.toNat_ofNat]; exact Nat.mod_eq_of_lt (by omega)
  show IntKind.i64.wrap ((BitVec.ofInt 64 (m : Int) ||| BitVec.ofInt 64 (y : Int)).toNat : Int) = _
  rw [BitVec.toNat_or, g1, g2, IntWalk.i64_in _ (by omega)]

theorem keyTo_no {fr : Nat} {e : Nat → Nat} {k : Nat} (hb : fr.testBit k = false) : keyTo fr e (k + 1) = keyTo fr e k := by
  rw [show keyTo fr e (k + 1) = if fr.testBit k then keyTo fr e k ||| (e k * 8 ^ k) else keyTo fr e k from rfl, hb]; rfl

theorem index4 (W : World) (E : Nat → Nat) (k : Nat) (hk : k < 4) : (Instr.index 78 (.agg #[.int .i64 (E 0 : Nat), .int .i64 (E 1 : Nat), .int .i64 (E 2 : Nat), .int .i64 (E 3 : Nat)]) (.int .i64 (k : Nat))).run Tryd.prog W = .ok (.int .i64 (E k : Nat)) W := by
  obtain ⟨i0, hi, hz0, hz1, hz2⟩ := info_parts (P := Tryd.prog) (e := 3) (z := .int .i64 0) (size := 1) (bytes := 8) (by kernel_rfl)
  have hu := Tryd.underlying78
  have : k = 0 ∨ k = 1 ∨ k = 2 ∨ k = 3 := by omega
  rcases this with rfl | rfl | rfl | rfl <;> simp [Instr.index, run_underlying hu, asIntOf, part, isAgg, sizeOf, typeInfo, hi, hz1, hz0, go_sem]

theorem eql_map (W : World) (m : Option Nat) : (binOp .eql 129 (.map m) (.map none)).run Tryd.prog W = .ok (.bool m.isNone) W := by
  have hu := Tryd.underlying129
  have h : ∀ d : Nat, (Op.equalIn (d + 1) 129 (.map m) (.map none)).run Tryd.prog W = .ok m.isNone W := fun d => by
    cases m <;> simp [Op.equalIn, run_underlying hu]
  simp only [binOp]
  simp [Op.equal, Op.maxDepth, h 9999]

/-- the holder, of a structure, for trees in a world -/
structure HoldW (lo : Nat) (w0 : World) (a : St) (hb : Nat) (w : World) : Prop where
  tr : Below w0.heap.size w0 w
  ge : w0.heap.size ≤ hb
  box : Bx w (hb + 1) 116 #[.int .i64 (a.n : Int), .string (bs a.set), .string (bs a.rel), .map (some hb)]
  cache : Cache (Good lo w0 a) hb w

theorem HoldW.step {lo : Nat} {w0 : World} {a : St} {hb : Nat} {w w' : World} (h : HoldW lo w0 a hb w) (hf : Fz hb w w') (hc : Cache (Good lo w0 a) hb w') : HoldW lo w0 a hb w' :=
  ⟨h.tr.trans (hf.below.mono h.ge), h.ge, hf.bx h.box, hc⟩
theorem HoldW.call {lo : Nat} {w0 : World} {a : St} {hb : Nat} {w w' : World} (h : HoldW lo w0 a hb w) (hf : Below w.heap.size w w') : HoldW lo w0 a hb w' :=
  h.step (Fz.call (Nat.le_of_lt h.cache.lt) hf) (h.cache.call hf)
theorem HoldW.alloc {lo : Nat} {w0 : World} {a : St} {hb : Nat} {w : World} (h : HoldW lo w0 a hb w) (o : Obj) : HoldW lo w0 a hb (w.alloc o) := h.call ((Below.refl _ _).alloc (Nat.le_refl _) o)
theorem HoldW.tree {lo : Nat} {w0 : World} {a : St} {hb : Nat} {w : World} (h : HoldW lo w0 a hb w) {f : Fm} {nb : Nat} (ht : TreeAt lo w0 f nb) : TreeAt lo w f nb := ht.below h.tr

/-- the elements of the four variables, as a value -/
def envA (e : Env) : Array Value := #[.int .i64 (e 0 : Nat), .int .i64 (e 1 : Nat), .int .i64 (e 2 : Nat), .int .i64 (e 3 : Nat)]

/-- what isTrue and decide give back for a formula -/
def HoldsBy (F : FuncId) (lo : Nat) (w0 : World) (a : St) (hb : Nat) (f : Fm) : Prop :=
  ∀ (nb : Nat) (e : Env) (w : World), TreeAt lo w0 f nb → (∀ v, e v < a.n) → HoldW lo w0 a hb w →
    Calls Tryd.prog F #[.pointer (some ⟨hb + 1, 0, none⟩), kidV nb, .agg (envA e)] w fun ed w' => ed = .returned (.bool (f.holds a e)) ∧ HoldW lo w0 a hb w' ∧ Fz hb w w'

set_option maxRecDepth 100000 in
set_option maxHeartbeats 4000000 in
theorem isTrue_of (lo : Nat) (w0 : World) (a : St) (ha : a.ok) (hb : Nat) (f : Fm) (hd : HoldsBy 105 lo w0 a hb f) : HoldsBy 85 lo w0 a hb f := by
  intro nb e w ht he hw
  have h8 := ha.hi
  have he8 : ∀ v, e v < 8 := fun v => Nat.lt_of_lt_of_le (he v) h8
  have hfr : f.freeBits < 16 := freeBits_lt f
  have hg := good_new a ht he8
  have hkl := keyN_lt (fr := f.freeBits) he8
  obtain ⟨E, hE⟩ : ∃ E, E = eN e := ⟨_, rfl⟩
  have hA : envA e = #[.int .i64 (E 0 : Nat), .int .i64 (E 1 : Nat), .int .i64 (E 2 : Nat), .int .i64 (E 3 : Nat)] := by rw [hE]; rfl
  have hd2 := fun (W : World) (hW : HoldW lo w0 a hb W) => hd nb e W ht he hW
  simp only [hA] at hd2 ⊢
  have Hd := Lib.hid hd2
  clear hd2 hA
  have Hnlt := Lib.hid (show nb < hb from by
    obtain ⟨ks, ⟨_, vs, ps, hh, _⟩, _⟩ := ht.open
    have h1 := (Array.getElem?_eq_some_iff.1 hh).1
    have h2 := hw.ge
    omega)
  have T0 := Lib.hid ht
  have W1 := Lib.hid (hw.alloc (.cells #[.int .i64 (E 0 : Nat), .int .i64 (E 1 : Nat), .int .i64 (E 2 : Nat), .int .i64 (E 3 : Nat)] 78))
  have hx := Bx.new w 78 #[.int .i64 (E 0 : Nat), .int .i64 (E 1 : Nat), .int .i64 (E 2 : Nat), .int .i64 (E 3 : Nat)]
  have F1 := Lib.hid (Fz.alloc (Nat.le_of_lt hw.cache.lt) (.cells #[.int .i64 (E 0 : Nat), .int .i64 (E 1 : Nat), .int .i64 (E 2 : Nat), .int .i64 (E 3 : Nat)] 78))
  obtain ⟨ks, vsv, psv, hc0, hc1, hc2, hc3, hc4, _⟩ := node_cells (W1.out.tree ht)
  obtain ⟨jf, hinf, hsz⟩ : ∃ j, Tryd.prog.info? 68 = some j ∧ j.size ≠ 0 := by
    have h : (Tryd.prog.info? 68).map (·.size) = some 5 := by kernel_rfl
    cases hi : Tryd.prog.info? 68 with
    | none => rw [hi] at h; cases h
    | some j => exact ⟨j, rfl, by rw [hi] at h; simp at h; omega⟩
  have hzm : ∀ W, (zeroValue 129).run Tryd.prog W = .ok (.map none) W := fun W => by kernel_rfl
  have hzb : ∀ W, (zeroValue 4).run Tryd.prog W = .ok (.bool false) W := fun W => by kernel_rfl
  obtain ⟨ks0, ⟨_, vs0, ps0, hbk, _⟩, _⟩ := (W1.out.tree ht).open
  have Hn := Lib.hid hbk
  clear hbk
  have b3 := W1.out.box.cell 3
  simp only [List.getElem?_toArray, List.getElem?_cons_zero, List.getElem?_cons_succ] at b3
  have v0 := hx.cell 0
  have v1 := hx.cell 1
  have v2 := hx.cell 2
  have v3 := hx.cell 3
  have Hx := Lib.hid hx
  have eE := eN_lt he8
  obtain ⟨fr, hfr2⟩ : ∃ fr, fr = f.freeBits := ⟨_, rfl⟩
  rw [← hfr2] at hc3 hfr
  rw [← hE] at eE
  have He8 := Lib.hid he8
  have Hg := Lib.hid hg
  have Hkl := Lib.hid hkl
  have HE := Lib.hid hE
  have Hfr := Lib.hid hfr2
  simp only [List.getElem?_toArray, List.getElem?_cons_zero, List.getElem?_cons_succ] at v0 v1 v2 v3
  clear hd ht hw hx hg hkl hE hfr2 he8 he h8 hc0 hc1 hc2 hc4
  go_enter Tryd.func85, Tryd.ntmps85
  go_wp2_with fail
  go_loop [7, 14] (fun o i => ∃ k : Nat, k ≤ 4 ∧ i = .int .i64 (k : Nat) ∧ o = .int .i64 (keyTo fr E k : Nat)) (fun _ i => 4 - (intOf i).toNat)
  case atStart => exact ⟨0, by omega, rfl, rfl⟩
  case round =>
    obtain ⟨k, hk, rfl, rfl⟩ := hrel
    by_cases hlt : k < 4
    · have hbit := shr_bit fr k hfr hlt
      have hx8 := eE k
      have hix := fun W => index4 W E k hlt
      have hor := fun h => or_at (fr := fr) eE hlt h
      have hno := fun h => keyTo_no (fr := fr) (e := E) (k := k) h
      have hsh : IntKind.i64.wrap (3 * (k : Int)) = ((3 * k : Nat) : Int) := by rw [IntWalk.i64_in _ (by omega)]; omega
      have hpw : wrap64 ((E k : Int) * 2 ^ (3 * k)) = ((E k * 8 ^ k : Nat) : Int) := by
        have hp : (8 : Nat) ^ k ≤ 512 := by
          have : k = 0 ∨ k = 1 ∨ k = 2 ∨ k = 3 := by omega
          rcases this with rfl | rfl | rfl | rfl <;> decide
        have e1 : ((E k : Int) * 2 ^ (3 * k)) = ((E k * 8 ^ k : Nat) : Int) := by rw [Int.natCast_mul, Int.natCast_pow, Int.pow_mul]; rfl
        have hm : E k * 8 ^ k ≤ 7 * 512 := Nat.mul_le_mul (by omega) hp
        rw [e1]
        unfold wrap64
        omega
      cases hb' : fr.testBit k with
      | true =>
        rw [hb'] at hbit
        have Hor := Lib.hid (hor hb')
        have Hpw := Lib.hid hpw
        clear hno hb' hor hpw
        go_wp2_with fail
        go_round
        case rel => exact ⟨k + 1, by omega, by go_num, congrArg _ (by rw [Hpw.out]; exact Hor.out)⟩
        case measure => simp [intOf]; omega
      | false =>
        rw [hb'] at hbit
        have hno := hno hb'
        have Hno := Lib.hid hno
        clear hor hb' hno
        go_wp2_with fail
        go_round
        case rel => exact ⟨k + 1, by omega, by go_num, by rw [Hno.out]⟩
        case measure => simp [intOf]; omega
    · obtain rfl : k = 4 := by omega
      obtain ⟨K, hK⟩ : ∃ K, K = keyTo fr E 4 := ⟨_, rfl⟩
      have hK2 : keyN f.freeBits e = K := by rw [hK, Hfr.out, HE.out]; rfl
      rw [← hK]
      rw [hK2] at Hg Hkl
      have HK := Lib.hid hK2
      clear hK hK2
      rcases W1.out.cache.look Tryd.underlying114 Tryd.underlying55 hinf hsz (hzm _) Hn.out with hr | ⟨ib, esi, ci, hr, hkept, hlt2, hi, hok⟩
      · have hr2 := inner_look_nil (P := Tryd.prog) (w := w.alloc (.cells #[.int .i64 (E 0 : Nat), .int .i64 (E 1 : Nat), .int .i64 (E 2 : Nat), .int .i64 (E 3 : Nat)] 78)) Tryd.underlying129 Tryd.underlying3 (hzb _) Hkl.out
        go_wp2_with fail
        refine (Hd.out _ W1.out).mono ?_
        clear hr hr2 b3
        rintro ed w2 ⟨rfl, hW2, hF2⟩
        have W2 := Lib.hid hW2
        have F2 := Lib.hid (F1.out.trans hF2)
        have b3 := hW2.box.cell 3
        simp only [List.getElem?_toArray, List.getElem?_cons_zero, List.getElem?_cons_succ] at b3
        have hq0 := eql_map w2 none
        have hq1 := fun m => eql_map w2 (some m)
        simp only [Option.isNone_none, Option.isNone_some] at hq0 hq1
        have hn2 := hF2.cells _ _ _ _ Hn.out
        clear hW2 hF2
        rcases W2.out.cache.look Tryd.underlying114 Tryd.underlying55 hinf hsz (hzm _) hn2 with hr | ⟨ib, esi, ci, hr, hkept, hlt, hi, hok⟩
        · obtain ⟨W, hr4, hcW, hfW, hin⟩ := W2.out.cache.grow Tryd.underlying114 Tryd.underlying55 hinf hsz hn2 Hnlt.out
          have W3 := Lib.hid (W2.out.step hfW hcW)
          obtain ⟨ib, esi, ci, hr5, hkept, hlt, hi, hok⟩ := hcW.found Tryd.underlying114 Tryd.underlying55 hinf hsz (hzm _) (hfW.cells _ _ _ _ hn2) hin
          obtain ⟨W', hr6, hcW', hfW'⟩ := hcW.put hkept hlt hi hok Tryd.underlying129 Tryd.underlying3 Hkl.out Hg.out
          have W4 := Lib.hid (W3.out.step hfW' hcW')
          have F4 := Lib.hid ((F2.out.trans hfW).trans hfW')
          have c3 := W3.out.box.cell 3
          have d3 := (W2.out.alloc (.map #[] 0)).box.cell 3
          simp only [List.getElem?_toArray, List.getElem?_cons_zero, List.getElem?_cons_succ] at c3 d3
          have hmk := run_makeMap (P := Tryd.prog) 129 w2
          clear hcW hfW hin hkept hlt hi hok hcW' hfW' hn2
          go_wp2_with fail
          go_ret
          exact ⟨rfl, W4.out, F4.out⟩
        · obtain ⟨W', hr6, hcW', hfW'⟩ := W2.out.cache.put hkept hlt hi hok Tryd.underlying129 Tryd.underlying3 Hkl.out Hg.out
          have W4 := Lib.hid (W2.out.step hfW' hcW')
          have F4 := Lib.hid (F2.out.trans hfW')
          clear hkept hlt hi hok hcW' hfW' hn2
          go_wp2_with fail
          go_ret
          exact ⟨rfl, W4.out, F4.out⟩
      · rcases inner_look (P := Tryd.prog) hi hok Tryd.underlying129 Tryd.underlying3 (hzb _) Hkl.out with hr2 | ⟨v, hr2, hv⟩
        · clear hkept hlt2 hi hok
          go_wp2_with fail
          refine (Hd.out _ W1.out).mono ?_
          clear hr hr2 b3
          rintro ed w2 ⟨rfl, hW2, hF2⟩
          have W2 := Lib.hid hW2
          have F2 := Lib.hid (F1.out.trans hF2)
          have b3 := hW2.box.cell 3
          simp only [List.getElem?_toArray, List.getElem?_cons_zero, List.getElem?_cons_succ] at b3
          have hq0 := eql_map w2 none
          have hq1 := fun m => eql_map w2 (some m)
          simp only [Option.isNone_none, Option.isNone_some] at hq0 hq1
          have hn2 := hF2.cells _ _ _ _ Hn.out
          clear hW2 hF2
          rcases W2.out.cache.look Tryd.underlying114 Tryd.underlying55 hinf hsz (hzm _) hn2 with hr | ⟨ib, esi, ci, hr, hkept, hlt, hi, hok⟩
          · obtain ⟨W, hr4, hcW, hfW, hin⟩ := W2.out.cache.grow Tryd.underlying114 Tryd.underlying55 hinf hsz hn2 Hnlt.out
            have W3 := Lib.hid (W2.out.step hfW hcW)
            obtain ⟨ib, esi, ci, hr5, hkept, hlt, hi, hok⟩ := hcW.found Tryd.underlying114 Tryd.underlying55 hinf hsz (hzm _) (hfW.cells _ _ _ _ hn2) hin
            obtain ⟨W', hr6, hcW', hfW'⟩ := hcW.put hkept hlt hi hok Tryd.underlying129 Tryd.underlying3 Hkl.out Hg.out
            have W4 := Lib.hid (W3.out.step hfW' hcW')
            have F4 := Lib.hid ((F2.out.trans hfW).trans hfW')
            have c3 := W3.out.box.cell 3
            have d3 := (W2.out.alloc (.map #[] 0)).box.cell 3
            simp only [List.getElem?_toArray, List.getElem?_cons_zero, List.getElem?_cons_succ] at c3 d3
            have hmk := run_makeMap (P := Tryd.prog) 129 w2
            clear hcW hfW hin hkept hlt hi hok hcW' hfW' hn2
            go_wp2_with fail
            go_ret
            exact ⟨rfl, W4.out, F4.out⟩
          · obtain ⟨W', hr6, hcW', hfW'⟩ := W2.out.cache.put hkept hlt hi hok Tryd.underlying129 Tryd.underlying3 Hkl.out Hg.out
            have W4 := Lib.hid (W2.out.step hfW' hcW')
            have F4 := Lib.hid (F2.out.trans hfW')
            clear hkept hlt hi hok hcW' hfW' hn2
            go_wp2_with fail
            go_ret
            exact ⟨rfl, W4.out, F4.out⟩
        · have hv2 := hv f T0.out e He8.out HK.out
          have Hv := Lib.hid hv2
          clear hkept hlt2 hi hok hv hv2
          go_wp2_with fail
          go_ret
          exact ⟨by rw [← Hv.out]; rfl, W1.out, F1.out⟩

end Go.Proofs.YteonanaihklgmaaDoor

namespace Go.Proofs.YteonanaihklgmaaDoor
open Go.RowKit
open Go.ChangeMaps
open Pl
set_option linter.unusedSimpArgs false
set_option linter.unusedVariables false

/-- the boxes of decide: the formula's address, the elements -/
structure DecB (w : World) (bn nb : Nat) (E : Nat → Nat) : Prop where
  node : Bx w bn 55 #[kidV nb]
  vals : Bx w (bn + 1) 78 #[.int .i64 (E 0 : Nat), .int .i64 (E 1 : Nat), .int .i64 (E 2 : Nat), .int .i64 (E 3 : Nat)]

theorem fin4 : ∀ v : Fin 4, v = 0 ∨ v = 1 ∨ v = 2 ∨ v = 3 := by decide

set_option maxRecDepth 100000 in
set_option maxHeartbeats 1000000 in
theorem at_calls {S : Nat → Prop} (f : Fm) (nb bn : Nat) (E : Nat → Nat) (w : World) (ht : TreeIn S w f nb) (hb : DecB w bn nb E) (i : Nat) (v : Fin 4) (hv : f.vars[i]? = some v) :
    Calls Tryd.prog 118 #[.int .i64 (i : Nat), .pointer (some ⟨bn + 1, 0, none⟩), .pointer (some ⟨bn, 0, none⟩)] w fun e w' => e = .returned (.int .i64 (E v.val : Nat)) ∧ w = w' := by
  obtain ⟨ks, vsv, psv, _, hc1, _, _, _, hrow, _⟩ := node_cells ht
  obtain ⟨a, cap, rfl, hl, hrow⟩ := row_slice hrow
  have hi : i < f.vars.length := (List.getElem?_eq_some_iff.1 hv).1
  have hl2 := vars_le f
  obtain ⟨g, rfl, hcell⟩ := hrow i hi
  have hcell2 : w.cell? ⟨g, i, none⟩ = some (byteV (vb v)) := by rw [hcell, List.getElem?_map, hv]; rfl
  have n0 := hb.node.cell 0
  have v0 := hb.vals.cell 0
  have v1 := hb.vals.cell 1
  have v2 := hb.vals.cell 2
  have v3 := hb.vals.cell 3
  simp only [List.getElem?_toArray, List.getElem?_cons_zero, List.getElem?_cons_succ] at n0 v0 v1 v2 v3
  unfold byteV at hcell2
  have i1 : (0 : Int) ≤ (i : Int) := by omega
  have i2 : (i : Int) < (f.vars.length : Int) := by omega
  generalize f.vars.length = nv at *
  clear hb ht hv hl hcell hrow hi hl2
  have : v = 0 ∨ v = 1 ∨ v = 2 ∨ v = 3 := fin4 v
  rcases this with rfl | rfl | rfl | rfl
  · have e : ((vb 0).toNat : Int) = 97 := by decide
    rw [e] at hcell2
    go_enter Tryd.func118, Tryd.ntmps118
    go_wp2_with fail
    go_ret
    exact ⟨rfl, rfl⟩
  · have e : ((vb 1).toNat : Int) = 98 := by decide
    rw [e] at hcell2
    go_enter Tryd.func118, Tryd.ntmps118
    go_wp2_with fail
    go_ret
    exact ⟨rfl, rfl⟩
  · have e : ((vb 2).toNat : Int) = 99 := by decide
    rw [e] at hcell2
    go_enter Tryd.func118, Tryd.ntmps118
    go_wp2_with fail
    go_ret
    exact ⟨rfl, rfl⟩
  · have e : ((vb 3).toNat : Int) = 100 := by decide
    rw [e] at hcell2
    go_enter Tryd.func118, Tryd.ntmps118
    go_wp2_with fail
    go_ret
    exact ⟨rfl, rfl⟩

end Go.Proofs.YteonanaihklgmaaDoor
