/-
  Laws of the functions that the claim reaches, one after the other (packed by a program of the prover's: Plain, SpecA, ImplA, ParseA, RankA, Syn). Conditions: texts below the reach.
-/
import Derived.KernelRfl
import Derived.Test.YtpaleogkgfclnaaDoorRows
import Derived.WalkKit
import Derived.WalkSpells
import Derived.Lib.Hide
import Derived.Lib.Bytealg
import Derived.Lib.IndexBytes
import Derived.Deep.RegionHeld
set_option linter.unusedSimpArgs false
set_option linter.unusedVariables false

namespace Go.Proofs.YtpaleogkgfclnaaDoor
namespace Pl

/-- the quantifiers: all, some, at least two, three, four -/
inductive Qn where
  | A | S | c2 | c3 | c4

/-- formulas -/
inductive Fm where
  | tru | fls
  | pr (v : Fin 4) | eq (v w : Fin 4) | rel (v w : Fin 4)
  | neg (p : Fm) | con (p q : Fm) | dis (p q : Fm) | qu (k : Qn) (v : Fin 4) (p : Fm)

def Qn.b : Qn → UInt8
  | .A => 65 | .S => 83 | .c2 => 50 | .c3 => 51 | .c4 => 52

/-- how often a quantifier counts -/
def Qn.n : Qn → Nat
  | .A => 1 | .S => 1 | .c2 => 2 | .c3 => 3 | .c4 => 4

/-- the byte of a variable -/
def vb (v : Fin 4) : UInt8 := UInt8.ofNat (97 + v.val)

/-- the operator -/
def Fm.op : Fm → UInt8
  | .tru => 116 | .fls => 102 | .pr _ => 80 | .eq _ _ => 61 | .rel _ _ => 69 | .neg _ => 33 | .con _ _ => 38 | .dis _ _ => 124 | .qu k _ _ => k.b

def Fm.vars : Fm → List (Fin 4)
  | .pr v => [v] | .eq v w => [v, w] | .rel v w => [v, w] | .qu _ v _ => [v] | _ => []

def Fm.parts : Fm → List Fm
  | .neg p => [p] | .con p q => [p, q] | .dis p q => [p, q] | .qu _ _ p => [p] | _ => []

def Fm.text : Fm → List UInt8
  | .tru => [116] | .fls => [102] | .pr v => [80, vb v] | .eq v w => [61, vb v, vb w] | .rel v w => [69, vb v, vb w]
  | .neg p => 33 :: p.text | .con p q => 38 :: (p.text ++ q.text) | .dis p q => 124 :: (p.text ++ q.text) | .qu k v p => k.b :: vb v :: p.text

def Fm.size : Fm → Nat
  | .neg p => p.size + 1 | .con p q => p.size + q.size + 1 | .dis p q => p.size + q.size + 1 | .qu _ _ p => p.size + 1 | _ => 1

theorem Fm.size_parts {f p : Fm} (h : p ∈ f.parts) : p.size < f.size := by
  cases f <;> simp [Fm.parts] at h
  case neg => subst h; simp [Fm.size]
  case con => rcases h with h | h <;> subst h <;> simp [Fm.size] <;> omega
  case dis => rcases h with h | h <;> subst h <;> simp [Fm.size] <;> omega
  case qu => subst h; simp [Fm.size]

theorem Fm.text_eq (f : Fm) : f.text = f.op :: (f.vars.map vb ++ (f.parts.map Fm.text).flatten) := by
  cases f <;> simp [Fm.text, Fm.op, Fm.vars, Fm.parts]

theorem vb_inj {v w : Fin 4} (h : vb v = vb w) : v = w := by
  revert v w; decide

theorem qb_inj {v w : Qn} (h : v.b = w.b) : v = w := by
  cases v <;> cases w <;> first | rfl | (exact absurd h (by decide))

theorem Fm.text_inj : ∀ (f g : Fm) (r s : List UInt8), f.text ++ r = g.text ++ s → f = g ∧ r = s := by
  intro f
  induction f with
  | tru =>
    intro g r s h
    cases g <;> simp [Fm.text] at h ⊢
    · exact h
    · rename_i k _ _; cases k <;> simp [Qn.b] at h
  | fls =>
    intro g r s h
    cases g <;> simp [Fm.text] at h ⊢
    · exact h
    · rename_i k _ _; cases k <;> simp [Qn.b] at h
  | pr v =>
    intro g r s h
    cases g <;> simp [Fm.text] at h ⊢
    · exact ⟨vb_inj h.1, h.2⟩
    · rename_i k _ _; cases k <;> simp [Qn.b] at h
  | eq v w =>
    intro g r s h
    cases g <;> simp [Fm.text] at h ⊢
    · exact ⟨⟨vb_inj h.1, vb_inj h.2.1⟩, h.2.2⟩
    · rename_i k _ _; cases k <;> simp [Qn.b] at h
  | rel v w =>
    intro g r s h
    cases g <;> simp [Fm.text] at h ⊢
    · exact ⟨⟨vb_inj h.1, vb_inj h.2.1⟩, h.2.2⟩
    · rename_i k _ _; cases k <;> simp [Qn.b] at h
  | neg p ih =>
    intro g r s h
    cases g <;> simp [Fm.text] at h ⊢
    · exact ih _ _ _ h
    · rename_i k _ _; cases k <;> simp [Qn.b] at h
  | con p q ihp ihq =>
    intro g r s h
    cases g <;> simp [Fm.text] at h ⊢
    · obtain ⟨h1, h2⟩ := ihp _ _ _ h
      obtain ⟨h3, h4⟩ := ihq _ _ _ h2
      exact ⟨⟨h1, h3⟩, h4⟩
    · rename_i k _ _; cases k <;> simp [Qn.b] at h
  | dis p q ihp ihq =>
    intro g r s h
    cases g <;> simp [Fm.text] at h ⊢
    · obtain ⟨h1, h2⟩ := ihp _ _ _ h
      obtain ⟨h3, h4⟩ := ihq _ _ _ h2
      exact ⟨⟨h1, h3⟩, h4⟩
    · rename_i k _ _; cases k <;> simp [Qn.b] at h
  | qu k v p ih =>
    intro g r s h
    cases g <;> simp [Fm.text] at h ⊢
    case qu =>
      obtain ⟨h1, h2, h3⟩ := h
      obtain ⟨h4, h5⟩ := ih _ _ _ h3
      exact ⟨⟨qb_inj h1, vb_inj h2, h4⟩, h5⟩
    all_goals (cases k <;> simp [Qn.b] at h)

/-- how many variables and how many parts follow an operator -/
def arity (b : UInt8) : Option (Nat × Nat) :=
  if b = 116 then some (0, 0) else if b = 102 then some (0, 0) else if b = 80 then some (1, 0) else if b = 61 then some (2, 0) else if b = 69 then some (2, 0)
  else if b = 33 then some (0, 1) else if b = 38 then some (0, 2) else if b = 124 then some (0, 2)
  else if b = 65 then some (1, 1) else if b = 83 then some (1, 1) else if b = 50 then some (1, 1) else if b = 51 then some (1, 1) else if b = 52 then some (1, 1) else none

theorem arity_op (f : Fm) : arity f.op = some (f.vars.length, f.parts.length) := by
  cases f <;> first | rfl | (rename_i k _ _; cases k <;> rfl)

theorem arity_mk {b : UInt8} {nv np : Nat} (h : arity b = some (nv, np)) (vs : List (Fin 4)) (ps : List Fm) (hv : vs.length = nv) (hp : ps.length = np) :
    ∃ f : Fm, f.op = b ∧ f.vars = vs ∧ f.parts = ps := by
  unfold arity at h
  by_cases hb : b = 116
  · subst hb
    have e : some (0, 0) = some (nv, np) := h
    injection e with e
    injection e with e1 e2
    subst e1 e2
    match vs, hv, ps, hp with
    | [], _, [], _ => exact ⟨.tru, rfl, rfl, rfl⟩
  rw [if_neg hb] at h
  clear hb
  by_cases hb : b = 102
  · subst hb
    have e : some (0, 0) = some (nv, np) := h
    injection e with e
    injection e with e1 e2
    subst e1 e2
    match vs, hv, ps, hp with
    | [], _, [], _ => exact ⟨.fls, rfl, rfl, rfl⟩
  rw [if_neg hb] at h
  clear hb
  by_cases hb : b = 80
  · subst hb
    have e : some (1, 0) = some (nv, np) := h
    injection e with e
    injection e with e1 e2
    subst e1 e2
    match vs, hv, ps, hp with
    | [v], _, [], _ => exact ⟨.pr v, rfl, rfl, rfl⟩
  rw [if_neg hb] at h
  clear hb
  by_cases hb : b = 61
  · subst hb
    have e : some (2, 0) = some (nv, np) := h
    injection e with e
    injection e with e1 e2
    subst e1 e2
    match vs, hv, ps, hp with
    | [v, w], _, [], _ => exact ⟨.eq v w, rfl, rfl, rfl⟩
  rw [if_neg hb] at h
  clear hb
  by_cases hb : b = 69
  · subst hb
    have e : some (2, 0) = some (nv, np) := h
    injection e with e
    injection e with e1 e2
    subst e1 e2
    match vs, hv, ps, hp with
    | [v, w], _, [], _ => exact ⟨.rel v w, rfl, rfl, rfl⟩
  rw [if_neg hb] at h
  clear hb
  by_cases hb : b = 33
  · subst hb
    have e : some (0, 1) = some (nv, np) := h
    injection e with e
    injection e with e1 e2
    subst e1 e2
    match vs, hv, ps, hp with
    | [], _, [p], _ => exact ⟨.neg p, rfl, rfl, rfl⟩
  rw [if_neg hb] at h
  clear hb
  by_cases hb : b = 38
  · subst hb
    have e : some (0, 2) = some (nv, np) := h
    injection e with e
    injection e with e1 e2
    subst e1 e2
    match vs, hv, ps, hp with
    | [], _, [p, q], _ => exact ⟨.con p q, rfl, rfl, rfl⟩
  rw [if_neg hb] at h
  clear hb
  by_cases hb : b = 124
  · subst hb
    have e : some (0, 2) = some (nv, np) := h
    injection e with e
    injection e with e1 e2
    subst e1 e2
    match vs, hv, ps, hp with
    | [], _, [p, q], _ => exact ⟨.dis p q, rfl, rfl, rfl⟩
  rw [if_neg hb] at h
  clear hb
  by_cases hb : b = 65
  · subst hb
    have e : some (1, 1) = some (nv, np) := h
    injection e with e
    injection e with e1 e2
    subst e1 e2
    match vs, hv, ps, hp with
    | [v], _, [p], _ => exact ⟨.qu .A v p, rfl, rfl, rfl⟩
  rw [if_neg hb] at h
  clear hb
  by_cases hb : b = 83
  · subst hb
    have e : some (1, 1) = some (nv, np) := h
    injection e with e
    injection e with e1 e2
    subst e1 e2
    match vs, hv, ps, hp with
    | [v], _, [p], _ => exact ⟨.qu .S v p, rfl, rfl, rfl⟩
  rw [if_neg hb] at h
  clear hb
  by_cases hb : b = 50
  · subst hb
    have e : some (1, 1) = some (nv, np) := h
    injection e with e
    injection e with e1 e2
    subst e1 e2
    match vs, hv, ps, hp with
    | [v], _, [p], _ => exact ⟨.qu .c2 v p, rfl, rfl, rfl⟩
  rw [if_neg hb] at h
  clear hb
  by_cases hb : b = 51
  · subst hb
    have e : some (1, 1) = some (nv, np) := h
    injection e with e
    injection e with e1 e2
    subst e1 e2
    match vs, hv, ps, hp with
    | [v], _, [p], _ => exact ⟨.qu .c3 v p, rfl, rfl, rfl⟩
  rw [if_neg hb] at h
  clear hb
  by_cases hb : b = 52
  · subst hb
    have e : some (1, 1) = some (nv, np) := h
    injection e with e
    injection e with e1 e2
    subst e1 e2
    match vs, hv, ps, hp with
    | [v], _, [p], _ => exact ⟨.qu .c4 v p, rfl, rfl, rfl⟩
  rw [if_neg hb] at h
  clear hb
  cases h

open Classical in
/-- the formula with which a text begins, and the rest of the text -/
noncomputable def parse (l : List UInt8) : Option (Fm × List UInt8) :=
  if h : ∃ x : Fm × List UInt8, l = x.1.text ++ x.2 then some (Classical.choose h) else none

theorem parse_some {l : List UInt8} {f : Fm} {r : List UInt8} : parse l = some (f, r) ↔ l = f.text ++ r := by
  unfold parse
  constructor
  · intro h
    split at h
    · rename_i hx
      have := Classical.choose_spec hx
      injection h with h
      rw [h] at this
      exact this
    · cases h
  · intro h
    have hx : ∃ x : Fm × List UInt8, l = x.1.text ++ x.2 := ⟨(f, r), h⟩
    rw [dif_pos hx]
    have hc := Classical.choose_spec hx
    obtain ⟨h1, h2⟩ := Fm.text_inj _ _ _ _ (hc.symm.trans h)
    congr 1
    exact Prod.ext h1 h2

theorem parse_none {l : List UInt8} : parse l = none ↔ ∀ (f : Fm) (r : List UInt8), l ≠ f.text ++ r := by
  constructor
  · intro h f r e
    rw [parse_some.2 e] at h
    cases h
  · intro h
    cases hp : parse l with
    | none => rfl
    | some x => exact absurd (parse_some.1 hp) (h _ _)

theorem parse_nil : parse [] = none := parse_none.2 fun f r h => by cases f <;> simp [Fm.text] at h

theorem parse_bad {b : UInt8} {l : List UInt8} (h : arity b = none) : parse (b :: l) = none := parse_none.2 fun f r e => by
  rw [Fm.text_eq] at e
  simp at e
  rw [e.1, arity_op] at h
  cases h

/-- the byte of a variable, or none -/
def varOf (b : UInt8) : Option (Fin 4) := if b = 97 then some 0 else if b = 98 then some 1 else if b = 99 then some 2 else if b = 100 then some 3 else none

theorem varOf_vb (v : Fin 4) : varOf (vb v) = some v := by revert v; decide

theorem varOf_some {b : UInt8} {v : Fin 4} : varOf b = some v ↔ b = vb v := by
  constructor
  · intro h
    unfold varOf at h
    split at h; · injection h with h; subst h; assumption
    split at h; · injection h with h; subst h; assumption
    split at h; · injection h with h; subst h; assumption
    split at h; · injection h with h; subst h; assumption
    cases h
  · intro h; subst h; exact varOf_vb v

/-- failing at a variable -/
theorem parse_no_var {b : UInt8} {nv np : Nat} (ha : arity b = some (nv, np)) (vs : List (Fin 4)) (cur : List UInt8) (hk : vs.length < nv)
    (hno : ∀ v r, cur ≠ vb v :: r) : parse (b :: (vs.map vb ++ cur)) = none := parse_none.2 fun f r e => by
  rw [Fm.text_eq] at e
  simp only [List.cons_append, List.cons.injEq, List.append_assoc] at e
  obtain ⟨rfl, e⟩ := e
  rw [arity_op] at ha
  simp at ha
  rcases List.append_eq_append_iff.1 e with ⟨t, h1, h2⟩ | ⟨t, h1, h2⟩
  · have hl : vs.length + t.length = f.vars.length := by have := congrArg List.length h1; simpa using this.symm
    match t, h1, h2, hl with
    | [], _, _, hl => simp at hl; omega
    | x :: t, h1, h2, _ =>
      have : x ∈ f.vars.map vb := by rw [h1]; simp
      obtain ⟨v, _, rfl⟩ := List.mem_map.1 this
      exact hno v _ (by rw [h2]; rfl)
  · have hl : f.vars.length + t.length = vs.length := by have := congrArg List.length h1; simpa using this.symm
    omega

theorem flat_prefix : ∀ (ps qs : List Fm) (cur r : List UInt8), (ps.map Fm.text).flatten ++ cur = (qs.map Fm.text).flatten ++ r → ps.length < qs.length →
    ∃ (f : Fm) (s : List UInt8), cur = f.text ++ s := by
  intro ps
  induction ps with
  | nil =>
    intro qs cur r h hl
    match qs, hl with
    | q :: qs, _ => exact ⟨q, (qs.map Fm.text).flatten ++ r, by simpa using h⟩
  | cons p ps ih =>
    intro qs cur r h hl
    match qs, hl with
    | q :: qs, hl =>
      simp at h hl
      obtain ⟨_, h2⟩ := Fm.text_inj _ _ _ _ h
      exact ih qs cur r (by simpa using h2) hl

/-- failing at a part -/
theorem parse_no_part {b : UInt8} {nv np : Nat} (ha : arity b = some (nv, np)) (vs : List (Fin 4)) (hv : vs.length = nv) (ps : List Fm) (cur : List UInt8) (hk : ps.length < np)
    (hno : parse cur = none) : parse (b :: (vs.map vb ++ ((ps.map Fm.text).flatten ++ cur))) = none := parse_none.2 fun f r e => by
  rw [Fm.text_eq] at e
  simp only [List.cons_append, List.cons.injEq, List.append_assoc] at e
  obtain ⟨rfl, e⟩ := e
  rw [arity_op] at ha
  simp at ha
  have hl : (vs.map vb).length = (f.vars.map vb).length := by simp; omega
  obtain ⟨_, e2⟩ := List.append_inj e hl
  obtain ⟨g, s, hg⟩ := flat_prefix _ _ _ _ e2 (by omega)
  exact parse_none.1 hno g s hg

/-- succeeding -/
theorem parse_all {b : UInt8} {nv np : Nat} (ha : arity b = some (nv, np)) (vs : List (Fin 4)) (hv : vs.length = nv) (ps : List Fm) (hp : ps.length = np) (cur : List UInt8) :
    ∃ f : Fm, f.op = b ∧ f.vars = vs ∧ f.parts = ps ∧ parse (b :: (vs.map vb ++ ((ps.map Fm.text).flatten ++ cur))) = some (f, cur) := by
  obtain ⟨f, rfl, rfl, rfl⟩ := arity_mk ha vs ps hv hp
  exact ⟨f, rfl, rfl, rfl, parse_some.2 (by rw [Fm.text_eq]; simp)⟩

theorem Fm.text_pos (f : Fm) : 0 < f.text.length := by rw [Fm.text_eq]; simp

/-! ### where a formula ends -/

noncomputable def endI (l : List UInt8) (k : Nat) : Int := match parse (l.drop k) with | some (f, _) => ((k + f.text.length : Nat) : Int) | none => -1

theorem endI_some {l : List UInt8} {k : Nat} {f : Fm} {r : List UInt8} (h : l.drop k = f.text ++ r) : endI l k = ((k + f.text.length : Nat) : Int) := by
  unfold endI; rw [parse_some.2 h]

theorem endI_none {l : List UInt8} {k : Nat} (h : parse (l.drop k) = none) : endI l k = -1 := by
  unfold endI; rw [h]

theorem endI_cases (l : List UInt8) (k : Nat) : (parse (l.drop k) = none ∧ endI l k = -1) ∨ ∃ (f : Fm) (r : List UInt8), l.drop k = f.text ++ r ∧ endI l k = ((k + f.text.length : Nat) : Int) := by
  cases h : parse (l.drop k) with
  | none => exact .inl ⟨rfl, endI_none h⟩
  | some x => exact .inr ⟨x.1, x.2, parse_some.1 h, endI_some (parse_some.1 h)⟩

theorem drop_add_of {l : List UInt8} {k : Nat} {p r : List UInt8} (h : l.drop k = p ++ r) : l.drop (k + p.length) = r := by
  rw [← List.drop_drop, h]; simp

theorem endI_le {l : List UInt8} {k : Nat} (hk : k ≤ l.length) : -1 ≤ endI l k ∧ endI l k ≤ l.length := by
  rcases endI_cases l k with ⟨_, h⟩ | ⟨f, r, h1, h⟩
  · rw [h]; omega
  · rw [h]
    have := congrArg List.length h1
    simp at this
    omega

theorem endI_end {l : List UInt8} {k : Nat} (h : l.length ≤ k) : endI l k = -1 := endI_none (by rw [List.drop_eq_nil_of_le h]; exact parse_nil)

theorem endI_bad {l : List UInt8} {k : Nat} {b : UInt8} {r : List UInt8} (h : l.drop k = b :: r) (ha : arity b = none) : endI l k = -1 := endI_none (by rw [h]; exact parse_bad ha)

theorem endI_leaf {l : List UInt8} {k : Nat} {b : UInt8} {r : List UInt8} (h : l.drop k = b :: r) (ha : arity b = some (0, 0)) : endI l k = (k + 1 : Nat) := by
  obtain ⟨f, rfl, h1, h2, h3⟩ := parse_all ha [] rfl [] rfl r
  rw [endI_some (f := f) (r := r) (parse_some.1 (by rw [h]; simpa using h3)), Fm.text_eq, h1, h2]
  simp

/-- the variable at an index, or -1 -/
def varI (l : List UInt8) (k : Nat) : Int := match l[k]? with | some b => (match varOf b with | some v => (v.val : Int) | none => -1) | none => -1

theorem varI_le (l : List UInt8) (k : Nat) : -1 ≤ varI l k ∧ varI l k ≤ 3 := by
  unfold varI
  split
  · split
    · rename_i v _; have := v.isLt; omega
    · omega
  · omega

theorem varI_neg {l : List UInt8} {k : Nat} (h : varI l k < 0) : ∀ v r, l.drop k ≠ vb v :: r := by
  intro v r e
  have : l[k]? = some (vb v) := by
    have h2 : (l.drop k)[0]? = some (vb v) := by rw [e]; rfl
    simpa using h2
  unfold varI at h
  rw [this] at h
  simp only [varOf_vb] at h
  omega

theorem varI_pos {l : List UInt8} {k : Nat} (h : 0 ≤ varI l k) : ∃ v : Fin 4, varI l k = v.val ∧ l.drop k = vb v :: l.drop (k + 1) := by
  unfold varI at h ⊢
  cases hl : l[k]? with
  | none => rw [hl] at h; simp at h
  | some b =>
    rw [hl] at h
    simp only at h ⊢
    cases hv : varOf b with
    | none => rw [hv] at h; simp at h
    | some v =>
      refine ⟨v, rfl, ?_⟩
      obtain ⟨hlt, hb⟩ := List.getElem?_eq_some_iff.1 hl
      rw [List.drop_eq_getElem_cons hlt, hb, varOf_some.1 hv]

theorem endI_var_no {l : List UInt8} {k : Nat} {b : UInt8} {r : List UInt8} {nv np : Nat} (h : l.drop k = b :: r) (ha : arity b = some (nv, np)) (hnv : 0 < nv) (hv : varI l (k + 1) < 0) : endI l k = -1 := by
  have hr : l.drop (k + 1) = r := drop_add_of (p := [b]) (by simpa using h)
  have := parse_no_var ha [] r (by simpa using hnv) (fun v s e => varI_neg hv v s (by rw [hr, e]))
  exact endI_none (by rw [h]; simpa using this)

theorem endI_var2_no {l : List UInt8} {k : Nat} {b : UInt8} {r : List UInt8} {np : Nat} (h : l.drop k = b :: r) (ha : arity b = some (2, np)) (hv : 0 ≤ varI l (k + 1)) (hw : varI l (k + 2) < 0) : endI l k = -1 := by
  have hr : l.drop (k + 1) = r := drop_add_of (p := [b]) (by simpa using h)
  obtain ⟨v, _, h1⟩ := varI_pos hv
  have := parse_no_var ha [v] (l.drop (k + 2)) (by simp) (fun v s e => varI_neg hw v s e)
  exact endI_none (by rw [h, ← hr, h1]; simpa using this)

theorem endI_var1 {l : List UInt8} {k : Nat} {b : UInt8} {r : List UInt8} (h : l.drop k = b :: r) (ha : arity b = some (1, 0)) (hv : 0 ≤ varI l (k + 1)) : endI l k = (k + 2 : Nat) := by
  have hr : l.drop (k + 1) = r := drop_add_of (p := [b]) (by simpa using h)
  obtain ⟨v, _, h1⟩ := varI_pos hv
  obtain ⟨f, rfl, e1, e2, h3⟩ := parse_all ha [v] rfl [] rfl (l.drop (k + 2))
  rw [endI_some (f := f) (r := l.drop (k + 2)) (parse_some.1 (by rw [h, ← hr, h1]; simpa using h3)), Fm.text_eq, e1, e2]
  simp

theorem endI_var2 {l : List UInt8} {k : Nat} {b : UInt8} {r : List UInt8} (h : l.drop k = b :: r) (ha : arity b = some (2, 0)) (hv : 0 ≤ varI l (k + 1)) (hw : 0 ≤ varI l (k + 2)) : endI l k = (k + 3 : Nat) := by
  have hr : l.drop (k + 1) = r := drop_add_of (p := [b]) (by simpa using h)
  obtain ⟨v, _, h1⟩ := varI_pos hv
  obtain ⟨v2, _, h2⟩ := varI_pos hw
  obtain ⟨f, rfl, e1, e2, h3⟩ := parse_all ha [v, v2] rfl [] rfl (l.drop (k + 3))
  rw [endI_some (f := f) (r := l.drop (k + 3)) (parse_some.1 (by rw [h, ← hr, h1, h2]; simpa using h3)), Fm.text_eq, e1, e2]
  simp

theorem endI_neg {l : List UInt8} {k : Nat} {b : UInt8} {r : List UInt8} (h : l.drop k = b :: r) (ha : arity b = some (0, 1)) : endI l k = endI l (k + 1) := by
  have hr : l.drop (k + 1) = r := drop_add_of (p := [b]) (by simpa using h)
  rcases endI_cases l (k + 1) with ⟨h1, h2⟩ | ⟨p, s, h1, h2⟩
  · rw [h2]
    have := parse_no_part ha [] rfl [] r (by simp) (by rw [← hr]; exact h1)
    exact endI_none (by rw [h]; simpa using this)
  · rw [h2]
    obtain ⟨f, rfl, e1, e2, h3⟩ := parse_all ha [] rfl [p] rfl s
    rw [endI_some (f := f) (r := s) (parse_some.1 (by rw [h, ← hr, h1]; simpa using h3)), Fm.text_eq, e1, e2]
    simp; omega

theorem endI_qu {l : List UInt8} {k : Nat} {b : UInt8} {r : List UInt8} (h : l.drop k = b :: r) (ha : arity b = some (1, 1)) (hv : 0 ≤ varI l (k + 1)) : endI l k = endI l (k + 2) := by
  have hr : l.drop (k + 1) = r := drop_add_of (p := [b]) (by simpa using h)
  obtain ⟨v, _, hv1⟩ := varI_pos hv
  rcases endI_cases l (k + 2) with ⟨h1, h2⟩ | ⟨p, s, h1, h2⟩
  · rw [h2]
    have := parse_no_part ha [v] rfl [] (l.drop (k + 2)) (by simp) h1
    exact endI_none (by rw [h, ← hr, hv1]; simpa using this)
  · rw [h2]
    obtain ⟨f, rfl, e1, e2, h3⟩ := parse_all ha [v] rfl [p] rfl s
    rw [endI_some (f := f) (r := s) (parse_some.1 (by rw [h, ← hr, hv1, h1]; simpa using h3)), Fm.text_eq, e1, e2]
    simp; omega

theorem endI_two_no {l : List UInt8} {k : Nat} {b : UInt8} {r : List UInt8} (h : l.drop k = b :: r) (ha : arity b = some (0, 2)) (h1 : endI l (k + 1) < 0) : endI l k = -1 := by
  have hr : l.drop (k + 1) = r := drop_add_of (p := [b]) (by simpa using h)
  rcases endI_cases l (k + 1) with ⟨h2, _⟩ | ⟨p, s, _, h2⟩
  · have := parse_no_part ha [] rfl [] r (by simp) (by rw [← hr]; exact h2)
    exact endI_none (by rw [h]; simpa using this)
  · rw [h2] at h1; omega

theorem endI_two {l : List UInt8} {k : Nat} {b : UInt8} {r : List UInt8} {m : Nat} (h : l.drop k = b :: r) (ha : arity b = some (0, 2)) (h1 : endI l (k + 1) = (m : Int)) : endI l k = endI l m := by
  have hr : l.drop (k + 1) = r := drop_add_of (p := [b]) (by simpa using h)
  rcases endI_cases l (k + 1) with ⟨_, h2⟩ | ⟨p, s, hp, h2⟩
  · rw [h2] at h1; omega
  · have hm : m = k + 1 + p.text.length := by rw [h2] at h1; omega
    have hs : l.drop m = s := by rw [hm]; exact drop_add_of hp
    rcases endI_cases l m with ⟨g1, g2⟩ | ⟨q, s2, g1, g2⟩
    · rw [g2]
      have := parse_no_part ha [] rfl [p] s (by simp) (by rw [← hs]; exact g1)
      exact endI_none (by rw [h, ← hr, hp]; simpa using this)
    · rw [g2]
      obtain ⟨f, rfl, e1, e2, h3⟩ := parse_all ha [] rfl [p, q] rfl s2
      rw [endI_some (f := f) (r := s2) (parse_some.1 (by rw [h, ← hr, hp, ← hs, g1]; simpa using h3)), Fm.text_eq, e1, e2]
      simp; omega

/-! ### formulas of at most 4000 bytes -/

/-- a text is a formula -/
def IsFm (l : List UInt8) : Prop := l.length ≤ 4000 ∧ ∃ f : Fm, l = f.text

theorem isFm_iff {l : List UInt8} : IsFm l ↔ l.length ≤ 4000 ∧ endI l 0 = l.length := by
  unfold IsFm
  constructor
  · rintro ⟨h, f, rfl⟩
    exact ⟨h, by rw [endI_some (f := f) (r := []) (by simp)]; simp⟩
  · rintro ⟨h, e⟩
    refine ⟨h, ?_⟩
    rcases endI_cases l 0 with ⟨_, h2⟩ | ⟨f, r, h1, h2⟩
    · rw [h2] at e; omega
    · refine ⟨f, ?_⟩
      have h3 : f.text.length = l.length := by rw [h2] at e; omega
      have h4 := congrArg List.length h1
      simp only [List.drop_zero, List.length_append] at h4
      have h5 : r = [] := List.eq_nil_of_length_eq_zero (by omega)
      simpa [h5] using h1

end Pl
end Go.Proofs.YtpaleogkgfclnaaDoor

namespace Go.Proofs.YtpaleogkgfclnaaDoor
open Go.RowKit
open Pl

theorem ret_int {k : IntKind} {a b : Int} (h : a = b) : Ending.returned (.int k a) = .returned (.int k b) := by rw [h]
theorem ret_bool {a b : Bool} (h : a = b) : Ending.returned (.bool a) = .returned (.bool b) := by rw [h]

theorem u8_eq {a : UInt8} {n : Nat} (h : ((a.toNat : Int) == (n : Int)) = true) (hn : n < 256) : a = UInt8.ofNat n := by
  have h1 : a.toNat = n := by have := beq_iff_eq.1 h; omega
  apply UInt8.toNat_inj.1
  rw [h1, UInt8.toNat_ofNat']
  omega

theorem u8_eqv {a c : UInt8} (h : ((a.toNat : Int) == (c.toNat : Int)) = true) : a = c := by
  apply UInt8.toNat_inj.1
  have := beq_iff_eq.1 h; omega

theorem u8_nev {a c : UInt8} (h : ((a.toNat : Int) == (c.toNat : Int)) = false) : a ≠ c := by
  rintro rfl
  simp at h

theorem u8_ne {a : UInt8} {n : Nat} (h : ((a.toNat : Int) == (n : Int)) = false) (hn : n < 256) : a ≠ UInt8.ofNat n := by
  rintro rfl
  have : (UInt8.ofNat n).toNat = n := by rw [UInt8.toNat_ofNat']; omega
  rw [this] at h
  simp at h

/-- the index of the first byte c, or -1 -/
def findB (c : UInt8) (l : List UInt8) : Int := match l.findIdx? (· == c) with | some k => (k : Int) | none => -1

theorem findB_at {c : UInt8} {l : List UInt8} {k : Nat} (h : l[k]? = some c) (hno : ∀ i, i < k → l[i]? ≠ some c) : findB c l = k := by
  unfold findB
  have : l.findIdx? (· == c) = some k := by
    rw [List.findIdx?_eq_some_iff_getElem]
    obtain ⟨hlt, he⟩ := List.getElem?_eq_some_iff.1 h
    refine ⟨hlt, by simp [he], fun j hj => ?_⟩
    have := hno j hj
    rw [List.getElem?_eq_getElem (by omega)] at this
    simpa using this
  rw [this]

theorem findB_no {c : UInt8} {l : List UInt8} (hno : ∀ i, i < l.length → l[i]? ≠ some c) : findB c l = -1 := by
  unfold findB
  have : l.findIdx? (· == c) = none := by
    rw [List.findIdx?_eq_none_iff]
    intro x hx
    obtain ⟨i, hi, rfl⟩ := List.getElem_of_mem hx
    have := hno i hi
    rw [List.getElem?_eq_getElem hi] at this
    simpa using this
  rw [this]

theorem findB_nonneg {c : UInt8} {l : List UInt8} : 0 ≤ findB c l ↔ c ∈ l := by
  unfold findB
  cases h : l.findIdx? (· == c) with
  | none =>
    rw [List.findIdx?_eq_none_iff] at h
    constructor
    · intro h2; simp at h2
    · intro hm; have := h c hm; simp at this
  | some k =>
    rw [List.findIdx?_eq_some_iff_getElem] at h
    obtain ⟨hlt, he, _⟩ := h
    constructor
    · intro _; have : l[k] = c := by simpa using he
      rw [← this]; exact List.getElem_mem hlt
    · intro _; simp

theorem findB_ge (c : UInt8) (l : List UInt8) : -1 ≤ findB c l := by unfold findB; split <;> omega

set_option maxHeartbeats 400000 in
theorem l15Find_calls (s : ByteArray) (c : UInt8) (w : World) (hs : s.size ≤ maxLen) :
    Calls Tryd.prog 77 #[.string s, .int .u8 c.toNat] w fun e w' => e = .returned (.int .i64 (findB c s.data.toList)) ∧ w = w' := by
  unfold maxLen at hs
  go_enter Tryd.func77, Tryd.ntmps77
  go_wp2
  go_loop [5] (fun i => ∃ k : Nat, k ≤ s.size ∧ i = .int .i64 k ∧ ∀ i, i < k → s.data.toList[i]? ≠ some c) (fun i => s.size - (intOf i).toNat)
  case atStart => exact ⟨0, Nat.zero_le _, rfl, fun i hi => absurd hi (Nat.not_lt_zero _)⟩
  case round =>
    obtain ⟨k, hk, rfl, hno⟩ := hrel
    have Hno := Lib.hid hno
    clear hno
    by_cases hlt : k < s.size
    · have hg : s.data.toList[k]? = some s[k] := by rw [List.getElem?_eq_getElem (by simpa using hlt)]; rfl
      have Hg := Lib.hid hg
      clear hg
      go_wp2
      · go_ret
        refine ⟨ret_int ?_, rfl⟩
        have he : s[k] = c := u8_eqv (by assumption)
        exact (findB_at (by rw [Hg.out, he]) Hno.out).symm
      · go_round
        case rel =>
          refine ⟨k + 1, by omega, by go_num, fun i hi => ?_⟩
          have he : s[k] ≠ c := u8_nev (by assumption)
          by_cases hik : i = k
          · subst hik; rw [Hg.out]; simpa using he
          · exact Hno.out i (by omega)
        case measure => simp [intOf]; omega
    · go_wp2
      go_ret
      refine ⟨ret_int (findB_no fun i hi => Hno.out i (by simp at hi; omega)).symm, rfl⟩

theorem findB_abcd (b : UInt8) : findB b [97, 98, 99, 100] = match varOf b with | some v => (v.val : Int) | none => -1 := by
  by_cases h0 : b = 97
  · subst h0; rfl
  by_cases h1 : b = 98
  · subst h1; rfl
  by_cases h2 : b = 99
  · subst h2; rfl
  by_cases h3 : b = 100
  · subst h3; rfl
  · simp only [varOf, h0, h1, h2, h3, if_false]
    refine findB_no fun i hi => ?_
    match i, hi with
    | 0, _ => simpa using fun e => h0 e.symm
    | 1, _ => simpa using fun e => h1 e.symm
    | 2, _ => simpa using fun e => h2 e.symm
    | 3, _ => simpa using fun e => h3 e.symm

theorem varI_at {s : ByteArray} {k : Nat} (h : k < s.size) : varI s.data.toList k = match varOf s[k] with | some v => (v.val : Int) | none => -1 := by
  unfold varI
  rw [List.getElem?_eq_getElem (by simpa using h)]
  rfl

theorem varI_out {s : ByteArray} {k : Nat} (h : s.size ≤ k) : varI s.data.toList k = -1 := by
  unfold varI
  rw [List.getElem?_eq_none (by simpa using h)]

set_option maxHeartbeats 400000 in
theorem l2Var_calls (s : ByteArray) (k : Nat) (w : World) (_hs : s.size ≤ maxLen) (_hk : k ≤ maxLen) :
    Calls Tryd.prog 76 #[.string s, .int .i64 k] w fun e w' => e = .returned (.int .i64 (varI s.data.toList k)) ∧ w = w' := by
  by_cases hlt : k < s.size
  · have hv := (findB_abcd s[k]).trans (varI_at hlt).symm
    have Hv := Lib.hid hv
    clear hv
    unfold maxLen at _hs _hk
    go_enter Tryd.func76, Tryd.ntmps76
    go_wp2_with (go_at_call 77; refine (l15Find_calls _ _ _ (by decide)).mono ?_; rintro e w' ⟨rfl, rfl⟩)
    go_ret
    exact ⟨ret_int Hv.out, rfl⟩
  · have hv := varI_out (Nat.le_of_not_lt hlt)
    have Hv := Lib.hid hv
    clear hv
    unfold maxLen at _hs _hk
    go_enter Tryd.func76, Tryd.ntmps76
    go_wp2_with fail
    go_ret
    exact ⟨ret_int Hv.out.symm, rfl⟩

theorem l2Var_at (s : ByteArray) (m : Int) (w : World) (hs : s.size ≤ maxLen) (h0 : 0 ≤ m) (hm : m ≤ maxLen) :
    Calls Tryd.prog 76 #[.string s, .int .i64 m] w fun e w' => e = .returned (.int .i64 (varI s.data.toList m.toNat)) ∧ w = w' := by
  obtain ⟨k, rfl⟩ := Int.eq_ofNat_of_zero_le h0
  exact l2Var_calls s k w hs (by omega)

theorem toNat_add (k j : Nat) : ((k : Int) + (j : Int)).toNat = k + j := by omega
theorem toNat_add1 (k : Nat) : ((k : Int) + 1).toNat = k + 1 := by omega
theorem toNat_add2 (k : Nat) : ((k : Int) + 2).toNat = k + 2 := by omega

set_option maxHeartbeats 400000 in
theorem l2End_neg (s : ByteArray) (k : Int) (w : World) (hk : k < 0) :
    Calls Tryd.prog 51 #[.string s, .int .i64 k] w fun e w' => e = .returned (.int .i64 (-1)) ∧ w = w' := by
  go_enter Tryd.func51, Tryd.ntmps51
  go_wp2_with fail
  go_ret
  exact ⟨rfl, rfl⟩

theorem drop_at {s : ByteArray} {k : Nat} (h : k < s.size) : s.data.toList.drop k = s[k] :: s.data.toList.drop (k + 1) := by
  rw [List.drop_eq_getElem_cons (by simpa using h)]
  rfl

theorem ar_of {a : UInt8} {n : Int} {x : Nat × Nat} (h : ((a.toNat : Int) == n) = true) (hx : arity (UInt8.ofNat n.toNat) = some x) : arity a = some x := by
  have h1 : (a.toNat : Int) = n := beq_iff_eq.1 h
  subst h1
  simpa using hx

theorem arity_no {a : UInt8} (h : ∀ n ∈ [116, 102, 80, 61, 69, 33, 38, 124, 65, 83, 50, 51, (52 : Int)], ((a.toNat : Int) == n) = false) : arity a = none := by
  have g : ∀ n : Nat, n < 256 → ((a.toNat : Int) == (n : Int)) = false → a ≠ UInt8.ofNat n := fun n hn hh => u8_ne hh hn
  unfold arity
  rw [if_neg (show ¬ a = 116 from g 116 (by decide) (h 116 (by simp))), if_neg (show ¬ a = 102 from g 102 (by decide) (h 102 (by simp))), if_neg (show ¬ a = 80 from g 80 (by decide) (h 80 (by simp))), if_neg (show ¬ a = 61 from g 61 (by decide) (h 61 (by simp))), if_neg (show ¬ a = 69 from g 69 (by decide) (h 69 (by simp))), if_neg (show ¬ a = 33 from g 33 (by decide) (h 33 (by simp))), if_neg (show ¬ a = 38 from g 38 (by decide) (h 38 (by simp))), if_neg (show ¬ a = 124 from g 124 (by decide) (h 124 (by simp))), if_neg (show ¬ a = 65 from g 65 (by decide) (h 65 (by simp))), if_neg (show ¬ a = 83 from g 83 (by decide) (h 83 (by simp))), if_neg (show ¬ a = 50 from g 50 (by decide) (h 50 (by simp))), if_neg (show ¬ a = 51 from g 51 (by decide) (h 51 (by simp))), if_neg (show ¬ a = 52 from g 52 (by decide) (h 52 (by simp)))]

/-- where a formula ends, from an index that may be -1 -/
noncomputable def endZ (l : List UInt8) (m : Int) : Int := if m < 0 then -1 else endI l m.toNat

theorem endZ_pos {l : List UInt8} {m : Int} (h : 0 ≤ m) : endZ l m = endI l m.toNat := if_neg (by omega)
theorem endZ_neg {l : List UInt8} {m : Int} (h : m < 0) : endZ l m = -1 := if_pos h

theorem endI_twoZ {l : List UInt8} {k : Nat} {b : UInt8} {r : List UInt8} (h : l.drop k = b :: r) (ha : arity b = some (0, 2)) : endI l k = endZ l (endI l (k + 1)) := by
  by_cases h1 : endI l (k + 1) < 0
  · rw [endZ_neg h1, endI_two_no h ha h1]
  · obtain ⟨m, hm⟩ := Int.eq_ofNat_of_zero_le (show 0 ≤ endI l (k + 1) by omega)
    rw [endI_two h ha hm, hm, endZ_pos (by omega)]
    simp

theorem endI_gt {l : List UInt8} {k : Nat} : endI l k < 0 ∨ (k : Int) < endI l k := by
  rcases endI_cases l k with ⟨_, h⟩ | ⟨f, r, _, h⟩
  · left; omega
  · right; have := f.text_pos; omega

set_option maxHeartbeats 1000000 in
theorem l2End_calls (n : Nat) : ∀ (s : ByteArray) (k : Nat) (w : World), s.size ≤ k + n → s.size ≤ maxLen - 8 → k ≤ s.size + 4 →
    Calls Tryd.prog 51 #[.string s, .int .i64 k] w fun e w' => e = .returned (.int .i64 (endI s.data.toList k)) ∧ w = w' := by
  induction n with
  | zero =>
    intro s k w hn hs _hk
    have hv := endI_end (l := s.data.toList) (k := k) (by simpa using hn)
    have Hv := Lib.hid hv
    clear hv
    unfold maxLen at hs
    go_enter Tryd.func51, Tryd.ntmps51
    go_wp2_with fail
    go_ret
    exact ⟨ret_int Hv.out.symm, rfl⟩
  | succ n ih =>
    intro s k w hn hs hk
    by_cases hlt : k < s.size
    · have hd := drop_at hlt
      have Hd := Lib.hid hd
      have Ih := Lib.hid ih
      clear hd ih
      have hss : s.size ≤ maxLen := by unfold maxLen at *; omega
      have ihm : ∀ (m : Int) (w : World), (m < 0 ∨ (k : Int) < m) → m ≤ s.size + 4 → Calls Tryd.prog 51 #[.string s, .int .i64 m] w fun e w' => e = .returned (.int .i64 (endZ s.data.toList m)) ∧ w = w' := by
        intro m w h1 h2
        by_cases hm : m < 0
        · rw [endZ_neg hm]; exact l2End_neg s m w hm
        · obtain ⟨j, rfl⟩ := Int.eq_ofNat_of_zero_le (show 0 ≤ m by omega)
          rw [endZ_pos (by omega)]
          exact Ih.out s j w (by omega) hs (by omega)
      have Ihm := Lib.hid ihm
      clear ihm
      have hsz : s.data.toList.length = s.size := by simp
      have he1 : endI s.data.toList (k + 1) < 0 ∨ (k : Int) < endI s.data.toList (k + 1) := by
        have := endI_gt (l := s.data.toList) (k := k + 1); omega
      have he2 : endI s.data.toList (k + 1) ≤ s.size := by
        have := (endI_le (l := s.data.toList) (k := k + 1) (by omega)).2; omega
      have Hsz := Lib.hid hsz
      have He1 := Lib.hid he1
      clear hsz he1
      unfold maxLen at hs
      go_enter Tryd.func51, Tryd.ntmps51
      go_wp2_with (first | (go_at_call 76; refine (l2Var_at _ _ _ hss (by omega) (by unfold maxLen; omega)).mono ?_; rintro e w' ⟨rfl, rfl⟩; simp only [toNat_add1, toNat_add2]) | (go_at_call 51; refine (Ihm.out _ _ (by first | exact He1.out | omega) (by omega)).mono ?_; rintro e w' ⟨rfl, rfl⟩; try simp only [endZ_pos (show 0 ≤ (k : Int) + 1 by omega), endZ_pos (show 0 ≤ (k : Int) + 2 by omega), toNat_add1, toNat_add2]))
      all_goals (go_ret; refine ⟨ret_int ?_, rfl⟩)
      all_goals first
        | (have h := endI_leaf Hd.out (ar_of (n := 116) (by assumption) rfl); omega)
        | (have h := endI_leaf Hd.out (ar_of (n := 102) (by assumption) rfl); omega)
        | (have h := endI_var_no Hd.out (ar_of (n := 80) (by assumption) rfl) (by decide) (by omega); omega)
        | (have h := endI_var1 Hd.out (ar_of (n := 80) (by assumption) rfl) (by omega); omega)
        | (have h := endI_var_no Hd.out (ar_of (n := 61) (by assumption) rfl) (by decide) (by omega); omega)
        | (have h := endI_var2_no Hd.out (ar_of (n := 61) (by assumption) rfl) (by omega) (by omega); omega)
        | (have h := endI_var2 Hd.out (ar_of (n := 61) (by assumption) rfl) (by omega) (by omega); omega)
        | (have h := endI_var_no Hd.out (ar_of (n := 69) (by assumption) rfl) (by decide) (by omega); omega)
        | (have h := endI_var2_no Hd.out (ar_of (n := 69) (by assumption) rfl) (by omega) (by omega); omega)
        | (have h := endI_var2 Hd.out (ar_of (n := 69) (by assumption) rfl) (by omega) (by omega); omega)
        | (have h := endI_neg Hd.out (ar_of (n := 33) (by assumption) rfl); omega)
        | (have h := endI_twoZ Hd.out (ar_of (n := 38) (by assumption) rfl); omega)
        | (have h := endI_twoZ Hd.out (ar_of (n := 124) (by assumption) rfl); omega)
        | (have h := endI_var_no Hd.out (ar_of (n := 65) (by assumption) rfl) (by decide) (by omega); omega)
        | (have h := endI_qu Hd.out (ar_of (n := 65) (by assumption) rfl) (by omega); omega)
        | (have h := endI_var_no Hd.out (ar_of (n := 83) (by assumption) rfl) (by decide) (by omega); omega)
        | (have h := endI_qu Hd.out (ar_of (n := 83) (by assumption) rfl) (by omega); omega)
        | (have h := endI_var_no Hd.out (ar_of (n := 50) (by assumption) rfl) (by decide) (by omega); omega)
        | (have h := endI_qu Hd.out (ar_of (n := 50) (by assumption) rfl) (by omega); omega)
        | (have h := endI_var_no Hd.out (ar_of (n := 51) (by assumption) rfl) (by decide) (by omega); omega)
        | (have h := endI_qu Hd.out (ar_of (n := 51) (by assumption) rfl) (by omega); omega)
        | (have h := endI_var_no Hd.out (ar_of (n := 52) (by assumption) rfl) (by decide) (by omega); omega)
        | (have h := endI_qu Hd.out (ar_of (n := 52) (by assumption) rfl) (by omega); omega)
        | (refine (endI_bad Hd.out (arity_no fun n hn => ?_)).symm
           simp only [List.mem_cons, List.not_mem_nil, or_false] at hn
           rcases hn with rfl | rfl | rfl | rfl | rfl | rfl | rfl | rfl | rfl | rfl | rfl | rfl | rfl <;> assumption)
    · have hv := endI_end (l := s.data.toList) (k := k) (by simp; omega)
      have Hv := Lib.hid hv
      clear hv
      unfold maxLen at hs
      go_enter Tryd.func51, Tryd.ntmps51
      go_wp2_with fail
      go_ret
      exact ⟨ret_int Hv.out.symm, rfl⟩

/-- is a text a formula, as a Bool -/
noncomputable def fmB (l : List UInt8) : Bool := decide (l.length ≤ 4000) && (endI l 0 == (l.length : Int))

theorem fmB_true {l : List UInt8} : fmB l = true ↔ IsFm l := by
  rw [isFm_iff]; simp [fmB]

theorem fmB_false {l : List UInt8} : fmB l = false ↔ ¬ IsFm l := by
  rw [← fmB_true]; simp

theorem l2End_zero (s : ByteArray) (w : World) (hs : s.size ≤ 4000) :
    Calls Tryd.prog 51 #[.string s, .int .i64 0] w fun e w' => e = .returned (.int .i64 (endI s.data.toList 0)) ∧ w = w' :=
  l2End_calls s.size s 0 w (by omega) (by unfold maxLen; omega) (by omega)

set_option maxHeartbeats 400000 in
theorem FormulaValid_spec (s : ByteArray) (w : World) (hs : s.size ≤ maxLen) :
    Calls Tryd.prog 32 #[.string s] w fun e w' => e = .returned (.bool (fmB s.data.toList)) ∧ w = w' := by
  by_cases h : s.size ≤ 4000
  · have hv : fmB s.data.toList = (endI s.data.toList 0 == (s.size : Int)) := by simp [fmB, h]
    have Hv := Lib.hid hv
    clear hv
    unfold maxLen at hs
    go_enter Tryd.func32, Tryd.ntmps32
    go_wp2_with (go_at_call 51; refine (l2End_zero _ _ h).mono ?_; rintro e w' ⟨rfl, rfl⟩)
    go_ret
    exact ⟨ret_bool (by rw [Hv.out]), rfl⟩
  · have hv : fmB s.data.toList = false := by simp [fmB]; omega
    have Hv := Lib.hid hv
    clear hv
    unfold maxLen at hs
    go_enter Tryd.func32, Tryd.ntmps32
    go_wp2_with fail
    go_ret
    exact ⟨ret_bool (by rw [Hv.out]), rfl⟩

end Go.Proofs.YtpaleogkgfclnaaDoor

namespace Go.Proofs.YtpaleogkgfclnaaDoor
open Go.RowKit
open Pl
set_option maxRecDepth 100000

theorem slIndexByte_calls (s : ByteArray) (c : Int) (w : World) :
    Calls Tryd.prog 104 #[.string s, .int .u8 c] w fun e w' => e = .returned (.int .i64 (Lib.indexByte s.data.toList c.toNat.toUInt8)) ∧ w = w' := by
  go_enter Tryd.func104, Tryd.ntmps104
  go_wp2
  rw [run_callFunc_extern Tryd.func115 (by kernel_rfl) (by kernel_rfl) (by kernel_rfl) (by kernel_rfl), Lib.run_indexByteString]
  simp only [Result.andThen]
  rw [Oper.upon_value]
  go_wp2
  go_ret
  exact ⟨rfl, rfl⟩

theorem IndexByte_calls (s : ByteArray) (c : UInt8) (w : World) :
    Calls Tryd.prog 86 #[.string s, .int .u8 c.toNat] w fun e w' => e = .returned (.int .i64 (Lib.indexByte s.data.toList c)) ∧ w = w' := by
  go_enter Tryd.func86, Tryd.ntmps86
  go_wp2_with (go_at_call 104; refine (slIndexByte_calls _ _ _).mono ?_; rintro e w' ⟨rfl, rfl⟩)
  go_ret
  exact ⟨ret_int (by simp), rfl⟩

theorem slIndex_one (s t : ByteArray) (b : UInt8) (ht : t.data.toList = [b]) (w : World) :
    Calls Tryd.prog 109 #[.string s, .string t] w fun e w' => e = .returned (.int .i64 (Lib.indexByte s.data.toList b)) ∧ w = w' := by
  have hsz : t.size = 1 := by have := congrArg List.length ht; simpa using this
  have hb : ∀ h : 0 < t.size, t[0] = b := fun h => by
    have h1 : t.data.toList[0]? = some b := by rw [ht]; rfl
    rw [List.getElem?_eq_getElem (by simpa using h)] at h1
    injection h1
  have Hb := Lib.hid hb
  have Ht := Lib.hid ht
  clear hb ht
  go_enter Tryd.func109, Tryd.ntmps109
  go_wp2_with (go_at_call 104; refine (slIndexByte_calls _ _ _).mono ?_; rintro e w' ⟨rfl, rfl⟩)
  · go_ret
    refine ⟨ret_int ?_, rfl⟩
    have he : (t.toList == s.toList) = true := by assumption
    have he2 : t.toList = s.toList := eq_of_beq he
    rw [ByteArray.toList_eq, ByteArray.toList_eq, Ht.out] at he2
    rw [← he2]
    simp [Lib.indexByte]
  · go_ret
    exact ⟨ret_int (by rw [Hb.out (by omega)]), rfl⟩

theorem Contains_one (s t : ByteArray) (b : UInt8) (ht : t.data.toList = [b]) (w : World) :
    Calls Tryd.prog 74 #[.string s, .string t] w fun e w' => e = .returned (.bool (decide (0 ≤ Lib.indexByte s.data.toList b))) ∧ w = w' := by
  have Ht := Lib.hid ht
  clear ht
  have h36 : ∀ w, Calls Tryd.prog 92 #[.string s, .string t] w fun e w' => e = .returned (.int .i64 (Lib.indexByte s.data.toList b)) ∧ w = w' := fun w => by
    go_enter Tryd.func92, Tryd.ntmps92
    go_wp2_with (go_at_call 109; refine (slIndex_one _ _ b Ht.out _).mono ?_; rintro e w' ⟨rfl, rfl⟩)
    go_ret
    exact ⟨rfl, rfl⟩
  have H36 := Lib.hid h36
  clear h36
  go_enter Tryd.func74, Tryd.ntmps74
  go_wp2_with (go_at_call 92; refine (H36.out _).mono ?_; rintro e w' ⟨rfl, rfl⟩)
  go_ret
  exact ⟨rfl, rfl⟩

/-! ### the tree in memory -/

/-- the variables that are free, as bits -/
def Pl.Fm.freeBits : Fm → Nat
  | .tru => 0 | .fls => 0 | .pr v => 1 <<< v.val | .eq v w => 1 <<< v.val ||| 1 <<< w.val | .rel v w => 1 <<< v.val ||| 1 <<< w.val
  | .neg p => p.freeBits | .con p q => p.freeBits ||| q.freeBits | .dis p q => p.freeBits ||| q.freeBits
  | .qu _ v p => p.freeBits &&& (15 ^^^ 1 <<< v.val)

/-- all variables, as bits -/
def Pl.Fm.allBits : Fm → Nat
  | .tru => 0 | .fls => 0 | .pr v => 1 <<< v.val | .eq v w => 1 <<< v.val ||| 1 <<< w.val | .rel v w => 1 <<< v.val ||| 1 <<< w.val
  | .neg p => p.allBits | .con p q => p.allBits ||| q.allBits | .dis p q => p.allBits ||| q.allBits
  | .qu _ v p => 1 <<< v.val ||| p.allBits

abbrev kidV (k : Nat) : Value := .pointer (some ⟨k, 0, none⟩)
def byteV (b : UInt8) : Value := .int .u8 b.toNat

/-- block b holds a node with this operator, these variables, these masks and these children; all blocks that it owns are in S -/
def NodeIn (S : Nat → Prop) (w : World) (op : UInt8) (vars : List (Fin 4)) (free all : Nat) (b : Nat) (ks : List Nat) : Prop :=
  S b ∧ ∃ vs ps, w.heap[b]? = some (.cells #[.int .u8 op.toNat, vs, ps, .int .i64 free, .int .i64 all] 66 (0, 0)) ∧
    w.ownsRow 0 5 1 vs vars.length (vars.map fun v => byteV (vb v)) ∧ (∀ k, vs.ownBlock = some k → S k) ∧
    w.ownsRow 0 52 1 ps ks.length (ks.map kidV) ∧ (∀ k, ps.ownBlock = some k → S k)

def FmNode (S : Nat → Prop) (w : World) (f : Fm) (b : Nat) (ks : List Nat) : Prop := NodeIn S w f.op f.vars f.freeBits f.allBits b ks

/-- block b holds the tree of a formula, whose blocks are all in S -/
def TreeIn (S : Nat → Prop) (w : World) : Fm → Nat → Prop
  | .neg p, b => ∃ k, FmNode S w (.neg p) b [k] ∧ TreeIn S w p k
  | .qu q v p, b => ∃ k, FmNode S w (.qu q v p) b [k] ∧ TreeIn S w p k
  | .con p q, b => ∃ k l, FmNode S w (.con p q) b [k, l] ∧ TreeIn S w p k ∧ TreeIn S w q l
  | .dis p q, b => ∃ k l, FmNode S w (.dis p q) b [k, l] ∧ TreeIn S w p k ∧ TreeIn S w q l
  | .tru, b => FmNode S w .tru b []
  | .fls, b => FmNode S w .fls b []
  | .pr v, b => FmNode S w (.pr v) b []
  | .eq v u, b => FmNode S w (.eq v u) b []
  | .rel v u, b => FmNode S w (.rel v u) b []

/-- the trees of a list of formulas -/
def TreesIn (S : Nat → Prop) (w : World) (ps : List Fm) (ks : List Nat) : Prop := ks.length = ps.length ∧ ∀ (i : Nat) (p : Fm) (k : Nat), ps[i]? = some p → ks[i]? = some k → TreeIn S w p k

theorem treesIn_nil (S : Nat → Prop) (w : World) : TreesIn S w [] [] := ⟨rfl, fun i p k h => by simp at h⟩
theorem treesIn_one {S : Nat → Prop} {w : World} {p : Fm} {k : Nat} (h : TreeIn S w p k) : TreesIn S w [p] [k] := ⟨rfl, fun i p' k' h1 h2 => by
  match i, h1, h2 with
  | 0, h1, h2 => simp at h1 h2; subst h1 h2; exact h⟩
theorem treesIn_two {S : Nat → Prop} {w : World} {p q : Fm} {k l : Nat} (h : TreeIn S w p k) (h' : TreeIn S w q l) : TreesIn S w [p, q] [k, l] := ⟨rfl, fun i p' k' h1 h2 => by
  match i, h1, h2 with
  | 0, h1, h2 => simp at h1 h2; subst h1 h2; exact h
  | 1, h1, h2 => simp at h1 h2; subst h1 h2; exact h'⟩
theorem treesIn_snoc {S : Nat → Prop} {w : World} {ps : List Fm} {ks : List Nat} {p : Fm} {k : Nat} (hs : TreesIn S w ps ks) (h : TreeIn S w p k) : TreesIn S w (ps ++ [p]) (ks ++ [k]) :=
  ⟨by simp [hs.1], fun i p' k' h1 h2 => by
    by_cases hi : i < ps.length
    · rw [List.getElem?_append_left hi] at h1
      rw [List.getElem?_append_left (by rw [hs.1]; exact hi)] at h2
      exact hs.2 i p' k' h1 h2
    · rw [List.getElem?_append_right (by omega)] at h1
      rw [List.getElem?_append_right (by rw [hs.1]; omega), hs.1] at h2
      match i - ps.length, h1, h2 with
      | 0, h1, h2 => simp at h1 h2; subst h1 h2; exact h
      | j + 1, h1, h2 => simp at h1⟩

theorem TreeIn.open {S : Nat → Prop} {w : World} {f : Fm} {b : Nat} (h : TreeIn S w f b) : ∃ ks, FmNode S w f b ks ∧ TreesIn S w f.parts ks := by
  cases f with
  | tru => exact ⟨[], h, treesIn_nil _ _⟩
  | fls => exact ⟨[], h, treesIn_nil _ _⟩
  | pr v => exact ⟨[], h, treesIn_nil _ _⟩
  | eq v u => exact ⟨[], h, treesIn_nil _ _⟩
  | rel v u => exact ⟨[], h, treesIn_nil _ _⟩
  | neg p => obtain ⟨k, h1, h2⟩ := h; exact ⟨_, h1, treesIn_one h2⟩
  | qu q v p => obtain ⟨k, h1, h2⟩ := h; exact ⟨_, h1, treesIn_one h2⟩
  | con p q => obtain ⟨k, l, h1, h2, h3⟩ := h; exact ⟨_, h1, treesIn_two h2 h3⟩
  | dis p q => obtain ⟨k, l, h1, h2, h3⟩ := h; exact ⟨_, h1, treesIn_two h2 h3⟩

theorem TreeIn.shut {S : Nat → Prop} {w : World} {f : Fm} {b : Nat} {ks : List Nat} (h : FmNode S w f b ks) (ht : TreesIn S w f.parts ks) : TreeIn S w f b := by
  obtain ⟨hl, ht⟩ := ht
  cases f with
  | tru => match ks, hl with | [], _ => exact h
  | fls => match ks, hl with | [], _ => exact h
  | pr v => match ks, hl with | [], _ => exact h
  | eq v u => match ks, hl with | [], _ => exact h
  | rel v u => match ks, hl with | [], _ => exact h
  | neg p => match ks, hl with | [k], _ => exact ⟨k, h, ht 0 p k rfl rfl⟩
  | qu q v p => match ks, hl with | [k], _ => exact ⟨k, h, ht 0 p k rfl rfl⟩
  | con p q => match ks, hl with | [k, l], _ => exact ⟨k, l, h, ht 0 p k rfl rfl, ht 1 q l rfl rfl⟩
  | dis p q => match ks, hl with | [k, l], _ => exact ⟨k, l, h, ht 0 p k rfl rfl, ht 1 q l rfl rfl⟩

theorem block_lt {w : World} {b : Nat} {x : Obj} (h : w.heap[b]? = some x) : b < w.heap.size := by
  rcases Nat.lt_or_ge b w.heap.size with hlt | hge
  · exact hlt
  · rw [Array.getElem?_eq_none hge] at h; cases h

/-- a row keeps, where its block does -/
theorem ownsRow_keep {w w' : World} {base base' : Nat} {e : TypeId} {size : Nat} {v : Value} {n : Nat} {xs : List Value} (h : w.ownsRow base e size v n xs)
    (hk : ∀ g, v.ownBlock = some g → w'.heap[g]? = w.heap[g]? ∧ base' ≤ g) : w'.ownsRow base' e size v n xs := by
  obtain ⟨hl, h | ⟨g, cap, cur, rfl, h2, h3, h4⟩⟩ := h
  · exact ⟨hl, .inl h⟩
  · obtain ⟨e1, e2⟩ := hk g rfl
    exact ⟨hl, .inr ⟨g, cap, cur, rfl, e2, e1.trans h3, h4⟩⟩

theorem ownsRow_lt {w : World} {base : Nat} {e : TypeId} {size : Nat} {v : Value} {n : Nat} {xs : List Value} (h : w.ownsRow base e size v n xs) {k : Nat} (hk : v.ownBlock = some k) : base ≤ k ∧ k < w.heap.size := h.lt k hk

/-- what a node's keeping asks -/
theorem NodeIn.keep {S S' : Nat → Prop} {w w' : World} {op : UInt8} {vars : List (Fin 4)} {free all b : Nat} {ks : List Nat} (h : NodeIn S w op vars free all b ks)
    (hk : ∀ g, S g → g < w.heap.size → w'.heap[g]? = w.heap[g]? ∧ S' g) : NodeIn S' w' op vars free all b ks := by
  obtain ⟨h0, vs, ps, h1, h2, h3, h4, h5⟩ := h
  have e := hk b h0 (block_lt h1)
  exact ⟨e.2, vs, ps, e.1.trans h1,
    ownsRow_keep h2 (fun g hg => ⟨(hk g (h3 g hg) (ownsRow_lt h2 hg).2).1, Nat.zero_le _⟩), fun g hg => (hk g (h3 g hg) (ownsRow_lt h2 hg).2).2,
    ownsRow_keep h4 (fun g hg => ⟨(hk g (h5 g hg) (ownsRow_lt h4 hg).2).1, Nat.zero_le _⟩), fun g hg => (hk g (h5 g hg) (ownsRow_lt h4 hg).2).2⟩

theorem TreeIn.keep {S S' : Nat → Prop} {w w' : World} (hk : ∀ g, S g → g < w.heap.size → w'.heap[g]? = w.heap[g]? ∧ S' g) : ∀ (f : Fm) (b : Nat), TreeIn S w f b → TreeIn S' w' f b := by
  intro f
  induction f with
  | tru => intro b h; exact NodeIn.keep h hk
  | fls => intro b h; exact NodeIn.keep h hk
  | pr v => intro b h; exact NodeIn.keep h hk
  | eq v u => intro b h; exact NodeIn.keep h hk
  | rel v u => intro b h; exact NodeIn.keep h hk
  | neg p ih => intro b h; obtain ⟨k, h1, h2⟩ := h; exact ⟨k, NodeIn.keep h1 hk, ih _ h2⟩
  | qu q v p ih => intro b h; obtain ⟨k, h1, h2⟩ := h; exact ⟨k, NodeIn.keep h1 hk, ih _ h2⟩
  | con p q ihp ihq => intro b h; obtain ⟨k, l, h1, h2, h3⟩ := h; exact ⟨k, l, NodeIn.keep h1 hk, ihp _ h2, ihq _ h3⟩
  | dis p q ihp ihq => intro b h; obtain ⟨k, l, h1, h2, h3⟩ := h; exact ⟨k, l, NodeIn.keep h1 hk, ihp _ h2, ihq _ h3⟩

theorem TreesIn.keep {S S' : Nat → Prop} {w w' : World} (hk : ∀ g, S g → g < w.heap.size → w'.heap[g]? = w.heap[g]? ∧ S' g) {ps : List Fm} {ks : List Nat} (h : TreesIn S w ps ks) : TreesIn S' w' ps ks :=
  ⟨h.1, fun i p k h1 h2 => TreeIn.keep hk p k (h.2 i p k h1 h2)⟩

/-- the tree lies from block lo on -/
def TreeAt (lo : Nat) (w : World) (f : Fm) (b : Nat) : Prop := TreeIn (fun g => lo ≤ g) w f b

theorem TreeAt.below {lo : Nat} {w w' : World} {f : Fm} {b : Nat} (h : TreeAt lo w f b) (hb : Below w.heap.size w w') : TreeAt lo w' f b :=
  TreeIn.keep (fun g hs hg => ⟨hb.block g hg, hs⟩) f b h

theorem TreeAt.base {lo lo' : Nat} {w : World} {f : Fm} {b : Nat} (h : TreeAt lo w f b) (hl : lo' ≤ lo) : TreeAt lo' w f b :=
  TreeIn.keep (fun _ hs _ => ⟨rfl, Nat.le_trans hl hs⟩) f b h

theorem TreeAt.drew {lo : Nat} {w : World} {f : Fm} {b : Nat} (h : TreeAt lo w f b) : TreeAt lo w.drew f b := TreeIn.keep (w := w) (w' := w.drew) (fun _ hs _ => ⟨rfl, hs⟩) f b h

end Go.Proofs.YtpaleogkgfclnaaDoor

namespace Go.Proofs.YtpaleogkgfclnaaDoor
open Go.RowKit
open Pl

/-- what parsePart leaves -/
def PartPost (s : ByteArray) (w : World) (e : Ending) (w' : World) : Prop :=
  Below w.heap.size w w' ∧
  ((parse s.data.toList = none ∧ ∃ rest : ByteArray, e = .returned (.tuple #[.pointer none, .string rest])) ∨
   ∃ (f : Fm) (rest : ByteArray) (b : Nat), parse s.data.toList = some (f, rest.data.toList) ∧ TreeAt w.heap.size w' f b ∧
     e = .returned (.tuple #[kidV b, .string rest]))

/-- a byte that is a variable's, or not -/
theorem indexByte_abcd (b : UInt8) : decide (0 ≤ Lib.indexByte [97, 98, 99, 100] b) = (varOf b).isSome := by
  by_cases h0 : b = 97
  · subst h0; rfl
  by_cases h1 : b = 98
  · subst h1; rfl
  by_cases h2 : b = 99
  · subst h2; rfl
  by_cases h3 : b = 100
  · subst h3; rfl
  · have g0 : (97 == b) = false := by simpa using fun e => h0 e.symm
    have g1 : (98 == b) = false := by simpa using fun e => h1 e.symm
    have g2 : (99 == b) = false := by simpa using fun e => h2 e.symm
    have g3 : (100 == b) = false := by simpa using fun e => h3 e.symm
    simp [Lib.indexByte, g0, g1, g2, g3, varOf, h0, h1, h2, h3]

theorem isVar_calls (t : ByteArray) (b : UInt8) (r : Bool) (ht : t.data.toList = [b]) (hr : (varOf b).isSome = r) (w : World) :
    Calls Tryd.prog 74 #[.string ⟨#[97, 98, 99, 100]⟩, .string t] w fun e w' => e = .returned (.bool r) ∧ w = w' := by
  refine (Contains_one _ t b ht w).mono ?_
  rintro e w' ⟨rfl, rfl⟩
  exact ⟨ret_bool (by rw [← hr]; exact indexByte_abcd b), rfl⟩

/-- the bits of variables -/
def maskV (vs : List (Fin 4)) : Nat := vs.foldl (fun m v => m ||| 1 <<< v.val) 0

theorem maskV_snoc (vs : List (Fin 4)) (v : Fin 4) : maskV (vs ++ [v]) = maskV vs ||| 1 <<< v.val := by simp [maskV]

theorem maskV_lt (vs : List (Fin 4)) : maskV vs < 16 := by
  have h : ∀ (vs : List (Fin 4)) (m : Nat), m < 16 → vs.foldl (fun m v => m ||| 1 <<< v.val) m < 16 := by
    intro vs
    induction vs with
    | nil => intro m h; exact h
    | cons v vs ih =>
      intro m h
      refine ih _ (Nat.or_lt_two_pow (n := 4) h ?_)
      revert v; decide
  exact h vs 0 (by decide)

theorem cell_at {w : World} {b : Nat} {cs : Array Value} {t : TypeId} (h : w.heap[b]? = some (.cells cs t (0, 0))) (j : Nat) : w.cell? ⟨b, j, none⟩ = cs[j]? := cell_of_row w b j cs t _ h
theorem free_at {w : World} {b : Nat} {cs : Array Value} {t : TypeId} (h : w.heap[b]? = some (.cells cs t (0, 0))) (j : Nat) : w.frozen? ⟨b, j, none⟩ = false := by simp [World.frozen?, h]

theorem empty_facts {s : ByteArray} (h0 : 0 < s.size) : (s.toList == []) = false ∧ s.toList.isEmpty = false := by
  have hne : s.toList ≠ [] := by
    intro h
    rw [ByteArray.toList_eq] at h
    rw [Lib.size_eq, h] at h0
    simp at h0
  cases h : s.toList with
  | nil => exact (hne h).elim
  | cons a l => exact ⟨rfl, rfl⟩

theorem Tryd.infoU8 : (Tryd.prog.info? 5).map (fun i => (i.zero, i.size, i.bytes)) = some (some (.int .u8 0), 1, 1) := by kernel_rfl
theorem Tryd.infoPF : (Tryd.prog.info? 52).map (fun i => (i.zero, i.size, i.bytes)) = some (some (.pointer none), 1, 8) := by kernel_rfl

theorem ownsRow_ne {w : World} {base : Nat} {e : TypeId} {size : Nat} {v : Value} {n : Nat} {xs : List Value} (h : w.ownsRow base e size v n xs)
    {b : Nat} {cs : Array Value} {t : TypeId} {fr : Nat × Nat} (hb : w.heap[b]? = some (.cells cs t fr)) (hne : t ≠ e) : v.ownBlock ≠ some b := by
  obtain ⟨_, ⟨rfl, _⟩ | ⟨g, cap, cur, rfl, _, hg, _⟩⟩ := h
  · intro h; cases h
  · intro h
    have : g = b := by simpa [Value.ownBlock] using h
    subst this
    rw [hb] at hg
    simp at hg
    exact hne hg.2.1

theorem grown_block {wr : World} {o : Obj} {w1 : World} {row : Option Nat} (h : ((wr.alloc o).drew).grownBy w1 row) {b : Nat} {x : Obj} (hb : wr.heap[b]? = some x) (hne : row ≠ some b) : w1.heap[b]? = some x := by
  have hlt : b < wr.heap.size := by
    rcases Nat.lt_or_ge b wr.heap.size with hlt | hge
    · exact hlt
    · rw [Array.getElem?_eq_none hge] at hb; cases hb
  rw [h.block b (by show b < (wr.alloc o).heap.size; simp; omega) (fun e => hne e.symm)]
  show (wr.alloc o).heap[b]? = _
  rw [Below.heap_alloc _ _ _ hlt, hb]

theorem row_set {w : World} {lo : Nat} {e : TypeId} {size : Nat} {v : Value} {n : Nat} {xs : List Value} (h : w.ownsRow lo e size v n xs) {b : Nat} {cs : Array Value} {t : TypeId}
    (hb : w.heap[b]? = some (.cells cs t (0, 0))) (hne : t ≠ e) (j : Nat) (u : Value) : (w.setCell ⟨b, j, none⟩ u).ownsRow lo e size v n xs := by
  have hn := ownsRow_ne h hb hne
  exact ownsRow_setCell_other h (a := ⟨b, j, none⟩) hn u

/-- a row of another element type keeps where one grows -/
theorem row_grown {w w1 : World} {o : Obj} {lo lo' : Nat} {e e' : TypeId} {size size' : Nat} {v v' : Value} {n n' : Nat} {xs xs' : List Value} (h : w.ownsRow lo e size v n xs)
    (h' : w.ownsRow lo' e' size' v' n' xs') (hne : e ≠ e') (hg : ((w.alloc o).drew).grownBy w1 v'.ownBlock) : w1.ownsRow lo e size v n xs := by
  refine ownsRow_keep h fun g hk => ?_
  obtain ⟨h1, h2⟩ := ownsRow_lt h hk
  refine ⟨?_, h1⟩
  obtain ⟨_, ⟨rfl, _⟩ | ⟨g', cap, cur, rfl, _, hg', _⟩⟩ := h
  · cases hk
  · have e0 : g' = g := by simpa [Value.ownBlock] using hk
    subst e0
    rw [grown_block hg hg' (ownsRow_ne h' hg' hne), hg']

/-- the tree's block does not matter to a row of its own -/
theorem node_var {S : Nat → Prop} {w : World} {op : UInt8} {vars : List (Fin 4)} {free all b : Nat} {ks : List Nat} {vs ps nv : Value} (v : Fin 4)
    (hS : S b) (hb : w.heap[b]? = some (.cells #[.int .u8 op.toNat, vs, ps, .int .i64 free, .int .i64 all] 66 (0, 0)))
    (hv : w.ownsRow 0 5 1 nv (vars.length + 1) ((vars.map fun v => byteV (vb v)) ++ [byteV (vb v)])) (hvS : ∀ k, nv.ownBlock = some k → S k)
    (hp : w.ownsRow 0 52 1 ps ks.length (ks.map kidV)) (hpS : ∀ k, ps.ownBlock = some k → S k) :
    NodeIn S (w.setCell ⟨b, 1, none⟩ nv) op (vars ++ [v]) free all b ks := by
  refine ⟨hS, nv, ps, ?_, ?_, hvS, row_set hp hb (by decide) _ _, hpS⟩
  · rw [heap_setCell_same _ _ _ _ _ _ hb]; rfl
  · have := row_set hv hb (by decide) 1 nv
    simpa using this

/-- another mask of all variables -/
theorem NodeIn.setAll {S : Nat → Prop} {w : World} {op : UInt8} {vars : List (Fin 4)} {free all b : Nat} {ks : List Nat} (h : NodeIn S w op vars free all b ks) (m : Nat) :
    NodeIn S (w.setCell ⟨b, 4, none⟩ (.int .i64 m)) op vars free m b ks := by
  obtain ⟨hlo, vs, ps, hb, hv, hvS, hp, hpS⟩ := h
  exact ⟨hlo, vs, ps, by rw [heap_setCell_same _ _ _ _ _ _ hb]; rfl, row_set hv hb (by decide) _ _, hvS, row_set hp hb (by decide) _ _, hpS⟩

/-- another mask of the free ones -/
theorem NodeIn.setFree {S : Nat → Prop} {w : World} {op : UInt8} {vars : List (Fin 4)} {free all b : Nat} {ks : List Nat} (h : NodeIn S w op vars free all b ks) (m : Nat) :
    NodeIn S (w.setCell ⟨b, 3, none⟩ (.int .i64 m)) op vars m all b ks := by
  obtain ⟨hlo, vs, ps, hb, hv, hvS, hp, hpS⟩ := h
  exact ⟨hlo, vs, ps, by rw [heap_setCell_same _ _ _ _ _ _ hb]; rfl, row_set hv hb (by decide) _ _, hvS, row_set hp hb (by decide) _ _, hpS⟩

/-- one more part -/
theorem node_part {S : Nat → Prop} {w : World} {op : UInt8} {vars : List (Fin 4)} {free all b : Nat} {ks : List Nat} {vs ps np : Value} (k : Nat)
    (hS : S b) (hb : w.heap[b]? = some (.cells #[.int .u8 op.toNat, vs, ps, .int .i64 free, .int .i64 all] 66 (0, 0)))
    (hv : w.ownsRow 0 5 1 vs vars.length (vars.map fun v => byteV (vb v))) (hvS : ∀ k, vs.ownBlock = some k → S k)
    (hp : w.ownsRow 0 52 1 np (ks.length + 1) (ks.map kidV ++ [kidV k])) (hpS : ∀ k, np.ownBlock = some k → S k) :
    NodeIn S (w.setCell ⟨b, 2, none⟩ np) op vars free all b (ks ++ [k]) := by
  refine ⟨hS, vs, np, ?_, row_set hv hb (by decide) _ _, hvS, ?_, hpS⟩
  · rw [heap_setCell_same _ _ _ _ _ _ hb]; rfl
  · have := row_set hp hb (by decide) 2 np
    simpa using this

/-- a mask or'ed with a variable's bit, in the walk's own words -/
theorem or_bit (m : Nat) (v : Fin 4) (hm : m < 16) : bits .or .i64 (m : Int) (wrap64 (2 ^ v.val)) = ((m ||| 1 <<< v.val : Nat) : Int) := by
  have h : ∀ (m : Fin 16) (v : Fin 4), bits .or .i64 (m.val : Int) (wrap64 (2 ^ v.val)) = ((m.val ||| 1 <<< v.val : Nat) : Int) := by decide +kernel
  exact h ⟨m, hm⟩ v

theorem or_nat (a b : Nat) (ha : a < 16) (hb : b < 16) : bits .or .i64 (a : Int) (b : Int) = ((a ||| b : Nat) : Int) := by
  have h : ∀ (a b : Fin 16), bits .or .i64 (a.val : Int) (b.val : Int) = ((a.val ||| b.val : Nat) : Int) := by decide +kernel
  exact h ⟨a, ha⟩ ⟨b, hb⟩

theorem andNot_bit (a : Nat) (v : Fin 4) (ha : a < 16) : bits .andNot .i64 (a : Int) (wrap64 (2 ^ v.val)) = ((a &&& (15 ^^^ 1 <<< v.val) : Nat) : Int) := by
  have h : ∀ (a : Fin 16) (v : Fin 4), bits .andNot .i64 (a.val : Int) (wrap64 (2 ^ v.val)) = ((a.val &&& (15 ^^^ 1 <<< v.val) : Nat) : Int) := by decide +kernel
  exact h ⟨a, ha⟩ v

theorem vb_int (v : Fin 4) : ((vb v).toNat : Int) = 97 + (v.val : Int) := by revert v; decide

theorem bit_lt (v : Fin 4) : 1 <<< v.val < 16 := by revert v; decide
theorem or_lt {a b : Nat} (ha : a < 16) (hb : b < 16) : a ||| b < 16 := Nat.or_lt_two_pow (n := 4) ha hb

theorem freeBits_lt : ∀ f : Fm, f.freeBits < 16 := by
  intro f
  induction f with
  | tru => decide
  | fls => decide
  | pr v => exact bit_lt v
  | eq v u => exact or_lt (bit_lt v) (bit_lt u)
  | rel v u => exact or_lt (bit_lt v) (bit_lt u)
  | neg p ih => exact ih
  | con p q ihp ihq => exact or_lt ihp ihq
  | dis p q ihp ihq => exact or_lt ihp ihq
  | qu k v p ih => exact Nat.lt_of_le_of_lt Nat.and_le_left ih

theorem allBits_lt : ∀ f : Fm, f.allBits < 16 := by
  intro f
  induction f with
  | tru => decide
  | fls => decide
  | pr v => exact bit_lt v
  | eq v u => exact or_lt (bit_lt v) (bit_lt u)
  | rel v u => exact or_lt (bit_lt v) (bit_lt u)
  | neg p ih => exact ih
  | con p q ihp ihq => exact or_lt ihp ihq
  | dis p q ihp ihq => exact or_lt ihp ihq
  | qu k v p ih => exact or_lt (bit_lt v) ih

def orAll (m : Nat) (ps : List Fm) : Nat := ps.foldl (fun m p => m ||| p.allBits) m
def orFree (m : Nat) (ps : List Fm) : Nat := ps.foldl (fun m p => m ||| p.freeBits) m

theorem orAll_snoc (m : Nat) (ps : List Fm) (p : Fm) : orAll m (ps ++ [p]) = orAll m ps ||| p.allBits := by simp [orAll]
theorem orFree_snoc (m : Nat) (ps : List Fm) (p : Fm) : orFree m (ps ++ [p]) = orFree m ps ||| p.freeBits := by simp [orFree]
theorem orAll_lt {m : Nat} (hm : m < 16) (ps : List Fm) : orAll m ps < 16 := by
  induction ps generalizing m with
  | nil => exact hm
  | cons p ps ih => exact ih (or_lt hm (allBits_lt p))
theorem orFree_lt {m : Nat} (hm : m < 16) (ps : List Fm) : orFree m ps < 16 := by
  induction ps generalizing m with
  | nil => exact hm
  | cons p ps ih => exact ih (or_lt hm (freeBits_lt p))

/-- is a byte a quantifier's -/
def isQuB (b : UInt8) : Bool := b == 65 || b == 83 || b == 50 || b == 51 || b == 52
def isCoB (b : UInt8) : Bool := b == 50 || b == 51 || b == 52

theorem allBits_eq (f : Fm) : f.allBits = orAll (maskV f.vars) f.parts := by
  cases f <;> simp [Fm.allBits, orAll, maskV, Fm.vars, Fm.parts]

theorem freeBits_no (f : Fm) (h : isQuB f.op = false) : f.freeBits = orFree (if 0 < f.parts.length then 0 else maskV f.vars) f.parts := by
  cases f <;> simp [Fm.freeBits, orFree, maskV, Fm.vars, Fm.parts]
  rename_i k _ _
  cases k <;> simp [Fm.op, Qn.b, isQuB] at h

theorem freeBits_yes (f : Fm) (h : isQuB f.op = true) : ∃ v, f.vars = [v] ∧ f.freeBits = orFree (if 0 < f.parts.length then 0 else maskV f.vars) f.parts &&& (15 ^^^ 1 <<< v.val) := by
  cases f with
  | qu k v p => exact ⟨v, rfl, by simp [Fm.freeBits, orFree, Fm.parts]⟩
  | _ => simp [Fm.op, isQuB] at h

theorem isQuB_vars {b : UInt8} {nv np : Nat} (h : arity b = some (nv, np)) (hq : isQuB b = true) : nv = 1 ∧ np = 1 := by
  simp only [isQuB, Bool.or_eq_true, beq_iff_eq] at hq
  rcases hq with (((rfl | rfl) | rfl) | rfl) | rfl <;> (simp [arity] at h; omega)

theorem indexByte_quant (b : UInt8) : decide (0 ≤ Lib.indexByte [65, 83, 50, 51, 52] b) = isQuB b := by
  by_cases h0 : b = 65
  · subst h0; rfl
  by_cases h1 : b = 83
  · subst h1; rfl
  by_cases h2 : b = 50
  · subst h2; rfl
  by_cases h3 : b = 51
  · subst h3; rfl
  by_cases h4 : b = 52
  · subst h4; rfl
  · have g0 : (65 == b) = false := by simpa using fun e => h0 e.symm
    have g1 : (83 == b) = false := by simpa using fun e => h1 e.symm
    have g2 : (50 == b) = false := by simpa using fun e => h2 e.symm
    have g3 : (51 == b) = false := by simpa using fun e => h3 e.symm
    have g4 : (52 == b) = false := by simpa using fun e => h4 e.symm
    simp [Lib.indexByte, g0, g1, g2, g3, g4, isQuB, h0, h1, h2, h3, h4]

theorem indexByte_count (b : UInt8) : decide (0 ≤ Lib.indexByte [50, 51, 52] b) = isCoB b := by
  by_cases h2 : b = 50
  · subst h2; rfl
  by_cases h3 : b = 51
  · subst h3; rfl
  by_cases h4 : b = 52
  · subst h4; rfl
  · have g2 : (50 == b) = false := by simpa using fun e => h2 e.symm
    have g3 : (51 == b) = false := by simpa using fun e => h3 e.symm
    have g4 : (52 == b) = false := by simpa using fun e => h4 e.symm
    simp [Lib.indexByte, g2, g3, g4, isCoB, h2, h3, h4]

theorem isQuantifier_at (b : UInt8) (r : Bool) (hr : isQuB b = r) (a : Nat) (w : World) (hc : w.cell? ⟨a, 0, none⟩ = some (.int .u8 b.toNat)) :
    Calls Tryd.prog 62 #[kidV a] w fun e w' => e = .returned (.bool r) ∧ w = w' := by
  unfold kidV
  have Hr := Lib.hid hr
  clear hr
  go_enter Tryd.func62, Tryd.ntmps62
  go_wp2_with (go_at_call 86; refine (IndexByte_calls _ _ _).mono ?_; rintro e w' ⟨rfl, rfl⟩)
  go_ret
  exact ⟨ret_bool (by rw [← Hr.out]; exact indexByte_quant b), rfl⟩

theorem isCounting_at (b : UInt8) (r : Bool) (hr : isCoB b = r) (a : Nat) (w : World) (hc : w.cell? ⟨a, 0, none⟩ = some (.int .u8 b.toNat)) :
    Calls Tryd.prog 60 #[kidV a] w fun e w' => e = .returned (.bool r) ∧ w = w' := by
  unfold kidV
  have Hr := Lib.hid hr
  clear hr
  go_enter Tryd.func60, Tryd.ntmps60
  go_wp2_with (go_at_call 86; refine (IndexByte_calls _ _ _).mono ?_; rintro e w' ⟨rfl, rfl⟩)
  go_ret
  exact ⟨ret_bool (by rw [← Hr.out]; exact indexByte_count b), rfl⟩

/-- a new node -/
theorem node_new {S : Nat → Prop} (w : World) (op : UInt8) (hS : S w.heap.size) :
    NodeIn S (w.alloc (.cells #[.int .u8 op.toNat, .slice none 0 0, .slice none 0 0, .int .i64 0, .int .i64 0] 66)) op [] 0 0 w.heap.size [] :=
  ⟨hS, .slice none 0 0, .slice none 0 0, heap_alloc_new w _, World.ownsRow_nil _ _ _ _, (fun k h => by cases h), World.ownsRow_nil _ _ _ _, (fun k h => by cases h)⟩

/-- a node under way: block B, its children's trees in other blocks -/
def NodeT (B : Nat) (w : World) (op : UInt8) (vars : List (Fin 4)) (free all : Nat) (ps : List Fm) : Prop :=
  ∃ ks vsv psv, w.heap[B]? = some (.cells #[.int .u8 op.toNat, vsv, psv, .int .i64 free, .int .i64 all] 66 (0, 0)) ∧
    w.ownsRow 0 5 1 vsv vars.length (vars.map fun v => byteV (vb v)) ∧ (∀ k, vsv.ownBlock = some k → B ≤ k) ∧
    w.ownsRow 0 52 1 psv ks.length (ks.map kidV) ∧ (∀ k, psv.ownBlock = some k → B ≤ k) ∧
    TreesIn (fun g => B < g ∧ psv.ownBlock ≠ some g) w ps ks

theorem NodeT.of {B : Nat} {w : World} {op : UInt8} {vars : List (Fin 4)} {free all : Nat} (h : NodeIn (fun g => B ≤ g) w op vars free all B []) : NodeT B w op vars free all [] := by
  obtain ⟨_, vsv, psv, hb, h1, h2, h3, h4⟩ := h
  exact ⟨[], vsv, psv, hb, h1, h2, h3, h4, treesIn_nil _ _⟩

theorem NodeT.node {B : Nat} {w : World} {op : UInt8} {vars : List (Fin 4)} {free all : Nat} {ps : List Fm} (h : NodeT B w op vars free all ps) :
    ∃ ks, NodeIn (fun g => B ≤ g) w op vars free all B ks ∧ TreesIn (fun g => B ≤ g) w ps ks := by
  obtain ⟨ks, vsv, psv, hb, h1, h2, h3, h4, h5⟩ := h
  exact ⟨ks, ⟨Nat.le_refl _, vsv, psv, hb, h1, h2, h3, h4⟩, h5.keep fun g hg _ => ⟨rfl, Nat.le_of_lt hg.1⟩⟩

theorem NodeT.below {B : Nat} {w w' : World} {op : UInt8} {vars : List (Fin 4)} {free all : Nat} {ps : List Fm} (h : NodeT B w op vars free all ps) (hb : Below w.heap.size w w') : NodeT B w' op vars free all ps := by
  obtain ⟨ks, vsv, psv, h0, h1, h2, h3, h4, h5⟩ := h
  exact ⟨ks, vsv, psv, (hb.block B (block_lt h0)).trans h0, ownsRow_keep h1 (fun g hg => ⟨hb.block g (ownsRow_lt h1 hg).2, Nat.zero_le _⟩), h2,
    ownsRow_keep h3 (fun g hg => ⟨hb.block g (ownsRow_lt h3 hg).2, Nat.zero_le _⟩), h4, h5.keep fun g hg hl => ⟨hb.block g hl, hg⟩⟩

theorem NodeT.setAll {B : Nat} {w : World} {op : UInt8} {vars : List (Fin 4)} {free all : Nat} {ps : List Fm} (h : NodeT B w op vars free all ps) (m : Nat) :
    NodeT B (w.setCell ⟨B, 4, none⟩ (.int .i64 m)) op vars free m ps := by
  obtain ⟨ks, vsv, psv, hb, h1, h2, h3, h4, h5⟩ := h
  exact ⟨ks, vsv, psv, by rw [heap_setCell_same _ _ _ _ _ _ hb]; rfl, row_set h1 hb (by decide) _ _, h2, row_set h3 hb (by decide) _ _, h4,
    h5.keep fun g hg _ => ⟨heap_setCell_other _ _ _ _ (Nat.ne_of_gt hg.1), hg⟩⟩

theorem NodeT.setFree {B : Nat} {w : World} {op : UInt8} {vars : List (Fin 4)} {free all : Nat} {ps : List Fm} (h : NodeT B w op vars free all ps) (m : Nat) :
    NodeT B (w.setCell ⟨B, 3, none⟩ (.int .i64 m)) op vars m all ps := by
  obtain ⟨ks, vsv, psv, hb, h1, h2, h3, h4, h5⟩ := h
  exact ⟨ks, vsv, psv, by rw [heap_setCell_same _ _ _ _ _ _ hb]; rfl, row_set h1 hb (by decide) _ _, h2, row_set h3 hb (by decide) _ _, h4,
    h5.keep fun g hg _ => ⟨heap_setCell_other _ _ _ _ (Nat.ne_of_gt hg.1), hg⟩⟩

theorem grown_heap {w : World} {o : Obj} {w1 : World} {row : Option Nat} (h : (w.alloc o).grownBy w1 row) {g : Nat} (hg : g < w.heap.size) (hne : row ≠ some g) : w1.heap[g]? = w.heap[g]? := by
  rw [h.block g (by simp; omega) (fun e => hne e.symm), Below.heap_alloc _ _ _ hg]

theorem nodeT_part {B lo : Nat} {w1 w2 : World} {op : UInt8} {vars : List (Fin 4)} {free all : Nat} {ps : List Fm} {ks : List Nat} {vsv psv : Value} {f : Fm} {b g cap : Nat}
    (hb : w1.heap[B]? = some (.cells #[.int .u8 op.toNat, vsv, psv, .int .i64 free, .int .i64 all] 66 (0, 0)))
    (h1 : w1.ownsRow 0 5 1 vsv vars.length (vars.map fun v => byteV (vb v))) (h2 : ∀ k, vsv.ownBlock = some k → B ≤ k)
    (h3 : w1.ownsRow 0 52 1 psv ks.length (ks.map kidV)) (h4 : ∀ k, psv.ownBlock = some k → B ≤ k ∧ k < lo)
    (h5 : TreesIn (fun g => B < g ∧ psv.ownBlock ≠ some g ∧ g < lo) w1 ps ks) (hlo : lo ≤ w1.heap.size) (hBlo : B < lo)
    (ht : TreeIn (fun g => lo ≤ g) w1 f b)
    (hown : w2.ownsRow 0 52 1 (.slice (some ⟨g, 0, none⟩) (ks.length + 1) cap) (ks.length + 1) (ks.map kidV ++ [kidV b]))
    (hgrow : (w1.alloc (.cells #[kidV b] 52)).grownBy w2 psv.ownBlock) (hat : psv.ownBlock = some g ∨ g = w1.heap.size + 1) :
    NodeT B (w2.setCell ⟨B, 2, none⟩ (.slice (some ⟨g, 0, none⟩) (ks.length + 1) cap)) op vars free all (ps ++ [f]) := by
  have hBw : B < w1.heap.size := Nat.lt_of_lt_of_le hBlo hlo
  have hb2 : w2.heap[B]? = some (.cells #[.int .u8 op.toNat, vsv, psv, .int .i64 free, .int .i64 all] 66 (0, 0)) := by
    rw [grown_heap hgrow hBw (ownsRow_ne h3 hb (by decide)), hb]
  have hrow2 : w2.ownsRow 0 5 1 vsv vars.length (vars.map fun v => byteV (vb v)) :=
    row_grown h1 h3 (by decide) (o := .cells #[kidV b] 52) ⟨hgrow.os, hgrow.tape, hgrow.output, hgrow.size, hgrow.block⟩
  refine ⟨ks ++ [b], vsv, .slice (some ⟨g, 0, none⟩) (ks.length + 1) cap, ?_, row_set hrow2 hb2 (by decide) _ _, h2, ?_, ?_, ?_⟩
  · rw [heap_setCell_same _ _ _ _ _ _ hb2]; rfl
  · have := row_set hown hb2 (by decide) 2 (.slice (some ⟨g, 0, none⟩) (ks.length + 1) cap)
    simpa using this
  · intro k hk
    have e0 : g = k := by simpa [Value.ownBlock] using hk
    subst e0
    rcases hat with h | h
    · exact (h4 _ h).1
    · omega
  · have k1 : ∀ k, (B < k ∧ psv.ownBlock ≠ some k ∧ k < lo) → k < w1.heap.size →
        (w2.setCell ⟨B, 2, none⟩ (.slice (some ⟨g, 0, none⟩) (ks.length + 1) cap)).heap[k]? = w1.heap[k]? ∧ (B < k ∧ (Value.slice (some ⟨g, 0, none⟩) (ks.length + 1) cap).ownBlock ≠ some k) := by
      intro k hk hl
      refine ⟨?_, hk.1, ?_⟩
      · rw [heap_setCell_other _ _ _ _ (Nat.ne_of_gt hk.1), grown_heap hgrow hl hk.2.1]
      · intro e
        have e0 : g = k := by simpa [Value.ownBlock] using e
        subst e0
        rcases hat with h | h
        · exact hk.2.1 h
        · omega
    have k2 : ∀ k, lo ≤ k → k < w1.heap.size →
        (w2.setCell ⟨B, 2, none⟩ (.slice (some ⟨g, 0, none⟩) (ks.length + 1) cap)).heap[k]? = w1.heap[k]? ∧ (B < k ∧ (Value.slice (some ⟨g, 0, none⟩) (ks.length + 1) cap).ownBlock ≠ some k) := by
      intro k hk hl
      have hne : psv.ownBlock ≠ some k := fun e => by have := (h4 k e).2; omega
      refine ⟨?_, by omega, ?_⟩
      · rw [heap_setCell_other _ _ _ _ (by show k ≠ B; omega), grown_heap hgrow hl hne]
      · intro e
        have e0 : g = k := by simpa [Value.ownBlock] using e
        subst e0
        rcases hat with h | h
        · have := (h4 _ h).2; omega
        · omega
    exact treesIn_snoc (h5.keep k1) (TreeIn.keep k2 f b ht)

/-- what of a child the walk reads -/
def KidCells (w : World) (B b : Nat) (f : Fm) : Prop := b ≠ B ∧ w.cell? ⟨b, 3, none⟩ = some (.int .i64 f.freeBits) ∧ w.cell? ⟨b, 4, none⟩ = some (.int .i64 f.allBits)

theorem kidCells_of {S : Nat → Prop} {w : World} {f : Fm} {b B : Nat} (h : TreeIn S w f b) (hB : ¬ S B) : KidCells w B b f := by
  obtain ⟨ks, ⟨hS, vs, ps, hb, _⟩, _⟩ := h.open
  exact ⟨fun e => hB (e ▸ hS), cell_at hb 3, cell_at hb 4⟩

theorem KidCells.set {w : World} {B b : Nat} {f : Fm} (h : KidCells w B b f) (j : Nat) (u : Value) : KidCells (w.setCell ⟨B, j, none⟩ u) B b f := by
  obtain ⟨h0, h1, h2⟩ := h
  refine ⟨h0, ?_, ?_⟩
  · rw [World.cell?_setCell_far _ _ _ _ (by simpa using fun e => h0 e.symm)]; exact h1
  · rw [World.cell?_setCell_far _ _ _ _ (by simpa using fun e => h0 e.symm)]; exact h2

theorem kidCells_heap {w w' : World} {B b : Nat} {f : Fm} (h : KidCells w B b f) (e : w'.heap[b]? = w.heap[b]?) : KidCells w' B b f := by
  obtain ⟨h0, h1, h2⟩ := h
  exact ⟨h0, (World.cell?_of_block (a := ⟨b, 3, none⟩) e).trans h1, (World.cell?_of_block (a := ⟨b, 4, none⟩) e).trans h2⟩

theorem KidCells.drew {w : World} {B b : Nat} {f : Fm} (h : KidCells w B b f) : KidCells w.drew B b f := h

theorem NodeT.drew {B : Nat} {w : World} {op : UInt8} {vars : List (Fin 4)} {free all : Nat} {ps : List Fm} (h : NodeT B w op vars free all ps) : NodeT B w.drew op vars free all ps := NodeT.below h ((Below.refl _ _).drew)

theorem arity_le {b : UInt8} {nv np : Nat} (h : arity b = some (nv, np)) : nv ≤ 2 ∧ np ≤ 2 := by
  obtain ⟨f, rfl, rfl, rfl⟩ : ∃ f : Fm, f.op = b ∧ f.vars.length = nv ∧ f.parts.length = np := by
    obtain ⟨f, h1, h2, h3⟩ := arity_mk h (List.replicate nv 0) (List.replicate np .tru) (by simp) (by simp)
    exact ⟨f, h1, by rw [h2]; simp, by rw [h3]; simp⟩
  cases f <;> simp [Fm.vars, Fm.parts]

/-- a row of cells of size one that is not empty -/
theorem row_open {w : World} {base : Nat} {e : TypeId} {v : Value} {n : Nat} {xs : List Value} (h : w.ownsRow base e 1 v n xs) (hn : 0 < n) :
    ∃ g cap, v = .slice (some ⟨g, 0, none⟩) n cap ∧ n ≤ cap ∧ cap ≤ maxLen ∧ base ≤ g ∧ g < w.heap.size ∧ ∀ j, j < n → w.cell? ⟨g, j, none⟩ = xs[j]? := by
  obtain ⟨hl, ⟨_, h0⟩ | ⟨g, cap, cur, rfl, h2, h3, h4, h5, h6, h7⟩⟩ := h
  · omega
  · refine ⟨g, cap, rfl, h4, h5, h2, block_lt h3, fun j hj => ?_⟩
    rw [cell_at h3 j, ← h7, List.getElem?_take, if_pos (by omega)]
    simp

theorem tree_done {B : Nat} {w : World} {f : Fm} (h : NodeT B w f.op f.vars f.freeBits f.allBits f.parts) : TreeAt B w f B := by
  obtain ⟨ks, h1, h2⟩ := h.node
  exact TreeIn.shut h1 h2

end Go.Proofs.YtpaleogkgfclnaaDoor

namespace Go.Proofs.YtpaleogkgfclnaaDoor
open Pl

def Pl.Fm.rank : Fm → Nat
  | .neg p => p.rank | .con p q => max p.rank q.rank | .dis p q => max p.rank q.rank | .qu k _ p => p.rank + k.n | _ => 0

def Pl.Fm.counts : Fm → Bool
  | .neg p => p.counts | .con p q => p.counts || q.counts | .dis p q => p.counts || q.counts
  | .qu k _ p => isCoB k.b || p.counts | _ => false

/-- what an operator adds to the rank -/
def rankAdd (b : UInt8) : Nat := if isCoB b then b.toNat - 48 else if isQuB b then 1 else 0

theorem rank_eq (f : Fm) : f.rank = f.parts.foldl (fun m p => max m p.rank) 0 + rankAdd f.op := by
  cases f with
  | qu k v p => cases k <;> simp [Fm.rank, Fm.parts, Fm.op, rankAdd, isCoB, isQuB, Qn.b, Qn.n]
  | _ => simp [Fm.rank, Fm.parts, Fm.op, rankAdd, isCoB, isQuB]

theorem counts_eq (f : Fm) : f.counts = (isCoB f.op || f.parts.any Fm.counts) := by
  cases f with
  | qu k v p => cases k <;> simp [Fm.counts, Fm.parts, Fm.op, isCoB, Qn.b]
  | _ => simp [Fm.counts, Fm.parts, Fm.op, isCoB]

theorem rank_le (f : Fm) : f.rank ≤ 4 * f.text.length := by
  induction f with
  | qu k v p ih => cases k <;> simp [Fm.rank, Fm.text, Qn.n] <;> omega
  | neg p ih => simp [Fm.rank, Fm.text]; omega
  | con p q ihp ihq => simp [Fm.rank, Fm.text]; omega
  | dis p q ihp ihq => simp [Fm.rank, Fm.text]; omega
  | _ => simp [Fm.rank]

theorem vb_ge (v : Fin 4) : 97 ≤ (vb v).toNat := by revert v; decide

theorem counts_text (f : Fm) : f.counts = true ↔ ((50 : UInt8) ∈ f.text ∨ (51 : UInt8) ∈ f.text ∨ (52 : UInt8) ∈ f.text) := by
  have hv : ∀ v : Fin 4, (50 : UInt8) ≠ vb v ∧ (51 : UInt8) ≠ vb v ∧ (52 : UInt8) ≠ vb v := by decide
  induction f with
  | tru => simp [Fm.counts, Fm.text]
  | fls => simp [Fm.counts, Fm.text]
  | pr v => simp [Fm.counts, Fm.text, hv v]
  | eq v u => simp [Fm.counts, Fm.text, hv v, hv u]
  | rel v u => simp [Fm.counts, Fm.text, hv v, hv u]
  | neg p ih => simp [Fm.counts, Fm.text, ih]
  | con p q ihp ihq =>
    simp only [Fm.counts, Bool.or_eq_true, ihp, ihq, Fm.text, List.mem_cons, List.mem_append]
    constructor
    · rintro ((h | h | h) | (h | h | h)) <;> simp [h]
    · rintro ((h | h | h) | (h | h | h) | (h | h | h)) <;> first | (exact absurd h (by decide)) | simp [h]
  | dis p q ihp ihq =>
    simp only [Fm.counts, Bool.or_eq_true, ihp, ihq, Fm.text, List.mem_cons, List.mem_append]
    constructor
    · rintro ((h | h | h) | (h | h | h)) <;> simp [h]
    · rintro ((h | h | h) | (h | h | h) | (h | h | h)) <;> first | (exact absurd h (by decide)) | simp [h]
  | qu k v p ih =>
    cases k <;> simp [Fm.counts, Fm.text, Qn.b, isCoB, ih, hv v]

theorem bit_or (a b i : Nat) : (a ||| b).testBit i = (a.testBit i || b.testBit i) := Nat.testBit_or a b i

theorem bit_one (v w : Fin 4) : (1 <<< v.val).testBit w.val = decide (w = v) := by revert v w; decide

theorem all_text (f : Fm) (v : Fin 4) : f.allBits.testBit v.val = true ↔ vb v ∈ f.text := by
  have hb : ∀ u w : Fin 4, vb u = vb w ↔ u = w := fun u w => ⟨vb_inj, fun h => by rw [h]⟩
  have h1 : ∀ b ∈ [(116 : UInt8), 102, 80, 61, 69, 33, 38, 124, 65, 83, 50, 51, 52], vb v ≠ b := by revert v; decide
  induction f with
  | tru => simp [Fm.allBits, Fm.text, h1]
  | fls => simp [Fm.allBits, Fm.text, h1]
  | pr u => simp [Fm.allBits, Fm.text, h1, bit_one, hb, -Nat.testBit_shiftLeft]
  | eq u w => simp [Fm.allBits, Fm.text, h1, bit_one, hb, -Nat.testBit_shiftLeft]
  | rel u w => simp [Fm.allBits, Fm.text, h1, bit_one, hb, -Nat.testBit_shiftLeft]
  | neg p ih => simp [Fm.allBits, Fm.text, h1, ih]
  | con p q ihp ihq => simp [Fm.allBits, Fm.text, h1, ihp, ihq]
  | dis p q ihp ihq => simp [Fm.allBits, Fm.text, h1, ihp, ihq]
  | qu k u p ih => cases k <;> simp [Fm.allBits, Fm.text, Qn.b, h1, ih, bit_one, hb, -Nat.testBit_shiftLeft]

/-- the first k variables of a set -/
def varsL (m k : Nat) : List UInt8 := ((List.range k).filter fun i => m.testBit i).map fun i => UInt8.ofNat (97 + i)

theorem varsL_yes {m k : Nat} (h : m.testBit k = true) : varsL m (k + 1) = varsL m k ++ [UInt8.ofNat (97 + k)] := by
  simp [varsL, List.range_succ, List.filter_append, h]
theorem varsL_no {m k : Nat} (h : m.testBit k = false) : varsL m (k + 1) = varsL m k := by
  simp [varsL, List.range_succ, List.filter_append, h]

theorem varsL_len (m k : Nat) : (varsL m k).length ≤ k := by
  unfold varsL
  rw [List.length_map]
  exact Nat.le_trans (List.length_filter_le _ _) (by simp)

end Go.Proofs.YtpaleogkgfclnaaDoor

namespace Go.Proofs.YtpaleogkgfclnaaDoor
open Pl

/-- a formula in words -/
def Pl.Fm.showL : Fm → List UInt8
  | .tru => [116, 114, 117, 101]
  | .fls => [102, 97, 108, 115, 101]
  | .pr v => [80, 40, vb v, 41]
  | .eq v w => [vb v, 61, vb w]
  | .rel v w => [69, 40, vb v, 44, vb w, 41]
  | .neg p => [110, 111, 116, 32] ++ p.showL
  | .con p q => [40] ++ p.showL ++ [32, 97, 110, 100, 32] ++ q.showL ++ [41]
  | .dis p q => [40] ++ p.showL ++ [32, 111, 114, 32] ++ q.showL ++ [41]
  | .qu .A v p => [97, 108, 108, 32] ++ [vb v] ++ [58, 32] ++ p.showL
  | .qu .S v p => [115, 111, 109, 101, 32] ++ [vb v] ++ [58, 32] ++ p.showL
  | .qu k v p => [97, 116, 32, 108, 101, 97, 115, 116, 32] ++ [k.b] ++ [32] ++ [vb v] ++ [58, 32] ++ p.showL

theorem show_le (f : Fm) : f.showL.length ≤ 20 * f.text.length := by
  induction f with
  | qu k v p ih => cases k <;> simp [Fm.showL, Fm.text] <;> omega
  | neg p ih => simp [Fm.showL, Fm.text]; omega
  | con p q ihp ihq => simp [Fm.showL, Fm.text]; omega
  | dis p q ihp ihq => simp [Fm.showL, Fm.text]; omega
  | _ => simp [Fm.showL, Fm.text]

theorem show_ne (f : Fm) : f.showL ≠ [] := by
  cases f with
  | qu k v p => cases k <;> simp [Fm.showL]
  | _ => simp [Fm.showL]

/-- negations pushed -/
def Pl.Fm.push : Bool → Fm → Fm
  | b, .tru => if b then .fls else .tru
  | b, .fls => if b then .tru else .fls
  | b, .pr v => if b then .neg (.pr v) else .pr v
  | b, .eq v w => if b then .neg (.eq v w) else .eq v w
  | b, .rel v w => if b then .neg (.rel v w) else .rel v w
  | b, .neg p => p.push (!b)
  | b, .con p q => if b then .dis (p.push b) (q.push b) else .con (p.push b) (q.push b)
  | b, .dis p q => if b then .con (p.push b) (q.push b) else .dis (p.push b) (q.push b)
  | b, .qu .A v p => if b then .qu .S v (p.push b) else .qu .A v (p.push b)
  | b, .qu .S v p => if b then .qu .A v (p.push b) else .qu .S v (p.push b)
  | b, .qu k v p => if b then .neg (.qu k v (p.push false)) else .qu k v (p.push false)

theorem push_le (f : Fm) : ∀ b, (f.push b).text.length ≤ 2 * f.text.length := by
  induction f with
  | qu k v p ih => intro b; have := ih b; have := ih false; cases k <;> cases b <;> simp [Fm.push, Fm.text] <;> omega
  | neg p ih => intro b; have := ih (!b); simp [Fm.push, Fm.text]; omega
  | con p q ihp ihq => intro b; have := ihp b; have := ihq b; cases b <;> simp [Fm.push, Fm.text] <;> omega
  | dis p q ihp ihq => intro b; have := ihp b; have := ihq b; cases b <;> simp [Fm.push, Fm.text] <;> omega
  | _ => intro b; cases b <;> simp [Fm.push, Fm.text]

/-- w in place of v where it is free -/
def Pl.Fm.repl (v w : Fin 4) : Fm → Fm
  | .tru => .tru
  | .fls => .fls
  | .pr u => .pr (if u = v then w else u)
  | .eq u t => .eq (if u = v then w else u) (if t = v then w else t)
  | .rel u t => .rel (if u = v then w else u) (if t = v then w else t)
  | .neg p => .neg (p.repl v w)
  | .con p q => .con (p.repl v w) (q.repl v w)
  | .dis p q => .dis (p.repl v w) (q.repl v w)
  | .qu k u p => if u = v then .qu k u p else .qu k u (p.repl v w)

theorem repl_len (v w : Fin 4) (f : Fm) : (f.repl v w).text.length = f.text.length := by
  induction f with
  | qu k u p ih => by_cases h : u = v <;> simp [Fm.repl, Fm.text, h, ih]
  | neg p ih => simp [Fm.repl, Fm.text, ih]
  | con p q ihp ihq => simp [Fm.repl, Fm.text, ihp, ihq]
  | dis p q ihp ihq => simp [Fm.repl, Fm.text, ihp, ihq]
  | _ => simp [Fm.repl, Fm.text]

/-- the first variable that is not in a set of variables and is not v -/
def freshV (m : Nat) (v : Fin 4) : Option (Fin 4) :=
  if m.testBit 0 = false ∧ v ≠ 0 then some 0 else if m.testBit 1 = false ∧ v ≠ 1 then some 1 else if m.testBit 2 = false ∧ v ≠ 2 then some 2 else if m.testBit 3 = false ∧ v ≠ 3 then some 3 else none

theorem freshV_some {m : Nat} {v w : Fin 4} (h : freshV m v = some w) : m.testBit w.val = false ∧ v ≠ w := by
  unfold freshV at h
  split at h
  · rename_i hh; injection h with h; subst h; exact hh
  split at h
  · rename_i hh; injection h with h; subst h; exact hh
  split at h
  · rename_i hh; injection h with h; subst h; exact hh
  split at h
  · rename_i hh; injection h with h; subst h; exact hh
  · cases h

/-- spelled out without counting -/
def Pl.Fm.spell : Fm → Option Fm
  | .neg p => match p.spell with | some p' => some (.neg p') | none => none
  | .con p q => match p.spell with | some p' => (match q.spell with | some q' => some (.con p' q') | none => none) | none => none
  | .dis p q => match p.spell with | some p' => (match q.spell with | some q' => some (.dis p' q') | none => none) | none => none
  | .qu .A v p => match p.spell with | some p' => some (.qu .A v p') | none => none
  | .qu .S v p => match p.spell with | some p' => some (.qu .S v p') | none => none
  | .qu .c2 v p => match p.spell with
    | some p' => (match freshV p'.allBits v with | some w => some (.qu .S v (.qu .S w (.con (.neg (.eq v w)) (.con p' (p'.repl v w))))) | none => none)
    | none => none
  | .qu .c3 _ _ => none
  | .qu .c4 _ _ => none
  | f => some f

/-! ### how long a formula that is spelled out can be -/

def cardB (m : Nat) : Nat := (varsL m 4).length

theorem cardB_or (a b : Nat) (ha : a < 16) (hb : b < 16) : cardB a ≤ cardB (a ||| b) ∧ cardB b ≤ cardB (a ||| b) := by
  have h : ∀ a b : Fin 16, cardB a.val ≤ cardB (a.val ||| b.val) ∧ cardB b.val ≤ cardB (a.val ||| b.val) := by decide +kernel
  exact h ⟨a, ha⟩ ⟨b, hb⟩

theorem cardB_new (a : Nat) (v w : Fin 4) (ha : a < 16) (hw : a.testBit w.val = false) (hv : v ≠ w) : cardB a + 1 ≤ cardB (1 <<< v.val ||| (1 <<< w.val ||| a)) := by
  have h : ∀ (a : Fin 16) (v w : Fin 4), a.val.testBit w.val = false → v ≠ w → cardB a.val + 1 ≤ cardB (1 <<< v.val ||| (1 <<< w.val ||| a.val)) := by decide +kernel
  exact h ⟨a, ha⟩ v w hw hv

theorem repl_all_or (v w : Fin 4) (f : Fm) : ((f.repl v w).allBits ||| f.allBits) ||| 1 <<< w.val = f.allBits ||| 1 <<< w.val := by
  have hb : ∀ (i : Nat), ((((f.repl v w).allBits ||| f.allBits) ||| 1 <<< w.val).testBit i) = (f.allBits ||| 1 <<< w.val).testBit i := by
    intro i
    simp only [Nat.testBit_or]
    suffices h : (f.repl v w).allBits.testBit i = true → (f.allBits.testBit i || (1 <<< w.val).testBit i) = true by
      cases h1 : (f.repl v w).allBits.testBit i with
      | false => simp
      | true => have := h h1; revert this; cases f.allBits.testBit i <;> cases (1 <<< w.val).testBit i <;> simp
    induction f with
    | tru => simp [Fm.repl, Fm.allBits]
    | fls => simp [Fm.repl, Fm.allBits]
    | pr u =>
      by_cases h : u = v <;> simp only [Fm.repl, Fm.allBits, h, if_true, if_false] <;> intro h <;> simp [h]
    | eq u t =>
      by_cases h : u = v <;> by_cases h2 : t = v <;> simp only [Fm.repl, Fm.allBits, h, h2, if_true, if_false, Nat.testBit_or, Bool.or_eq_true] <;> grind
    | rel u t =>
      by_cases h : u = v <;> by_cases h2 : t = v <;> simp only [Fm.repl, Fm.allBits, h, h2, if_true, if_false, Nat.testBit_or, Bool.or_eq_true] <;> grind
    | neg p ih => exact ih
    | con p q ihp ihq => simp only [Fm.repl, Fm.allBits, Nat.testBit_or, Bool.or_eq_true] at *; grind
    | dis p q ihp ihq => simp only [Fm.repl, Fm.allBits, Nat.testBit_or, Bool.or_eq_true] at *; grind
    | qu k u p ih =>
      by_cases h : u = v <;> simp only [Fm.repl, Fm.allBits, h, if_true, if_false, Nat.testBit_or, Bool.or_eq_true] at * <;> grind
  exact Nat.eq_of_testBit_eq hb

theorem pow_mono16 {a b : Nat} (h : a ≤ b) : 16 ^ a ≤ 16 ^ b := Nat.pow_le_pow_right (by decide) h

theorem spell_grow : ∀ (f g : Fm), f.spell = some g → g.text.length ≤ 16 ^ cardB g.allBits * f.text.length := by
  intro f
  have one : ∀ n : Nat, 1 ≤ 16 ^ n := fun n => Nat.one_le_pow _ _ (by decide)
  have leaf : ∀ (n k : Nat), k ≤ 16 ^ n * k := fun n k => by have := Nat.mul_le_mul_right k (one n); simpa using this
  induction f with
  | tru => intro g h; simp [Fm.spell] at h; subst h; exact leaf _ _
  | fls => intro g h; simp [Fm.spell] at h; subst h; exact leaf _ _
  | pr v => intro g h; simp [Fm.spell] at h; subst h; exact leaf _ _
  | eq v w => intro g h; simp [Fm.spell] at h; subst h; exact leaf _ _
  | rel v w => intro g h; simp [Fm.spell] at h; subst h; exact leaf _ _
  | neg p ih =>
    intro g h
    simp only [Fm.spell] at h
    split at h
    · rename_i p' hp
      injection h with h; subst h
      have := ih p' hp
      have h1 := one (cardB p'.allBits)
      simp only [Fm.text, Fm.allBits, List.length_cons, Nat.mul_add, Nat.mul_one]
      omega
    · cases h
  | con p q ihp ihq =>
    intro g h
    simp only [Fm.spell] at h
    split at h
    · rename_i p' hp
      split at h
      · rename_i q' hq
        injection h with h; subst h
        have h1 := ihp p' hp
        have h2 := ihq q' hq
        have hc := cardB_or _ _ (allBits_lt p') (allBits_lt q')
        have h3 := Nat.mul_le_mul_right p.text.length (pow_mono16 hc.1)
        have h4 := Nat.mul_le_mul_right q.text.length (pow_mono16 hc.2)
        have h5 := one (cardB (p'.allBits ||| q'.allBits))
        simp only [Fm.text, Fm.allBits, List.length_cons, List.length_append, Nat.mul_add, Nat.mul_one]
        omega
      · cases h
    · cases h
  | dis p q ihp ihq =>
    intro g h
    simp only [Fm.spell] at h
    split at h
    · rename_i p' hp
      split at h
      · rename_i q' hq
        injection h with h; subst h
        have h1 := ihp p' hp
        have h2 := ihq q' hq
        have hc := cardB_or _ _ (allBits_lt p') (allBits_lt q')
        have h3 := Nat.mul_le_mul_right p.text.length (pow_mono16 hc.1)
        have h4 := Nat.mul_le_mul_right q.text.length (pow_mono16 hc.2)
        have h5 := one (cardB (p'.allBits ||| q'.allBits))
        simp only [Fm.text, Fm.allBits, List.length_cons, List.length_append, Nat.mul_add, Nat.mul_one]
        omega
      · cases h
    · cases h
  | qu k v p ih =>
    intro g h
    cases k with
    | c3 => simp [Fm.spell] at h
    | c4 => simp [Fm.spell] at h
    | A =>
      simp only [Fm.spell] at h
      split at h
      · rename_i p' hp
        injection h with h; subst h
        have h1 := ih p' hp
        have hc := cardB_or _ _ (bit_lt v) (allBits_lt p')
        have h3 := Nat.mul_le_mul_right p.text.length (pow_mono16 hc.2)
        have h5 := one (cardB (1 <<< v.val ||| p'.allBits))
        simp only [Fm.text, Fm.allBits, List.length_cons, Nat.mul_add, Nat.mul_one]
        omega
      · cases h
    | S =>
      simp only [Fm.spell] at h
      split at h
      · rename_i p' hp
        injection h with h; subst h
        have h1 := ih p' hp
        have hc := cardB_or _ _ (bit_lt v) (allBits_lt p')
        have h3 := Nat.mul_le_mul_right p.text.length (pow_mono16 hc.2)
        have h5 := one (cardB (1 <<< v.val ||| p'.allBits))
        simp only [Fm.text, Fm.allBits, List.length_cons, Nat.mul_add, Nat.mul_one]
        omega
      · cases h
    | c2 =>
      simp only [Fm.spell] at h
      split at h
      · rename_i p' hp
        split at h
        · rename_i w hw
          injection h with h; subst h
          obtain ⟨hw1, hw2⟩ := freshV_some hw
          have h1 := ih p' hp
          have hc := cardB_new _ v w (allBits_lt p') hw1 hw2
          have hl : 1 <<< v.val ||| (1 <<< w.val ||| p'.allBits) ≤ 15 := by
            have := or_lt (bit_lt v) (or_lt (bit_lt w) (allBits_lt p')); omega
          have hall : (Fm.qu .S v (.qu .S w (.con (.neg (.eq v w)) (.con p' (p'.repl v w))))).allBits = 1 <<< v.val ||| (1 <<< w.val ||| p'.allBits) := by
            have h7 := repl_all_or v w p'
            simp only [Fm.allBits]
            apply Nat.eq_of_testBit_eq
            intro i
            have h8 := congrArg (fun n => n.testBit i) h7
            simp only [Nat.testBit_or] at h8 ⊢
            revert h8
            cases (1 <<< v.val).testBit i <;> cases (1 <<< w.val).testBit i <;> cases p'.allBits.testBit i <;> cases (p'.repl v w).allBits.testBit i <;> simp
          rw [hall]
          have h3 := pow_mono16 hc
          rw [Nat.pow_succ] at h3
          have h4 := Nat.mul_le_mul_right p.text.length h3
          have h5 := one (cardB p'.allBits)
          have h6 := repl_len v w p'
          simp only [Fm.text, List.length_cons, List.length_append, List.length_nil, Nat.mul_add, Nat.mul_one] at *
          have h9 : 16 ^ cardB p'.allBits * 16 * p.text.length = 16 * (16 ^ cardB p'.allBits * p.text.length) := by
            rw [Nat.mul_comm (16 ^ cardB p'.allBits) 16, Nat.mul_assoc]
          omega
        · cases h
      · cases h

theorem spell_len {f g : Fm} (h : f.spell = some g) : g.text.length ≤ 65536 * f.text.length := by
  refine Nat.le_trans (spell_grow f g h) (Nat.mul_le_mul_right _ ?_)
  have := varsL_len g.allBits 4
  exact Nat.le_trans (pow_mono16 (b := 4) this) (by decide)

end Go.Proofs.YtpaleogkgfclnaaDoor
