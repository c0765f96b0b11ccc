/-
  Plain facts, no program in sight: formulas as trees, their texts, and that a text is the text of one formula at most. No condition.
-/
import Derived.KernelRfl
namespace Go.Proofs.YtpaoffjicgmleaaDoor
namespace Pl

/-- the quantifiers: all, some, at least two, three, four -/
inductive Qn where
  | A | S | c2 | c3 | c4

/-- formulas -/
inductive Fm where
  | tru | fls
  | pr (v : Fin 4) | eq (v w : Fin 4) | rel (v w : Fin 4)
  | neg (p : Fm) | con (p q : Fm) | dis (p q : Fm) | qu (k : Qn) (v : Fin 4) (p : Fm)

def Qn.b : Qn → UInt8
  | .A => 65 | .S => 83 | .c2 => 50 | .c3 => 51 | .c4 => 52

/-- how often a quantifier counts -/
def Qn.n : Qn → Nat
  | .A => 1 | .S => 1 | .c2 => 2 | .c3 => 3 | .c4 => 4

/-- the byte of a variable -/
def vb (v : Fin 4) : UInt8 := UInt8.ofNat (97 + v.val)

/-- the operator -/
def Fm.op : Fm → UInt8
  | .tru => 116 | .fls => 102 | .pr _ => 80 | .eq _ _ => 61 | .rel _ _ => 69 | .neg _ => 33 | .con _ _ => 38 | .dis _ _ => 124 | .qu k _ _ => k.b

def Fm.vars : Fm → List (Fin 4)
  | .pr v => [v] | .eq v w => [v, w] | .rel v w => [v, w] | .qu _ v _ => [v] | _ => []

def Fm.parts : Fm → List Fm
  | .neg p => [p] | .con p q => [p, q] | .dis p q => [p, q] | .qu _ _ p => [p] | _ => []

def Fm.text : Fm → List UInt8
  | .tru => [116] | .fls => [102] | .pr v => [80, vb v] | .eq v w => [61, vb v, vb w] | .rel v w => [69, vb v, vb w]
  | .neg p => 33 :: p.text | .con p q => 38 :: (p.text ++ q.text) | .dis p q => 124 :: (p.text ++ q.text) | .qu k v p => k.b :: vb v :: p.text

def Fm.size : Fm → Nat
  | .neg p => p.size + 1 | .con p q => p.size + q.size + 1 | .dis p q => p.size + q.size + 1 | .qu _ _ p => p.size + 1 | _ => 1

theorem Fm.size_parts {f p : Fm} (h : p ∈ f.parts) : p.size < f.size := by
  cases f <;> simp [Fm.parts] at h
  case neg => subst h; simp [Fm.size]
  case con => rcases h with h | h <;> subst h <;> simp [Fm.size] <;> omega
  case dis => rcases h with h | h <;> subst h <;> simp [Fm.size] <;> omega
  case qu => subst h; simp [Fm.size]

theorem Fm.text_eq (f : Fm) : f.text = f.op :: (f.vars.map vb ++ (f.parts.map Fm.text).flatten) := by
  cases f <;> simp [Fm.text, Fm.op, Fm.vars, Fm.parts]

theorem vb_inj {v w : Fin 4} (h : vb v = vb w) : v = w := by
  revert v w; decide

theorem qb_inj {v w : Qn} (h : v.b = w.b) : v = w := by
  cases v <;> cases w <;> first | rfl | (exact absurd h (by decide))

theorem Fm.text_inj : ∀ (f g : Fm) (r s : List UInt8), f.text ++ r = g.text ++ s → f = g ∧ r = s := by
  intro f
  induction f with
  | tru =>
    intro g r s h
    cases g <;> simp [Fm.text] at h ⊢
    · exact h
    · rename_i k _ _; cases k <;> simp [Qn.b] at h
  | fls =>
    intro g r s h
    cases g <;> simp [Fm.text] at h ⊢
    · exact h
    · rename_i k _ _; cases k <;> simp [Qn.b] at h
  | pr v =>
    intro g r s h
    cases g <;> simp [Fm.text] at h ⊢
    · exact ⟨vb_inj h.1, h.2⟩
    · rename_i k _ _; cases k <;> simp [Qn.b] at h
  | eq v w =>
    intro g r s h
    cases g <;> simp [Fm.text] at h ⊢
    · exact ⟨⟨vb_inj h.1, vb_inj h.2.1⟩, h.2.2⟩
    · rename_i k _ _; cases k <;> simp [Qn.b] at h
  | rel v w =>
    intro g r s h
    cases g <;> simp [Fm.text] at h ⊢
    · exact ⟨⟨vb_inj h.1, vb_inj h.2.1⟩, h.2.2⟩
    · rename_i k _ _; cases k <;> simp [Qn.b] at h
  | neg p ih =>
    intro g r s h
    cases g <;> simp [Fm.text] at h ⊢
    · exact ih _ _ _ h
    · rename_i k _ _; cases k <;> simp [Qn.b] at h
  | con p q ihp ihq =>
    intro g r s h
    cases g <;> simp [Fm.text] at h ⊢
    · obtain ⟨h1, h2⟩ := ihp _ _ _ h
      obtain ⟨h3, h4⟩ := ihq _ _ _ h2
      exact ⟨⟨h1, h3⟩, h4⟩
    · rename_i k _ _; cases k <;> simp [Qn.b] at h
  | dis p q ihp ihq =>
    intro g r s h
    cases g <;> simp [Fm.text] at h ⊢
    · obtain ⟨h1, h2⟩ := ihp _ _ _ h
      obtain ⟨h3, h4⟩ := ihq _ _ _ h2
      exact ⟨⟨h1, h3⟩, h4⟩
    · rename_i k _ _; cases k <;> simp [Qn.b] at h
  | qu k v p ih =>
    intro g r s h
    cases g <;> simp [Fm.text] at h ⊢
    case qu =>
      obtain ⟨h1, h2, h3⟩ := h
      obtain ⟨h4, h5⟩ := ih _ _ _ h3
      exact ⟨⟨qb_inj h1, vb_inj h2, h4⟩, h5⟩
    all_goals (cases k <;> simp [Qn.b] at h)

/-- how many variables and how many parts follow an operator -/
def arity (b : UInt8) : Option (Nat × Nat) :=
  if b = 116 then some (0, 0) else if b = 102 then some (0, 0) else if b = 80 then some (1, 0) else if b = 61 then some (2, 0) else if b = 69 then some (2, 0)
  else if b = 33 then some (0, 1) else if b = 38 then some (0, 2) else if b = 124 then some (0, 2)
  else if b = 65 then some (1, 1) else if b = 83 then some (1, 1) else if b = 50 then some (1, 1) else if b = 51 then some (1, 1) else if b = 52 then some (1, 1) else none

theorem arity_op (f : Fm) : arity f.op = some (f.vars.length, f.parts.length) := by
  cases f <;> first | rfl | (rename_i k _ _; cases k <;> rfl)

theorem arity_mk {b : UInt8} {nv np : Nat} (h : arity b = some (nv, np)) (vs : List (Fin 4)) (ps : List Fm) (hv : vs.length = nv) (hp : ps.length = np) :
    ∃ f : Fm, f.op = b ∧ f.vars = vs ∧ f.parts = ps := by
  unfold arity at h
  by_cases hb : b = 116
  · subst hb
    have e : some (0, 0) = some (nv, np) := h
    injection e with e
    injection e with e1 e2
    subst e1 e2
    match vs, hv, ps, hp with
    | [], _, [], _ => exact ⟨.tru, rfl, rfl, rfl⟩
  rw [if_neg hb] at h
  clear hb
  by_cases hb : b = 102
  · subst hb
    have e : some (0, 0) = some (nv, np) := h
    injection e with e
    injection e with e1 e2
    subst e1 e2
    match vs, hv, ps, hp with
    | [], _, [], _ => exact ⟨.fls, rfl, rfl, rfl⟩
  rw [if_neg hb] at h
  clear hb
  by_cases hb : b = 80
  · subst hb
    have e : some (1, 0) = some (nv, np) := h
    injection e with e
    injection e with e1 e2
    subst e1 e2
    match vs, hv, ps, hp with
    | [v], _, [], _ => exact ⟨.pr v, rfl, rfl, rfl⟩
  rw [if_neg hb] at h
  clear hb
  by_cases hb : b = 61
  · subst hb
    have e : some (2, 0) = some (nv, np) := h
    injection e with e
    injection e with e1 e2
    subst e1 e2
    match vs, hv, ps, hp with
    | [v, w], _, [], _ => exact ⟨.eq v w, rfl, rfl, rfl⟩
  rw [if_neg hb] at h
  clear hb
  by_cases hb : b = 69
  · subst hb
    have e : some (2, 0) = some (nv, np) := h
    injection e with e
    injection e with e1 e2
    subst e1 e2
    match vs, hv, ps, hp with
    | [v, w], _, [], _ => exact ⟨.rel v w, rfl, rfl, rfl⟩
  rw [if_neg hb] at h
  clear hb
  by_cases hb : b = 33
  · subst hb
    have e : some (0, 1) = some (nv, np) := h
    injection e with e
    injection e with e1 e2
    subst e1 e2
    match vs, hv, ps, hp with
    | [], _, [p], _ => exact ⟨.neg p, rfl, rfl, rfl⟩
  rw [if_neg hb] at h
  clear hb
  by_cases hb : b = 38
  · subst hb
    have e : some (0, 2) = some (nv, np) := h
    injection e with e
    injection e with e1 e2
    subst e1 e2
    match vs, hv, ps, hp with
    | [], _, [p, q], _ => exact ⟨.con p q, rfl, rfl, rfl⟩
  rw [if_neg hb] at h
  clear hb
  by_cases hb : b = 124
  · subst hb
    have e : some (0, 2) = some (nv, np) := h
    injection e with e
    injection e with e1 e2
    subst e1 e2
    match vs, hv, ps, hp with
    | [], _, [p, q], _ => exact ⟨.dis p q, rfl, rfl, rfl⟩
  rw [if_neg hb] at h
  clear hb
  by_cases hb : b = 65
  · subst hb
    have e : some (1, 1) = some (nv, np) := h
    injection e with e
    injection e with e1 e2
    subst e1 e2
    match vs, hv, ps, hp with
    | [v], _, [p], _ => exact ⟨.qu .A v p, rfl, rfl, rfl⟩
  rw [if_neg hb] at h
  clear hb
  by_cases hb : b = 83
  · subst hb
    have e : some (1, 1) = some (nv, np) := h
    injection e with e
    injection e with e1 e2
    subst e1 e2
    match vs, hv, ps, hp with
    | [v], _, [p], _ => exact ⟨.qu .S v p, rfl, rfl, rfl⟩
  rw [if_neg hb] at h
  clear hb
  by_cases hb : b = 50
  · subst hb
    have e : some (1, 1) = some (nv, np) := h
    injection e with e
    injection e with e1 e2
    subst e1 e2
    match vs, hv, ps, hp with
    | [v], _, [p], _ => exact ⟨.qu .c2 v p, rfl, rfl, rfl⟩
  rw [if_neg hb] at h
  clear hb
  by_cases hb : b = 51
  · subst hb
    have e : some (1, 1) = some (nv, np) := h
    injection e with e
    injection e with e1 e2
    subst e1 e2
    match vs, hv, ps, hp with
    | [v], _, [p], _ => exact ⟨.qu .c3 v p, rfl, rfl, rfl⟩
  rw [if_neg hb] at h
  clear hb
  by_cases hb : b = 52
  · subst hb
    have e : some (1, 1) = some (nv, np) := h
    injection e with e
    injection e with e1 e2
    subst e1 e2
    match vs, hv, ps, hp with
    | [v], _, [p], _ => exact ⟨.qu .c4 v p, rfl, rfl, rfl⟩
  rw [if_neg hb] at h
  clear hb
  cases h

open Classical in
/-- the formula with which a text begins, and the rest of the text -/
noncomputable def parse (l : List UInt8) : Option (Fm × List UInt8) :=
  if h : ∃ x : Fm × List UInt8, l = x.1.text ++ x.2 then some (choose h) else none

theorem parse_some {l : List UInt8} {f : Fm} {r : List UInt8} : parse l = some (f, r) ↔ l = f.text ++ r := by
  unfold parse
  constructor
  · intro h
    split at h
    · rename_i hx
      have := Classical.choose_spec hx
      injection h with h
      rw [h] at this
      exact this
    · cases h
  · intro h
    have hx : ∃ x : Fm × List UInt8, l = x.1.text ++ x.2 := ⟨(f, r), h⟩
    rw [dif_pos hx]
    have hc := Classical.choose_spec hx
    obtain ⟨h1, h2⟩ := Fm.text_inj _ _ _ _ (hc.symm.trans h)
    congr 1
    exact Prod.ext h1 h2

theorem parse_none {l : List UInt8} : parse l = none ↔ ∀ (f : Fm) (r : List UInt8), l ≠ f.text ++ r := by
  constructor
  · intro h f r e
    rw [parse_some.2 e] at h
    cases h
  · intro h
    cases hp : parse l with
    | none => rfl
    | some x => exact absurd (parse_some.1 hp) (h _ _)

theorem parse_nil : parse [] = none := parse_none.2 fun f r h => by cases f <;> simp [Fm.text] at h

theorem parse_bad {b : UInt8} {l : List UInt8} (h : arity b = none) : parse (b :: l) = none := parse_none.2 fun f r e => by
  rw [Fm.text_eq] at e
  simp at e
  rw [e.1, arity_op] at h
  cases h

/-- the byte of a variable, or none -/
def varOf (b : UInt8) : Option (Fin 4) := if b = 97 then some 0 else if b = 98 then some 1 else if b = 99 then some 2 else if b = 100 then some 3 else none

theorem varOf_vb (v : Fin 4) : varOf (vb v) = some v := by revert v; decide

theorem varOf_some {b : UInt8} {v : Fin 4} : varOf b = some v ↔ b = vb v := by
  constructor
  · intro h
    unfold varOf at h
    split at h; · injection h with h; subst h; assumption
    split at h; · injection h with h; subst h; assumption
    split at h; · injection h with h; subst h; assumption
    split at h; · injection h with h; subst h; assumption
    cases h
  · intro h; subst h; exact varOf_vb v

/-- failing at a variable -/
theorem parse_no_var {b : UInt8} {nv np : Nat} (ha : arity b = some (nv, np)) (vs : List (Fin 4)) (cur : List UInt8) (hk : vs.length < nv)
    (hno : ∀ v r, cur ≠ vb v :: r) : parse (b :: (vs.map vb ++ cur)) = none := parse_none.2 fun f r e => by
  rw [Fm.text_eq] at e
  simp only [List.cons_append, List.cons.injEq, List.append_assoc] at e
  obtain ⟨rfl, e⟩ := e
  rw [arity_op] at ha
  simp at ha
  rcases List.append_eq_append_iff.1 e with ⟨t, h1, h2⟩ | ⟨t, h1, h2⟩
  · have hl : vs.length + t.length = f.vars.length := by have := congrArg List.length h1; simpa using this.symm
    match t, h1, h2, hl with
    | [], _, _, hl => simp at hl; omega
    | x :: t, h1, h2, _ =>
      have : x ∈ f.vars.map vb := by rw [h1]; simp
      obtain ⟨v, _, rfl⟩ := List.mem_map.1 this
      exact hno v _ (by rw [h2]; rfl)
  · have hl : f.vars.length + t.length = vs.length := by have := congrArg List.length h1; simpa using this.symm
    omega

theorem flat_prefix : ∀ (ps qs : List Fm) (cur r : List UInt8), (ps.map Fm.text).flatten ++ cur = (qs.map Fm.text).flatten ++ r → ps.length < qs.length →
    ∃ (f : Fm) (s : List UInt8), cur = f.text ++ s := by
  intro ps
  induction ps with
  | nil =>
    intro qs cur r h hl
    match qs, hl with
    | q :: qs, _ => exact ⟨q, (qs.map Fm.text).flatten ++ r, by simpa using h⟩
  | cons p ps ih =>
    intro qs cur r h hl
    match qs, hl with
    | q :: qs, hl =>
      simp at h hl
      obtain ⟨_, h2⟩ := Fm.text_inj _ _ _ _ h
      exact ih qs cur r (by simpa using h2) hl

/-- failing at a part -/
theorem parse_no_part {b : UInt8} {nv np : Nat} (ha : arity b = some (nv, np)) (vs : List (Fin 4)) (hv : vs.length = nv) (ps : List Fm) (cur : List UInt8) (hk : ps.length < np)
    (hno : parse cur = none) : parse (b :: (vs.map vb ++ ((ps.map Fm.text).flatten ++ cur))) = none := parse_none.2 fun f r e => by
  rw [Fm.text_eq] at e
  simp only [List.cons_append, List.cons.injEq, List.append_assoc] at e
  obtain ⟨rfl, e⟩ := e
  rw [arity_op] at ha
  simp at ha
  have hl : (vs.map vb).length = (f.vars.map vb).length := by simp; omega
  obtain ⟨_, e2⟩ := List.append_inj e hl
  obtain ⟨g, s, hg⟩ := flat_prefix _ _ _ _ e2 (by omega)
  exact parse_none.1 hno g s hg

/-- succeeding -/
theorem parse_all {b : UInt8} {nv np : Nat} (ha : arity b = some (nv, np)) (vs : List (Fin 4)) (hv : vs.length = nv) (ps : List Fm) (hp : ps.length = np) (cur : List UInt8) :
    ∃ f : Fm, f.op = b ∧ f.vars = vs ∧ f.parts = ps ∧ parse (b :: (vs.map vb ++ ((ps.map Fm.text).flatten ++ cur))) = some (f, cur) := by
  obtain ⟨f, rfl, rfl, rfl⟩ := arity_mk ha vs ps hv hp
  exact ⟨f, rfl, rfl, rfl, parse_some.2 (by rw [Fm.text_eq]; simp)⟩

theorem Fm.text_pos (f : Fm) : 0 < f.text.length := by rw [Fm.text_eq]; simp

/-! ### where a formula ends -/

noncomputable def endI (l : List UInt8) (k : Nat) : Int := match parse (l.drop k) with | some (f, _) => ((k + f.text.length : Nat) : Int) | none => -1

theorem endI_some {l : List UInt8} {k : Nat} {f : Fm} {r : List UInt8} (h : l.drop k = f.text ++ r) : endI l k = ((k + f.text.length : Nat) : Int) := by
  unfold endI; rw [parse_some.2 h]

theorem endI_none {l : List UInt8} {k : Nat} (h : parse (l.drop k) = none) : endI l k = -1 := by
  unfold endI; rw [h]

theorem endI_cases (l : List UInt8) (k : Nat) : (parse (l.drop k) = none ∧ endI l k = -1) ∨ ∃ (f : Fm) (r : List UInt8), l.drop k = f.text ++ r ∧ endI l k = ((k + f.text.length : Nat) : Int) := by
  cases h : parse (l.drop k) with
  | none => exact .inl ⟨rfl, endI_none h⟩
  | some x => exact .inr ⟨x.1, x.2, parse_some.1 h, endI_some (parse_some.1 h)⟩

theorem drop_add_of {l : List UInt8} {k : Nat} {p r : List UInt8} (h : l.drop k = p ++ r) : l.drop (k + p.length) = r := by
  rw [← List.drop_drop, h]; simp

theorem endI_le {l : List UInt8} {k : Nat} (hk : k ≤ l.length) : -1 ≤ endI l k ∧ endI l k ≤ l.length := by
  rcases endI_cases l k with ⟨_, h⟩ | ⟨f, r, h1, h⟩
  · rw [h]; omega
  · rw [h]
    have := congrArg List.length h1
    simp at this
    omega

theorem endI_end {l : List UInt8} {k : Nat} (h : l.length ≤ k) : endI l k = -1 := endI_none (by rw [List.drop_eq_nil_of_le h]; exact parse_nil)

theorem endI_bad {l : List UInt8} {k : Nat} {b : UInt8} {r : List UInt8} (h : l.drop k = b :: r) (ha : arity b = none) : endI l k = -1 := endI_none (by rw [h]; exact parse_bad ha)

theorem endI_leaf {l : List UInt8} {k : Nat} {b : UInt8} {r : List UInt8} (h : l.drop k = b :: r) (ha : arity b = some (0, 0)) : endI l k = (k + 1 : Nat) := by
  obtain ⟨f, rfl, h1, h2, h3⟩ := parse_all ha [] rfl [] rfl r
  rw [endI_some (f := f) (r := r) (parse_some.1 (by rw [h]; simpa using h3)), Fm.text_eq, h1, h2]
  simp

/-- the variable at an index, or -1 -/
def varI (l : List UInt8) (k : Nat) : Int := match l[k]? with | some b => (match varOf b with | some v => (v.val : Int) | none => -1) | none => -1

theorem varI_le (l : List UInt8) (k : Nat) : -1 ≤ varI l k ∧ varI l k ≤ 3 := by
  unfold varI
  split
  · split
    · rename_i v _; have := v.isLt; omega
    · omega
  · omega

theorem varI_neg {l : List UInt8} {k : Nat} (h : varI l k < 0) : ∀ v r, l.drop k ≠ vb v :: r := by
  intro v r e
  have : l[k]? = some (vb v) := by
    have h2 : (l.drop k)[0]? = some (vb v) := by rw [e]; rfl
    simpa using h2
  unfold varI at h
  rw [this] at h
  simp only [varOf_vb] at h
  omega

theorem varI_pos {l : List UInt8} {k : Nat} (h : 0 ≤ varI l k) : ∃ v : Fin 4, varI l k = v.val ∧ l.drop k = vb v :: l.drop (k + 1) := by
  unfold varI at h ⊢
  cases hl : l[k]? with
  | none => rw [hl] at h; simp at h
  | some b =>
    rw [hl] at h
    simp only at h ⊢
    cases hv : varOf b with
    | none => rw [hv] at h; simp at h
    | some v =>
      refine ⟨v, rfl, ?_⟩
      obtain ⟨hlt, hb⟩ := List.getElem?_eq_some_iff.1 hl
      rw [List.drop_eq_getElem_cons hlt, hb, varOf_some.1 hv]

theorem endI_var_no {l : List UInt8} {k : Nat} {b : UInt8} {r : List UInt8} {nv np : Nat} (h : l.drop k = b :: r) (ha : arity b = some (nv, np)) (hnv : 0 < nv) (hv : varI l (k + 1) < 0) : endI l k = -1 := by
  have hr : l.drop (k + 1) = r := drop_add_of (p := [b]) (by simpa using h)
  have := parse_no_var ha [] r (by simpa using hnv) (fun v s e => varI_neg hv v s (by rw [hr, e]))
  exact endI_none (by rw [h]; simpa using this)

theorem endI_var2_no {l : List UInt8} {k : Nat} {b : UInt8} {r : List UInt8} {np : Nat} (h : l.drop k = b :: r) (ha : arity b = some (2, np)) (hv : 0 ≤ varI l (k + 1)) (hw : varI l (k + 2) < 0) : endI l k = -1 := by
  have hr : l.drop (k + 1) = r := drop_add_of (p := [b]) (by simpa using h)
  obtain ⟨v, _, h1⟩ := varI_pos hv
  have := parse_no_var ha [v] (l.drop (k + 2)) (by simp) (fun v s e => varI_neg hw v s e)
  exact endI_none (by rw [h, ← hr, h1]; simpa using this)

theorem endI_var1 {l : List UInt8} {k : Nat} {b : UInt8} {r : List UInt8} (h : l.drop k = b :: r) (ha : arity b = some (1, 0)) (hv : 0 ≤ varI l (k + 1)) : endI l k = (k + 2 : Nat) := by
  have hr : l.drop (k + 1) = r := drop_add_of (p := [b]) (by simpa using h)
  obtain ⟨v, _, h1⟩ := varI_pos hv
  obtain ⟨f, rfl, e1, e2, h3⟩ := parse_all ha [v] rfl [] rfl (l.drop (k + 2))
  rw [endI_some (f := f) (r := l.drop (k + 2)) (parse_some.1 (by rw [h, ← hr, h1]; simpa using h3)), Fm.text_eq, e1, e2]
  simp

theorem endI_var2 {l : List UInt8} {k : Nat} {b : UInt8} {r : List UInt8} (h : l.drop k = b :: r) (ha : arity b = some (2, 0)) (hv : 0 ≤ varI l (k + 1)) (hw : 0 ≤ varI l (k + 2)) : endI l k = (k + 3 : Nat) := by
  have hr : l.drop (k + 1) = r := drop_add_of (p := [b]) (by simpa using h)
  obtain ⟨v, _, h1⟩ := varI_pos hv
  obtain ⟨v2, _, h2⟩ := varI_pos hw
  obtain ⟨f, rfl, e1, e2, h3⟩ := parse_all ha [v, v2] rfl [] rfl (l.drop (k + 3))
  rw [endI_some (f := f) (r := l.drop (k + 3)) (parse_some.1 (by rw [h, ← hr, h1, h2]; simpa using h3)), Fm.text_eq, e1, e2]
  simp

theorem endI_neg {l : List UInt8} {k : Nat} {b : UInt8} {r : List UInt8} (h : l.drop k = b :: r) (ha : arity b = some (0, 1)) : endI l k = endI l (k + 1) := by
  have hr : l.drop (k + 1) = r := drop_add_of (p := [b]) (by simpa using h)
  rcases endI_cases l (k + 1) with ⟨h1, h2⟩ | ⟨p, s, h1, h2⟩
  · rw [h2]
    have := parse_no_part ha [] rfl [] r (by simp) (by rw [← hr]; exact h1)
    exact endI_none (by rw [h]; simpa using this)
  · rw [h2]
    obtain ⟨f, rfl, e1, e2, h3⟩ := parse_all ha [] rfl [p] rfl s
    rw [endI_some (f := f) (r := s) (parse_some.1 (by rw [h, ← hr, h1]; simpa using h3)), Fm.text_eq, e1, e2]
    simp; omega

theorem endI_qu {l : List UInt8} {k : Nat} {b : UInt8} {r : List UInt8} (h : l.drop k = b :: r) (ha : arity b = some (1, 1)) (hv : 0 ≤ varI l (k + 1)) : endI l k = endI l (k + 2) := by
  have hr : l.drop (k + 1) = r := drop_add_of (p := [b]) (by simpa using h)
  obtain ⟨v, _, hv1⟩ := varI_pos hv
  rcases endI_cases l (k + 2) with ⟨h1, h2⟩ | ⟨p, s, h1, h2⟩
  · rw [h2]
    have := parse_no_part ha [v] rfl [] (l.drop (k + 2)) (by simp) h1
    exact endI_none (by rw [h, ← hr, hv1]; simpa using this)
  · rw [h2]
    obtain ⟨f, rfl, e1, e2, h3⟩ := parse_all ha [v] rfl [p] rfl s
    rw [endI_some (f := f) (r := s) (parse_some.1 (by rw [h, ← hr, hv1, h1]; simpa using h3)), Fm.text_eq, e1, e2]
    simp; omega

theorem endI_two_no {l : List UInt8} {k : Nat} {b : UInt8} {r : List UInt8} (h : l.drop k = b :: r) (ha : arity b = some (0, 2)) (h1 : endI l (k + 1) < 0) : endI l k = -1 := by
  have hr : l.drop (k + 1) = r := drop_add_of (p := [b]) (by simpa using h)
  rcases endI_cases l (k + 1) with ⟨h2, _⟩ | ⟨p, s, _, h2⟩
  · have := parse_no_part ha [] rfl [] r (by simp) (by rw [← hr]; exact h2)
    exact endI_none (by rw [h]; simpa using this)
  · rw [h2] at h1; omega

theorem endI_two {l : List UInt8} {k : Nat} {b : UInt8} {r : List UInt8} {m : Nat} (h : l.drop k = b :: r) (ha : arity b = some (0, 2)) (h1 : endI l (k + 1) = (m : Int)) : endI l k = endI l m := by
  have hr : l.drop (k + 1) = r := drop_add_of (p := [b]) (by simpa using h)
  rcases endI_cases l (k + 1) with ⟨_, h2⟩ | ⟨p, s, hp, h2⟩
  · rw [h2] at h1; omega
  · have hm : m = k + 1 + p.text.length := by rw [h2] at h1; omega
    have hs : l.drop m = s := by rw [hm]; exact drop_add_of hp
    rcases endI_cases l m with ⟨g1, g2⟩ | ⟨q, s2, g1, g2⟩
    · rw [g2]
      have := parse_no_part ha [] rfl [p] s (by simp) (by rw [← hs]; exact g1)
      exact endI_none (by rw [h, ← hr, hp]; simpa using this)
    · rw [g2]
      obtain ⟨f, rfl, e1, e2, h3⟩ := parse_all ha [] rfl [p, q] rfl s2
      rw [endI_some (f := f) (r := s2) (parse_some.1 (by rw [h, ← hr, hp, ← hs, g1]; simpa using h3)), Fm.text_eq, e1, e2]
      simp; omega

/-! ### formulas of at most 4000 bytes -/

/-- a text is a formula -/
def IsFm (l : List UInt8) : Prop := l.length ≤ 4000 ∧ ∃ f : Fm, l = f.text

theorem isFm_iff {l : List UInt8} : IsFm l ↔ l.length ≤ 4000 ∧ endI l 0 = l.length := by
  unfold IsFm
  constructor
  · rintro ⟨h, f, rfl⟩
    exact ⟨h, by rw [endI_some (f := f) (r := []) (by simp)]; simp⟩
  · rintro ⟨h, e⟩
    refine ⟨h, ?_⟩
    rcases endI_cases l 0 with ⟨_, h2⟩ | ⟨f, r, h1, h2⟩
    · rw [h2] at e; omega
    · refine ⟨f, ?_⟩
      have h3 : f.text.length = l.length := by rw [h2] at e; omega
      have h4 := congrArg List.length h1
      simp only [List.drop_zero, List.length_append] at h4
      have h5 : r = [] := List.eq_nil_of_length_eq_zero (by omega)
      simpa [h5] using h1

end Pl
end Go.Proofs.YtpaoffjicgmleaaDoor
