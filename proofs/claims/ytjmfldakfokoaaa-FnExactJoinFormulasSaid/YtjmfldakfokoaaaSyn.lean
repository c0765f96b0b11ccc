/-
  Plain facts: a formula in words, with pushed negations, with a variable renamed, and spelled out without counting. No condition.
-/
import Derived.Test.YtjmfldakfokoaaaRankA
namespace Go.Proofs.Ytjmfldakfokoaaa
open Pl

/-- a formula in words -/
def Pl.Fm.showL : Fm → List UInt8
  | .tru => [116, 114, 117, 101]
  | .fls => [102, 97, 108, 115, 101]
  | .pr v => [80, 40, vb v, 41]
  | .eq v w => [vb v, 61, vb w]
  | .rel v w => [69, 40, vb v, 44, vb w, 41]
  | .neg p => [110, 111, 116, 32] ++ p.showL
  | .con p q => [40] ++ p.showL ++ [32, 97, 110, 100, 32] ++ q.showL ++ [41]
  | .dis p q => [40] ++ p.showL ++ [32, 111, 114, 32] ++ q.showL ++ [41]
  | .qu .A v p => [97, 108, 108, 32] ++ [vb v] ++ [58, 32] ++ p.showL
  | .qu .S v p => [115, 111, 109, 101, 32] ++ [vb v] ++ [58, 32] ++ p.showL
  | .qu k v p => [97, 116, 32, 108, 101, 97, 115, 116, 32] ++ [k.b] ++ [32] ++ [vb v] ++ [58, 32] ++ p.showL

theorem show_le (f : Fm) : f.showL.length ≤ 20 * f.text.length := by
  induction f with
  | qu k v p ih => cases k <;> simp [Fm.showL, Fm.text] <;> omega
  | neg p ih => simp [Fm.showL, Fm.text]; omega
  | con p q ihp ihq => simp [Fm.showL, Fm.text]; omega
  | dis p q ihp ihq => simp [Fm.showL, Fm.text]; omega
  | _ => simp [Fm.showL, Fm.text]

theorem show_ne (f : Fm) : f.showL ≠ [] := by
  cases f with
  | qu k v p => cases k <;> simp [Fm.showL]
  | _ => simp [Fm.showL]

/-- negations pushed -/
def Pl.Fm.push : Bool → Fm → Fm
  | b, .tru => if b then .fls else .tru
  | b, .fls => if b then .tru else .fls
  | b, .pr v => if b then .neg (.pr v) else .pr v
  | b, .eq v w => if b then .neg (.eq v w) else .eq v w
  | b, .rel v w => if b then .neg (.rel v w) else .rel v w
  | b, .neg p => p.push (!b)
  | b, .con p q => if b then .dis (p.push b) (q.push b) else .con (p.push b) (q.push b)
  | b, .dis p q => if b then .con (p.push b) (q.push b) else .dis (p.push b) (q.push b)
  | b, .qu .A v p => if b then .qu .S v (p.push b) else .qu .A v (p.push b)
  | b, .qu .S v p => if b then .qu .A v (p.push b) else .qu .S v (p.push b)
  | b, .qu k v p => if b then .neg (.qu k v (p.push false)) else .qu k v (p.push false)

theorem push_le (f : Fm) : ∀ b, (f.push b).text.length ≤ 2 * f.text.length := by
  induction f with
  | qu k v p ih => intro b; have := ih b; have := ih false; cases k <;> cases b <;> simp [Fm.push, Fm.text] <;> omega
  | neg p ih => intro b; have := ih (!b); simp [Fm.push, Fm.text]; omega
  | con p q ihp ihq => intro b; have := ihp b; have := ihq b; cases b <;> simp [Fm.push, Fm.text] <;> omega
  | dis p q ihp ihq => intro b; have := ihp b; have := ihq b; cases b <;> simp [Fm.push, Fm.text] <;> omega
  | _ => intro b; cases b <;> simp [Fm.push, Fm.text]

/-- w in place of v where it is free -/
def Pl.Fm.repl (v w : Fin 4) : Fm → Fm
  | .tru => .tru
  | .fls => .fls
  | .pr u => .pr (if u = v then w else u)
  | .eq u t => .eq (if u = v then w else u) (if t = v then w else t)
  | .rel u t => .rel (if u = v then w else u) (if t = v then w else t)
  | .neg p => .neg (p.repl v w)
  | .con p q => .con (p.repl v w) (q.repl v w)
  | .dis p q => .dis (p.repl v w) (q.repl v w)
  | .qu k u p => if u = v then .qu k u p else .qu k u (p.repl v w)

theorem repl_len (v w : Fin 4) (f : Fm) : (f.repl v w).text.length = f.text.length := by
  induction f with
  | qu k u p ih => by_cases h : u = v <;> simp [Fm.repl, Fm.text, h, ih]
  | neg p ih => simp [Fm.repl, Fm.text, ih]
  | con p q ihp ihq => simp [Fm.repl, Fm.text, ihp, ihq]
  | dis p q ihp ihq => simp [Fm.repl, Fm.text, ihp, ihq]
  | _ => simp [Fm.repl, Fm.text]

/-- the first variable that is not in a set of variables and is not v -/
def freshV (m : Nat) (v : Fin 4) : Option (Fin 4) :=
  if m.testBit 0 = false ∧ v ≠ 0 then some 0 else if m.testBit 1 = false ∧ v ≠ 1 then some 1 else if m.testBit 2 = false ∧ v ≠ 2 then some 2 else if m.testBit 3 = false ∧ v ≠ 3 then some 3 else none

theorem freshV_some {m : Nat} {v w : Fin 4} (h : freshV m v = some w) : m.testBit w.val = false ∧ v ≠ w := by
  unfold freshV at h
  split at h
  · rename_i hh; injection h with h; subst h; exact hh
  split at h
  · rename_i hh; injection h with h; subst h; exact hh
  split at h
  · rename_i hh; injection h with h; subst h; exact hh
  split at h
  · rename_i hh; injection h with h; subst h; exact hh
  · cases h

/-- spelled out without counting -/
def Pl.Fm.spell : Fm → Option Fm
  | .neg p => match p.spell with | some p' => some (.neg p') | none => none
  | .con p q => match p.spell with | some p' => (match q.spell with | some q' => some (.con p' q') | none => none) | none => none
  | .dis p q => match p.spell with | some p' => (match q.spell with | some q' => some (.dis p' q') | none => none) | none => none
  | .qu .A v p => match p.spell with | some p' => some (.qu .A v p') | none => none
  | .qu .S v p => match p.spell with | some p' => some (.qu .S v p') | none => none
  | .qu .c2 v p => match p.spell with
    | some p' => (match freshV p'.allBits v with | some w => some (.qu .S v (.qu .S w (.con (.neg (.eq v w)) (.con p' (p'.repl v w))))) | none => none)
    | none => none
  | .qu .c3 _ _ => none
  | .qu .c4 _ _ => none
  | f => some f

/-! ### how long a formula that is spelled out can be -/

def cardB (m : Nat) : Nat := (varsL m 4).length

theorem cardB_or (a b : Nat) (ha : a < 16) (hb : b < 16) : cardB a ≤ cardB (a ||| b) ∧ cardB b ≤ cardB (a ||| b) := by
  have h : ∀ a b : Fin 16, cardB a.val ≤ cardB (a.val ||| b.val) ∧ cardB b.val ≤ cardB (a.val ||| b.val) := by decide +kernel
  exact h ⟨a, ha⟩ ⟨b, hb⟩

theorem cardB_new (a : Nat) (v w : Fin 4) (ha : a < 16) (hw : a.testBit w.val = false) (hv : v ≠ w) : cardB a + 1 ≤ cardB (1 <<< v.val ||| (1 <<< w.val ||| a)) := by
  have h : ∀ (a : Fin 16) (v w : Fin 4), a.val.testBit w.val = false → v ≠ w → cardB a.val + 1 ≤ cardB (1 <<< v.val ||| (1 <<< w.val ||| a.val)) := by decide +kernel
  exact h ⟨a, ha⟩ v w hw hv

theorem repl_all_or (v w : Fin 4) (f : Fm) : ((f.repl v w).allBits ||| f.allBits) ||| 1 <<< w.val = f.allBits ||| 1 <<< w.val := by
  have hb : ∀ (i : Nat), ((((f.repl v w).allBits ||| f.allBits) ||| 1 <<< w.val).testBit i) = (f.allBits ||| 1 <<< w.val).testBit i := by
    intro i
    simp only [Nat.testBit_or]
    suffices h : (f.repl v w).allBits.testBit i = true → (f.allBits.testBit i || (1 <<< w.val).testBit i) = true by
      cases h1 : (f.repl v w).allBits.testBit i with
      | false => simp
      | true => have := h h1; revert this; cases f.allBits.testBit i <;> cases (1 <<< w.val).testBit i <;> simp
    induction f with
    | tru => simp [Fm.repl, Fm.allBits]
    | fls => simp [Fm.repl, Fm.allBits]
    | pr u =>
      by_cases h : u = v <;> simp only [Fm.repl, Fm.allBits, h, if_true, if_false] <;> intro h <;> simp [h]
    | eq u t =>
      by_cases h : u = v <;> by_cases h2 : t = v <;> simp only [Fm.repl, Fm.allBits, h, h2, if_true, if_false, Nat.testBit_or, Bool.or_eq_true] <;> grind
    | rel u t =>
      by_cases h : u = v <;> by_cases h2 : t = v <;> simp only [Fm.repl, Fm.allBits, h, h2, if_true, if_false, Nat.testBit_or, Bool.or_eq_true] <;> grind
    | neg p ih => exact ih
    | con p q ihp ihq => simp only [Fm.repl, Fm.allBits, Nat.testBit_or, Bool.or_eq_true] at *; grind
    | dis p q ihp ihq => simp only [Fm.repl, Fm.allBits, Nat.testBit_or, Bool.or_eq_true] at *; grind
    | qu k u p ih =>
      by_cases h : u = v <;> simp only [Fm.repl, Fm.allBits, h, if_true, if_false, Nat.testBit_or, Bool.or_eq_true] at * <;> grind
  exact Nat.eq_of_testBit_eq hb

theorem pow_mono16 {a b : Nat} (h : a ≤ b) : 16 ^ a ≤ 16 ^ b := Nat.pow_le_pow_right (by decide) h

theorem spell_grow : ∀ (f g : Fm), f.spell = some g → g.text.length ≤ 16 ^ cardB g.allBits * f.text.length := by
  intro f
  have one : ∀ n : Nat, 1 ≤ 16 ^ n := fun n => Nat.one_le_pow _ _ (by decide)
  have leaf : ∀ (n k : Nat), k ≤ 16 ^ n * k := fun n k => by have := Nat.mul_le_mul_right k (one n); simpa using this
  induction f with
  | tru => intro g h; simp [Fm.spell] at h; subst h; exact leaf _ _
  | fls => intro g h; simp [Fm.spell] at h; subst h; exact leaf _ _
  | pr v => intro g h; simp [Fm.spell] at h; subst h; exact leaf _ _
  | eq v w => intro g h; simp [Fm.spell] at h; subst h; exact leaf _ _
  | rel v w => intro g h; simp [Fm.spell] at h; subst h; exact leaf _ _
  | neg p ih =>
    intro g h
    simp only [Fm.spell] at h
    split at h
    · rename_i p' hp
      injection h with h; subst h
      have := ih p' hp
      have h1 := one (cardB p'.allBits)
      simp only [Fm.text, Fm.allBits, List.length_cons, Nat.mul_add, Nat.mul_one]
      omega
    · cases h
  | con p q ihp ihq =>
    intro g h
    simp only [Fm.spell] at h
    split at h
    · rename_i p' hp
      split at h
      · rename_i q' hq
        injection h with h; subst h
        have h1 := ihp p' hp
        have h2 := ihq q' hq
        have hc := cardB_or _ _ (allBits_lt p') (allBits_lt q')
        have h3 := Nat.mul_le_mul_right p.text.length (pow_mono16 hc.1)
        have h4 := Nat.mul_le_mul_right q.text.length (pow_mono16 hc.2)
        have h5 := one (cardB (p'.allBits ||| q'.allBits))
        simp only [Fm.text, Fm.allBits, List.length_cons, List.length_append, Nat.mul_add, Nat.mul_one]
        omega
      · cases h
    · cases h
  | dis p q ihp ihq =>
    intro g h
    simp only [Fm.spell] at h
    split at h
    · rename_i p' hp
      split at h
      · rename_i q' hq
        injection h with h; subst h
        have h1 := ihp p' hp
        have h2 := ihq q' hq
        have hc := cardB_or _ _ (allBits_lt p') (allBits_lt q')
        have h3 := Nat.mul_le_mul_right p.text.length (pow_mono16 hc.1)
        have h4 := Nat.mul_le_mul_right q.text.length (pow_mono16 hc.2)
        have h5 := one (cardB (p'.allBits ||| q'.allBits))
        simp only [Fm.text, Fm.allBits, List.length_cons, List.length_append, Nat.mul_add, Nat.mul_one]
        omega
      · cases h
    · cases h
  | qu k v p ih =>
    intro g h
    cases k with
    | c3 => simp [Fm.spell] at h
    | c4 => simp [Fm.spell] at h
    | A =>
      simp only [Fm.spell] at h
      split at h
      · rename_i p' hp
        injection h with h; subst h
        have h1 := ih p' hp
        have hc := cardB_or _ _ (bit_lt v) (allBits_lt p')
        have h3 := Nat.mul_le_mul_right p.text.length (pow_mono16 hc.2)
        have h5 := one (cardB (1 <<< v.val ||| p'.allBits))
        simp only [Fm.text, Fm.allBits, List.length_cons, Nat.mul_add, Nat.mul_one]
        omega
      · cases h
    | S =>
      simp only [Fm.spell] at h
      split at h
      · rename_i p' hp
        injection h with h; subst h
        have h1 := ih p' hp
        have hc := cardB_or _ _ (bit_lt v) (allBits_lt p')
        have h3 := Nat.mul_le_mul_right p.text.length (pow_mono16 hc.2)
        have h5 := one (cardB (1 <<< v.val ||| p'.allBits))
        simp only [Fm.text, Fm.allBits, List.length_cons, Nat.mul_add, Nat.mul_one]
        omega
      · cases h
    | c2 =>
      simp only [Fm.spell] at h
      split at h
      · rename_i p' hp
        split at h
        · rename_i w hw
          injection h with h; subst h
          obtain ⟨hw1, hw2⟩ := freshV_some hw
          have h1 := ih p' hp
          have hc := cardB_new _ v w (allBits_lt p') hw1 hw2
          have hl : 1 <<< v.val ||| (1 <<< w.val ||| p'.allBits) ≤ 15 := by
            have := or_lt (bit_lt v) (or_lt (bit_lt w) (allBits_lt p')); omega
          have hall : (Fm.qu .S v (.qu .S w (.con (.neg (.eq v w)) (.con p' (p'.repl v w))))).allBits = 1 <<< v.val ||| (1 <<< w.val ||| p'.allBits) := by
            have h7 := repl_all_or v w p'
            simp only [Fm.allBits]
            apply Nat.eq_of_testBit_eq
            intro i
            have h8 := congrArg (fun n => n.testBit i) h7
            simp only [Nat.testBit_or] at h8 ⊢
            revert h8
            cases (1 <<< v.val).testBit i <;> cases (1 <<< w.val).testBit i <;> cases p'.allBits.testBit i <;> cases (p'.repl v w).allBits.testBit i <;> simp
          rw [hall]
          have h3 := pow_mono16 hc
          rw [Nat.pow_succ] at h3
          have h4 := Nat.mul_le_mul_right p.text.length h3
          have h5 := one (cardB p'.allBits)
          have h6 := repl_len v w p'
          simp only [Fm.text, List.length_cons, List.length_append, List.length_nil, Nat.mul_add, Nat.mul_one] at *
          have h9 : 16 ^ cardB p'.allBits * 16 * p.text.length = 16 * (16 ^ cardB p'.allBits * p.text.length) := by
            rw [Nat.mul_comm (16 ^ cardB p'.allBits) 16, Nat.mul_assoc]
          omega
        · cases h
      · cases h

theorem spell_len {f g : Fm} (h : f.spell = some g) : g.text.length ≤ 65536 * f.text.length := by
  refine Nat.le_trans (spell_grow f g h) (Nat.mul_le_mul_right _ ?_)
  have := varsL_len g.allBits 4
  exact Nat.le_trans (pow_mono16 (b := 4) this) (by decide)

end Go.Proofs.Ytjmfldakfokoaaa
