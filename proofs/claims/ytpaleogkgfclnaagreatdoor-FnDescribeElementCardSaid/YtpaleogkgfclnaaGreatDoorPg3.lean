/-
  Laws of the functions that the claim reaches, one after the other (packed by a program of the prover's: Sem2, Orb, PlLaws, DeP, Parse, Form, Rank). Conditions: texts below the reach.
-/
import Derived.Test.YtpaleogkgfclnaaGreatDoorPg2
import Derived.Deep.DeepCutAuto
import Derived.Deep.CutBlock
import Derived.Deep.LoopGhost
import Derived.Deep.RegionLawGrows
import Derived.Deep.AppendLies
import Derived.Test.YtpaleogkgfclnaaGreatDoorPg0
set_option linter.unusedSimpArgs false
set_option linter.unusedVariables false

namespace Go.Proofs.YtpaleogkgfclnaaGreatDoor
open Pl

theorem free_all (f : Fm) (v : Fin 4) (h : f.isFree v) : f.allBits.testBit v.val = true := by
  unfold Fm.isFree at h
  induction f with
  | tru => exact h
  | fls => exact h
  | pr u => exact h
  | eq u w => exact h
  | rel u w => exact h
  | neg p ih => exact ih h
  | con p q ihp ihq =>
    simp only [Fm.freeBits, Fm.allBits, Nat.testBit_or, Bool.or_eq_true] at *
    exact h.imp ihp ihq
  | dis p q ihp ihq =>
    simp only [Fm.freeBits, Fm.allBits, Nat.testBit_or, Bool.or_eq_true] at *
    exact h.imp ihp ihq
  | qu k u p ih =>
    have := (free_qu k u p v).1 h
    simp only [Fm.allBits, Nat.testBit_or, Bool.or_eq_true]
    exact .inr (ih this.1)

theorem holds_repl (a : St) (v w : Fin 4) : ∀ (f : Fm) (e : Env), f.allBits.testBit w.val = false → (f.repl v w).holds a e = f.holds a (upd e v (e w)) := by
  intro f
  induction f with
  | tru => intros; rfl
  | fls => intros; rfl
  | pr u =>
    intro e _
    simp only [Fm.repl, Fm.holds]
    by_cases h : u = v
    · subst h; rw [if_pos rfl, upd_same]
    · rw [if_neg h, upd_other h]
  | eq u t =>
    intro e _
    have hu : ∀ s : Fin 4, e (if s = v then w else s) = upd e v (e w) s := fun s => by
      unfold upd; by_cases h : s = v <;> simp [h]
    simp only [Fm.repl, Fm.holds, hu]
  | rel u t =>
    intro e _
    have hu : ∀ s : Fin 4, e (if s = v then w else s) = upd e v (e w) s := fun s => by
      unfold upd; by_cases h : s = v <;> simp [h]
    simp only [Fm.repl, Fm.holds, hu]
  | neg p ih => intro e h; simp only [Fm.repl, Fm.holds, ih e h]
  | con p q ihp ihq =>
    intro e h
    simp only [Fm.allBits, Nat.testBit_or, Bool.or_eq_false_iff] at h
    simp only [Fm.repl, Fm.holds, ihp e h.1, ihq e h.2]
  | dis p q ihp ihq =>
    intro e h
    simp only [Fm.allBits, Nat.testBit_or, Bool.or_eq_false_iff] at h
    simp only [Fm.repl, Fm.holds, ihp e h.1, ihq e h.2]
  | qu k u p ih =>
    intro e h
    simp only [Fm.allBits, Nat.testBit_or, Bool.or_eq_false_iff] at h
    have hwu : w ≠ u := by
      rintro rfl
      have := h.1
      rw [bit_test] at this
      simp at this
    simp only [Fm.repl]
    by_cases hu : u = v
    · subst hu
      rw [if_pos rfl]
      refine holds_free a _ _ _ fun t ht => ?_
      have := (free_qu k u p t).1 ht
      rw [upd_other this.2]
    · rw [if_neg hu]
      simp only [Fm.holds]
      rw [cnt_congr fun x _ => ?_]
      rw [ih _ h.2, upd_other hwu]
      congr 1
      funext t
      unfold upd
      by_cases h1 : t = v
      · subst h1; simp [Ne.symm hu]
      · by_cases h2 : t = u <;> simp [h1, h2, hu]

theorem cnt_two {n : Nat} {p : Nat → Bool} : 2 ≤ cnt n p ↔ ∃ x y, x < n ∧ y < n ∧ x ≠ y ∧ p x = true ∧ p y = true := by
  constructor
  · intro h
    unfold cnt at h
    have hnd : ((List.range n).filter p).Nodup := List.nodup_range.filter _
    match hl : (List.range n).filter p, h, hnd with
    | x :: y :: t, _, hnd =>
      have hx : x ∈ (List.range n).filter p := by rw [hl]; simp
      have hy : y ∈ (List.range n).filter p := by rw [hl]; simp
      obtain ⟨h1, h2⟩ := List.mem_filter.1 hx
      obtain ⟨h3, h4⟩ := List.mem_filter.1 hy
      have hne : x ≠ y := by
        rintro rfl
        exact (List.nodup_cons.1 hnd).1 (by simp)
      exact ⟨x, y, List.mem_range.1 h1, List.mem_range.1 h3, hne, h2, h4⟩
  · rintro ⟨x, y, hx, hy, hne, h1, h2⟩
    have := nodup_len_le [x, y] ((List.range n).filter p) (by simp [hne]) (fun z hz => by
      simp only [List.mem_cons, List.not_mem_nil, or_false] at hz
      rcases hz with rfl | rfl
      · exact List.mem_filter.2 ⟨List.mem_range.2 hx, h1⟩
      · exact List.mem_filter.2 ⟨List.mem_range.2 hy, h2⟩)
    exact this

theorem holds_two (a : St) (p : Fm) (v w : Fin 4) (e : Env) (hw : p.allBits.testBit w.val = false) (hv : v ≠ w) :
    (Fm.qu .S v (.qu .S w (.con (.neg (.eq v w)) (.con p (p.repl v w))))).holds a e = (Fm.qu .c2 v p).holds a e := by
  rw [Bool.eq_iff_iff]
  have hL : (Fm.qu .S v (.qu .S w (.con (.neg (.eq v w)) (.con p (p.repl v w))))).holds a e = decide (0 < cnt a.n fun x => decide (0 < cnt a.n fun y => (!(upd (upd e v x) w y v == upd (upd e v x) w y w) && (p.holds a (upd (upd e v x) w y) && (p.repl v w).holds a (upd (upd e v x) w y))))) := rfl
  have hR : (Fm.qu .c2 v p).holds a e = decide (2 ≤ cnt a.n fun x => p.holds a (upd e v x)) := rfl
  rw [hL, hR, decide_eq_true_eq, decide_eq_true_eq, cnt_pos, cnt_two]
  have h1 : ∀ x y, p.holds a (upd (upd e v x) w y) = p.holds a (upd e v x) := fun x y => holds_free a p _ _ fun u hu => by
    rw [upd_other]
    rintro rfl
    rw [free_all p u hu] at hw
    cases hw
  have h2 : ∀ x y, (p.repl v w).holds a (upd (upd e v x) w y) = p.holds a (upd e v y) := fun x y => by
    rw [holds_repl a v w p _ hw, upd_same]
    refine holds_free a p _ _ fun u hu => ?_
    have huw : u ≠ w := by rintro rfl; rw [free_all p u hu] at hw; cases hw
    unfold upd
    by_cases huv : u = v
    · simp [huv]
    · simp [huv, huw]
  constructor
  · rintro ⟨x, hx, h⟩
    replace h := cnt_pos.1 (of_decide_eq_true h)
    obtain ⟨y, hy, h⟩ := h
    simp only [Bool.and_eq_true, Bool.not_eq_true', beq_eq_false_iff_ne] at h
    rw [h1, h2, upd_same, upd_other hv, upd_same] at h
    exact ⟨x, y, hx, hy, h.1, h.2.1, h.2.2⟩
  · rintro ⟨x, y, hx, hy, hne, g1, g2⟩
    refine ⟨x, hx, decide_eq_true (cnt_pos.2 ⟨y, hy, ?_⟩)⟩
    simp only [Bool.and_eq_true, Bool.not_eq_true', beq_eq_false_iff_ne]
    rw [h1, h2, upd_same, upd_other hv, upd_same]
    exact ⟨hne, g1, g2⟩

theorem holds_spell (a : St) : ∀ (f g : Fm), f.spell = some g → ∀ e, g.holds a e = f.holds a e := by
  intro f
  induction f with
  | tru => intro g h e; simp [Fm.spell] at h; subst h; rfl
  | fls => intro g h e; simp [Fm.spell] at h; subst h; rfl
  | pr v => intro g h e; simp [Fm.spell] at h; subst h; rfl
  | eq v w => intro g h e; simp [Fm.spell] at h; subst h; rfl
  | rel v w => intro g h e; simp [Fm.spell] at h; subst h; rfl
  | neg p ih =>
    intro g h e
    simp only [Fm.spell] at h
    split at h
    · rename_i p' hp
      injection h with h; subst h
      simp only [Fm.holds, ih p' hp]
    · cases h
  | con p q ihp ihq =>
    intro g h e
    simp only [Fm.spell] at h
    split at h
    · rename_i p' hp
      split at h
      · rename_i q' hq
        injection h with h; subst h
        simp only [Fm.holds, ihp p' hp, ihq q' hq]
      · cases h
    · cases h
  | dis p q ihp ihq =>
    intro g h e
    simp only [Fm.spell] at h
    split at h
    · rename_i p' hp
      split at h
      · rename_i q' hq
        injection h with h; subst h
        simp only [Fm.holds, ihp p' hp, ihq q' hq]
      · cases h
    · cases h
  | qu k v p ih =>
    intro g h e
    cases k with
    | c3 => simp [Fm.spell] at h
    | c4 => simp [Fm.spell] at h
    | A =>
      simp only [Fm.spell] at h
      split at h
      · rename_i p' hp
        injection h with h; subst h
        simp only [Fm.holds, ih p' hp]
      · cases h
    | S =>
      simp only [Fm.spell] at h
      split at h
      · rename_i p' hp
        injection h with h; subst h
        simp only [Fm.holds, ih p' hp]
      · cases h
    | c2 =>
      simp only [Fm.spell] at h
      split at h
      · rename_i p' hp
        split at h
        · rename_i w hw
          injection h with h; subst h
          obtain ⟨hw1, hw2⟩ := freshV_some hw
          rw [holds_two a p' v w e hw1 hw2]
          simp only [Fm.holds, ih p' hp]
        · cases h
      · cases h

theorem repl_rank (v w : Fin 4) (f : Fm) : (f.repl v w).rank = f.rank := by
  induction f with
  | qu k u p ih => by_cases h : u = v <;> simp [Fm.repl, Fm.rank, h, ih]
  | neg p ih => simp [Fm.repl, Fm.rank, ih]
  | con p q ihp ihq => simp [Fm.repl, Fm.rank, ihp, ihq]
  | dis p q ihp ihq => simp [Fm.repl, Fm.rank, ihp, ihq]
  | _ => simp [Fm.repl, Fm.rank]

theorem repl_counts (v w : Fin 4) (f : Fm) : (f.repl v w).counts = f.counts := by
  induction f with
  | qu k u p ih => by_cases h : u = v <;> simp [Fm.repl, Fm.counts, h, ih]
  | neg p ih => simp [Fm.repl, Fm.counts, ih]
  | con p q ihp ihq => simp [Fm.repl, Fm.counts, ihp, ihq]
  | dis p q ihp ihq => simp [Fm.repl, Fm.counts, ihp, ihq]
  | _ => simp [Fm.repl, Fm.counts]

theorem repl_free {v w : Fin 4} {f : Fm} (hw : f.allBits.testBit w.val = false) (u : Fin 4) (huv : u ≠ v) (huw : u ≠ w) : (f.repl v w).isFree u ↔ f.isFree u := by
  have hb : ∀ s t : Fin 4, (1 <<< s.val).testBit t.val = decide (s = t) := bit_test
  unfold Fm.isFree
  induction f with
  | tru => rfl
  | fls => rfl
  | pr s =>
    by_cases h : s = v
    · subst h; simp [Fm.repl, Fm.freeBits, hb, Ne.symm huv, Ne.symm huw, -Nat.testBit_shiftLeft]
    · simp [Fm.repl, h]
  | eq s t =>
    by_cases h : s = v <;> by_cases h2 : t = v <;> simp [Fm.repl, Fm.freeBits, hb, h, h2, Ne.symm huv, Ne.symm huw, -Nat.testBit_shiftLeft]
  | rel s t =>
    by_cases h : s = v <;> by_cases h2 : t = v <;> simp [Fm.repl, Fm.freeBits, hb, h, h2, Ne.symm huv, Ne.symm huw, -Nat.testBit_shiftLeft]
  | neg p ih => exact ih hw
  | con p q ihp ihq =>
    simp only [Fm.allBits, Nat.testBit_or, Bool.or_eq_false_iff] at hw
    simp only [Fm.repl, Fm.freeBits, Nat.testBit_or, Bool.or_eq_true]
    exact or_congr (ihp hw.1) (ihq hw.2)
  | dis p q ihp ihq =>
    simp only [Fm.allBits, Nat.testBit_or, Bool.or_eq_false_iff] at hw
    simp only [Fm.repl, Fm.freeBits, Nat.testBit_or, Bool.or_eq_true]
    exact or_congr (ihp hw.1) (ihq hw.2)
  | qu k s p ih =>
    simp only [Fm.allBits, Nat.testBit_or, Bool.or_eq_false_iff] at hw
    simp only [Fm.repl]
    by_cases h : s = v
    · rw [if_pos h]
    · rw [if_neg h]
      have h1 := free_qu k s (p.repl v w) u
      have h2 := free_qu k s p u
      unfold Fm.isFree at h1 h2
      rw [h1, h2]
      exact and_congr_left' (ih hw.2)

theorem two_free {p : Fm} {v w : Fin 4} (hw : p.allBits.testBit w.val = false) (u : Fin 4) :
    (Fm.qu .S v (.qu .S w (.con (.neg (.eq v w)) (.con p (p.repl v w))))).isFree u ↔ (Fm.qu .c2 v p).isFree u := by
  rw [free_qu, free_qu, free_qu]
  constructor
  · rintro ⟨⟨h, huw⟩, huv⟩
    refine ⟨?_, huv⟩
    unfold Fm.isFree at h
    simp only [Fm.freeBits, Nat.testBit_or, bit_test, Bool.or_eq_true, decide_eq_true_eq] at h
    rcases h with (h | h) | h | h
    · exact absurd h.symm huv
    · exact absurd h.symm huw
    · exact h
    · exact (repl_free hw u huv huw).1 h
  · rintro ⟨h, huv⟩
    have huw : u ≠ w := by rintro rfl; rw [free_all p u h] at hw; cases hw
    refine ⟨⟨?_, huw⟩, huv⟩
    unfold Fm.isFree at h ⊢
    simp only [Fm.freeBits, Nat.testBit_or, Bool.or_eq_true]
    exact .inr (.inl h)

theorem spell_facts : ∀ (f g : Fm), f.spell = some g → g.rank = f.rank ∧ g.counts = false ∧ (∀ u, g.isFree u ↔ f.isFree u) ∧ ∀ u : Fin 4, f.allBits.testBit u.val = true → g.allBits.testBit u.val = true := by
  intro f
  induction f with
  | tru => intro g h; simp [Fm.spell] at h; subst h; exact ⟨rfl, rfl, fun _ => Iff.rfl, fun _ h => h⟩
  | fls => intro g h; simp [Fm.spell] at h; subst h; exact ⟨rfl, rfl, fun _ => Iff.rfl, fun _ h => h⟩
  | pr v => intro g h; simp [Fm.spell] at h; subst h; exact ⟨rfl, rfl, fun _ => Iff.rfl, fun _ h => h⟩
  | eq v w => intro g h; simp [Fm.spell] at h; subst h; exact ⟨rfl, rfl, fun _ => Iff.rfl, fun _ h => h⟩
  | rel v w => intro g h; simp [Fm.spell] at h; subst h; exact ⟨rfl, rfl, fun _ => Iff.rfl, fun _ h => h⟩
  | neg p ih =>
    intro g h
    simp only [Fm.spell] at h
    split at h
    · rename_i p' hp
      injection h with h; subst h
      exact ih p' hp
    · cases h
  | con p q ihp ihq =>
    intro g h
    simp only [Fm.spell] at h
    split at h
    · rename_i p' hp
      split at h
      · rename_i q' hq
        injection h with h; subst h
        obtain ⟨a1, a2, a3, a4⟩ := ihp p' hp
        obtain ⟨b1, b2, b3, b4⟩ := ihq q' hq
        refine ⟨by simp only [Fm.rank, a1, b1], by simp only [Fm.counts, a2, b2]; rfl, fun u => ?_, fun u hu => ?_⟩
        · have c1 := a3 u; have c2 := b3 u
          unfold Fm.isFree at *
          simp only [Fm.freeBits, Nat.testBit_or, Bool.or_eq_true, c1, c2]
        · simp only [Fm.allBits, Nat.testBit_or, Bool.or_eq_true] at hu ⊢
          exact hu.imp (a4 u) (b4 u)
      · cases h
    · cases h
  | dis p q ihp ihq =>
    intro g h
    simp only [Fm.spell] at h
    split at h
    · rename_i p' hp
      split at h
      · rename_i q' hq
        injection h with h; subst h
        obtain ⟨a1, a2, a3, a4⟩ := ihp p' hp
        obtain ⟨b1, b2, b3, b4⟩ := ihq q' hq
        refine ⟨by simp only [Fm.rank, a1, b1], by simp only [Fm.counts, a2, b2]; rfl, fun u => ?_, fun u hu => ?_⟩
        · have c1 := a3 u; have c2 := b3 u
          unfold Fm.isFree at *
          simp only [Fm.freeBits, Nat.testBit_or, Bool.or_eq_true, c1, c2]
        · simp only [Fm.allBits, Nat.testBit_or, Bool.or_eq_true] at hu ⊢
          exact hu.imp (a4 u) (b4 u)
      · cases h
    · cases h
  | qu k v p ih =>
    intro g h
    have one : ∀ (k : Qn) (p' : Fm), p.spell = some p' → isCoB k.b = false → (Fm.qu k v p').rank = (Fm.qu k v p).rank ∧ (Fm.qu k v p').counts = false ∧ (∀ u, (Fm.qu k v p').isFree u ↔ (Fm.qu k v p).isFree u) ∧ ∀ u : Fin 4, (Fm.qu k v p).allBits.testBit u.val = true → (Fm.qu k v p').allBits.testBit u.val = true := by
      intro k p' hp hk
      obtain ⟨a1, a2, a3, a4⟩ := ih p' hp
      refine ⟨by simp only [Fm.rank, a1], by simp only [Fm.counts, a2, hk]; rfl, fun u => ?_, fun u hu => ?_⟩
      · rw [free_qu, free_qu, a3]
      · simp only [Fm.allBits, Nat.testBit_or, Bool.or_eq_true] at hu ⊢
        exact hu.imp id (a4 u)
    cases k with
    | c3 => simp [Fm.spell] at h
    | c4 => simp [Fm.spell] at h
    | A =>
      simp only [Fm.spell] at h
      split at h
      · rename_i p' hp
        injection h with h; subst h
        exact one .A p' hp rfl
      · cases h
    | S =>
      simp only [Fm.spell] at h
      split at h
      · rename_i p' hp
        injection h with h; subst h
        exact one .S p' hp rfl
      · cases h
    | c2 =>
      simp only [Fm.spell] at h
      split at h
      · rename_i p' hp
        split at h
        · rename_i w hw
          injection h with h; subst h
          obtain ⟨hw1, hw2⟩ := freshV_some hw
          obtain ⟨a1, a2, a3, a4⟩ := ih p' hp
          refine ⟨?_, ?_, fun u => ?_, fun u hu => ?_⟩
          · simp only [Fm.rank, repl_rank, a1, Qn.n]; omega
          · simp only [Fm.counts, repl_counts, a2]; rfl
          · rw [two_free hw1, free_qu, free_qu, a3]
          · simp only [Fm.allBits, Nat.testBit_or, Bool.or_eq_true] at hu ⊢
            rcases hu with hu | hu
            · exact .inl hu
            · exact .inr (.inr (.inr (.inl (a4 u hu))))
        · cases h
      · cases h

theorem push_facts (f : Fm) : ∀ b, (f.push b).rank = f.rank ∧ ∀ u, (f.push b).isFree u ↔ f.isFree u := by
  induction f with
  | neg p ih => intro b; exact ih (!b)
  | con p q ihp ihq =>
    intro b
    obtain ⟨a1, a2⟩ := ihp b
    obtain ⟨b1, b2⟩ := ihq b
    have h : ∀ u, ((p.push b).freeBits ||| (q.push b).freeBits).testBit u = (p.freeBits ||| q.freeBits).testBit u ∨ 4 ≤ u := by
      intro u
      by_cases hu : u < 4
      · left
        have c1 := a2 ⟨u, hu⟩; have c2 := b2 ⟨u, hu⟩
        unfold Fm.isFree at c1 c2
        rw [Nat.testBit_or, Nat.testBit_or, Bool.eq_iff_iff, Bool.or_eq_true, Bool.or_eq_true, c1, c2]
      · right; omega
    refine ⟨by cases b <;> simp [Fm.push, Fm.rank, a1, b1], fun u => ?_⟩
    have := h u.val
    have hu := u.isLt
    rcases this with h1 | h1
    · unfold Fm.isFree; cases b <;> simp [Fm.push, Fm.freeBits, -Nat.testBit_or, h1]
    · omega
  | dis p q ihp ihq =>
    intro b
    obtain ⟨a1, a2⟩ := ihp b
    obtain ⟨b1, b2⟩ := ihq b
    have h : ∀ u, ((p.push b).freeBits ||| (q.push b).freeBits).testBit u = (p.freeBits ||| q.freeBits).testBit u ∨ 4 ≤ u := by
      intro u
      by_cases hu : u < 4
      · left
        have c1 := a2 ⟨u, hu⟩; have c2 := b2 ⟨u, hu⟩
        unfold Fm.isFree at c1 c2
        rw [Nat.testBit_or, Nat.testBit_or, Bool.eq_iff_iff, Bool.or_eq_true, Bool.or_eq_true, c1, c2]
      · right; omega
    refine ⟨by cases b <;> simp [Fm.push, Fm.rank, a1, b1], fun u => ?_⟩
    have := h u.val
    have hu := u.isLt
    rcases this with h1 | h1
    · unfold Fm.isFree; cases b <;> simp [Fm.push, Fm.freeBits, -Nat.testBit_or, h1]
    · omega
  | qu k v p ih =>
    intro b
    have hq : ∀ (k k' : Qn) (c : Bool) (u : Fin 4), (Fm.qu k v (p.push c)).isFree u ↔ (Fm.qu k' v p).isFree u := fun k k' c u => by
      rw [free_qu, free_qu, (ih c).2 u]
    cases k <;> cases b <;> exact ⟨by simp [Fm.push, Fm.rank, Qn.n, (ih true).1, (ih false).1], fun u => by first | exact hq .A .A _ u | exact hq .S .A _ u | exact hq .A .S _ u | exact hq .S .S _ u | exact hq .c2 .c2 _ u | exact hq .c3 .c3 _ u | exact hq .c4 .c4 _ u⟩
  | tru => intro b; cases b <;> exact ⟨rfl, fun _ => Iff.rfl⟩
  | fls => intro b; cases b <;> exact ⟨rfl, fun _ => Iff.rfl⟩
  | pr v => intro b; cases b <;> exact ⟨rfl, fun _ => Iff.rfl⟩
  | eq v w => intro b; cases b <;> exact ⟨rfl, fun _ => Iff.rfl⟩
  | rel v w => intro b; cases b <;> exact ⟨rfl, fun _ => Iff.rfl⟩

end Go.Proofs.YtpaleogkgfclnaaGreatDoor

namespace Go.Proofs.YtpaleogkgfclnaaGreatDoor
namespace Pl

theorem part_iso {a : St} {m : List Nat} (hm : IsPerm a.n m) : m ∈ isos a (a.part m) := by
  have hl := hm.len
  refine mem_isos_iff.2 ⟨hm, fun i hi => ?_, fun i j hi hj => ?_⟩
  · unfold St.part
    rw [mkSt_inS (by omega)]
    rfl
  · unfold St.part
    rw [mkSt_inR (by omega) (by omega)]
    rfl

/-- an element, and behind it all others -/
def frontL (n x : Nat) : List Nat := x :: (List.range n).filter fun y => y != x

theorem front_perm {n x : Nat} (hx : x < n) : IsPerm n (frontL n x) := by
  have hnd : (frontL n x).Nodup := by
    unfold frontL
    rw [List.nodup_cons]
    exact ⟨by simp, List.nodup_range.filter _⟩
  have hlt : ∀ y ∈ frontL n x, y < n := by
    intro y hy
    unfold frontL at hy
    rcases List.mem_cons.1 hy with rfl | hy
    · exact hx
    · exact List.mem_range.1 (List.mem_filter.1 hy).1
  refine ⟨?_, hnd, hlt⟩
  have h := nodup_len_eq hnd (List.nodup_range (n := n)) (fun y => ⟨fun hy => List.mem_range.2 (hlt y hy), fun hy => by
    unfold frontL
    by_cases e : y = x
    · subst e; simp
    · exact List.mem_cons_of_mem _ (List.mem_filter.2 ⟨hy, by simpa using e⟩)⟩)
  simpa using h

/-- the elements that the reference finds -/
def orbS (a : St) (x : Nat) : List Nat := (List.range a.n).filter fun y => a.inS y == a.inS x && (a.inR y y == a.inR x x && !(shapes a (a.part (frontL a.n x)) (a.n - 1) [y]).isEmpty)

theorem orbS_eq {a : St} {x : Nat} (hx : x < a.n) : orbS a x = orbL a.n (isos a a) x := by
  unfold orbS orbL
  refine List.filter_congr fun y hy => ?_
  have hy := List.mem_range.1 hy
  have hm := front_perm hx
  have hmi := part_iso (a := a) hm
  have hml := hm.len
  have hbn : (a.part (frontL a.n x)).n = a.n := hml
  have hab : a.n = (a.part (frontL a.n x)).n := hbn.symm
  have h0 : 0 < a.n := by omega
  have hm0 : app (frontL a.n x) 0 = x := rfl
  obtain ⟨_, hmS, hmR⟩ := mem_isos_iff.1 hmi
  rw [Bool.eq_iff_iff]
  simp only [Bool.and_eq_true, beq_iff_eq, Bool.not_eq_true', List.any_eq_true]
  constructor
  · rintro ⟨h1, h2, h3⟩
    obtain ⟨l, hl⟩ : ∃ l, l ∈ shapes a (a.part (frontL a.n x)) (a.n - 1) [y] := by
      cases hs : shapes a (a.part (frontL a.n x)) (a.n - 1) [y] with
      | nil => rw [hs] at h3; cases h3
      | cons l L => exact ⟨l, by simp⟩
    have hf : Fits a (a.part (frontL a.n x)) [y] := by
      refine ⟨by simp, by simpa using hy, fun i hi => ?_, fun i j hi hj => ?_⟩
      · simp only [List.length_singleton] at hi
        obtain rfl : i = 0 := by omega
        rw [← hmS 0 h0, hm0, ← h1]; rfl
      · simp only [List.length_singleton] at hi hj
        obtain rfl : i = 0 := by omega
        obtain rfl : j = 0 := by omega
        rw [← hmR 0 0 h0 h0, hm0, ← h2]; rfl
    obtain ⟨t, rfl, ht, hfl⟩ := (mem_shapes _ _ _ hf).1 hl
    have hli : [y] ++ t ∈ isos a (a.part (frontL a.n x)) := mem_isos.2 ⟨by simp [ht]; omega, hfl⟩
    refine ⟨_, iso_comp hab hli (iso_inv hab hmi), ?_⟩
    have e : app (inv (frontL a.n x)) x = 0 := by
      have := inv_app hm h0
      rwa [hm0] at this
    rw [app_comp (by rw [len_inv, hml]; exact hx), e]
    rfl
  · rintro ⟨l, hl, rfl⟩
    obtain ⟨hp, hS, hR⟩ := mem_isos_iff.1 hl
    refine ⟨hS x hx, hR x x hx hx, ?_⟩
    have hli := iso_comp rfl hl hmi
    have hlen : (comp l (frontL a.n x)).length = a.n := by rw [len_comp, hml]
    have happ : app (comp l (frontL a.n x)) 0 = app l x := by rw [app_comp (by rw [hml]; exact h0), hm0]
    obtain ⟨t, ht⟩ : ∃ t, comp l (frontL a.n x) = app l x :: t := by
      cases hc : comp l (frontL a.n x) with
      | nil => rw [hc] at hlen; simp at hlen; omega
      | cons z t => rw [hc] at happ; exact ⟨t, by rw [show z = app l x from happ]⟩
    rw [ht] at hli hlen
    obtain ⟨_, hfit⟩ := mem_isos.1 hli
    have hmem : app l x :: t ∈ shapes a (a.part (frontL a.n x)) (a.n - 1) [app l x] :=
      (mem_shapes _ _ _ (Fits.prefix t (by simpa using hfit))).2 ⟨t, rfl, by simp at hlen; omega, hfit⟩
    cases hs : shapes a (a.part (frontL a.n x)) (a.n - 1) [app l x] with
    | nil => rw [hs] at hmem; cases hmem
    | cons l L => rfl

end Pl
end Go.Proofs.YtpaleogkgfclnaaGreatDoor

namespace Go.Proofs.YtpaleogkgfclnaaGreatDoor
namespace Pl

theorem mkSt_congr {n : Nat} {f f' : Nat → Bool} {g g' : Nat → Nat → Bool} (hf : ∀ x, x < n → f x = f' x) (hg : ∀ x y, x < n → y < n → g x y = g' x y) : mkSt n f g = mkSt n f' g' := by
  have e1 : ((List.range n).map fun x => bitB (f x)) = (List.range n).map fun x => bitB (f' x) :=
    List.map_congr_left fun x hx => by rw [hf x (List.mem_range.1 hx)]
  have e2 : ((List.range n).flatMap fun x => (List.range n).map fun y => bitB (g x y)) = (List.range n).flatMap fun x => (List.range n).map fun y => bitB (g' x y) := by
    rw [List.flatMap_def, List.flatMap_def]
    congr 1
    exact List.map_congr_left fun x hx => List.map_congr_left fun y hy => by rw [hg x y (List.mem_range.1 hx) (List.mem_range.1 hy)]
  unfold mkSt
  rw [e1, e2]

theorem getD_lt' {l : List Nat} {n : Nat} (h : ∀ x ∈ l, x < n) {i : Nat} (hi : i < l.length) : l.getD i 0 < n := h _ (app_mem hi)

theorem part_part {a : St} {l m : List Nat} (hm : ∀ x ∈ m, x < l.length) : (a.part l).part m = a.part (comp l m) := by
  unfold St.part
  rw [len_comp]
  have e : ∀ x, x < m.length → (comp l m).getD x 0 = l.getD (m.getD x 0) 0 := fun x hx => app_comp hx
  refine mkSt_congr (fun x hx => ?_) (fun x y hx hy => ?_)
  · rw [mkSt_inS (getD_lt' hm hx), e x hx]
  · rw [mkSt_inR (getD_lt' hm hx) (getD_lt' hm hy), e x hx, e y hy]

theorem part_range {a : St} (ha : a.ok) : a.part (List.range a.n) = a := by
  have e : ∀ x, x < a.n → (List.range a.n).getD x 0 = x := fun x hx => app_range hx
  have h : a.part (List.range a.n) = mkSt a.n a.inS a.inR := by
    unfold St.part
    rw [List.length_range]
    exact mkSt_congr (fun x hx => by rw [e x hx]) (fun x y hx hy => by rw [e x hx, e y hy])
  rw [h, mkSt_self ha]

theorem part_inv {a : St} (ha : a.ok) {l : List Nat} (hl : IsPerm a.n l) : (a.part l).part (inv l) = a := by
  rw [part_part (fun x hx => by rw [hl.len]; exact hl.inv.lt x hx), comp_inv hl, part_range ha]

theorem part_ok {a : St} {l : List Nat} (h1 : 1 ≤ l.length) (h8 : l.length ≤ 8) : (a.part l).ok := mkSt_ok h1 h8

theorem iso_part {a b : St} (ha : a.ok) (hb : b.ok) (hab : a.n = b.n) {l : List Nat} (hl : l ∈ isos a b) : a.part l = b := by
  obtain ⟨hp, h1, h2⟩ := mem_isos_iff.1 hl
  have h := ha.lo
  have h' := ha.hi
  refine St.ext' (part_ok (by rw [hp.len]; exact h) (by rw [hp.len]; exact h')) hb (by rw [← hab]; exact hp.len) (fun x hx => ?_) (fun x y hx hy => ?_)
  · have hx' : x < l.length := hx
    rw [show (a.part l).inS x = a.inS (app l x) from mkSt_inS hx']
    exact h1 x (by rw [← hp.len]; exact hx')
  · have hx' : x < l.length := hx
    have hy' : y < l.length := hy
    rw [show (a.part l).inR x y = a.inR (app l x) (app l y) from mkSt_inR hx' hy']
    exact h2 x y (by rw [← hp.len]; exact hx') (by rw [← hp.len]; exact hy')

theorem part_n {a : St} (l : List Nat) : (a.part l).n = l.length := rfl
theorem other_ok {a : St} (ha : a.ok) : a.other.ok := mkSt_ok ha.lo ha.hi
theorem turn_ok {a : St} (ha : a.ok) : a.turn.ok := mkSt_ok ha.lo ha.hi
theorem other_inS {a : St} {x : Nat} (h : x < a.n) : a.other.inS x = !a.inS x := mkSt_inS h
theorem other_inR {a : St} {x y : Nat} (h : x < a.n) (h2 : y < a.n) : a.other.inR x y = !a.inR x y := mkSt_inR h h2
theorem turn_inS {a : St} {x : Nat} (h : x < a.n) : a.turn.inS x = a.inS x := mkSt_inS h
theorem turn_inR {a : St} {x y : Nat} (h : x < a.n) (h2 : y < a.n) : a.turn.inR x y = a.inR y x := mkSt_inR h h2

theorem other_other {a : St} (ha : a.ok) : a.other.other = a := by
  refine St.ext' (other_ok (other_ok ha)) ha rfl (fun x hx => ?_) (fun x y hx hy => ?_)
  · rw [other_inS (show x < a.other.n from hx), other_inS (show x < a.n from hx), Bool.not_not]
  · rw [other_inR (show x < a.other.n from hx) (show y < a.other.n from hy), other_inR (show x < a.n from hx) (show y < a.n from hy), Bool.not_not]
theorem turn_turn {a : St} (ha : a.ok) : a.turn.turn = a := by
  refine St.ext' (turn_ok (turn_ok ha)) ha rfl (fun x hx => ?_) (fun x y hx hy => ?_)
  · rw [turn_inS (show x < a.turn.n from hx), turn_inS (show x < a.n from hx)]
  · rw [turn_inR (show x < a.turn.n from hx) (show y < a.turn.n from hy), turn_inR (show y < a.n from hy) (show x < a.n from hx)]
theorem other_turn (a : St) : a.other.turn = a.turn.other := by
  show mkSt a.n a.other.inS (fun x y => a.other.inR y x) = mkSt a.n (fun x => !a.turn.inS x) (fun x y => !a.turn.inR x y)
  exact mkSt_congr (fun x hx => by rw [other_inS hx, turn_inS hx]) (fun x y hx hy => by rw [other_inR hy hx, turn_inR hx hy])

theorem isos_other {a b : St} (hab : a.n = b.n) {l : List Nat} : l ∈ isos a.other b.other ↔ l ∈ isos a b := by
  rw [mem_isos_iff, mem_isos_iff]
  show (IsPerm a.n l ∧ (∀ i, i < a.n → a.other.inS (app l i) = b.other.inS i) ∧ ∀ i j, i < a.n → j < a.n → a.other.inR (app l i) (app l j) = b.other.inR i j) ↔ _
  refine and_congr_right fun hp => ?_
  refine and_congr (forall_congr' fun i => forall_congr' fun hi => ?_) (forall_congr' fun i => forall_congr' fun j => forall_congr' fun hi => forall_congr' fun hj => ?_)
  · rw [other_inS (hp.app_lt hi), other_inS (by rw [← hab]; exact hi)]
    cases a.inS (app l i) <;> cases b.inS i <;> simp
  · rw [other_inR (hp.app_lt hi) (hp.app_lt hj), other_inR (by rw [← hab]; exact hi) (by rw [← hab]; exact hj)]
    cases a.inR (app l i) (app l j) <;> cases b.inR i j <;> simp
theorem isos_turn {a b : St} (hab : a.n = b.n) {l : List Nat} : l ∈ isos a.turn b.turn ↔ l ∈ isos a b := by
  rw [mem_isos_iff, mem_isos_iff]
  show (IsPerm a.n l ∧ (∀ i, i < a.n → a.turn.inS (app l i) = b.turn.inS i) ∧ ∀ i j, i < a.n → j < a.n → a.turn.inR (app l i) (app l j) = b.turn.inR i j) ↔ _
  refine and_congr_right fun hp => ?_
  constructor
  · rintro ⟨h1, h2⟩
    exact ⟨fun i hi => by have := h1 i hi; rwa [turn_inS (hp.app_lt hi), turn_inS (by rw [← hab]; exact hi)] at this,
      fun i j hi hj => by have := h2 j i hj hi; rwa [turn_inR (hp.app_lt hj) (hp.app_lt hi), turn_inR (by rw [← hab]; exact hj) (by rw [← hab]; exact hi)] at this⟩
  · rintro ⟨h1, h2⟩
    exact ⟨fun i hi => by rw [turn_inS (hp.app_lt hi), turn_inS (by rw [← hab]; exact hi)]; exact h1 i hi,
      fun i j hi hj => by rw [turn_inR (hp.app_lt hi) (hp.app_lt hj), turn_inR (by rw [← hab]; exact hi) (by rw [← hab]; exact hj)]; exact h2 j i hj hi⟩
theorem sym_other (a : St) : (isos a.other a.other).length = (isos a a).length := nodup_len_eq (isos_nodup _ _) (isos_nodup _ _) fun _ => isos_other rfl
theorem sym_turn (a : St) : (isos a.turn a.turn).length = (isos a a).length := nodup_len_eq (isos_nodup _ _) (isos_nodup _ _) fun _ => isos_turn rfl
theorem isos_ne_sym {a b : St} (hab : a.n = b.n) : (isos b a).isEmpty = (isos a b).isEmpty := by
  have key : ∀ {a b : St}, a.n = b.n → (isos a b).isEmpty = true → (isos b a).isEmpty = true := fun {a b} hab h => by
    rw [List.isEmpty_iff] at h ⊢
    apply List.eq_nil_iff_forall_not_mem.2
    intro l hl
    have := iso_inv hab.symm hl
    rw [h] at this
    cases this
  rw [Bool.eq_iff_iff]
  exact ⟨key hab.symm, key hab⟩
theorem isos_ne_other {a b : St} (hab : a.n = b.n) : (isos a.other b.other).isEmpty = (isos a b).isEmpty := by
  rw [Bool.eq_iff_iff, List.isEmpty_iff, List.isEmpty_iff, List.eq_nil_iff_forall_not_mem, List.eq_nil_iff_forall_not_mem]
  exact forall_congr' fun l => not_congr (isos_other hab)
theorem sym_pos (a : St) : 0 < (isos a a).length := List.length_pos_of_mem (iso_refl a)

/-- orbits -/
theorem orb_self {n : Nat} {G : List (List Nat)} (hG : Grp n G) {x : Nat} (hx : x < n) : x ∈ orbL n G x := (mem_orbL hG hx).2 ⟨_, hG.one, app_range hx⟩

theorem orb_sub {n : Nat} {G : List (List Nat)} (hG : Grp n G) {x y : Nat} (hx : x < n) (hy : y ∈ orbL n G x) {z : Nat} (hz : z ∈ orbL n G y) : z ∈ orbL n G x := by
  obtain ⟨l, hl, rfl⟩ := (mem_orbL hG hx).1 hy
  have hyn := (hG.perm l hl).app_lt hx
  obtain ⟨m, hm, rfl⟩ := (mem_orbL hG hyn).1 hz
  exact (mem_orbL hG hx).2 ⟨_, hG.comp m hm l hl, app_comp (by rw [(hG.perm l hl).len]; exact hx)⟩
theorem orb_sym {n : Nat} {G : List (List Nat)} (hG : Grp n G) {x y : Nat} (hx : x < n) (hy : y ∈ orbL n G x) : x ∈ orbL n G y := by
  obtain ⟨l, hl, rfl⟩ := (mem_orbL hG hx).1 hy
  exact (mem_orbL hG ((hG.perm l hl).app_lt hx)).2 ⟨_, hG.inv l hl, inv_app (hG.perm l hl) hx⟩
theorem orb_lt {n : Nat} {G : List (List Nat)} {x y : Nat} (hy : y ∈ orbL n G x) : y < n := List.mem_range.1 (List.mem_filter.1 hy).1
theorem orb_ext {n : Nat} {G : List (List Nat)} {x y : Nat} (h : ∀ z, z ∈ orbL n G x ↔ z ∈ orbL n G y) : orbL n G x = orbL n G y := by
  unfold orbL
  apply List.filter_congr
  intro z hz
  have h1 := h z
  unfold orbL at h1
  rw [List.mem_filter, List.mem_filter] at h1
  rw [Bool.eq_iff_iff]
  exact ⟨fun e => (h1.1 ⟨hz, e⟩).2, fun e => (h1.2 ⟨hz, e⟩).2⟩
/-- an element is in an orbit exactly if it has the same -/
theorem orb_iff {n : Nat} {G : List (List Nat)} (hG : Grp n G) {x y : Nat} (hx : x < n) (hy : y < n) : y ∈ orbL n G x ↔ orbL n G y = orbL n G x := by
  constructor
  · intro h
    exact orb_ext fun z => ⟨fun hz => orb_sub hG hx h hz, fun hz => orb_sub hG hy (orb_sym hG hx h) hz⟩
  · intro h
    rw [← h]
    exact orb_self hG hy
theorem orb_inS {a : St} {x y : Nat} (hx : x < a.n) (hy : y ∈ orbL a.n (isos a a) x) : a.inS y = a.inS x := by
  obtain ⟨l, hl, rfl⟩ := (mem_orbL (aut_grp a) hx).1 hy
  exact (mem_isos_iff.1 hl).2.1 x hx
theorem orb_pos {n : Nat} {G : List (List Nat)} (hG : Grp n G) {x : Nat} (hx : x < n) : 0 < (orbL n G x).length := List.length_pos_of_mem (orb_self hG hx)

/-- every second number below a number -/
def half (n : Nat) : List Nat := (List.range ((n + 1) / 2)).map fun i => 2 * i
def halfTo (k : Nat) : List Nat := (List.range k).map fun i => 2 * i
theorem halfTo_succ (k : Nat) : halfTo (k + 1) = halfTo k ++ [2 * k] := by unfold halfTo; rw [List.range_succ, List.map_append]; rfl
theorem halfTo_len (k : Nat) : (halfTo k).length = k := by simp [halfTo]
theorem halfTo_lt {k n : Nat} (h : 2 * k ≤ n + 1) : ∀ x ∈ halfTo k, x < n := by
  intro x hx
  obtain ⟨i, hi, rfl⟩ := List.mem_map.1 hx
  have := List.mem_range.1 hi
  omega
theorem halfTo_nodup (k : Nat) : (halfTo k).Nodup := map_nodup _ List.nodup_range fun x _ y _ e => by omega
theorem comp_halfTo_succ (l : List Nat) (k : Nat) : comp l (halfTo (k + 1)) = comp l (halfTo k) ++ [app l (2 * k)] := by unfold comp; rw [halfTo_succ, List.map_append]; rfl
theorem comp_lt {n : Nat} {l m : List Nat} (hl : ∀ x ∈ l, x < n) (hm : ∀ x ∈ m, x < l.length) : ∀ x ∈ comp l m, x < n := by
  intro x hx
  obtain ⟨i, hi, rfl⟩ := List.mem_map.1 hx
  exact hl _ (app_mem (hm i hi))
theorem app_inj_nodup {l : List Nat} (h : l.Nodup) {x y : Nat} (hx : x < l.length) (hy : y < l.length) (e : app l x = app l y) : x = y := by
  unfold app at e
  simp only [List.getD_eq_getElem?_getD, List.getElem?_eq_getElem hx, List.getElem?_eq_getElem hy, Option.getD_some] at e
  have hp := List.pairwise_iff_getElem.1 h
  rcases Nat.lt_trichotomy x y with hlt | heq | hlt
  · exact absurd e (hp x y hx hy hlt)
  · exact heq
  · exact absurd e.symm (hp y x hy hx hlt)
theorem comp_nodup {l m : List Nat} (hl : l.Nodup) (hm : m.Nodup) (hlt : ∀ x ∈ m, x < l.length) : (comp l m).Nodup :=
  map_nodup _ hm fun x hx y hy e => app_inj_nodup hl (hlt x hx) (hlt y hy) e

/-- the order that undoes another one, filled from the left -/
def backTo (l : List Nat) (n k : Nat) : List Nat := (List.range n).map fun y => if l.idxOf y < k then l.idxOf y else 0
theorem backTo_zero (l : List Nat) (n : Nat) : backTo l n 0 = List.replicate n 0 := by
  unfold backTo
  apply List.ext_getElem (by simp)
  intro i h1 h2
  simp
theorem backTo_len (l : List Nat) (n k : Nat) : (backTo l n k).length = n := by simp [backTo]
theorem backTo_succ {l : List Nat} {n k : Nat} (h : IsPerm n l) (hk : k < n) : backTo l n (k + 1) = (backTo l n k).set (app l k) k := by
  apply List.ext_getElem (by simp [backTo])
  intro i h1 h2
  simp only [backTo, List.length_map, List.length_range] at h1
  have hkl : k < l.length := by rw [h.len]; exact hk
  have hal : app l k = l[k] := by simp [app, List.getD, hkl]
  rw [List.getElem_set]
  by_cases e : app l k = i
  · rw [if_pos e]
    have hi : l.idxOf i = k := by
      rw [← e, hal]
      exact h.nodup.idxOf_getElem k hkl
    simp [backTo, hi]
  · rw [if_neg e]
    have hne : l.idxOf i ≠ k := fun h3 => e (by
      have h4 := (app_idx (h.mem h1)).2
      rw [h3] at h4
      exact h4)
    simp only [backTo, List.getElem_map, List.getElem_range]
    by_cases hlt : l.idxOf i < k
    · rw [if_pos hlt, if_pos (by omega)]
    · rw [if_neg hlt, if_neg (by omega)]
theorem backTo_all {l : List Nat} {n : Nat} (h : IsPerm n l) : backTo l n n = inv l := by
  unfold backTo inv
  rw [h.len]
  apply List.map_congr_left
  intro y hy
  rw [if_pos (by have := (app_idx (h.mem (List.mem_range.1 hy))).1; rwa [h.len] at this)]

end Pl
end Go.Proofs.YtpaleogkgfclnaaGreatDoor

namespace Go.Proofs.YtpaleogkgfclnaaGreatDoor
open Go.RowKit
open Pl
set_option linter.unusedSimpArgs false
set_option linter.unusedVariables false

/-- the variable with a number -/
def vf (i : Nat) : Fin 4 := ⟨i % 4, Nat.mod_lt _ (by decide)⟩
theorem vf_val {i : Nat} (h : i < 4) : (vf i).val = i := Nat.mod_eq_of_lt h
theorem vf_inj {i j : Nat} (hi : i < 4) (hj : j < 4) (h : vf i = vf j) : i = j := by
  have := congrArg Fin.val h
  rwa [vf_val hi, vf_val hj] at this
theorem vf_fin (v : Fin 4) : vf v.val = v := Fin.ext (vf_val v.isLt)
/-- a fact as it is true or not -/
def sgn (b : Bool) (f : Fm) : Fm := if b then f else .neg f
theorem sgn_holds (b : Bool) (f : Fm) (a : St) (e : Env) : (sgn b f).holds a e = (f.holds a e == b) := by
  cases b with
  | true => show f.holds a e = _; cases f.holds a e <;> rfl
  | false => show (!(f.holds a e)) = _; cases f.holds a e <;> rfl
def conF : List Fm → Fm
  | [] => .tru
  | [f] => f
  | f :: g :: r => .con f (conF (g :: r))
def disF : List Fm → Fm
  | [] => .fls
  | [f] => f
  | f :: g :: r => .dis f (disF (g :: r))
theorem conF_holds (a : St) (e : Env) : ∀ L : List Fm, (conF L).holds a e = L.all fun f => f.holds a e := by
  intro L
  induction L with
  | nil => rfl
  | cons f L ih =>
    cases L with
    | nil => simp [conF]
    | cons g r => show (f.holds a e && (conF (g :: r)).holds a e) = _; rw [ih]; rfl
theorem disF_holds (a : St) (e : Env) : ∀ L : List Fm, (disF L).holds a e = L.any fun f => f.holds a e := by
  intro L
  induction L with
  | nil => rfl
  | cons f L ih =>
    cases L with
    | nil => simp [disF]
    | cons g r => show (f.holds a e || (disF (g :: r)).holds a e) = _; rw [ih]; rfl
/-- the facts of an element and those before it -/
def factsAt (S : Nat → Bool) (R Q : Nat → Nat → Bool) (i : Nat) : List Fm :=
  [sgn (S i) (.pr (vf i)), sgn (R i i) (.rel (vf i) (vf i))] ++ (List.range i).flatMap fun k => [sgn (Q i k) (.eq (vf k) (vf i)), sgn (R k i) (.rel (vf k) (vf i)), sgn (R i k) (.rel (vf i) (vf k))]
def factsTo (S : Nat → Bool) (R Q : Nat → Nat → Bool) (n : Nat) : List Fm := (List.range n).flatMap (factsAt S R Q)
theorem facts_at (S : Nat → Bool) (R Q : Nat → Nat → Bool) (i : Nat) (b : St) (e : Env) : ((factsAt S R Q i).all fun f => f.holds b e) = true ↔
    (b.inS (e (vf i)) = S i ∧ b.inR (e (vf i)) (e (vf i)) = R i i) ∧ ∀ k, k < i → (e (vf k) == e (vf i)) = Q i k ∧ b.inR (e (vf k)) (e (vf i)) = R k i ∧ b.inR (e (vf i)) (e (vf k)) = R i k := by
  unfold factsAt
  simp only [List.all_append, List.all_cons, List.all_nil, List.all_flatMap, sgn_holds, Fm.holds, Bool.and_eq_true, List.all_eq_true, List.mem_range, beq_iff_eq, Bool.and_true]
theorem facts_to (S : Nat → Bool) (R Q : Nat → Nat → Bool) (n : Nat) (b : St) (e : Env) : ((factsTo S R Q n).all fun f => f.holds b e) = true ↔
    (∀ i, i < n → b.inS (e (vf i)) = S i) ∧ (∀ i j, i < n → j < n → b.inR (e (vf i)) (e (vf j)) = R i j) ∧ ∀ i k, i < n → k < i → (e (vf k) == e (vf i)) = Q i k := by
  unfold factsTo
  rw [List.all_flatMap, List.all_eq_true]
  simp only [List.mem_range, facts_at]
  constructor
  · intro h
    refine ⟨fun i hi => (h i hi).1.1, fun i j hi hj => ?_, fun i k hi hk => ((h i hi).2 k hk).1⟩
    rcases Nat.lt_trichotomy i j with hlt | rfl | hlt
    · exact ((h j hj).2 i hlt).2.1
    · exact (h i hi).1.2
    · exact ((h i hi).2 j hlt).2.2
  · rintro ⟨h1, h2, h3⟩ i hi
    exact ⟨⟨h1 i hi, h2 i i hi hi⟩, fun k hk => ⟨h3 i k hi hk, h2 k i (by omega) hi, h2 i k hi (by omega)⟩⟩
/-- the description of n elements, and that there are no others -/
def desF (n : Nat) (S : Nat → Bool) (R Q : Nat → Nat → Bool) : Fm :=
  if n = 4 then conF (factsTo S R Q n) else .con (conF (factsTo S R Q n)) (.qu .A (vf n) (disF ((List.range n).map fun i => .eq (vf i) (vf n))))
theorem des_holds {n : Nat} (hn : n ≤ 4) (S : Nat → Bool) (R Q : Nat → Nat → Bool) (b : St) (e : Env) : (desF n S R Q).holds b e = true ↔
    ((factsTo S R Q n).all fun f => f.holds b e) = true ∧ (n < 4 → ∀ z, z < b.n → ∃ i, i < n ∧ e (vf i) = z) := by
  unfold desF
  by_cases h4 : n = 4
  · rw [if_pos h4, conF_holds]
    exact ⟨fun h => ⟨h, fun h2 => by omega⟩, fun h => h.1⟩
  · rw [if_neg h4]
    show ((conF _).holds b e && (Qn.A.says b.n (cnt b.n fun z => (disF _).holds b (upd e (vf n) z)))) = true ↔ _
    rw [conF_holds, Bool.and_eq_true]
    refine and_congr Iff.rfl ?_
    show ((cnt b.n fun z => (disF _).holds b (upd e (vf n) z)) == b.n) = true ↔ _
    rw [beq_iff_eq, cnt_all]
    constructor
    · intro h _ z hz
      have := h z hz
      rw [disF_holds, List.any_eq_true] at this
      obtain ⟨f, hf, hh⟩ := this
      obtain ⟨i, hi, rfl⟩ := List.mem_map.1 hf
      have hi := List.mem_range.1 hi
      refine ⟨i, hi, ?_⟩
      have h2 : (upd e (vf n) z (vf i) == upd e (vf n) z (vf n)) = true := hh
      rwa [upd_same, upd_other (fun e => by have := vf_inj (by omega) (by omega) e; omega), beq_iff_eq] at h2
    · intro h z hz
      obtain ⟨i, hi, rfl⟩ := h (by omega) z hz
      rw [disF_holds, List.any_eq_true]
      refine ⟨_, List.mem_map.2 ⟨i, List.mem_range.2 hi, rfl⟩, ?_⟩
      show (upd e (vf n) _ (vf i) == upd e (vf n) _ (vf n)) = true
      rw [upd_same, upd_other (fun e => by have := vf_inj (by omega) (by omega) e; omega)]
      simp
/-- some elements for k variables from one on -/
def exF : Nat → Nat → Fm → Fm
  | _, 0, q => q
  | j, k + 1, q => .qu .S (vf j) (exF (j + 1) k q)
theorem ex_holds (b : St) (q : Fm) : ∀ (k j : Nat) (e : Env), j + k ≤ 4 → ((exF j k q).holds b e = true ↔
    ∃ e' : Env, (∀ i, i < 4 → i < j ∨ j + k ≤ i → e' (vf i) = e (vf i)) ∧ (∀ i, j ≤ i → i < j + k → e' (vf i) < b.n) ∧ q.holds b e' = true) := by
  intro k
  induction k with
  | zero =>
    intro j e _
    constructor
    · intro h; exact ⟨e, fun _ _ _ => rfl, fun i h1 h2 => by omega, h⟩
    · rintro ⟨e', h1, _, h3⟩
      have : e' = e := by
        funext v
        have := h1 v.val v.isLt (by omega)
        rwa [vf_fin] at this
      rw [← this]; exact h3
  | succ k ih =>
    intro j e hj
    show decide (0 < cnt b.n fun x => (exF (j + 1) k q).holds b (upd e (vf j) x)) = true ↔ _
    rw [decide_eq_true_eq, cnt_pos]
    constructor
    · rintro ⟨x, hx, h⟩
      obtain ⟨e', h1, h2, h3⟩ := (ih (j + 1) _ (by omega)).1 h
      refine ⟨e', fun i hi ho => ?_, fun i hi hi2 => ?_, h3⟩
      · rw [h1 i hi (by omega), upd_other (fun e => by have := vf_inj hi (by omega) e; omega)]
      · by_cases hij : i = j
        · subst hij
          rw [h1 i (by omega) (by omega), upd_same]; exact hx
        · exact h2 i (by omega) (by omega)
    · rintro ⟨e', h1, h2, h3⟩
      refine ⟨e' (vf j), h2 j (Nat.le_refl _) (by omega), (ih (j + 1) _ (by omega)).2 ⟨e', fun i hi ho => ?_, fun i hi hi2 => h2 i (by omega) (by omega), h3⟩⟩
      by_cases hij : i = j
      · subst hij; rw [upd_same]
      · rw [upd_other (fun e => by have := vf_inj hi (by omega) e; exact hij this)]
        exact h1 i hi (by omega)
def noQ : Nat → Nat → Bool := fun _ _ => false
/-- the list of the elements that the variables have -/
def envTo (e : Env) (n : Nat) : List Nat := (List.range n).map fun i => e (vf i)
theorem envTo_app (e : Env) {n i : Nat} (h : i < n) : app (envTo e n) i = e (vf i) := by
  unfold app envTo
  rw [List.getD_eq_getElem?_getD, List.getElem?_map, List.getElem?_range h]
  rfl
/-- the description of a structure is true exactly for the orders that turn the other one into it -/
theorem des_iso {b c : St} (hn4 : c.n ≤ 4) (e : Env) (he : ∀ i, i < c.n → e (vf i) < b.n) (hl : c.n < 4 ∨ b.n = c.n) :
    (desF c.n c.inS c.inR noQ).holds b e = true ↔ b.n = c.n ∧ envTo e c.n ∈ isos b c := by
  rw [des_holds hn4, facts_to]
  constructor
  · rintro ⟨⟨h1, h2, h3⟩, h4⟩
    have hnd : (envTo e c.n).Nodup := nodup_of_inj (n := c.n) (by simp [envTo]) fun x y hx hy hxy => by
      rw [envTo_app e hx, envTo_app e hy] at hxy
      rcases Nat.lt_trichotomy x y with hlt | rfl | hlt
      · have := h3 y x hy hlt; rw [hxy] at this; simp [noQ] at this
      · rfl
      · have := h3 x y hx hlt; rw [hxy] at this; simp [noQ] at this
    have hlt : ∀ z ∈ envTo e c.n, z < b.n := fun z hz => by
      obtain ⟨i, hi, rfl⟩ := List.mem_map.1 hz
      exact he i (List.mem_range.1 hi)
    have hle : c.n ≤ b.n := by
      have := nodup_len_le (envTo e c.n) (List.range b.n) hnd fun z hz => List.mem_range.2 (hlt z hz)
      simpa [envTo] using this
    have hge : b.n ≤ c.n := by
      rcases hl with h | h
      · have := nodup_len_le (List.range b.n) (envTo e c.n) List.nodup_range fun z hz => by
          obtain ⟨i, hi, rfl⟩ := h4 h z (List.mem_range.1 hz)
          exact List.mem_map.2 ⟨i, List.mem_range.2 hi, rfl⟩
        simpa [envTo] using this
      · omega
    have hbc : b.n = c.n := by omega
    refine ⟨hbc, mem_isos_iff.2 ⟨⟨by simp [envTo, hbc], hnd, hlt⟩, fun i hi => ?_, fun i j hi hj => ?_⟩⟩
    · rw [envTo_app e (by omega)]; exact h1 i (by omega)
    · rw [envTo_app e (by omega), envTo_app e (by omega)]; exact h2 i j (by omega) (by omega)
  · rintro ⟨hbc, hm⟩
    obtain ⟨hp, h1, h2⟩ := mem_isos_iff.1 hm
    refine ⟨⟨fun i hi => ?_, fun i j hi hj => ?_, fun i k hi hk => ?_⟩, fun _ z hz => ?_⟩
    · have := h1 i (by omega); rwa [envTo_app e hi] at this
    · have := h2 i j (by omega) (by omega); rwa [envTo_app e hi, envTo_app e hj] at this
    · show _ = false
      rw [beq_eq_false_iff_ne]
      intro heq
      have := hp.inj (x := k) (y := i) (by omega) (by omega) (by rw [envTo_app e (by omega), envTo_app e hi, heq])
      omega
    · obtain ⟨i, hi, hh⟩ := List.mem_map.1 (hp.mem hz)
      exact ⟨i, List.mem_range.1 hi, hh⟩
/-- elements for the variables out of an order -/
def envOf (l : List Nat) : Env := fun v => app l v.val
theorem envOf_to {l : List Nat} {n : Nat} (hl : l.length = n) (hn : n ≤ 4) : envTo (envOf l) n = l := by
  refine app_ext (n := n) (by simp [envTo]) hl fun x hx => ?_
  rw [envTo_app _ hx]
  unfold envOf
  rw [vf_val (by omega)]
/-- the description of a structure -/
def dstF (a : St) : Fm := exF 0 a.n (desF a.n a.inS a.inR noQ)
theorem dst_holds {a b : St} (h3 : a.n ≤ 3) (e : Env) : (dstF a).holds b e = true ↔ b.n = a.n ∧ ∃ m, m ∈ isos b a := by
  unfold dstF
  rw [ex_holds b _ a.n 0 e (by omega)]
  constructor
  · rintro ⟨e', _, h2, h4⟩
    obtain ⟨h5, h6⟩ := (des_iso (by omega) e' (fun i hi => h2 i (Nat.zero_le _) (by omega)) (.inl (by omega))).1 h4
    exact ⟨h5, _, h6⟩
  · rintro ⟨hn, m, hm⟩
    have hp := iso_perm hm
    have e1 : envTo (envOf m) a.n = m := envOf_to (by rw [hp.len, hn]) (by omega)
    refine ⟨fun v => if v.val < a.n then envOf m v else e v, fun i hi ho => ?_, fun i _ hi => ?_, ?_⟩
    · have : ¬ (vf i).val < a.n := by rw [vf_val hi]; omega
      show (if (vf i).val < a.n then _ else _) = _
      rw [if_neg this]
    · show (if (vf i).val < a.n then _ else _) < _
      rw [if_pos (by rw [vf_val (by omega)]; omega)]
      unfold envOf
      rw [vf_val (by omega)]
      exact hp.app_lt (by omega)
    · have e2 : envTo (fun v => if v.val < a.n then envOf m v else e v) a.n = m := by
        refine app_ext (n := a.n) (by simp [envTo]) (by rw [hp.len, hn]) fun x hx => ?_
        rw [envTo_app _ hx]
        show (if (vf x).val < a.n then _ else _) = _
        rw [if_pos (by rw [vf_val (by omega)]; omega)]
        unfold envOf
        rw [vf_val (by omega)]
      refine (des_iso (by omega) _ (fun i hi => ?_) (.inl (by omega))).2 ⟨hn, by rw [e2]; exact hm⟩
      show (if (vf i).val < a.n then _ else _) < _
      rw [if_pos (by rw [vf_val (by omega)]; omega)]
      unfold envOf
      rw [vf_val (by omega)]
      exact hp.app_lt (by omega)
/-- the description of an element of the order's structure -/
def delF (c : St) : Fm := exF 1 (c.n - 1) (desF c.n c.inS c.inR noQ)
theorem del_holds {b c : St} (h1 : 1 ≤ c.n) (h4 : c.n ≤ 4) (hl : c.n < 4 ∨ b.n = c.n) (e : Env) (he : e 0 < b.n) : (delF c).holds b e = true ↔ b.n = c.n ∧ ∃ m, m ∈ isos b c ∧ app m 0 = e 0 := by
  unfold delF
  rw [ex_holds b _ (c.n - 1) 1 e (by omega)]
  have v0 : vf 0 = 0 := rfl
  constructor
  · rintro ⟨e', h1', h2, h5⟩
    have h0 := h1' 0 (by omega) (.inl (by omega))
    rw [v0] at h0
    have hlt : ∀ i, i < c.n → e' (vf i) < b.n := fun i hi => by
      by_cases hi0 : i = 0
      · subst hi0; rw [v0, h0]; exact he
      · exact h2 i (by omega) (by omega)
    obtain ⟨h5, h6⟩ := (des_iso h4 e' hlt hl).1 h5
    exact ⟨h5, _, h6, by rw [envTo_app _ (by omega), v0, h0]⟩
  · rintro ⟨hn, m, hm, hm0⟩
    have hp := iso_perm hm
    have e1 : envTo (envOf m) c.n = m := envOf_to (by rw [hp.len, hn]) (by omega)
    have ee : ∀ i, i < c.n → (if (vf i).val < c.n then envOf m (vf i) else e (vf i)) = app m i := fun i hi => by
      rw [if_pos (by rw [vf_val (by omega)]; omega)]
      unfold envOf
      rw [vf_val (by omega)]
    refine ⟨fun v => if v.val < c.n then envOf m v else e v, fun i hi ho => ?_, fun i _ hi => ?_, ?_⟩
    · by_cases hi0 : i = 0
      · subst hi0
        show (if (vf 0).val < c.n then _ else _) = _
        rw [ee 0 (by omega), v0, hm0]
      · have : ¬ (vf i).val < c.n := by rw [vf_val hi]; omega
        show (if (vf i).val < c.n then _ else _) = _
        rw [if_neg this]
    · show (if (vf i).val < c.n then _ else _) < _
      rw [ee i (by omega)]
      exact hp.app_lt (by omega)
    · have e2 : envTo (fun v => if v.val < c.n then envOf m v else e v) c.n = m := by
        refine app_ext (n := c.n) (by simp [envTo]) (by rw [hp.len, hn]) fun x hx => ?_
        rw [envTo_app _ hx]
        exact ee x hx
      refine (des_iso h4 _ (fun i hi => ?_) hl).2 ⟨hn, by rw [e2]; exact hm⟩
      show (if (vf i).val < c.n then _ else _) < _
      rw [ee i hi]
      exact hp.app_lt (by omega)
/-- the description of an element is true exactly for its orbit -/
theorem del_orbit {a : St} {x y : Nat} (hx : x < a.n) (hy : y < a.n) (h4 : a.n ≤ 4) (e : Env) (he : e 0 = y) : (delF (a.part (frontL a.n x))).holds a e = true ↔ y ∈ orbL a.n (isos a a) x := by
  have hm := front_perm hx
  have hmi := part_iso (a := a) hm
  have hcn : (a.part (frontL a.n x)).n = a.n := hm.len
  have hm0 : app (frontL a.n x) 0 = x := rfl
  rw [del_holds (by rw [hcn]; omega) (by rw [hcn]; exact h4) (.inr hcn.symm) e (by rw [he]; exact hy), mem_orbL (aut_grp a) hx, he]
  constructor
  · rintro ⟨_, m, hm1, h0⟩
    have hinv := iso_inv hcn.symm hmi
    refine ⟨comp m (inv (frontL a.n x)), iso_comp hcn.symm hm1 hinv, ?_⟩
    rw [app_comp (by rw [len_inv, hm.len]; exact hx)]
    have := inv_app hm (x := 0) (by omega)
    rw [hm0] at this
    rw [this, h0]
  · rintro ⟨l, hl, h0⟩
    refine ⟨hcn.symm, comp l (frontL a.n x), iso_comp rfl hl hmi, ?_⟩
    rw [app_comp (by rw [hm.len]; omega), hm0, h0]
theorem del_shape {a b : St} {x : Nat} (hx : x < a.n) (h4 : a.n < 4) (e : Env) (he : e 0 < b.n) (h : (delF (a.part (frontL a.n x))).holds b e = true) : b.n = a.n ∧ ∃ m, m ∈ isos a b := by
  have hm := front_perm hx
  have hmi := part_iso (a := a) hm
  have hcn : (a.part (frontL a.n x)).n = a.n := hm.len
  obtain ⟨hn, m, hm1, _⟩ := (del_holds (by rw [hcn]; omega) (by rw [hcn]; omega) (.inl (by omega)) e he).1 h
  rw [hcn] at hn
  refine ⟨hn, _, iso_comp hcn.symm hmi (iso_inv (by rw [hcn]; exact hn) hm1)⟩
/-! what is free, the rank, no counting -/
theorem sgn_free (b : Bool) (f : Fm) : (sgn b f).freeBits = f.freeBits := by cases b <;> rfl
theorem sgn_rank (b : Bool) (f : Fm) : (sgn b f).rank = f.rank := by cases b <;> rfl
theorem sgn_counts (b : Bool) (f : Fm) : (sgn b f).counts = f.counts := by cases b <;> rfl
theorem conF_free (u : Fin 4) : ∀ L : List Fm, (conF L).isFree u ↔ ∃ f ∈ L, f.isFree u := by
  intro L
  induction L with
  | nil => simp [conF, Fm.isFree, Fm.freeBits]
  | cons f L ih =>
    cases L with
    | nil => simp [conF]
    | cons g r =>
      have : (conF (f :: g :: r)).isFree u ↔ f.isFree u ∨ (conF (g :: r)).isFree u := by
        simp only [conF, Fm.isFree, Fm.freeBits, Nat.testBit_or, Bool.or_eq_true]
      rw [this, ih]
      simp
theorem disF_free (u : Fin 4) : ∀ L : List Fm, (disF L).isFree u ↔ ∃ f ∈ L, f.isFree u := by
  intro L
  induction L with
  | nil => simp [disF, Fm.isFree, Fm.freeBits]
  | cons f L ih =>
    cases L with
    | nil => simp [disF]
    | cons g r =>
      have : (disF (f :: g :: r)).isFree u ↔ f.isFree u ∨ (disF (g :: r)).isFree u := by
        simp only [disF, Fm.isFree, Fm.freeBits, Nat.testBit_or, Bool.or_eq_true]
      rw [this, ih]
      simp
theorem conF_rank : ∀ L : List Fm, (∀ f ∈ L, f.rank = 0) → (conF L).rank = 0 := by
  intro L
  induction L with
  | nil => intro _; rfl
  | cons f L ih =>
    intro h
    cases L with
    | nil => exact h f (by simp)
    | cons g r => show max f.rank (conF (g :: r)).rank = 0; rw [ih (fun x hx => h x (List.mem_cons_of_mem _ hx)), h f (by simp)]; rfl
theorem disF_rank : ∀ L : List Fm, (∀ f ∈ L, f.rank = 0) → (disF L).rank = 0 := by
  intro L
  induction L with
  | nil => intro _; rfl
  | cons f L ih =>
    intro h
    cases L with
    | nil => exact h f (by simp)
    | cons g r => show max f.rank (disF (g :: r)).rank = 0; rw [ih (fun x hx => h x (List.mem_cons_of_mem _ hx)), h f (by simp)]; rfl
theorem conF_counts : ∀ L : List Fm, (∀ f ∈ L, f.counts = false) → (conF L).counts = false := by
  intro L
  induction L with
  | nil => intro _; rfl
  | cons f L ih =>
    intro h
    cases L with
    | nil => exact h f (by simp)
    | cons g r => show (f.counts || (conF (g :: r)).counts) = false; rw [ih (fun x hx => h x (List.mem_cons_of_mem _ hx)), h f (by simp)]; rfl
theorem disF_counts : ∀ L : List Fm, (∀ f ∈ L, f.counts = false) → (disF L).counts = false := by
  intro L
  induction L with
  | nil => intro _; rfl
  | cons f L ih =>
    intro h
    cases L with
    | nil => exact h f (by simp)
    | cons g r => show (f.counts || (disF (g :: r)).counts) = false; rw [ih (fun x hx => h x (List.mem_cons_of_mem _ hx)), h f (by simp)]; rfl
theorem facts_mem {S : Nat → Bool} {R Q : Nat → Nat → Bool} {n : Nat} {f : Fm} (h : f ∈ factsTo S R Q n) : ∃ b q, f = sgn b q ∧ ((∃ i, i < n ∧ q = .pr (vf i)) ∨ (∃ i j, i < n ∧ j < n ∧ q = .rel (vf i) (vf j)) ∨ (∃ i j, i < n ∧ j < n ∧ q = .eq (vf i) (vf j))) := by
  unfold factsTo at h
  obtain ⟨i, hi, hf⟩ := List.mem_flatMap.1 h
  have hi := List.mem_range.1 hi
  unfold factsAt at hf
  simp only [List.mem_append, List.mem_cons, List.not_mem_nil, or_false, List.mem_flatMap, List.mem_range] at hf
  rcases hf with (rfl | rfl) | ⟨k, hk, rfl | rfl | rfl⟩
  · exact ⟨_, _, rfl, .inl ⟨i, hi, rfl⟩⟩
  · exact ⟨_, _, rfl, .inr (.inl ⟨i, i, hi, hi, rfl⟩)⟩
  · exact ⟨_, _, rfl, .inr (.inr ⟨k, i, by omega, hi, rfl⟩)⟩
  · exact ⟨_, _, rfl, .inr (.inl ⟨k, i, by omega, hi, rfl⟩)⟩
  · exact ⟨_, _, rfl, .inr (.inl ⟨i, k, hi, by omega, rfl⟩)⟩
theorem facts_plain {S : Nat → Bool} {R Q : Nat → Nat → Bool} {n : Nat} {f : Fm} (h : f ∈ factsTo S R Q n) : f.rank = 0 ∧ f.counts = false ∧ (n ≤ 4 → ∀ u, f.isFree u → u.val < n) := by
  obtain ⟨b, q, rfl, ⟨i, hi, rfl⟩ | ⟨i, j, hi, hj, rfl⟩ | ⟨i, j, hi, hj, rfl⟩⟩ := facts_mem h
  · refine ⟨by rw [sgn_rank]; rfl, by rw [sgn_counts]; rfl, fun h4 u hu => ?_⟩
    unfold Fm.isFree at hu
    rw [sgn_free] at hu
    simp only [Fm.freeBits, bit_test, decide_eq_true_eq] at hu
    rw [← hu, vf_val (by omega)]; exact hi
  · refine ⟨by rw [sgn_rank]; rfl, by rw [sgn_counts]; rfl, fun h4 u hu => ?_⟩
    unfold Fm.isFree at hu
    rw [sgn_free] at hu
    simp only [Fm.freeBits, Nat.testBit_or, bit_test, Bool.or_eq_true, decide_eq_true_eq] at hu
    rcases hu with hu | hu
    · rw [← hu, vf_val (by omega)]; exact hi
    · rw [← hu, vf_val (by omega)]; exact hj
  · refine ⟨by rw [sgn_rank]; rfl, by rw [sgn_counts]; rfl, fun h4 u hu => ?_⟩
    unfold Fm.isFree at hu
    rw [sgn_free] at hu
    simp only [Fm.freeBits, Nat.testBit_or, bit_test, Bool.or_eq_true, decide_eq_true_eq] at hu
    rcases hu with hu | hu
    · rw [← hu, vf_val (by omega)]; exact hi
    · rw [← hu, vf_val (by omega)]; exact hj
theorem eqs_plain {n : Nat} {f : Fm} (h : f ∈ (List.range n).map fun i => Fm.eq (vf i) (vf n)) : f.rank = 0 ∧ f.counts = false ∧ (n < 4 → ∀ u, f.isFree u → u.val ≤ n) := by
  obtain ⟨i, hi, rfl⟩ := List.mem_map.1 h
  have hi := List.mem_range.1 hi
  refine ⟨rfl, rfl, fun h4 u hu => ?_⟩
  unfold Fm.isFree at hu
  simp only [Fm.freeBits, Nat.testBit_or, bit_test, Bool.or_eq_true, decide_eq_true_eq] at hu
  rcases hu with hu | hu
  · rw [← hu, vf_val (by omega)]; omega
  · rw [← hu, vf_val (by omega)]; omega
theorem des_facts {n : Nat} (h1 : 1 ≤ n) (h4 : n ≤ 4) (S : Nat → Bool) (R Q : Nat → Nat → Bool) : (desF n S R Q).rank = (if n = 4 then 0 else 1) ∧ (desF n S R Q).counts = false ∧ (∀ u, (desF n S R Q).isFree u → u.val < n) ∧ (desF n S R Q).isFree 0 := by
  have hc := fun (f : Fm) (h : f ∈ factsTo S R Q n) => facts_plain h
  have hcr := conF_rank _ fun f hf => (hc f hf).1
  have hcc := conF_counts _ fun f hf => (hc f hf).2.1
  have hcf : ∀ u, (conF (factsTo S R Q n)).isFree u → u.val < n := fun u hu => by
    obtain ⟨f, hf, hfu⟩ := (conF_free u _).1 hu
    exact (hc f hf).2.2 h4 u hfu
  have hc0 : (conF (factsTo S R Q n)).isFree 0 := by
    refine (conF_free 0 _).2 ⟨sgn (S 0) (.pr (vf 0)), ?_, ?_⟩
    · unfold factsTo
      exact List.mem_flatMap.2 ⟨0, List.mem_range.2 (by omega), by simp [factsAt]⟩
    · unfold Fm.isFree
      rw [sgn_free]
      decide
  unfold desF
  by_cases hn : n = 4
  · rw [if_pos hn, if_pos hn]
    exact ⟨hcr, hcc, hcf, hc0⟩
  · rw [if_neg hn, if_neg hn]
    have hd := fun (f : Fm) (h : f ∈ (List.range n).map fun i => Fm.eq (vf i) (vf n)) => eqs_plain h
    have hdr := disF_rank _ fun f hf => (hd f hf).1
    have hdc := disF_counts _ fun f hf => (hd f hf).2.1
    refine ⟨?_, ?_, fun u hu => ?_, ?_⟩
    · show max _ (_ + 1) = 1
      rw [hcr, hdr]; rfl
    · show (_ || (isCoB (Qn.A.b) || _)) = false
      rw [hcc, hdc]; rfl
    · have hu2 : (conF (factsTo S R Q n)).isFree u ∨ (Fm.qu .A (vf n) (disF ((List.range n).map fun i => .eq (vf i) (vf n)))).isFree u := by
        unfold Fm.isFree at hu ⊢
        simpa only [Fm.freeBits, Nat.testBit_or, Bool.or_eq_true] using hu
      rcases hu2 with h | h
      · exact hcf u h
      · obtain ⟨h5, h6⟩ := (free_qu _ _ _ _).1 h
        obtain ⟨f, hf, hfu⟩ := (disF_free u _).1 h5
        have h7 := (hd f hf).2.2 (by omega) u hfu
        have h8 : u.val ≠ n := fun e => h6 (by rw [← vf_fin u, e])
        omega
    · have hu2 : ∀ u, (conF (factsTo S R Q n)).isFree u → (Fm.con (conF (factsTo S R Q n)) (.qu .A (vf n) (disF ((List.range n).map fun i => .eq (vf i) (vf n))))).isFree u := fun u h => by
        unfold Fm.isFree at h ⊢
        simp only [Fm.freeBits, Nat.testBit_or, Bool.or_eq_true]
        exact .inl h
      exact hu2 0 hc0
theorem ex_facts (q : Fm) : ∀ (k j : Nat), j + k ≤ 4 → (exF j k q).rank = q.rank + k ∧ (exF j k q).counts = q.counts ∧ ∀ u : Fin 4, (exF j k q).isFree u ↔ q.isFree u ∧ (u.val < j ∨ j + k ≤ u.val) := by
  intro k
  induction k with
  | zero => intro j _; exact ⟨rfl, rfl, fun u => ⟨fun h => ⟨h, by omega⟩, fun h => h.1⟩⟩
  | succ k ih =>
    intro j hj
    obtain ⟨h1, h2, h3⟩ := ih (j + 1) (by omega)
    refine ⟨?_, ?_, fun u => ?_⟩
    · show (exF (j + 1) k q).rank + 1 = _
      rw [h1]; omega
    · show (isCoB (Qn.S.b) || (exF (j + 1) k q).counts) = _
      rw [h2]; rfl
    · show (Fm.qu .S (vf j) (exF (j + 1) k q)).isFree u ↔ _
      rw [free_qu, h3]
      constructor
      · rintro ⟨⟨h4, h5⟩, h6⟩
        have : u.val ≠ j := fun e => h6 (by rw [← vf_fin u, e])
        exact ⟨h4, by omega⟩
      · rintro ⟨h4, h5⟩
        exact ⟨⟨h4, by omega⟩, fun e => by rw [e, vf_val (by omega)] at h5; omega⟩
theorem bits_ext {m k : Nat} (hm : m < 16) (hk : k < 16) (h : ∀ u : Fin 4, m.testBit u.val = k.testBit u.val) : m = k := by
  have : ∀ m k : Fin 16, (∀ u : Fin 4, m.val.testBit u.val = k.val.testBit u.val) → m = k := by decide +kernel
  exact congrArg Fin.val (this ⟨m, hm⟩ ⟨k, hk⟩ h)
theorem dst_facts {a : St} (h1 : 1 ≤ a.n) (h3 : a.n ≤ 3) : (dstF a).rank = a.n + 1 ∧ (dstF a).counts = false ∧ (dstF a).freeBits = 0 := by
  obtain ⟨d1, d2, d3, _⟩ := des_facts h1 (by omega) a.inS a.inR noQ
  obtain ⟨e1, e2, e3⟩ := ex_facts (desF a.n a.inS a.inR noQ) a.n 0 (by omega)
  refine ⟨?_, ?_, bits_ext (freeBits_lt _) (by decide) fun u => ?_⟩
  · unfold dstF; rw [e1, d1, if_neg (by omega)]; omega
  · unfold dstF; rw [e2, d2]
  · rw [Nat.zero_testBit]
    cases h : (dstF a).freeBits.testBit u.val with
    | false => rfl
    | true =>
      have := (e3 u).1 h
      have := d3 u this.1
      omega
theorem del_facts {c : St} (h1 : 1 ≤ c.n) (h4 : c.n ≤ 4) : (delF c).freeBits = 1 := by
  obtain ⟨_, _, d3, d4⟩ := des_facts h1 h4 c.inS c.inR noQ
  obtain ⟨_, _, e3⟩ := ex_facts (desF c.n c.inS c.inR noQ) (c.n - 1) 1 (by omega)
  refine bits_ext (freeBits_lt _) (by decide) fun u => ?_
  rw [Bool.eq_iff_iff]
  have h5 := e3 u
  have h6 : (delF c).freeBits.testBit u.val = true ↔ u.val = 0 := by
    refine h5.trans ⟨fun h => ?_, fun h => ?_⟩
    · have := d3 u h.1; omega
    · have : u = 0 := Fin.ext h
      rw [this]; exact ⟨d4, .inl Nat.zero_lt_one⟩
  rw [h6]
  have h7 : ∀ u : Fin 4, u.val = 0 ↔ Nat.testBit 1 u.val = true := by decide
  exact h7 u
end Go.Proofs.YtpaleogkgfclnaaGreatDoor

namespace Go.Proofs.YtpaleogkgfclnaaGreatDoor
open Go.RowKit
open Pl

theorem parsePart_empty (s : ByteArray) (w : World) (h : s.size = 0) :
    Calls Tryz.prog 65 #[.string s] w (PartPost s w) := by
  have hl : s.data.toList = [] := List.eq_nil_of_length_eq_zero (by rw [← Lib.size_eq]; exact h)
  have hl2 : s.toList = [] := by rw [ByteArray.toList_eq]; exact hl
  have e1 : (s.toList == []) = true := by rw [hl2]; rfl
  have e2 : s.toList.isEmpty = true := by rw [hl2]; rfl
  have Hl := Lib.hid hl
  clear hl hl2 h
  go_enter Tryz.func65, Tryz.ntmps65
  go_wp2_with fail
  go_ret2
  exact ⟨Below.refl _ _, .inl ⟨by rw [Hl.out]; exact parse_nil, s, rfl⟩⟩

set_option maxHeartbeats 1000000 in
set_option maxRecDepth 100000 in
theorem parsePart_calls (n : Nat) : ∀ (s : ByteArray) (w : World), s.size ≤ n → n ≤ 1000000000 →
    Calls Tryz.prog 65 #[.string s] w (PartPost s w) := by
  induction n with
  | zero =>
    intro s w hn _hs
    exact parsePart_empty s w (by omega)
  | succ n ih =>
    intro s w hn hs
    by_cases h0 : 0 < s.size
    · obtain ⟨hne2, hne3⟩ := empty_facts h0
      have Ih := Lib.hid ih
      clear ih
      go_enter Tryz.func65, Tryz.ntmps65
      have hb0 : s.data.toList = s[0] :: s.data.toList.drop 1 := drop_at (k := 0) h0
      have Hb0 := Lib.hid hb0
      clear hb0
      go_upto_block 0 with (fail)
      go_cut [5, 6] (fun v p wx => ∃ nv np : Nat, arity s[0] = some (nv, np) ∧ v = .int .i64 nv ∧ p = .int .i64 np ∧ wx = w.alloc (.cells #[.int .u8 s[0].toNat, .slice none 0 0, .slice none 0 0, .int .i64 0, .int .i64 0] 64))
      case first =>
        go_wp2_with fail
        all_goals first
          | (go_meet
             case rel => first
             | exact ⟨0, 0, ar_of (n := 116) (by assumption) rfl, rfl, rfl, rfl⟩
             | exact ⟨0, 0, ar_of (n := 102) (by assumption) rfl, rfl, rfl, rfl⟩
             | exact ⟨1, 0, ar_of (n := 80) (by assumption) rfl, rfl, rfl, rfl⟩
             | exact ⟨2, 0, ar_of (n := 61) (by assumption) rfl, rfl, rfl, rfl⟩
             | exact ⟨2, 0, ar_of (n := 69) (by assumption) rfl, rfl, rfl, rfl⟩
             | exact ⟨0, 1, ar_of (n := 33) (by assumption) rfl, rfl, rfl, rfl⟩
             | exact ⟨0, 2, ar_of (n := 38) (by assumption) rfl, rfl, rfl, rfl⟩
             | exact ⟨0, 2, ar_of (n := 124) (by assumption) rfl, rfl, rfl, rfl⟩
             | exact ⟨1, 1, ar_of (n := 65) (by assumption) rfl, rfl, rfl, rfl⟩
             | exact ⟨1, 1, ar_of (n := 83) (by assumption) rfl, rfl, rfl, rfl⟩
             | exact ⟨1, 1, ar_of (n := 50) (by assumption) rfl, rfl, rfl, rfl⟩
             | exact ⟨1, 1, ar_of (n := 51) (by assumption) rfl, rfl, rfl, rfl⟩
             | exact ⟨1, 1, ar_of (n := 52) (by assumption) rfl, rfl, rfl, rfl⟩
             done)
          | (go_ret2
             refine ⟨(Below.refl _ _).alloc (Nat.le_refl _) _, .inl ⟨?_, s, rfl⟩⟩
             rw [Hb0.out]
             refine parse_bad (arity_no fun n hn => ?_)
             simp only [List.mem_cons, List.not_mem_nil, or_false] at hn
             rcases hn with rfl | rfl | rfl | rfl | rfl | rfl | rfl | rfl | rfl | rfl | rfl | rfl | rfl <;> assumption)
      case rest =>
        obtain ⟨nv, np, har, rfl, rfl, rfl⟩ := hcut
        have Har := Lib.hid har
        clear har
        go_upto_block 1 with (fail)
        go_wp2_with fail
        go_loopg [0, 41] nv (fun k c i wr => ∃ (vs : List (Fin 4)) (cur : ByteArray), c = .string cur ∧ i = .int .i64 vs.length ∧ vs.length + k = nv ∧ s.data.toList.drop 1 = vs.map vb ++ cur.data.toList ∧ cur.size ≤ n ∧
          NodeIn (fun g => w.heap.size ≤ g) wr s[0] vs 0 (maskV vs) w.heap.size [] ∧ Below w.heap.size w wr)
        case atStart =>
          refine ⟨[], s.extract 1 s.size, rfl, rfl, by simp, by rw [Lib.extract_to_end]; rfl, by simp; omega, node_new w _ (Nat.le_refl _), (Below.refl _ _).alloc (Nat.le_refl _) _⟩
        case round =>
          obtain ⟨vs, cur, rfl, rfl, hk, htl, hcn, hnode, hbel⟩ := hrel
          have Htl := Lib.hid htl
          have Hk := Lib.hid hk
          have Hbel := Lib.hid hbel
          clear htl hk hbel
          by_cases hlt : vs.length < nv
          · by_cases hc0 : 0 < cur.size
            · obtain ⟨hce, hce2⟩ := empty_facts hc0
              cases hv : varOf cur[0] with
              | none =>
                have Hv := Lib.hid hv
                clear hv
                have hcontains : ∀ t w, t.data.toList = [cur[0]] → Calls Tryz.prog 84 #[.string ⟨#[97, 98, 99, 100]⟩, .string t] w fun e w' => e = .returned (.bool false) ∧ w = w' := fun t w ht => isVar_calls t _ false ht (by rw [Hv.out]; rfl) w
                have Hcon := Lib.hid hcontains
                have hext : (cur.extract 0 1).data.toList = [cur[0]] := by
                  rw [Lib.extract_data, drop_at hc0]; rfl
                have Hext := Lib.hid hext
                clear hcontains hext hnode
                go_wp2_with (go_at_call 84; refine (Hcon.out _ _ Hext.out).mono ?_; rintro e w' ⟨rfl, rfl⟩)
                go_ret2
                refine ⟨Hbel.out, .inl ⟨?_, cur, rfl⟩⟩
                rw [Hb0.out, Htl.out]
                refine parse_no_var Har.out vs _ hlt fun u r e => ?_
                have e2 := (drop_at (k := 0) hc0).symm.trans e
                simp only [List.cons.injEq] at e2
                have e3 := Hv.out
                rw [e2.1, varOf_vb] at e3
                cases e3
              | some v =>
                have Hv := Lib.hid hv
                clear hv
                have hcontains : ∀ t w, t.data.toList = [cur[0]] → Calls Tryz.prog 84 #[.string ⟨#[97, 98, 99, 100]⟩, .string t] w fun e w' => e = .returned (.bool true) ∧ w = w' := fun t w ht => isVar_calls t _ true ht (by rw [Hv.out]; rfl) w
                have Hcon := Lib.hid hcontains
                clear hcontains
                obtain ⟨_, vsv, psv, hB, hvs, hvS, hps, hpS⟩ := hnode
                have HvS := Lib.hid hvS
                have HpS := Lib.hid hpS
                clear hvS hpS
                have hc1 := cell_at hB 1
                have hc4 := cell_at hB 4
                have hf1 := free_at hB 1
                have hf4 := free_at hB 4
                have hlw := World.block_lt_of_cell? wr _ hc1
                simp only [List.getElem?_toArray, List.getElem?_cons_succ, List.getElem?_cons_zero] at hc1 hc4
                have hrow := ownsRow_ne hvs hB (by decide)
                have Hrow := Lib.hid hrow
                have HB := Lib.hid hB
                have Hvs := Lib.hid hvs
                have Hps := Lib.hid hps
                clear hB hvs hps hrow
                have hext : (cur.extract 0 1).data.toList = [cur[0]] := by
                  rw [Lib.extract_data, drop_at hc0]; rfl
                have Hext := Lib.hid hext
                clear hext
                obtain ⟨i0, hi0, hz0, hz1, hz2⟩ := info_parts Tryz.infoU8
                have hlen : vs.length < 1000000000 := by
                  have := congrArg List.length Htl.out
                  simp at this; omega
                have hcb : cur[0] = vb v := varOf_some.1 Hv.out
                have Hcb := Lib.hid hcb
                clear hcb
                go_upto_region 30 with (go_at_call 84; refine (Hcon.out _ _ Hext.out).mono ?_; rintro e w' ⟨rfl, rfl⟩)
                go_cut [] (fun wx => NodeIn (fun g => w.heap.size ≤ g) wx s[0] (vs ++ [v]) 0 (maskV vs) w.heap.size [] ∧ Below w.heap.size w wx)
                case first =>
                  go_region_law ((refine step_append_lies _ (by rfl) _ _ _ (by rfl) 0 5 i0 _ 1 1 Tryz.underlying22 hi0 hz0 hz1 hz2 rfl (by omega) vsv vs.length _ (by rfl) ((Hvs.out.alloc _).drew) ⟨wr.heap.size, 0, none⟩ 1 1 [byteV cur[0]] (by rfl) (by rfl) (World.news_of_block (cs := #[byteV cur[0]]) (t := 5) (fr := (0, 0)) (heap_alloc_new wr _)) (by simp [Value.oneCell', byteV]) (by omega) (by unfold maxLen; omega) (by omega) (Nat.zero_le _) (wr.heap.size + 1) (by simp) ?_; intro g cap w1 hown1 hgrow hat hlt1; have hB1 := grown_block hgrow HB.out Hrow.out; have hw1 := cell_at hB1 1; have hw4 := cell_at hB1 4; have gw1 := free_at hB1 1; have gw4 := free_at hB1 4; have HB1 := Lib.hid hB1; clear hB1))
                  all_goals
                    go_wp2_with fail
                    go_meet
                    case rel =>
                      refine ⟨?_, ?_⟩
                      · refine node_var v (Nat.le_refl _) HB1.out ?_ ?_ (row_grown Hps.out Hvs.out (by decide) hgrow) HpS.out
                        · rw [← Hcb.out]; exact hown1
                        · intro k hk
                          have e0 : g = k := by simpa [Value.ownBlock] using hk
                          subst e0
                          rcases hat with h | h
                          · exact HvS.out _ h
                          · omega
                      · refine Below.setCell (p := ⟨w.heap.size, 1, none⟩) ?_ (Nat.le_refl _) _
                        refine Below.grown (((Hbel.out).alloc (by omega) _).drew) hgrow (by simp; omega) HvS.out
                case rest =>
                  obtain ⟨hnode2, hbel2⟩ := hcut
                  have Hbel2 := Lib.hid hbel2
                  have hlwc := hbel2.size
                  clear hbel2
                  go_upto_region 31 with (fail)
                  have Hnode2 := Lib.hid hnode2
                  obtain ⟨_, vsv2, psv2, hB2, _, _, _, _⟩ := hnode2
                  have hd1 := cell_at hB2 1
                  have hd4 := cell_at hB2 4
                  have hg1 := free_at hB2 1
                  have hg4 := free_at hB2 4
                  simp only [List.getElem?_toArray, List.getElem?_cons_succ, List.getElem?_cons_zero] at hd1 hd4
                  clear hB2 hc1 hc4 hf1 hf4
                  obtain ⟨hcv, hv3⟩ : (cur[0].toNat : Int) = 97 + (v.val : Int) ∧ (v.val : Int) < 4 := by
                    rw [Hcb.out]
                    exact ⟨vb_int v, by omega⟩
                  go_cut [] (fun wx => NodeIn (fun g => w.heap.size ≤ g) wx s[0] (vs ++ [v]) 0 (maskV (vs ++ [v])) w.heap.size [] ∧ Below w.heap.size w wx)
                  case first =>
                    go_region
                    all_goals
                      go_wp2_with fail
                      go_meet
                      case rel =>
                        refine ⟨?_, Below.drew (Below.setCell (p := ⟨w.heap.size, 4, none⟩) Hbel2.out (Nat.le_refl _) _)⟩
                        rw [or_bit _ _ (maskV_lt vs), maskV_snoc]
                        exact NodeIn.setAll Hnode2.out _
                  case rest =>
                    obtain ⟨hnode3, hbel3⟩ := hcut
                    clear hcv
                    go_wp2_with fail
                    go_roundg (gk - 1)
                    case measure => have := Hk.out; omega
                    case rel =>
                      refine ⟨vs ++ [v], cur.extract 1 cur.size, rfl, by simp, ?_, ?_, ?_, hnode3, hbel3⟩
                      · have := Hk.out; simp; omega
                      · rw [Htl.out, Lib.extract_to_end, drop_at (k := 0) hc0 |> fun h => (by simpa using h : cur.data.toList = cur[0] :: cur.data.toList.drop 1), Hcb.out]
                        simp
                      · simp; omega
            · have hl : cur.data.toList = [] := List.eq_nil_of_length_eq_zero (by rw [← Lib.size_eq]; omega)
              have hl2 : cur.toList = [] := by rw [ByteArray.toList_eq]; exact hl
              have e1 : (cur.toList == []) = true := by rw [hl2]; rfl
              have e2 : cur.toList.isEmpty = true := by rw [hl2]; rfl
              have Hl := Lib.hid hl
              clear hl hl2 hc0 hnode
              go_wp2_with fail
              go_ret2
              refine ⟨Hbel.out, .inl ⟨?_, cur, rfl⟩⟩
              rw [Hb0.out, Htl.out]
              exact parse_no_var Har.out vs _ hlt fun u r e => by rw [Hl.out] at e; cases e
          · have hvl : vs.length = nv := by have := Hk.out; omega
            have Hvl := Lib.hid hvl
            clear hvl
            have hnt := NodeT.of hnode
            clear hnode
            have Hnt := Lib.hid hnt
            obtain ⟨_, _, _, hB, _, _, _, _, _⟩ := hnt
            have hc4 := cell_at hB 4
            have hc3 := cell_at hB 3
            have hf3 := free_at hB 3
            have hlw := block_lt hB
            simp only [List.getElem?_toArray, List.getElem?_cons_succ, List.getElem?_cons_zero] at hc3 hc4
            clear hB
            go_upto_if 85 with (fail)
            go_cut [] (fun wx => NodeT w.heap.size wx s[0] vs (if 0 < np then 0 else maskV vs) (maskV vs) [] ∧ Below w.heap.size w wx)
            case first =>
              by_cases hnp : 0 < np
              · go_wp2_with fail
                go_meet
                case rel =>
                  refine ⟨?_, Below.setCell (p := ⟨w.heap.size, 3, none⟩) (Below.setCell (p := ⟨w.heap.size, 3, none⟩) Hbel.out (Nat.le_refl _) _) (Nat.le_refl _) _⟩
                  rw [if_pos hnp]
                  exact NodeT.setFree (NodeT.setFree Hnt.out _) 0
              · go_wp2_with fail
                go_meet
                case rel =>
                  refine ⟨?_, Below.setCell (p := ⟨w.heap.size, 3, none⟩) Hbel.out (Nat.le_refl _) _⟩
                  rw [if_neg hnp]
                  exact NodeT.setFree Hnt.out _
            case rest =>
              obtain ⟨hnt1, hbel1⟩ := hcut
              clear hc4 hc3 hf3 hlw
              obtain ⟨F0, HF0, hF0⟩ : ∃ F0, Hid (F0 = if 0 < np then 0 else maskV vs) ∧ F0 < 16 := ⟨_, rfl, by split; decide; exact maskV_lt vs⟩
              rw [← HF0.out] at hnt1
              have Hnt1 := Lib.hid hnt1
              have Hbel1 := Lib.hid hbel1
              have hnp2 := (arity_le Har.out).2
              clear hnt1 hbel1
              go_upto_block 3 with (fail)
              go_wp2_with fail
              go_loopg [0, 90] np (fun k c i wr => ∃ (ps : List Fm) (cur2 : ByteArray), c = .string cur2 ∧ i = .int .i64 ps.length ∧ ps.length + k = np ∧ cur.data.toList = (ps.map Fm.text).flatten ++ cur2.data.toList ∧ cur2.size ≤ n ∧
                NodeT w.heap.size wr s[0] vs (orFree F0 ps) (orAll (maskV vs) ps) ps ∧ Below w.heap.size w wr)
              case atStart => exact ⟨[], cur, rfl, rfl, by simp, by simp, hcn, Hnt1.out, Hbel1.out⟩
              case round =>
                obtain ⟨ps, cur2, rfl, rfl, hk2, htl2, hcn2, hnt2, hbel2⟩ := hrel
                have Hk2 := Lib.hid hk2
                have Htl2 := Lib.hid htl2
                have Hnt2 := Lib.hid hnt2
                have Hbel2 := Lib.hid hbel2
                clear hk2 htl2 hnt2 hbel2
                by_cases hlt2 : ps.length < np
                · go_upto_region 42 with (go_at_call 65; refine (Ih.out _ _ hcn2 (by omega)).mono ?_; rintro e w1 ⟨hb1, ⟨hno, rest, rfl⟩ | ⟨f, rest, b, hp, htr, rfl⟩⟩)
                  · go_wp2_with fail
                    go_ret2
                    refine ⟨Hbel2.out.trans (hb1.mono Hbel2.out.size), .inl ⟨?_, rest, rfl⟩⟩
                    rw [Hb0.out, Htl.out, Htl2.out]
                    exact parse_no_part Har.out vs Hvl.out ps _ hlt2 hno
                  · have Hp := Lib.hid hp
                    have Hb1 := Lib.hid hb1
                    have hsz1 := hb1.size
                    obtain ⟨ks, vsv, psv, hB, h1, h2, h3, h4, h5⟩ := Hnt2.out
                    have hBlo := block_lt hB
                    have hB1 : w1.heap[w.heap.size]? = _ := (hb1.block _ hBlo).trans hB
                    have h1' := ownsRow_keep (base' := 0) h1 (fun g hg => ⟨hb1.block g (ownsRow_lt h1 hg).2, Nat.zero_le _⟩)
                    have h3' := ownsRow_keep (base' := 0) h3 (fun g hg => ⟨hb1.block g (ownsRow_lt h3 hg).2, Nat.zero_le _⟩)
                    have h4' : ∀ k, psv.ownBlock = some k → w.heap.size ≤ k ∧ k < wr.heap.size := fun k hk => ⟨h4 k hk, (ownsRow_lt h3 hk).2⟩
                    have h5' : TreesIn (fun g => w.heap.size < g ∧ psv.ownBlock ≠ some g ∧ g < wr.heap.size) w1 ps ks := h5.keep fun g hg hl => ⟨hb1.block g hl, hg.1, hg.2, hl⟩
                    have hkc := kidCells_of htr (B := w.heap.size) (by omega)
                    have hc2 := cell_at hB1 2
                    have hf2 := free_at hB1 2
                    simp only [List.getElem?_toArray, List.getElem?_cons_succ, List.getElem?_cons_zero] at hc2
                    have HB1 := Lib.hid hB1
                    have H1 := Lib.hid h1'
                    have H2 := Lib.hid h2
                    have H3 := Lib.hid h3'
                    have H4 := Lib.hid h4'
                    have H5 := Lib.hid h5'
                    have Htr := Lib.hid htr
                    have Hkc := Lib.hid hkc
                    clear hp hb1 hB h1 h2 h3 h4 h5 hB1 h1' h3' h4' h5' htr hkc
                    obtain ⟨i1, hi0, hz0, hz1, hz2⟩ := info_parts Tryz.infoPF
                    have hlks : ks.length < 1000000000 := by have := H5.out.1; have := (arity_le Har.out).2; omega
                    go_cut [] (fun wx => NodeT w.heap.size wx s[0] vs (orFree F0 ps) (orAll (maskV vs) ps) (ps ++ [f]) ∧ Below w.heap.size w wx ∧ KidCells wx w.heap.size b f)
                    case first =>
                      go_wp2_with (at_builtin; refine wpList_append_lies _ rfl _ _ _ rfl 0 60 i1 _ 1 8 Tryz.underlying62 hi0 hz0 hz1 hz2 rfl (by omega) psv ks.length _ rfl (H3.out.alloc _) ⟨w1.heap.size, 0, none⟩ 1 1 [kidV b] rfl rfl (World.news_of_block (cs := #[kidV b]) (t := 60) (fr := (0, 0)) (heap_alloc_new w1 _)) (by simp [Value.oneCell', kidV]) (by omega) (by unfold maxLen; omega) (by omega) (Nat.zero_le _) (w1.heap.size + 1) (by simp) ?_; intro g cap w2 hown1 hgrow hat hlt1; have hB2 := (grown_heap hgrow (Nat.lt_of_lt_of_le hBlo hsz1) (ownsRow_ne H3.out HB1.out (by decide))).trans HB1.out; have hw2 := cell_at hB2 2; have gw2 := free_at hB2 2; have HB2 := Lib.hid hB2; clear hB2)
                      go_meet
                      case rel =>
                        refine ⟨nodeT_part HB1.out H1.out H2.out H3.out H4.out H5.out hsz1 hBlo Htr.out hown1 hgrow hat, ?_, KidCells.set (kidCells_heap Hkc.out ?_) 2 _⟩
                        · exact Below.setCell (p := ⟨w.heap.size, 2, none⟩) (Below.grown ((Hbel2.out.trans (Hb1.out.mono Hbel2.out.size)).alloc (by have := Hbel2.out.size; omega) _) hgrow (by have := Hbel2.out.size; simp; omega) (fun k hk => (H4.out k hk).1)) (Nat.le_refl _) _
                        · obtain ⟨_, ⟨hS, _, _, hbb, _⟩, _⟩ := Htr.out.open
                          have hlo : wr.heap.size ≤ b := hS
                          exact grown_heap hgrow (block_lt hbb) (fun e => by have := (H4.out b e).2; omega)
                    case rest =>
                      obtain ⟨hnt3, hbel3, hkc3⟩ := hcut
                      clear hc2 hf2
                      have Hnt3 := Lib.hid hnt3
                      have Hbel3 := Lib.hid hbel3
                      have Hkc3 := Lib.hid hkc3
                      obtain ⟨_, _, _, hB, _, _, _, _, _⟩ := hnt3
                      obtain ⟨_, hk3, _⟩ := hkc3
                      have hc3 := cell_at hB 3
                      have hf3 := free_at hB 3
                      simp only [List.getElem?_toArray, List.getElem?_cons_succ, List.getElem?_cons_zero] at hc3
                      clear hB hbel3
                      go_upto_region 43 with (fail)
                      go_cut [] (fun wx => NodeT w.heap.size wx s[0] vs (orFree F0 (ps ++ [f])) (orAll (maskV vs) ps) (ps ++ [f]) ∧ Below w.heap.size w wx ∧ KidCells wx w.heap.size b f)
                      case first =>
                        go_region
                        all_goals
                          go_wp2_with fail
                          go_meet
                          case rel =>
                            rw [or_nat _ _ (orFree_lt hF0 ps) (freeBits_lt f), orFree_snoc]
                            exact ⟨NodeT.drew (NodeT.setFree Hnt3.out _), Below.drew (Below.setCell (p := ⟨w.heap.size, 3, none⟩) Hbel3.out (Nat.le_refl _) _), KidCells.drew (KidCells.set Hkc3.out 3 _)⟩
                      case rest =>
                        obtain ⟨hnt4, hbel4, hkc4⟩ := hcut
                        clear hc3 hf3 hk3
                        have Hnt4 := Lib.hid hnt4
                        have Hbel4 := Lib.hid hbel4
                        obtain ⟨_, _, _, hB, _, _, _, _, _⟩ := hnt4
                        obtain ⟨_, _, hk4⟩ := hkc4
                        have hc4 := cell_at hB 4
                        have hf4 := free_at hB 4
                        simp only [List.getElem?_toArray, List.getElem?_cons_succ, List.getElem?_cons_zero] at hc4
                        clear hB hbel4
                        go_upto_region 44 with (fail)
                        go_cut [] (fun wx => NodeT w.heap.size wx s[0] vs (orFree F0 (ps ++ [f])) (orAll (maskV vs) (ps ++ [f])) (ps ++ [f]) ∧ Below w.heap.size w wx)
                        case first =>
                          go_region
                          all_goals
                            go_wp2_with fail
                            go_meet
                            case rel =>
                              rw [or_nat _ _ (orAll_lt (maskV_lt vs) ps) (allBits_lt f), orAll_snoc]
                              exact ⟨NodeT.drew (NodeT.setAll Hnt4.out _), Below.drew (Below.setCell (p := ⟨w.heap.size, 4, none⟩) Hbel4.out (Nat.le_refl _) _)⟩
                        case rest =>
                          obtain ⟨hnt5, hbel5⟩ := hcut
                          clear hc4 hf4 hk4
                          have Hnt5 := Lib.hid hnt5
                          have Hbel5 := Lib.hid hbel5
                          clear hnt5 hbel5
                          go_wp2_with fail
                          go_roundg (gk - 1)
                          case measure => have := Hk2.out; omega
                          case rel =>
                            have e1 := parse_some.1 Hp.out
                            refine ⟨ps ++ [f], rest, rfl, by simp, ?_, ?_, ?_, Hnt5.out, Hbel5.out⟩
                            · have := Hk2.out; simp; omega
                            · rw [Htl2.out, e1]; simp
                            · have := congrArg List.length e1
                              rw [List.length_append, ← Lib.size_eq, ← Lib.size_eq] at this
                              omega
                · have hpl : ps.length = np := by have := Hk2.out; omega
                  have Hpl := Lib.hid hpl
                  clear hpl
                  have hhd : parse s.data.toList = parse (s[0] :: (vs.map vb ++ ((ps.map Fm.text).flatten ++ cur2.data.toList))) := by rw [Hb0.out, Htl.out, Htl2.out]
                  obtain ⟨f, ef1, ef2, ef3, ef4⟩ := parse_all Har.out vs Hvl.out ps Hpl.out cur2.data.toList
                  have Hpar := Lib.hid (hhd.trans ef4)
                  have Hf1 := Lib.hid ef1
                  have Hf2 := Lib.hid ef2
                  have Hf3 := Lib.hid ef3
                  clear hhd ef1 ef2 ef3 ef4
                  have hall := allBits_eq f
                  rw [Hf2.out, Hf3.out] at hall
                  have Hall := Lib.hid hall
                  clear hall
                  obtain ⟨_, vsv, _, hB, h1, _, _, _, _⟩ := Hnt2.out
                  have hc0 := cell_at hB 0
                  have hc1 := cell_at hB 1
                  have hc3 := cell_at hB 3
                  have hf3 := free_at hB 3
                  simp only [List.getElem?_toArray, List.getElem?_cons_succ, List.getElem?_cons_zero] at hc0 hc1 hc3
                  clear hB
                  have H1 := Lib.hid h1
                  clear h1
                  cases hq : isQuB s[0] with
                  | false =>
                    have hfree := freeBits_no f (by rw [Hf1.out]; exact hq)
                    rw [Hf2.out, Hf3.out, Hpl.out, ← HF0.out] at hfree
                    have Hfree := Lib.hid hfree
                    have Hq := Lib.hid hq
                    clear hfree hq
                    go_wp2_with (go_at_call 67; refine (isQuantifier_at s[0] _ Hq.out _ _ hc0).mono ?_; rintro e w' ⟨rfl, rfl⟩)
                    go_ret2
                    refine ⟨Hbel2.out, .inr ⟨f, cur2, w.heap.size, Hpar.out, tree_done ?_, rfl⟩⟩
                    rw [Hf1.out, Hf2.out, Hf3.out, Hall.out, Hfree.out]
                    exact Hnt2.out
                  | true =>
                    obtain ⟨v, hv, hfree⟩ := freeBits_yes f (by rw [Hf1.out]; exact hq)
                    rw [Hf2.out] at hv
                    rw [Hf2.out, Hf3.out, Hpl.out, ← HF0.out] at hfree
                    have Hfree := Lib.hid hfree
                    have Hq := Lib.hid hq
                    have Hv := Lib.hid hv
                    clear hfree hq hv
                    have hvl1 : vs.length = 1 := by rw [Hv.out]; rfl
                    obtain ⟨g, cap, rfl, hcap, hcm, _, hglt, hrow⟩ := row_open H1.out (by omega)
                    have hgc : wr.cell? ⟨g, 0, none⟩ = some (.int .u8 (vb v).toNat) := by
                      rw [hrow 0 (by omega), Hv.out]; rfl
                    clear hrow
                    obtain ⟨hcv, hv3⟩ : ((vb v).toNat : Int) = 97 + (v.val : Int) ∧ (v.val : Int) < 4 := ⟨vb_int v, by omega⟩
                    have hvl2 : 0 < vs.length := by omega
                    clear hvl1
                    go_upto_region 48 with (go_at_call 67; refine (isQuantifier_at s[0] _ Hq.out _ _ hc0).mono ?_; rintro e w' ⟨rfl, rfl⟩)
                    go_cut [] (fun wx => NodeT w.heap.size wx s[0] vs f.freeBits (orAll (maskV vs) ps) ps ∧ Below w.heap.size w wx)
                    case first =>
                      go_region
                      all_goals
                        go_wp2_with fail
                        go_meet
                        case rel =>
                          rw [andNot_bit _ _ (orFree_lt hF0 ps), ← Hfree.out]
                          exact ⟨NodeT.drew (NodeT.setFree Hnt2.out _), Below.drew (Below.setCell (p := ⟨w.heap.size, 3, none⟩) Hbel2.out (Nat.le_refl _) _)⟩
                    case rest =>
                      obtain ⟨hnt6, hbel6⟩ := hcut
                      have Hnt6 := Lib.hid hnt6
                      have Hbel6 := Lib.hid hbel6
                      clear hnt6 hbel6 hc0 hc1 hc3 hf3 hgc hcv
                      go_wp2_with fail
                      go_ret2
                      refine ⟨Hbel6.out, .inr ⟨f, cur2, w.heap.size, Hpar.out, tree_done ?_, rfl⟩⟩
                      rw [Hf1.out, Hf2.out, Hf3.out, Hall.out]
                      exact Hnt6.out
    · exact parsePart_empty s w (by omega)
end Go.Proofs.YtpaleogkgfclnaaGreatDoor

namespace Go.Proofs.YtpaleogkgfclnaaGreatDoor
open Go.RowKit
open Pl

/-- a tree of f was laid -/
def TreePost (f : Fm) (w : World) (e : Ending) (w' : World) : Prop := ∃ b, e = .returned (kidV b) ∧ TreeAt w.heap.size w' f b ∧ Below w.heap.size w w'

set_option maxHeartbeats 400000 in
theorem parseFormula_no (s : ByteArray) (w : World) (h : ¬ IsFm s.data.toList) :
    Calls Tryz.prog 37 #[.string s] w fun e w' => e = .returned (.pointer none) ∧ Below w.heap.size w w' := by
  have H := Lib.hid h
  clear h
  by_cases hs : s.size ≤ 4000
  · go_enter Tryz.func37, Tryz.ntmps37
    go_upto_region 4 with (go_at_call 65; refine (parsePart_calls s.size s w (Nat.le_refl _) (by omega)).mono ?_; rintro e w1 ⟨hb1, ⟨hno, rest, rfl⟩ | ⟨f, rest, b, hp, htr, rfl⟩⟩)
    · have Hb1 := Lib.hid hb1
      clear hno hb1
      go_wp2_with fail
      all_goals (go_ret; exact ⟨rfl, Hb1.out⟩)
    · have hr : rest.data.toList ≠ [] := by
        intro e
        apply H.out
        have e1 := parse_some.1 hp
        rw [e] at e1
        exact ⟨by rw [← Lib.size_eq]; exact hs, f, by simpa using e1⟩
      have hr0 : 0 < rest.size := by
        rw [Lib.size_eq]
        exact List.length_pos_iff.2 hr
      obtain ⟨hne, hne2⟩ := empty_facts hr0
      have Hb1 := Lib.hid hb1
      clear hp htr hb1 hr
      go_wp2_with fail
      go_ret
      exact ⟨rfl, Hb1.out⟩
  · go_enter Tryz.func37, Tryz.ntmps37
    go_wp2_with fail
    go_ret
    exact ⟨rfl, Below.refl _ _⟩

set_option maxHeartbeats 400000 in
theorem parseFormula_yes (s : ByteArray) (f : Fm) (w : World) (hs : s.size ≤ 4000) (h : s.data.toList = f.text) :
    Calls Tryz.prog 37 #[.string s] w (TreePost f w) := by
  have H := Lib.hid h
  clear h
  go_enter Tryz.func37, Tryz.ntmps37
  go_upto_region 4 with (go_at_call 65; refine (parsePart_calls s.size s w (Nat.le_refl _) (by omega)).mono ?_; rintro e w1 ⟨hb1, ⟨hno, rest, rfl⟩ | ⟨g, rest, b, hp, htr, rfl⟩⟩)
  · exact absurd (H.out.trans (List.append_nil _).symm) (parse_none.1 hno f [])
  · have e1 := parse_some.1 hp
    rw [H.out] at e1
    obtain ⟨rfl, e2⟩ := Fm.text_inj f g [] _ (by simpa using e1)
    have hl2 : rest.toList = [] := by rw [ByteArray.toList_eq]; exact e2.symm
    have g1 : (rest.toList == []) = true := by rw [hl2]; rfl
    have g2 : rest.toList.isEmpty = true := by rw [hl2]; rfl
    have Hb1 := Lib.hid hb1
    have Htr := Lib.hid htr
    clear hp htr hb1 e1 e2 hl2
    go_wp2_with fail
    go_ret
    exact ⟨b, rfl, Htr.out, Hb1.out⟩

end Go.Proofs.YtpaleogkgfclnaaGreatDoor

namespace Go.Proofs.YtpaleogkgfclnaaGreatDoor
open Go.RowKit
open Pl

/-- the cells of a node that a walk reads -/
theorem node_cells {S : Nat → Prop} {w : World} {f : Fm} {b : Nat} (h : TreeIn S w f b) :
    ∃ ks vsv psv, w.cell? ⟨b, 0, none⟩ = some (.int .u8 f.op.toNat) ∧ w.cell? ⟨b, 1, none⟩ = some vsv ∧ w.cell? ⟨b, 2, none⟩ = some psv ∧
      w.cell? ⟨b, 3, none⟩ = some (.int .i64 f.freeBits) ∧ w.cell? ⟨b, 4, none⟩ = some (.int .i64 f.allBits) ∧
      w.ownsRow 0 5 1 vsv f.vars.length (f.vars.map fun v => byteV (vb v)) ∧ w.ownsRow 0 60 1 psv ks.length (ks.map kidV) ∧ TreesIn S w f.parts ks := by
  obtain ⟨ks, ⟨_, vsv, psv, hb, h1, _, h2, _⟩, h3⟩ := h.open
  exact ⟨ks, vsv, psv, cell_at hb 0, cell_at hb 1, cell_at hb 2, cell_at hb 3, cell_at hb 4, h1, h2, h3⟩

/-- a row that may be empty, as a slice -/
theorem row_slice {w : World} {base : Nat} {e : TypeId} {v : Value} {n : Nat} {xs : List Value} (h : w.ownsRow base e 1 v n xs) :
    ∃ a cap, v = .slice a n cap ∧ xs.length = n ∧ (∀ j, j < n → ∃ g, a = some ⟨g, 0, none⟩ ∧ w.cell? ⟨g, j, none⟩ = xs[j]?) := by
  rcases Nat.eq_zero_or_pos n with h0 | h0
  · subst h0
    obtain ⟨hl, ⟨rfl, _⟩ | ⟨g, cap, cur, rfl, _⟩⟩ := h
    · exact ⟨_, _, rfl, by simpa using hl, fun j hj => absurd hj (Nat.not_lt_zero _)⟩
    · exact ⟨_, _, rfl, by simpa using hl, fun j hj => absurd hj (Nat.not_lt_zero _)⟩
  · obtain ⟨g, cap, rfl, _, _, _, _, hc⟩ := row_open h h0
    exact ⟨_, _, rfl, by simpa using h.1, fun j hj => ⟨g, rfl, hc j hj⟩⟩

theorem parts_le (f : Fm) : f.parts.length ≤ 2 := by cases f <;> simp [Fm.parts]
theorem vars_le (f : Fm) : f.vars.length ≤ 2 := by cases f <;> simp [Fm.vars]

theorem part_text_le {f p : Fm} (h : p ∈ f.parts) : p.text.length ≤ f.text.length := by
  cases f <;> simp [Fm.parts] at h
  case neg => subst h; simp [Fm.text]
  case con => rcases h with h | h <;> subst h <;> simp [Fm.text] <;> omega
  case dis => rcases h with h | h <;> subst h <;> simp [Fm.text] <;> omega
  case qu => subst h; simp [Fm.text]; omega

theorem foldmax_lt {m : Nat} : ∀ (ps : List Fm), m < 100000 → (∀ p ∈ ps, p.rank < 100000) → ps.foldl (fun m p => max m p.rank) m < 100000 := by
  intro ps
  induction ps generalizing m with
  | nil => intro h _; exact h
  | cons p ps ih =>
    intro h hp
    exact ih (Nat.max_lt.2 ⟨h, hp p (by simp)⟩) (fun q hq => hp q (by simp [hq]))

set_option maxHeartbeats 400000 in
theorem rank_calls (n : Nat) : ∀ (f : Fm) (b : Nat) (S : Nat → Prop) (w : World), f.size ≤ n → TreeIn S w f b → f.text.length ≤ 4000 →
    Calls Tryz.prog 39 #[kidV b] w fun e w' => e = .returned (.int .i64 f.rank) ∧ w = w' := by
  induction n with
  | zero => intro f b S w hn _ _; cases f <;> simp [Fm.size] at hn
  | succ n ih =>
    intro f b S w hn ht hl
    obtain ⟨ks, vsv, psv, hc0, _, hc2, _, _, _, hr, hts⟩ := node_cells ht
    obtain ⟨a, cap, rfl, hkl, hrow⟩ := row_slice hr
    have hkl2 : ks.length = f.parts.length := hts.1
    have hp2 := parts_le f
    have hkl3 : ks.length ≤ 2 := by omega
    have Ih := Lib.hid ih
    have Hrow := Lib.hid hrow
    have Hts := Lib.hid hts
    have Hkl := Lib.hid hkl2
    have hrk : ∀ p ∈ f.parts, p.rank < 100000 := fun p hp => by have := rank_le p; have := part_text_le hp; omega
    have Hrk := Lib.hid hrk
    have hfin := rank_eq f
    have hrl := rank_le f
    have Hfin := Lib.hid hfin
    clear ih hrow hts hkl hkl2 hr hrk hfin ht
    go_enter Tryz.func39, Tryz.ntmps39
    go_wp2_with fail
    go_loop [3, 11] (fun m i => ∃ k : Nat, k ≤ ks.length ∧ i = .int .i64 k ∧ m = .int .i64 ((f.parts.take k).foldl (fun m p => max m p.rank) 0 : Nat)) (fun _ i => ks.length - (intOf i).toNat)
    case atStart => exact ⟨0, Nat.zero_le _, rfl, rfl⟩
    case round =>
      obtain ⟨k, hk, rfl, rfl⟩ := hrel
      have hm : ((f.parts.take k).foldl (fun m p => max m p.rank) 0) < 100000 := foldmax_lt _ (by decide) (fun p hp => Hrk.out p (List.mem_of_mem_take hp))
      by_cases hlt : k < ks.length
      · obtain ⟨g, rfl, hcell⟩ := Hrow.out k hlt
        have hkf : k < f.parts.length := by rw [← Hkl.out]; exact hlt
        have hcell2 : w.cell? ⟨g, k, none⟩ = some (kidV ks[k]) := by rw [hcell, List.getElem?_map, List.getElem?_eq_getElem hlt]; rfl
        have hpk := Hts.out.2 k f.parts[k] ks[k] (List.getElem?_eq_getElem hkf) (List.getElem?_eq_getElem hlt)
        have hmem : f.parts[k] ∈ f.parts := List.getElem_mem hkf
        have hsz := Fm.size_parts hmem
        have hcall := Ih.out f.parts[k] ks[k] S w (by omega) hpk (by have := part_text_le hmem; omega)
        have Hcall := Lib.hid hcall
        have hrk2 := Hrk.out _ hmem
        have hsnoc : (f.parts.take (k + 1)).foldl (fun m p => max m p.rank) 0 = max ((f.parts.take k).foldl (fun m p => max m p.rank) 0) f.parts[k].rank := by
          rw [List.take_succ_eq_append_getElem hkf, List.foldl_append]; rfl
        have Hsnoc := Lib.hid hsnoc
        clear hcell hpk hmem hsz hcall hsnoc
        go_wp2_with (go_at_call 39; refine (Hcall.out).mono ?_; rintro e w' ⟨rfl, rfl⟩)
        go_round
        case rel => exact ⟨k + 1, by omega, by go_num, by rw [Hsnoc.out]; congr 1; first | (split <;> omega) | omega⟩
        case measure => simp [intOf]; omega
      · have hk2 : k = ks.length := by omega
        have htk : f.parts.take k = f.parts := List.take_of_length_le (by rw [hk2, Hkl.out]; exact Nat.le_refl _)
        have Htk := Lib.hid htk
        clear htk hk2
        cases hco : isCoB f.op with
        | true =>
          have hadd : rankAdd f.op = f.op.toNat - 48 := by simp [rankAdd, hco]
          have hop : 50 ≤ f.op.toNat ∧ f.op.toNat ≤ 52 := by
            simp only [isCoB, Bool.or_eq_true, beq_iff_eq] at hco
            rcases hco with (h | h) | h <;> rw [h] <;> decide
          obtain ⟨hop1, hop2⟩ : 50 ≤ (f.op.toNat : Int) ∧ (f.op.toNat : Int) ≤ 52 := by omega
          have Hadd := Lib.hid hadd
          have Hco := Lib.hid hco
          clear hadd hco hop
          go_wp2_with (first | (go_at_call 66; refine (isCounting_at f.op _ Hco.out _ _ hc0).mono ?_; rintro e w' ⟨rfl, rfl⟩))
          go_ret
          refine ⟨ret_int ?_, rfl⟩
          rw [Hfin.out, Hadd.out, Htk.out]
          omega
        | false =>
          cases hqu : isQuB f.op with
          | true =>
            have hadd : rankAdd f.op = 1 := by simp [rankAdd, hco, hqu]
            have Hadd := Lib.hid hadd
            have Hco := Lib.hid hco
            have Hqu := Lib.hid hqu
            clear hadd hco hqu
            go_wp2_with (first | (go_at_call 66; refine (isCounting_at f.op _ Hco.out _ _ hc0).mono ?_; rintro e w' ⟨rfl, rfl⟩) | (go_at_call 67; refine (isQuantifier_at f.op _ Hqu.out _ _ hc0).mono ?_; rintro e w' ⟨rfl, rfl⟩))
            go_ret
            refine ⟨ret_int ?_, rfl⟩
            rw [Hfin.out, Hadd.out, Htk.out]
            omega
          | false =>
            have hadd : rankAdd f.op = 0 := by simp [rankAdd, hco, hqu]
            have Hadd := Lib.hid hadd
            have Hco := Lib.hid hco
            have Hqu := Lib.hid hqu
            clear hadd hco hqu
            go_wp2_with (first | (go_at_call 66; refine (isCounting_at f.op _ Hco.out _ _ hc0).mono ?_; rintro e w' ⟨rfl, rfl⟩) | (go_at_call 67; refine (isQuantifier_at f.op _ Hqu.out _ _ hc0).mono ?_; rintro e w' ⟨rfl, rfl⟩))
            go_ret
            refine ⟨ret_int ?_, rfl⟩
            rw [Hfin.out, Hadd.out, Htk.out]
            omega

/-- what a walk over the parts is told -/
def AnyPost (f : Fm) (e : Ending) : Prop := (f.parts.any Fm.counts = false ∧ e = .returned (.int .i64 (-1))) ∨ (f.parts.any Fm.counts = true ∧ ∃ k : Nat, k ≤ 2 ∧ e = .returned (.int .i64 k))

set_option maxHeartbeats 400000 in
theorem counts_calls (n : Nat) : ∀ (f : Fm) (b : Nat) (S : Nat → Prop) (w : World), f.size ≤ n → TreeIn S w f b →
    Calls Tryz.prog 40 #[kidV b] w fun e w' => e = .returned (.bool f.counts) ∧ w = w' := by
  induction n with
  | zero => intro f b S w hn _; cases f <;> simp [Fm.size] at hn
  | succ n ih =>
    intro f b S w hn ht
    obtain ⟨ks, vsv, psv, hc0, _, hc2, _, _, _, hr, hts⟩ := node_cells ht
    obtain ⟨a, cap, rfl, hkl, hrow⟩ := row_slice hr
    have hkl2 : ks.length = f.parts.length := hts.1
    have hp2 := parts_le f
    have hkl3 : ks.length ≤ 2 := by omega
    have Ih := Lib.hid ih
    have Hrow := Lib.hid hrow
    have Hts := Lib.hid hts
    have Hkl := Lib.hid hkl2
    have hfin := counts_eq f
    have Hfin := Lib.hid hfin
    clear ih hrow hts hkl hkl2 hr hfin ht
    have hidx : Calls Tryz.prog 86 #[.slice a ks.length cap, .func (.func 40) #[] #[]] w fun e w' => AnyPost f e ∧ w = w' := by
      go_enter Tryz.func86, Tryz.ntmps86
      go_wp2_with fail
      go_loop [8] (fun i => ∃ k : Nat, k ≤ ks.length ∧ i = .int .i64 k ∧ (f.parts.take k).any Fm.counts = false) (fun i => ks.length - (intOf i).toNat)
      case atStart => exact ⟨0, Nat.zero_le _, rfl, rfl⟩
      case round =>
        obtain ⟨k, hk, rfl, hno⟩ := hrel
        have Hno := Lib.hid hno
        clear hno
        by_cases hlt : k < ks.length
        · obtain ⟨g, rfl, hcell⟩ := Hrow.out k hlt
          have hkf : k < f.parts.length := by rw [← Hkl.out]; exact hlt
          have hcell2 : w.cell? ⟨g, k, none⟩ = some (kidV ks[k]) := by rw [hcell, List.getElem?_map, List.getElem?_eq_getElem hlt]; rfl
          have hpk := Hts.out.2 k f.parts[k] ks[k] (List.getElem?_eq_getElem hkf) (List.getElem?_eq_getElem hlt)
          have hmem : f.parts[k] ∈ f.parts := List.getElem_mem hkf
          have hsz := Fm.size_parts hmem
          have hcall := Ih.out f.parts[k] ks[k] S w (by omega) hpk
          have Hmem := Lib.hid hmem
          have hsnoc : (f.parts.take (k + 1)).any Fm.counts = ((f.parts.take k).any Fm.counts || f.parts[k].counts) := by
            rw [List.take_succ_eq_append_getElem hkf, List.any_append]; simp
          have Hsnoc := Lib.hid hsnoc
          clear hcell hpk hmem hsz hsnoc
          cases hcv : f.parts[k].counts with
          | true =>
            rw [hcv] at hcall
            have Hcall := Lib.hid hcall
            have Hcv := Lib.hid hcv
            clear hcall hcv
            go_wp2_with (go_at_call 40; refine (Hcall.out).mono ?_; rintro e w' ⟨rfl, rfl⟩)
            go_ret
            exact ⟨.inr ⟨List.any_eq_true.2 ⟨_, Hmem.out, Hcv.out⟩, k, by omega, rfl⟩, rfl⟩
          | false =>
            rw [hcv] at hcall
            have Hcall := Lib.hid hcall
            have Hcv := Lib.hid hcv
            clear hcall hcv
            go_wp2_with (go_at_call 40; refine (Hcall.out).mono ?_; rintro e w' ⟨rfl, rfl⟩)
            go_round
            case rel => exact ⟨k + 1, by omega, by go_num, by rw [Hsnoc.out, Hno.out, Hcv.out]; rfl⟩
            case measure => simp [intOf]; omega
        · have hk2 : k = ks.length := by omega
          have htk : f.parts.take k = f.parts := List.take_of_length_le (by rw [hk2, Hkl.out]; exact Nat.le_refl _)
          have Htk := Lib.hid htk
          clear htk hk2
          go_wp2_with fail
          go_ret
          exact ⟨.inl ⟨by rw [← Htk.out]; exact Hno.out, rfl⟩, rfl⟩
    have Hidx := Lib.hid hidx
    clear hidx
    cases hco : isCoB f.op with
    | true =>
      have hv : f.counts = true := by rw [Hfin.out, hco]; rfl
      rw [hv]
      have Hco := Lib.hid hco
      clear hco hv
      go_enter Tryz.func40, Tryz.ntmps40
      go_wp2_with (go_at_call 66; refine (isCounting_at f.op _ Hco.out _ _ hc0).mono ?_; rintro e w' ⟨rfl, rfl⟩)
      go_ret
      exact ⟨rfl, rfl⟩
    | false =>
      have hv : f.counts = f.parts.any Fm.counts := by rw [Hfin.out, hco]; rfl
      have hcf : Calls Tryz.prog 68 #[.slice a ks.length cap, .func (.func 40) #[] #[]] w fun e w' => e = .returned (.bool (f.parts.any Fm.counts)) ∧ w = w' := by
        go_enter Tryz.func68, Tryz.ntmps68
        go_wp2_with (go_at_call 86; refine (Hidx.out).mono ?_; rintro e w' ⟨⟨hno, rfl⟩ | ⟨hyes, k, hk, rfl⟩, rfl⟩)
        · go_ret
          exact ⟨ret_bool (by rw [hno]), rfl⟩
        · go_ret
          exact ⟨ret_bool (by rw [hyes]), rfl⟩
      have Hco := Lib.hid hco
      have Hcf := Lib.hid hcf
      have Hv := Lib.hid hv
      clear hco hcf hv
      go_enter Tryz.func40, Tryz.ntmps40
      go_wp2_with (first | (go_at_call 66; refine (isCounting_at f.op _ Hco.out _ _ hc0).mono ?_; rintro e w' ⟨rfl, rfl⟩) | (go_at_call 68; refine (Hcf.out).mono ?_; rintro e w' ⟨rfl, rfl⟩))
      go_ret
      exact ⟨ret_bool Hv.out.symm, rfl⟩

/-- a bit as the walk reckons it -/
theorem shr_bit (m k : Nat) (hm : m < 16) (hk : k < 4) : (bits .and .i64 ((m : Int) / 2 ^ k) 1 == 1) = m.testBit k := by
  have h : ∀ (m : Fin 16) (k : Fin 4), (bits .and .i64 ((m.val : Int) / 2 ^ k.val) 1 == 1) = m.val.testBit k.val := by decide +kernel
  exact h ⟨m, hm⟩ ⟨k, hk⟩

theorem abcd_at (k : Nat) (hk : k < 4) : (ByteArray.mk #[97, 98, 99, 100]).extract k (k + 1) = bs [UInt8.ofNat (97 + k)] := by
  apply eq_bs
  rw [Lib.extract_data]
  match k, hk with
  | 0, _ => rfl
  | 1, _ => rfl
  | 2, _ => rfl
  | 3, _ => rfl

set_option maxHeartbeats 400000 in
theorem varsText_calls (m : Nat) (hm : m < 16) (w : World) :
    Calls Tryz.prog 38 #[.int .i64 m] w fun e w' => e = .returned (.string (bs (varsL m 4))) ∧ w = w' := by
  go_enter Tryz.func38, Tryz.ntmps38
  go_wp2_with fail
  go_loop [3, 5] (fun o i => ∃ k : Nat, k ≤ 4 ∧ i = .int .i64 k ∧ o = .string (bs (varsL m k))) (fun _ i => 4 - (intOf i).toNat)
  case atStart => exact ⟨0, by omega, rfl, rfl⟩
  case round =>
    obtain ⟨k, hk, rfl, rfl⟩ := hrel
    have hsz : (bs (varsL m k)).size ≤ 4 := by rw [bs_size]; have := varsL_len m k; omega
    by_cases hlt : k < 4
    · have hbit := shr_bit m k hm hlt
      cases hb : m.testBit k with
      | true =>
        rw [hb] at hbit
        have Hb := Lib.hid hb
        clear hb
        go_wp2_with fail
        go_round
        case rel => exact ⟨k + 1, by omega, by go_num, str_eq (by rw [varsL_yes Hb.out, abcd_at k hlt, append_bs]; rfl)⟩
        case measure => simp [intOf]; omega
      | false =>
        rw [hb] at hbit
        have Hb := Lib.hid hb
        clear hb
        go_wp2_with fail
        go_round
        case rel => exact ⟨k + 1, by omega, by go_num, str_eq (by rw [varsL_no Hb.out])⟩
        case measure => simp [intOf]; omega
    · obtain rfl : k = 4 := by omega
      go_wp2_with fail
      go_ret
      exact ⟨rfl, rfl⟩

end Go.Proofs.YtpaleogkgfclnaaGreatDoor
