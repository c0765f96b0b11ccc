/-
  Laws of the functions that the claim reaches, one after the other (packed by a program of the prover's: Perms, Sem, Sem2, Orb, PlLaws, DeP). Conditions: texts below the reach.
-/
import Derived.Test.YtpaleogkgfclnaaDoorPd0
set_option linter.unusedSimpArgs false
set_option linter.unusedVariables false

namespace Go.Proofs.YtpaleogkgfclnaaDoor
namespace Pl
set_option linter.unusedVariables false

theorem nodup_len_le {α : Type} [DecidableEq α] : ∀ (l m : List α), l.Nodup → (∀ x ∈ l, x ∈ m) → l.length ≤ m.length := by
  intro l
  induction l with
  | nil => intro m _ _; simp
  | cons x l ih =>
    intro m hnd hs
    obtain ⟨h1, h2⟩ := List.nodup_cons.1 hnd
    have hx := hs x (by simp)
    have h3 := ih (m.erase x) h2 (fun y hy => (List.mem_erase_of_ne (by rintro rfl; exact h1 hy)).2 (hs y (by simp [hy])))
    rw [List.length_erase_of_mem hx] at h3
    have : 0 < m.length := List.length_pos_of_mem hx
    simp only [List.length_cons]
    omega

theorem nodup_len_eq {α : Type} [DecidableEq α] {l m : List α} (hl : l.Nodup) (hm : m.Nodup) (h : ∀ x, x ∈ l ↔ x ∈ m) : l.length = m.length :=
  Nat.le_antisymm (nodup_len_le l m hl fun x hx => (h x).1 hx) (nodup_len_le m l hm fun x hx => (h x).2 hx)

/-- an order of all elements -/
structure IsPerm (n : Nat) (l : List Nat) : Prop where
  len : l.length = n
  nodup : l.Nodup
  lt : ∀ x ∈ l, x < n

def app (l : List Nat) (x : Nat) : Nat := l.getD x 0
def comp (l m : List Nat) : List Nat := m.map (app l)
def inv (l : List Nat) : List Nat := (List.range l.length).map fun y => l.idxOf y

theorem app_mem {l : List Nat} {x : Nat} (h : x < l.length) : app l x ∈ l := by
  unfold app
  simp only [List.getD_eq_getElem?_getD, List.getElem?_eq_getElem h, Option.getD_some]
  exact List.getElem_mem h

theorem IsPerm.app_lt {n : Nat} {l : List Nat} (h : IsPerm n l) {x : Nat} (hx : x < n) : app l x < n := h.lt _ (app_mem (by rw [h.len]; exact hx))

theorem IsPerm.mem {n : Nat} {l : List Nat} (h : IsPerm n l) {y : Nat} (hy : y < n) : y ∈ l := by
  rcases Classical.em (y ∈ l) with h1 | h1
  · exact h1
  · have h2 := nodup_len_le (y :: l) (List.range n) (List.nodup_cons.2 ⟨h1, h.nodup⟩) (fun x hx => by
      rcases List.mem_cons.1 hx with rfl | hx
      · exact List.mem_range.2 hy
      · exact List.mem_range.2 (h.lt x hx))
    have := h.len
    simp only [List.length_cons, List.length_range] at h2
    omega

theorem IsPerm.inj {n : Nat} {l : List Nat} (h : IsPerm n l) {x y : Nat} (hx : x < n) (hy : y < n) (e : app l x = app l y) : x = y := by
  unfold app at e
  have h1 := h.len
  simp only [List.getD_eq_getElem?_getD, List.getElem?_eq_getElem (show x < l.length by omega), List.getElem?_eq_getElem (show y < l.length by omega), Option.getD_some] at e
  have hp := List.pairwise_iff_getElem.1 h.nodup
  rcases Nat.lt_trichotomy x y with hlt | heq | hlt
  · exact absurd e (hp x y (by omega) (by omega) hlt)
  · exact heq
  · exact absurd e.symm (hp y x (by omega) (by omega) hlt)

theorem app_comp {l m : List Nat} {x : Nat} (h : x < m.length) : app (comp l m) x = app l (app m x) := by
  unfold app comp
  simp [List.getD, h, app]

theorem app_ext {n : Nat} {l m : List Nat} (h1 : l.length = n) (h2 : m.length = n) (h : ∀ x, x < n → app l x = app m x) : l = m := by
  apply List.ext_getElem (by omega)
  intro i hi hi2
  have := h i (by omega)
  unfold app at this
  simpa [List.getD, hi, hi2] using this

theorem app_idx {l : List Nat} {y : Nat} (h : y ∈ l) : l.idxOf y < l.length ∧ app l (l.idxOf y) = y := by
  have h1 := List.idxOf_lt_length_of_mem h
  refine ⟨h1, ?_⟩
  unfold app
  simp [List.getD, h1]

theorem len_comp (l m : List Nat) : (comp l m).length = m.length := by simp [comp]
theorem len_inv (l : List Nat) : (inv l).length = l.length := by simp [inv]

theorem app_inv {n : Nat} {l : List Nat} (h : IsPerm n l) {y : Nat} (hy : y < n) : app (inv l) y < n ∧ app l (app (inv l) y) = y := by
  have h1 := app_idx (h.mem hy)
  have e : app (inv l) y = l.idxOf y := by
    unfold app inv
    have := h.len
    simp [List.getD, show y < l.length by omega]
  rw [e, ← h.len]
  exact h1

theorem inv_app {n : Nat} {l : List Nat} (h : IsPerm n l) {x : Nat} (hx : x < n) : app (inv l) (app l x) = x := by
  have h1 := app_inv h (h.app_lt hx)
  exact h.inj h1.1 hx h1.2

theorem nodup_of_inj {n : Nat} {l : List Nat} (hl : l.length = n) (h : ∀ x y, x < n → y < n → app l x = app l y → x = y) : l.Nodup := by
  refine List.pairwise_iff_getElem.2 fun i j hi hj hij e => ?_
  have := h i j (by omega) (by omega) (by
    unfold app
    simp only [List.getD_eq_getElem?_getD, List.getElem?_eq_getElem hi, List.getElem?_eq_getElem hj, Option.getD_some, e])
  omega

theorem mem_app {l : List Nat} {y : Nat} (h : y ∈ l) : ∃ x, x < l.length ∧ app l x = y := ⟨_, app_idx h⟩

theorem IsPerm.of {n : Nat} {l : List Nat} (hl : l.length = n) (hlt : ∀ x, x < n → app l x < n) (h : ∀ x y, x < n → y < n → app l x = app l y → x = y) : IsPerm n l :=
  ⟨hl, nodup_of_inj hl h, fun y hy => by obtain ⟨x, hx, rfl⟩ := mem_app hy; exact hlt x (by omega)⟩

theorem IsPerm.comp {n : Nat} {l m : List Nat} (hl : IsPerm n l) (hm : IsPerm n m) : IsPerm n (comp l m) := by
  have e : ∀ x, x < n → app (Pl.comp l m) x = app l (app m x) := fun x hx => app_comp (by rw [hm.len]; exact hx)
  refine .of (by rw [len_comp, hm.len]) (fun x hx => ?_) (fun x y hx hy h => ?_)
  · rw [e x hx]; exact hl.app_lt (hm.app_lt hx)
  · rw [e x hx, e y hy] at h
    exact hm.inj hx hy (hl.inj (hm.app_lt hx) (hm.app_lt hy) h)

theorem IsPerm.inv {n : Nat} {l : List Nat} (hl : IsPerm n l) : IsPerm n (inv l) := by
  refine .of (by rw [len_inv, hl.len]) (fun x hx => (app_inv hl hx).1) (fun x y hx hy h => ?_)
  rw [← (app_inv hl hx).2, ← (app_inv hl hy).2, h]

theorem app_range {n x : Nat} (h : x < n) : app (List.range n) x = x := by
  unfold app; simp [List.getD, h]

theorem IsPerm.range (n : Nat) : IsPerm n (List.range n) := .of (by simp) (fun x hx => by rw [app_range hx]; exact hx) (fun x y hx hy h => by rwa [app_range hx, app_range hy] at h)

theorem comp_assoc {n : Nat} {l m k : List Nat} (hm : IsPerm n m) (hk : IsPerm n k) : comp (comp l m) k = comp l (comp m k) := by
  apply app_ext (n := n) (by rw [len_comp, hk.len]) (by rw [len_comp, len_comp, hk.len])
  intro x hx
  rw [app_comp (by rw [hk.len]; exact hx), app_comp (by rw [hm.len]; exact hk.app_lt hx), app_comp (by rw [len_comp, hk.len]; exact hx), app_comp (by rw [hk.len]; exact hx)]

theorem comp_inv {n : Nat} {l : List Nat} (h : IsPerm n l) : comp l (inv l) = List.range n := by
  apply app_ext (n := n) (by rw [len_comp, len_inv, h.len]) (by simp)
  intro x hx
  rw [app_comp (by rw [len_inv, h.len]; exact hx), (app_inv h hx).2, app_range hx]

theorem inv_comp {n : Nat} {l : List Nat} (h : IsPerm n l) : comp (inv l) l = List.range n := by
  apply app_ext (n := n) (by rw [len_comp, h.len]) (by simp)
  intro x hx
  rw [app_comp (by rw [h.len]; exact hx), inv_app h hx, app_range hx]

theorem comp_range {n : Nat} {l : List Nat} (h : IsPerm n l) : comp l (List.range n) = l := by
  apply app_ext (n := n) (by rw [len_comp]; simp) h.len
  intro x hx
  rw [app_comp (by simpa using hx), app_range hx]

theorem range_comp {n : Nat} {l : List Nat} (h : IsPerm n l) : comp (List.range n) l = l := by
  apply app_ext (n := n) (by rw [len_comp, h.len]) h.len
  intro x hx
  rw [app_comp (by rw [h.len]; exact hx), app_range (h.app_lt hx)]

theorem comp_left_inj {n : Nat} {g l m : List Nat} (hg : IsPerm n g) (hl : IsPerm n l) (hm : IsPerm n m) (e : comp g l = comp g m) : l = m := by
  have : comp (inv g) (comp g l) = comp (inv g) (comp g m) := by rw [e]
  rwa [← comp_assoc hg hl, ← comp_assoc hg hm, inv_comp hg, range_comp hl, range_comp hm] at this

/-- a group of orders -/
structure Grp (n : Nat) (G : List (List Nat)) : Prop where
  nodup : G.Nodup
  perm : ∀ l ∈ G, IsPerm n l
  one : List.range n ∈ G
  comp : ∀ l ∈ G, ∀ m ∈ G, Pl.comp l m ∈ G
  inv : ∀ l ∈ G, Pl.inv l ∈ G

theorem map_nodup {α β : Type} {f : α → β} : ∀ (l : List α), l.Nodup → (∀ x ∈ l, ∀ y ∈ l, f x = f y → x = y) → (l.map f).Nodup := by
  intro l
  induction l with
  | nil => intro _ _; simp
  | cons x l ih =>
    intro h hi
    obtain ⟨h1, h2⟩ := List.nodup_cons.1 h
    rw [List.map_cons, List.nodup_cons]
    refine ⟨fun hm => ?_, ih h2 (fun y hy z hz => hi y (by simp [hy]) z (by simp [hz]))⟩
    obtain ⟨y, hy, e⟩ := List.mem_map.1 hm
    have := hi y (by simp [hy]) x (by simp) e
    subst this
    exact h1 hy

theorem filter_len {α : Type} (p : α → Bool) : ∀ (l : List α), l.length = (l.filter p).length + (l.filter fun x => !p x).length := by
  intro l
  induction l with
  | nil => rfl
  | cons x l ih =>
    cases h : p x <;> simp [h] <;> omega

theorem cosets {n : Nat} {H : List (List Nat)} (hH : Grp n H) : ∀ (k : Nat) (S : List (List Nat)), S.length ≤ k → S.Nodup → (∀ g ∈ S, IsPerm n g) → (∀ g ∈ S, ∀ h ∈ H, comp g h ∈ S) → H.length ∣ S.length := by
  intro k
  induction k with
  | zero =>
    intro S hk _ _ _
    rw [Nat.le_zero.1 hk]
    exact Nat.dvd_zero _
  | succ k ih =>
    intro S hk hnd hp hc
    match S, hk, hnd, hp, hc with
    | [], _, _, _, _ => exact Nat.dvd_zero _
    | g :: S0, hk, hnd, hp, hc =>
      generalize hS : g :: S0 = S at *
      have hg : g ∈ S := by rw [← hS]; simp
      have hC : (H.map (comp g)).Nodup := map_nodup H hH.nodup fun x hx y hy e => comp_left_inj (hp g hg) (hH.perm x hx) (hH.perm y hy) e
      have hlen : (S.filter fun l => decide (l ∈ H.map (comp g))).length = H.length := by
        rw [show H.length = (H.map (comp g)).length by simp]
        refine nodup_len_eq (hnd.filter _) hC fun x => ?_
        rw [List.mem_filter]
        constructor
        · rintro ⟨_, h⟩; simpa using h
        · intro h
          refine ⟨?_, by simpa using h⟩
          obtain ⟨y, hy, rfl⟩ := List.mem_map.1 h
          exact hc g hg y hy
      have hsum := filter_len (fun l => decide (l ∈ H.map (comp g))) S
      have hpos : 0 < H.length := List.length_pos_of_mem hH.one
      have := ih (S.filter fun l => !decide (l ∈ H.map (comp g))) (by omega) (hnd.filter _) (fun x hx => hp x (List.mem_filter.1 hx).1) (fun x hx h hh => by
        obtain ⟨h1, h2⟩ := List.mem_filter.1 hx
        refine List.mem_filter.2 ⟨hc x h1 h hh, ?_⟩
        simp only [Bool.not_eq_true', decide_eq_false_iff_not] at h2 ⊢
        intro hm
        apply h2
        obtain ⟨y, hy, e⟩ := List.mem_map.1 hm
        refine List.mem_map.2 ⟨comp y (inv h), hH.comp _ hy _ (hH.inv _ hh), ?_⟩
        rw [← comp_assoc (hH.perm y hy) (hH.perm h hh).inv, e, comp_assoc (hH.perm h hh) (hH.perm h hh).inv, comp_inv (hH.perm h hh), comp_range (hp x h1)])
      rw [hsum, hlen]
      exact Nat.dvd_add (Nat.dvd_refl _) this

theorem lagrange {n : Nat} {H G : List (List Nat)} (hH : Grp n H) (hG : Grp n G) (hs : ∀ l ∈ H, l ∈ G) : H.length ∣ G.length :=
  cosets hH G.length G (Nat.le_refl _) hG.nodup hG.perm fun g hg h hh => hG.comp g hg h (hs h hh)

theorem fibers {α : Type} (key : α → Nat) (s : Nat) : ∀ (O : List Nat), O.Nodup → ∀ (S : List α), (∀ g ∈ S, key g ∈ O) → (∀ y ∈ O, (S.filter fun g => key g == y).length = s) → S.length = O.length * s := by
  intro O
  induction O with
  | nil =>
    intro _ S h _
    match S, h with
    | [], _ => simp
    | g :: S, h => exact absurd (h g (by simp)) (by simp)
  | cons y O ih =>
    intro hnd S h hf
    obtain ⟨h1, h2⟩ := List.nodup_cons.1 hnd
    have hsum := filter_len (fun g => key g == y) S
    have h3 := ih h2 (S.filter fun g => !(key g == y)) (fun g hg => by
      obtain ⟨h4, h5⟩ := List.mem_filter.1 hg
      rcases List.mem_cons.1 (h g h4) with e | e
      · simp [e] at h5
      · exact e) (fun z hz => by
      rw [← hf z (by simp [hz]), List.filter_filter]
      congr 1
      apply List.filter_congr
      intro g _
      have hzy : z ≠ y := by rintro rfl; exact h1 hz
      by_cases e : key g = z
      · simp [e, hzy]
      · simp [e])
    rw [hsum, hf y (by simp), h3, List.length_cons, Nat.succ_mul]
    omega

/-- the elements to which a group moves one -/
def orbL (n : Nat) (G : List (List Nat)) (x : Nat) : List Nat := (List.range n).filter fun y => G.any fun l => app l x == y

theorem mem_orbL {n : Nat} {G : List (List Nat)} (hG : Grp n G) {x y : Nat} (hx : x < n) : y ∈ orbL n G x ↔ ∃ l ∈ G, app l x = y := by
  unfold orbL
  rw [List.mem_filter, List.mem_range, List.any_eq_true]
  constructor
  · rintro ⟨_, l, hl, e⟩; exact ⟨l, hl, by simpa using e⟩
  · rintro ⟨l, hl, e⟩; exact ⟨by rw [← e]; exact (hG.perm l hl).app_lt hx, l, hl, by simpa using e⟩

theorem orb_dvd {n : Nat} {G : List (List Nat)} (hG : Grp n G) {x : Nat} (hx : x < n) : (orbL n G x).length ∣ G.length := by
  have hf := fibers (fun l => app l x) (G.filter fun l => app l x == x).length (orbL n G x) (List.nodup_range.filter _) G (fun g hg => (mem_orbL hG hx).2 ⟨g, hg, rfl⟩) (fun y hy => by
    obtain ⟨s, hs, rfl⟩ := (mem_orbL hG hx).1 hy
    have hps := hG.perm s hs
    apply Nat.le_antisymm
    · rw [show (G.filter fun l => app l x == app s x).length = ((G.filter fun l => app l x == app s x).map (comp (inv s))).length by simp]
      refine nodup_len_le _ _ (map_nodup _ (hG.nodup.filter _) fun a ha b hb e => comp_left_inj hps.inv (hG.perm a (List.mem_filter.1 ha).1) (hG.perm b (List.mem_filter.1 hb).1) e) fun a ha => ?_
      obtain ⟨b, hb, rfl⟩ := List.mem_map.1 ha
      obtain ⟨h1, h2⟩ := List.mem_filter.1 hb
      have h3 : app b x = app s x := by simpa using h2
      refine List.mem_filter.2 ⟨hG.comp _ (hG.inv _ hs) _ h1, ?_⟩
      rw [app_comp (by rw [(hG.perm b h1).len]; exact hx), h3, inv_app hps hx]
      simp
    · rw [show (G.filter fun l => app l x == x).length = ((G.filter fun l => app l x == x).map (comp s)).length by simp]
      refine nodup_len_le _ _ (map_nodup _ (hG.nodup.filter _) fun a ha b hb e => comp_left_inj hps (hG.perm a (List.mem_filter.1 ha).1) (hG.perm b (List.mem_filter.1 hb).1) e) fun a ha => ?_
      obtain ⟨b, hb, rfl⟩ := List.mem_map.1 ha
      obtain ⟨h1, h2⟩ := List.mem_filter.1 hb
      have h3 : app b x = x := by simpa using h2
      refine List.mem_filter.2 ⟨hG.comp _ hs _ h1, ?_⟩
      rw [app_comp (by rw [(hG.perm b h1).len]; exact hx), h3]
      simp)
  rw [hf]
  exact Nat.dvd_mul_right _ _

/-! ### isomorphisms -/

theorem iso_perm {a b : St} {l : List Nat} (h : l ∈ isos a b) : IsPerm a.n l := by
  obtain ⟨h1, h2⟩ := mem_isos.1 h
  exact ⟨h1, h2.nodup, h2.lt⟩

theorem mem_isos_iff {a b : St} {l : List Nat} : l ∈ isos a b ↔ IsPerm a.n l ∧ (∀ i, i < a.n → a.inS (app l i) = b.inS i) ∧ ∀ i j, i < a.n → j < a.n → a.inR (app l i) (app l j) = b.inR i j := by
  rw [mem_isos]
  constructor
  · rintro ⟨h1, h2⟩; exact ⟨⟨h1, h2.nodup, h2.lt⟩, fun i hi => h2.set i (by omega), fun i j hi hj => h2.rel i j (by omega) (by omega)⟩
  · rintro ⟨h1, h2, h3⟩; exact ⟨h1.len, h1.nodup, h1.lt, fun i hi => h2 i (by rw [← h1.len]; exact hi), fun i j hi hj => h3 i j (by rw [← h1.len]; exact hi) (by rw [← h1.len]; exact hj)⟩

theorem iso_comp {a b c : St} (hab : a.n = b.n) {l m : List Nat} (hl : l ∈ isos a b) (hm : m ∈ isos b c) : comp l m ∈ isos a c := by
  obtain ⟨h1, h2, h3⟩ := mem_isos_iff.1 hl
  obtain ⟨g1, g2, g3⟩ := mem_isos_iff.1 hm
  rw [← hab] at g1 g2 g3
  have e : ∀ x, x < a.n → app (comp l m) x = app l (app m x) := fun x hx => app_comp (by rw [g1.len]; exact hx)
  exact mem_isos_iff.2 ⟨h1.comp g1, fun i hi => by rw [e i hi, h2 _ (g1.app_lt hi), g2 i hi], fun i j hi hj => by rw [e i hi, e j hj, h3 _ _ (g1.app_lt hi) (g1.app_lt hj), g3 i j hi hj]⟩

theorem iso_inv {a b : St} (hab : a.n = b.n) {l : List Nat} (hl : l ∈ isos a b) : inv l ∈ isos b a := by
  obtain ⟨h1, h2, h3⟩ := mem_isos_iff.1 hl
  refine mem_isos_iff.2 ⟨by rw [← hab]; exact h1.inv, fun i hi => ?_, fun i j hi hj => ?_⟩
  · rw [← hab] at hi
    obtain ⟨g1, g2⟩ := app_inv h1 hi
    rw [← h2 _ g1, g2]
  · rw [← hab] at hi hj
    obtain ⟨g1, g2⟩ := app_inv h1 hi
    obtain ⟨g3, g4⟩ := app_inv h1 hj
    rw [← h3 _ _ g1 g3, g2, g4]

theorem iso_refl (a : St) : List.range a.n ∈ isos a a :=
  mem_isos_iff.2 ⟨.range _, fun i hi => by rw [app_range hi], fun i j hi hj => by rw [app_range hi, app_range hj]⟩

theorem aut_grp (a : St) : Grp a.n (isos a a) where
  nodup := isos_nodup a a
  perm l h := iso_perm h
  one := iso_refl a
  comp l hl m hm := iso_comp rfl hl hm
  inv l hl := iso_inv rfl hl

/-- isomorphic structures have as many symmetries -/
theorem isos_count {a b : St} (hab : a.n = b.n) {l : List Nat} (hl : l ∈ isos a b) : (isos a a).length = (isos b b).length := by
  have key : ∀ {a b : St} (_ : a.n = b.n) {l : List Nat} (_ : l ∈ isos a b), (isos a a).length ≤ (isos b b).length := by
    intro a b hab l hl
    have hli := iso_inv hab hl
    have hp := iso_perm hl
    rw [show (isos a a).length = ((isos a a).map fun m => comp (inv l) (comp m l)).length by simp]
    refine nodup_len_le _ _ (map_nodup _ (isos_nodup a a) fun x hx y hy e => ?_) fun x hx => ?_
    · have hx' := iso_perm hx
      have hy' := iso_perm hy
      have e2 := comp_left_inj hp.inv (hx'.comp hp) (hy'.comp hp) e
      have e3 : comp (comp x l) (inv l) = comp (comp y l) (inv l) := by rw [e2]
      rwa [comp_assoc hp hp.inv, comp_assoc hp hp.inv, comp_inv hp, comp_range hx', comp_range hy'] at e3
    · obtain ⟨m, hm, rfl⟩ := List.mem_map.1 hx
      exact iso_comp hab.symm hli (iso_comp rfl hm hl)
  exact Nat.le_antisymm (key hab hl) (key hab.symm (iso_inv hab hl))

/-! ### the number of all orders -/

def fact : Nat → Nat
  | 0 => 1
  | n + 1 => (n + 1) * fact n

def noSt (n : Nat) : St := mkSt n (fun _ => false) (fun _ _ => false)

theorem flatMap_len {α : Type} (f : α → List (List Nat)) (k : Nat) : ∀ (l : List α), (∀ x ∈ l, (f x).length = k) → (l.flatMap f).length = l.length * k := by
  intro l
  induction l with
  | nil => intro _; simp
  | cons x l ih =>
    intro h
    rw [List.flatMap_cons, List.length_append, h x (by simp), ih (fun y hy => h y (by simp [hy])), List.length_cons, Nat.succ_mul]
    omega

theorem flatMap_if {α : Type} (p : α → Bool) (f : α → List (List Nat)) : ∀ (l : List α), (l.flatMap fun x => if p x then f x else []) = (l.filter p).flatMap f := by
  intro l
  induction l with
  | nil => rfl
  | cons x l ih =>
    cases h : p x <;> simp [h, ih]

theorem noSt_shapes {n : Nat} : ∀ (m : Nat) (o : List Nat), o.length + m = n → o.Nodup → (∀ x ∈ o, x < n) → (shapes (noSt n) (noSt n) m o).length = fact m := by
  intro m
  induction m with
  | zero => intro o _ _ _; rfl
  | succ m ih =>
    intro o hl hnd hlt
    have hn : ∀ x, x < n → nextB (noSt n) (noSt n) o x = !o.contains x := by
      intro x hx
      have hS : ∀ y, y < n → (noSt n).inS y = false := fun y hy => mkSt_inS hy
      have hR : ∀ y z, y < n → z < n → (noSt n).inR y z = false := fun y z hy hz => mkSt_inR hy hz
      unfold nextB fitsB
      have hol : o.length < n := by omega
      have hall : ((List.range o.length).all fun k => (noSt n).inR x (o.getD k 0) == (noSt n).inR o.length k && (noSt n).inR (o.getD k 0) x == (noSt n).inR k o.length) = true := by
        rw [List.all_eq_true]
        intro k hk
        have hk' := List.mem_range.1 hk
        have hok : o.getD k 0 < n := hlt _ (by
          rw [List.getD_eq_getElem?_getD, List.getElem?_eq_getElem hk', Option.getD_some]
          exact List.getElem_mem hk')
        rw [hR _ _ hx hok, hR _ _ hol (by omega), hR _ _ hok hx, hR _ _ (by omega) hol]
        rfl
      rw [hall, hS _ hx, hS _ hol, hR _ _ hx hx, hR _ _ hol hol]
      simp
    simp only [shapes]
    rw [flatMap_if]
    have hfil : ((List.range (noSt n).n).filter (nextB (noSt n) (noSt n) o)).length = m + 1 := by
      have h1 : (List.range (noSt n).n).filter (nextB (noSt n) (noSt n) o) = (List.range n).filter fun x => !o.contains x := by
        apply List.filter_congr
        intro x hx
        exact hn x (List.mem_range.1 hx)
      rw [h1]
      have h2 := filter_len (fun x => o.contains x) (List.range n)
      have h3 : ((List.range n).filter fun x => o.contains x).length = o.length := by
        refine nodup_len_eq (List.nodup_range.filter _) hnd fun x => ?_
        rw [List.mem_filter, List.mem_range]
        simp only [List.contains_eq_mem, decide_eq_true_eq]
        exact ⟨fun h => h.2, fun h => ⟨hlt x h, h⟩⟩
      simp only [List.length_range] at h2
      omega
    rw [flatMap_len _ (fact m) _ (fun x hx => by
      obtain ⟨h1, h2⟩ := List.mem_filter.1 hx
      have hxn : x < n := List.mem_range.1 h1
      rw [hn x hxn] at h2
      have hxo : x ∉ o := by simpa using h2
      refine ih _ (by simp; omega) ?_ ?_
      · rw [List.nodup_append]
        exact ⟨hnd, by simp, fun y hy z hz => by simp only [List.mem_singleton] at hz; subst hz; rintro rfl; exact hxo hy⟩
      · intro y hy
        rcases List.mem_append.1 hy with hy | hy
        · exact hlt y hy
        · simp only [List.mem_singleton] at hy; subst hy; exact hxn), hfil]
    rfl

theorem noSt_count (n : Nat) : (isos (noSt n) (noSt n)).length = fact n := noSt_shapes n [] (by simp) (by simp) (by simp)

theorem count_dvd_fact (a : St) : (isos a a).length ∣ fact a.n := by
  rw [← noSt_count]
  refine lagrange (aut_grp a) (aut_grp (noSt a.n)) fun l hl => ?_
  have hp := iso_perm hl
  refine mem_isos_iff.2 ⟨hp, fun i hi => ?_, fun i j hi hj => ?_⟩
  · have hi2 : i < a.n := hi
    have h1 : (noSt a.n).inS (app l i) = false := mkSt_inS (f := fun _ => false) (hp.app_lt hi2)
    have h2 : (noSt a.n).inS i = false := mkSt_inS (f := fun _ => false) hi2
    rw [h1, h2]
  · have hi2 : i < a.n := hi
    have hj2 : j < a.n := hj
    have h1 : (noSt a.n).inR (app l i) (app l j) = false := mkSt_inR (g := fun _ _ => false) (hp.app_lt hi2) (hp.app_lt hj2)
    have h2 : (noSt a.n).inR i j = false := mkSt_inR (g := fun _ _ => false) hi2 hj2
    rw [h1, h2]

end Pl
end Go.Proofs.YtpaleogkgfclnaaDoor

namespace Go.Proofs.YtpaleogkgfclnaaDoor
open Pl

/-- elements for the variables -/
abbrev Pl.Env := Fin 4 → Nat

def Pl.upd (e : Env) (v : Fin 4) (x : Nat) : Env := fun u => if u = v then x else e u

def Pl.cnt (n : Nat) (p : Nat → Bool) : Nat := ((List.range n).filter p).length

/-- a quantifier's word on how many elements there are -/
def Pl.Qn.says (k : Qn) (n c : Nat) : Bool := match k with
  | .A => c == n
  | .S => decide (0 < c)
  | .c2 => decide (2 ≤ c)
  | .c3 => decide (3 ≤ c)
  | .c4 => decide (4 ≤ c)

/-- a formula is true -/
def Pl.Fm.holds (a : St) : Fm → Env → Bool
  | .tru, _ => true
  | .fls, _ => false
  | .pr v, e => a.inS (e v)
  | .eq v w, e => e v == e w
  | .rel v w, e => a.inR (e v) (e w)
  | .neg p, e => !(p.holds a e)
  | .con p q, e => p.holds a e && q.holds a e
  | .dis p q, e => p.holds a e || q.holds a e
  | .qu k v p, e => k.says a.n (cnt a.n fun x => p.holds a (upd e v x))

theorem Pl.cnt_congr {n : Nat} {p q : Nat → Bool} (h : ∀ x, x < n → p x = q x) : cnt n p = cnt n q := by
  unfold cnt
  rw [List.filter_congr fun x hx => h x (List.mem_range.1 hx)]

theorem Pl.cnt_le (n : Nat) (p : Nat → Bool) : cnt n p ≤ n := by
  unfold cnt
  have := List.length_filter_le p (List.range n)
  simpa using this

theorem Pl.cnt_succ (n : Nat) (p : Nat → Bool) : cnt (n + 1) p = cnt n p + if p n then 1 else 0 := by
  unfold cnt
  rw [List.range_succ, List.filter_append, List.length_append]
  cases h : p n <;> simp [h]

theorem Pl.cnt_all {n : Nat} {p : Nat → Bool} : cnt n p = n ↔ ∀ x, x < n → p x = true := by
  induction n with
  | zero => simp [cnt]
  | succ n ih =>
    rw [cnt_succ]
    have hle := cnt_le n p
    constructor
    · intro h x hx
      cases hp : p n with
      | false => rw [hp] at h; simp at h; omega
      | true =>
        rw [hp] at h
        simp at h
        by_cases e : x = n
        · subst e; exact hp
        · exact ih.1 h x (by omega)
    · intro h
      rw [h n (by omega), ih.2 fun x hx => h x (by omega)]
      rfl

theorem Pl.cnt_pos {n : Nat} {p : Nat → Bool} : 0 < cnt n p ↔ ∃ x, x < n ∧ p x = true := by
  unfold cnt
  rw [List.length_pos_iff_exists_mem]
  constructor
  · rintro ⟨x, hx⟩; obtain ⟨h1, h2⟩ := List.mem_filter.1 hx; exact ⟨x, List.mem_range.1 h1, h2⟩
  · rintro ⟨x, h1, h2⟩; exact ⟨x, List.mem_filter.2 ⟨List.mem_range.2 h1, h2⟩⟩

theorem Pl.cnt_not (n : Nat) (p : Nat → Bool) : cnt n p + cnt n (fun x => !p x) = n := by
  unfold cnt
  have := filter_len p (List.range n)
  simpa using this.symm

theorem Pl.cnt_perm {n : Nat} {l : List Nat} (hl : IsPerm n l) (p : Nat → Bool) : cnt n (fun x => p (app l x)) = cnt n p := by
  unfold cnt
  rw [show ((List.range n).filter fun x => p (app l x)).length = (((List.range n).filter fun x => p (app l x)).map (app l)).length by simp]
  refine nodup_len_eq (map_nodup _ (List.nodup_range.filter _) fun x hx y hy e => hl.inj (List.mem_range.1 (List.mem_filter.1 hx).1) (List.mem_range.1 (List.mem_filter.1 hy).1) e) (List.nodup_range.filter _) fun x => ?_
  rw [List.mem_map, List.mem_filter, List.mem_range]
  constructor
  · rintro ⟨y, hy, rfl⟩
    obtain ⟨h1, h2⟩ := List.mem_filter.1 hy
    exact ⟨hl.app_lt (List.mem_range.1 h1), h2⟩
  · rintro ⟨h1, h2⟩
    obtain ⟨g1, g2⟩ := app_inv hl h1
    exact ⟨app (inv l) x, List.mem_filter.2 ⟨List.mem_range.2 g1, by rw [g2]; exact h2⟩, g2⟩

theorem Pl.upd_same (e : Env) (v : Fin 4) (x : Nat) : upd e v x v = x := by simp [upd]
theorem Pl.upd_other {e : Env} {v u : Fin 4} {x : Nat} (h : u ≠ v) : upd e v x u = e u := by simp [upd, h]

/-- the variables that are free -/
def Pl.Fm.isFree (f : Fm) (v : Fin 4) : Prop := f.freeBits.testBit v.val = true

theorem bit_test (v u : Fin 4) : (1 <<< v.val).testBit u.val = decide (v = u) := by revert v u; decide

theorem free_qu (k : Qn) (v : Fin 4) (p : Fm) (u : Fin 4) : (Fm.qu k v p).isFree u ↔ p.isFree u ∧ u ≠ v := by
  unfold Fm.isFree
  simp only [Fm.freeBits, Nat.testBit_and, Nat.testBit_xor, bit_test]
  have h15 : (15 : Nat).testBit u.val = true := by revert u; decide
  rw [h15]
  by_cases h : v = u
  · subst h; simp
  · simp [h, Ne.symm h]

/-- only the free variables matter -/
theorem holds_free (a : St) : ∀ (f : Fm) (e e' : Env), (∀ v, f.isFree v → e v = e' v) → f.holds a e = f.holds a e' := by
  intro f
  induction f with
  | tru => intros; rfl
  | fls => intros; rfl
  | pr v => intro e e' h; simp only [Fm.holds]; rw [h v (by simp [Fm.isFree, Fm.freeBits, bit_test])]
  | eq v w => intro e e' h; simp only [Fm.holds]; rw [h v (by simp [Fm.isFree, Fm.freeBits, bit_test]), h w (by simp [Fm.isFree, Fm.freeBits, bit_test])]
  | rel v w => intro e e' h; simp only [Fm.holds]; rw [h v (by simp [Fm.isFree, Fm.freeBits, bit_test]), h w (by simp [Fm.isFree, Fm.freeBits, bit_test])]
  | neg p ih => intro e e' h; simp only [Fm.holds]; rw [ih e e' h]
  | con p q ihp ihq =>
    intro e e' h
    simp only [Fm.holds]
    rw [ihp e e' fun v hv => h v (by unfold Fm.isFree at *; simp [Fm.freeBits, hv]), ihq e e' fun v hv => h v (by unfold Fm.isFree at *; simp [Fm.freeBits, hv])]
  | dis p q ihp ihq =>
    intro e e' h
    simp only [Fm.holds]
    rw [ihp e e' fun v hv => h v (by unfold Fm.isFree at *; simp [Fm.freeBits, hv]), ihq e e' fun v hv => h v (by unfold Fm.isFree at *; simp [Fm.freeBits, hv])]
  | qu k v p ih =>
    intro e e' h
    simp only [Fm.holds]
    rw [cnt_congr fun x _ => ih (upd e v x) (upd e' v x) fun u hu => ?_]
    by_cases huv : u = v
    · subst huv; rw [upd_same, upd_same]
    · rw [upd_other huv, upd_other huv]; exact h u ((free_qu k v p u).2 ⟨hu, huv⟩)

/-- a structure that is turned into another one: the same formulas are true of the elements that are turned -/
theorem holds_iso {a b : St} (hab : a.n = b.n) {l : List Nat} (hl : l ∈ isos a b) : ∀ (f : Fm) (e : Env), (∀ v, f.isFree v → e v < b.n) → f.holds b e = f.holds a (fun v => app l (e v)) := by
  obtain ⟨h1, h2, h3⟩ := mem_isos_iff.1 hl
  intro f
  induction f with
  | tru => intros; rfl
  | fls => intros; rfl
  | pr v => intro e h; simp only [Fm.holds]; rw [h2 _ (by rw [hab]; exact h v (by simp [Fm.isFree, Fm.freeBits, bit_test]))]
  | eq v w =>
    intro e h
    have hv := h v (by simp [Fm.isFree, Fm.freeBits, bit_test])
    have hw := h w (by simp [Fm.isFree, Fm.freeBits, bit_test])
    rw [← hab] at hv hw
    simp only [Fm.holds]
    rw [Bool.eq_iff_iff, beq_iff_eq, beq_iff_eq]
    exact ⟨fun e1 => by rw [e1], fun e1 => h1.inj hv hw e1⟩
  | rel v w =>
    intro e h
    simp only [Fm.holds]
    rw [h3 _ _ (by rw [hab]; exact h v (by simp [Fm.isFree, Fm.freeBits, bit_test])) (by rw [hab]; exact h w (by simp [Fm.isFree, Fm.freeBits, bit_test]))]
  | neg p ih => intro e h; simp only [Fm.holds]; rw [ih e h]
  | con p q ihp ihq =>
    intro e h
    simp only [Fm.holds]
    rw [ihp e fun v hv => h v (by unfold Fm.isFree at *; simp [Fm.freeBits, hv]), ihq e fun v hv => h v (by unfold Fm.isFree at *; simp [Fm.freeBits, hv])]
  | dis p q ihp ihq =>
    intro e h
    simp only [Fm.holds]
    rw [ihp e fun v hv => h v (by unfold Fm.isFree at *; simp [Fm.freeBits, hv]), ihq e fun v hv => h v (by unfold Fm.isFree at *; simp [Fm.freeBits, hv])]
  | qu k v p ih =>
    intro e h
    simp only [Fm.holds]
    rw [← hab]
    congr 1
    rw [← cnt_perm h1 (fun y => p.holds a (upd (fun u => app l (e u)) v y))]
    refine cnt_congr fun x hx => ?_
    rw [ih (upd e v x) fun u hu => ?_]
    · apply holds_free
      intro u hu
      by_cases huv : u = v
      · subst huv; rw [upd_same, upd_same]
      · rw [upd_other huv, upd_other huv]
    · by_cases huv : u = v
      · subst huv; rw [upd_same, ← hab]; exact hx
      · rw [upd_other huv]; exact h u ((free_qu k v p u).2 ⟨hu, huv⟩)

/-- pushed negations -/
theorem holds_push (a : St) : ∀ (f : Fm) (b : Bool) (e : Env), (f.push b).holds a e = (if b then !(f.holds a e) else f.holds a e) := by
  intro f
  induction f with
  | tru => intro b e; cases b <;> rfl
  | fls => intro b e; cases b <;> rfl
  | pr v => intro b e; cases b <;> rfl
  | eq v w => intro b e; cases b <;> rfl
  | rel v w => intro b e; cases b <;> rfl
  | neg p ih => intro b e; simp only [Fm.push, Fm.holds, ih]; cases b <;> simp
  | con p q ihp ihq => intro b e; cases b <;> simp [Fm.push, Fm.holds, ihp, ihq]
  | dis p q ihp ihq => intro b e; cases b <;> simp [Fm.push, Fm.holds, ihp, ihq]
  | qu k v p ih =>
    intro b e
    have h2 : cnt a.n (fun x => !(p.holds a (upd e v x))) + cnt a.n (fun x => p.holds a (upd e v x)) = a.n := by
      have := cnt_not a.n (fun x => p.holds a (upd e v x)); omega
    cases k <;> cases b <;> simp only [Fm.push, Fm.holds, ih, if_true, if_false, Bool.false_eq_true, Bool.not_true, Bool.not_false, Bool.not_not] <;> try rfl
    · simp only [Qn.says]
      rw [Bool.eq_iff_iff]
      simp only [decide_eq_true_eq, Bool.not_eq_true', beq_eq_false_iff_ne]
      omega
    · simp only [Qn.says]
      rw [Bool.eq_iff_iff]
      simp only [beq_iff_eq, Bool.not_eq_true', decide_eq_false_iff_not]
      omega

end Go.Proofs.YtpaleogkgfclnaaDoor

namespace Go.Proofs.YtpaleogkgfclnaaDoor
open Pl

theorem free_all (f : Fm) (v : Fin 4) (h : f.isFree v) : f.allBits.testBit v.val = true := by
  unfold Fm.isFree at h
  induction f with
  | tru => exact h
  | fls => exact h
  | pr u => exact h
  | eq u w => exact h
  | rel u w => exact h
  | neg p ih => exact ih h
  | con p q ihp ihq =>
    simp only [Fm.freeBits, Fm.allBits, Nat.testBit_or, Bool.or_eq_true] at *
    exact h.imp ihp ihq
  | dis p q ihp ihq =>
    simp only [Fm.freeBits, Fm.allBits, Nat.testBit_or, Bool.or_eq_true] at *
    exact h.imp ihp ihq
  | qu k u p ih =>
    have := (free_qu k u p v).1 h
    simp only [Fm.allBits, Nat.testBit_or, Bool.or_eq_true]
    exact .inr (ih this.1)

theorem holds_repl (a : St) (v w : Fin 4) : ∀ (f : Fm) (e : Env), f.allBits.testBit w.val = false → (f.repl v w).holds a e = f.holds a (upd e v (e w)) := by
  intro f
  induction f with
  | tru => intros; rfl
  | fls => intros; rfl
  | pr u =>
    intro e _
    simp only [Fm.repl, Fm.holds]
    by_cases h : u = v
    · subst h; rw [if_pos rfl, upd_same]
    · rw [if_neg h, upd_other h]
  | eq u t =>
    intro e _
    have hu : ∀ s : Fin 4, e (if s = v then w else s) = upd e v (e w) s := fun s => by
      unfold upd; by_cases h : s = v <;> simp [h]
    simp only [Fm.repl, Fm.holds, hu]
  | rel u t =>
    intro e _
    have hu : ∀ s : Fin 4, e (if s = v then w else s) = upd e v (e w) s := fun s => by
      unfold upd; by_cases h : s = v <;> simp [h]
    simp only [Fm.repl, Fm.holds, hu]
  | neg p ih => intro e h; simp only [Fm.repl, Fm.holds, ih e h]
  | con p q ihp ihq =>
    intro e h
    simp only [Fm.allBits, Nat.testBit_or, Bool.or_eq_false_iff] at h
    simp only [Fm.repl, Fm.holds, ihp e h.1, ihq e h.2]
  | dis p q ihp ihq =>
    intro e h
    simp only [Fm.allBits, Nat.testBit_or, Bool.or_eq_false_iff] at h
    simp only [Fm.repl, Fm.holds, ihp e h.1, ihq e h.2]
  | qu k u p ih =>
    intro e h
    simp only [Fm.allBits, Nat.testBit_or, Bool.or_eq_false_iff] at h
    have hwu : w ≠ u := by
      rintro rfl
      have := h.1
      rw [bit_test] at this
      simp at this
    simp only [Fm.repl]
    by_cases hu : u = v
    · subst hu
      rw [if_pos rfl]
      refine holds_free a _ _ _ fun t ht => ?_
      have := (free_qu k u p t).1 ht
      rw [upd_other this.2]
    · rw [if_neg hu]
      simp only [Fm.holds]
      rw [cnt_congr fun x _ => ?_]
      rw [ih _ h.2, upd_other hwu]
      congr 1
      funext t
      unfold upd
      by_cases h1 : t = v
      · subst h1; simp [Ne.symm hu]
      · by_cases h2 : t = u <;> simp [h1, h2, hu]

theorem cnt_two {n : Nat} {p : Nat → Bool} : 2 ≤ cnt n p ↔ ∃ x y, x < n ∧ y < n ∧ x ≠ y ∧ p x = true ∧ p y = true := by
  constructor
  · intro h
    unfold cnt at h
    have hnd : ((List.range n).filter p).Nodup := List.nodup_range.filter _
    match hl : (List.range n).filter p, h, hnd with
    | x :: y :: t, _, hnd =>
      have hx : x ∈ (List.range n).filter p := by rw [hl]; simp
      have hy : y ∈ (List.range n).filter p := by rw [hl]; simp
      obtain ⟨h1, h2⟩ := List.mem_filter.1 hx
      obtain ⟨h3, h4⟩ := List.mem_filter.1 hy
      have hne : x ≠ y := by
        rintro rfl
        exact (List.nodup_cons.1 hnd).1 (by simp)
      exact ⟨x, y, List.mem_range.1 h1, List.mem_range.1 h3, hne, h2, h4⟩
  · rintro ⟨x, y, hx, hy, hne, h1, h2⟩
    have := nodup_len_le [x, y] ((List.range n).filter p) (by simp [hne]) (fun z hz => by
      simp only [List.mem_cons, List.not_mem_nil, or_false] at hz
      rcases hz with rfl | rfl
      · exact List.mem_filter.2 ⟨List.mem_range.2 hx, h1⟩
      · exact List.mem_filter.2 ⟨List.mem_range.2 hy, h2⟩)
    exact this

theorem holds_two (a : St) (p : Fm) (v w : Fin 4) (e : Env) (hw : p.allBits.testBit w.val = false) (hv : v ≠ w) :
    (Fm.qu .S v (.qu .S w (.con (.neg (.eq v w)) (.con p (p.repl v w))))).holds a e = (Fm.qu .c2 v p).holds a e := by
  rw [Bool.eq_iff_iff]
  have hL : (Fm.qu .S v (.qu .S w (.con (.neg (.eq v w)) (.con p (p.repl v w))))).holds a e = decide (0 < cnt a.n fun x => decide (0 < cnt a.n fun y => (!(upd (upd e v x) w y v == upd (upd e v x) w y w) && (p.holds a (upd (upd e v x) w y) && (p.repl v w).holds a (upd (upd e v x) w y))))) := rfl
  have hR : (Fm.qu .c2 v p).holds a e = decide (2 ≤ cnt a.n fun x => p.holds a (upd e v x)) := rfl
  rw [hL, hR, decide_eq_true_eq, decide_eq_true_eq, cnt_pos, cnt_two]
  have h1 : ∀ x y, p.holds a (upd (upd e v x) w y) = p.holds a (upd e v x) := fun x y => holds_free a p _ _ fun u hu => by
    rw [upd_other]
    rintro rfl
    rw [free_all p u hu] at hw
    cases hw
  have h2 : ∀ x y, (p.repl v w).holds a (upd (upd e v x) w y) = p.holds a (upd e v y) := fun x y => by
    rw [holds_repl a v w p _ hw, upd_same]
    refine holds_free a p _ _ fun u hu => ?_
    have huw : u ≠ w := by rintro rfl; rw [free_all p u hu] at hw; cases hw
    unfold upd
    by_cases huv : u = v
    · simp [huv]
    · simp [huv, huw]
  constructor
  · rintro ⟨x, hx, h⟩
    replace h := cnt_pos.1 (of_decide_eq_true h)
    obtain ⟨y, hy, h⟩ := h
    simp only [Bool.and_eq_true, Bool.not_eq_true', beq_eq_false_iff_ne] at h
    rw [h1, h2, upd_same, upd_other hv, upd_same] at h
    exact ⟨x, y, hx, hy, h.1, h.2.1, h.2.2⟩
  · rintro ⟨x, y, hx, hy, hne, g1, g2⟩
    refine ⟨x, hx, decide_eq_true (cnt_pos.2 ⟨y, hy, ?_⟩)⟩
    simp only [Bool.and_eq_true, Bool.not_eq_true', beq_eq_false_iff_ne]
    rw [h1, h2, upd_same, upd_other hv, upd_same]
    exact ⟨hne, g1, g2⟩

theorem holds_spell (a : St) : ∀ (f g : Fm), f.spell = some g → ∀ e, g.holds a e = f.holds a e := by
  intro f
  induction f with
  | tru => intro g h e; simp [Fm.spell] at h; subst h; rfl
  | fls => intro g h e; simp [Fm.spell] at h; subst h; rfl
  | pr v => intro g h e; simp [Fm.spell] at h; subst h; rfl
  | eq v w => intro g h e; simp [Fm.spell] at h; subst h; rfl
  | rel v w => intro g h e; simp [Fm.spell] at h; subst h; rfl
  | neg p ih =>
    intro g h e
    simp only [Fm.spell] at h
    split at h
    · rename_i p' hp
      injection h with h; subst h
      simp only [Fm.holds, ih p' hp]
    · cases h
  | con p q ihp ihq =>
    intro g h e
    simp only [Fm.spell] at h
    split at h
    · rename_i p' hp
      split at h
      · rename_i q' hq
        injection h with h; subst h
        simp only [Fm.holds, ihp p' hp, ihq q' hq]
      · cases h
    · cases h
  | dis p q ihp ihq =>
    intro g h e
    simp only [Fm.spell] at h
    split at h
    · rename_i p' hp
      split at h
      · rename_i q' hq
        injection h with h; subst h
        simp only [Fm.holds, ihp p' hp, ihq q' hq]
      · cases h
    · cases h
  | qu k v p ih =>
    intro g h e
    cases k with
    | c3 => simp [Fm.spell] at h
    | c4 => simp [Fm.spell] at h
    | A =>
      simp only [Fm.spell] at h
      split at h
      · rename_i p' hp
        injection h with h; subst h
        simp only [Fm.holds, ih p' hp]
      · cases h
    | S =>
      simp only [Fm.spell] at h
      split at h
      · rename_i p' hp
        injection h with h; subst h
        simp only [Fm.holds, ih p' hp]
      · cases h
    | c2 =>
      simp only [Fm.spell] at h
      split at h
      · rename_i p' hp
        split at h
        · rename_i w hw
          injection h with h; subst h
          obtain ⟨hw1, hw2⟩ := freshV_some hw
          rw [holds_two a p' v w e hw1 hw2]
          simp only [Fm.holds, ih p' hp]
        · cases h
      · cases h

theorem repl_rank (v w : Fin 4) (f : Fm) : (f.repl v w).rank = f.rank := by
  induction f with
  | qu k u p ih => by_cases h : u = v <;> simp [Fm.repl, Fm.rank, h, ih]
  | neg p ih => simp [Fm.repl, Fm.rank, ih]
  | con p q ihp ihq => simp [Fm.repl, Fm.rank, ihp, ihq]
  | dis p q ihp ihq => simp [Fm.repl, Fm.rank, ihp, ihq]
  | _ => simp [Fm.repl, Fm.rank]

theorem repl_counts (v w : Fin 4) (f : Fm) : (f.repl v w).counts = f.counts := by
  induction f with
  | qu k u p ih => by_cases h : u = v <;> simp [Fm.repl, Fm.counts, h, ih]
  | neg p ih => simp [Fm.repl, Fm.counts, ih]
  | con p q ihp ihq => simp [Fm.repl, Fm.counts, ihp, ihq]
  | dis p q ihp ihq => simp [Fm.repl, Fm.counts, ihp, ihq]
  | _ => simp [Fm.repl, Fm.counts]

theorem repl_free {v w : Fin 4} {f : Fm} (hw : f.allBits.testBit w.val = false) (u : Fin 4) (huv : u ≠ v) (huw : u ≠ w) : (f.repl v w).isFree u ↔ f.isFree u := by
  have hb : ∀ s t : Fin 4, (1 <<< s.val).testBit t.val = decide (s = t) := bit_test
  unfold Fm.isFree
  induction f with
  | tru => rfl
  | fls => rfl
  | pr s =>
    by_cases h : s = v
    · subst h; simp [Fm.repl, Fm.freeBits, hb, Ne.symm huv, Ne.symm huw, -Nat.testBit_shiftLeft]
    · simp [Fm.repl, h]
  | eq s t =>
    by_cases h : s = v <;> by_cases h2 : t = v <;> simp [Fm.repl, Fm.freeBits, hb, h, h2, Ne.symm huv, Ne.symm huw, -Nat.testBit_shiftLeft]
  | rel s t =>
    by_cases h : s = v <;> by_cases h2 : t = v <;> simp [Fm.repl, Fm.freeBits, hb, h, h2, Ne.symm huv, Ne.symm huw, -Nat.testBit_shiftLeft]
  | neg p ih => exact ih hw
  | con p q ihp ihq =>
    simp only [Fm.allBits, Nat.testBit_or, Bool.or_eq_false_iff] at hw
    simp only [Fm.repl, Fm.freeBits, Nat.testBit_or, Bool.or_eq_true]
    exact or_congr (ihp hw.1) (ihq hw.2)
  | dis p q ihp ihq =>
    simp only [Fm.allBits, Nat.testBit_or, Bool.or_eq_false_iff] at hw
    simp only [Fm.repl, Fm.freeBits, Nat.testBit_or, Bool.or_eq_true]
    exact or_congr (ihp hw.1) (ihq hw.2)
  | qu k s p ih =>
    simp only [Fm.allBits, Nat.testBit_or, Bool.or_eq_false_iff] at hw
    simp only [Fm.repl]
    by_cases h : s = v
    · rw [if_pos h]
    · rw [if_neg h]
      have h1 := free_qu k s (p.repl v w) u
      have h2 := free_qu k s p u
      unfold Fm.isFree at h1 h2
      rw [h1, h2]
      exact and_congr_left' (ih hw.2)

theorem two_free {p : Fm} {v w : Fin 4} (hw : p.allBits.testBit w.val = false) (u : Fin 4) :
    (Fm.qu .S v (.qu .S w (.con (.neg (.eq v w)) (.con p (p.repl v w))))).isFree u ↔ (Fm.qu .c2 v p).isFree u := by
  rw [free_qu, free_qu, free_qu]
  constructor
  · rintro ⟨⟨h, huw⟩, huv⟩
    refine ⟨?_, huv⟩
    unfold Fm.isFree at h
    simp only [Fm.freeBits, Nat.testBit_or, bit_test, Bool.or_eq_true, decide_eq_true_eq] at h
    rcases h with (h | h) | h | h
    · exact absurd h.symm huv
    · exact absurd h.symm huw
    · exact h
    · exact (repl_free hw u huv huw).1 h
  · rintro ⟨h, huv⟩
    have huw : u ≠ w := by rintro rfl; rw [free_all p u h] at hw; cases hw
    refine ⟨⟨?_, huw⟩, huv⟩
    unfold Fm.isFree at h ⊢
    simp only [Fm.freeBits, Nat.testBit_or, Bool.or_eq_true]
    exact .inr (.inl h)

theorem spell_facts : ∀ (f g : Fm), f.spell = some g → g.rank = f.rank ∧ g.counts = false ∧ (∀ u, g.isFree u ↔ f.isFree u) ∧ ∀ u : Fin 4, f.allBits.testBit u.val = true → g.allBits.testBit u.val = true := by
  intro f
  induction f with
  | tru => intro g h; simp [Fm.spell] at h; subst h; exact ⟨rfl, rfl, fun _ => Iff.rfl, fun _ h => h⟩
  | fls => intro g h; simp [Fm.spell] at h; subst h; exact ⟨rfl, rfl, fun _ => Iff.rfl, fun _ h => h⟩
  | pr v => intro g h; simp [Fm.spell] at h; subst h; exact ⟨rfl, rfl, fun _ => Iff.rfl, fun _ h => h⟩
  | eq v w => intro g h; simp [Fm.spell] at h; subst h; exact ⟨rfl, rfl, fun _ => Iff.rfl, fun _ h => h⟩
  | rel v w => intro g h; simp [Fm.spell] at h; subst h; exact ⟨rfl, rfl, fun _ => Iff.rfl, fun _ h => h⟩
  | neg p ih =>
    intro g h
    simp only [Fm.spell] at h
    split at h
    · rename_i p' hp
      injection h with h; subst h
      exact ih p' hp
    · cases h
  | con p q ihp ihq =>
    intro g h
    simp only [Fm.spell] at h
    split at h
    · rename_i p' hp
      split at h
      · rename_i q' hq
        injection h with h; subst h
        obtain ⟨a1, a2, a3, a4⟩ := ihp p' hp
        obtain ⟨b1, b2, b3, b4⟩ := ihq q' hq
        refine ⟨by simp only [Fm.rank, a1, b1], by simp only [Fm.counts, a2, b2]; rfl, fun u => ?_, fun u hu => ?_⟩
        · have c1 := a3 u; have c2 := b3 u
          unfold Fm.isFree at *
          simp only [Fm.freeBits, Nat.testBit_or, Bool.or_eq_true, c1, c2]
        · simp only [Fm.allBits, Nat.testBit_or, Bool.or_eq_true] at hu ⊢
          exact hu.imp (a4 u) (b4 u)
      · cases h
    · cases h
  | dis p q ihp ihq =>
    intro g h
    simp only [Fm.spell] at h
    split at h
    · rename_i p' hp
      split at h
      · rename_i q' hq
        injection h with h; subst h
        obtain ⟨a1, a2, a3, a4⟩ := ihp p' hp
        obtain ⟨b1, b2, b3, b4⟩ := ihq q' hq
        refine ⟨by simp only [Fm.rank, a1, b1], by simp only [Fm.counts, a2, b2]; rfl, fun u => ?_, fun u hu => ?_⟩
        · have c1 := a3 u; have c2 := b3 u
          unfold Fm.isFree at *
          simp only [Fm.freeBits, Nat.testBit_or, Bool.or_eq_true, c1, c2]
        · simp only [Fm.allBits, Nat.testBit_or, Bool.or_eq_true] at hu ⊢
          exact hu.imp (a4 u) (b4 u)
      · cases h
    · cases h
  | qu k v p ih =>
    intro g h
    have one : ∀ (k : Qn) (p' : Fm), p.spell = some p' → isCoB k.b = false → (Fm.qu k v p').rank = (Fm.qu k v p).rank ∧ (Fm.qu k v p').counts = false ∧ (∀ u, (Fm.qu k v p').isFree u ↔ (Fm.qu k v p).isFree u) ∧ ∀ u : Fin 4, (Fm.qu k v p).allBits.testBit u.val = true → (Fm.qu k v p').allBits.testBit u.val = true := by
      intro k p' hp hk
      obtain ⟨a1, a2, a3, a4⟩ := ih p' hp
      refine ⟨by simp only [Fm.rank, a1], by simp only [Fm.counts, a2, hk]; rfl, fun u => ?_, fun u hu => ?_⟩
      · rw [free_qu, free_qu, a3]
      · simp only [Fm.allBits, Nat.testBit_or, Bool.or_eq_true] at hu ⊢
        exact hu.imp id (a4 u)
    cases k with
    | c3 => simp [Fm.spell] at h
    | c4 => simp [Fm.spell] at h
    | A =>
      simp only [Fm.spell] at h
      split at h
      · rename_i p' hp
        injection h with h; subst h
        exact one .A p' hp rfl
      · cases h
    | S =>
      simp only [Fm.spell] at h
      split at h
      · rename_i p' hp
        injection h with h; subst h
        exact one .S p' hp rfl
      · cases h
    | c2 =>
      simp only [Fm.spell] at h
      split at h
      · rename_i p' hp
        split at h
        · rename_i w hw
          injection h with h; subst h
          obtain ⟨hw1, hw2⟩ := freshV_some hw
          obtain ⟨a1, a2, a3, a4⟩ := ih p' hp
          refine ⟨?_, ?_, fun u => ?_, fun u hu => ?_⟩
          · simp only [Fm.rank, repl_rank, a1, Qn.n]; omega
          · simp only [Fm.counts, repl_counts, a2]; rfl
          · rw [two_free hw1, free_qu, free_qu, a3]
          · simp only [Fm.allBits, Nat.testBit_or, Bool.or_eq_true] at hu ⊢
            rcases hu with hu | hu
            · exact .inl hu
            · exact .inr (.inr (.inr (.inl (a4 u hu))))
        · cases h
      · cases h

theorem push_facts (f : Fm) : ∀ b, (f.push b).rank = f.rank ∧ ∀ u, (f.push b).isFree u ↔ f.isFree u := by
  induction f with
  | neg p ih => intro b; exact ih (!b)
  | con p q ihp ihq =>
    intro b
    obtain ⟨a1, a2⟩ := ihp b
    obtain ⟨b1, b2⟩ := ihq b
    have h : ∀ u, ((p.push b).freeBits ||| (q.push b).freeBits).testBit u = (p.freeBits ||| q.freeBits).testBit u ∨ 4 ≤ u := by
      intro u
      by_cases hu : u < 4
      · left
        have c1 := a2 ⟨u, hu⟩; have c2 := b2 ⟨u, hu⟩
        unfold Fm.isFree at c1 c2
        rw [Nat.testBit_or, Nat.testBit_or, Bool.eq_iff_iff, Bool.or_eq_true, Bool.or_eq_true, c1, c2]
      · right; omega
    refine ⟨by cases b <;> simp [Fm.push, Fm.rank, a1, b1], fun u => ?_⟩
    have := h u.val
    have hu := u.isLt
    rcases this with h1 | h1
    · unfold Fm.isFree; cases b <;> simp [Fm.push, Fm.freeBits, -Nat.testBit_or, h1]
    · omega
  | dis p q ihp ihq =>
    intro b
    obtain ⟨a1, a2⟩ := ihp b
    obtain ⟨b1, b2⟩ := ihq b
    have h : ∀ u, ((p.push b).freeBits ||| (q.push b).freeBits).testBit u = (p.freeBits ||| q.freeBits).testBit u ∨ 4 ≤ u := by
      intro u
      by_cases hu : u < 4
      · left
        have c1 := a2 ⟨u, hu⟩; have c2 := b2 ⟨u, hu⟩
        unfold Fm.isFree at c1 c2
        rw [Nat.testBit_or, Nat.testBit_or, Bool.eq_iff_iff, Bool.or_eq_true, Bool.or_eq_true, c1, c2]
      · right; omega
    refine ⟨by cases b <;> simp [Fm.push, Fm.rank, a1, b1], fun u => ?_⟩
    have := h u.val
    have hu := u.isLt
    rcases this with h1 | h1
    · unfold Fm.isFree; cases b <;> simp [Fm.push, Fm.freeBits, -Nat.testBit_or, h1]
    · omega
  | qu k v p ih =>
    intro b
    have hq : ∀ (k k' : Qn) (c : Bool) (u : Fin 4), (Fm.qu k v (p.push c)).isFree u ↔ (Fm.qu k' v p).isFree u := fun k k' c u => by
      rw [free_qu, free_qu, (ih c).2 u]
    cases k <;> cases b <;> exact ⟨by simp [Fm.push, Fm.rank, Qn.n, (ih true).1, (ih false).1], fun u => by first | exact hq .A .A _ u | exact hq .S .A _ u | exact hq .A .S _ u | exact hq .S .S _ u | exact hq .c2 .c2 _ u | exact hq .c3 .c3 _ u | exact hq .c4 .c4 _ u⟩
  | tru => intro b; cases b <;> exact ⟨rfl, fun _ => Iff.rfl⟩
  | fls => intro b; cases b <;> exact ⟨rfl, fun _ => Iff.rfl⟩
  | pr v => intro b; cases b <;> exact ⟨rfl, fun _ => Iff.rfl⟩
  | eq v w => intro b; cases b <;> exact ⟨rfl, fun _ => Iff.rfl⟩
  | rel v w => intro b; cases b <;> exact ⟨rfl, fun _ => Iff.rfl⟩

end Go.Proofs.YtpaleogkgfclnaaDoor

namespace Go.Proofs.YtpaleogkgfclnaaDoor
namespace Pl

theorem part_iso {a : St} {m : List Nat} (hm : IsPerm a.n m) : m ∈ isos a (a.part m) := by
  have hl := hm.len
  refine mem_isos_iff.2 ⟨hm, fun i hi => ?_, fun i j hi hj => ?_⟩
  · unfold St.part
    rw [mkSt_inS (by omega)]
    rfl
  · unfold St.part
    rw [mkSt_inR (by omega) (by omega)]
    rfl

/-- an element, and behind it all others -/
def frontL (n x : Nat) : List Nat := x :: (List.range n).filter fun y => y != x

theorem front_perm {n x : Nat} (hx : x < n) : IsPerm n (frontL n x) := by
  have hnd : (frontL n x).Nodup := by
    unfold frontL
    rw [List.nodup_cons]
    exact ⟨by simp, List.nodup_range.filter _⟩
  have hlt : ∀ y ∈ frontL n x, y < n := by
    intro y hy
    unfold frontL at hy
    rcases List.mem_cons.1 hy with rfl | hy
    · exact hx
    · exact List.mem_range.1 (List.mem_filter.1 hy).1
  refine ⟨?_, hnd, hlt⟩
  have h := nodup_len_eq hnd (List.nodup_range (n := n)) (fun y => ⟨fun hy => List.mem_range.2 (hlt y hy), fun hy => by
    unfold frontL
    by_cases e : y = x
    · subst e; simp
    · exact List.mem_cons_of_mem _ (List.mem_filter.2 ⟨hy, by simpa using e⟩)⟩)
  simpa using h

/-- the elements that the reference finds -/
def orbS (a : St) (x : Nat) : List Nat := (List.range a.n).filter fun y => a.inS y == a.inS x && (a.inR y y == a.inR x x && !(shapes a (a.part (frontL a.n x)) (a.n - 1) [y]).isEmpty)

theorem orbS_eq {a : St} {x : Nat} (hx : x < a.n) : orbS a x = orbL a.n (isos a a) x := by
  unfold orbS orbL
  refine List.filter_congr fun y hy => ?_
  have hy := List.mem_range.1 hy
  have hm := front_perm hx
  have hmi := part_iso (a := a) hm
  have hml := hm.len
  have hbn : (a.part (frontL a.n x)).n = a.n := hml
  have hab : a.n = (a.part (frontL a.n x)).n := hbn.symm
  have h0 : 0 < a.n := by omega
  have hm0 : app (frontL a.n x) 0 = x := rfl
  obtain ⟨_, hmS, hmR⟩ := mem_isos_iff.1 hmi
  rw [Bool.eq_iff_iff]
  simp only [Bool.and_eq_true, beq_iff_eq, Bool.not_eq_true', List.any_eq_true]
  constructor
  · rintro ⟨h1, h2, h3⟩
    obtain ⟨l, hl⟩ : ∃ l, l ∈ shapes a (a.part (frontL a.n x)) (a.n - 1) [y] := by
      cases hs : shapes a (a.part (frontL a.n x)) (a.n - 1) [y] with
      | nil => rw [hs] at h3; cases h3
      | cons l L => exact ⟨l, by simp⟩
    have hf : Fits a (a.part (frontL a.n x)) [y] := by
      refine ⟨by simp, by simpa using hy, fun i hi => ?_, fun i j hi hj => ?_⟩
      · simp only [List.length_singleton] at hi
        obtain rfl : i = 0 := by omega
        rw [← hmS 0 h0, hm0, ← h1]; rfl
      · simp only [List.length_singleton] at hi hj
        obtain rfl : i = 0 := by omega
        obtain rfl : j = 0 := by omega
        rw [← hmR 0 0 h0 h0, hm0, ← h2]; rfl
    obtain ⟨t, rfl, ht, hfl⟩ := (mem_shapes _ _ _ hf).1 hl
    have hli : [y] ++ t ∈ isos a (a.part (frontL a.n x)) := mem_isos.2 ⟨by simp [ht]; omega, hfl⟩
    refine ⟨_, iso_comp hab hli (iso_inv hab hmi), ?_⟩
    have e : app (inv (frontL a.n x)) x = 0 := by
      have := inv_app hm h0
      rwa [hm0] at this
    rw [app_comp (by rw [len_inv, hml]; exact hx), e]
    rfl
  · rintro ⟨l, hl, rfl⟩
    obtain ⟨hp, hS, hR⟩ := mem_isos_iff.1 hl
    refine ⟨hS x hx, hR x x hx hx, ?_⟩
    have hli := iso_comp rfl hl hmi
    have hlen : (comp l (frontL a.n x)).length = a.n := by rw [len_comp, hml]
    have happ : app (comp l (frontL a.n x)) 0 = app l x := by rw [app_comp (by rw [hml]; exact h0), hm0]
    obtain ⟨t, ht⟩ : ∃ t, comp l (frontL a.n x) = app l x :: t := by
      cases hc : comp l (frontL a.n x) with
      | nil => rw [hc] at hlen; simp at hlen; omega
      | cons z t => rw [hc] at happ; exact ⟨t, by rw [show z = app l x from happ]⟩
    rw [ht] at hli hlen
    obtain ⟨_, hfit⟩ := mem_isos.1 hli
    have hmem : app l x :: t ∈ shapes a (a.part (frontL a.n x)) (a.n - 1) [app l x] :=
      (mem_shapes _ _ _ (Fits.prefix t (by simpa using hfit))).2 ⟨t, rfl, by simp at hlen; omega, hfit⟩
    cases hs : shapes a (a.part (frontL a.n x)) (a.n - 1) [app l x] with
    | nil => rw [hs] at hmem; cases hmem
    | cons l L => rfl

end Pl
end Go.Proofs.YtpaleogkgfclnaaDoor

namespace Go.Proofs.YtpaleogkgfclnaaDoor
namespace Pl

theorem mkSt_congr {n : Nat} {f f' : Nat → Bool} {g g' : Nat → Nat → Bool} (hf : ∀ x, x < n → f x = f' x) (hg : ∀ x y, x < n → y < n → g x y = g' x y) : mkSt n f g = mkSt n f' g' := by
  have e1 : ((List.range n).map fun x => bitB (f x)) = (List.range n).map fun x => bitB (f' x) :=
    List.map_congr_left fun x hx => by rw [hf x (List.mem_range.1 hx)]
  have e2 : ((List.range n).flatMap fun x => (List.range n).map fun y => bitB (g x y)) = (List.range n).flatMap fun x => (List.range n).map fun y => bitB (g' x y) := by
    rw [List.flatMap_def, List.flatMap_def]
    congr 1
    exact List.map_congr_left fun x hx => List.map_congr_left fun y hy => by rw [hg x y (List.mem_range.1 hx) (List.mem_range.1 hy)]
  unfold mkSt
  rw [e1, e2]

theorem getD_lt' {l : List Nat} {n : Nat} (h : ∀ x ∈ l, x < n) {i : Nat} (hi : i < l.length) : l.getD i 0 < n := h _ (app_mem hi)

theorem part_part {a : St} {l m : List Nat} (hm : ∀ x ∈ m, x < l.length) : (a.part l).part m = a.part (comp l m) := by
  unfold St.part
  rw [len_comp]
  have e : ∀ x, x < m.length → (comp l m).getD x 0 = l.getD (m.getD x 0) 0 := fun x hx => app_comp hx
  refine mkSt_congr (fun x hx => ?_) (fun x y hx hy => ?_)
  · rw [mkSt_inS (getD_lt' hm hx), e x hx]
  · rw [mkSt_inR (getD_lt' hm hx) (getD_lt' hm hy), e x hx, e y hy]

theorem part_range {a : St} (ha : a.ok) : a.part (List.range a.n) = a := by
  have e : ∀ x, x < a.n → (List.range a.n).getD x 0 = x := fun x hx => app_range hx
  have h : a.part (List.range a.n) = mkSt a.n a.inS a.inR := by
    unfold St.part
    rw [List.length_range]
    exact mkSt_congr (fun x hx => by rw [e x hx]) (fun x y hx hy => by rw [e x hx, e y hy])
  rw [h, mkSt_self ha]

theorem part_inv {a : St} (ha : a.ok) {l : List Nat} (hl : IsPerm a.n l) : (a.part l).part (inv l) = a := by
  rw [part_part (fun x hx => by rw [hl.len]; exact hl.inv.lt x hx), comp_inv hl, part_range ha]

theorem part_ok {a : St} {l : List Nat} (h1 : 1 ≤ l.length) (h8 : l.length ≤ 8) : (a.part l).ok := mkSt_ok h1 h8

theorem iso_part {a b : St} (ha : a.ok) (hb : b.ok) (hab : a.n = b.n) {l : List Nat} (hl : l ∈ isos a b) : a.part l = b := by
  obtain ⟨hp, h1, h2⟩ := mem_isos_iff.1 hl
  have h := ha.lo
  have h' := ha.hi
  refine St.ext' (part_ok (by rw [hp.len]; exact h) (by rw [hp.len]; exact h')) hb (by rw [← hab]; exact hp.len) (fun x hx => ?_) (fun x y hx hy => ?_)
  · have hx' : x < l.length := hx
    rw [show (a.part l).inS x = a.inS (app l x) from mkSt_inS hx']
    exact h1 x (by rw [← hp.len]; exact hx')
  · have hx' : x < l.length := hx
    have hy' : y < l.length := hy
    rw [show (a.part l).inR x y = a.inR (app l x) (app l y) from mkSt_inR hx' hy']
    exact h2 x y (by rw [← hp.len]; exact hx') (by rw [← hp.len]; exact hy')

theorem part_n {a : St} (l : List Nat) : (a.part l).n = l.length := rfl
theorem other_ok {a : St} (ha : a.ok) : a.other.ok := mkSt_ok ha.lo ha.hi
theorem turn_ok {a : St} (ha : a.ok) : a.turn.ok := mkSt_ok ha.lo ha.hi
theorem other_inS {a : St} {x : Nat} (h : x < a.n) : a.other.inS x = !a.inS x := mkSt_inS h
theorem other_inR {a : St} {x y : Nat} (h : x < a.n) (h2 : y < a.n) : a.other.inR x y = !a.inR x y := mkSt_inR h h2
theorem turn_inS {a : St} {x : Nat} (h : x < a.n) : a.turn.inS x = a.inS x := mkSt_inS h
theorem turn_inR {a : St} {x y : Nat} (h : x < a.n) (h2 : y < a.n) : a.turn.inR x y = a.inR y x := mkSt_inR h h2

theorem other_other {a : St} (ha : a.ok) : a.other.other = a := by
  refine St.ext' (other_ok (other_ok ha)) ha rfl (fun x hx => ?_) (fun x y hx hy => ?_)
  · rw [other_inS (show x < a.other.n from hx), other_inS (show x < a.n from hx), Bool.not_not]
  · rw [other_inR (show x < a.other.n from hx) (show y < a.other.n from hy), other_inR (show x < a.n from hx) (show y < a.n from hy), Bool.not_not]
theorem turn_turn {a : St} (ha : a.ok) : a.turn.turn = a := by
  refine St.ext' (turn_ok (turn_ok ha)) ha rfl (fun x hx => ?_) (fun x y hx hy => ?_)
  · rw [turn_inS (show x < a.turn.n from hx), turn_inS (show x < a.n from hx)]
  · rw [turn_inR (show x < a.turn.n from hx) (show y < a.turn.n from hy), turn_inR (show y < a.n from hy) (show x < a.n from hx)]
theorem other_turn (a : St) : a.other.turn = a.turn.other := by
  show mkSt a.n a.other.inS (fun x y => a.other.inR y x) = mkSt a.n (fun x => !a.turn.inS x) (fun x y => !a.turn.inR x y)
  exact mkSt_congr (fun x hx => by rw [other_inS hx, turn_inS hx]) (fun x y hx hy => by rw [other_inR hy hx, turn_inR hx hy])

theorem isos_other {a b : St} (hab : a.n = b.n) {l : List Nat} : l ∈ isos a.other b.other ↔ l ∈ isos a b := by
  rw [mem_isos_iff, mem_isos_iff]
  show (IsPerm a.n l ∧ (∀ i, i < a.n → a.other.inS (app l i) = b.other.inS i) ∧ ∀ i j, i < a.n → j < a.n → a.other.inR (app l i) (app l j) = b.other.inR i j) ↔ _
  refine and_congr_right fun hp => ?_
  refine and_congr (forall_congr' fun i => forall_congr' fun hi => ?_) (forall_congr' fun i => forall_congr' fun j => forall_congr' fun hi => forall_congr' fun hj => ?_)
  · rw [other_inS (hp.app_lt hi), other_inS (by rw [← hab]; exact hi)]
    cases a.inS (app l i) <;> cases b.inS i <;> simp
  · rw [other_inR (hp.app_lt hi) (hp.app_lt hj), other_inR (by rw [← hab]; exact hi) (by rw [← hab]; exact hj)]
    cases a.inR (app l i) (app l j) <;> cases b.inR i j <;> simp
theorem isos_turn {a b : St} (hab : a.n = b.n) {l : List Nat} : l ∈ isos a.turn b.turn ↔ l ∈ isos a b := by
  rw [mem_isos_iff, mem_isos_iff]
  show (IsPerm a.n l ∧ (∀ i, i < a.n → a.turn.inS (app l i) = b.turn.inS i) ∧ ∀ i j, i < a.n → j < a.n → a.turn.inR (app l i) (app l j) = b.turn.inR i j) ↔ _
  refine and_congr_right fun hp => ?_
  constructor
  · rintro ⟨h1, h2⟩
    exact ⟨fun i hi => by have := h1 i hi; rwa [turn_inS (hp.app_lt hi), turn_inS (by rw [← hab]; exact hi)] at this,
      fun i j hi hj => by have := h2 j i hj hi; rwa [turn_inR (hp.app_lt hj) (hp.app_lt hi), turn_inR (by rw [← hab]; exact hj) (by rw [← hab]; exact hi)] at this⟩
  · rintro ⟨h1, h2⟩
    exact ⟨fun i hi => by rw [turn_inS (hp.app_lt hi), turn_inS (by rw [← hab]; exact hi)]; exact h1 i hi,
      fun i j hi hj => by rw [turn_inR (hp.app_lt hi) (hp.app_lt hj), turn_inR (by rw [← hab]; exact hi) (by rw [← hab]; exact hj)]; exact h2 j i hj hi⟩
theorem sym_other (a : St) : (isos a.other a.other).length = (isos a a).length := nodup_len_eq (isos_nodup _ _) (isos_nodup _ _) fun _ => isos_other rfl
theorem sym_turn (a : St) : (isos a.turn a.turn).length = (isos a a).length := nodup_len_eq (isos_nodup _ _) (isos_nodup _ _) fun _ => isos_turn rfl
theorem isos_ne_sym {a b : St} (hab : a.n = b.n) : (isos b a).isEmpty = (isos a b).isEmpty := by
  have key : ∀ {a b : St}, a.n = b.n → (isos a b).isEmpty = true → (isos b a).isEmpty = true := fun {a b} hab h => by
    rw [List.isEmpty_iff] at h ⊢
    apply List.eq_nil_iff_forall_not_mem.2
    intro l hl
    have := iso_inv hab.symm hl
    rw [h] at this
    cases this
  rw [Bool.eq_iff_iff]
  exact ⟨key hab.symm, key hab⟩
theorem isos_ne_other {a b : St} (hab : a.n = b.n) : (isos a.other b.other).isEmpty = (isos a b).isEmpty := by
  rw [Bool.eq_iff_iff, List.isEmpty_iff, List.isEmpty_iff, List.eq_nil_iff_forall_not_mem, List.eq_nil_iff_forall_not_mem]
  exact forall_congr' fun l => not_congr (isos_other hab)
theorem sym_pos (a : St) : 0 < (isos a a).length := List.length_pos_of_mem (iso_refl a)

/-- orbits -/
theorem orb_self {n : Nat} {G : List (List Nat)} (hG : Grp n G) {x : Nat} (hx : x < n) : x ∈ orbL n G x := (mem_orbL hG hx).2 ⟨_, hG.one, app_range hx⟩

theorem orb_sub {n : Nat} {G : List (List Nat)} (hG : Grp n G) {x y : Nat} (hx : x < n) (hy : y ∈ orbL n G x) {z : Nat} (hz : z ∈ orbL n G y) : z ∈ orbL n G x := by
  obtain ⟨l, hl, rfl⟩ := (mem_orbL hG hx).1 hy
  have hyn := (hG.perm l hl).app_lt hx
  obtain ⟨m, hm, rfl⟩ := (mem_orbL hG hyn).1 hz
  exact (mem_orbL hG hx).2 ⟨_, hG.comp m hm l hl, app_comp (by rw [(hG.perm l hl).len]; exact hx)⟩
theorem orb_sym {n : Nat} {G : List (List Nat)} (hG : Grp n G) {x y : Nat} (hx : x < n) (hy : y ∈ orbL n G x) : x ∈ orbL n G y := by
  obtain ⟨l, hl, rfl⟩ := (mem_orbL hG hx).1 hy
  exact (mem_orbL hG ((hG.perm l hl).app_lt hx)).2 ⟨_, hG.inv l hl, inv_app (hG.perm l hl) hx⟩
theorem orb_lt {n : Nat} {G : List (List Nat)} {x y : Nat} (hy : y ∈ orbL n G x) : y < n := List.mem_range.1 (List.mem_filter.1 hy).1
theorem orb_ext {n : Nat} {G : List (List Nat)} {x y : Nat} (h : ∀ z, z ∈ orbL n G x ↔ z ∈ orbL n G y) : orbL n G x = orbL n G y := by
  unfold orbL
  apply List.filter_congr
  intro z hz
  have h1 := h z
  unfold orbL at h1
  rw [List.mem_filter, List.mem_filter] at h1
  rw [Bool.eq_iff_iff]
  exact ⟨fun e => (h1.1 ⟨hz, e⟩).2, fun e => (h1.2 ⟨hz, e⟩).2⟩
/-- an element is in an orbit exactly if it has the same -/
theorem orb_iff {n : Nat} {G : List (List Nat)} (hG : Grp n G) {x y : Nat} (hx : x < n) (hy : y < n) : y ∈ orbL n G x ↔ orbL n G y = orbL n G x := by
  constructor
  · intro h
    exact orb_ext fun z => ⟨fun hz => orb_sub hG hx h hz, fun hz => orb_sub hG hy (orb_sym hG hx h) hz⟩
  · intro h
    rw [← h]
    exact orb_self hG hy
theorem orb_inS {a : St} {x y : Nat} (hx : x < a.n) (hy : y ∈ orbL a.n (isos a a) x) : a.inS y = a.inS x := by
  obtain ⟨l, hl, rfl⟩ := (mem_orbL (aut_grp a) hx).1 hy
  exact (mem_isos_iff.1 hl).2.1 x hx
theorem orb_pos {n : Nat} {G : List (List Nat)} (hG : Grp n G) {x : Nat} (hx : x < n) : 0 < (orbL n G x).length := List.length_pos_of_mem (orb_self hG hx)

/-- every second number below a number -/
def half (n : Nat) : List Nat := (List.range ((n + 1) / 2)).map fun i => 2 * i
def halfTo (k : Nat) : List Nat := (List.range k).map fun i => 2 * i
theorem halfTo_succ (k : Nat) : halfTo (k + 1) = halfTo k ++ [2 * k] := by unfold halfTo; rw [List.range_succ, List.map_append]; rfl
theorem halfTo_len (k : Nat) : (halfTo k).length = k := by simp [halfTo]
theorem halfTo_lt {k n : Nat} (h : 2 * k ≤ n + 1) : ∀ x ∈ halfTo k, x < n := by
  intro x hx
  obtain ⟨i, hi, rfl⟩ := List.mem_map.1 hx
  have := List.mem_range.1 hi
  omega
theorem halfTo_nodup (k : Nat) : (halfTo k).Nodup := map_nodup _ List.nodup_range fun x _ y _ e => by omega
theorem comp_halfTo_succ (l : List Nat) (k : Nat) : comp l (halfTo (k + 1)) = comp l (halfTo k) ++ [app l (2 * k)] := by unfold comp; rw [halfTo_succ, List.map_append]; rfl
theorem comp_lt {n : Nat} {l m : List Nat} (hl : ∀ x ∈ l, x < n) (hm : ∀ x ∈ m, x < l.length) : ∀ x ∈ comp l m, x < n := by
  intro x hx
  obtain ⟨i, hi, rfl⟩ := List.mem_map.1 hx
  exact hl _ (app_mem (hm i hi))
theorem app_inj_nodup {l : List Nat} (h : l.Nodup) {x y : Nat} (hx : x < l.length) (hy : y < l.length) (e : app l x = app l y) : x = y := by
  unfold app at e
  simp only [List.getD_eq_getElem?_getD, List.getElem?_eq_getElem hx, List.getElem?_eq_getElem hy, Option.getD_some] at e
  have hp := List.pairwise_iff_getElem.1 h
  rcases Nat.lt_trichotomy x y with hlt | heq | hlt
  · exact absurd e (hp x y hx hy hlt)
  · exact heq
  · exact absurd e.symm (hp y x hy hx hlt)
theorem comp_nodup {l m : List Nat} (hl : l.Nodup) (hm : m.Nodup) (hlt : ∀ x ∈ m, x < l.length) : (comp l m).Nodup :=
  map_nodup _ hm fun x hx y hy e => app_inj_nodup hl (hlt x hx) (hlt y hy) e

/-- the order that undoes another one, filled from the left -/
def backTo (l : List Nat) (n k : Nat) : List Nat := (List.range n).map fun y => if l.idxOf y < k then l.idxOf y else 0
theorem backTo_zero (l : List Nat) (n : Nat) : backTo l n 0 = List.replicate n 0 := by
  unfold backTo
  apply List.ext_getElem (by simp)
  intro i h1 h2
  simp
theorem backTo_len (l : List Nat) (n k : Nat) : (backTo l n k).length = n := by simp [backTo]
theorem backTo_succ {l : List Nat} {n k : Nat} (h : IsPerm n l) (hk : k < n) : backTo l n (k + 1) = (backTo l n k).set (app l k) k := by
  apply List.ext_getElem (by simp [backTo])
  intro i h1 h2
  simp only [backTo, List.length_map, List.length_range] at h1
  have hkl : k < l.length := by rw [h.len]; exact hk
  have hal : app l k = l[k] := by simp [app, List.getD, hkl]
  rw [List.getElem_set]
  by_cases e : app l k = i
  · rw [if_pos e]
    have hi : l.idxOf i = k := by
      rw [← e, hal]
      exact h.nodup.idxOf_getElem k hkl
    simp [backTo, hi]
  · rw [if_neg e]
    have hne : l.idxOf i ≠ k := fun h3 => e (by
      have h4 := (app_idx (h.mem h1)).2
      rw [h3] at h4
      exact h4)
    simp only [backTo, List.getElem_map, List.getElem_range]
    by_cases hlt : l.idxOf i < k
    · rw [if_pos hlt, if_pos (by omega)]
    · rw [if_neg hlt, if_neg (by omega)]
theorem backTo_all {l : List Nat} {n : Nat} (h : IsPerm n l) : backTo l n n = inv l := by
  unfold backTo inv
  rw [h.len]
  apply List.map_congr_left
  intro y hy
  rw [if_pos (by have := (app_idx (h.mem (List.mem_range.1 hy))).1; rwa [h.len] at this)]

end Pl
end Go.Proofs.YtpaleogkgfclnaaDoor

namespace Go.Proofs.YtpaleogkgfclnaaDoor
open Go.RowKit
open Pl
set_option linter.unusedSimpArgs false
set_option linter.unusedVariables false

/-- the variable with a number -/
def vf (i : Nat) : Fin 4 := ⟨i % 4, Nat.mod_lt _ (by decide)⟩
theorem vf_val {i : Nat} (h : i < 4) : (vf i).val = i := Nat.mod_eq_of_lt h
theorem vf_inj {i j : Nat} (hi : i < 4) (hj : j < 4) (h : vf i = vf j) : i = j := by
  have := congrArg Fin.val h
  rwa [vf_val hi, vf_val hj] at this
theorem vf_fin (v : Fin 4) : vf v.val = v := Fin.ext (vf_val v.isLt)
/-- a fact as it is true or not -/
def sgn (b : Bool) (f : Fm) : Fm := if b then f else .neg f
theorem sgn_holds (b : Bool) (f : Fm) (a : St) (e : Env) : (sgn b f).holds a e = (f.holds a e == b) := by
  cases b with
  | true => show f.holds a e = _; cases f.holds a e <;> rfl
  | false => show (!(f.holds a e)) = _; cases f.holds a e <;> rfl
def conF : List Fm → Fm
  | [] => .tru
  | [f] => f
  | f :: g :: r => .con f (conF (g :: r))
def disF : List Fm → Fm
  | [] => .fls
  | [f] => f
  | f :: g :: r => .dis f (disF (g :: r))
theorem conF_holds (a : St) (e : Env) : ∀ L : List Fm, (conF L).holds a e = L.all fun f => f.holds a e := by
  intro L
  induction L with
  | nil => rfl
  | cons f L ih =>
    cases L with
    | nil => simp [conF]
    | cons g r => show (f.holds a e && (conF (g :: r)).holds a e) = _; rw [ih]; rfl
theorem disF_holds (a : St) (e : Env) : ∀ L : List Fm, (disF L).holds a e = L.any fun f => f.holds a e := by
  intro L
  induction L with
  | nil => rfl
  | cons f L ih =>
    cases L with
    | nil => simp [disF]
    | cons g r => show (f.holds a e || (disF (g :: r)).holds a e) = _; rw [ih]; rfl
/-- the facts of an element and those before it -/
def factsAt (S : Nat → Bool) (R Q : Nat → Nat → Bool) (i : Nat) : List Fm :=
  [sgn (S i) (.pr (vf i)), sgn (R i i) (.rel (vf i) (vf i))] ++ (List.range i).flatMap fun k => [sgn (Q i k) (.eq (vf k) (vf i)), sgn (R k i) (.rel (vf k) (vf i)), sgn (R i k) (.rel (vf i) (vf k))]
def factsTo (S : Nat → Bool) (R Q : Nat → Nat → Bool) (n : Nat) : List Fm := (List.range n).flatMap (factsAt S R Q)
theorem facts_at (S : Nat → Bool) (R Q : Nat → Nat → Bool) (i : Nat) (b : St) (e : Env) : ((factsAt S R Q i).all fun f => f.holds b e) = true ↔
    (b.inS (e (vf i)) = S i ∧ b.inR (e (vf i)) (e (vf i)) = R i i) ∧ ∀ k, k < i → (e (vf k) == e (vf i)) = Q i k ∧ b.inR (e (vf k)) (e (vf i)) = R k i ∧ b.inR (e (vf i)) (e (vf k)) = R i k := by
  unfold factsAt
  simp only [List.all_append, List.all_cons, List.all_nil, List.all_flatMap, sgn_holds, Fm.holds, Bool.and_eq_true, List.all_eq_true, List.mem_range, beq_iff_eq, Bool.and_true]
theorem facts_to (S : Nat → Bool) (R Q : Nat → Nat → Bool) (n : Nat) (b : St) (e : Env) : ((factsTo S R Q n).all fun f => f.holds b e) = true ↔
    (∀ i, i < n → b.inS (e (vf i)) = S i) ∧ (∀ i j, i < n → j < n → b.inR (e (vf i)) (e (vf j)) = R i j) ∧ ∀ i k, i < n → k < i → (e (vf k) == e (vf i)) = Q i k := by
  unfold factsTo
  rw [List.all_flatMap, List.all_eq_true]
  simp only [List.mem_range, facts_at]
  constructor
  · intro h
    refine ⟨fun i hi => (h i hi).1.1, fun i j hi hj => ?_, fun i k hi hk => ((h i hi).2 k hk).1⟩
    rcases Nat.lt_trichotomy i j with hlt | rfl | hlt
    · exact ((h j hj).2 i hlt).2.1
    · exact (h i hi).1.2
    · exact ((h i hi).2 j hlt).2.2
  · rintro ⟨h1, h2, h3⟩ i hi
    exact ⟨⟨h1 i hi, h2 i i hi hi⟩, fun k hk => ⟨h3 i k hi hk, h2 k i (by omega) hi, h2 i k hi (by omega)⟩⟩
/-- the description of n elements, and that there are no others -/
def desF (n : Nat) (S : Nat → Bool) (R Q : Nat → Nat → Bool) : Fm :=
  if n = 4 then conF (factsTo S R Q n) else .con (conF (factsTo S R Q n)) (.qu .A (vf n) (disF ((List.range n).map fun i => .eq (vf i) (vf n))))
theorem des_holds {n : Nat} (hn : n ≤ 4) (S : Nat → Bool) (R Q : Nat → Nat → Bool) (b : St) (e : Env) : (desF n S R Q).holds b e = true ↔
    ((factsTo S R Q n).all fun f => f.holds b e) = true ∧ (n < 4 → ∀ z, z < b.n → ∃ i, i < n ∧ e (vf i) = z) := by
  unfold desF
  by_cases h4 : n = 4
  · rw [if_pos h4, conF_holds]
    exact ⟨fun h => ⟨h, fun h2 => by omega⟩, fun h => h.1⟩
  · rw [if_neg h4]
    show ((conF _).holds b e && (Qn.A.says b.n (cnt b.n fun z => (disF _).holds b (upd e (vf n) z)))) = true ↔ _
    rw [conF_holds, Bool.and_eq_true]
    refine and_congr Iff.rfl ?_
    show ((cnt b.n fun z => (disF _).holds b (upd e (vf n) z)) == b.n) = true ↔ _
    rw [beq_iff_eq, cnt_all]
    constructor
    · intro h _ z hz
      have := h z hz
      rw [disF_holds, List.any_eq_true] at this
      obtain ⟨f, hf, hh⟩ := this
      obtain ⟨i, hi, rfl⟩ := List.mem_map.1 hf
      have hi := List.mem_range.1 hi
      refine ⟨i, hi, ?_⟩
      have h2 : (upd e (vf n) z (vf i) == upd e (vf n) z (vf n)) = true := hh
      rwa [upd_same, upd_other (fun e => by have := vf_inj (by omega) (by omega) e; omega), beq_iff_eq] at h2
    · intro h z hz
      obtain ⟨i, hi, rfl⟩ := h (by omega) z hz
      rw [disF_holds, List.any_eq_true]
      refine ⟨_, List.mem_map.2 ⟨i, List.mem_range.2 hi, rfl⟩, ?_⟩
      show (upd e (vf n) _ (vf i) == upd e (vf n) _ (vf n)) = true
      rw [upd_same, upd_other (fun e => by have := vf_inj (by omega) (by omega) e; omega)]
      simp
/-- some elements for k variables from one on -/
def exF : Nat → Nat → Fm → Fm
  | _, 0, q => q
  | j, k + 1, q => .qu .S (vf j) (exF (j + 1) k q)
theorem ex_holds (b : St) (q : Fm) : ∀ (k j : Nat) (e : Env), j + k ≤ 4 → ((exF j k q).holds b e = true ↔
    ∃ e' : Env, (∀ i, i < 4 → i < j ∨ j + k ≤ i → e' (vf i) = e (vf i)) ∧ (∀ i, j ≤ i → i < j + k → e' (vf i) < b.n) ∧ q.holds b e' = true) := by
  intro k
  induction k with
  | zero =>
    intro j e _
    constructor
    · intro h; exact ⟨e, fun _ _ _ => rfl, fun i h1 h2 => by omega, h⟩
    · rintro ⟨e', h1, _, h3⟩
      have : e' = e := by
        funext v
        have := h1 v.val v.isLt (by omega)
        rwa [vf_fin] at this
      rw [← this]; exact h3
  | succ k ih =>
    intro j e hj
    show decide (0 < cnt b.n fun x => (exF (j + 1) k q).holds b (upd e (vf j) x)) = true ↔ _
    rw [decide_eq_true_eq, cnt_pos]
    constructor
    · rintro ⟨x, hx, h⟩
      obtain ⟨e', h1, h2, h3⟩ := (ih (j + 1) _ (by omega)).1 h
      refine ⟨e', fun i hi ho => ?_, fun i hi hi2 => ?_, h3⟩
      · rw [h1 i hi (by omega), upd_other (fun e => by have := vf_inj hi (by omega) e; omega)]
      · by_cases hij : i = j
        · subst hij
          rw [h1 i (by omega) (by omega), upd_same]; exact hx
        · exact h2 i (by omega) (by omega)
    · rintro ⟨e', h1, h2, h3⟩
      refine ⟨e' (vf j), h2 j (Nat.le_refl _) (by omega), (ih (j + 1) _ (by omega)).2 ⟨e', fun i hi ho => ?_, fun i hi hi2 => h2 i (by omega) (by omega), h3⟩⟩
      by_cases hij : i = j
      · subst hij; rw [upd_same]
      · rw [upd_other (fun e => by have := vf_inj hi (by omega) e; exact hij this)]
        exact h1 i hi (by omega)
def noQ : Nat → Nat → Bool := fun _ _ => false
/-- the list of the elements that the variables have -/
def envTo (e : Env) (n : Nat) : List Nat := (List.range n).map fun i => e (vf i)
theorem envTo_app (e : Env) {n i : Nat} (h : i < n) : app (envTo e n) i = e (vf i) := by
  unfold app envTo
  rw [List.getD_eq_getElem?_getD, List.getElem?_map, List.getElem?_range h]
  rfl
/-- the description of a structure is true exactly for the orders that turn the other one into it -/
theorem des_iso {b c : St} (hn4 : c.n ≤ 4) (e : Env) (he : ∀ i, i < c.n → e (vf i) < b.n) (hl : c.n < 4 ∨ b.n = c.n) :
    (desF c.n c.inS c.inR noQ).holds b e = true ↔ b.n = c.n ∧ envTo e c.n ∈ isos b c := by
  rw [des_holds hn4, facts_to]
  constructor
  · rintro ⟨⟨h1, h2, h3⟩, h4⟩
    have hnd : (envTo e c.n).Nodup := nodup_of_inj (n := c.n) (by simp [envTo]) fun x y hx hy hxy => by
      rw [envTo_app e hx, envTo_app e hy] at hxy
      rcases Nat.lt_trichotomy x y with hlt | rfl | hlt
      · have := h3 y x hy hlt; rw [hxy] at this; simp [noQ] at this
      · rfl
      · have := h3 x y hx hlt; rw [hxy] at this; simp [noQ] at this
    have hlt : ∀ z ∈ envTo e c.n, z < b.n := fun z hz => by
      obtain ⟨i, hi, rfl⟩ := List.mem_map.1 hz
      exact he i (List.mem_range.1 hi)
    have hle : c.n ≤ b.n := by
      have := nodup_len_le (envTo e c.n) (List.range b.n) hnd fun z hz => List.mem_range.2 (hlt z hz)
      simpa [envTo] using this
    have hge : b.n ≤ c.n := by
      rcases hl with h | h
      · have := nodup_len_le (List.range b.n) (envTo e c.n) List.nodup_range fun z hz => by
          obtain ⟨i, hi, rfl⟩ := h4 h z (List.mem_range.1 hz)
          exact List.mem_map.2 ⟨i, List.mem_range.2 hi, rfl⟩
        simpa [envTo] using this
      · omega
    have hbc : b.n = c.n := by omega
    refine ⟨hbc, mem_isos_iff.2 ⟨⟨by simp [envTo, hbc], hnd, hlt⟩, fun i hi => ?_, fun i j hi hj => ?_⟩⟩
    · rw [envTo_app e (by omega)]; exact h1 i (by omega)
    · rw [envTo_app e (by omega), envTo_app e (by omega)]; exact h2 i j (by omega) (by omega)
  · rintro ⟨hbc, hm⟩
    obtain ⟨hp, h1, h2⟩ := mem_isos_iff.1 hm
    refine ⟨⟨fun i hi => ?_, fun i j hi hj => ?_, fun i k hi hk => ?_⟩, fun _ z hz => ?_⟩
    · have := h1 i (by omega); rwa [envTo_app e hi] at this
    · have := h2 i j (by omega) (by omega); rwa [envTo_app e hi, envTo_app e hj] at this
    · show _ = false
      rw [beq_eq_false_iff_ne]
      intro heq
      have := hp.inj (x := k) (y := i) (by omega) (by omega) (by rw [envTo_app e (by omega), envTo_app e hi, heq])
      omega
    · obtain ⟨i, hi, hh⟩ := List.mem_map.1 (hp.mem hz)
      exact ⟨i, List.mem_range.1 hi, hh⟩
/-- elements for the variables out of an order -/
def envOf (l : List Nat) : Env := fun v => app l v.val
theorem envOf_to {l : List Nat} {n : Nat} (hl : l.length = n) (hn : n ≤ 4) : envTo (envOf l) n = l := by
  refine app_ext (n := n) (by simp [envTo]) hl fun x hx => ?_
  rw [envTo_app _ hx]
  unfold envOf
  rw [vf_val (by omega)]
/-- the description of a structure -/
def dstF (a : St) : Fm := exF 0 a.n (desF a.n a.inS a.inR noQ)
theorem dst_holds {a b : St} (h3 : a.n ≤ 3) (e : Env) : (dstF a).holds b e = true ↔ b.n = a.n ∧ ∃ m, m ∈ isos b a := by
  unfold dstF
  rw [ex_holds b _ a.n 0 e (by omega)]
  constructor
  · rintro ⟨e', _, h2, h4⟩
    obtain ⟨h5, h6⟩ := (des_iso (by omega) e' (fun i hi => h2 i (Nat.zero_le _) (by omega)) (.inl (by omega))).1 h4
    exact ⟨h5, _, h6⟩
  · rintro ⟨hn, m, hm⟩
    have hp := iso_perm hm
    have e1 : envTo (envOf m) a.n = m := envOf_to (by rw [hp.len, hn]) (by omega)
    refine ⟨fun v => if v.val < a.n then envOf m v else e v, fun i hi ho => ?_, fun i _ hi => ?_, ?_⟩
    · have : ¬ (vf i).val < a.n := by rw [vf_val hi]; omega
      show (if (vf i).val < a.n then _ else _) = _
      rw [if_neg this]
    · show (if (vf i).val < a.n then _ else _) < _
      rw [if_pos (by rw [vf_val (by omega)]; omega)]
      unfold envOf
      rw [vf_val (by omega)]
      exact hp.app_lt (by omega)
    · have e2 : envTo (fun v => if v.val < a.n then envOf m v else e v) a.n = m := by
        refine app_ext (n := a.n) (by simp [envTo]) (by rw [hp.len, hn]) fun x hx => ?_
        rw [envTo_app _ hx]
        show (if (vf x).val < a.n then _ else _) = _
        rw [if_pos (by rw [vf_val (by omega)]; omega)]
        unfold envOf
        rw [vf_val (by omega)]
      refine (des_iso (by omega) _ (fun i hi => ?_) (.inl (by omega))).2 ⟨hn, by rw [e2]; exact hm⟩
      show (if (vf i).val < a.n then _ else _) < _
      rw [if_pos (by rw [vf_val (by omega)]; omega)]
      unfold envOf
      rw [vf_val (by omega)]
      exact hp.app_lt (by omega)
/-- the description of an element of the order's structure -/
def delF (c : St) : Fm := exF 1 (c.n - 1) (desF c.n c.inS c.inR noQ)
theorem del_holds {b c : St} (h1 : 1 ≤ c.n) (h4 : c.n ≤ 4) (hl : c.n < 4 ∨ b.n = c.n) (e : Env) (he : e 0 < b.n) : (delF c).holds b e = true ↔ b.n = c.n ∧ ∃ m, m ∈ isos b c ∧ app m 0 = e 0 := by
  unfold delF
  rw [ex_holds b _ (c.n - 1) 1 e (by omega)]
  have v0 : vf 0 = 0 := rfl
  constructor
  · rintro ⟨e', h1', h2, h5⟩
    have h0 := h1' 0 (by omega) (.inl (by omega))
    rw [v0] at h0
    have hlt : ∀ i, i < c.n → e' (vf i) < b.n := fun i hi => by
      by_cases hi0 : i = 0
      · subst hi0; rw [v0, h0]; exact he
      · exact h2 i (by omega) (by omega)
    obtain ⟨h5, h6⟩ := (des_iso h4 e' hlt hl).1 h5
    exact ⟨h5, _, h6, by rw [envTo_app _ (by omega), v0, h0]⟩
  · rintro ⟨hn, m, hm, hm0⟩
    have hp := iso_perm hm
    have e1 : envTo (envOf m) c.n = m := envOf_to (by rw [hp.len, hn]) (by omega)
    have ee : ∀ i, i < c.n → (if (vf i).val < c.n then envOf m (vf i) else e (vf i)) = app m i := fun i hi => by
      rw [if_pos (by rw [vf_val (by omega)]; omega)]
      unfold envOf
      rw [vf_val (by omega)]
    refine ⟨fun v => if v.val < c.n then envOf m v else e v, fun i hi ho => ?_, fun i _ hi => ?_, ?_⟩
    · by_cases hi0 : i = 0
      · subst hi0
        show (if (vf 0).val < c.n then _ else _) = _
        rw [ee 0 (by omega), v0, hm0]
      · have : ¬ (vf i).val < c.n := by rw [vf_val hi]; omega
        show (if (vf i).val < c.n then _ else _) = _
        rw [if_neg this]
    · show (if (vf i).val < c.n then _ else _) < _
      rw [ee i (by omega)]
      exact hp.app_lt (by omega)
    · have e2 : envTo (fun v => if v.val < c.n then envOf m v else e v) c.n = m := by
        refine app_ext (n := c.n) (by simp [envTo]) (by rw [hp.len, hn]) fun x hx => ?_
        rw [envTo_app _ hx]
        exact ee x hx
      refine (des_iso h4 _ (fun i hi => ?_) hl).2 ⟨hn, by rw [e2]; exact hm⟩
      show (if (vf i).val < c.n then _ else _) < _
      rw [ee i hi]
      exact hp.app_lt (by omega)
/-- the description of an element is true exactly for its orbit -/
theorem del_orbit {a : St} {x y : Nat} (hx : x < a.n) (hy : y < a.n) (h4 : a.n ≤ 4) (e : Env) (he : e 0 = y) : (delF (a.part (frontL a.n x))).holds a e = true ↔ y ∈ orbL a.n (isos a a) x := by
  have hm := front_perm hx
  have hmi := part_iso (a := a) hm
  have hcn : (a.part (frontL a.n x)).n = a.n := hm.len
  have hm0 : app (frontL a.n x) 0 = x := rfl
  rw [del_holds (by rw [hcn]; omega) (by rw [hcn]; exact h4) (.inr hcn.symm) e (by rw [he]; exact hy), mem_orbL (aut_grp a) hx, he]
  constructor
  · rintro ⟨_, m, hm1, h0⟩
    have hinv := iso_inv hcn.symm hmi
    refine ⟨comp m (inv (frontL a.n x)), iso_comp hcn.symm hm1 hinv, ?_⟩
    rw [app_comp (by rw [len_inv, hm.len]; exact hx)]
    have := inv_app hm (x := 0) (by omega)
    rw [hm0] at this
    rw [this, h0]
  · rintro ⟨l, hl, h0⟩
    refine ⟨hcn.symm, comp l (frontL a.n x), iso_comp rfl hl hmi, ?_⟩
    rw [app_comp (by rw [hm.len]; omega), hm0, h0]
theorem del_shape {a b : St} {x : Nat} (hx : x < a.n) (h4 : a.n < 4) (e : Env) (he : e 0 < b.n) (h : (delF (a.part (frontL a.n x))).holds b e = true) : b.n = a.n ∧ ∃ m, m ∈ isos a b := by
  have hm := front_perm hx
  have hmi := part_iso (a := a) hm
  have hcn : (a.part (frontL a.n x)).n = a.n := hm.len
  obtain ⟨hn, m, hm1, _⟩ := (del_holds (by rw [hcn]; omega) (by rw [hcn]; omega) (.inl (by omega)) e he).1 h
  rw [hcn] at hn
  refine ⟨hn, _, iso_comp hcn.symm hmi (iso_inv (by rw [hcn]; exact hn) hm1)⟩
/-! what is free, the rank, no counting -/
theorem sgn_free (b : Bool) (f : Fm) : (sgn b f).freeBits = f.freeBits := by cases b <;> rfl
theorem sgn_rank (b : Bool) (f : Fm) : (sgn b f).rank = f.rank := by cases b <;> rfl
theorem sgn_counts (b : Bool) (f : Fm) : (sgn b f).counts = f.counts := by cases b <;> rfl
theorem conF_free (u : Fin 4) : ∀ L : List Fm, (conF L).isFree u ↔ ∃ f ∈ L, f.isFree u := by
  intro L
  induction L with
  | nil => simp [conF, Fm.isFree, Fm.freeBits]
  | cons f L ih =>
    cases L with
    | nil => simp [conF]
    | cons g r =>
      have : (conF (f :: g :: r)).isFree u ↔ f.isFree u ∨ (conF (g :: r)).isFree u := by
        simp only [conF, Fm.isFree, Fm.freeBits, Nat.testBit_or, Bool.or_eq_true]
      rw [this, ih]
      simp
theorem disF_free (u : Fin 4) : ∀ L : List Fm, (disF L).isFree u ↔ ∃ f ∈ L, f.isFree u := by
  intro L
  induction L with
  | nil => simp [disF, Fm.isFree, Fm.freeBits]
  | cons f L ih =>
    cases L with
    | nil => simp [disF]
    | cons g r =>
      have : (disF (f :: g :: r)).isFree u ↔ f.isFree u ∨ (disF (g :: r)).isFree u := by
        simp only [disF, Fm.isFree, Fm.freeBits, Nat.testBit_or, Bool.or_eq_true]
      rw [this, ih]
      simp
theorem conF_rank : ∀ L : List Fm, (∀ f ∈ L, f.rank = 0) → (conF L).rank = 0 := by
  intro L
  induction L with
  | nil => intro _; rfl
  | cons f L ih =>
    intro h
    cases L with
    | nil => exact h f (by simp)
    | cons g r => show max f.rank (conF (g :: r)).rank = 0; rw [ih (fun x hx => h x (List.mem_cons_of_mem _ hx)), h f (by simp)]; rfl
theorem disF_rank : ∀ L : List Fm, (∀ f ∈ L, f.rank = 0) → (disF L).rank = 0 := by
  intro L
  induction L with
  | nil => intro _; rfl
  | cons f L ih =>
    intro h
    cases L with
    | nil => exact h f (by simp)
    | cons g r => show max f.rank (disF (g :: r)).rank = 0; rw [ih (fun x hx => h x (List.mem_cons_of_mem _ hx)), h f (by simp)]; rfl
theorem conF_counts : ∀ L : List Fm, (∀ f ∈ L, f.counts = false) → (conF L).counts = false := by
  intro L
  induction L with
  | nil => intro _; rfl
  | cons f L ih =>
    intro h
    cases L with
    | nil => exact h f (by simp)
    | cons g r => show (f.counts || (conF (g :: r)).counts) = false; rw [ih (fun x hx => h x (List.mem_cons_of_mem _ hx)), h f (by simp)]; rfl
theorem disF_counts : ∀ L : List Fm, (∀ f ∈ L, f.counts = false) → (disF L).counts = false := by
  intro L
  induction L with
  | nil => intro _; rfl
  | cons f L ih =>
    intro h
    cases L with
    | nil => exact h f (by simp)
    | cons g r => show (f.counts || (disF (g :: r)).counts) = false; rw [ih (fun x hx => h x (List.mem_cons_of_mem _ hx)), h f (by simp)]; rfl
theorem facts_mem {S : Nat → Bool} {R Q : Nat → Nat → Bool} {n : Nat} {f : Fm} (h : f ∈ factsTo S R Q n) : ∃ b q, f = sgn b q ∧ ((∃ i, i < n ∧ q = .pr (vf i)) ∨ (∃ i j, i < n ∧ j < n ∧ q = .rel (vf i) (vf j)) ∨ (∃ i j, i < n ∧ j < n ∧ q = .eq (vf i) (vf j))) := by
  unfold factsTo at h
  obtain ⟨i, hi, hf⟩ := List.mem_flatMap.1 h
  have hi := List.mem_range.1 hi
  unfold factsAt at hf
  simp only [List.mem_append, List.mem_cons, List.not_mem_nil, or_false, List.mem_flatMap, List.mem_range] at hf
  rcases hf with (rfl | rfl) | ⟨k, hk, rfl | rfl | rfl⟩
  · exact ⟨_, _, rfl, .inl ⟨i, hi, rfl⟩⟩
  · exact ⟨_, _, rfl, .inr (.inl ⟨i, i, hi, hi, rfl⟩)⟩
  · exact ⟨_, _, rfl, .inr (.inr ⟨k, i, by omega, hi, rfl⟩)⟩
  · exact ⟨_, _, rfl, .inr (.inl ⟨k, i, by omega, hi, rfl⟩)⟩
  · exact ⟨_, _, rfl, .inr (.inl ⟨i, k, hi, by omega, rfl⟩)⟩
theorem facts_plain {S : Nat → Bool} {R Q : Nat → Nat → Bool} {n : Nat} {f : Fm} (h : f ∈ factsTo S R Q n) : f.rank = 0 ∧ f.counts = false ∧ (n ≤ 4 → ∀ u, f.isFree u → u.val < n) := by
  obtain ⟨b, q, rfl, ⟨i, hi, rfl⟩ | ⟨i, j, hi, hj, rfl⟩ | ⟨i, j, hi, hj, rfl⟩⟩ := facts_mem h
  · refine ⟨by rw [sgn_rank]; rfl, by rw [sgn_counts]; rfl, fun h4 u hu => ?_⟩
    unfold Fm.isFree at hu
    rw [sgn_free] at hu
    simp only [Fm.freeBits, bit_test, decide_eq_true_eq] at hu
    rw [← hu, vf_val (by omega)]; exact hi
  · refine ⟨by rw [sgn_rank]; rfl, by rw [sgn_counts]; rfl, fun h4 u hu => ?_⟩
    unfold Fm.isFree at hu
    rw [sgn_free] at hu
    simp only [Fm.freeBits, Nat.testBit_or, bit_test, Bool.or_eq_true, decide_eq_true_eq] at hu
    rcases hu with hu | hu
    · rw [← hu, vf_val (by omega)]; exact hi
    · rw [← hu, vf_val (by omega)]; exact hj
  · refine ⟨by rw [sgn_rank]; rfl, by rw [sgn_counts]; rfl, fun h4 u hu => ?_⟩
    unfold Fm.isFree at hu
    rw [sgn_free] at hu
    simp only [Fm.freeBits, Nat.testBit_or, bit_test, Bool.or_eq_true, decide_eq_true_eq] at hu
    rcases hu with hu | hu
    · rw [← hu, vf_val (by omega)]; exact hi
    · rw [← hu, vf_val (by omega)]; exact hj
theorem eqs_plain {n : Nat} {f : Fm} (h : f ∈ (List.range n).map fun i => Fm.eq (vf i) (vf n)) : f.rank = 0 ∧ f.counts = false ∧ (n < 4 → ∀ u, f.isFree u → u.val ≤ n) := by
  obtain ⟨i, hi, rfl⟩ := List.mem_map.1 h
  have hi := List.mem_range.1 hi
  refine ⟨rfl, rfl, fun h4 u hu => ?_⟩
  unfold Fm.isFree at hu
  simp only [Fm.freeBits, Nat.testBit_or, bit_test, Bool.or_eq_true, decide_eq_true_eq] at hu
  rcases hu with hu | hu
  · rw [← hu, vf_val (by omega)]; omega
  · rw [← hu, vf_val (by omega)]; omega
theorem des_facts {n : Nat} (h1 : 1 ≤ n) (h4 : n ≤ 4) (S : Nat → Bool) (R Q : Nat → Nat → Bool) : (desF n S R Q).rank = (if n = 4 then 0 else 1) ∧ (desF n S R Q).counts = false ∧ (∀ u, (desF n S R Q).isFree u → u.val < n) ∧ (desF n S R Q).isFree 0 := by
  have hc := fun (f : Fm) (h : f ∈ factsTo S R Q n) => facts_plain h
  have hcr := conF_rank _ fun f hf => (hc f hf).1
  have hcc := conF_counts _ fun f hf => (hc f hf).2.1
  have hcf : ∀ u, (conF (factsTo S R Q n)).isFree u → u.val < n := fun u hu => by
    obtain ⟨f, hf, hfu⟩ := (conF_free u _).1 hu
    exact (hc f hf).2.2 h4 u hfu
  have hc0 : (conF (factsTo S R Q n)).isFree 0 := by
    refine (conF_free 0 _).2 ⟨sgn (S 0) (.pr (vf 0)), ?_, ?_⟩
    · unfold factsTo
      exact List.mem_flatMap.2 ⟨0, List.mem_range.2 (by omega), by simp [factsAt]⟩
    · unfold Fm.isFree
      rw [sgn_free]
      decide
  unfold desF
  by_cases hn : n = 4
  · rw [if_pos hn, if_pos hn]
    exact ⟨hcr, hcc, hcf, hc0⟩
  · rw [if_neg hn, if_neg hn]
    have hd := fun (f : Fm) (h : f ∈ (List.range n).map fun i => Fm.eq (vf i) (vf n)) => eqs_plain h
    have hdr := disF_rank _ fun f hf => (hd f hf).1
    have hdc := disF_counts _ fun f hf => (hd f hf).2.1
    refine ⟨?_, ?_, fun u hu => ?_, ?_⟩
    · show max _ (_ + 1) = 1
      rw [hcr, hdr]; rfl
    · show (_ || (isCoB (Qn.A.b) || _)) = false
      rw [hcc, hdc]; rfl
    · have hu2 : (conF (factsTo S R Q n)).isFree u ∨ (Fm.qu .A (vf n) (disF ((List.range n).map fun i => .eq (vf i) (vf n)))).isFree u := by
        unfold Fm.isFree at hu ⊢
        simpa only [Fm.freeBits, Nat.testBit_or, Bool.or_eq_true] using hu
      rcases hu2 with h | h
      · exact hcf u h
      · obtain ⟨h5, h6⟩ := (free_qu _ _ _ _).1 h
        obtain ⟨f, hf, hfu⟩ := (disF_free u _).1 h5
        have h7 := (hd f hf).2.2 (by omega) u hfu
        have h8 : u.val ≠ n := fun e => h6 (by rw [← vf_fin u, e])
        omega
    · have hu2 : ∀ u, (conF (factsTo S R Q n)).isFree u → (Fm.con (conF (factsTo S R Q n)) (.qu .A (vf n) (disF ((List.range n).map fun i => .eq (vf i) (vf n))))).isFree u := fun u h => by
        unfold Fm.isFree at h ⊢
        simp only [Fm.freeBits, Nat.testBit_or, Bool.or_eq_true]
        exact .inl h
      exact hu2 0 hc0
theorem ex_facts (q : Fm) : ∀ (k j : Nat), j + k ≤ 4 → (exF j k q).rank = q.rank + k ∧ (exF j k q).counts = q.counts ∧ ∀ u : Fin 4, (exF j k q).isFree u ↔ q.isFree u ∧ (u.val < j ∨ j + k ≤ u.val) := by
  intro k
  induction k with
  | zero => intro j _; exact ⟨rfl, rfl, fun u => ⟨fun h => ⟨h, by omega⟩, fun h => h.1⟩⟩
  | succ k ih =>
    intro j hj
    obtain ⟨h1, h2, h3⟩ := ih (j + 1) (by omega)
    refine ⟨?_, ?_, fun u => ?_⟩
    · show (exF (j + 1) k q).rank + 1 = _
      rw [h1]; omega
    · show (isCoB (Qn.S.b) || (exF (j + 1) k q).counts) = _
      rw [h2]; rfl
    · show (Fm.qu .S (vf j) (exF (j + 1) k q)).isFree u ↔ _
      rw [free_qu, h3]
      constructor
      · rintro ⟨⟨h4, h5⟩, h6⟩
        have : u.val ≠ j := fun e => h6 (by rw [← vf_fin u, e])
        exact ⟨h4, by omega⟩
      · rintro ⟨h4, h5⟩
        exact ⟨⟨h4, by omega⟩, fun e => by rw [e, vf_val (by omega)] at h5; omega⟩
theorem bits_ext {m k : Nat} (hm : m < 16) (hk : k < 16) (h : ∀ u : Fin 4, m.testBit u.val = k.testBit u.val) : m = k := by
  have : ∀ m k : Fin 16, (∀ u : Fin 4, m.val.testBit u.val = k.val.testBit u.val) → m = k := by decide +kernel
  exact congrArg Fin.val (this ⟨m, hm⟩ ⟨k, hk⟩ h)
theorem dst_facts {a : St} (h1 : 1 ≤ a.n) (h3 : a.n ≤ 3) : (dstF a).rank = a.n + 1 ∧ (dstF a).counts = false ∧ (dstF a).freeBits = 0 := by
  obtain ⟨d1, d2, d3, _⟩ := des_facts h1 (by omega) a.inS a.inR noQ
  obtain ⟨e1, e2, e3⟩ := ex_facts (desF a.n a.inS a.inR noQ) a.n 0 (by omega)
  refine ⟨?_, ?_, bits_ext (freeBits_lt _) (by decide) fun u => ?_⟩
  · unfold dstF; rw [e1, d1, if_neg (by omega)]; omega
  · unfold dstF; rw [e2, d2]
  · rw [Nat.zero_testBit]
    cases h : (dstF a).freeBits.testBit u.val with
    | false => rfl
    | true =>
      have := (e3 u).1 h
      have := d3 u this.1
      omega
theorem del_facts {c : St} (h1 : 1 ≤ c.n) (h4 : c.n ≤ 4) : (delF c).freeBits = 1 := by
  obtain ⟨_, _, d3, d4⟩ := des_facts h1 h4 c.inS c.inR noQ
  obtain ⟨_, _, e3⟩ := ex_facts (desF c.n c.inS c.inR noQ) (c.n - 1) 1 (by omega)
  refine bits_ext (freeBits_lt _) (by decide) fun u => ?_
  rw [Bool.eq_iff_iff]
  have h5 := e3 u
  have h6 : (delF c).freeBits.testBit u.val = true ↔ u.val = 0 := by
    refine h5.trans ⟨fun h => ?_, fun h => ?_⟩
    · have := d3 u h.1; omega
    · have : u = 0 := Fin.ext h
      rw [this]; exact ⟨d4, .inl Nat.zero_lt_one⟩
  rw [h6]
  have h7 : ∀ u : Fin 4, u.val = 0 ↔ Nat.testBit 1 u.val = true := by decide
  exact h7 u
end Go.Proofs.YtpaleogkgfclnaaDoor
