/-
  Plain facts: orders of elements as permutations, groups of them, cosets, orbits. No condition.
-/
import Derived.Test.YtgnmlijfenjehaaDoorShapes
namespace Go.Proofs.YtgnmlijfenjehaaDoor
namespace Pl
set_option linter.unusedVariables false

theorem nodup_len_le {α : Type} [DecidableEq α] : ∀ (l m : List α), l.Nodup → (∀ x ∈ l, x ∈ m) → l.length ≤ m.length := by
  intro l
  induction l with
  | nil => intro m _ _; simp
  | cons x l ih =>
    intro m hnd hs
    obtain ⟨h1, h2⟩ := List.nodup_cons.1 hnd
    have hx := hs x (by simp)
    have h3 := ih (m.erase x) h2 (fun y hy => (List.mem_erase_of_ne (by rintro rfl; exact h1 hy)).2 (hs y (by simp [hy])))
    rw [List.length_erase_of_mem hx] at h3
    have : 0 < m.length := List.length_pos_of_mem hx
    simp only [List.length_cons]
    omega

theorem nodup_len_eq {α : Type} [DecidableEq α] {l m : List α} (hl : l.Nodup) (hm : m.Nodup) (h : ∀ x, x ∈ l ↔ x ∈ m) : l.length = m.length :=
  Nat.le_antisymm (nodup_len_le l m hl fun x hx => (h x).1 hx) (nodup_len_le m l hm fun x hx => (h x).2 hx)

/-- an order of all elements -/
structure IsPerm (n : Nat) (l : List Nat) : Prop where
  len : l.length = n
  nodup : l.Nodup
  lt : ∀ x ∈ l, x < n

def app (l : List Nat) (x : Nat) : Nat := l.getD x 0
def comp (l m : List Nat) : List Nat := m.map (app l)
def inv (l : List Nat) : List Nat := (List.range l.length).map fun y => l.idxOf y

theorem app_mem {l : List Nat} {x : Nat} (h : x < l.length) : app l x ∈ l := by
  unfold app
  simp only [List.getD_eq_getElem?_getD, List.getElem?_eq_getElem h, Option.getD_some]
  exact List.getElem_mem h

theorem IsPerm.app_lt {n : Nat} {l : List Nat} (h : IsPerm n l) {x : Nat} (hx : x < n) : app l x < n := h.lt _ (app_mem (by rw [h.len]; exact hx))

theorem IsPerm.mem {n : Nat} {l : List Nat} (h : IsPerm n l) {y : Nat} (hy : y < n) : y ∈ l := by
  rcases Classical.em (y ∈ l) with h1 | h1
  · exact h1
  · have h2 := nodup_len_le (y :: l) (List.range n) (List.nodup_cons.2 ⟨h1, h.nodup⟩) (fun x hx => by
      rcases List.mem_cons.1 hx with rfl | hx
      · exact List.mem_range.2 hy
      · exact List.mem_range.2 (h.lt x hx))
    have := h.len
    simp only [List.length_cons, List.length_range] at h2
    omega

theorem IsPerm.inj {n : Nat} {l : List Nat} (h : IsPerm n l) {x y : Nat} (hx : x < n) (hy : y < n) (e : app l x = app l y) : x = y := by
  unfold app at e
  have h1 := h.len
  simp only [List.getD_eq_getElem?_getD, List.getElem?_eq_getElem (show x < l.length by omega), List.getElem?_eq_getElem (show y < l.length by omega), Option.getD_some] at e
  have hp := List.pairwise_iff_getElem.1 h.nodup
  rcases Nat.lt_trichotomy x y with hlt | heq | hlt
  · exact absurd e (hp x y (by omega) (by omega) hlt)
  · exact heq
  · exact absurd e.symm (hp y x (by omega) (by omega) hlt)

theorem app_comp {l m : List Nat} {x : Nat} (h : x < m.length) : app (comp l m) x = app l (app m x) := by
  unfold app comp
  simp [List.getD, h, app]

theorem app_ext {n : Nat} {l m : List Nat} (h1 : l.length = n) (h2 : m.length = n) (h : ∀ x, x < n → app l x = app m x) : l = m := by
  apply List.ext_getElem (by omega)
  intro i hi hi2
  have := h i (by omega)
  unfold app at this
  simpa [List.getD, hi, hi2] using this

theorem app_idx {l : List Nat} {y : Nat} (h : y ∈ l) : l.idxOf y < l.length ∧ app l (l.idxOf y) = y := by
  have h1 := List.idxOf_lt_length_of_mem h
  refine ⟨h1, ?_⟩
  unfold app
  simp [List.getD, h1]

theorem len_comp (l m : List Nat) : (comp l m).length = m.length := by simp [comp]
theorem len_inv (l : List Nat) : (inv l).length = l.length := by simp [inv]

theorem app_inv {n : Nat} {l : List Nat} (h : IsPerm n l) {y : Nat} (hy : y < n) : app (inv l) y < n ∧ app l (app (inv l) y) = y := by
  have h1 := app_idx (h.mem hy)
  have e : app (inv l) y = l.idxOf y := by
    unfold app inv
    have := h.len
    simp [List.getD, show y < l.length by omega]
  rw [e, ← h.len]
  exact h1

theorem inv_app {n : Nat} {l : List Nat} (h : IsPerm n l) {x : Nat} (hx : x < n) : app (inv l) (app l x) = x := by
  have h1 := app_inv h (h.app_lt hx)
  exact h.inj h1.1 hx h1.2

theorem nodup_of_inj {n : Nat} {l : List Nat} (hl : l.length = n) (h : ∀ x y, x < n → y < n → app l x = app l y → x = y) : l.Nodup := by
  refine List.pairwise_iff_getElem.2 fun i j hi hj hij e => ?_
  have := h i j (by omega) (by omega) (by
    unfold app
    simp only [List.getD_eq_getElem?_getD, List.getElem?_eq_getElem hi, List.getElem?_eq_getElem hj, Option.getD_some, e])
  omega

theorem mem_app {l : List Nat} {y : Nat} (h : y ∈ l) : ∃ x, x < l.length ∧ app l x = y := ⟨_, app_idx h⟩

theorem IsPerm.of {n : Nat} {l : List Nat} (hl : l.length = n) (hlt : ∀ x, x < n → app l x < n) (h : ∀ x y, x < n → y < n → app l x = app l y → x = y) : IsPerm n l :=
  ⟨hl, nodup_of_inj hl h, fun y hy => by obtain ⟨x, hx, rfl⟩ := mem_app hy; exact hlt x (by omega)⟩

theorem IsPerm.comp {n : Nat} {l m : List Nat} (hl : IsPerm n l) (hm : IsPerm n m) : IsPerm n (comp l m) := by
  have e : ∀ x, x < n → app (Pl.comp l m) x = app l (app m x) := fun x hx => app_comp (by rw [hm.len]; exact hx)
  refine .of (by rw [len_comp, hm.len]) (fun x hx => ?_) (fun x y hx hy h => ?_)
  · rw [e x hx]; exact hl.app_lt (hm.app_lt hx)
  · rw [e x hx, e y hy] at h
    exact hm.inj hx hy (hl.inj (hm.app_lt hx) (hm.app_lt hy) h)

theorem IsPerm.inv {n : Nat} {l : List Nat} (hl : IsPerm n l) : IsPerm n (inv l) := by
  refine .of (by rw [len_inv, hl.len]) (fun x hx => (app_inv hl hx).1) (fun x y hx hy h => ?_)
  rw [← (app_inv hl hx).2, ← (app_inv hl hy).2, h]

theorem app_range {n x : Nat} (h : x < n) : app (List.range n) x = x := by
  unfold app; simp [List.getD, h]

theorem IsPerm.range (n : Nat) : IsPerm n (List.range n) := .of (by simp) (fun x hx => by rw [app_range hx]; exact hx) (fun x y hx hy h => by rwa [app_range hx, app_range hy] at h)

theorem comp_assoc {n : Nat} {l m k : List Nat} (hm : IsPerm n m) (hk : IsPerm n k) : comp (comp l m) k = comp l (comp m k) := by
  apply app_ext (n := n) (by rw [len_comp, hk.len]) (by rw [len_comp, len_comp, hk.len])
  intro x hx
  rw [app_comp (by rw [hk.len]; exact hx), app_comp (by rw [hm.len]; exact hk.app_lt hx), app_comp (by rw [len_comp, hk.len]; exact hx), app_comp (by rw [hk.len]; exact hx)]

theorem comp_inv {n : Nat} {l : List Nat} (h : IsPerm n l) : comp l (inv l) = List.range n := by
  apply app_ext (n := n) (by rw [len_comp, len_inv, h.len]) (by simp)
  intro x hx
  rw [app_comp (by rw [len_inv, h.len]; exact hx), (app_inv h hx).2, app_range hx]

theorem inv_comp {n : Nat} {l : List Nat} (h : IsPerm n l) : comp (inv l) l = List.range n := by
  apply app_ext (n := n) (by rw [len_comp, h.len]) (by simp)
  intro x hx
  rw [app_comp (by rw [h.len]; exact hx), inv_app h hx, app_range hx]

theorem comp_range {n : Nat} {l : List Nat} (h : IsPerm n l) : comp l (List.range n) = l := by
  apply app_ext (n := n) (by rw [len_comp]; simp) h.len
  intro x hx
  rw [app_comp (by simpa using hx), app_range hx]

theorem range_comp {n : Nat} {l : List Nat} (h : IsPerm n l) : comp (List.range n) l = l := by
  apply app_ext (n := n) (by rw [len_comp, h.len]) h.len
  intro x hx
  rw [app_comp (by rw [h.len]; exact hx), app_range (h.app_lt hx)]

theorem comp_left_inj {n : Nat} {g l m : List Nat} (hg : IsPerm n g) (hl : IsPerm n l) (hm : IsPerm n m) (e : comp g l = comp g m) : l = m := by
  have : comp (inv g) (comp g l) = comp (inv g) (comp g m) := by rw [e]
  rwa [← comp_assoc hg hl, ← comp_assoc hg hm, inv_comp hg, range_comp hl, range_comp hm] at this

/-- a group of orders -/
structure Grp (n : Nat) (G : List (List Nat)) : Prop where
  nodup : G.Nodup
  perm : ∀ l ∈ G, IsPerm n l
  one : List.range n ∈ G
  comp : ∀ l ∈ G, ∀ m ∈ G, Pl.comp l m ∈ G
  inv : ∀ l ∈ G, Pl.inv l ∈ G

theorem map_nodup {α β : Type} {f : α → β} : ∀ (l : List α), l.Nodup → (∀ x ∈ l, ∀ y ∈ l, f x = f y → x = y) → (l.map f).Nodup := by
  intro l
  induction l with
  | nil => intro _ _; simp
  | cons x l ih =>
    intro h hi
    obtain ⟨h1, h2⟩ := List.nodup_cons.1 h
    rw [List.map_cons, List.nodup_cons]
    refine ⟨fun hm => ?_, ih h2 (fun y hy z hz => hi y (by simp [hy]) z (by simp [hz]))⟩
    obtain ⟨y, hy, e⟩ := List.mem_map.1 hm
    have := hi y (by simp [hy]) x (by simp) e
    subst this
    exact h1 hy

theorem filter_len {α : Type} (p : α → Bool) : ∀ (l : List α), l.length = (l.filter p).length + (l.filter fun x => !p x).length := by
  intro l
  induction l with
  | nil => rfl
  | cons x l ih =>
    cases h : p x <;> simp [h] <;> omega

theorem cosets {n : Nat} {H : List (List Nat)} (hH : Grp n H) : ∀ (k : Nat) (S : List (List Nat)), S.length ≤ k → S.Nodup → (∀ g ∈ S, IsPerm n g) → (∀ g ∈ S, ∀ h ∈ H, comp g h ∈ S) → H.length ∣ S.length := by
  intro k
  induction k with
  | zero =>
    intro S hk _ _ _
    rw [Nat.le_zero.1 hk]
    exact Nat.dvd_zero _
  | succ k ih =>
    intro S hk hnd hp hc
    match S, hk, hnd, hp, hc with
    | [], _, _, _, _ => exact Nat.dvd_zero _
    | g :: S0, hk, hnd, hp, hc =>
      generalize hS : g :: S0 = S at *
      have hg : g ∈ S := by rw [← hS]; simp
      have hC : (H.map (comp g)).Nodup := map_nodup H hH.nodup fun x hx y hy e => comp_left_inj (hp g hg) (hH.perm x hx) (hH.perm y hy) e
      have hlen : (S.filter fun l => decide (l ∈ H.map (comp g))).length = H.length := by
        rw [show H.length = (H.map (comp g)).length by simp]
        refine nodup_len_eq (hnd.filter _) hC fun x => ?_
        rw [List.mem_filter]
        constructor
        · rintro ⟨_, h⟩; simpa using h
        · intro h
          refine ⟨?_, by simpa using h⟩
          obtain ⟨y, hy, rfl⟩ := List.mem_map.1 h
          exact hc g hg y hy
      have hsum := filter_len (fun l => decide (l ∈ H.map (comp g))) S
      have hpos : 0 < H.length := List.length_pos_of_mem hH.one
      have := ih (S.filter fun l => !decide (l ∈ H.map (comp g))) (by omega) (hnd.filter _) (fun x hx => hp x (List.mem_filter.1 hx).1) (fun x hx h hh => by
        obtain ⟨h1, h2⟩ := List.mem_filter.1 hx
        refine List.mem_filter.2 ⟨hc x h1 h hh, ?_⟩
        simp only [Bool.not_eq_true', decide_eq_false_iff_not] at h2 ⊢
        intro hm
        apply h2
        obtain ⟨y, hy, e⟩ := List.mem_map.1 hm
        refine List.mem_map.2 ⟨comp y (inv h), hH.comp _ hy _ (hH.inv _ hh), ?_⟩
        rw [← comp_assoc (hH.perm y hy) (hH.perm h hh).inv, e, comp_assoc (hH.perm h hh) (hH.perm h hh).inv, comp_inv (hH.perm h hh), comp_range (hp x h1)])
      rw [hsum, hlen]
      exact Nat.dvd_add (Nat.dvd_refl _) this

theorem lagrange {n : Nat} {H G : List (List Nat)} (hH : Grp n H) (hG : Grp n G) (hs : ∀ l ∈ H, l ∈ G) : H.length ∣ G.length :=
  cosets hH G.length G (Nat.le_refl _) hG.nodup hG.perm fun g hg h hh => hG.comp g hg h (hs h hh)

theorem fibers {α : Type} (key : α → Nat) (s : Nat) : ∀ (O : List Nat), O.Nodup → ∀ (S : List α), (∀ g ∈ S, key g ∈ O) → (∀ y ∈ O, (S.filter fun g => key g == y).length = s) → S.length = O.length * s := by
  intro O
  induction O with
  | nil =>
    intro _ S h _
    match S, h with
    | [], _ => simp
    | g :: S, h => exact absurd (h g (by simp)) (by simp)
  | cons y O ih =>
    intro hnd S h hf
    obtain ⟨h1, h2⟩ := List.nodup_cons.1 hnd
    have hsum := filter_len (fun g => key g == y) S
    have h3 := ih h2 (S.filter fun g => !(key g == y)) (fun g hg => by
      obtain ⟨h4, h5⟩ := List.mem_filter.1 hg
      rcases List.mem_cons.1 (h g h4) with e | e
      · simp [e] at h5
      · exact e) (fun z hz => by
      rw [← hf z (by simp [hz]), List.filter_filter]
      congr 1
      apply List.filter_congr
      intro g _
      have hzy : z ≠ y := by rintro rfl; exact h1 hz
      by_cases e : key g = z
      · simp [e, hzy]
      · simp [e])
    rw [hsum, hf y (by simp), h3, List.length_cons, Nat.succ_mul]
    omega

/-- the elements to which a group moves one -/
def orbL (n : Nat) (G : List (List Nat)) (x : Nat) : List Nat := (List.range n).filter fun y => G.any fun l => app l x == y

theorem mem_orbL {n : Nat} {G : List (List Nat)} (hG : Grp n G) {x y : Nat} (hx : x < n) : y ∈ orbL n G x ↔ ∃ l ∈ G, app l x = y := by
  unfold orbL
  rw [List.mem_filter, List.mem_range, List.any_eq_true]
  constructor
  · rintro ⟨_, l, hl, e⟩; exact ⟨l, hl, by simpa using e⟩
  · rintro ⟨l, hl, e⟩; exact ⟨by rw [← e]; exact (hG.perm l hl).app_lt hx, l, hl, by simpa using e⟩

theorem orb_dvd {n : Nat} {G : List (List Nat)} (hG : Grp n G) {x : Nat} (hx : x < n) : (orbL n G x).length ∣ G.length := by
  have hf := fibers (fun l => app l x) (G.filter fun l => app l x == x).length (orbL n G x) (List.nodup_range.filter _) G (fun g hg => (mem_orbL hG hx).2 ⟨g, hg, rfl⟩) (fun y hy => by
    obtain ⟨s, hs, rfl⟩ := (mem_orbL hG hx).1 hy
    have hps := hG.perm s hs
    apply Nat.le_antisymm
    · rw [show (G.filter fun l => app l x == app s x).length = ((G.filter fun l => app l x == app s x).map (comp (inv s))).length by simp]
      refine nodup_len_le _ _ (map_nodup _ (hG.nodup.filter _) fun a ha b hb e => comp_left_inj hps.inv (hG.perm a (List.mem_filter.1 ha).1) (hG.perm b (List.mem_filter.1 hb).1) e) fun a ha => ?_
      obtain ⟨b, hb, rfl⟩ := List.mem_map.1 ha
      obtain ⟨h1, h2⟩ := List.mem_filter.1 hb
      have h3 : app b x = app s x := by simpa using h2
      refine List.mem_filter.2 ⟨hG.comp _ (hG.inv _ hs) _ h1, ?_⟩
      rw [app_comp (by rw [(hG.perm b h1).len]; exact hx), h3, inv_app hps hx]
      simp
    · rw [show (G.filter fun l => app l x == x).length = ((G.filter fun l => app l x == x).map (comp s)).length by simp]
      refine nodup_len_le _ _ (map_nodup _ (hG.nodup.filter _) fun a ha b hb e => comp_left_inj hps (hG.perm a (List.mem_filter.1 ha).1) (hG.perm b (List.mem_filter.1 hb).1) e) fun a ha => ?_
      obtain ⟨b, hb, rfl⟩ := List.mem_map.1 ha
      obtain ⟨h1, h2⟩ := List.mem_filter.1 hb
      have h3 : app b x = x := by simpa using h2
      refine List.mem_filter.2 ⟨hG.comp _ hs _ h1, ?_⟩
      rw [app_comp (by rw [(hG.perm b h1).len]; exact hx), h3]
      simp)
  rw [hf]
  exact Nat.dvd_mul_right _ _

/-! ### isomorphisms -/

theorem iso_perm {a b : St} {l : List Nat} (h : l ∈ isos a b) : IsPerm a.n l := by
  obtain ⟨h1, h2⟩ := mem_isos.1 h
  exact ⟨h1, h2.nodup, h2.lt⟩

theorem mem_isos_iff {a b : St} {l : List Nat} : l ∈ isos a b ↔ IsPerm a.n l ∧ (∀ i, i < a.n → a.inS (app l i) = b.inS i) ∧ ∀ i j, i < a.n → j < a.n → a.inR (app l i) (app l j) = b.inR i j := by
  rw [mem_isos]
  constructor
  · rintro ⟨h1, h2⟩; exact ⟨⟨h1, h2.nodup, h2.lt⟩, fun i hi => h2.set i (by omega), fun i j hi hj => h2.rel i j (by omega) (by omega)⟩
  · rintro ⟨h1, h2, h3⟩; exact ⟨h1.len, h1.nodup, h1.lt, fun i hi => h2 i (by rw [← h1.len]; exact hi), fun i j hi hj => h3 i j (by rw [← h1.len]; exact hi) (by rw [← h1.len]; exact hj)⟩

theorem iso_comp {a b c : St} (hab : a.n = b.n) {l m : List Nat} (hl : l ∈ isos a b) (hm : m ∈ isos b c) : comp l m ∈ isos a c := by
  obtain ⟨h1, h2, h3⟩ := mem_isos_iff.1 hl
  obtain ⟨g1, g2, g3⟩ := mem_isos_iff.1 hm
  rw [← hab] at g1 g2 g3
  have e : ∀ x, x < a.n → app (comp l m) x = app l (app m x) := fun x hx => app_comp (by rw [g1.len]; exact hx)
  exact mem_isos_iff.2 ⟨h1.comp g1, fun i hi => by rw [e i hi, h2 _ (g1.app_lt hi), g2 i hi], fun i j hi hj => by rw [e i hi, e j hj, h3 _ _ (g1.app_lt hi) (g1.app_lt hj), g3 i j hi hj]⟩

theorem iso_inv {a b : St} (hab : a.n = b.n) {l : List Nat} (hl : l ∈ isos a b) : inv l ∈ isos b a := by
  obtain ⟨h1, h2, h3⟩ := mem_isos_iff.1 hl
  refine mem_isos_iff.2 ⟨by rw [← hab]; exact h1.inv, fun i hi => ?_, fun i j hi hj => ?_⟩
  · rw [← hab] at hi
    obtain ⟨g1, g2⟩ := app_inv h1 hi
    rw [← h2 _ g1, g2]
  · rw [← hab] at hi hj
    obtain ⟨g1, g2⟩ := app_inv h1 hi
    obtain ⟨g3, g4⟩ := app_inv h1 hj
    rw [← h3 _ _ g1 g3, g2, g4]

theorem iso_refl (a : St) : List.range a.n ∈ isos a a :=
  mem_isos_iff.2 ⟨.range _, fun i hi => by rw [app_range hi], fun i j hi hj => by rw [app_range hi, app_range hj]⟩

theorem aut_grp (a : St) : Grp a.n (isos a a) where
  nodup := isos_nodup a a
  perm l h := iso_perm h
  one := iso_refl a
  comp l hl m hm := iso_comp rfl hl hm
  inv l hl := iso_inv rfl hl

/-- isomorphic structures have as many symmetries -/
theorem isos_count {a b : St} (hab : a.n = b.n) {l : List Nat} (hl : l ∈ isos a b) : (isos a a).length = (isos b b).length := by
  have key : ∀ {a b : St} (_ : a.n = b.n) {l : List Nat} (_ : l ∈ isos a b), (isos a a).length ≤ (isos b b).length := by
    intro a b hab l hl
    have hli := iso_inv hab hl
    have hp := iso_perm hl
    rw [show (isos a a).length = ((isos a a).map fun m => comp (inv l) (comp m l)).length by simp]
    refine nodup_len_le _ _ (map_nodup _ (isos_nodup a a) fun x hx y hy e => ?_) fun x hx => ?_
    · have hx' := iso_perm hx
      have hy' := iso_perm hy
      have e2 := comp_left_inj hp.inv (hx'.comp hp) (hy'.comp hp) e
      have e3 : comp (comp x l) (inv l) = comp (comp y l) (inv l) := by rw [e2]
      rwa [comp_assoc hp hp.inv, comp_assoc hp hp.inv, comp_inv hp, comp_range hx', comp_range hy'] at e3
    · obtain ⟨m, hm, rfl⟩ := List.mem_map.1 hx
      exact iso_comp hab.symm hli (iso_comp rfl hm hl)
  exact Nat.le_antisymm (key hab hl) (key hab.symm (iso_inv hab hl))

/-! ### the number of all orders -/

def fact : Nat → Nat
  | 0 => 1
  | n + 1 => (n + 1) * fact n

def noSt (n : Nat) : St := mkSt n (fun _ => false) (fun _ _ => false)

theorem flatMap_len {α : Type} (f : α → List (List Nat)) (k : Nat) : ∀ (l : List α), (∀ x ∈ l, (f x).length = k) → (l.flatMap f).length = l.length * k := by
  intro l
  induction l with
  | nil => intro _; simp
  | cons x l ih =>
    intro h
    rw [List.flatMap_cons, List.length_append, h x (by simp), ih (fun y hy => h y (by simp [hy])), List.length_cons, Nat.succ_mul]
    omega

theorem flatMap_if {α : Type} (p : α → Bool) (f : α → List (List Nat)) : ∀ (l : List α), (l.flatMap fun x => if p x then f x else []) = (l.filter p).flatMap f := by
  intro l
  induction l with
  | nil => rfl
  | cons x l ih =>
    cases h : p x <;> simp [h, ih]

theorem noSt_shapes {n : Nat} : ∀ (m : Nat) (o : List Nat), o.length + m = n → o.Nodup → (∀ x ∈ o, x < n) → (shapes (noSt n) (noSt n) m o).length = fact m := by
  intro m
  induction m with
  | zero => intro o _ _ _; rfl
  | succ m ih =>
    intro o hl hnd hlt
    have hn : ∀ x, x < n → nextB (noSt n) (noSt n) o x = !o.contains x := by
      intro x hx
      have hS : ∀ y, y < n → (noSt n).inS y = false := fun y hy => mkSt_inS hy
      have hR : ∀ y z, y < n → z < n → (noSt n).inR y z = false := fun y z hy hz => mkSt_inR hy hz
      unfold nextB fitsB
      have hol : o.length < n := by omega
      have hall : ((List.range o.length).all fun k => (noSt n).inR x (o.getD k 0) == (noSt n).inR o.length k && (noSt n).inR (o.getD k 0) x == (noSt n).inR k o.length) = true := by
        rw [List.all_eq_true]
        intro k hk
        have hk' := List.mem_range.1 hk
        have hok : o.getD k 0 < n := hlt _ (by
          rw [List.getD_eq_getElem?_getD, List.getElem?_eq_getElem hk', Option.getD_some]
          exact List.getElem_mem hk')
        rw [hR _ _ hx hok, hR _ _ hol (by omega), hR _ _ hok hx, hR _ _ (by omega) hol]
        rfl
      rw [hall, hS _ hx, hS _ hol, hR _ _ hx hx, hR _ _ hol hol]
      simp
    simp only [shapes]
    rw [flatMap_if]
    have hfil : ((List.range (noSt n).n).filter (nextB (noSt n) (noSt n) o)).length = m + 1 := by
      have h1 : (List.range (noSt n).n).filter (nextB (noSt n) (noSt n) o) = (List.range n).filter fun x => !o.contains x := by
        apply List.filter_congr
        intro x hx
        exact hn x (List.mem_range.1 hx)
      rw [h1]
      have h2 := filter_len (fun x => o.contains x) (List.range n)
      have h3 : ((List.range n).filter fun x => o.contains x).length = o.length := by
        refine nodup_len_eq (List.nodup_range.filter _) hnd fun x => ?_
        rw [List.mem_filter, List.mem_range]
        simp only [List.contains_eq_mem, decide_eq_true_eq]
        exact ⟨fun h => h.2, fun h => ⟨hlt x h, h⟩⟩
      simp only [List.length_range] at h2
      omega
    rw [flatMap_len _ (fact m) _ (fun x hx => by
      obtain ⟨h1, h2⟩ := List.mem_filter.1 hx
      have hxn : x < n := List.mem_range.1 h1
      rw [hn x hxn] at h2
      have hxo : x ∉ o := by simpa using h2
      refine ih _ (by simp; omega) ?_ ?_
      · rw [List.nodup_append]
        exact ⟨hnd, by simp, fun y hy z hz => by simp only [List.mem_singleton] at hz; subst hz; rintro rfl; exact hxo hy⟩
      · intro y hy
        rcases List.mem_append.1 hy with hy | hy
        · exact hlt y hy
        · simp only [List.mem_singleton] at hy; subst hy; exact hxn), hfil]
    rfl

theorem noSt_count (n : Nat) : (isos (noSt n) (noSt n)).length = fact n := noSt_shapes n [] (by simp) (by simp) (by simp)

theorem count_dvd_fact (a : St) : (isos a a).length ∣ fact a.n := by
  rw [← noSt_count]
  refine lagrange (aut_grp a) (aut_grp (noSt a.n)) fun l hl => ?_
  have hp := iso_perm hl
  refine mem_isos_iff.2 ⟨hp, fun i hi => ?_, fun i j hi hj => ?_⟩
  · have hi2 : i < a.n := hi
    have h1 : (noSt a.n).inS (app l i) = false := mkSt_inS (f := fun _ => false) (hp.app_lt hi2)
    have h2 : (noSt a.n).inS i = false := mkSt_inS (f := fun _ => false) hi2
    rw [h1, h2]
  · have hi2 : i < a.n := hi
    have hj2 : j < a.n := hj
    have h1 : (noSt a.n).inR (app l i) (app l j) = false := mkSt_inR (g := fun _ _ => false) (hp.app_lt hi2) (hp.app_lt hj2)
    have h2 : (noSt a.n).inR i j = false := mkSt_inR (g := fun _ _ => false) hi2 hj2
    rw [h1, h2]

end Pl
end Go.Proofs.YtgnmlijfenjehaaDoor
