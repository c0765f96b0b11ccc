/-
  Plain facts, no program in sight: what the laws of structures say. No condition.
-/
import Derived.Test.YtgnmlijfenjehaaDoorOrb
namespace Go.Proofs.YtgnmlijfenjehaaDoor
namespace Pl

theorem mkSt_congr {n : Nat} {f f' : Nat → Bool} {g g' : Nat → Nat → Bool} (hf : ∀ x, x < n → f x = f' x) (hg : ∀ x y, x < n → y < n → g x y = g' x y) : mkSt n f g = mkSt n f' g' := by
  have e1 : ((List.range n).map fun x => bitB (f x)) = (List.range n).map fun x => bitB (f' x) :=
    List.map_congr_left fun x hx => by rw [hf x (List.mem_range.1 hx)]
  have e2 : ((List.range n).flatMap fun x => (List.range n).map fun y => bitB (g x y)) = (List.range n).flatMap fun x => (List.range n).map fun y => bitB (g' x y) := by
    rw [List.flatMap_def, List.flatMap_def]
    congr 1
    exact List.map_congr_left fun x hx => List.map_congr_left fun y hy => by rw [hg x y (List.mem_range.1 hx) (List.mem_range.1 hy)]
  unfold mkSt
  rw [e1, e2]

theorem getD_lt' {l : List Nat} {n : Nat} (h : ∀ x ∈ l, x < n) {i : Nat} (hi : i < l.length) : l.getD i 0 < n := h _ (app_mem hi)

theorem part_part {a : St} {l m : List Nat} (hm : ∀ x ∈ m, x < l.length) : (a.part l).part m = a.part (comp l m) := by
  unfold St.part
  rw [len_comp]
  have e : ∀ x, x < m.length → (comp l m).getD x 0 = l.getD (m.getD x 0) 0 := fun x hx => app_comp hx
  refine mkSt_congr (fun x hx => ?_) (fun x y hx hy => ?_)
  · rw [mkSt_inS (getD_lt' hm hx), e x hx]
  · rw [mkSt_inR (getD_lt' hm hx) (getD_lt' hm hy), e x hx, e y hy]

theorem part_range {a : St} (ha : a.ok) : a.part (List.range a.n) = a := by
  have e : ∀ x, x < a.n → (List.range a.n).getD x 0 = x := fun x hx => app_range hx
  have h : a.part (List.range a.n) = mkSt a.n a.inS a.inR := by
    unfold St.part
    rw [List.length_range]
    exact mkSt_congr (fun x hx => by rw [e x hx]) (fun x y hx hy => by rw [e x hx, e y hy])
  rw [h, mkSt_self ha]

theorem part_inv {a : St} (ha : a.ok) {l : List Nat} (hl : IsPerm a.n l) : (a.part l).part (inv l) = a := by
  rw [part_part (fun x hx => by rw [hl.len]; exact hl.inv.lt x hx), comp_inv hl, part_range ha]

theorem part_ok {a : St} {l : List Nat} (h1 : 1 ≤ l.length) (h8 : l.length ≤ 8) : (a.part l).ok := mkSt_ok h1 h8

theorem iso_part {a b : St} (ha : a.ok) (hb : b.ok) (hab : a.n = b.n) {l : List Nat} (hl : l ∈ isos a b) : a.part l = b := by
  obtain ⟨hp, h1, h2⟩ := mem_isos_iff.1 hl
  have h := ha.lo
  have h' := ha.hi
  refine St.ext' (part_ok (by rw [hp.len]; exact h) (by rw [hp.len]; exact h')) hb (by rw [← hab]; exact hp.len) (fun x hx => ?_) (fun x y hx hy => ?_)
  · have hx' : x < l.length := hx
    rw [show (a.part l).inS x = a.inS (app l x) from mkSt_inS hx']
    exact h1 x (by rw [← hp.len]; exact hx')
  · have hx' : x < l.length := hx
    have hy' : y < l.length := hy
    rw [show (a.part l).inR x y = a.inR (app l x) (app l y) from mkSt_inR hx' hy']
    exact h2 x y (by rw [← hp.len]; exact hx') (by rw [← hp.len]; exact hy')

theorem part_n {a : St} (l : List Nat) : (a.part l).n = l.length := rfl
theorem other_ok {a : St} (ha : a.ok) : a.other.ok := mkSt_ok ha.lo ha.hi
theorem turn_ok {a : St} (ha : a.ok) : a.turn.ok := mkSt_ok ha.lo ha.hi
theorem other_inS {a : St} {x : Nat} (h : x < a.n) : a.other.inS x = !a.inS x := mkSt_inS h
theorem other_inR {a : St} {x y : Nat} (h : x < a.n) (h2 : y < a.n) : a.other.inR x y = !a.inR x y := mkSt_inR h h2
theorem turn_inS {a : St} {x : Nat} (h : x < a.n) : a.turn.inS x = a.inS x := mkSt_inS h
theorem turn_inR {a : St} {x y : Nat} (h : x < a.n) (h2 : y < a.n) : a.turn.inR x y = a.inR y x := mkSt_inR h h2

theorem other_other {a : St} (ha : a.ok) : a.other.other = a := by
  refine St.ext' (other_ok (other_ok ha)) ha rfl (fun x hx => ?_) (fun x y hx hy => ?_)
  · rw [other_inS (show x < a.other.n from hx), other_inS (show x < a.n from hx), Bool.not_not]
  · rw [other_inR (show x < a.other.n from hx) (show y < a.other.n from hy), other_inR (show x < a.n from hx) (show y < a.n from hy), Bool.not_not]
theorem turn_turn {a : St} (ha : a.ok) : a.turn.turn = a := by
  refine St.ext' (turn_ok (turn_ok ha)) ha rfl (fun x hx => ?_) (fun x y hx hy => ?_)
  · rw [turn_inS (show x < a.turn.n from hx), turn_inS (show x < a.n from hx)]
  · rw [turn_inR (show x < a.turn.n from hx) (show y < a.turn.n from hy), turn_inR (show y < a.n from hy) (show x < a.n from hx)]
theorem other_turn (a : St) : a.other.turn = a.turn.other := by
  show mkSt a.n a.other.inS (fun x y => a.other.inR y x) = mkSt a.n (fun x => !a.turn.inS x) (fun x y => !a.turn.inR x y)
  exact mkSt_congr (fun x hx => by rw [other_inS hx, turn_inS hx]) (fun x y hx hy => by rw [other_inR hy hx, turn_inR hx hy])

theorem isos_other {a b : St} (hab : a.n = b.n) {l : List Nat} : l ∈ isos a.other b.other ↔ l ∈ isos a b := by
  rw [mem_isos_iff, mem_isos_iff]
  show (IsPerm a.n l ∧ (∀ i, i < a.n → a.other.inS (app l i) = b.other.inS i) ∧ ∀ i j, i < a.n → j < a.n → a.other.inR (app l i) (app l j) = b.other.inR i j) ↔ _
  refine and_congr_right fun hp => ?_
  refine and_congr (forall_congr' fun i => forall_congr' fun hi => ?_) (forall_congr' fun i => forall_congr' fun j => forall_congr' fun hi => forall_congr' fun hj => ?_)
  · rw [other_inS (hp.app_lt hi), other_inS (by rw [← hab]; exact hi)]
    cases a.inS (app l i) <;> cases b.inS i <;> simp
  · rw [other_inR (hp.app_lt hi) (hp.app_lt hj), other_inR (by rw [← hab]; exact hi) (by rw [← hab]; exact hj)]
    cases a.inR (app l i) (app l j) <;> cases b.inR i j <;> simp
theorem isos_turn {a b : St} (hab : a.n = b.n) {l : List Nat} : l ∈ isos a.turn b.turn ↔ l ∈ isos a b := by
  rw [mem_isos_iff, mem_isos_iff]
  show (IsPerm a.n l ∧ (∀ i, i < a.n → a.turn.inS (app l i) = b.turn.inS i) ∧ ∀ i j, i < a.n → j < a.n → a.turn.inR (app l i) (app l j) = b.turn.inR i j) ↔ _
  refine and_congr_right fun hp => ?_
  constructor
  · rintro ⟨h1, h2⟩
    exact ⟨fun i hi => by have := h1 i hi; rwa [turn_inS (hp.app_lt hi), turn_inS (by rw [← hab]; exact hi)] at this,
      fun i j hi hj => by have := h2 j i hj hi; rwa [turn_inR (hp.app_lt hj) (hp.app_lt hi), turn_inR (by rw [← hab]; exact hj) (by rw [← hab]; exact hi)] at this⟩
  · rintro ⟨h1, h2⟩
    exact ⟨fun i hi => by rw [turn_inS (hp.app_lt hi), turn_inS (by rw [← hab]; exact hi)]; exact h1 i hi,
      fun i j hi hj => by rw [turn_inR (hp.app_lt hi) (hp.app_lt hj), turn_inR (by rw [← hab]; exact hi) (by rw [← hab]; exact hj)]; exact h2 j i hj hi⟩
theorem sym_other (a : St) : (isos a.other a.other).length = (isos a a).length := nodup_len_eq (isos_nodup _ _) (isos_nodup _ _) fun _ => isos_other rfl
theorem sym_turn (a : St) : (isos a.turn a.turn).length = (isos a a).length := nodup_len_eq (isos_nodup _ _) (isos_nodup _ _) fun _ => isos_turn rfl
theorem isos_ne_sym {a b : St} (hab : a.n = b.n) : (isos b a).isEmpty = (isos a b).isEmpty := by
  have key : ∀ {a b : St}, a.n = b.n → (isos a b).isEmpty = true → (isos b a).isEmpty = true := fun {a b} hab h => by
    rw [List.isEmpty_iff] at h ⊢
    apply List.eq_nil_iff_forall_not_mem.2
    intro l hl
    have := iso_inv hab.symm hl
    rw [h] at this
    cases this
  rw [Bool.eq_iff_iff]
  exact ⟨key hab.symm, key hab⟩
theorem isos_ne_other {a b : St} (hab : a.n = b.n) : (isos a.other b.other).isEmpty = (isos a b).isEmpty := by
  rw [Bool.eq_iff_iff, List.isEmpty_iff, List.isEmpty_iff, List.eq_nil_iff_forall_not_mem, List.eq_nil_iff_forall_not_mem]
  exact forall_congr' fun l => not_congr (isos_other hab)
theorem sym_pos (a : St) : 0 < (isos a a).length := List.length_pos_of_mem (iso_refl a)

/-- orbits -/
theorem orb_self {n : Nat} {G : List (List Nat)} (hG : Grp n G) {x : Nat} (hx : x < n) : x ∈ orbL n G x := (mem_orbL hG hx).2 ⟨_, hG.one, app_range hx⟩

theorem orb_sub {n : Nat} {G : List (List Nat)} (hG : Grp n G) {x y : Nat} (hx : x < n) (hy : y ∈ orbL n G x) {z : Nat} (hz : z ∈ orbL n G y) : z ∈ orbL n G x := by
  obtain ⟨l, hl, rfl⟩ := (mem_orbL hG hx).1 hy
  have hyn := (hG.perm l hl).app_lt hx
  obtain ⟨m, hm, rfl⟩ := (mem_orbL hG hyn).1 hz
  exact (mem_orbL hG hx).2 ⟨_, hG.comp m hm l hl, app_comp (by rw [(hG.perm l hl).len]; exact hx)⟩
theorem orb_sym {n : Nat} {G : List (List Nat)} (hG : Grp n G) {x y : Nat} (hx : x < n) (hy : y ∈ orbL n G x) : x ∈ orbL n G y := by
  obtain ⟨l, hl, rfl⟩ := (mem_orbL hG hx).1 hy
  exact (mem_orbL hG ((hG.perm l hl).app_lt hx)).2 ⟨_, hG.inv l hl, inv_app (hG.perm l hl) hx⟩
theorem orb_lt {n : Nat} {G : List (List Nat)} {x y : Nat} (hy : y ∈ orbL n G x) : y < n := List.mem_range.1 (List.mem_filter.1 hy).1
theorem orb_ext {n : Nat} {G : List (List Nat)} {x y : Nat} (h : ∀ z, z ∈ orbL n G x ↔ z ∈ orbL n G y) : orbL n G x = orbL n G y := by
  unfold orbL
  apply List.filter_congr
  intro z hz
  have h1 := h z
  unfold orbL at h1
  rw [List.mem_filter, List.mem_filter] at h1
  rw [Bool.eq_iff_iff]
  exact ⟨fun e => (h1.1 ⟨hz, e⟩).2, fun e => (h1.2 ⟨hz, e⟩).2⟩
/-- an element is in an orbit exactly if it has the same -/
theorem orb_iff {n : Nat} {G : List (List Nat)} (hG : Grp n G) {x y : Nat} (hx : x < n) (hy : y < n) : y ∈ orbL n G x ↔ orbL n G y = orbL n G x := by
  constructor
  · intro h
    exact orb_ext fun z => ⟨fun hz => orb_sub hG hx h hz, fun hz => orb_sub hG hy (orb_sym hG hx h) hz⟩
  · intro h
    rw [← h]
    exact orb_self hG hy
theorem orb_inS {a : St} {x y : Nat} (hx : x < a.n) (hy : y ∈ orbL a.n (isos a a) x) : a.inS y = a.inS x := by
  obtain ⟨l, hl, rfl⟩ := (mem_orbL (aut_grp a) hx).1 hy
  exact (mem_isos_iff.1 hl).2.1 x hx
theorem orb_pos {n : Nat} {G : List (List Nat)} (hG : Grp n G) {x : Nat} (hx : x < n) : 0 < (orbL n G x).length := List.length_pos_of_mem (orb_self hG hx)

/-- every second number below a number -/
def half (n : Nat) : List Nat := (List.range ((n + 1) / 2)).map fun i => 2 * i
def halfTo (k : Nat) : List Nat := (List.range k).map fun i => 2 * i
theorem halfTo_succ (k : Nat) : halfTo (k + 1) = halfTo k ++ [2 * k] := by unfold halfTo; rw [List.range_succ, List.map_append]; rfl
theorem halfTo_len (k : Nat) : (halfTo k).length = k := by simp [halfTo]
theorem halfTo_lt {k n : Nat} (h : 2 * k ≤ n + 1) : ∀ x ∈ halfTo k, x < n := by
  intro x hx
  obtain ⟨i, hi, rfl⟩ := List.mem_map.1 hx
  have := List.mem_range.1 hi
  omega
theorem halfTo_nodup (k : Nat) : (halfTo k).Nodup := map_nodup _ List.nodup_range fun x _ y _ e => by omega
theorem comp_halfTo_succ (l : List Nat) (k : Nat) : comp l (halfTo (k + 1)) = comp l (halfTo k) ++ [app l (2 * k)] := by unfold comp; rw [halfTo_succ, List.map_append]; rfl
theorem comp_lt {n : Nat} {l m : List Nat} (hl : ∀ x ∈ l, x < n) (hm : ∀ x ∈ m, x < l.length) : ∀ x ∈ comp l m, x < n := by
  intro x hx
  obtain ⟨i, hi, rfl⟩ := List.mem_map.1 hx
  exact hl _ (app_mem (hm i hi))
theorem app_inj_nodup {l : List Nat} (h : l.Nodup) {x y : Nat} (hx : x < l.length) (hy : y < l.length) (e : app l x = app l y) : x = y := by
  unfold app at e
  simp only [List.getD_eq_getElem?_getD, List.getElem?_eq_getElem hx, List.getElem?_eq_getElem hy, Option.getD_some] at e
  have hp := List.pairwise_iff_getElem.1 h
  rcases Nat.lt_trichotomy x y with hlt | heq | hlt
  · exact absurd e (hp x y hx hy hlt)
  · exact heq
  · exact absurd e.symm (hp y x hy hx hlt)
theorem comp_nodup {l m : List Nat} (hl : l.Nodup) (hm : m.Nodup) (hlt : ∀ x ∈ m, x < l.length) : (comp l m).Nodup :=
  map_nodup _ hm fun x hx y hy e => app_inj_nodup hl (hlt x hx) (hlt y hy) e

/-- the order that undoes another one, filled from the left -/
def backTo (l : List Nat) (n k : Nat) : List Nat := (List.range n).map fun y => if l.idxOf y < k then l.idxOf y else 0
theorem backTo_zero (l : List Nat) (n : Nat) : backTo l n 0 = List.replicate n 0 := by
  unfold backTo
  apply List.ext_getElem (by simp)
  intro i h1 h2
  simp
theorem backTo_len (l : List Nat) (n k : Nat) : (backTo l n k).length = n := by simp [backTo]
theorem backTo_succ {l : List Nat} {n k : Nat} (h : IsPerm n l) (hk : k < n) : backTo l n (k + 1) = (backTo l n k).set (app l k) k := by
  apply List.ext_getElem (by simp [backTo])
  intro i h1 h2
  simp only [backTo, List.length_map, List.length_range] at h1
  have hkl : k < l.length := by rw [h.len]; exact hk
  have hal : app l k = l[k] := by simp [app, List.getD, hkl]
  rw [List.getElem_set]
  by_cases e : app l k = i
  · rw [if_pos e]
    have hi : l.idxOf i = k := by
      rw [← e, hal]
      exact h.nodup.idxOf_getElem k hkl
    simp [backTo, hi]
  · rw [if_neg e]
    have hne : l.idxOf i ≠ k := fun h3 => e (by
      have h4 := (app_idx (h.mem h1)).2
      rw [h3] at h4
      exact h4)
    simp only [backTo, List.getElem_map, List.getElem_range]
    by_cases hlt : l.idxOf i < k
    · rw [if_pos hlt, if_pos (by omega)]
    · rw [if_neg hlt, if_neg (by omega)]
theorem backTo_all {l : List Nat} {n : Nat} (h : IsPerm n l) : backTo l n n = inv l := by
  unfold backTo inv
  rw [h.len]
  apply List.map_congr_left
  intro y hy
  rw [if_pos (by have := (app_idx (h.mem (List.mem_range.1 hy))).1; rwa [h.len] at this)]

end Pl
end Go.Proofs.YtgnmlijfenjehaaDoor
