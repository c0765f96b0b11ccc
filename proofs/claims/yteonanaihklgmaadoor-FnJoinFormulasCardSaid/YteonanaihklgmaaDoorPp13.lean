/-
  Laws of the functions that the claim reaches, one after the other (packed by a program of the prover's: Orb, PlLaws, DeP, JnP, WJoinLaw, RelP, Each, Each2, Count, SOrders, SOrder). Conditions: texts below the reach.
-/
import Derived.Test.YteonanaihklgmaaDoorPp3
import Derived.Test.YteonanaihklgmaaDoorPp10
import Derived.Test.YteonanaihklgmaaDoorPp12
import Derived.Test.YteonanaihklgmaaDoorPp9
import Derived.Test.YteonanaihklgmaaDoorPp7
import Derived.Test.YteonanaihklgmaaDoorPp0
import Derived.Laws.EntriesVeiled
set_option linter.unusedSimpArgs false
set_option linter.unusedVariables false

namespace Go.Proofs.YteonanaihklgmaaDoor
namespace Pl

theorem part_iso {a : St} {m : List Nat} (hm : IsPerm a.n m) : m ∈ isos a (a.part m) := by
  have hl := hm.len
  refine mem_isos_iff.2 ⟨hm, fun i hi => ?_, fun i j hi hj => ?_⟩
  · unfold St.part
    rw [mkSt_inS (by omega)]
    rfl
  · unfold St.part
    rw [mkSt_inR (by omega) (by omega)]
    rfl

/-- an element, and behind it all others -/
def frontL (n x : Nat) : List Nat := x :: (List.range n).filter fun y => y != x

theorem front_perm {n x : Nat} (hx : x < n) : IsPerm n (frontL n x) := by
  have hnd : (frontL n x).Nodup := by
    unfold frontL
    rw [List.nodup_cons]
    exact ⟨by simp, List.nodup_range.filter _⟩
  have hlt : ∀ y ∈ frontL n x, y < n := by
    intro y hy
    unfold frontL at hy
    rcases List.mem_cons.1 hy with rfl | hy
    · exact hx
    · exact List.mem_range.1 (List.mem_filter.1 hy).1
  refine ⟨?_, hnd, hlt⟩
  have h := nodup_len_eq hnd (List.nodup_range (n := n)) (fun y => ⟨fun hy => List.mem_range.2 (hlt y hy), fun hy => by
    unfold frontL
    by_cases e : y = x
    · subst e; simp
    · exact List.mem_cons_of_mem _ (List.mem_filter.2 ⟨hy, by simpa using e⟩)⟩)
  simpa using h

/-- the elements that the reference finds -/
def orbS (a : St) (x : Nat) : List Nat := (List.range a.n).filter fun y => a.inS y == a.inS x && (a.inR y y == a.inR x x && !(shapes a (a.part (frontL a.n x)) (a.n - 1) [y]).isEmpty)

theorem orbS_eq {a : St} {x : Nat} (hx : x < a.n) : orbS a x = orbL a.n (isos a a) x := by
  unfold orbS orbL
  refine List.filter_congr fun y hy => ?_
  have hy := List.mem_range.1 hy
  have hm := front_perm hx
  have hmi := part_iso (a := a) hm
  have hml := hm.len
  have hbn : (a.part (frontL a.n x)).n = a.n := hml
  have hab : a.n = (a.part (frontL a.n x)).n := hbn.symm
  have h0 : 0 < a.n := by omega
  have hm0 : app (frontL a.n x) 0 = x := rfl
  obtain ⟨_, hmS, hmR⟩ := mem_isos_iff.1 hmi
  rw [Bool.eq_iff_iff]
  simp only [Bool.and_eq_true, beq_iff_eq, Bool.not_eq_true', List.any_eq_true]
  constructor
  · rintro ⟨h1, h2, h3⟩
    obtain ⟨l, hl⟩ : ∃ l, l ∈ shapes a (a.part (frontL a.n x)) (a.n - 1) [y] := by
      cases hs : shapes a (a.part (frontL a.n x)) (a.n - 1) [y] with
      | nil => rw [hs] at h3; cases h3
      | cons l L => exact ⟨l, by simp⟩
    have hf : Fits a (a.part (frontL a.n x)) [y] := by
      refine ⟨by simp, by simpa using hy, fun i hi => ?_, fun i j hi hj => ?_⟩
      · simp only [List.length_singleton] at hi
        obtain rfl : i = 0 := by omega
        rw [← hmS 0 h0, hm0, ← h1]; rfl
      · simp only [List.length_singleton] at hi hj
        obtain rfl : i = 0 := by omega
        obtain rfl : j = 0 := by omega
        rw [← hmR 0 0 h0 h0, hm0, ← h2]; rfl
    obtain ⟨t, rfl, ht, hfl⟩ := (mem_shapes _ _ _ hf).1 hl
    have hli : [y] ++ t ∈ isos a (a.part (frontL a.n x)) := mem_isos.2 ⟨by simp [ht]; omega, hfl⟩
    refine ⟨_, iso_comp hab hli (iso_inv hab hmi), ?_⟩
    have e : app (inv (frontL a.n x)) x = 0 := by
      have := inv_app hm h0
      rwa [hm0] at this
    rw [app_comp (by rw [len_inv, hml]; exact hx), e]
    rfl
  · rintro ⟨l, hl, rfl⟩
    obtain ⟨hp, hS, hR⟩ := mem_isos_iff.1 hl
    refine ⟨hS x hx, hR x x hx hx, ?_⟩
    have hli := iso_comp rfl hl hmi
    have hlen : (comp l (frontL a.n x)).length = a.n := by rw [len_comp, hml]
    have happ : app (comp l (frontL a.n x)) 0 = app l x := by rw [app_comp (by rw [hml]; exact h0), hm0]
    obtain ⟨t, ht⟩ : ∃ t, comp l (frontL a.n x) = app l x :: t := by
      cases hc : comp l (frontL a.n x) with
      | nil => rw [hc] at hlen; simp at hlen; omega
      | cons z t => rw [hc] at happ; exact ⟨t, by rw [show z = app l x from happ]⟩
    rw [ht] at hli hlen
    obtain ⟨_, hfit⟩ := mem_isos.1 hli
    have hmem : app l x :: t ∈ shapes a (a.part (frontL a.n x)) (a.n - 1) [app l x] :=
      (mem_shapes _ _ _ (Fits.prefix t (by simpa using hfit))).2 ⟨t, rfl, by simp at hlen; omega, hfit⟩
    cases hs : shapes a (a.part (frontL a.n x)) (a.n - 1) [app l x] with
    | nil => rw [hs] at hmem; cases hmem
    | cons l L => rfl

end Pl
end Go.Proofs.YteonanaihklgmaaDoor

namespace Go.Proofs.YteonanaihklgmaaDoor
namespace Pl

theorem mkSt_congr {n : Nat} {f f' : Nat → Bool} {g g' : Nat → Nat → Bool} (hf : ∀ x, x < n → f x = f' x) (hg : ∀ x y, x < n → y < n → g x y = g' x y) : mkSt n f g = mkSt n f' g' := by
  have e1 : ((List.range n).map fun x => bitB (f x)) = (List.range n).map fun x => bitB (f' x) :=
    List.map_congr_left fun x hx => by rw [hf x (List.mem_range.1 hx)]
  have e2 : ((List.range n).flatMap fun x => (List.range n).map fun y => bitB (g x y)) = (List.range n).flatMap fun x => (List.range n).map fun y => bitB (g' x y) := by
    rw [List.flatMap_def, List.flatMap_def]
    congr 1
    exact List.map_congr_left fun x hx => List.map_congr_left fun y hy => by rw [hg x y (List.mem_range.1 hx) (List.mem_range.1 hy)]
  unfold mkSt
  rw [e1, e2]

theorem getD_lt' {l : List Nat} {n : Nat} (h : ∀ x ∈ l, x < n) {i : Nat} (hi : i < l.length) : l.getD i 0 < n := h _ (app_mem hi)

theorem part_part {a : St} {l m : List Nat} (hm : ∀ x ∈ m, x < l.length) : (a.part l).part m = a.part (comp l m) := by
  unfold St.part
  rw [len_comp]
  have e : ∀ x, x < m.length → (comp l m).getD x 0 = l.getD (m.getD x 0) 0 := fun x hx => app_comp hx
  refine mkSt_congr (fun x hx => ?_) (fun x y hx hy => ?_)
  · rw [mkSt_inS (getD_lt' hm hx), e x hx]
  · rw [mkSt_inR (getD_lt' hm hx) (getD_lt' hm hy), e x hx, e y hy]

theorem part_range {a : St} (ha : a.ok) : a.part (List.range a.n) = a := by
  have e : ∀ x, x < a.n → (List.range a.n).getD x 0 = x := fun x hx => app_range hx
  have h : a.part (List.range a.n) = mkSt a.n a.inS a.inR := by
    unfold St.part
    rw [List.length_range]
    exact mkSt_congr (fun x hx => by rw [e x hx]) (fun x y hx hy => by rw [e x hx, e y hy])
  rw [h, mkSt_self ha]

theorem part_inv {a : St} (ha : a.ok) {l : List Nat} (hl : IsPerm a.n l) : (a.part l).part (inv l) = a := by
  rw [part_part (fun x hx => by rw [hl.len]; exact hl.inv.lt x hx), comp_inv hl, part_range ha]

theorem part_ok {a : St} {l : List Nat} (h1 : 1 ≤ l.length) (h8 : l.length ≤ 8) : (a.part l).ok := mkSt_ok h1 h8

theorem iso_part {a b : St} (ha : a.ok) (hb : b.ok) (hab : a.n = b.n) {l : List Nat} (hl : l ∈ isos a b) : a.part l = b := by
  obtain ⟨hp, h1, h2⟩ := mem_isos_iff.1 hl
  have h := ha.lo
  have h' := ha.hi
  refine St.ext' (part_ok (by rw [hp.len]; exact h) (by rw [hp.len]; exact h')) hb (by rw [← hab]; exact hp.len) (fun x hx => ?_) (fun x y hx hy => ?_)
  · have hx' : x < l.length := hx
    rw [show (a.part l).inS x = a.inS (app l x) from mkSt_inS hx']
    exact h1 x (by rw [← hp.len]; exact hx')
  · have hx' : x < l.length := hx
    have hy' : y < l.length := hy
    rw [show (a.part l).inR x y = a.inR (app l x) (app l y) from mkSt_inR hx' hy']
    exact h2 x y (by rw [← hp.len]; exact hx') (by rw [← hp.len]; exact hy')

theorem part_n {a : St} (l : List Nat) : (a.part l).n = l.length := rfl
theorem other_ok {a : St} (ha : a.ok) : a.other.ok := mkSt_ok ha.lo ha.hi
theorem turn_ok {a : St} (ha : a.ok) : a.turn.ok := mkSt_ok ha.lo ha.hi
theorem other_inS {a : St} {x : Nat} (h : x < a.n) : a.other.inS x = !a.inS x := mkSt_inS h
theorem other_inR {a : St} {x y : Nat} (h : x < a.n) (h2 : y < a.n) : a.other.inR x y = !a.inR x y := mkSt_inR h h2
theorem turn_inS {a : St} {x : Nat} (h : x < a.n) : a.turn.inS x = a.inS x := mkSt_inS h
theorem turn_inR {a : St} {x y : Nat} (h : x < a.n) (h2 : y < a.n) : a.turn.inR x y = a.inR y x := mkSt_inR h h2

theorem other_other {a : St} (ha : a.ok) : a.other.other = a := by
  refine St.ext' (other_ok (other_ok ha)) ha rfl (fun x hx => ?_) (fun x y hx hy => ?_)
  · rw [other_inS (show x < a.other.n from hx), other_inS (show x < a.n from hx), Bool.not_not]
  · rw [other_inR (show x < a.other.n from hx) (show y < a.other.n from hy), other_inR (show x < a.n from hx) (show y < a.n from hy), Bool.not_not]
theorem turn_turn {a : St} (ha : a.ok) : a.turn.turn = a := by
  refine St.ext' (turn_ok (turn_ok ha)) ha rfl (fun x hx => ?_) (fun x y hx hy => ?_)
  · rw [turn_inS (show x < a.turn.n from hx), turn_inS (show x < a.n from hx)]
  · rw [turn_inR (show x < a.turn.n from hx) (show y < a.turn.n from hy), turn_inR (show y < a.n from hy) (show x < a.n from hx)]
theorem other_turn (a : St) : a.other.turn = a.turn.other := by
  show mkSt a.n a.other.inS (fun x y => a.other.inR y x) = mkSt a.n (fun x => !a.turn.inS x) (fun x y => !a.turn.inR x y)
  exact mkSt_congr (fun x hx => by rw [other_inS hx, turn_inS hx]) (fun x y hx hy => by rw [other_inR hy hx, turn_inR hx hy])

theorem isos_other {a b : St} (hab : a.n = b.n) {l : List Nat} : l ∈ isos a.other b.other ↔ l ∈ isos a b := by
  rw [mem_isos_iff, mem_isos_iff]
  show (IsPerm a.n l ∧ (∀ i, i < a.n → a.other.inS (app l i) = b.other.inS i) ∧ ∀ i j, i < a.n → j < a.n → a.other.inR (app l i) (app l j) = b.other.inR i j) ↔ _
  refine and_congr_right fun hp => ?_
  refine and_congr (forall_congr' fun i => forall_congr' fun hi => ?_) (forall_congr' fun i => forall_congr' fun j => forall_congr' fun hi => forall_congr' fun hj => ?_)
  · rw [other_inS (hp.app_lt hi), other_inS (by rw [← hab]; exact hi)]
    cases a.inS (app l i) <;> cases b.inS i <;> simp
  · rw [other_inR (hp.app_lt hi) (hp.app_lt hj), other_inR (by rw [← hab]; exact hi) (by rw [← hab]; exact hj)]
    cases a.inR (app l i) (app l j) <;> cases b.inR i j <;> simp
theorem isos_turn {a b : St} (hab : a.n = b.n) {l : List Nat} : l ∈ isos a.turn b.turn ↔ l ∈ isos a b := by
  rw [mem_isos_iff, mem_isos_iff]
  show (IsPerm a.n l ∧ (∀ i, i < a.n → a.turn.inS (app l i) = b.turn.inS i) ∧ ∀ i j, i < a.n → j < a.n → a.turn.inR (app l i) (app l j) = b.turn.inR i j) ↔ _
  refine and_congr_right fun hp => ?_
  constructor
  · rintro ⟨h1, h2⟩
    exact ⟨fun i hi => by have := h1 i hi; rwa [turn_inS (hp.app_lt hi), turn_inS (by rw [← hab]; exact hi)] at this,
      fun i j hi hj => by have := h2 j i hj hi; rwa [turn_inR (hp.app_lt hj) (hp.app_lt hi), turn_inR (by rw [← hab]; exact hj) (by rw [← hab]; exact hi)] at this⟩
  · rintro ⟨h1, h2⟩
    exact ⟨fun i hi => by rw [turn_inS (hp.app_lt hi), turn_inS (by rw [← hab]; exact hi)]; exact h1 i hi,
      fun i j hi hj => by rw [turn_inR (hp.app_lt hi) (hp.app_lt hj), turn_inR (by rw [← hab]; exact hi) (by rw [← hab]; exact hj)]; exact h2 j i hj hi⟩
theorem sym_other (a : St) : (isos a.other a.other).length = (isos a a).length := nodup_len_eq (isos_nodup _ _) (isos_nodup _ _) fun _ => isos_other rfl
theorem sym_turn (a : St) : (isos a.turn a.turn).length = (isos a a).length := nodup_len_eq (isos_nodup _ _) (isos_nodup _ _) fun _ => isos_turn rfl
theorem isos_ne_sym {a b : St} (hab : a.n = b.n) : (isos b a).isEmpty = (isos a b).isEmpty := by
  have key : ∀ {a b : St}, a.n = b.n → (isos a b).isEmpty = true → (isos b a).isEmpty = true := fun {a b} hab h => by
    rw [List.isEmpty_iff] at h ⊢
    apply List.eq_nil_iff_forall_not_mem.2
    intro l hl
    have := iso_inv hab.symm hl
    rw [h] at this
    cases this
  rw [Bool.eq_iff_iff]
  exact ⟨key hab.symm, key hab⟩
theorem isos_ne_other {a b : St} (hab : a.n = b.n) : (isos a.other b.other).isEmpty = (isos a b).isEmpty := by
  rw [Bool.eq_iff_iff, List.isEmpty_iff, List.isEmpty_iff, List.eq_nil_iff_forall_not_mem, List.eq_nil_iff_forall_not_mem]
  exact forall_congr' fun l => not_congr (isos_other hab)
theorem sym_pos (a : St) : 0 < (isos a a).length := List.length_pos_of_mem (iso_refl a)

/-- orbits -/
theorem orb_self {n : Nat} {G : List (List Nat)} (hG : Grp n G) {x : Nat} (hx : x < n) : x ∈ orbL n G x := (mem_orbL hG hx).2 ⟨_, hG.one, app_range hx⟩

theorem orb_sub {n : Nat} {G : List (List Nat)} (hG : Grp n G) {x y : Nat} (hx : x < n) (hy : y ∈ orbL n G x) {z : Nat} (hz : z ∈ orbL n G y) : z ∈ orbL n G x := by
  obtain ⟨l, hl, rfl⟩ := (mem_orbL hG hx).1 hy
  have hyn := (hG.perm l hl).app_lt hx
  obtain ⟨m, hm, rfl⟩ := (mem_orbL hG hyn).1 hz
  exact (mem_orbL hG hx).2 ⟨_, hG.comp m hm l hl, app_comp (by rw [(hG.perm l hl).len]; exact hx)⟩
theorem orb_sym {n : Nat} {G : List (List Nat)} (hG : Grp n G) {x y : Nat} (hx : x < n) (hy : y ∈ orbL n G x) : x ∈ orbL n G y := by
  obtain ⟨l, hl, rfl⟩ := (mem_orbL hG hx).1 hy
  exact (mem_orbL hG ((hG.perm l hl).app_lt hx)).2 ⟨_, hG.inv l hl, inv_app (hG.perm l hl) hx⟩
theorem orb_lt {n : Nat} {G : List (List Nat)} {x y : Nat} (hy : y ∈ orbL n G x) : y < n := List.mem_range.1 (List.mem_filter.1 hy).1
theorem orb_ext {n : Nat} {G : List (List Nat)} {x y : Nat} (h : ∀ z, z ∈ orbL n G x ↔ z ∈ orbL n G y) : orbL n G x = orbL n G y := by
  unfold orbL
  apply List.filter_congr
  intro z hz
  have h1 := h z
  unfold orbL at h1
  rw [List.mem_filter, List.mem_filter] at h1
  rw [Bool.eq_iff_iff]
  exact ⟨fun e => (h1.1 ⟨hz, e⟩).2, fun e => (h1.2 ⟨hz, e⟩).2⟩
/-- an element is in an orbit exactly if it has the same -/
theorem orb_iff {n : Nat} {G : List (List Nat)} (hG : Grp n G) {x y : Nat} (hx : x < n) (hy : y < n) : y ∈ orbL n G x ↔ orbL n G y = orbL n G x := by
  constructor
  · intro h
    exact orb_ext fun z => ⟨fun hz => orb_sub hG hx h hz, fun hz => orb_sub hG hy (orb_sym hG hx h) hz⟩
  · intro h
    rw [← h]
    exact orb_self hG hy
theorem orb_inS {a : St} {x y : Nat} (hx : x < a.n) (hy : y ∈ orbL a.n (isos a a) x) : a.inS y = a.inS x := by
  obtain ⟨l, hl, rfl⟩ := (mem_orbL (aut_grp a) hx).1 hy
  exact (mem_isos_iff.1 hl).2.1 x hx
theorem orb_pos {n : Nat} {G : List (List Nat)} (hG : Grp n G) {x : Nat} (hx : x < n) : 0 < (orbL n G x).length := List.length_pos_of_mem (orb_self hG hx)

/-- every second number below a number -/
def half (n : Nat) : List Nat := (List.range ((n + 1) / 2)).map fun i => 2 * i
def halfTo (k : Nat) : List Nat := (List.range k).map fun i => 2 * i
theorem halfTo_succ (k : Nat) : halfTo (k + 1) = halfTo k ++ [2 * k] := by unfold halfTo; rw [List.range_succ, List.map_append]; rfl
theorem halfTo_len (k : Nat) : (halfTo k).length = k := by simp [halfTo]
theorem halfTo_lt {k n : Nat} (h : 2 * k ≤ n + 1) : ∀ x ∈ halfTo k, x < n := by
  intro x hx
  obtain ⟨i, hi, rfl⟩ := List.mem_map.1 hx
  have := List.mem_range.1 hi
  omega
theorem halfTo_nodup (k : Nat) : (halfTo k).Nodup := map_nodup _ List.nodup_range fun x _ y _ e => by omega
theorem comp_halfTo_succ (l : List Nat) (k : Nat) : comp l (halfTo (k + 1)) = comp l (halfTo k) ++ [app l (2 * k)] := by unfold comp; rw [halfTo_succ, List.map_append]; rfl
theorem comp_lt {n : Nat} {l m : List Nat} (hl : ∀ x ∈ l, x < n) (hm : ∀ x ∈ m, x < l.length) : ∀ x ∈ comp l m, x < n := by
  intro x hx
  obtain ⟨i, hi, rfl⟩ := List.mem_map.1 hx
  exact hl _ (app_mem (hm i hi))
theorem app_inj_nodup {l : List Nat} (h : l.Nodup) {x y : Nat} (hx : x < l.length) (hy : y < l.length) (e : app l x = app l y) : x = y := by
  unfold app at e
  simp only [List.getD_eq_getElem?_getD, List.getElem?_eq_getElem hx, List.getElem?_eq_getElem hy, Option.getD_some] at e
  have hp := List.pairwise_iff_getElem.1 h
  rcases Nat.lt_trichotomy x y with hlt | heq | hlt
  · exact absurd e (hp x y hx hy hlt)
  · exact heq
  · exact absurd e.symm (hp y x hy hx hlt)
theorem comp_nodup {l m : List Nat} (hl : l.Nodup) (hm : m.Nodup) (hlt : ∀ x ∈ m, x < l.length) : (comp l m).Nodup :=
  map_nodup _ hm fun x hx y hy e => app_inj_nodup hl (hlt x hx) (hlt y hy) e

/-- the order that undoes another one, filled from the left -/
def backTo (l : List Nat) (n k : Nat) : List Nat := (List.range n).map fun y => if l.idxOf y < k then l.idxOf y else 0
theorem backTo_zero (l : List Nat) (n : Nat) : backTo l n 0 = List.replicate n 0 := by
  unfold backTo
  apply List.ext_getElem (by simp)
  intro i h1 h2
  simp
theorem backTo_len (l : List Nat) (n k : Nat) : (backTo l n k).length = n := by simp [backTo]
theorem backTo_succ {l : List Nat} {n k : Nat} (h : IsPerm n l) (hk : k < n) : backTo l n (k + 1) = (backTo l n k).set (app l k) k := by
  apply List.ext_getElem (by simp [backTo])
  intro i h1 h2
  simp only [backTo, List.length_map, List.length_range] at h1
  have hkl : k < l.length := by rw [h.len]; exact hk
  have hal : app l k = l[k] := by simp [app, List.getD, hkl]
  rw [List.getElem_set]
  by_cases e : app l k = i
  · rw [if_pos e]
    have hi : l.idxOf i = k := by
      rw [← e, hal]
      exact h.nodup.idxOf_getElem k hkl
    simp [backTo, hi]
  · rw [if_neg e]
    have hne : l.idxOf i ≠ k := fun h3 => e (by
      have h4 := (app_idx (h.mem h1)).2
      rw [h3] at h4
      exact h4)
    simp only [backTo, List.getElem_map, List.getElem_range]
    by_cases hlt : l.idxOf i < k
    · rw [if_pos hlt, if_pos (by omega)]
    · rw [if_neg hlt, if_neg (by omega)]
theorem backTo_all {l : List Nat} {n : Nat} (h : IsPerm n l) : backTo l n n = inv l := by
  unfold backTo inv
  rw [h.len]
  apply List.map_congr_left
  intro y hy
  rw [if_pos (by have := (app_idx (h.mem (List.mem_range.1 hy))).1; rwa [h.len] at this)]

end Pl
end Go.Proofs.YteonanaihklgmaaDoor

namespace Go.Proofs.YteonanaihklgmaaDoor
open Go.RowKit
open Pl
set_option linter.unusedSimpArgs false
set_option linter.unusedVariables false

/-- the variable with a number -/
def vf (i : Nat) : Fin 4 := ⟨i % 4, Nat.mod_lt _ (by decide)⟩
theorem vf_val {i : Nat} (h : i < 4) : (vf i).val = i := Nat.mod_eq_of_lt h
theorem vf_inj {i j : Nat} (hi : i < 4) (hj : j < 4) (h : vf i = vf j) : i = j := by
  have := congrArg Fin.val h
  rwa [vf_val hi, vf_val hj] at this
theorem vf_fin (v : Fin 4) : vf v.val = v := Fin.ext (vf_val v.isLt)
/-- a fact as it is true or not -/
def sgn (b : Bool) (f : Fm) : Fm := if b then f else .neg f
theorem sgn_holds (b : Bool) (f : Fm) (a : St) (e : Env) : (sgn b f).holds a e = (f.holds a e == b) := by
  cases b with
  | true => show f.holds a e = _; cases f.holds a e <;> rfl
  | false => show (!(f.holds a e)) = _; cases f.holds a e <;> rfl
def conF : List Fm → Fm
  | [] => .tru
  | [f] => f
  | f :: g :: r => .con f (conF (g :: r))
def disF : List Fm → Fm
  | [] => .fls
  | [f] => f
  | f :: g :: r => .dis f (disF (g :: r))
theorem conF_holds (a : St) (e : Env) : ∀ L : List Fm, (conF L).holds a e = L.all fun f => f.holds a e := by
  intro L
  induction L with
  | nil => rfl
  | cons f L ih =>
    cases L with
    | nil => simp [conF]
    | cons g r => show (f.holds a e && (conF (g :: r)).holds a e) = _; rw [ih]; rfl
theorem disF_holds (a : St) (e : Env) : ∀ L : List Fm, (disF L).holds a e = L.any fun f => f.holds a e := by
  intro L
  induction L with
  | nil => rfl
  | cons f L ih =>
    cases L with
    | nil => simp [disF]
    | cons g r => show (f.holds a e || (disF (g :: r)).holds a e) = _; rw [ih]; rfl
/-- the facts of an element and those before it -/
def factsAt (S : Nat → Bool) (R Q : Nat → Nat → Bool) (i : Nat) : List Fm :=
  [sgn (S i) (.pr (vf i)), sgn (R i i) (.rel (vf i) (vf i))] ++ (List.range i).flatMap fun k => [sgn (Q i k) (.eq (vf k) (vf i)), sgn (R k i) (.rel (vf k) (vf i)), sgn (R i k) (.rel (vf i) (vf k))]
def factsTo (S : Nat → Bool) (R Q : Nat → Nat → Bool) (n : Nat) : List Fm := (List.range n).flatMap (factsAt S R Q)
theorem facts_at (S : Nat → Bool) (R Q : Nat → Nat → Bool) (i : Nat) (b : St) (e : Env) : ((factsAt S R Q i).all fun f => f.holds b e) = true ↔
    (b.inS (e (vf i)) = S i ∧ b.inR (e (vf i)) (e (vf i)) = R i i) ∧ ∀ k, k < i → (e (vf k) == e (vf i)) = Q i k ∧ b.inR (e (vf k)) (e (vf i)) = R k i ∧ b.inR (e (vf i)) (e (vf k)) = R i k := by
  unfold factsAt
  simp only [List.all_append, List.all_cons, List.all_nil, List.all_flatMap, sgn_holds, Fm.holds, Bool.and_eq_true, List.all_eq_true, List.mem_range, beq_iff_eq, Bool.and_true]
theorem facts_to (S : Nat → Bool) (R Q : Nat → Nat → Bool) (n : Nat) (b : St) (e : Env) : ((factsTo S R Q n).all fun f => f.holds b e) = true ↔
    (∀ i, i < n → b.inS (e (vf i)) = S i) ∧ (∀ i j, i < n → j < n → b.inR (e (vf i)) (e (vf j)) = R i j) ∧ ∀ i k, i < n → k < i → (e (vf k) == e (vf i)) = Q i k := by
  unfold factsTo
  rw [List.all_flatMap, List.all_eq_true]
  simp only [List.mem_range, facts_at]
  constructor
  · intro h
    refine ⟨fun i hi => (h i hi).1.1, fun i j hi hj => ?_, fun i k hi hk => ((h i hi).2 k hk).1⟩
    rcases Nat.lt_trichotomy i j with hlt | rfl | hlt
    · exact ((h j hj).2 i hlt).2.1
    · exact (h i hi).1.2
    · exact ((h i hi).2 j hlt).2.2
  · rintro ⟨h1, h2, h3⟩ i hi
    exact ⟨⟨h1 i hi, h2 i i hi hi⟩, fun k hk => ⟨h3 i k hi hk, h2 k i (by omega) hi, h2 i k hi (by omega)⟩⟩
/-- the description of n elements, and that there are no others -/
def desF (n : Nat) (S : Nat → Bool) (R Q : Nat → Nat → Bool) : Fm :=
  if n = 4 then conF (factsTo S R Q n) else .con (conF (factsTo S R Q n)) (.qu .A (vf n) (disF ((List.range n).map fun i => .eq (vf i) (vf n))))
theorem des_holds {n : Nat} (hn : n ≤ 4) (S : Nat → Bool) (R Q : Nat → Nat → Bool) (b : St) (e : Env) : (desF n S R Q).holds b e = true ↔
    ((factsTo S R Q n).all fun f => f.holds b e) = true ∧ (n < 4 → ∀ z, z < b.n → ∃ i, i < n ∧ e (vf i) = z) := by
  unfold desF
  by_cases h4 : n = 4
  · rw [if_pos h4, conF_holds]
    exact ⟨fun h => ⟨h, fun h2 => by omega⟩, fun h => h.1⟩
  · rw [if_neg h4]
    show ((conF _).holds b e && (Qn.A.says b.n (cnt b.n fun z => (disF _).holds b (upd e (vf n) z)))) = true ↔ _
    rw [conF_holds, Bool.and_eq_true]
    refine and_congr Iff.rfl ?_
    show ((cnt b.n fun z => (disF _).holds b (upd e (vf n) z)) == b.n) = true ↔ _
    rw [beq_iff_eq, cnt_all]
    constructor
    · intro h _ z hz
      have := h z hz
      rw [disF_holds, List.any_eq_true] at this
      obtain ⟨f, hf, hh⟩ := this
      obtain ⟨i, hi, rfl⟩ := List.mem_map.1 hf
      have hi := List.mem_range.1 hi
      refine ⟨i, hi, ?_⟩
      have h2 : (upd e (vf n) z (vf i) == upd e (vf n) z (vf n)) = true := hh
      rwa [upd_same, upd_other (fun e => by have := vf_inj (by omega) (by omega) e; omega), beq_iff_eq] at h2
    · intro h z hz
      obtain ⟨i, hi, rfl⟩ := h (by omega) z hz
      rw [disF_holds, List.any_eq_true]
      refine ⟨_, List.mem_map.2 ⟨i, List.mem_range.2 hi, rfl⟩, ?_⟩
      show (upd e (vf n) _ (vf i) == upd e (vf n) _ (vf n)) = true
      rw [upd_same, upd_other (fun e => by have := vf_inj (by omega) (by omega) e; omega)]
      simp
/-- some elements for k variables from one on -/
def exF : Nat → Nat → Fm → Fm
  | _, 0, q => q
  | j, k + 1, q => .qu .S (vf j) (exF (j + 1) k q)
theorem ex_holds (b : St) (q : Fm) : ∀ (k j : Nat) (e : Env), j + k ≤ 4 → ((exF j k q).holds b e = true ↔
    ∃ e' : Env, (∀ i, i < 4 → i < j ∨ j + k ≤ i → e' (vf i) = e (vf i)) ∧ (∀ i, j ≤ i → i < j + k → e' (vf i) < b.n) ∧ q.holds b e' = true) := by
  intro k
  induction k with
  | zero =>
    intro j e _
    constructor
    · intro h; exact ⟨e, fun _ _ _ => rfl, fun i h1 h2 => by omega, h⟩
    · rintro ⟨e', h1, _, h3⟩
      have : e' = e := by
        funext v
        have := h1 v.val v.isLt (by omega)
        rwa [vf_fin] at this
      rw [← this]; exact h3
  | succ k ih =>
    intro j e hj
    show decide (0 < cnt b.n fun x => (exF (j + 1) k q).holds b (upd e (vf j) x)) = true ↔ _
    rw [decide_eq_true_eq, cnt_pos]
    constructor
    · rintro ⟨x, hx, h⟩
      obtain ⟨e', h1, h2, h3⟩ := (ih (j + 1) _ (by omega)).1 h
      refine ⟨e', fun i hi ho => ?_, fun i hi hi2 => ?_, h3⟩
      · rw [h1 i hi (by omega), upd_other (fun e => by have := vf_inj hi (by omega) e; omega)]
      · by_cases hij : i = j
        · subst hij
          rw [h1 i (by omega) (by omega), upd_same]; exact hx
        · exact h2 i (by omega) (by omega)
    · rintro ⟨e', h1, h2, h3⟩
      refine ⟨e' (vf j), h2 j (Nat.le_refl _) (by omega), (ih (j + 1) _ (by omega)).2 ⟨e', fun i hi ho => ?_, fun i hi hi2 => h2 i (by omega) (by omega), h3⟩⟩
      by_cases hij : i = j
      · subst hij; rw [upd_same]
      · rw [upd_other (fun e => by have := vf_inj hi (by omega) e; exact hij this)]
        exact h1 i hi (by omega)
def noQ : Nat → Nat → Bool := fun _ _ => false
/-- the list of the elements that the variables have -/
def envTo (e : Env) (n : Nat) : List Nat := (List.range n).map fun i => e (vf i)
theorem envTo_app (e : Env) {n i : Nat} (h : i < n) : app (envTo e n) i = e (vf i) := by
  unfold app envTo
  rw [List.getD_eq_getElem?_getD, List.getElem?_map, List.getElem?_range h]
  rfl
/-- the description of a structure is true exactly for the orders that turn the other one into it -/
theorem des_iso {b c : St} (hn4 : c.n ≤ 4) (e : Env) (he : ∀ i, i < c.n → e (vf i) < b.n) (hl : c.n < 4 ∨ b.n = c.n) :
    (desF c.n c.inS c.inR noQ).holds b e = true ↔ b.n = c.n ∧ envTo e c.n ∈ isos b c := by
  rw [des_holds hn4, facts_to]
  constructor
  · rintro ⟨⟨h1, h2, h3⟩, h4⟩
    have hnd : (envTo e c.n).Nodup := nodup_of_inj (n := c.n) (by simp [envTo]) fun x y hx hy hxy => by
      rw [envTo_app e hx, envTo_app e hy] at hxy
      rcases Nat.lt_trichotomy x y with hlt | rfl | hlt
      · have := h3 y x hy hlt; rw [hxy] at this; simp [noQ] at this
      · rfl
      · have := h3 x y hx hlt; rw [hxy] at this; simp [noQ] at this
    have hlt : ∀ z ∈ envTo e c.n, z < b.n := fun z hz => by
      obtain ⟨i, hi, rfl⟩ := List.mem_map.1 hz
      exact he i (List.mem_range.1 hi)
    have hle : c.n ≤ b.n := by
      have := nodup_len_le (envTo e c.n) (List.range b.n) hnd fun z hz => List.mem_range.2 (hlt z hz)
      simpa [envTo] using this
    have hge : b.n ≤ c.n := by
      rcases hl with h | h
      · have := nodup_len_le (List.range b.n) (envTo e c.n) List.nodup_range fun z hz => by
          obtain ⟨i, hi, rfl⟩ := h4 h z (List.mem_range.1 hz)
          exact List.mem_map.2 ⟨i, List.mem_range.2 hi, rfl⟩
        simpa [envTo] using this
      · omega
    have hbc : b.n = c.n := by omega
    refine ⟨hbc, mem_isos_iff.2 ⟨⟨by simp [envTo, hbc], hnd, hlt⟩, fun i hi => ?_, fun i j hi hj => ?_⟩⟩
    · rw [envTo_app e (by omega)]; exact h1 i (by omega)
    · rw [envTo_app e (by omega), envTo_app e (by omega)]; exact h2 i j (by omega) (by omega)
  · rintro ⟨hbc, hm⟩
    obtain ⟨hp, h1, h2⟩ := mem_isos_iff.1 hm
    refine ⟨⟨fun i hi => ?_, fun i j hi hj => ?_, fun i k hi hk => ?_⟩, fun _ z hz => ?_⟩
    · have := h1 i (by omega); rwa [envTo_app e hi] at this
    · have := h2 i j (by omega) (by omega); rwa [envTo_app e hi, envTo_app e hj] at this
    · show _ = false
      rw [beq_eq_false_iff_ne]
      intro heq
      have := hp.inj (x := k) (y := i) (by omega) (by omega) (by rw [envTo_app e (by omega), envTo_app e hi, heq])
      omega
    · obtain ⟨i, hi, hh⟩ := List.mem_map.1 (hp.mem hz)
      exact ⟨i, List.mem_range.1 hi, hh⟩
/-- elements for the variables out of an order -/
def envOf (l : List Nat) : Env := fun v => app l v.val
theorem envOf_to {l : List Nat} {n : Nat} (hl : l.length = n) (hn : n ≤ 4) : envTo (envOf l) n = l := by
  refine app_ext (n := n) (by simp [envTo]) hl fun x hx => ?_
  rw [envTo_app _ hx]
  unfold envOf
  rw [vf_val (by omega)]
/-- the description of a structure -/
def dstF (a : St) : Fm := exF 0 a.n (desF a.n a.inS a.inR noQ)
theorem dst_holds {a b : St} (h3 : a.n ≤ 3) (e : Env) : (dstF a).holds b e = true ↔ b.n = a.n ∧ ∃ m, m ∈ isos b a := by
  unfold dstF
  rw [ex_holds b _ a.n 0 e (by omega)]
  constructor
  · rintro ⟨e', _, h2, h4⟩
    obtain ⟨h5, h6⟩ := (des_iso (by omega) e' (fun i hi => h2 i (Nat.zero_le _) (by omega)) (.inl (by omega))).1 h4
    exact ⟨h5, _, h6⟩
  · rintro ⟨hn, m, hm⟩
    have hp := iso_perm hm
    have e1 : envTo (envOf m) a.n = m := envOf_to (by rw [hp.len, hn]) (by omega)
    refine ⟨fun v => if v.val < a.n then envOf m v else e v, fun i hi ho => ?_, fun i _ hi => ?_, ?_⟩
    · have : ¬ (vf i).val < a.n := by rw [vf_val hi]; omega
      show (if (vf i).val < a.n then _ else _) = _
      rw [if_neg this]
    · show (if (vf i).val < a.n then _ else _) < _
      rw [if_pos (by rw [vf_val (by omega)]; omega)]
      unfold envOf
      rw [vf_val (by omega)]
      exact hp.app_lt (by omega)
    · have e2 : envTo (fun v => if v.val < a.n then envOf m v else e v) a.n = m := by
        refine app_ext (n := a.n) (by simp [envTo]) (by rw [hp.len, hn]) fun x hx => ?_
        rw [envTo_app _ hx]
        show (if (vf x).val < a.n then _ else _) = _
        rw [if_pos (by rw [vf_val (by omega)]; omega)]
        unfold envOf
        rw [vf_val (by omega)]
      refine (des_iso (by omega) _ (fun i hi => ?_) (.inl (by omega))).2 ⟨hn, by rw [e2]; exact hm⟩
      show (if (vf i).val < a.n then _ else _) < _
      rw [if_pos (by rw [vf_val (by omega)]; omega)]
      unfold envOf
      rw [vf_val (by omega)]
      exact hp.app_lt (by omega)
/-- the description of an element of the order's structure -/
def delF (c : St) : Fm := exF 1 (c.n - 1) (desF c.n c.inS c.inR noQ)
theorem del_holds {b c : St} (h1 : 1 ≤ c.n) (h4 : c.n ≤ 4) (hl : c.n < 4 ∨ b.n = c.n) (e : Env) (he : e 0 < b.n) : (delF c).holds b e = true ↔ b.n = c.n ∧ ∃ m, m ∈ isos b c ∧ app m 0 = e 0 := by
  unfold delF
  rw [ex_holds b _ (c.n - 1) 1 e (by omega)]
  have v0 : vf 0 = 0 := rfl
  constructor
  · rintro ⟨e', h1', h2, h5⟩
    have h0 := h1' 0 (by omega) (.inl (by omega))
    rw [v0] at h0
    have hlt : ∀ i, i < c.n → e' (vf i) < b.n := fun i hi => by
      by_cases hi0 : i = 0
      · subst hi0; rw [v0, h0]; exact he
      · exact h2 i (by omega) (by omega)
    obtain ⟨h5, h6⟩ := (des_iso h4 e' hlt hl).1 h5
    exact ⟨h5, _, h6, by rw [envTo_app _ (by omega), v0, h0]⟩
  · rintro ⟨hn, m, hm, hm0⟩
    have hp := iso_perm hm
    have e1 : envTo (envOf m) c.n = m := envOf_to (by rw [hp.len, hn]) (by omega)
    have ee : ∀ i, i < c.n → (if (vf i).val < c.n then envOf m (vf i) else e (vf i)) = app m i := fun i hi => by
      rw [if_pos (by rw [vf_val (by omega)]; omega)]
      unfold envOf
      rw [vf_val (by omega)]
    refine ⟨fun v => if v.val < c.n then envOf m v else e v, fun i hi ho => ?_, fun i _ hi => ?_, ?_⟩
    · by_cases hi0 : i = 0
      · subst hi0
        show (if (vf 0).val < c.n then _ else _) = _
        rw [ee 0 (by omega), v0, hm0]
      · have : ¬ (vf i).val < c.n := by rw [vf_val hi]; omega
        show (if (vf i).val < c.n then _ else _) = _
        rw [if_neg this]
    · show (if (vf i).val < c.n then _ else _) < _
      rw [ee i (by omega)]
      exact hp.app_lt (by omega)
    · have e2 : envTo (fun v => if v.val < c.n then envOf m v else e v) c.n = m := by
        refine app_ext (n := c.n) (by simp [envTo]) (by rw [hp.len, hn]) fun x hx => ?_
        rw [envTo_app _ hx]
        exact ee x hx
      refine (des_iso h4 _ (fun i hi => ?_) hl).2 ⟨hn, by rw [e2]; exact hm⟩
      show (if (vf i).val < c.n then _ else _) < _
      rw [ee i hi]
      exact hp.app_lt (by omega)
/-- the description of an element is true exactly for its orbit -/
theorem del_orbit {a : St} {x y : Nat} (hx : x < a.n) (hy : y < a.n) (h4 : a.n ≤ 4) (e : Env) (he : e 0 = y) : (delF (a.part (frontL a.n x))).holds a e = true ↔ y ∈ orbL a.n (isos a a) x := by
  have hm := front_perm hx
  have hmi := part_iso (a := a) hm
  have hcn : (a.part (frontL a.n x)).n = a.n := hm.len
  have hm0 : app (frontL a.n x) 0 = x := rfl
  rw [del_holds (by rw [hcn]; omega) (by rw [hcn]; exact h4) (.inr hcn.symm) e (by rw [he]; exact hy), mem_orbL (aut_grp a) hx, he]
  constructor
  · rintro ⟨_, m, hm1, h0⟩
    have hinv := iso_inv hcn.symm hmi
    refine ⟨comp m (inv (frontL a.n x)), iso_comp hcn.symm hm1 hinv, ?_⟩
    rw [app_comp (by rw [len_inv, hm.len]; exact hx)]
    have := inv_app hm (x := 0) (by omega)
    rw [hm0] at this
    rw [this, h0]
  · rintro ⟨l, hl, h0⟩
    refine ⟨hcn.symm, comp l (frontL a.n x), iso_comp rfl hl hmi, ?_⟩
    rw [app_comp (by rw [hm.len]; omega), hm0, h0]
theorem del_shape {a b : St} {x : Nat} (hx : x < a.n) (h4 : a.n < 4) (e : Env) (he : e 0 < b.n) (h : (delF (a.part (frontL a.n x))).holds b e = true) : b.n = a.n ∧ ∃ m, m ∈ isos a b := by
  have hm := front_perm hx
  have hmi := part_iso (a := a) hm
  have hcn : (a.part (frontL a.n x)).n = a.n := hm.len
  obtain ⟨hn, m, hm1, _⟩ := (del_holds (by rw [hcn]; omega) (by rw [hcn]; omega) (.inl (by omega)) e he).1 h
  rw [hcn] at hn
  refine ⟨hn, _, iso_comp hcn.symm hmi (iso_inv (by rw [hcn]; exact hn) hm1)⟩
/-! what is free, the rank, no counting -/
theorem sgn_free (b : Bool) (f : Fm) : (sgn b f).freeBits = f.freeBits := by cases b <;> rfl
theorem sgn_rank (b : Bool) (f : Fm) : (sgn b f).rank = f.rank := by cases b <;> rfl
theorem sgn_counts (b : Bool) (f : Fm) : (sgn b f).counts = f.counts := by cases b <;> rfl
theorem conF_free (u : Fin 4) : ∀ L : List Fm, (conF L).isFree u ↔ ∃ f ∈ L, f.isFree u := by
  intro L
  induction L with
  | nil => simp [conF, Fm.isFree, Fm.freeBits]
  | cons f L ih =>
    cases L with
    | nil => simp [conF]
    | cons g r =>
      have : (conF (f :: g :: r)).isFree u ↔ f.isFree u ∨ (conF (g :: r)).isFree u := by
        simp only [conF, Fm.isFree, Fm.freeBits, Nat.testBit_or, Bool.or_eq_true]
      rw [this, ih]
      simp
theorem disF_free (u : Fin 4) : ∀ L : List Fm, (disF L).isFree u ↔ ∃ f ∈ L, f.isFree u := by
  intro L
  induction L with
  | nil => simp [disF, Fm.isFree, Fm.freeBits]
  | cons f L ih =>
    cases L with
    | nil => simp [disF]
    | cons g r =>
      have : (disF (f :: g :: r)).isFree u ↔ f.isFree u ∨ (disF (g :: r)).isFree u := by
        simp only [disF, Fm.isFree, Fm.freeBits, Nat.testBit_or, Bool.or_eq_true]
      rw [this, ih]
      simp
theorem conF_rank : ∀ L : List Fm, (∀ f ∈ L, f.rank = 0) → (conF L).rank = 0 := by
  intro L
  induction L with
  | nil => intro _; rfl
  | cons f L ih =>
    intro h
    cases L with
    | nil => exact h f (by simp)
    | cons g r => show max f.rank (conF (g :: r)).rank = 0; rw [ih (fun x hx => h x (List.mem_cons_of_mem _ hx)), h f (by simp)]; rfl
theorem disF_rank : ∀ L : List Fm, (∀ f ∈ L, f.rank = 0) → (disF L).rank = 0 := by
  intro L
  induction L with
  | nil => intro _; rfl
  | cons f L ih =>
    intro h
    cases L with
    | nil => exact h f (by simp)
    | cons g r => show max f.rank (disF (g :: r)).rank = 0; rw [ih (fun x hx => h x (List.mem_cons_of_mem _ hx)), h f (by simp)]; rfl
theorem conF_counts : ∀ L : List Fm, (∀ f ∈ L, f.counts = false) → (conF L).counts = false := by
  intro L
  induction L with
  | nil => intro _; rfl
  | cons f L ih =>
    intro h
    cases L with
    | nil => exact h f (by simp)
    | cons g r => show (f.counts || (conF (g :: r)).counts) = false; rw [ih (fun x hx => h x (List.mem_cons_of_mem _ hx)), h f (by simp)]; rfl
theorem disF_counts : ∀ L : List Fm, (∀ f ∈ L, f.counts = false) → (disF L).counts = false := by
  intro L
  induction L with
  | nil => intro _; rfl
  | cons f L ih =>
    intro h
    cases L with
    | nil => exact h f (by simp)
    | cons g r => show (f.counts || (disF (g :: r)).counts) = false; rw [ih (fun x hx => h x (List.mem_cons_of_mem _ hx)), h f (by simp)]; rfl
theorem facts_mem {S : Nat → Bool} {R Q : Nat → Nat → Bool} {n : Nat} {f : Fm} (h : f ∈ factsTo S R Q n) : ∃ b q, f = sgn b q ∧ ((∃ i, i < n ∧ q = .pr (vf i)) ∨ (∃ i j, i < n ∧ j < n ∧ q = .rel (vf i) (vf j)) ∨ (∃ i j, i < n ∧ j < n ∧ q = .eq (vf i) (vf j))) := by
  unfold factsTo at h
  obtain ⟨i, hi, hf⟩ := List.mem_flatMap.1 h
  have hi := List.mem_range.1 hi
  unfold factsAt at hf
  simp only [List.mem_append, List.mem_cons, List.not_mem_nil, or_false, List.mem_flatMap, List.mem_range] at hf
  rcases hf with (rfl | rfl) | ⟨k, hk, rfl | rfl | rfl⟩
  · exact ⟨_, _, rfl, .inl ⟨i, hi, rfl⟩⟩
  · exact ⟨_, _, rfl, .inr (.inl ⟨i, i, hi, hi, rfl⟩)⟩
  · exact ⟨_, _, rfl, .inr (.inr ⟨k, i, by omega, hi, rfl⟩)⟩
  · exact ⟨_, _, rfl, .inr (.inl ⟨k, i, by omega, hi, rfl⟩)⟩
  · exact ⟨_, _, rfl, .inr (.inl ⟨i, k, hi, by omega, rfl⟩)⟩
theorem facts_plain {S : Nat → Bool} {R Q : Nat → Nat → Bool} {n : Nat} {f : Fm} (h : f ∈ factsTo S R Q n) : f.rank = 0 ∧ f.counts = false ∧ (n ≤ 4 → ∀ u, f.isFree u → u.val < n) := by
  obtain ⟨b, q, rfl, ⟨i, hi, rfl⟩ | ⟨i, j, hi, hj, rfl⟩ | ⟨i, j, hi, hj, rfl⟩⟩ := facts_mem h
  · refine ⟨by rw [sgn_rank]; rfl, by rw [sgn_counts]; rfl, fun h4 u hu => ?_⟩
    unfold Fm.isFree at hu
    rw [sgn_free] at hu
    simp only [Fm.freeBits, bit_test, decide_eq_true_eq] at hu
    rw [← hu, vf_val (by omega)]; exact hi
  · refine ⟨by rw [sgn_rank]; rfl, by rw [sgn_counts]; rfl, fun h4 u hu => ?_⟩
    unfold Fm.isFree at hu
    rw [sgn_free] at hu
    simp only [Fm.freeBits, Nat.testBit_or, bit_test, Bool.or_eq_true, decide_eq_true_eq] at hu
    rcases hu with hu | hu
    · rw [← hu, vf_val (by omega)]; exact hi
    · rw [← hu, vf_val (by omega)]; exact hj
  · refine ⟨by rw [sgn_rank]; rfl, by rw [sgn_counts]; rfl, fun h4 u hu => ?_⟩
    unfold Fm.isFree at hu
    rw [sgn_free] at hu
    simp only [Fm.freeBits, Nat.testBit_or, bit_test, Bool.or_eq_true, decide_eq_true_eq] at hu
    rcases hu with hu | hu
    · rw [← hu, vf_val (by omega)]; exact hi
    · rw [← hu, vf_val (by omega)]; exact hj
theorem eqs_plain {n : Nat} {f : Fm} (h : f ∈ (List.range n).map fun i => Fm.eq (vf i) (vf n)) : f.rank = 0 ∧ f.counts = false ∧ (n < 4 → ∀ u, f.isFree u → u.val ≤ n) := by
  obtain ⟨i, hi, rfl⟩ := List.mem_map.1 h
  have hi := List.mem_range.1 hi
  refine ⟨rfl, rfl, fun h4 u hu => ?_⟩
  unfold Fm.isFree at hu
  simp only [Fm.freeBits, Nat.testBit_or, bit_test, Bool.or_eq_true, decide_eq_true_eq] at hu
  rcases hu with hu | hu
  · rw [← hu, vf_val (by omega)]; omega
  · rw [← hu, vf_val (by omega)]; omega
theorem des_facts {n : Nat} (h1 : 1 ≤ n) (h4 : n ≤ 4) (S : Nat → Bool) (R Q : Nat → Nat → Bool) : (desF n S R Q).rank = (if n = 4 then 0 else 1) ∧ (desF n S R Q).counts = false ∧ (∀ u, (desF n S R Q).isFree u → u.val < n) ∧ (desF n S R Q).isFree 0 := by
  have hc := fun (f : Fm) (h : f ∈ factsTo S R Q n) => facts_plain h
  have hcr := conF_rank _ fun f hf => (hc f hf).1
  have hcc := conF_counts _ fun f hf => (hc f hf).2.1
  have hcf : ∀ u, (conF (factsTo S R Q n)).isFree u → u.val < n := fun u hu => by
    obtain ⟨f, hf, hfu⟩ := (conF_free u _).1 hu
    exact (hc f hf).2.2 h4 u hfu
  have hc0 : (conF (factsTo S R Q n)).isFree 0 := by
    refine (conF_free 0 _).2 ⟨sgn (S 0) (.pr (vf 0)), ?_, ?_⟩
    · unfold factsTo
      exact List.mem_flatMap.2 ⟨0, List.mem_range.2 (by omega), by simp [factsAt]⟩
    · unfold Fm.isFree
      rw [sgn_free]
      decide
  unfold desF
  by_cases hn : n = 4
  · rw [if_pos hn, if_pos hn]
    exact ⟨hcr, hcc, hcf, hc0⟩
  · rw [if_neg hn, if_neg hn]
    have hd := fun (f : Fm) (h : f ∈ (List.range n).map fun i => Fm.eq (vf i) (vf n)) => eqs_plain h
    have hdr := disF_rank _ fun f hf => (hd f hf).1
    have hdc := disF_counts _ fun f hf => (hd f hf).2.1
    refine ⟨?_, ?_, fun u hu => ?_, ?_⟩
    · show max _ (_ + 1) = 1
      rw [hcr, hdr]; rfl
    · show (_ || (isCoB (Qn.A.b) || _)) = false
      rw [hcc, hdc]; rfl
    · have hu2 : (conF (factsTo S R Q n)).isFree u ∨ (Fm.qu .A (vf n) (disF ((List.range n).map fun i => .eq (vf i) (vf n)))).isFree u := by
        unfold Fm.isFree at hu ⊢
        simpa only [Fm.freeBits, Nat.testBit_or, Bool.or_eq_true] using hu
      rcases hu2 with h | h
      · exact hcf u h
      · obtain ⟨h5, h6⟩ := (free_qu _ _ _ _).1 h
        obtain ⟨f, hf, hfu⟩ := (disF_free u _).1 h5
        have h7 := (hd f hf).2.2 (by omega) u hfu
        have h8 : u.val ≠ n := fun e => h6 (by rw [← vf_fin u, e])
        omega
    · have hu2 : ∀ u, (conF (factsTo S R Q n)).isFree u → (Fm.con (conF (factsTo S R Q n)) (.qu .A (vf n) (disF ((List.range n).map fun i => .eq (vf i) (vf n))))).isFree u := fun u h => by
        unfold Fm.isFree at h ⊢
        simp only [Fm.freeBits, Nat.testBit_or, Bool.or_eq_true]
        exact .inl h
      exact hu2 0 hc0
theorem ex_facts (q : Fm) : ∀ (k j : Nat), j + k ≤ 4 → (exF j k q).rank = q.rank + k ∧ (exF j k q).counts = q.counts ∧ ∀ u : Fin 4, (exF j k q).isFree u ↔ q.isFree u ∧ (u.val < j ∨ j + k ≤ u.val) := by
  intro k
  induction k with
  | zero => intro j _; exact ⟨rfl, rfl, fun u => ⟨fun h => ⟨h, by omega⟩, fun h => h.1⟩⟩
  | succ k ih =>
    intro j hj
    obtain ⟨h1, h2, h3⟩ := ih (j + 1) (by omega)
    refine ⟨?_, ?_, fun u => ?_⟩
    · show (exF (j + 1) k q).rank + 1 = _
      rw [h1]; omega
    · show (isCoB (Qn.S.b) || (exF (j + 1) k q).counts) = _
      rw [h2]; rfl
    · show (Fm.qu .S (vf j) (exF (j + 1) k q)).isFree u ↔ _
      rw [free_qu, h3]
      constructor
      · rintro ⟨⟨h4, h5⟩, h6⟩
        have : u.val ≠ j := fun e => h6 (by rw [← vf_fin u, e])
        exact ⟨h4, by omega⟩
      · rintro ⟨h4, h5⟩
        exact ⟨⟨h4, by omega⟩, fun e => by rw [e, vf_val (by omega)] at h5; omega⟩
theorem bits_ext {m k : Nat} (hm : m < 16) (hk : k < 16) (h : ∀ u : Fin 4, m.testBit u.val = k.testBit u.val) : m = k := by
  have : ∀ m k : Fin 16, (∀ u : Fin 4, m.val.testBit u.val = k.val.testBit u.val) → m = k := by decide +kernel
  exact congrArg Fin.val (this ⟨m, hm⟩ ⟨k, hk⟩ h)
theorem dst_facts {a : St} (h1 : 1 ≤ a.n) (h3 : a.n ≤ 3) : (dstF a).rank = a.n + 1 ∧ (dstF a).counts = false ∧ (dstF a).freeBits = 0 := by
  obtain ⟨d1, d2, d3, _⟩ := des_facts h1 (by omega) a.inS a.inR noQ
  obtain ⟨e1, e2, e3⟩ := ex_facts (desF a.n a.inS a.inR noQ) a.n 0 (by omega)
  refine ⟨?_, ?_, bits_ext (freeBits_lt _) (by decide) fun u => ?_⟩
  · unfold dstF; rw [e1, d1, if_neg (by omega)]; omega
  · unfold dstF; rw [e2, d2]
  · rw [Nat.zero_testBit]
    cases h : (dstF a).freeBits.testBit u.val with
    | false => rfl
    | true =>
      have := (e3 u).1 h
      have := d3 u this.1
      omega
theorem del_facts {c : St} (h1 : 1 ≤ c.n) (h4 : c.n ≤ 4) : (delF c).freeBits = 1 := by
  obtain ⟨_, _, d3, d4⟩ := des_facts h1 h4 c.inS c.inR noQ
  obtain ⟨_, _, e3⟩ := ex_facts (desF c.n c.inS c.inR noQ) (c.n - 1) 1 (by omega)
  refine bits_ext (freeBits_lt _) (by decide) fun u => ?_
  rw [Bool.eq_iff_iff]
  have h5 := e3 u
  have h6 : (delF c).freeBits.testBit u.val = true ↔ u.val = 0 := by
    refine h5.trans ⟨fun h => ?_, fun h => ?_⟩
    · have := d3 u h.1; omega
    · have : u = 0 := Fin.ext h
      rw [this]; exact ⟨d4, .inl Nat.zero_lt_one⟩
  rw [h6]
  have h7 : ∀ u : Fin 4, u.val = 0 ↔ Nat.testBit 1 u.val = true := by decide
  exact h7 u
end Go.Proofs.YteonanaihklgmaaDoor

namespace Go.Proofs.YteonanaihklgmaaDoor
open Go.RowKit
open Pl
set_option linter.unusedSimpArgs false
set_option linter.unusedVariables false

/-- the texts of formulas -/
def txs (L : List Fm) : List ByteArray := L.map fun f => bs f.text
theorem join_two (c : UInt8) (z y : ByteArray) (r : List ByteArray) : joinL c (z :: y :: r) = c :: (z.data.toList ++ joinL c (y :: r)) := by
  unfold joinL
  rw [if_neg (by simp), if_neg (by simp)]
  unfold preL
  simp
theorem join_one (c : UInt8) (z : ByteArray) : joinL c [z] = z.data.toList := by
  unfold joinL
  rw [if_neg (by simp)]
  unfold preL
  simp
theorem conF_text : ∀ L : List Fm, (conF L).text = joinL 38 (txs L) := by
  intro L
  induction L with
  | nil => rfl
  | cons f L ih =>
    cases L with
    | nil => show f.text = joinL 38 [bs f.text]; rw [join_one, bs_list]
    | cons g r =>
      show 38 :: (f.text ++ (conF (g :: r)).text) = joinL 38 (bs f.text :: bs g.text :: txs r)
      rw [join_two, bs_list, ih]
      rfl
theorem disF_text : ∀ L : List Fm, (disF L).text = joinL 124 (txs L) := by
  intro L
  induction L with
  | nil => rfl
  | cons f L ih =>
    cases L with
    | nil => show f.text = joinL 124 [bs f.text]; rw [join_one, bs_list]
    | cons g r =>
      show 124 :: (f.text ++ (disF (g :: r)).text) = joinL 124 (bs f.text :: bs g.text :: txs r)
      rw [join_two, bs_list, ih]
      rfl
theorem txs_of : ∀ zs : List ByteArray, (∀ z ∈ zs, IsFm z.data.toList) → ∃ L : List Fm, zs = txs L ∧ ∀ f ∈ L, f.text.length ≤ 4000 := by
  intro zs
  induction zs with
  | nil => intro _; exact ⟨[], rfl, by simp⟩
  | cons z zs ih =>
    intro h
    obtain ⟨L, h1, h2⟩ := ih fun x hx => h x (List.mem_cons_of_mem _ hx)
    obtain ⟨hl, f, hf⟩ := h z (by simp)
    refine ⟨f :: L, ?_, fun g hg => ?_⟩
    · rw [h1, eq_bs hf]; rfl
    · rcases List.mem_cons.1 hg with rfl | hg
      · rw [← hf]; exact hl
      · exact h2 g hg
/-- JoinFormulas: no, or the joined formula -/
theorem join_cases (op : ByteArray) (zs : List ByteArray) : joinV op zs = (bs [], false) ∨
    ∃ L : List Fm, zs = txs L ∧ (∀ f ∈ L, f.text.length ≤ 4000) ∧
      ((op = ⟨#[38]⟩ ∧ (conF L).text.length ≤ 4000 ∧ joinV op zs = (bs (conF L).text, true)) ∨ (op = ⟨#[124]⟩ ∧ (disF L).text.length ≤ 4000 ∧ joinV op zs = (bs (disF L).text, true))) := by
  by_cases h : (op = ⟨#[38]⟩ ∨ op = ⟨#[124]⟩) ∧ (∀ z ∈ zs, IsFm z.data.toList) ∧ (joinL (op.data.toList.headD 0) zs).length ≤ 4000
  · right
    have hv := joinV_yes h
    obtain ⟨h1, h2, h3⟩ := h
    obtain ⟨L, hL, hl⟩ := txs_of zs h2
    subst hL
    refine ⟨L, rfl, hl, ?_⟩
    rcases h1 with rfl | rfl
    · left
      have e : joinL ((ByteArray.mk #[38]).data.toList.headD 0) (txs L) = (conF L).text := (conF_text L).symm
      rw [e] at h3 hv
      exact ⟨rfl, h3, hv⟩
    · right
      have e : joinL ((ByteArray.mk #[124]).data.toList.headD 0) (txs L) = (disF L).text := (disF_text L).symm
      rw [e] at h3 hv
      exact ⟨rfl, h3, hv⟩
  · left; exact joinV_no h
theorem txs_len (L : List Fm) : (txs L).length = L.length := by simp [txs]
theorem txs_get {L : List Fm} {k : Nat} (h : k < L.length) : (txs L).getD k ByteArray.empty = bs (L[k]).text := by
  rw [List.getD_eq_getElem?_getD, txs, List.getElem?_map, List.getElem?_eq_getElem h]
  rfl
/-- of the first k formulas all, some -/
def allTo (a : St) (e : Env) (L : List Fm) (k : Nat) : Bool := (L.take k).all fun f => f.holds a e
def someTo (a : St) (e : Env) (L : List Fm) (k : Nat) : Bool := (L.take k).any fun f => f.holds a e
theorem allTo_succ {a : St} {e : Env} {L : List Fm} {k : Nat} (h : k < L.length) : allTo a e L (k + 1) = (allTo a e L k && (L[k]).holds a e) := by
  unfold allTo
  rw [List.take_succ_eq_append_getElem h, List.all_append]
  simp
theorem someTo_succ {a : St} {e : Env} {L : List Fm} {k : Nat} (h : k < L.length) : someTo a e L (k + 1) = (someTo a e L k || (L[k]).holds a e) := by
  unfold someTo
  rw [List.take_succ_eq_append_getElem h, List.any_append]
  simp
theorem allTo_all (a : St) (e : Env) (L : List Fm) : allTo a e L L.length = (conF L).holds a e := by unfold allTo; rw [List.take_length, conF_holds]
theorem someTo_all (a : St) (e : Env) (L : List Fm) : someTo a e L L.length = (disF L).holds a e := by unfold someTo; rw [List.take_length, disF_holds]
theorem not_cases (f : Fm) (h : f.text.length ≤ 4000) : (notV (bs f.text).data.toList = .tuple #[.string ⟨#[]⟩, .bool false]) ∨ notV (bs f.text).data.toList = .tuple #[.string (⟨#[33]⟩ ++ bs f.text), .bool true] := by
  rw [bs_list]
  unfold notV
  by_cases hl : f.text.length < 4000
  · right
    rw [if_pos ⟨⟨h, f, rfl⟩, hl⟩, mk_bs, text_app]
    rfl
  · left
    rw [if_neg fun h => hl h.2]
theorem joinSt_ok : St.ok ⟨3, [48, 49, 48], [48, 49, 48, 48, 48, 49, 49, 49, 48]⟩ := ⟨by decide, by decide, rfl, rfl, by unfold IsBit; decide, by unfold IsBit; decide⟩
end Go.Proofs.YteonanaihklgmaaDoor

namespace Go.Proofs.YteonanaihklgmaaDoor
open Go.RowKit
open Pl
set_option linter.unusedSimpArgs false
set_option linter.unusedVariables false

attribute [local go_sem ↓] Go.wp_at_zero Go.wp_at_succ

theorem srow_at {W : World} {g n c i : Nat} {zs : List ByteArray} (h : SRow W (.slice (some ⟨g, 0, none⟩) n c) zs) (hi : i < zs.length) : ∃ g', (some (⟨g, 0, none⟩ : Addr)) = some ⟨g', 0, none⟩ ∧ W.cell? ⟨g', i, none⟩ = some (.string (zs.getD i ByteArray.empty)) := by
  rcases h with ⟨h, _⟩ | ⟨a, cap, e1, _, _, hcell, _⟩
  · simp at h
  injection e1 with e1 _ _
  injection e1 with e1
  refine ⟨g, rfl, ?_⟩
  have := hcell i hi
  rwa [← e1, add_zero_at] at this

set_option maxHeartbeats 16000000 in
set_option maxRecDepth 100000 in
theorem FnJoinFormulas_walk (A : Option Addr) (n cap : Nat) (AA : Option Addr) (n2 cap2 : Nat) (w : World) (h : ByRow w A n) (hc : n ≤ cap) (hm : cap ≤ maxLen) (h2 : ByRow w AA n2) (hc2 : n2 ≤ cap2) (hm2 : cap2 ≤ maxLen) :
    Calls Tryd.prog 5 #[.slice A n cap, .slice AA n2 cap2] w fun e w' => e = .returned (.bool true) ∧ Below w.heap.size w w' := by
  by_cases hn : n ≤ 1048576
  case neg =>
    have hni : (1048576 : Int) < (n : Int) := by omega
    clear h hc hm h2 hc2 hm2
    go_enter Tryd.func5, Tryd.ntmps5
    go_wp2_with fail
    go_ret
    exact ⟨rfl, Below.refl _ _⟩
  case pos =>
  have hni : (n : Int) ≤ 1048576 := by omega
  by_cases hn2 : n2 ≤ 1048576
  case neg =>
    have hni2 : (1048576 : Int) < (n2 : Int) := by omega
    clear h hc hm h2 hc2 hm2
    go_enter Tryd.func5, Tryd.ntmps5
    go_wp2_with fail
    go_ret
    exact ⟨rfl, Below.refl _ _⟩
  case pos =>
  have hni2 : (n2 : Int) ≤ 1048576 := by omega
  have H2 := Lib.hid h2
  have HD := Lib.hid (DrawJoinFormulas_calls A n cap w h hn hc hm)
  clear h hc hm h2 hc2 hm2
  go_enter Tryd.func5, Tryd.ntmps5
  go_wp2_with fail
  refine (HD.out).mono ?_
  rintro e w1 ⟨⟨op, zs, gz, cz, rfl, hop, hzl, hz64, hzr⟩, hz⟩
  have B1 := Lib.hid hz
  have R1 := Lib.hid (H2.out.call hz)
  have Z1 := Lib.hid hzr
  clear hz hzr
  have ci := fun W (hW : SRow W (.slice (some ⟨gz, 0, none⟩) zs.length cz) zs) => JoinFormulas_impl op gz zs W (by omega) hW
  have cs := fun W (hW : SRow W (.slice (some ⟨gz, 0, none⟩) zs.length cz) zs) => JoinFormulas_spec op gz zs W (by omega) hW
  rcases join_cases op zs with hv | ⟨L, rfl, hlt, ⟨rfl, hjt, hv⟩ | ⟨rfl, hjt, hv⟩⟩
  · simp only [hv] at ci cs
    have CI := Lib.hid ci
    have CS := Lib.hid cs
    clear ci cs hv
    go_wp2_with fail
    refine (CI.out _ Z1.out).mono ?_
    rintro e w2 ⟨rfl, hz⟩
    have B2 := Lib.hid (B1.out.trans (hz.mono B1.out.size))
    have Z2 := Lib.hid (Z1.out.lt _ hz)
    clear hz
    go_wp2_with fail
    refine (CS.out _ Z2.out).mono ?_
    rintro e w3 ⟨rfl, hz⟩
    have B3 := Lib.hid (B2.out.trans (hz.mono B2.out.size))
    clear hz
    go_wp2_with fail
    go_ret
    exact ⟨rfl, B3.out⟩
  · simp only [hv] at ci cs
    have HLT := Lib.hid hlt
    clear hv hlt hz64 hop
    as_aux_lemma =>
      have hjl : (bs (conF L).text).size ≤ 4000 := by rw [bs_size]; exact hjt
      obtain ⟨FT, hFT⟩ : ∃ FT, FT = bs (conF L).text := ⟨_, rfl⟩
      obtain ⟨NV, hNV⟩ : ∃ NV, NV = notV (bs (conF L).text).data.toList := ⟨_, rfl⟩
      have hnv := not_cases (conF L) hjt
      rw [← hNV] at hnv
      have ni := fun W => NotFormula_impl (bs (conF L).text) W (by omega)
      have ns := fun W => NotFormula_spec (bs (conF L).text) W (by omega)
      simp only [← hNV] at ni ns
      rw [← hFT] at ci cs ni ns hjl hnv
      have hji : (FT.size : Int) ≤ 4000 := by omega
      have HNI := Lib.hid ni
      have HNS := Lib.hid ns
      have HNV := Lib.hid hnv
      have HFT := Lib.hid hFT
      have CI := Lib.hid ci
      have CS := Lib.hid cs
      have HTX := Lib.hid (txs_len L)
      clear ni ns hnv hFT hNV ci cs
      go_wp2_with fail
      refine (CI.out _ Z1.out).mono ?_
      rintro e w2 ⟨rfl, hz⟩
      have B2 := Lib.hid (B1.out.trans (hz.mono B1.out.size))
      have R2 := Lib.hid (R1.out.call hz)
      have Z2 := Lib.hid (Z1.out.lt _ hz)
      clear hz
      go_wp2_with fail
      refine (CS.out _ Z2.out).mono ?_
      rintro e w4 ⟨rfl, hz⟩
      obtain ⟨a, hae⟩ : ∃ a : St, a = ⟨3, [48, 49, 48], [48, 49, 48, 48, 48, 49, 49, 49, 48]⟩ := ⟨_, rfl⟩
      have ha : a.ok := by rw [hae]; exact joinSt_ok
      have AL := ((Below.refl w4.heap.size w4).alloc (Nat.le_refl _) (.cells #[.int .i64 3, .string ⟨#[48, 49, 48]⟩, .string ⟨#[48, 49, 48, 48, 48, 49, 49, 49, 48]⟩] 27))
      have B5 := Lib.hid ((B2.out.trans (hz.mono B2.out.size)).trans (AL.mono (Nat.le_trans B2.out.size hz.size)))
      have R5 := Lib.hid ((R2.out.call hz).call AL)
      have Z5 := Lib.hid ((Z2.out.lt _ hz).lt _ AL)
      have X5 := Lib.hid (show Bx (w4.alloc (.cells #[.int .i64 3, .string ⟨#[48, 49, 48]⟩, .string ⟨#[48, 49, 48, 48, 48, 49, 49, 49, 48]⟩] 27)) w4.heap.size 27 #[.int .i64 (a.n : Int), .string (bs a.set), .string (bs a.rel)] from by rw [hae]; exact Bx.new w4 27 #[.int .i64 3, .string ⟨#[48, 49, 48]⟩, .string ⟨#[48, 49, 48, 48, 48, 49, 49, 49, 48]⟩])
      clear hz AL B1 B2 R1 R2 Z1 Z2 hae CI CS
      have HG4 := Lib.hid (fun (q : Nat) (hq : q ≤ 1000) (W : World) (hW : ByRow W AA n2) => gsFour_calls a ha AA n2 cap2 hn2 q hq W hW)
      have HGF := Lib.hid (fun (q : List Nat) (hqx : ∀ x ∈ q, x < a.n) (hq : q.length = 4) (b : Bool) (hb : (conF L).holds a (envL q) = b) (A2 : Option Addr) (W : World) (hW : LRow W A2 (natsI q)) => gs_four a ha (conF L) hjt FT HFT.out q hqx hq A2 4 (Nat.le_refl _) b hb W hW)
      have HGZ := Lib.hid (fun (i : Nat) (hi : i < L.length) (z : ByteArray) (hz : z = bs (L[i]).text) (q : List Nat) (hqx : ∀ x ∈ q, x < a.n) (hq : q.length = 4) (b : Bool) (hb : (L[i]).holds a (envL q) = b) (A2 : Option Addr) (W : World) (hW : LRow W A2 (natsI q)) => gs_four a ha (L[i]) (HLT.out _ (List.getElem_mem hi)) z hz q hqx hq A2 4 (Nat.le_refl _) b hb W hW)
      go_wp2_with fail
      go_loopg [12] 5 (fun c iv wr => ∃ k : Nat, k + c = 5 ∧ iv = .int .i64 (k : Nat) ∧ Bx wr w4.heap.size 27 #[.int .i64 (a.n : Int), .string (bs a.set), .string (bs a.rel)] ∧ ByRow wr AA n2 ∧ SRow wr (.slice (some ⟨gz, 0, none⟩) (txs L).length cz) (txs L) ∧ Below w.heap.size w wr)
      case atStart => exact ⟨0, by omega, rfl, X5.out, R5.out, Z5.out, B5.out⟩
      case round =>
        clear X5 R5 Z5 B5
        obtain ⟨k, hk, rfl, hxs, hby, hzr, hbl⟩ := hrel
        have HXs := Lib.hid hxs
        have HBY := Lib.hid hby
        have HB := Lib.hid hbl
        have HZ := Lib.hid hzr
        clear hxs hby hbl hzr
        obtain ⟨x0, x1, x2⟩ := box_load HXs.out
        by_cases hlt : k < 5
        · go_wp2_with fail
          refine (HG4.out k (by omega) _ HBY.out).mono ?_
          rintro e w10 ⟨⟨gq, y0, y1, y2, y3, rfl, z0, z1, z2, z3, hq, hgq⟩, hz⟩
          have B10 := Lib.hid (HB.out.trans (hz.mono HB.out.size))
          have X10 := Lib.hid (HXs.out.call hz)
          have R10 := Lib.hid (HBY.out.call hz)
          have Z10 := Lib.hid (HZ.out.lt _ hz)
          have Q10 := Lib.hid hq
          have HYX := Lib.hid (show ∀ x ∈ [y0, y1, y2, y3], x < a.n from fun x hx => by simp at hx; rcases hx with rfl | rfl | rfl | rfl <;> assumption)
          obtain ⟨EE, hEE⟩ : ∃ EE, EE = envL [y0, y1, y2, y3] := ⟨_, rfl⟩
          have HEE := Lib.hid hEE
          clear hz hq hgq z0 z1 z2 z3 x0 x1 x2 hEE
          go_wp2_with fail
          go_loopg [14, 15, 16, 17] L.length (fun c av sv iv lv wr => ∃ (i : Nat) (b1 b2 : Bool), i + c = L.length ∧ iv = .int .i64 (i : Nat) ∧ av = .bool b1 ∧ sv = .bool b2 ∧ b1 = allTo a EE L i ∧ b2 = someTo a EE L i ∧ Bx wr w4.heap.size 27 #[.int .i64 (a.n : Int), .string (bs a.set), .string (bs a.rel)] ∧ ByRow wr AA n2 ∧ SRow wr (.slice (some ⟨gz, 0, none⟩) (txs L).length cz) (txs L) ∧ LRow wr (some ⟨gq, 0, none⟩) (natsI [y0, y1, y2, y3]) ∧ Below w.heap.size w wr)
          case atStart => exact ⟨0, true, false, by omega, rfl, rfl, rfl, rfl, rfl, X10.out, R10.out, Z10.out, Q10.out, B10.out⟩
          case round =>
            clear X10 R10 Z10 Q10 B10 HXs HBY HB HZ
            obtain ⟨i, b1, b2, hi, rfl, rfl, rfl, hb1, hb2, hxs, hby, hzr, hql, hbl⟩ := hrel
            have HXs := Lib.hid hxs
            have HBY := Lib.hid hby
            have HB := Lib.hid hbl
            have HZ := Lib.hid hzr
            have HQ := Lib.hid hql
            have HB1 := Lib.hid hb1
            have HB2 := Lib.hid hb2
            clear hxs hby hbl hzr hql hb1 hb2
            obtain ⟨wo, rfl⟩ : ∃ x, x = wr := ⟨wr, rfl⟩
            have hll := HTX.out
            by_cases hli : i < L.length
            · have hlz : (i : Int) < ((txs L).length : Int) := by omega
              obtain ⟨zt, hzt⟩ : ∃ zt, zt = bs (L[i]).text := ⟨_, rfl⟩
              obtain ⟨V, hV⟩ : ∃ V, V = (L[i]).holds a EE := ⟨_, rfl⟩
              have HZQ := Lib.hid (HGZ.out i hli zt hzt [y0, y1, y2, y3] HYX.out rfl V (by rw [hV, HEE.out]) (some ⟨gq, 0, none⟩))
              have HZT := Lib.hid hzt
              have HV := Lib.hid hV
              clear hzt hV hll
              have B11 := Lib.hid HB.out.drew
              have X11 := Lib.hid HXs.out.drew
              have R11 := Lib.hid (HBY.out.call (Below.refl wo.heap.size wo).drew)
              have Z11 := Lib.hid (HZ.out.lt _ (Below.refl wo.heap.size wo).drew)
              have Q11 := Lib.hid (show LRow wo.drew (some ⟨gq, 0, none⟩) (natsI [y0, y1, y2, y3]) from HQ.out)
              obtain ⟨x0, x1, x2⟩ := box_load X11.out
              obtain ⟨gz', ez, x3⟩ := srow_at Z11.out (show i < (txs L).length by rw [txs_len]; exact hli)
              cases ez
              rw [txs_get hli, ← HZT.out] at x3
              go_upto_region 17 with (fail)
              refine region_sched [(0, true), (1, true), (2, true), (3, true), (4, true), (5, true), (6, false), (7, true)] (fun w' : World => (w'.cell? ⟨w4.heap.size, 0, none⟩ = some (.int .i64 (a.n : Int)) ∧ w'.cell? ⟨w4.heap.size, 1, none⟩ = some (.string (bs a.set)) ∧ w'.cell? ⟨w4.heap.size, 2, none⟩ = some (.string (bs a.rel))) ∧ w'.cell? ⟨gz, i, none⟩ = some (.string zt)) (by kernel_rfl) (by kernel_rfl) (by kernel_rfl) (by kernel_rfl) (fun _ _ _ _ h => h) ?_ (fun Q1 hQ1 => ?_)
              · exact ⟨⟨x0, x1, x2⟩, x3⟩
              try simp only [List.append]
              refine sched_take' (v := .agg #[.int .i64 (a.n : Int), .string (bs a.set), .string (bs a.rel)]) (a' := ?_) rfl (by kernel_rfl) ?_ rfl ?_ ?_
              rotate_left 1
              · intro w hSw
                (try dsimp only at hSw)
                go_simp
                first | done | (obtain ⟨⟨u0, u1, u2⟩, u3⟩ := hSw; simp [*])
              · (try simp only [Act.put, List.setIfInBounds_toArray, List.set_cons_zero, List.set_cons_succ])
                try rfl
              refine sched_take' (v := ?_) (a' := ?_) rfl (by kernel_rfl) ?_ rfl ?_ ?_
              rotate_left 2
              · intro w hSw
                (try dsimp only at hSw)
                go_simp
                try with_reducible rfl
              · (try simp only [Act.put, List.setIfInBounds_toArray, List.set_cons_zero, List.set_cons_succ])
                try rfl
              refine sched_take' (v := ?_) (a' := ?_) rfl (by kernel_rfl) ?_ rfl ?_ ?_
              rotate_left 2
              · intro w hSw
                (try dsimp only at hSw)
                go_simp
                try with_reducible rfl
              · (try simp only [Act.put, List.setIfInBounds_toArray, List.set_cons_zero, List.set_cons_succ])
                try rfl
              refine sched_take' (v := ?_) (a' := ?_) rfl (by kernel_rfl) ?_ rfl ?_ ?_
              rotate_left 2
              · intro w hSw
                (try dsimp only at hSw)
                go_simp
                try with_reducible rfl
              · (try simp only [Act.put, List.setIfInBounds_toArray, List.set_cons_zero, List.set_cons_succ])
                try rfl
              refine sched_take' (v := .string zt) (a' := ?_) rfl (by kernel_rfl) ?_ rfl ?_ ?_
              rotate_left 1
              · intro w hSw
                (try dsimp only at hSw)
                go_simp
                first | done | (obtain ⟨⟨u0, u1, u2⟩, u3⟩ := hSw; simp [*])
              · (try simp only [Act.put, List.setIfInBounds_toArray, List.set_cons_zero, List.set_cons_succ])
                try rfl
              refine sched_take' (v := ?_) (a' := ?_) rfl (by kernel_rfl) ?_ rfl ?_ ?_
              rotate_left 2
              · intro w hSw
                (try dsimp only at hSw)
                go_simp
                try with_reducible rfl
              · (try simp only [Act.put, List.setIfInBounds_toArray, List.set_cons_zero, List.set_cons_succ])
                try rfl
              refine sched_call rfl (by kernel_rfl) (fun K1 hK1 => ?_)
              go_simp
              refine (HZQ.out _ Q11.out).mono ?_
              rintro e w12 ⟨rfl, hz⟩
              have B12 := Lib.hid (B11.out.trans (hz.mono B11.out.size))
              have X12 := Lib.hid (X11.out.call hz)
              have R12 := Lib.hid (R11.out.call hz)
              have Q12 := Lib.hid (Q11.out.call hz)
              have Z12 := Lib.hid (Z11.out.lt _ hz)
              clear hz x0 x1 x2 x3
              go_wp2_with fail
              refine hK1.out _ _ ?_ (sched_lay (a' := ?_) ?_ ?_)
              · obtain ⟨x0, x1, x2⟩ := box_load X12.out
                obtain ⟨gz', ez, hcz⟩ := srow_at Z12.out (show i < (txs L).length by rw [txs_len]; exact hli)
                cases ez
                rw [txs_get hli, ← HZT.out] at hcz
                exact ⟨⟨x0, x1, x2⟩, hcz⟩
              rotate_left 1
              · (try simp only [Act.put, List.getElem_toArray, List.getElem_cons_succ, List.getElem_cons_zero, List.setIfInBounds_toArray, List.set_cons_zero, List.set_cons_succ])
                try rfl
              clear hK1 K1
              refine sched_take' (v := ?_) (a' := ?_) rfl (by kernel_rfl) ?_ rfl ?_ ?_
              rotate_left 2
              · intro w hSw
                (try dsimp only at hSw)
                go_simp
                try with_reducible rfl
              · (try simp only [Act.put, List.setIfInBounds_toArray, List.set_cons_zero, List.set_cons_succ])
                try rfl
              refine sched_done (hQ1.out _ _ ?_)
              obtain ⟨x0, x1, x2⟩ := box_load X12.out
              cases b1 <;> cases b2
              all_goals
                go_wp2_with fail
                go_roundg (L.length - i - 1)
                case rel => exact ⟨i + 1, _, _, by omega, by go_num, rfl, rfl, by rw [allTo_succ hli, ← HB1.out, ← HV.out]; cases V <;> rfl, by rw [someTo_succ hli, ← HB2.out, ← HV.out]; cases V <;> rfl, X12.out, R12.out, Z12.out, Q12.out, B12.out⟩
                case measure => omega
            · obtain rfl : i = L.length := by omega
              have hgk : gk = 0 := by omega
              subst hgk
              clear hli hi
              have hV : (conF L).holds a (envL [y0, y1, y2, y3]) = b1 := by rw [HB1.out, allTo_all, HEE.out]
              have HGQ := Lib.hid (HGF.out [y0, y1, y2, y3] HYX.out rfl _ hV (some ⟨gq, 0, none⟩))
              have e1 : (b1 != b1) = false := by cases b1 <;> rfl
              have e2 : (b2 != b2) = false := by cases b2 <;> rfl
              have hle2 : ((txs L).length : Int) ≤ (L.length : Int) := by omega
              clear hV hll
              obtain ⟨x0, x1, x2⟩ := box_load HXs.out
              go_wp2_with fail
              refine (HGQ.out _ HQ.out).mono ?_
              rintro e w13 ⟨rfl, hz⟩
              have B13 := Lib.hid (HB.out.trans (hz.mono HB.out.size))
              have X13 := Lib.hid (HXs.out.call hz)
              have R13 := Lib.hid (HBY.out.call hz)
              have Z13 := Lib.hid (HZ.out.lt _ hz)
              clear hz x0 x1 x2
              clear e1 e2
              cases b1 <;> cases b2
              all_goals
                go_wp2_with fail
                go_roundg (5 - k - 1)
                case rel => exact ⟨k + 1, by omega, by go_num, X13.out, R13.out, Z13.out, B13.out⟩
                case measure => omega
        · obtain rfl : k = 5 := by omega
          have B8 := HB
          clear HXs x0 x1 x2 HBY HG4 HGF HGZ HB HZ
          rcases HNV.out with hv | hv
          all_goals
            have hni := HNI.out
            have hns := HNS.out
            simp only [hv] at hni hns
            have NI := Lib.hid hni
            have NS := Lib.hid hns
            clear hni hns hv HNI HNS HNV
            go_wp2_with fail
            refine (NI.out _).mono ?_
            rintro e w9 ⟨rfl, hz⟩
            have B9 := Lib.hid (B8.out.trans (hz.mono B8.out.size))
            clear hz
            go_wp2_with fail
            refine (NS.out _).mono ?_
            rintro e w10 ⟨rfl, rfl⟩
            go_wp2_with fail
            go_ret
            exact ⟨rfl, B9.out⟩
  · simp only [hv] at ci cs
    have HLT := Lib.hid hlt
    clear hv hlt hz64 hop
    as_aux_lemma =>
      have hjl : (bs (disF L).text).size ≤ 4000 := by rw [bs_size]; exact hjt
      obtain ⟨FT, hFT⟩ : ∃ FT, FT = bs (disF L).text := ⟨_, rfl⟩
      obtain ⟨NV, hNV⟩ : ∃ NV, NV = notV (bs (disF L).text).data.toList := ⟨_, rfl⟩
      have hnv := not_cases (disF L) hjt
      rw [← hNV] at hnv
      have ni := fun W => NotFormula_impl (bs (disF L).text) W (by omega)
      have ns := fun W => NotFormula_spec (bs (disF L).text) W (by omega)
      simp only [← hNV] at ni ns
      rw [← hFT] at ci cs ni ns hjl hnv
      have hji : (FT.size : Int) ≤ 4000 := by omega
      have HNI := Lib.hid ni
      have HNS := Lib.hid ns
      have HNV := Lib.hid hnv
      have HFT := Lib.hid hFT
      have CI := Lib.hid ci
      have CS := Lib.hid cs
      have HTX := Lib.hid (txs_len L)
      clear ni ns hnv hFT hNV ci cs
      go_wp2_with fail
      refine (CI.out _ Z1.out).mono ?_
      rintro e w2 ⟨rfl, hz⟩
      have B2 := Lib.hid (B1.out.trans (hz.mono B1.out.size))
      have R2 := Lib.hid (R1.out.call hz)
      have Z2 := Lib.hid (Z1.out.lt _ hz)
      clear hz
      go_wp2_with fail
      refine (CS.out _ Z2.out).mono ?_
      rintro e w4 ⟨rfl, hz⟩
      obtain ⟨a, hae⟩ : ∃ a : St, a = ⟨3, [48, 49, 48], [48, 49, 48, 48, 48, 49, 49, 49, 48]⟩ := ⟨_, rfl⟩
      have ha : a.ok := by rw [hae]; exact joinSt_ok
      have AL := ((Below.refl w4.heap.size w4).alloc (Nat.le_refl _) (.cells #[.int .i64 3, .string ⟨#[48, 49, 48]⟩, .string ⟨#[48, 49, 48, 48, 48, 49, 49, 49, 48]⟩] 27))
      have B5 := Lib.hid ((B2.out.trans (hz.mono B2.out.size)).trans (AL.mono (Nat.le_trans B2.out.size hz.size)))
      have R5 := Lib.hid ((R2.out.call hz).call AL)
      have Z5 := Lib.hid ((Z2.out.lt _ hz).lt _ AL)
      have X5 := Lib.hid (show Bx (w4.alloc (.cells #[.int .i64 3, .string ⟨#[48, 49, 48]⟩, .string ⟨#[48, 49, 48, 48, 48, 49, 49, 49, 48]⟩] 27)) w4.heap.size 27 #[.int .i64 (a.n : Int), .string (bs a.set), .string (bs a.rel)] from by rw [hae]; exact Bx.new w4 27 #[.int .i64 3, .string ⟨#[48, 49, 48]⟩, .string ⟨#[48, 49, 48, 48, 48, 49, 49, 49, 48]⟩])
      clear hz AL B1 B2 R1 R2 Z1 Z2 hae CI CS
      have HG4 := Lib.hid (fun (q : Nat) (hq : q ≤ 1000) (W : World) (hW : ByRow W AA n2) => gsFour_calls a ha AA n2 cap2 hn2 q hq W hW)
      have HGF := Lib.hid (fun (q : List Nat) (hqx : ∀ x ∈ q, x < a.n) (hq : q.length = 4) (b : Bool) (hb : (disF L).holds a (envL q) = b) (A2 : Option Addr) (W : World) (hW : LRow W A2 (natsI q)) => gs_four a ha (disF L) hjt FT HFT.out q hqx hq A2 4 (Nat.le_refl _) b hb W hW)
      have HGZ := Lib.hid (fun (i : Nat) (hi : i < L.length) (z : ByteArray) (hz : z = bs (L[i]).text) (q : List Nat) (hqx : ∀ x ∈ q, x < a.n) (hq : q.length = 4) (b : Bool) (hb : (L[i]).holds a (envL q) = b) (A2 : Option Addr) (W : World) (hW : LRow W A2 (natsI q)) => gs_four a ha (L[i]) (HLT.out _ (List.getElem_mem hi)) z hz q hqx hq A2 4 (Nat.le_refl _) b hb W hW)
      go_wp2_with fail
      go_loopg [12] 5 (fun c iv wr => ∃ k : Nat, k + c = 5 ∧ iv = .int .i64 (k : Nat) ∧ Bx wr w4.heap.size 27 #[.int .i64 (a.n : Int), .string (bs a.set), .string (bs a.rel)] ∧ ByRow wr AA n2 ∧ SRow wr (.slice (some ⟨gz, 0, none⟩) (txs L).length cz) (txs L) ∧ Below w.heap.size w wr)
      case atStart => exact ⟨0, by omega, rfl, X5.out, R5.out, Z5.out, B5.out⟩
      case round =>
        clear X5 R5 Z5 B5
        obtain ⟨k, hk, rfl, hxs, hby, hzr, hbl⟩ := hrel
        have HXs := Lib.hid hxs
        have HBY := Lib.hid hby
        have HB := Lib.hid hbl
        have HZ := Lib.hid hzr
        clear hxs hby hbl hzr
        obtain ⟨x0, x1, x2⟩ := box_load HXs.out
        by_cases hlt : k < 5
        · go_wp2_with fail
          refine (HG4.out k (by omega) _ HBY.out).mono ?_
          rintro e w10 ⟨⟨gq, y0, y1, y2, y3, rfl, z0, z1, z2, z3, hq, hgq⟩, hz⟩
          have B10 := Lib.hid (HB.out.trans (hz.mono HB.out.size))
          have X10 := Lib.hid (HXs.out.call hz)
          have R10 := Lib.hid (HBY.out.call hz)
          have Z10 := Lib.hid (HZ.out.lt _ hz)
          have Q10 := Lib.hid hq
          have HYX := Lib.hid (show ∀ x ∈ [y0, y1, y2, y3], x < a.n from fun x hx => by simp at hx; rcases hx with rfl | rfl | rfl | rfl <;> assumption)
          obtain ⟨EE, hEE⟩ : ∃ EE, EE = envL [y0, y1, y2, y3] := ⟨_, rfl⟩
          have HEE := Lib.hid hEE
          clear hz hq hgq z0 z1 z2 z3 x0 x1 x2 hEE
          go_wp2_with fail
          go_loopg [14, 15, 16, 17] L.length (fun c av sv iv lv wr => ∃ (i : Nat) (b1 b2 : Bool), i + c = L.length ∧ iv = .int .i64 (i : Nat) ∧ av = .bool b1 ∧ sv = .bool b2 ∧ b1 = allTo a EE L i ∧ b2 = someTo a EE L i ∧ Bx wr w4.heap.size 27 #[.int .i64 (a.n : Int), .string (bs a.set), .string (bs a.rel)] ∧ ByRow wr AA n2 ∧ SRow wr (.slice (some ⟨gz, 0, none⟩) (txs L).length cz) (txs L) ∧ LRow wr (some ⟨gq, 0, none⟩) (natsI [y0, y1, y2, y3]) ∧ Below w.heap.size w wr)
          case atStart => exact ⟨0, true, false, by omega, rfl, rfl, rfl, rfl, rfl, X10.out, R10.out, Z10.out, Q10.out, B10.out⟩
          case round =>
            clear X10 R10 Z10 Q10 B10 HXs HBY HB HZ
            obtain ⟨i, b1, b2, hi, rfl, rfl, rfl, hb1, hb2, hxs, hby, hzr, hql, hbl⟩ := hrel
            have HXs := Lib.hid hxs
            have HBY := Lib.hid hby
            have HB := Lib.hid hbl
            have HZ := Lib.hid hzr
            have HQ := Lib.hid hql
            have HB1 := Lib.hid hb1
            have HB2 := Lib.hid hb2
            clear hxs hby hbl hzr hql hb1 hb2
            obtain ⟨wo, rfl⟩ : ∃ x, x = wr := ⟨wr, rfl⟩
            have hll := HTX.out
            by_cases hli : i < L.length
            · have hlz : (i : Int) < ((txs L).length : Int) := by omega
              obtain ⟨zt, hzt⟩ : ∃ zt, zt = bs (L[i]).text := ⟨_, rfl⟩
              obtain ⟨V, hV⟩ : ∃ V, V = (L[i]).holds a EE := ⟨_, rfl⟩
              have HZQ := Lib.hid (HGZ.out i hli zt hzt [y0, y1, y2, y3] HYX.out rfl V (by rw [hV, HEE.out]) (some ⟨gq, 0, none⟩))
              have HZT := Lib.hid hzt
              have HV := Lib.hid hV
              clear hzt hV hll
              have B11 := Lib.hid HB.out.drew
              have X11 := Lib.hid HXs.out.drew
              have R11 := Lib.hid (HBY.out.call (Below.refl wo.heap.size wo).drew)
              have Z11 := Lib.hid (HZ.out.lt _ (Below.refl wo.heap.size wo).drew)
              have Q11 := Lib.hid (show LRow wo.drew (some ⟨gq, 0, none⟩) (natsI [y0, y1, y2, y3]) from HQ.out)
              obtain ⟨x0, x1, x2⟩ := box_load X11.out
              obtain ⟨gz', ez, x3⟩ := srow_at Z11.out (show i < (txs L).length by rw [txs_len]; exact hli)
              cases ez
              rw [txs_get hli, ← HZT.out] at x3
              go_upto_region 17 with (fail)
              refine region_sched [(0, true), (1, true), (2, true), (3, true), (4, true), (5, true), (6, false), (7, true)] (fun w' : World => (w'.cell? ⟨w4.heap.size, 0, none⟩ = some (.int .i64 (a.n : Int)) ∧ w'.cell? ⟨w4.heap.size, 1, none⟩ = some (.string (bs a.set)) ∧ w'.cell? ⟨w4.heap.size, 2, none⟩ = some (.string (bs a.rel))) ∧ w'.cell? ⟨gz, i, none⟩ = some (.string zt)) (by kernel_rfl) (by kernel_rfl) (by kernel_rfl) (by kernel_rfl) (fun _ _ _ _ h => h) ?_ (fun Q1 hQ1 => ?_)
              · exact ⟨⟨x0, x1, x2⟩, x3⟩
              try simp only [List.append]
              refine sched_take' (v := .agg #[.int .i64 (a.n : Int), .string (bs a.set), .string (bs a.rel)]) (a' := ?_) rfl (by kernel_rfl) ?_ rfl ?_ ?_
              rotate_left 1
              · intro w hSw
                (try dsimp only at hSw)
                go_simp
                first | done | (obtain ⟨⟨u0, u1, u2⟩, u3⟩ := hSw; simp [*])
              · (try simp only [Act.put, List.setIfInBounds_toArray, List.set_cons_zero, List.set_cons_succ])
                try rfl
              refine sched_take' (v := ?_) (a' := ?_) rfl (by kernel_rfl) ?_ rfl ?_ ?_
              rotate_left 2
              · intro w hSw
                (try dsimp only at hSw)
                go_simp
                try with_reducible rfl
              · (try simp only [Act.put, List.setIfInBounds_toArray, List.set_cons_zero, List.set_cons_succ])
                try rfl
              refine sched_take' (v := ?_) (a' := ?_) rfl (by kernel_rfl) ?_ rfl ?_ ?_
              rotate_left 2
              · intro w hSw
                (try dsimp only at hSw)
                go_simp
                try with_reducible rfl
              · (try simp only [Act.put, List.setIfInBounds_toArray, List.set_cons_zero, List.set_cons_succ])
                try rfl
              refine sched_take' (v := ?_) (a' := ?_) rfl (by kernel_rfl) ?_ rfl ?_ ?_
              rotate_left 2
              · intro w hSw
                (try dsimp only at hSw)
                go_simp
                try with_reducible rfl
              · (try simp only [Act.put, List.setIfInBounds_toArray, List.set_cons_zero, List.set_cons_succ])
                try rfl
              refine sched_take' (v := .string zt) (a' := ?_) rfl (by kernel_rfl) ?_ rfl ?_ ?_
              rotate_left 1
              · intro w hSw
                (try dsimp only at hSw)
                go_simp
                first | done | (obtain ⟨⟨u0, u1, u2⟩, u3⟩ := hSw; simp [*])
              · (try simp only [Act.put, List.setIfInBounds_toArray, List.set_cons_zero, List.set_cons_succ])
                try rfl
              refine sched_take' (v := ?_) (a' := ?_) rfl (by kernel_rfl) ?_ rfl ?_ ?_
              rotate_left 2
              · intro w hSw
                (try dsimp only at hSw)
                go_simp
                try with_reducible rfl
              · (try simp only [Act.put, List.setIfInBounds_toArray, List.set_cons_zero, List.set_cons_succ])
                try rfl
              refine sched_call rfl (by kernel_rfl) (fun K1 hK1 => ?_)
              go_simp
              refine (HZQ.out _ Q11.out).mono ?_
              rintro e w12 ⟨rfl, hz⟩
              have B12 := Lib.hid (B11.out.trans (hz.mono B11.out.size))
              have X12 := Lib.hid (X11.out.call hz)
              have R12 := Lib.hid (R11.out.call hz)
              have Q12 := Lib.hid (Q11.out.call hz)
              have Z12 := Lib.hid (Z11.out.lt _ hz)
              clear hz x0 x1 x2 x3
              go_wp2_with fail
              refine hK1.out _ _ ?_ (sched_lay (a' := ?_) ?_ ?_)
              · obtain ⟨x0, x1, x2⟩ := box_load X12.out
                obtain ⟨gz', ez, hcz⟩ := srow_at Z12.out (show i < (txs L).length by rw [txs_len]; exact hli)
                cases ez
                rw [txs_get hli, ← HZT.out] at hcz
                exact ⟨⟨x0, x1, x2⟩, hcz⟩
              rotate_left 1
              · (try simp only [Act.put, List.getElem_toArray, List.getElem_cons_succ, List.getElem_cons_zero, List.setIfInBounds_toArray, List.set_cons_zero, List.set_cons_succ])
                try rfl
              clear hK1 K1
              refine sched_take' (v := ?_) (a' := ?_) rfl (by kernel_rfl) ?_ rfl ?_ ?_
              rotate_left 2
              · intro w hSw
                (try dsimp only at hSw)
                go_simp
                try with_reducible rfl
              · (try simp only [Act.put, List.setIfInBounds_toArray, List.set_cons_zero, List.set_cons_succ])
                try rfl
              refine sched_done (hQ1.out _ _ ?_)
              obtain ⟨x0, x1, x2⟩ := box_load X12.out
              cases b1 <;> cases b2
              all_goals
                go_wp2_with fail
                go_roundg (L.length - i - 1)
                case rel => exact ⟨i + 1, _, _, by omega, by go_num, rfl, rfl, by rw [allTo_succ hli, ← HB1.out, ← HV.out]; cases V <;> rfl, by rw [someTo_succ hli, ← HB2.out, ← HV.out]; cases V <;> rfl, X12.out, R12.out, Z12.out, Q12.out, B12.out⟩
                case measure => omega
            · obtain rfl : i = L.length := by omega
              have hgk : gk = 0 := by omega
              subst hgk
              clear hli hi
              have hV : (disF L).holds a (envL [y0, y1, y2, y3]) = b2 := by rw [HB2.out, someTo_all, HEE.out]
              have HGQ := Lib.hid (HGF.out [y0, y1, y2, y3] HYX.out rfl _ hV (some ⟨gq, 0, none⟩))
              have e1 : (b1 != b1) = false := by cases b1 <;> rfl
              have e2 : (b2 != b2) = false := by cases b2 <;> rfl
              have hle2 : ((txs L).length : Int) ≤ (L.length : Int) := by omega
              clear hV hll
              obtain ⟨x0, x1, x2⟩ := box_load HXs.out
              go_wp2_with fail
              refine (HGQ.out _ HQ.out).mono ?_
              rintro e w13 ⟨rfl, hz⟩
              have B13 := Lib.hid (HB.out.trans (hz.mono HB.out.size))
              have X13 := Lib.hid (HXs.out.call hz)
              have R13 := Lib.hid (HBY.out.call hz)
              have Z13 := Lib.hid (HZ.out.lt _ hz)
              clear hz x0 x1 x2
              clear e1 e2
              cases b1 <;> cases b2
              all_goals
                go_wp2_with fail
                go_roundg (5 - k - 1)
                case rel => exact ⟨k + 1, by omega, by go_num, X13.out, R13.out, Z13.out, B13.out⟩
                case measure => omega
        · obtain rfl : k = 5 := by omega
          have B8 := HB
          clear HXs x0 x1 x2 HBY HG4 HGF HGZ HB HZ
          rcases HNV.out with hv | hv
          all_goals
            have hni := HNI.out
            have hns := HNS.out
            simp only [hv] at hni hns
            have NI := Lib.hid hni
            have NS := Lib.hid hns
            clear hni hns hv HNI HNS HNV
            go_wp2_with fail
            refine (NI.out _).mono ?_
            rintro e w9 ⟨rfl, hz⟩
            have B9 := Lib.hid (B8.out.trans (hz.mono B8.out.size))
            clear hz
            go_wp2_with fail
            refine (NS.out _).mono ?_
            rintro e w10 ⟨rfl, rfl⟩
            go_wp2_with fail
            go_ret
            exact ⟨rfl, B9.out⟩

end Go.Proofs.YteonanaihklgmaaDoor

namespace Go.Proofs.YteonanaihklgmaaDoor
open Go.RowKit
open Pl
set_option linter.unusedSimpArgs false
set_option linter.unusedVariables false

/-- the pairs for which a formula is true, as a relation's text -/
noncomputable def relV (i : Int) (s r f : ByteArray) : ByteArray := if rdyB i s r f 2 then bs (relTo (ofSt i s r).n (fun x y => truV i s r f [x, y]) (ofSt i s r).n) else bs []
theorem rel_no {i : Int} {s r f : ByteArray} (h : rdyB i s r f 2 = false) : relV i s r f = bs [] := by unfold relV; rw [h]; rfl
theorem rel_yes {a : St} {f : ByteArray} {g : Fm} (hf : f.data.toList = g.text) (h : rdyB a.n (bs a.set) (bs a.rel) f 2 = true) : relV a.n (bs a.set) (bs a.rel) f = bs (relTo a.n (fun x y => g.holds a (envL [x, y])) a.n) := by
  unfold relV
  rw [h]
  simp only [tru_of hf, ofSt_eq, if_true]

end Go.Proofs.YteonanaihklgmaaDoor

namespace Go.Proofs.YteonanaihklgmaaDoor
open Go.RowKit
open Pl
set_option linter.unusedSimpArgs false
set_option linter.unusedVariables false

theorem enter_each1 : ∀ (args : Array Value) (w : World), (callFunc 88 args).run Tryd.prog w = .ok (.enter 88 args) w := enter_of Tryd.func88 (by kernel_rfl) (by kernel_rfl)

set_option maxHeartbeats 4000000 in
set_option maxRecDepth 100000 in
theorem each1_calls (B : Nat) (a b : St) (ha : a.ok) (hb : b.ok) (hab : a.n = b.n) (c : Bool) (tf : FuncId) (tF tC : Array Value)
    (eT : ∀ (args : Array Value) (W : World), (callFunc tf args).run Tryd.prog W = .ok (.enter tf args) W)
    (J : World → List (List Nat) → Prop) (hJ : ∀ W W' L, (c = true ∨ L = []) → J W L → Below B W W' → J W' L)
    (hT : ∀ W L (l : List Nat) A cap, (c = true ∨ L = []) → J W L → B + 6 ≤ W.heap.size → l.length = a.n → (∀ x ∈ l, x < a.n) → LRow W A (natsI l) → Calls Tryd.prog tf (tF.push (.slice A l.length cap) ++ tC) W fun e w' => (e = .returned (.bool c) ∧ J w' (L ++ [l])) ∧ Kp B W w') :
    ∀ (m : Nat) (o : List Nat) (L : List (List Nat)) (W : World), (c = true ∨ L = []) → o.length + m = a.n → (∀ x ∈ o, x < a.n) → eEnv W B a b (.func (.func tf) tF tC) → eRow W B o → J W L →
    Calls Tryd.prog 88 #[.pointer (some ⟨B + 4, 0, none⟩), .pointer (some ⟨B, 0, none⟩), .pointer (some ⟨B + 2, 0, none⟩), .pointer (some ⟨B + 1, 0, none⟩), .pointer (some ⟨B + 5, 0, none⟩)] W fun e w' => (∃ q : Bool, e = .returned (.bool q) ∧ q = (c || (shapes a b m o).isEmpty) ∧ J w' (L ++ told c (shapes a b m o)) ∧ (q = true → eRow w' B o)) ∧ eEnv w' B a b (.func (.func tf) tF tC) := by
  have hn8 := ha.hi
  intro m
  induction m with
  | zero =>
    intro o L W hcl hl ho he hr hj
    obtain ⟨v, hbx, hown, hne⟩ := hr
    obtain ⟨A, cap, rfl, hcap, hL⟩ := own_open hown
    have hl0 : o.length = a.n := by omega
    have ht := hT W L o A cap hcl hj he.lt hl0 ho hL
    have o0 := hbx.cell 0
    have a0 := he.1.cell 0
    have t0 := he.2.2.1.cell 0
    simp at o0 a0 t0
    rw [← hl0] at a0
    have Ht := Lib.hid ht
    have He := Lib.hid he
    have Hr := Lib.hid (show eRow W B o from ⟨_, hbx, hown, hne⟩)
    have hq : c = (c || (shapes a b 0 o).isEmpty) := by simp [shapes]
    have hs : told c (shapes a b 0 o) = [o] := by cases c <;> rfl
    rw [hs]
    have Hq := Lib.hid hq
    clear ht hbx hown hne hL he hj hT hJ ho hl hl0 hq hs hab ha hb hcl
    go_enter Tryd.func88, Tryd.ntmps88
    go_wp2_with fail
    refine (Ht.out).mono ?_
    rintro e w1 ⟨⟨rfl, hj⟩, hk⟩
    have Hj := Lib.hid hj
    have Hk := Lib.hid hk
    clear hj hk
    go_wp2_with fail
    go_ret
    exact ⟨⟨c, rfl, Hq.out, Hj.out, fun _ => Hr.out.kp Hk.out⟩, He.out.kp Hk.out⟩
  | succ m ih =>
    intro o L W hcl hl ho he hr hj
    have hmiss : o.length < a.n := by omega
    have hcn : ∀ k V A cap, LRow V A (natsI o) → Calls Tryd.prog 89 #[.slice A o.length cap, .int .i64 (k : Nat)] V fun e w' => e = .returned (.bool (o.contains k)) ∧ V = w' := fun k V A cap hL => by
      have h := Contains_calls A (natsI o) cap (k : Nat) V (by rw [natsI_len]; omega) hL
      rw [natsI_len] at h
      have hm : (((k : Nat) : Int) ∈ natsI o) ↔ k ∈ o := by
        simp only [natsI, List.mem_map]
        exact ⟨fun ⟨y, hy, e⟩ => by have : y = k := by omega
                                    exact this ▸ hy, fun h => ⟨k, h, rfl⟩⟩
      rwa [show decide (((k : Nat) : Int) ∈ natsI o) = o.contains k by rw [List.contains_eq_mem]; exact decide_eq_decide.2 hm] at h
    have hpl : ∀ (k : Nat) V A cap, k < a.n → LRow V A (natsI o) → Calls Tryd.prog 90 #[stV (a.n : Int) (bs a.set) (bs a.rel), stV (b.n : Int) (bs b.set) (bs b.rel), .slice A o.length cap, .int .i64 k] V fun e w' => e = .returned (.bool (fitsB a b o k)) ∧ Below V.heap.size V w' := fun k V A cap hk hL => placed_calls a b ha hb hab o ho hmiss k hk A cap V hL
    have hnx : ∀ k, nextB a b o k = (!o.contains k && fitsB a b o k) := fun k => rfl
    have hih : ∀ (k : Nat) L V, (c = true ∨ L = []) → k < a.n → eEnv V B a b (.func (.func tf) tF tC) → eRow V B (o ++ [k]) → J V L → Calls Tryd.prog 88 #[.pointer (some ⟨B + 4, 0, none⟩), .pointer (some ⟨B, 0, none⟩), .pointer (some ⟨B + 2, 0, none⟩), .pointer (some ⟨B + 1, 0, none⟩), .pointer (some ⟨B + 5, 0, none⟩)] V fun e w' => (∃ q : Bool, e = .returned (.bool q) ∧ q = (c || (shapes a b m (o ++ [k])).isEmpty) ∧ J w' (L ++ told c (shapes a b m (o ++ [k]))) ∧ (q = true → eRow w' B (o ++ [k]))) ∧ eEnv w' B a b (.func (.func tf) tF tC) :=
      fun k L V hcl hk he hr hj => ih (o ++ [k]) L V hcl (by simp; omega) (by intro x hx; rcases List.mem_append.1 hx with hx | hx; exact ho x hx; simp at hx; omega) he hr hj
    obtain ⟨v, hbx, hown, hne⟩ := hr
    obtain ⟨A, cap, rfl, hcap, hL⟩ := own_open hown
    have o0 := hbx.cell 0
    have a0 := he.1.cell 0
    simp at o0 a0
    have d0 : ((o.length : Int) == (a.n : Int)) = false := by simp; omega
    have d1 : decide ((o.length : Int) = (a.n : Int)) = false := by simp; omega
    have d2 : ¬ (o.length : Int) = (a.n : Int) := by omega
    have He0 := Lib.hid he
    have Hr0 := Lib.hid (show eRow W B o from ⟨_, hbx, hown, hne⟩)
    have Hj0 := Lib.hid hj
    have HJ := Lib.hid hJ
    have Hcl := Lib.hid hcl
    have Hcn := Lib.hid hcn
    have Hpl := Lib.hid hpl
    have Hnx := Lib.hid hnx
    have Hih := Lib.hid hih
    have Ho := Lib.hid ho
    have eE := enter_each1
    obtain ⟨i0, hi, hz0, hz1, hz2⟩ := info_parts (P := Tryd.prog) (e := 3) (z := .int .i64 0) (size := 1) (bytes := 8) (by kernel_rfl)
    clear hcl hbx hown hne hL he hj hT hJ hcn hpl hnx hih ih ho hab ha hb eT
    clear d2
    go_enter Tryd.func88, Tryd.ntmps88
    go_wp2_with fail
    go_loopg [19] a.n (fun cc i wr => ∃ k : Nat, k + cc = a.n ∧ i = .int .i64 k ∧ J wr (L ++ upTo a b m o k) ∧ (c = true ∨ upTo a b m o k = []) ∧ eEnv wr B a b (.func (.func tf) tF tC) ∧ eRow wr B o)
    case atStart => exact ⟨0, by omega, rfl, by rw [upTo_zero, List.append_nil]; exact Hj0.out, .inr rfl, He0.out, Hr0.out⟩
    case round =>
      clear He0 Hr0 Hj0 o0 a0
      obtain ⟨k, hk, rfl, hj, hcu, he, hr⟩ := hrel
      have Hr := Lib.hid hr
      obtain ⟨v, hbx, hown, hne⟩ := hr
      obtain ⟨A2, cap2, rfl, hcap2, hL⟩ := own_open hown
      have o0 := hbx.cell 0
      obtain ⟨a0, a1, a2⟩ := box_load he.1
      obtain ⟨b0, b1, b2⟩ := box_load he.2.1
      simp at o0
      have He := Lib.hid he
      have Hj := Lib.hid hj
      have Hcu := Lib.hid hcu
      have Hcc := Lib.hid (show c = true ∨ L ++ upTo a b m o k = [] from by rcases Hcl.out with h | h; exact .inl h; rcases hcu with h2 | h2; exact .inl h2; exact .inr (by rw [h, h2]; rfl))
      have Hb := Lib.hid hbx
      have Hw := Lib.hid hown
      have Hne := Lib.hid hne
      have HL := Lib.hid hL
      clear he hj hcu hbx hown hne hL
      by_cases hlt : k < a.n
      · have h1 := Hcn.out k wr A2 cap2 HL.out
        have h2 := fun V hV => Hpl.out k V A2 cap2 hlt (HL.out.call (w' := V) hV)
        cases hc : o.contains k with
        | true =>
          have hup : upTo a b m o (k + 1) = upTo a b m o k := by rw [upTo_succ, Hnx.out, hc]; simp
          have Hup := Lib.hid hup
          rw [hc] at h1
          have H1 := Lib.hid h1
          clear h1 h2 hc hup
          go_wp2_with fail
          refine (H1.out).mono ?_
          rintro e w1 ⟨rfl, rfl⟩
          go_wp2_with fail
          go_roundg (a.n - k - 1)
          case rel => exact ⟨k + 1, by omega, by go_num, by rw [Hup.out]; exact Hj.out, by rw [Hup.out]; exact Hcu.out, He.out, Hr.out⟩
          case measure => omega
        | false =>
          rw [hc] at h1
          have H1 := Lib.hid h1
          clear h1
          cases hf : fitsB a b o k with
          | false =>
            have hup : upTo a b m o (k + 1) = upTo a b m o k := by rw [upTo_succ, Hnx.out, hf]; simp
            have Hup := Lib.hid hup
            rw [hf] at h2
            have H2 := Lib.hid h2
            clear h2 hc hf hup
            go_wp2_with fail
            refine (H1.out).mono ?_
            rintro e w1 ⟨rfl, rfl⟩
            go_wp2_with fail
            refine (H2.out _ (Below.refl _ _)).mono ?_
            rintro e w1 ⟨rfl, hz⟩
            have Hz := Lib.hid hz
            clear hz
            go_wp2_with fail
            go_roundg (a.n - k - 1)
            case rel => exact ⟨k + 1, by omega, by go_num, by rw [Hup.out]; exact HJ.out _ _ _ Hcc.out Hj.out (Hz.out.mono (by have := He.out.lt; omega)), by rw [Hup.out]; exact Hcu.out, He.out.kp (.of_below Hz.out), Hr.out.kp (.of_below Hz.out)⟩
            case measure => omega
          | true =>
            have hup : upTo a b m o (k + 1) = upTo a b m o k ++ shapes a b m (o ++ [k]) := by rw [upTo_succ, Hnx.out, hc, hf]; simp
            have Hup := Lib.hid hup
            have hst := fun h0 hs => told_stop (a := a) (b := b) (m := m) (k := k) (o := o) hlt (by rw [Hnx.out, hc, hf]; rfl) h0 hs
            have Hst := Lib.hid hst
            rw [hf] at h2
            have H2 := Lib.hid h2
            have h4 := fun V => Hih.out k (L ++ upTo a b m o k) V Hcc.out hlt
            have H4 := Lib.hid h4
            clear h2 hc hf hup hst h4
            go_wp2_with fail
            refine (H1.out).mono ?_
            rintro e w1 ⟨rfl, rfl⟩
            go_wp2_with fail
            refine (H2.out _ (Below.refl _ _)).mono ?_
            rintro e w1 ⟨rfl, hz⟩
            have E1 := Lib.hid (He.out.kp (.of_below hz))
            have B1 := Lib.hid (Hb.out.kp (B := B) (.of_below hz) (by omega))
            have W1 := Lib.hid (own_kp (B := B) Hw.out (.of_below hz) (by omega))
            have J1 := Lib.hid (HJ.out _ _ _ Hcc.out Hj.out (hz.mono (by have := He.out.lt; omega)))
            have o1 := B1.out.cell 0
            have hsz := E1.out.lt
            simp at o1
            clear hz o0 a0 a1 a2 b0 b1 b2
            go_wp2_with (at_builtin; refine wpList_append_own_at _ rfl _ _ 30 rfl (B + 3) 3 i0 (.int .i64 0) 1 8 Tryd.underlying30 hi hz0 hz1 hz2 rfl (by decide) _ _ _ rfl (W1.out.alloc _) ⟨w1.heap.size, 0, none⟩ 1 1 [.int .i64 k] rfl rfl (cell_one_new _ _ _) (ints_oneCell .i64 [(k : Int)]) (by unfold maxLen; omega) (by omega) (by simp; omega) ?_; intro v' w2 hown' hgrow hnil hloc; obtain ⟨g2, cap3, rfl⟩ := own_form hown'; have x2 := (B1.out.alloc _).grown hgrow (fun e => (Hne.out _ e.symm).1 rfl); have c2 := x2.cell 0; have f2 := x2.free 0; have x3 := (E1.out.2.2.2.alloc _).grown hgrow (fun e => (Hne.out _ e.symm).2 rfl); have c3 := x3.cell 0; simp at c2 c3; have E3 := Lib.hid (each_put E1.out B1.out W1.out Hne.out hown' hgrow hloc); clear x2 x3 hown' hgrow hnil hloc)
            refine (H4.out _ E3.out.1 E3.out.2.1 (HJ.out _ _ _ Hcc.out J1.out E3.out.2.2)).mono ?_
            rintro e w4 ⟨⟨q, rfl, hq, hj4, hr4⟩, he4⟩
            clear o1 c2 f2 c3
            cases q with
            | true =>
              obtain ⟨g, cap4, hb4, hc4, he5, hr5, hbl⟩ := each_back he4 (hr4 rfl)
              have htl : told c (shapes a b m (o ++ [k])) = shapes a b m (o ++ [k]) := by
                unfold told
                cases c with
                | true => rfl
                | false =>
                  have h : (shapes a b m (o ++ [k])).isEmpty = true := hq.symm
                  rw [List.isEmpty_iff.1 h]; rfl
              have hcu2 : c = true ∨ upTo a b m o (k + 1) = [] := by
                rcases Hcu.out with h | h
                · exact .inl h
                · cases c with
                  | true => exact .inl rfl
                  | false =>
                    have h2 : (shapes a b m (o ++ [k])).isEmpty = true := hq.symm
                    exact .inr (by rw [Hup.out, h, List.isEmpty_iff.1 h2]; rfl)
              rw [htl, List.append_assoc, ← Hup.out] at hj4
              have c4 := hb4.cell 0
              have f4 := hb4.free 0
              simp at c4
              have i1 : (0 : Int) ≤ (o.length : Int) := by omega
              have i2 : (o.length : Int) ≤ (cap4 : Int) := by omega
              have hcc2 : c = true ∨ L ++ upTo a b m o (k + 1) = [] := by rcases Hcl.out with h | h; exact .inl h; rcases hcu2 with h2 | h2; exact .inl h2; exact .inr (by rw [h, h2]; rfl)
              have J4 := Lib.hid (HJ.out _ _ _ hcc2 hj4 hbl)
              have E5 := Lib.hid he5
              have R5 := Lib.hid hr5
              have C5 := Lib.hid hcu2
              clear hq hj4 hr4 he4 hb4 he5 hr5 hbl htl hcu2 hcc2
              go_wp2_with fail
              go_roundg (a.n - k - 1)
              case rel => exact ⟨k + 1, by omega, by go_num, J4.out, C5.out, E5.out, R5.out⟩
              case measure => omega
            | false =>
              have hcf : c = false ∧ (shapes a b m (o ++ [k])).isEmpty = false := by simpa using hq
              obtain ⟨rfl, hse⟩ := hcf
              have h0 : upTo a b m o k = [] := by rcases Hcu.out with h | h; cases h; exact h
              obtain ⟨t1, t2⟩ := Hst.out h0 hse
              rw [h0, List.append_nil, ← t2] at hj4
              have J4 := Lib.hid hj4
              have T1 := Lib.hid t1
              have E4 := Lib.hid he4
              clear hq hj4 hr4 he4 hse h0 t1 t2
              go_wp2_with fail
              go_ret
              exact ⟨⟨false, rfl, by rw [T1.out]; rfl, J4.out, fun h => by cases h⟩, E4.out⟩
      · have hk2 : k = a.n := by omega
        have hfin : J wr (L ++ told c (shapes a b (m + 1) o)) ∧ true = (c || (shapes a b (m + 1) o).isEmpty) := by
          have hj := Hj.out
          have hcu := Hcu.out
          rw [hk2, ← shapes_upTo] at hj hcu
          rcases hcu with rfl | h
          · exact ⟨hj, by simp⟩
          · rw [h] at hj ⊢
            exact ⟨by cases c <;> exact hj, by simp⟩
        have Hfin := Lib.hid hfin
        clear hfin hk2
        go_wp2_with fail
        go_ret
        exact ⟨⟨true, rfl, Hfin.out.2, Hfin.out.1, fun _ => Hr.out⟩, He.out⟩

end Go.Proofs.YteonanaihklgmaaDoor

namespace Go.Proofs.YteonanaihklgmaaDoor
open Go.RowKit
open Pl
set_option linter.unusedSimpArgs false
set_option linter.unusedVariables false

theorem new_at {w : World} {B : Nat} {t : TypeId} {cs : Array Value} (h : w.heap.size = B) : Bx (w.alloc (.cells cs t)) B t cs := h ▸ Bx.new w t cs
theorem each_six (w : World) (ca cb : Array Value) (tv : Value) :
    Bx ((((((w.alloc (.cells ca 27)).alloc (.cells cb 27)).alloc (.cells #[tv] 94)).alloc (.cells #[] 3)).alloc (.cells #[.slice (some ⟨w.heap.size + 1 + 1 + 1, 0, none⟩) 0 0] 30)).alloc (.cells #[.nilFunc] 106)) w.heap.size 27 ca ∧ Bx ((((((w.alloc (.cells ca 27)).alloc (.cells cb 27)).alloc (.cells #[tv] 94)).alloc (.cells #[] 3)).alloc (.cells #[.slice (some ⟨w.heap.size + 1 + 1 + 1, 0, none⟩) 0 0] 30)).alloc (.cells #[.nilFunc] 106)) (w.heap.size + 1) 27 cb ∧ Bx ((((((w.alloc (.cells ca 27)).alloc (.cells cb 27)).alloc (.cells #[tv] 94)).alloc (.cells #[] 3)).alloc (.cells #[.slice (some ⟨w.heap.size + 1 + 1 + 1, 0, none⟩) 0 0] 30)).alloc (.cells #[.nilFunc] 106)) (w.heap.size + 2) 94 #[tv] ∧ Bx ((((((w.alloc (.cells ca 27)).alloc (.cells cb 27)).alloc (.cells #[tv] 94)).alloc (.cells #[] 3)).alloc (.cells #[.slice (some ⟨w.heap.size + 1 + 1 + 1, 0, none⟩) 0 0] 30)).alloc (.cells #[.nilFunc] 106)) (w.heap.size + 3) 3 #[] ∧ Bx ((((((w.alloc (.cells ca 27)).alloc (.cells cb 27)).alloc (.cells #[tv] 94)).alloc (.cells #[] 3)).alloc (.cells #[.slice (some ⟨w.heap.size + 1 + 1 + 1, 0, none⟩) 0 0] 30)).alloc (.cells #[.nilFunc] 106)) (w.heap.size + 4) 30 #[.slice (some ⟨w.heap.size + 3, 0, none⟩) 0 0] ∧ Bx ((((((w.alloc (.cells ca 27)).alloc (.cells cb 27)).alloc (.cells #[tv] 94)).alloc (.cells #[] 3)).alloc (.cells #[.slice (some ⟨w.heap.size + 1 + 1 + 1, 0, none⟩) 0 0] 30)).alloc (.cells #[.nilFunc] 106)) (w.heap.size + 5) 106 #[.nilFunc] ∧ Below w.heap.size w ((((((w.alloc (.cells ca 27)).alloc (.cells cb 27)).alloc (.cells #[tv] 94)).alloc (.cells #[] 3)).alloc (.cells #[.slice (some ⟨w.heap.size + 1 + 1 + 1, 0, none⟩) 0 0] 30)).alloc (.cells #[.nilFunc] 106)) := by
  refine ⟨(((((Bx.new w 27 ca).alloc _).alloc _).alloc _).alloc _).alloc _, ((((new_at (by simp) : Bx _ (w.heap.size + 1) 27 cb).alloc _).alloc _).alloc _).alloc _, (((new_at (by simp) : Bx _ (w.heap.size + 2) 94 #[tv]).alloc _).alloc _).alloc _,
    ((new_at (by simp) : Bx _ (w.heap.size + 3) 3 #[]).alloc _).alloc _, (new_at (by simp) : Bx _ (w.heap.size + 4) 30 #[.slice (some ⟨w.heap.size + 3, 0, none⟩) 0 0]).alloc _, new_at (by simp), ?_⟩
  exact ((((((Below.refl w.heap.size w).alloc (by simp) _).alloc (by simp) _).alloc (by simp; omega) _).alloc (by simp; omega) _).alloc (by simp; omega) _).alloc (by simp; omega) _

set_option maxHeartbeats 4000000 in
set_option maxRecDepth 100000 in
theorem eachShape_calls (a b : St) (ha : a.ok) (hb : b.ok) (hab : a.n = b.n) (c : Bool) (tf : FuncId) (tF tC : Array Value) (w : World)
    (eT : ∀ (args : Array Value) (W : World), (callFunc tf args).run Tryd.prog W = .ok (.enter tf args) W)
    (J : World → List (List Nat) → Prop) (hJ : ∀ W W' L, (c = true ∨ L = []) → J W L → Below w.heap.size W W' → J W' L)
    (hT : ∀ W L (l : List Nat) A cap, (c = true ∨ L = []) → J W L → w.heap.size + 6 ≤ W.heap.size → l.length = a.n → (∀ x ∈ l, x < a.n) → LRow W A (natsI l) → Calls Tryd.prog tf (tF.push (.slice A l.length cap) ++ tC) W fun e w' => (e = .returned (.bool c) ∧ J w' (L ++ [l])) ∧ Kp w.heap.size W w')
    (hj : J w []) :
    Calls Tryd.prog 63 #[stA a, stA b, (.func (.func tf) tF tC)] w fun e w' => e = .returned (.tuple #[]) ∧ J w' (told c (isos a b)) := by
  have h := each1_calls w.heap.size a b ha hb hab c tf tF tC eT J hJ hT a.n [] []
  have hin : ∀ W, eEnv W w.heap.size a b (.func (.func tf) tF tC) → eRow W w.heap.size [] → Below w.heap.size w W → Calls Tryd.prog 88 #[.pointer (some ⟨w.heap.size + 4, 0, none⟩), .pointer (some ⟨w.heap.size, 0, none⟩), .pointer (some ⟨w.heap.size + 2, 0, none⟩), .pointer (some ⟨w.heap.size + 1, 0, none⟩), .pointer (some ⟨w.heap.size + 5, 0, none⟩)] W fun e w' => (∃ q : Bool, e = .returned (.bool q)) ∧ J w' (told c (isos a b)) := fun W he hr hbl =>
    (h W (.inr rfl) (by simp) (by simp) he hr (hJ _ _ _ (.inr rfl) hj hbl)).mono fun e w' ⟨⟨q, h1, _, h3, _⟩, _⟩ => ⟨⟨q, h1⟩, by simpa [isos] using h3⟩
  have Hin := Lib.hid hin
  clear h hin hT hJ hj ha hb hab eT
  have eE := enter_each1
  go_enter Tryd.func63, Tryd.ntmps63
  go_upto_region 3 with (fail)
  have hx := each_six w #[.int .i64 a.n, .string (bs a.set), .string (bs a.rel)] #[.int .i64 b.n, .string (bs b.set), .string (bs b.rel)] (.func (.func tf) tF tC)
  generalize ((((((w.alloc (.cells #[.int .i64 a.n, .string (bs a.set), .string (bs a.rel)] 27)).alloc (.cells #[.int .i64 b.n, .string (bs b.set), .string (bs b.rel)] 27)).alloc (.cells #[(.func (.func tf) tF tC)] 94)).alloc (.cells #[] 3)).alloc (.cells #[.slice (some ⟨w.heap.size + 1 + 1 + 1, 0, none⟩) 0 0] 30)).alloc (.cells #[.nilFunc] 106)) = V at *
  have Hx := Lib.hid hx
  have q0 : V.cell? ⟨w.heap.size + 1 + 1 + 1 + 1 + 1, 0, none⟩ = some .nilFunc := hx.2.2.2.2.2.1.cell 0
  have q1 : V.frozen? ⟨w.heap.size + 1 + 1 + 1 + 1 + 1, 0, none⟩ = false := hx.2.2.2.2.2.1.free 0
  clear hx
  go_wp2_with fail
  obtain ⟨x0, x1, x2, x3, x4, x5, hbl⟩ := Hx.out
  refine (Hin.out _ ?h1 ?h2 ?h3).mono ?_
  case h1 => exact ⟨x0.far (by simp <;> omega) _, x1.far (by simp <;> omega) _, x2.far (by simp <;> omega) _, by simpa using x5.set 0 _⟩
  case h2 => exact ⟨_, x4.far (by simp) _, ⟨by simp [intsV, natsI], .inr ⟨_, 0, #[], rfl, Nat.le_refl _, x3.far (by simp) _, Nat.le_refl _, Nat.zero_le _, rfl, by simp [intsV, natsI]⟩⟩, fun k hk => by injection hk with hk; simp at hk; omega⟩
  case h3 => exact hbl.setCell (by simp <;> omega) _
  rintro e w1 ⟨⟨q, rfl⟩, hj⟩
  have Hj := Lib.hid hj
  clear hj x0 x1 x2 x3 x4 x5 hbl Hx q0 q1
  go_wp2_with fail
  exact bodyPost_end (results_none Tryd.results63 _ _ _) rfl ⟨rfl, Hj.out⟩

end Go.Proofs.YteonanaihklgmaaDoor

namespace Go.Proofs.YteonanaihklgmaaDoor
open Go.RowKit
open Pl
set_option linter.unusedSimpArgs false
set_option linter.unusedVariables false

/-- a counter as the machine has it -/
def cnt : Nat → Int
  | 0 => 0
  | k + 1 => IntKind.i64.wrap (cnt k + 1)
theorem cnt_small : ∀ (k : Nat), k ≤ 1048576 → cnt k = k
  | 0, _ => rfl
  | k + 1, h => by
    show IntKind.i64.wrap (cnt k + 1) = _
    rw [cnt_small k (by omega), IntKind.wrap_i64]
    omega

theorem Kp.setCell {B : Nat} {W : World} {p : Addr} (hp : p.block < B) (u : Value) : Kp B W (W.setCell p u) :=
  ⟨by simp, fun k hk _ => Below.heap_setCell W p u k (by omega)⟩
theorem Kp.refl (B : Nat) (W : World) : Kp B W W := ⟨Nat.le_refl _, fun _ _ _ => rfl⟩

theorem count1_calls (nb : Nat) (k : Nat) (v : Value) (w : World) (hb : Bx w nb 3 #[.int .i64 (cnt k)]) :
    Calls Tryd.prog 64 #[v, .pointer (some ⟨nb, 0, none⟩)] w fun e w' => e = .returned (.bool true) ∧ w' = w.setCell ⟨nb, 0, none⟩ (.int .i64 (cnt (k + 1))) := by
  have q0 : w.cell? ⟨nb, 0, none⟩ = some (.int .i64 (cnt k)) := hb.cell 0
  have q1 := hb.free 0
  obtain ⟨N, hN⟩ : ∃ N, N = cnt (k + 1) := ⟨_, rfl⟩
  have hw : IntKind.i64.wrap (cnt k + 1) = N := hN.symm
  rw [← hN]
  clear hN hb
  go_enter Tryd.func64, Tryd.ntmps64
  go_wp2_with fail
  go_ret
  exact ⟨rfl, rfl⟩

theorem enter_count1 : ∀ (args : Array Value) (w : World), (callFunc 64 args).run Tryd.prog w = .ok (.enter 64 args) w := enter_of Tryd.func64 (by kernel_rfl) (by kernel_rfl)

theorem fact_le : ∀ n, n ≤ 8 → fact n ≤ 40320
  | 0, _ => by decide
  | 1, _ => by decide
  | 2, _ => by decide
  | 3, _ => by decide
  | 4, _ => by decide
  | 5, _ => by decide
  | 6, _ => by decide
  | 7, _ => by decide
  | 8, _ => by decide
theorem fact_pos : ∀ n, 0 < fact n
  | 0 => by decide
  | n + 1 => Nat.mul_pos (Nat.succ_pos n) (fact_pos n)
theorem isos_le {a : St} (ha : a.ok) : (isos a a).length ≤ 40320 := by
  have h := Nat.le_of_dvd (by have := fact_pos a.n; omega) (count_dvd_fact a)
  have := fact_le a.n ha.hi
  omega

/-- the number of symmetries -/
def symV (i : Int) (s r : ByteArray) : Int := if okB i s r then ((isos (ofSt i s r) (ofSt i s r)).length : Int) else -1
theorem symV_no {i : Int} {s r : ByteArray} (h : okB i s r = false) : symV i s r = -1 := by unfold symV; rw [h]; rfl

set_option maxHeartbeats 1000000 in
theorem CountSymmetries_impl (i : Int) (s r : ByteArray) (w : World) (hs : s.size ≤ maxLen) (hr : r.size ≤ maxLen) :
    Calls Tryd.prog 30 #[stV i s r] w fun e w' => e = .returned (.int .i64 (symV i s r)) ∧ Below w.heap.size w w' := by
  have hc : ∀ W, Calls Tryd.prog 39 #[stV i s r] W fun e w' => e = .returned (.bool (okB i s r)) ∧ Below W.heap.size W w' := fun W => isStructure_calls i s r W hs hr
  cases hok : okB i s r with
  | false =>
    rw [symV_no hok]
    rw [hok] at hc
    have Hc := Lib.hid hc
    clear hc hs hr hok
    go_enter Tryd.func30, Tryd.ntmps30
    go_wp2_with fail
    refine (Hc.out _).mono ?_
    rintro e w1 ⟨rfl, hz⟩
    have HB := Lib.hid (box_next (box_refl w _) hz)
    clear hz
    go_wp2_with fail
    go_ret
    exact ⟨rfl, box_down HB.out⟩
  | true =>
    rcases ok_cases i s r with h | ⟨a, ha, rfl, rfl, rfl⟩
    · rw [h] at hok; cases hok
    have hv : symV a.n (bs a.set) (bs a.rel) = cnt (isos a a).length := by
      rw [cnt_small _ (by have := isos_le ha; omega)]
      unfold symV
      rw [hok, ofSt_eq]
      rfl
    rw [hv]
    rw [hok] at hc
    have hes : ∀ (nb : Nat) (W : World), nb < W.heap.size → w.heap.size ≤ nb → Bx W nb 3 #[.int .i64 0] → Below w.heap.size w W → Calls Tryd.prog 63 #[stA a, stA a, .func (.func 64) #[] #[.pointer (some ⟨nb, 0, none⟩)]] W fun e w' => e = .returned (.tuple #[]) ∧ (Bx w' nb 3 #[.int .i64 (cnt (isos a a).length)] ∧ Below w.heap.size w w') := by
      intro nb W hnb hwn hbx hbl
      exact eachShape_calls a a ha ha rfl true 64 #[] #[.pointer (some ⟨nb, 0, none⟩)] W enter_count1 (fun V L => Bx V nb 3 #[.int .i64 (cnt L.length)] ∧ Below w.heap.size w V)
        (fun V V' L _ h hb => ⟨h.1.below hb hnb, h.2.trans (hb.mono (by omega))⟩)
        (fun V L l A cap _ h _ _ _ _ => (count1_calls nb L.length _ V h.1).mono fun e w' ⟨h1, h2⟩ => ⟨⟨h1, by
          rw [h2, List.length_append, List.length_singleton]
          exact ⟨by simpa using h.1.set 0 _, h.2.setCell hwn _⟩⟩, by rw [h2]; exact Kp.setCell hnb _⟩)
        ⟨hbx, hbl⟩
    have Hc := Lib.hid hc
    have Hes := Lib.hid hes
    clear hc hes hs hr hok hv ha
    go_enter Tryd.func30, Tryd.ntmps30
    go_wp2_with fail
    refine (Hc.out _).mono ?_
    rintro e w1 ⟨rfl, hz⟩
    have HB := Lib.hid (box_next (box_refl w _) hz)
    clear hz
    have HB2 := Lib.hid (HB.out.alloc (by have := HB.out.size; simpa using this) (.cells #[.int .i64 0] 3))
    obtain ⟨k0, k1, k2⟩ := box3 HB2.out
    go_wp2_with fail
    refine (Hes.out w1.heap.size _ ?h1 ?h2 ?h3 ?h4).mono ?_
    case h1 => simp
    case h2 => have := (box_down HB.out).size; exact this
    case h3 => exact Bx.new w1 _ _
    case h4 => exact (box_down HB.out).alloc (box_down HB.out).size _
    rintro e w2 ⟨rfl, hx, hbl⟩
    have q0 : w2.cell? ⟨w1.heap.size, 0, none⟩ = some (.int .i64 (cnt (isos a a).length)) := hx.cell 0
    have Hbl := Lib.hid hbl
    clear hx hbl k0 k1 k2
    go_wp2_with fail
    go_ret
    exact ⟨rfl, Hbl.out⟩

end Go.Proofs.YteonanaihklgmaaDoor

namespace Go.Proofs.YteonanaihklgmaaDoor
open Go.RowKit
open Pl
set_option linter.unusedSimpArgs false
set_option linter.unusedVariables false

/-- a number, and some list -/
def NumL (n : Nat) (e : Ending) : Prop := ∃ F k cap, e = .returned (.tuple #[.int .i64 (n : Nat), .slice F k cap])

end Go.Proofs.YteonanaihklgmaaDoor

namespace Go.Proofs.YteonanaihklgmaaDoor
open Go.RowKit
open Pl
set_option linter.unusedSimpArgs false
set_option linter.unusedVariables false

/-- the first of some lists, and whether there is one -/
def FstL (L : List (List Nat)) (e : Ending) (w' : World) : Prop := ∃ g cap, e = .returned (.tuple #[.slice (some ⟨g, 0, none⟩) (L.headD []).length cap, .bool (!L.isEmpty)]) ∧ LRow w' (some ⟨g, 0, none⟩) (natsI (L.headD []))

theorem fst_stop {a b : St} {m k : Nat} {o : List Nat} (hk : k < a.n) (hn : nextB a b o k = true) (h0 : upTo a b m o k = []) (hs : (shapes a b m (o ++ [k])).isEmpty = false) :
    (shapes a b (m + 1) o).isEmpty = false ∧ (shapes a b (m + 1) o).headD [] = (shapes a b m (o ++ [k])).headD [] := by
  obtain ⟨h1, h2⟩ := told_stop hk hn h0 hs
  refine ⟨h1, ?_⟩
  generalize shapes a b (m + 1) o = L at *
  generalize shapes a b m (o ++ [k]) = M at *
  cases L with
  | nil => cases h1
  | cons x L =>
    cases M with
    | nil => cases hs
    | cons y M => simp [told] at h2; exact h2

end Go.Proofs.YteonanaihklgmaaDoor
