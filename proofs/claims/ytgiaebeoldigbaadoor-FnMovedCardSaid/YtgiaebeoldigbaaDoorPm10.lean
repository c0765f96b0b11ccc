/-
  Laws of the functions that the claim reaches, one after the other (packed by a program of the prover's: PlLaws, LawAny2, MvP, Own, WMoved). Conditions: texts below the reach.
-/
import Derived.Test.YtgiaebeoldigbaaDoorPm9
import Derived.Test.YtgiaebeoldigbaaDoorPm3
import Derived.Test.YtgiaebeoldigbaaDoorPm0
set_option linter.unusedSimpArgs false
set_option linter.unusedVariables false

namespace Go.Proofs.YtgiaebeoldigbaaDoor
namespace Pl

theorem mkSt_congr {n : Nat} {f f' : Nat → Bool} {g g' : Nat → Nat → Bool} (hf : ∀ x, x < n → f x = f' x) (hg : ∀ x y, x < n → y < n → g x y = g' x y) : mkSt n f g = mkSt n f' g' := by
  have e1 : ((List.range n).map fun x => bitB (f x)) = (List.range n).map fun x => bitB (f' x) :=
    List.map_congr_left fun x hx => by rw [hf x (List.mem_range.1 hx)]
  have e2 : ((List.range n).flatMap fun x => (List.range n).map fun y => bitB (g x y)) = (List.range n).flatMap fun x => (List.range n).map fun y => bitB (g' x y) := by
    rw [List.flatMap_def, List.flatMap_def]
    congr 1
    exact List.map_congr_left fun x hx => List.map_congr_left fun y hy => by rw [hg x y (List.mem_range.1 hx) (List.mem_range.1 hy)]
  unfold mkSt
  rw [e1, e2]

theorem getD_lt' {l : List Nat} {n : Nat} (h : ∀ x ∈ l, x < n) {i : Nat} (hi : i < l.length) : l.getD i 0 < n := h _ (app_mem hi)

theorem part_part {a : St} {l m : List Nat} (hm : ∀ x ∈ m, x < l.length) : (a.part l).part m = a.part (comp l m) := by
  unfold St.part
  rw [len_comp]
  have e : ∀ x, x < m.length → (comp l m).getD x 0 = l.getD (m.getD x 0) 0 := fun x hx => app_comp hx
  refine mkSt_congr (fun x hx => ?_) (fun x y hx hy => ?_)
  · rw [mkSt_inS (getD_lt' hm hx), e x hx]
  · rw [mkSt_inR (getD_lt' hm hx) (getD_lt' hm hy), e x hx, e y hy]

theorem part_range {a : St} (ha : a.ok) : a.part (List.range a.n) = a := by
  have e : ∀ x, x < a.n → (List.range a.n).getD x 0 = x := fun x hx => app_range hx
  have h : a.part (List.range a.n) = mkSt a.n a.inS a.inR := by
    unfold St.part
    rw [List.length_range]
    exact mkSt_congr (fun x hx => by rw [e x hx]) (fun x y hx hy => by rw [e x hx, e y hy])
  rw [h, mkSt_self ha]

theorem part_inv {a : St} (ha : a.ok) {l : List Nat} (hl : IsPerm a.n l) : (a.part l).part (inv l) = a := by
  rw [part_part (fun x hx => by rw [hl.len]; exact hl.inv.lt x hx), comp_inv hl, part_range ha]

theorem part_ok {a : St} {l : List Nat} (h1 : 1 ≤ l.length) (h8 : l.length ≤ 8) : (a.part l).ok := mkSt_ok h1 h8

theorem iso_part {a b : St} (ha : a.ok) (hb : b.ok) (hab : a.n = b.n) {l : List Nat} (hl : l ∈ isos a b) : a.part l = b := by
  obtain ⟨hp, h1, h2⟩ := mem_isos_iff.1 hl
  have h := ha.lo
  have h' := ha.hi
  refine St.ext' (part_ok (by rw [hp.len]; exact h) (by rw [hp.len]; exact h')) hb (by rw [← hab]; exact hp.len) (fun x hx => ?_) (fun x y hx hy => ?_)
  · have hx' : x < l.length := hx
    rw [show (a.part l).inS x = a.inS (app l x) from mkSt_inS hx']
    exact h1 x (by rw [← hp.len]; exact hx')
  · have hx' : x < l.length := hx
    have hy' : y < l.length := hy
    rw [show (a.part l).inR x y = a.inR (app l x) (app l y) from mkSt_inR hx' hy']
    exact h2 x y (by rw [← hp.len]; exact hx') (by rw [← hp.len]; exact hy')

theorem part_n {a : St} (l : List Nat) : (a.part l).n = l.length := rfl
theorem other_ok {a : St} (ha : a.ok) : a.other.ok := mkSt_ok ha.lo ha.hi
theorem turn_ok {a : St} (ha : a.ok) : a.turn.ok := mkSt_ok ha.lo ha.hi
theorem other_inS {a : St} {x : Nat} (h : x < a.n) : a.other.inS x = !a.inS x := mkSt_inS h
theorem other_inR {a : St} {x y : Nat} (h : x < a.n) (h2 : y < a.n) : a.other.inR x y = !a.inR x y := mkSt_inR h h2
theorem turn_inS {a : St} {x : Nat} (h : x < a.n) : a.turn.inS x = a.inS x := mkSt_inS h
theorem turn_inR {a : St} {x y : Nat} (h : x < a.n) (h2 : y < a.n) : a.turn.inR x y = a.inR y x := mkSt_inR h h2

theorem other_other {a : St} (ha : a.ok) : a.other.other = a := by
  refine St.ext' (other_ok (other_ok ha)) ha rfl (fun x hx => ?_) (fun x y hx hy => ?_)
  · rw [other_inS (show x < a.other.n from hx), other_inS (show x < a.n from hx), Bool.not_not]
  · rw [other_inR (show x < a.other.n from hx) (show y < a.other.n from hy), other_inR (show x < a.n from hx) (show y < a.n from hy), Bool.not_not]
theorem turn_turn {a : St} (ha : a.ok) : a.turn.turn = a := by
  refine St.ext' (turn_ok (turn_ok ha)) ha rfl (fun x hx => ?_) (fun x y hx hy => ?_)
  · rw [turn_inS (show x < a.turn.n from hx), turn_inS (show x < a.n from hx)]
  · rw [turn_inR (show x < a.turn.n from hx) (show y < a.turn.n from hy), turn_inR (show y < a.n from hy) (show x < a.n from hx)]
theorem other_turn (a : St) : a.other.turn = a.turn.other := by
  show mkSt a.n a.other.inS (fun x y => a.other.inR y x) = mkSt a.n (fun x => !a.turn.inS x) (fun x y => !a.turn.inR x y)
  exact mkSt_congr (fun x hx => by rw [other_inS hx, turn_inS hx]) (fun x y hx hy => by rw [other_inR hy hx, turn_inR hx hy])

theorem isos_other {a b : St} (hab : a.n = b.n) {l : List Nat} : l ∈ isos a.other b.other ↔ l ∈ isos a b := by
  rw [mem_isos_iff, mem_isos_iff]
  show (IsPerm a.n l ∧ (∀ i, i < a.n → a.other.inS (app l i) = b.other.inS i) ∧ ∀ i j, i < a.n → j < a.n → a.other.inR (app l i) (app l j) = b.other.inR i j) ↔ _
  refine and_congr_right fun hp => ?_
  refine and_congr (forall_congr' fun i => forall_congr' fun hi => ?_) (forall_congr' fun i => forall_congr' fun j => forall_congr' fun hi => forall_congr' fun hj => ?_)
  · rw [other_inS (hp.app_lt hi), other_inS (by rw [← hab]; exact hi)]
    cases a.inS (app l i) <;> cases b.inS i <;> simp
  · rw [other_inR (hp.app_lt hi) (hp.app_lt hj), other_inR (by rw [← hab]; exact hi) (by rw [← hab]; exact hj)]
    cases a.inR (app l i) (app l j) <;> cases b.inR i j <;> simp
theorem isos_turn {a b : St} (hab : a.n = b.n) {l : List Nat} : l ∈ isos a.turn b.turn ↔ l ∈ isos a b := by
  rw [mem_isos_iff, mem_isos_iff]
  show (IsPerm a.n l ∧ (∀ i, i < a.n → a.turn.inS (app l i) = b.turn.inS i) ∧ ∀ i j, i < a.n → j < a.n → a.turn.inR (app l i) (app l j) = b.turn.inR i j) ↔ _
  refine and_congr_right fun hp => ?_
  constructor
  · rintro ⟨h1, h2⟩
    exact ⟨fun i hi => by have := h1 i hi; rwa [turn_inS (hp.app_lt hi), turn_inS (by rw [← hab]; exact hi)] at this,
      fun i j hi hj => by have := h2 j i hj hi; rwa [turn_inR (hp.app_lt hj) (hp.app_lt hi), turn_inR (by rw [← hab]; exact hj) (by rw [← hab]; exact hi)] at this⟩
  · rintro ⟨h1, h2⟩
    exact ⟨fun i hi => by rw [turn_inS (hp.app_lt hi), turn_inS (by rw [← hab]; exact hi)]; exact h1 i hi,
      fun i j hi hj => by rw [turn_inR (hp.app_lt hi) (hp.app_lt hj), turn_inR (by rw [← hab]; exact hi) (by rw [← hab]; exact hj)]; exact h2 j i hj hi⟩
theorem sym_other (a : St) : (isos a.other a.other).length = (isos a a).length := nodup_len_eq (isos_nodup _ _) (isos_nodup _ _) fun _ => isos_other rfl
theorem sym_turn (a : St) : (isos a.turn a.turn).length = (isos a a).length := nodup_len_eq (isos_nodup _ _) (isos_nodup _ _) fun _ => isos_turn rfl
theorem isos_ne_sym {a b : St} (hab : a.n = b.n) : (isos b a).isEmpty = (isos a b).isEmpty := by
  have key : ∀ {a b : St}, a.n = b.n → (isos a b).isEmpty = true → (isos b a).isEmpty = true := fun {a b} hab h => by
    rw [List.isEmpty_iff] at h ⊢
    apply List.eq_nil_iff_forall_not_mem.2
    intro l hl
    have := iso_inv hab.symm hl
    rw [h] at this
    cases this
  rw [Bool.eq_iff_iff]
  exact ⟨key hab.symm, key hab⟩
theorem isos_ne_other {a b : St} (hab : a.n = b.n) : (isos a.other b.other).isEmpty = (isos a b).isEmpty := by
  rw [Bool.eq_iff_iff, List.isEmpty_iff, List.isEmpty_iff, List.eq_nil_iff_forall_not_mem, List.eq_nil_iff_forall_not_mem]
  exact forall_congr' fun l => not_congr (isos_other hab)
theorem sym_pos (a : St) : 0 < (isos a a).length := List.length_pos_of_mem (iso_refl a)

/-- orbits -/
theorem orb_self {n : Nat} {G : List (List Nat)} (hG : Grp n G) {x : Nat} (hx : x < n) : x ∈ orbL n G x := (mem_orbL hG hx).2 ⟨_, hG.one, app_range hx⟩

theorem orb_sub {n : Nat} {G : List (List Nat)} (hG : Grp n G) {x y : Nat} (hx : x < n) (hy : y ∈ orbL n G x) {z : Nat} (hz : z ∈ orbL n G y) : z ∈ orbL n G x := by
  obtain ⟨l, hl, rfl⟩ := (mem_orbL hG hx).1 hy
  have hyn := (hG.perm l hl).app_lt hx
  obtain ⟨m, hm, rfl⟩ := (mem_orbL hG hyn).1 hz
  exact (mem_orbL hG hx).2 ⟨_, hG.comp m hm l hl, app_comp (by rw [(hG.perm l hl).len]; exact hx)⟩
theorem orb_sym {n : Nat} {G : List (List Nat)} (hG : Grp n G) {x y : Nat} (hx : x < n) (hy : y ∈ orbL n G x) : x ∈ orbL n G y := by
  obtain ⟨l, hl, rfl⟩ := (mem_orbL hG hx).1 hy
  exact (mem_orbL hG ((hG.perm l hl).app_lt hx)).2 ⟨_, hG.inv l hl, inv_app (hG.perm l hl) hx⟩
theorem orb_lt {n : Nat} {G : List (List Nat)} {x y : Nat} (hy : y ∈ orbL n G x) : y < n := List.mem_range.1 (List.mem_filter.1 hy).1
theorem orb_ext {n : Nat} {G : List (List Nat)} {x y : Nat} (h : ∀ z, z ∈ orbL n G x ↔ z ∈ orbL n G y) : orbL n G x = orbL n G y := by
  unfold orbL
  apply List.filter_congr
  intro z hz
  have h1 := h z
  unfold orbL at h1
  rw [List.mem_filter, List.mem_filter] at h1
  rw [Bool.eq_iff_iff]
  exact ⟨fun e => (h1.1 ⟨hz, e⟩).2, fun e => (h1.2 ⟨hz, e⟩).2⟩
/-- an element is in an orbit exactly if it has the same -/
theorem orb_iff {n : Nat} {G : List (List Nat)} (hG : Grp n G) {x y : Nat} (hx : x < n) (hy : y < n) : y ∈ orbL n G x ↔ orbL n G y = orbL n G x := by
  constructor
  · intro h
    exact orb_ext fun z => ⟨fun hz => orb_sub hG hx h hz, fun hz => orb_sub hG hy (orb_sym hG hx h) hz⟩
  · intro h
    rw [← h]
    exact orb_self hG hy
theorem orb_inS {a : St} {x y : Nat} (hx : x < a.n) (hy : y ∈ orbL a.n (isos a a) x) : a.inS y = a.inS x := by
  obtain ⟨l, hl, rfl⟩ := (mem_orbL (aut_grp a) hx).1 hy
  exact (mem_isos_iff.1 hl).2.1 x hx
theorem orb_pos {n : Nat} {G : List (List Nat)} (hG : Grp n G) {x : Nat} (hx : x < n) : 0 < (orbL n G x).length := List.length_pos_of_mem (orb_self hG hx)

/-- every second number below a number -/
def half (n : Nat) : List Nat := (List.range ((n + 1) / 2)).map fun i => 2 * i
def halfTo (k : Nat) : List Nat := (List.range k).map fun i => 2 * i
theorem halfTo_succ (k : Nat) : halfTo (k + 1) = halfTo k ++ [2 * k] := by unfold halfTo; rw [List.range_succ, List.map_append]; rfl
theorem halfTo_len (k : Nat) : (halfTo k).length = k := by simp [halfTo]
theorem halfTo_lt {k n : Nat} (h : 2 * k ≤ n + 1) : ∀ x ∈ halfTo k, x < n := by
  intro x hx
  obtain ⟨i, hi, rfl⟩ := List.mem_map.1 hx
  have := List.mem_range.1 hi
  omega
theorem halfTo_nodup (k : Nat) : (halfTo k).Nodup := map_nodup _ List.nodup_range fun x _ y _ e => by omega
theorem comp_halfTo_succ (l : List Nat) (k : Nat) : comp l (halfTo (k + 1)) = comp l (halfTo k) ++ [app l (2 * k)] := by unfold comp; rw [halfTo_succ, List.map_append]; rfl
theorem comp_lt {n : Nat} {l m : List Nat} (hl : ∀ x ∈ l, x < n) (hm : ∀ x ∈ m, x < l.length) : ∀ x ∈ comp l m, x < n := by
  intro x hx
  obtain ⟨i, hi, rfl⟩ := List.mem_map.1 hx
  exact hl _ (app_mem (hm i hi))
theorem app_inj_nodup {l : List Nat} (h : l.Nodup) {x y : Nat} (hx : x < l.length) (hy : y < l.length) (e : app l x = app l y) : x = y := by
  unfold app at e
  simp only [List.getD_eq_getElem?_getD, List.getElem?_eq_getElem hx, List.getElem?_eq_getElem hy, Option.getD_some] at e
  have hp := List.pairwise_iff_getElem.1 h
  rcases Nat.lt_trichotomy x y with hlt | heq | hlt
  · exact absurd e (hp x y hx hy hlt)
  · exact heq
  · exact absurd e.symm (hp y x hy hx hlt)
theorem comp_nodup {l m : List Nat} (hl : l.Nodup) (hm : m.Nodup) (hlt : ∀ x ∈ m, x < l.length) : (comp l m).Nodup :=
  map_nodup _ hm fun x hx y hy e => app_inj_nodup hl (hlt x hx) (hlt y hy) e

/-- the order that undoes another one, filled from the left -/
def backTo (l : List Nat) (n k : Nat) : List Nat := (List.range n).map fun y => if l.idxOf y < k then l.idxOf y else 0
theorem backTo_zero (l : List Nat) (n : Nat) : backTo l n 0 = List.replicate n 0 := by
  unfold backTo
  apply List.ext_getElem (by simp)
  intro i h1 h2
  simp
theorem backTo_len (l : List Nat) (n k : Nat) : (backTo l n k).length = n := by simp [backTo]
theorem backTo_succ {l : List Nat} {n k : Nat} (h : IsPerm n l) (hk : k < n) : backTo l n (k + 1) = (backTo l n k).set (app l k) k := by
  apply List.ext_getElem (by simp [backTo])
  intro i h1 h2
  simp only [backTo, List.length_map, List.length_range] at h1
  have hkl : k < l.length := by rw [h.len]; exact hk
  have hal : app l k = l[k] := by simp [app, List.getD, hkl]
  rw [List.getElem_set]
  by_cases e : app l k = i
  · rw [if_pos e]
    have hi : l.idxOf i = k := by
      rw [← e, hal]
      exact h.nodup.idxOf_getElem k hkl
    simp [backTo, hi]
  · rw [if_neg e]
    have hne : l.idxOf i ≠ k := fun h3 => e (by
      have h4 := (app_idx (h.mem h1)).2
      rw [h3] at h4
      exact h4)
    simp only [backTo, List.getElem_map, List.getElem_range]
    by_cases hlt : l.idxOf i < k
    · rw [if_pos hlt, if_pos (by omega)]
    · rw [if_neg hlt, if_neg (by omega)]
theorem backTo_all {l : List Nat} {n : Nat} (h : IsPerm n l) : backTo l n n = inv l := by
  unfold backTo inv
  rw [h.len]
  apply List.map_congr_left
  intro y hy
  rw [if_pos (by have := (app_idx (h.mem (List.mem_range.1 hy))).1; rwa [h.len] at this)]

end Pl
end Go.Proofs.YtgiaebeoldigbaaDoor

namespace Go.Proofs.YtgiaebeoldigbaaDoor
open Go.RowKit
open Pl
set_option linter.unusedSimpArgs false
set_option linter.unusedVariables false

theorem natsI_nodup {l : List Nat} (h : l.Nodup) : (natsI l).Nodup := by
  unfold natsI
  exact map_nodup _ h fun x _ y _ e => by omega
theorem natsI_toNat (l : List Nat) : (natsI l).map Int.toNat = l := by
  unfold natsI
  rw [List.map_map]
  conv => rhs; rw [← List.map_id l]
  exact List.map_congr_left fun x _ => by simp
theorem partB_nats {a : St} (ha : a.ok) {l : List Nat} (h1 : ∀ x ∈ l, x < a.n) (h2 : l.Nodup) (h3 : 0 < l.length) : partB a.n (bs a.set) (bs a.rel) (natsI l) = true := by
  unfold partB
  have e1 : elAll (a.n : Int) (natsI l) = true := by
    unfold elAll
    rw [List.all_eq_true]
    intro z hz
    obtain ⟨x, hx, rfl⟩ := List.mem_map.1 hz
    have := h1 x hx
    unfold elB
    simp
    omega
  have e2 : nodB (natsI l) = true := decide_eq_true (natsI_nodup h2)
  rw [okB_true ha, e1, e2, natsI_len, decide_eq_true h3]
  rfl
theorem partO_nats {a : St} (ha : a.ok) {l : List Nat} (h1 : ∀ x ∈ l, x < a.n) (h2 : l.Nodup) (h3 : 0 < l.length) : partO a.n (bs a.set) (bs a.rel) (natsI l) = some (a.part l) := by
  rw [part_yes (partB_nats ha h1 h2 h3), natsI_toNat]
theorem moveO_nats {a : St} (ha : a.ok) {l : List Nat} (h : IsPerm a.n l) : moveO a.n (bs a.set) (bs a.rel) (natsI l) = some (a.part l) := by
  unfold moveO
  rw [natsI_len, if_pos (by rw [h.len]), partO_nats ha h.lt h.nodup (by rw [h.len]; exact ha.lo)]
theorem st_100' {a : St} (ha : a.ok) : (bs a.set).size ≤ maxLen ∧ (bs a.rel).size ≤ maxLen := by have := st_small ha; unfold maxLen; omega

theorem part_st {a : St} (ha : a.ok) {l : List Nat} (h1 : ∀ x ∈ l, x < a.n) (h2 : l.Nodup) (h3 : 0 < l.length) (h8 : l.length ≤ 8) (A : Option Addr) (cap : Nat) (hc : l.length ≤ cap) (W : World) (hA : LRow W A (natsI l)) :
    Calls Tryd.prog 56 #[stA a, .slice A l.length cap] W fun e w' => e = .returned (.tuple #[stA (a.part l), .bool true]) ∧ Below W.heap.size W w' := by
  have h := PartOf_impl (a.n : Int) (bs a.set) (bs a.rel) A (natsI l) cap W (st_100' ha).1 (st_100' ha).2 (by rw [natsI_len]; omega) (by rw [natsI_len]; exact hc) hA
  rw [partO_nats ha h1 h2 h3, natsI_len] at h
  exact h
theorem move_st {a : St} (ha : a.ok) {l : List Nat} (hp : IsPerm a.n l) (A : Option Addr) (cap : Nat) (hc : l.length ≤ cap) (W : World) (hA : LRow W A (natsI l)) :
    Calls Tryd.prog 19 #[stA a, .slice A l.length cap] W fun e w' => e = .returned (.tuple #[stA (a.part l), .bool true]) ∧ Below W.heap.size W w' := by
  have h8 := ha.hi
  have hl := hp.len
  have h := MoveElements_impl (a.n : Int) (bs a.set) (bs a.rel) A (natsI l) cap W (st_100' ha).1 (st_100' ha).2 (by rw [natsI_len]; omega) (by rw [natsI_len]; exact hc) hA
  rw [moveO_nats ha hp, natsI_len] at h
  exact h

theorem shp_sym {i : Int} {s r : ByteArray} {j : Int} {t u : ByteArray} (h : shpL i s r j t u = []) : shpL j t u i s r = [] := by
  rcases shp_cases j t u i s r with ⟨_, h1⟩ | ⟨_, _, h1⟩ | ⟨_, _, _, h1⟩ | ⟨b, a, hb, ha, hab, rfl, rfl, rfl, rfl, rfl, rfl, h1⟩
  · exact h1
  · exact h1
  · exact h1
  · rw [h1]
    have h2 : shpL a.n (bs a.set) (bs a.rel) b.n (bs b.set) (bs b.rel) = isos a b := by
      unfold shpL
      rw [okB_true ha, okB_true hb, ofSt_eq, ofSt_eq, hab]
      simp
    rw [h2] at h
    have := isos_ne_sym (a := a) (b := b) hab.symm
    rw [h] at this
    simpa using this
theorem shp_st {a b : St} (ha : a.ok) (hb : b.ok) (hab : a.n = b.n) : shpL a.n (bs a.set) (bs a.rel) b.n (bs b.set) (bs b.rel) = isos a b := by
  unfold shpL
  rw [okB_true ha, okB_true hb, ofSt_eq, ofSt_eq, hab]
  simp

end Go.Proofs.YtgiaebeoldigbaaDoor

namespace Go.Proofs.YtgiaebeoldigbaaDoor
open Go.RowKit
open Pl
set_option linter.unusedSimpArgs false
set_option linter.unusedVariables false

/-- the law's order of n elements -/
def ordL (n m k : Nat) : List Nat := (List.range k).map fun i => (i * (n - 1) + m) % n
theorem ordL_succ (n m k : Nat) : ordL n m (k + 1) = ordL n m k ++ [(k * (n - 1) + m) % n] := by simp [ordL, List.range_succ]
theorem ordL_len (n m k : Nat) : (ordL n m k).length = k := by simp [ordL]
theorem ordL_mod (n m k : Nat) : ordL n m k = ordL n (m % n) k := by
  unfold ordL
  apply List.map_congr_left
  intro i _
  simp [Nat.add_mod]
theorem ordL_dec : ∀ n : Fin 9, ∀ m : Fin 8, 1 ≤ n.val → (ordL n.val m.val n.val).Nodup ∧ ∀ x ∈ ordL n.val m.val n.val, x < n.val := by decide +kernel
theorem ordL_perm {n : Nat} (h1 : 1 ≤ n) (h8 : n ≤ 8) (m : Nat) : IsPerm n (ordL n m n) := by
  have hm : m % n < n := Nat.mod_lt _ (by omega)
  have h := ordL_dec ⟨n, by omega⟩ ⟨m % n, by omega⟩ h1
  rw [ordL_mod]
  exact ⟨ordL_len _ _ _, h.1, h.2⟩
/-- where the elements lie in the moved structure -/
theorem holds_moved {a : St} (ha : a.ok) {l : List Nat} (hp : IsPerm a.n l) {g : Fm} {ns : List Nat} (hn : ∀ x ∈ ns, x < a.n) (hl : ns.length ≤ 4) (hf : g.freeBits / 2 ^ ns.length = 0) :
    g.holds (a.part l) (envL (ns.map (app (inv l)))) = g.holds a (envL ns) := by
  have hok : (a.part l).ok := part_ok (by rw [hp.len]; exact ha.lo) (by rw [hp.len]; exact ha.hi)
  have hpn : (a.part l).n = a.n := by rw [part_n, hp.len]
  rw [holds_iso hpn.symm (part_iso hp) g (envL (ns.map (app (inv l)))) (fun v _ => env_lt hok (fun x hx => by
    obtain ⟨y, hy, rfl⟩ := List.mem_map.1 hx
    rw [hpn]
    exact (app_inv hp (hn y hy)).1) v)]
  apply holds_free
  intro v hv
  have hv2 : v.val < ns.length := by
    apply Classical.byContradiction
    intro hge
    have h1 : g.freeBits < 2 ^ ns.length := by
      have h2 : 0 < 2 ^ ns.length := Nat.two_pow_pos _
      have := Nat.div_add_mod g.freeBits (2 ^ ns.length)
      rw [hf] at this
      have := Nat.mod_lt g.freeBits h2
      omega
    have h3 : g.freeBits < 2 ^ v.val := Nat.lt_of_lt_of_le h1 (Nat.pow_le_pow_right (by decide) (by omega))
    unfold Fm.isFree at hv
    rw [Nat.testBit_lt_two_pow h3] at hv
    cases hv
  unfold envL
  rw [List.getD_eq_getElem?_getD, List.getD_eq_getElem?_getD, List.getElem?_map, List.getElem?_eq_getElem hv2]
  exact (app_inv hp (hn _ (List.getElem_mem hv2))).2
theorem gs_moved (a : St) (ha : a.ok) (l : List Nat) (hp : IsPerm a.n l) (g : Fm) (hg : g.text.length ≤ 4000) (ns : List Nat) (hn : ∀ x ∈ ns, x < a.n) (hl : ns.length ≤ 4) (hf : g.freeBits / 2 ^ ns.length = 0) (A : Option Addr) (cap : Nat) (hcap : ns.length ≤ cap) (w : World) (hA : LRow w A (natsI (ns.map (app (inv l))))) :
    Calls Tryd.prog 13 #[stV (a.part l).n (bs (a.part l).set) (bs (a.part l).rel), .string (bs g.text), .slice A ns.length cap] w fun e w' => e = .returned (.bool (g.holds a (envL ns))) ∧ Below w.heap.size w w' := by
  have hok : (a.part l).ok := part_ok (by rw [hp.len]; exact ha.lo) (by rw [hp.len]; exact ha.hi)
  have hpn : (a.part l).n = a.n := by rw [part_n, hp.len]
  have h := gs_any (a.part l) hok g hg _ rfl (ns.map (app (inv l))) (fun x hx => by
    obtain ⟨y, hy, rfl⟩ := List.mem_map.1 hx
    rw [hpn]
    exact (app_inv hp (hn y hy)).1) (by rw [List.length_map]; exact hl) (by rw [List.length_map]; exact hf) A cap (by rw [List.length_map]; exact hcap) _ (holds_moved ha hp hn hl hf) w hA
  rwa [List.length_map] at h
theorem take_map {ns : List Nat} {f : Nat → Nat} {k : Nat} (hk : k < ns.length) : (ns.take (k + 1)).map f = (ns.take k).map f ++ [f (ns.getD k 0)] := by
  rw [List.take_succ_eq_append_getElem hk, List.map_append, List.getD_eq_getElem?_getD, List.getElem?_eq_getElem hk]
  rfl

end Go.Proofs.YtgiaebeoldigbaaDoor

namespace Go.Proofs.YtgiaebeoldigbaaDoor
open Go.RowKit
open Pl
set_option linter.unusedSimpArgs false
set_option linter.unusedVariables false

/-- the elements below k that are marked -/
def rk (f : Nat → Bool) (k : Nat) : List Nat := (List.range k).filter f
theorem rk_succ (f : Nat → Bool) (k : Nat) : rk f (k + 1) = if f k then rk f k ++ [k] else rk f k := by
  unfold rk
  rw [List.range_succ, List.filter_append]
  cases h : f k <;> simp [h]
theorem rk_len (f : Nat → Bool) (k : Nat) : (rk f k).length ≤ k := by
  have := List.length_filter_le f (List.range k)
  simpa [rk] using this

theorem own_openZ {W : World} {base : Nat} {v : Value} {zs : List Int} (h : W.ownsRow base 3 1 v zs.length (intsV zs)) : ∃ A cap, v = .slice A zs.length cap ∧ zs.length ≤ cap ∧ LRow W A zs := by
  have h0 := h
  rcases h.2 with ⟨rfl, hn⟩ | ⟨g, cap, cur, rfl, _, _, hc, _⟩
  · exact ⟨none, 0, by rw [hn], by omega, fun hl => by omega⟩
  · exact ⟨some ⟨g, 0, none⟩, cap, rfl, hc, LRow_of h0⟩
theorem own_call {W W' : World} {base n : Nat} {e : TypeId} {v : Value} {xs : List Value} (h : W.ownsRow base e 1 v n xs) (hb : Below W.heap.size W W') : W'.ownsRow base e 1 v n xs := by
  obtain ⟨h1, h2⟩ := h
  refine ⟨h1, ?_⟩
  rcases h2 with h2 | ⟨g, c, cur, hv, hg, hh, hr⟩
  · exact .inl h2
  · exact .inr ⟨g, c, cur, hv, hg, (hb.block g (Array.getElem?_eq_some_iff.1 hh).1).trans hh, hr⟩
theorem own_others {W W' : World} {base n : Nat} {e : TypeId} {v : Value} {xs : List Value} {row : Option Nat} (h : W.ownsRow base e 1 v n xs) (hg : W.grownBy W' row) (hne : v.ownBlock ≠ row ∨ v.ownBlock = none) : W'.ownsRow base e 1 v n xs := by
  obtain ⟨h1, h2⟩ := h
  refine ⟨h1, ?_⟩
  rcases h2 with h2 | ⟨g, c, cur, hv, hb, hh, hr⟩
  · exact .inl h2
  · refine .inr ⟨g, c, cur, hv, hb, (hg.block g (Array.getElem?_eq_some_iff.1 hh).1 (fun e => ?_)).trans hh, hr⟩
    rcases hne with hne | hne
    · exact hne (by rw [hv]; exact e)
    · rw [hv] at hne; cases hne
/-- two lists do not share a block -/
def Apart (v u : Value) : Prop := v.ownBlock ≠ u.ownBlock ∨ v.ownBlock = none
theorem Apart.next {W : World} {base n H : Nat} {e : TypeId} {v u u' : Value} {xs : List Value} (h : Apart v u) (ho : W.ownsRow base e 1 v n xs) (hH : W.heap.size ≤ H) (hat : u'.ownBlock = u.ownBlock ∨ u'.ownBlock = some H) : Apart v u' := by
  rcases h with h | h
  · rcases hat with hat | hat
    · exact .inl (by rw [hat]; exact h)
    · refine .inl fun e => ?_
      rw [hat] at e
      have := (ho.lt _ e).2
      omega
  · exact .inr h
theorem Apart.symm {v u : Value} (h : Apart v u) : Apart u v := by
  cases hu : u.ownBlock with
  | none => exact .inr hu
  | some g =>
    rcases h with h | h
    · exact .inl (Ne.symm h)
    · exact .inl (by rw [h, hu]; simp)
theorem Apart.new {W W' : World} {base base' n n' : Nat} {e : TypeId} {v u : Value} {xs ys : List Value} (hv : W.ownsRow base e 1 v n xs) (hu : W'.ownsRow base' e 1 u n' ys) (hb : W.heap.size ≤ base') : Apart v u := by
  cases h : v.ownBlock with
  | none => exact .inr h
  | some g =>
    refine .inl fun e => ?_
    have h1 := (hv.lt g h).2
    have h2 := (hu.lt g (by rw [← e, h])).1
    omega
theorem natsI_snoc (l : List Nat) (k : Nat) : intsV (natsI (l ++ [k])) = intsV (natsI l) ++ [.int .i64 (k : Nat)] := by simp [intsV, natsI]
theorem intsV_snoc (l : List Int) (k : Int) : intsV (l ++ [k]) = intsV l ++ [.int .i64 k] := by simp [intsV]
theorem mod_at {n m : Nat} : (n : Int).tmod (m : Int) = ((n % m : Nat) : Int) := by rw [Int.ofNat_tmod]

theorem own_cells {W : World} {base n : Nat} {e : TypeId} {v : Value} {xs : List Value} (h : W.ownsRow base e 1 v n xs) {k : Nat} (hk : v.ownBlock = some k) : ∃ c t, W.heap[k]? = some (.cells c t (0, 0)) := by
  rcases h.2 with ⟨rfl, _⟩ | ⟨g, cap, cur, rfl, _, hh, _⟩
  · simp [Value.ownBlock] at hk
  · simp [Value.ownBlock] at hk
    subst hk
    exact ⟨cur, e, hh⟩
theorem own_base {W : World} {base base' n : Nat} {e : TypeId} {v : Value} {xs : List Value} (h : W.ownsRow base e 1 v n xs) (hb : base' ≤ base) : W.ownsRow base' e 1 v n xs :=
  ⟨h.1, h.2.imp (fun h => h) fun ⟨g, c, cur, h1, h2, h3⟩ => ⟨g, c, cur, h1, Nat.le_trans hb h2, h3⟩⟩
/-- lists of things of other types do not share a block -/
theorem Apart.types {W : World} {base base' n n' : Nat} {e e' : TypeId} {v u : Value} {xs ys : List Value} (hv : W.ownsRow base e 1 v n xs) (hu : W.ownsRow base' e' 1 u n' ys) (he : e ≠ e') : Apart v u := by
  cases h : v.ownBlock with
  | none => exact .inr h
  | some g =>
    refine .inl fun e2 => ?_
    rcases hv.2 with ⟨rfl, _⟩ | ⟨g1, c1, cur1, rfl, _, h1, _⟩
    · simp [Value.ownBlock] at h
    · rcases hu.2 with ⟨rfl, _⟩ | ⟨g2, c2, cur2, rfl, _, h2, _⟩
      · simp [Value.ownBlock] at e2
      · simp [Value.ownBlock] at e2
        subst e2
        rw [h1] at h2
        injection h2 with h2
        injection h2 with _ h2 _
        exact he h2
theorem own_zeroO (w : World) {t : TypeId} : (w.alloc (.cells #[] t)).ownsRow w.heap.size t 1 (.slice (some ⟨w.heap.size, 0, none⟩) 0 0) 0 [] :=
  ⟨rfl, .inr ⟨_, 0, #[], rfl, Nat.le_refl _, Bx.new w _ _, Nat.le_refl _, Nat.zero_le _, rfl, rfl⟩⟩

end Go.Proofs.YtgiaebeoldigbaaDoor

namespace Go.Proofs.YtgiaebeoldigbaaDoor
open Go.RowKit
open Pl
set_option linter.unusedSimpArgs false
set_option linter.unusedVariables false

attribute [local go_sem ↓] Go.wp_at_zero Go.wp_at_succ

set_option maxHeartbeats 16000000 in
set_option maxRecDepth 100000 in
theorem FnMoved_walk (A : Option Addr) (n cap : Nat) (AA : Option Addr) (n2 cap2 : Nat) (w : World) (h : ByRow w A n) (hc : n ≤ cap) (hm : cap ≤ maxLen) (h2 : ByRow w AA n2) (hc2 : n2 ≤ cap2) (hm2 : cap2 ≤ maxLen) :
    Calls Tryd.prog 5 #[.slice A n cap, .slice AA n2 cap2] w fun e w' => e = .returned (.bool true) ∧ Below w.heap.size w w' := by
  obtain ⟨i0, hi, hz0, hz1, hz2⟩ := info_parts (P := Tryd.prog) (e := 3) (z := .int .i64 0) (size := 1) (bytes := 8) (by kernel_rfl)
  by_cases hn : n ≤ 1048576
  case neg =>
    have hni : (1048576 : Int) < (n : Int) := by omega
    clear h hc hm h2 hc2 hm2
    go_enter Tryd.func5, Tryd.ntmps5
    go_wp2_with fail
    go_ret
    exact ⟨rfl, Below.refl _ _⟩
  case pos =>
  have hni : (n : Int) ≤ 1048576 := by omega
  by_cases hn2 : n2 ≤ 1048576
  case neg =>
    have hni2 : (1048576 : Int) < (n2 : Int) := by omega
    clear h hc hm h2 hc2 hm2
    go_enter Tryd.func5, Tryd.ntmps5
    go_wp2_with fail
    go_ret
    exact ⟨rfl, Below.refl _ _⟩
  case pos =>
  have hni2 : (n2 : Int) ≤ 1048576 := by omega
  clear h2 hc2 hm2
  have HD := Lib.hid (DrawHoldsAt_calls A n cap w h hn hc hm)
  clear h hc hm
  go_enter Tryd.func5, Tryd.ntmps5
  go_wp2_with fail
  refine (HD.out).mono ?_
  rintro e w1 ⟨⟨i, s, r, t, zs, A', c, rfl, hs, hr, ht, hzl, hzc, hL⟩, hz⟩
  have B1 := Lib.hid (hz.alloc hz.size (.cells #[.int .i64 i, .string s, .string r] 24))
  have X1 := Lib.hid (Bx.new w1 24 #[.int .i64 i, .string s, .string r])
  have L1 := Lib.hid (hL.alloc (.cells #[.int .i64 i, .string s, .string r] 24))
  have ci := fun W (hW : LRow W A' zs) => HoldsAt_impl i s r t A' zs c W (by unfold maxLen; omega) (by unfold maxLen; omega) (by omega) hzc hW
  have cs := fun W (hW : LRow W A' zs) => HoldsAt_spec i s r t A' zs c W (by unfold maxLen; omega) (by unfold maxLen; omega) (by unfold maxLen; omega) (by omega) hzc hW
  clear hz hL
  rcases hold_cases i s r t zs with ⟨hb, hv⟩ | ⟨a, g, ns, ha, rfl, rfl, rfl, rfl, hgl, rfl, hns, hnl, hfr, hb, hv⟩
  · simp only [hb, hv] at ci cs
    have CI := Lib.hid ci
    have CS := Lib.hid cs
    clear ci cs hb hv
    obtain ⟨x0, x1, x2⟩ := box_load X1.out
    go_wp2_with fail
    refine (CI.out _ L1.out).mono ?_
    rintro e w2 ⟨rfl, hz⟩
    have B2 := Lib.hid (B1.out.trans (hz.mono B1.out.size))
    have X2 := Lib.hid (X1.out.call hz)
    have L2 := Lib.hid (L1.out.call hz)
    clear hz x0 x1 x2
    obtain ⟨x0, x1, x2⟩ := box_load X2.out
    go_wp2_with fail
    refine (CS.out _ L2.out).mono ?_
    rintro e w3 ⟨rfl, hz⟩
    have B3 := Lib.hid (B2.out.trans (hz.mono B2.out.size))
    have X3 := Lib.hid (X2.out.call hz)
    have L3 := Lib.hid (L2.out.call hz)
    clear hz x0 x1 x2
    go_wp2_with fail
    go_ret
    exact ⟨rfl, B3.out⟩
  simp only [hb, hv] at ci cs
  clear hb hv
  have hgs : g.text.length ≤ 64 := by rw [bs_size] at ht; exact ht
  have h8 := ha.hi
  have hlo := ha.lo
  rw [natsI_len] at hzl hzc ⊢
  simp only [natsI_len] at ci cs
  obtain ⟨l, hl⟩ : ∃ l, l = ordL a.n n2 a.n := ⟨_, rfl⟩
  have hp : IsPerm a.n l := by rw [hl]; exact ordL_perm hlo h8 n2
  have hll := hp.len
  have hle : ∀ k, k < a.n → app l k < a.n := fun k hk => hp.app_lt hk
  obtain ⟨mv, hmv⟩ : ∃ mv, mv = fun x => app (inv l) x := ⟨_, rfl⟩
  have hmx : ∀ x, x < a.n → mv x < a.n ∧ app l (mv x) = x := fun x hx => by rw [hmv]; exact app_inv hp hx
  have hmi : ∀ x k, x < a.n → k < a.n → app l k = x → k = mv x := fun x k hx hk e => hp.inj hk (hmx x hx).1 (by rw [e, (hmx x hx).2])
  obtain ⟨V, hV⟩ : ∃ V, V = g.holds a (envL ns) := ⟨_, rfl⟩
  simp only [← hV] at ci cs
  have cm : ∀ (A2 : Option Addr) (c2 : Nat), a.n ≤ c2 → ∀ W, LRow W A2 (natsI l) → Calls Tryd.prog 19 #[stV a.n (bs a.set) (bs a.rel), .slice A2 a.n c2] W fun e w' => e = .returned (.tuple #[stV (a.part l).n (bs (a.part l).set) (bs (a.part l).rel), .bool true]) ∧ Below W.heap.size W w' := fun A2 c2 hc2 W hW => by
    have := move_st ha hp A2 c2 (by rw [hll]; exact hc2) W hW
    rwa [hll] at this
  have cg : ∀ (A2 : Option Addr) (c2 : Nat), ns.length ≤ c2 → ∀ W, LRow W A2 (natsI (ns.map mv)) → Calls Tryd.prog 13 #[stV (a.part l).n (bs (a.part l).set) (bs (a.part l).rel), .string (bs g.text), .slice A2 ns.length c2] W fun e w' => e = .returned (.bool V) ∧ Below W.heap.size W w' := fun A2 c2 hc2 W hW => by
    rw [hmv] at hW
    rw [hV]
    exact gs_moved a ha l hp g (by omega) ns hns hnl hfr A2 c2 hc2 W hW
  have hnsx : ∀ k, k < ns.length → ns.getD k 0 < a.n := fun k hk => by rw [List.getD_eq_getElem?_getD, List.getElem?_eq_getElem hk]; exact hns _ (List.getElem_mem hk)
  have hVV : (V != V) = false := by cases V <;> rfl
  have hVV2 : (V == V) = true := by cases V <;> rfl
  have CI := Lib.hid ci
  have CS := Lib.hid cs
  have CM := Lib.hid cm
  have CG := Lib.hid cg
  have HX := Lib.hid hnsx
  have HM := Lib.hid hmx
  have HI := Lib.hid hmi
  have HLE := Lib.hid hle
  have HL := Lib.hid hl
  clear ci cs cm cg hnsx hmx hmi hmv hV hns hfr hp hle hl
  obtain ⟨x0, x1, x2⟩ := box_load X1.out
  go_wp2_with fail
  refine (CI.out _ L1.out).mono ?_
  rintro e w2 ⟨rfl, hz⟩
  have B2 := Lib.hid (B1.out.trans (hz.mono B1.out.size))
  have X2 := Lib.hid (X1.out.call hz)
  have L2 := Lib.hid (L1.out.call hz)
  clear hz x0 x1 x2
  obtain ⟨x0, x1, x2⟩ := box_load X2.out
  go_wp2_with fail
  refine (CS.out _ L2.out).mono ?_
  rintro e w3 ⟨rfl, hz⟩
  have B3 := Lib.hid (B2.out.trans (hz.mono B2.out.size))
  have X3 := Lib.hid (X2.out.call hz)
  have L3 := Lib.hid (L2.out.call hz)
  clear hz x0 x1 x2
  go_wp2_with fail
  have S4 := Lib.hid ((Below.refl w3.heap.size w3).alloc (Nat.le_refl _) (.cells #[] 3))
  have O4 := Lib.hid (own_zero w3)
  go_loopg [12, 13] a.n (fun c ov iv wr => ∃ (k cp : Nat) (gg : Nat), k + c = a.n ∧ iv = .int .i64 (k : Nat) ∧ ov = .slice (some ⟨gg, 0, none⟩) k cp ∧ wr.ownsRow w3.heap.size 3 1 (.slice (some ⟨gg, 0, none⟩) k cp) k (intsV (natsI (ordL a.n n2 k))) ∧ Below w3.heap.size w3 wr)
  case atStart => exact ⟨0, 0, _, by omega, rfl, rfl, O4.out, S4.out⟩
  case round =>
    clear CI CS S4 O4
    obtain ⟨k, cp, gg, hk, rfl, rfl, ho, hs⟩ := hrel
    have O1 := Lib.hid ho
    have HS := Lib.hid hs
    clear ho hs
    have X5 := Lib.hid (X3.out.call HS.out)
    obtain ⟨x0, x1, x2⟩ := box_load X5.out
    obtain ⟨wo, rfl⟩ : ∃ x, x = wr := ⟨wr, rfl⟩
    by_cases hlt : k < a.n
    · have hk7 : k ≤ 7 := by omega
      obtain ⟨y, hy⟩ : ∃ y, y = (k * (a.n - 1) + n2) % a.n := ⟨_, rfl⟩
      have hm1 : k * (a.n - 1) ≤ 49 := Nat.le_trans (Nat.mul_le_mul hk7 (show a.n - 1 ≤ 7 by omega)) (by decide)
      have hm2 : (k : Int) * ((a.n : Int) - 1) = ((k * (a.n - 1) : Nat) : Int) := by rw [Int.natCast_mul, Int.natCast_sub hlo]; rfl
      have hm3 : (wrap64 (wrap64 ((k : Int) * ((a.n : Int) - 1)) + (n2 : Int))).tmod (a.n : Int) = (y : Nat) := by
        rw [hm2, show wrap64 ((k * (a.n - 1) : Nat) : Int) = ((k * (a.n - 1) : Nat) : Int) from IntWalk.wrap64_in _ (by omega), IntWalk.wrap64_in _ (by omega), hy, ← Int.natCast_add, Int.ofNat_tmod]
      have hm4 : ((k : Int) * ((a.n - 1 : Nat) : Int) + (n2 : Int)) % (a.n : Int) = (y : Nat) := by rw [hy]; simp
      have hyb : y < a.n := by rw [hy]; exact Nat.mod_lt _ (by omega)
      have Hy := Lib.hid hy
      clear hy
      go_wp2_with (at_builtin; (first | rw [hm3] | rw [hm4]); refine wpList_append_own_at _ rfl (.tmp 74) (.tmp 86) 25 rfl w3.heap.size 3 i0 (.int .i64 0) 1 8 Tryd.underlying25 hi hz0 hz1 hz2 rfl (by decide) _ k (intsV (natsI (ordL a.n n2 k))) rfl (O1.out.alloc _) ⟨wo.heap.size, 0, none⟩ 1 1 [.int .i64 (y : Nat)] rfl rfl (cell_one_new _ _ _) (ints_oneCell .i64 [((y : Nat) : Int)]) (by unfold maxLen; omega) (by omega) (by have := HS.out.size; first | omega | (simp; omega)) ?_; intro v5 w5 ho5 hg5 hn5 hat5; clear hn5 hat5; have E5 := Lib.hid ((HS.out.alloc HS.out.size (.cells #[.int .i64 (y : Nat)] 3)).grown hg5 (by have := HS.out.size; simp; omega) (fun j hj => (O1.out.lt j hj).1)); have Z5 := Lib.hid ho5; clear ho5 hg5; obtain ⟨g5, cp5, rfl⟩ := own_shape Z5.out (by omega))
      go_roundg (a.n - k - 1)
      case rel => exact ⟨k + 1, cp5, g5, by omega, by go_num, rfl, by rw [ordL_succ, natsI_snoc, ← Hy.out]; exact Z5.out, E5.out⟩
      case measure => omega
    · obtain rfl : k = a.n := by omega
      have hgk : gk = 0 := by omega
      subst hgk
      clear hlt hk
      have hcp := (own_cap O1.out).1
      have LO := Lib.hid (show LRow wo (some ⟨gg, 0, none⟩) (natsI l) from by rw [HL.out]; exact LRow_of O1.out)
      have L5 := Lib.hid (L3.out.call HS.out)
      have B5 := Lib.hid (B3.out.trans (HS.out.mono B3.out.size))
      clear O1 X1 X2 X3 L1 L2 L3 B1 B2 B3 HS
      go_wp2_with fail
      refine (CM.out _ cp hcp _ LO.out).mono ?_
      rintro e w6 ⟨rfl, hz⟩
      have B6 := Lib.hid ((B5.out.trans (hz.mono B5.out.size)).alloc (Nat.le_trans B5.out.size hz.size) (.cells #[.int .i64 ((a.part l).n : Int), .string (bs (a.part l).set), .string (bs (a.part l).rel)] 24))
      have X6 := Lib.hid ((X5.out.call hz).alloc (.cells #[.int .i64 ((a.part l).n : Int), .string (bs (a.part l).set), .string (bs (a.part l).rel)] 24))
      have Y6 := Lib.hid (Bx.new w6 24 #[.int .i64 ((a.part l).n : Int), .string (bs (a.part l).set), .string (bs (a.part l).rel)])
      have L6 := Lib.hid ((L5.out.call hz).alloc (.cells #[.int .i64 ((a.part l).n : Int), .string (bs (a.part l).set), .string (bs (a.part l).rel)] 24))
      have M6 := Lib.hid ((LO.out.call hz).alloc (.cells #[.int .i64 ((a.part l).n : Int), .string (bs (a.part l).set), .string (bs (a.part l).rel)] 24))
      clear hz x0 x1 x2 B5 X5 L5 LO CM
      go_wp2_with fail
      generalize hw7 : w6.alloc (.cells #[.int .i64 ((a.part l).n : Int), .string (bs (a.part l).set), .string (bs (a.part l).rel)] 24) = w7 at *
      have S7 := Lib.hid ((Below.refl w7.heap.size w7).alloc (Nat.le_refl _) (.cells #[] 3))
      have O7 := Lib.hid (show (w7.alloc (.cells #[] 3)).ownsRow w7.heap.size 3 1 (.slice (some ⟨w6.heap.size + 1, 0, none⟩) 0 0) 0 [] from by
        have e : w7.heap.size = w6.heap.size + 1 := by rw [← hw7]; simp
        have h := own_zero w7
        simpa [e] using h)
      go_loopg [16, 17] ns.length (fun c ov iv wr => ∃ (k cp : Nat) (gg : Nat), k + c = ns.length ∧ iv = .int .i64 (k : Nat) ∧ ov = .slice (some ⟨gg, 0, none⟩) k cp ∧ wr.ownsRow w7.heap.size 3 1 (.slice (some ⟨gg, 0, none⟩) k cp) k (intsV (natsI ((ns.take k).map mv))) ∧ Below w7.heap.size w7 wr)
      case atStart => exact ⟨0, 0, _, by omega, rfl, rfl, O7.out, S7.out⟩
      case round =>
        clear S7 O7
        obtain ⟨k, cp, g1, hk, rfl, rfl, ho, hs⟩ := hrel
        have O1 := Lib.hid ho
        have HS := Lib.hid hs
        clear ho hs
        obtain ⟨wp, rfl⟩ : ∃ x, x = wr := ⟨wr, rfl⟩
        by_cases hlt : k < ns.length
        · have hx0 := HX.out k hlt
          obtain ⟨x, hxe⟩ : ∃ x, x = ns.getD k 0 := ⟨_, rfl⟩
          rw [← hxe] at hx0
          obtain ⟨hk0, hk1⟩ := HM.out x hx0
          obtain ⟨k0, hke⟩ : ∃ k0, k0 = mv x := ⟨_, rfl⟩
          rw [← hke] at hk0 hk1
          have Hxe := Lib.hid hxe
          have Hke := Lib.hid hke
          have hPl : ((ns.take k).map mv).length = k := by rw [List.length_map, List.length_take]; omega
          obtain ⟨P, hP⟩ : ∃ P, P = (ns.take k).map mv := ⟨_, rfl⟩
          rw [← hP] at O1 hPl
          have HP := Lib.hid hP
          clear hxe hke hP
          go_wp2_with fail
          go_loopg [16, 18] a.n (fun c ov kv wr => ∃ (m cp g2 j : Nat) (R : List Nat), m + c = a.n ∧ kv = .int .i64 (m : Nat) ∧ ov = .slice (some ⟨g2, 0, none⟩) j cp ∧ R.length = j ∧ (m ≤ k0 → R = P) ∧ (k0 < m → R = P ++ [k0]) ∧ wr.ownsRow w7.heap.size 3 1 (.slice (some ⟨g2, 0, none⟩) j cp) j (intsV (natsI R)) ∧ Below w7.heap.size w7 wr)
          case atStart => exact ⟨0, cp, g1, k, P, by omega, rfl, rfl, hPl, fun _ => rfl, fun h => absurd h (Nat.not_lt_zero _), O1.out, HS.out⟩
          case round =>
            clear O1 HS
            obtain ⟨m, cp2, g2, j, R, hm, rfl, rfl, hRl, hR1, hR2, ho, hs⟩ := hrel
            have HR1 := Lib.hid hR1
            have HR2 := Lib.hid hR2
            have HS := Lib.hid hs
            have O1 := Lib.hid ho
            clear ho hs hR1 hR2
            have X8 := Lib.hid (X6.out.call HS.out)
            have L8 := Lib.hid (L6.out.call HS.out)
            have M8 := Lib.hid (M6.out.call HS.out)
            obtain ⟨x0, x1, x2⟩ := box_load X8.out
            obtain ⟨wq, rfl⟩ : ∃ x, x = wr := ⟨wr, rfl⟩
            by_cases hlt2 : m < a.n
            · obtain ⟨gA, rfl, c3⟩ := LRow.nats L8.out hlt
              obtain ⟨gB, hgB, c4⟩ := LRow.nats M8.out (k := m) (by rw [hll]; exact hlt2)
              cases hgB
              rw [← Hxe.out] at c3
              rw [show l.getD m 0 = app l m from rfl] at c4
              have d3 : wq.drew.cell? ⟨gA, k, none⟩ = some (.int .i64 (x : Nat)) := c3
              have d4 : wq.drew.cell? ⟨gg, m, none⟩ = some (.int .i64 (app l m : Nat)) := c4
              have HS2 := Lib.hid HS.out.drew
              have O2 := Lib.hid (own_call O1.out (Below.refl wq.heap.size wq).drew)
              clear c3 c4
              by_cases he : m = k0
              · subst he
                have hq : (((app l m : Nat) : Int) == (x : Nat)) = true := by rw [hk1]; simp
                have hRP := HR1.out (Nat.le_refl _)
                subst hRP
                go_upto_region 23 with (fail)
                refine region_sched [(0, true), (1, true), (2, true), (3, true), (4, true), (5, true), (6, true), (7, true), (8, true)] (fun w' : World => w'.cell? ⟨gA, k, none⟩ = some (.int .i64 (x : Nat)) ∧ w'.cell? ⟨gg, m, none⟩ = some (.int .i64 (app l m : Nat))) (by kernel_rfl) (by kernel_rfl) (by kernel_rfl) (by kernel_rfl) (fun _ _ _ _ h => h) ?_ (fun Q1 hQ1 => ?_)
                · exact ⟨d3, d4⟩
                try simp only [List.append]
                refine sched_take' (v := ?_) (a' := ?_) rfl (by kernel_rfl) ?_ rfl ?_ ?_
                rotate_left 2
                · intro w hSw
                  (try dsimp only at hSw)
                  go_simp
                  try with_reducible rfl
                · (try simp only [Act.put, List.setIfInBounds_toArray, List.set_cons_zero, List.set_cons_succ])
                  try rfl
                refine sched_take' (v := ?_) (a' := ?_) rfl (by kernel_rfl) ?_ rfl ?_ ?_
                rotate_left 2
                · intro w hSw
                  (try dsimp only at hSw)
                  go_simp
                  try with_reducible rfl
                · (try simp only [Act.put, List.setIfInBounds_toArray, List.set_cons_zero, List.set_cons_succ])
                  try rfl
                refine sched_take' (v := ?_) (a' := ?_) rfl (by kernel_rfl) ?_ rfl ?_ ?_
                rotate_left 2
                · intro w hSw
                  (try dsimp only at hSw)
                  go_simp
                  try with_reducible rfl
                · (try simp only [Act.put, List.setIfInBounds_toArray, List.set_cons_zero, List.set_cons_succ])
                  try rfl
                refine sched_take' (v := .int .i64 (app l m : Nat)) (a' := ?_) rfl (by kernel_rfl) ?_ rfl ?_ ?_
                rotate_left 1
                · intro w hSw
                  (try dsimp only at hSw)
                  go_simp
                  first | done | (obtain ⟨u0, u1⟩ := hSw; simp [*])
                · (try simp only [Act.put, List.setIfInBounds_toArray, List.set_cons_zero, List.set_cons_succ])
                  try rfl
                refine sched_take' (v := ?_) (a' := ?_) rfl (by kernel_rfl) ?_ rfl ?_ ?_
                rotate_left 2
                · intro w hSw
                  (try dsimp only at hSw)
                  go_simp
                  try with_reducible rfl
                · (try simp only [Act.put, List.setIfInBounds_toArray, List.set_cons_zero, List.set_cons_succ])
                  try rfl
                refine sched_take' (v := ?_) (a' := ?_) rfl (by kernel_rfl) ?_ rfl ?_ ?_
                rotate_left 2
                · intro w hSw
                  (try dsimp only at hSw)
                  go_simp
                  try with_reducible rfl
                · (try simp only [Act.put, List.setIfInBounds_toArray, List.set_cons_zero, List.set_cons_succ])
                  try rfl
                refine sched_take' (v := ?_) (a' := ?_) rfl (by kernel_rfl) ?_ rfl ?_ ?_
                rotate_left 2
                · intro w hSw
                  (try dsimp only at hSw)
                  go_simp
                  try with_reducible rfl
                · (try simp only [Act.put, List.setIfInBounds_toArray, List.set_cons_zero, List.set_cons_succ])
                  try rfl
                refine sched_take' (v := .int .i64 (x : Nat)) (a' := ?_) rfl (by kernel_rfl) ?_ rfl ?_ ?_
                rotate_left 1
                · intro w hSw
                  (try dsimp only at hSw)
                  go_simp
                  first | done | (obtain ⟨u0, u1⟩ := hSw; simp [*])
                · (try simp only [Act.put, List.setIfInBounds_toArray, List.set_cons_zero, List.set_cons_succ])
                  try rfl
                refine sched_take' (v := .bool true) (a' := ?_) rfl (by kernel_rfl) ?_ rfl ?_ ?_
                rotate_left 1
                · intro w hSw
                  (try dsimp only at hSw)
                  go_simp
                  first | done | exact hq | (simp [hq]; done) | (rw [hq])
                · (try simp only [Act.put, List.setIfInBounds_toArray, List.set_cons_zero, List.set_cons_succ])
                  try rfl
                refine sched_done (hQ1.out _ _ ?_)
                go_wp2_with (at_builtin; refine wpList_append_own_at _ rfl (.tmp 118) (.tmp 120) 25 rfl w7.heap.size 3 i0 (.int .i64 0) 1 8 Tryd.underlying25 hi hz0 hz1 hz2 rfl (by decide) _ j (intsV (natsI (R))) rfl (O2.out.alloc _) ⟨wq.drew.heap.size, 0, none⟩ 1 1 [.int .i64 (m : Nat)] rfl rfl (cell_one_new _ _ _) (ints_oneCell .i64 [((m : Nat) : Int)]) (by unfold maxLen; omega) (by omega) (by have := HS2.out.size; have := HS.out.size; first | omega | (simp; omega)) ?_; intro v5 w5 ho5 hg5 hn5 hat5; clear hn5 hat5; have E5 := Lib.hid ((HS2.out.alloc HS2.out.size (.cells #[.int .i64 (m : Nat)] 3)).grown hg5 (by have := HS2.out.size; have := HS.out.size; simp; omega) (fun j hj => (O2.out.lt j hj).1)); have Z5 := Lib.hid ho5; clear ho5 hg5; obtain ⟨g5, cp5, rfl⟩ := own_shape Z5.out (by omega))
                go_roundg (a.n - m - 1)
                case rel => exact ⟨m + 1, cp5, g5, j + 1, R ++ [m], by omega, by go_num, rfl, by simp [hRl], fun h => absurd h (by omega), fun _ => rfl, by rw [natsI_snoc]; exact Z5.out, E5.out⟩
                case measure => omega
              · have hq : (((app l m : Nat) : Int) == (x : Nat)) = false := by
                  rw [beq_eq_false_iff_ne]
                  intro e
                  exact he (by have := HI.out x m hx0 hlt2 (by omega); rw [this, Hke.out])
                go_upto_region 23 with (fail)
                refine region_sched [(0, true), (1, true), (2, true), (3, true), (4, true), (5, true), (6, true), (7, true), (8, true)] (fun w' : World => w'.cell? ⟨gA, k, none⟩ = some (.int .i64 (x : Nat)) ∧ w'.cell? ⟨gg, m, none⟩ = some (.int .i64 (app l m : Nat))) (by kernel_rfl) (by kernel_rfl) (by kernel_rfl) (by kernel_rfl) (fun _ _ _ _ h => h) ?_ (fun Q1 hQ1 => ?_)
                · exact ⟨d3, d4⟩
                try simp only [List.append]
                refine sched_take' (v := ?_) (a' := ?_) rfl (by kernel_rfl) ?_ rfl ?_ ?_
                rotate_left 2
                · intro w hSw
                  (try dsimp only at hSw)
                  go_simp
                  try with_reducible rfl
                · (try simp only [Act.put, List.setIfInBounds_toArray, List.set_cons_zero, List.set_cons_succ])
                  try rfl
                refine sched_take' (v := ?_) (a' := ?_) rfl (by kernel_rfl) ?_ rfl ?_ ?_
                rotate_left 2
                · intro w hSw
                  (try dsimp only at hSw)
                  go_simp
                  try with_reducible rfl
                · (try simp only [Act.put, List.setIfInBounds_toArray, List.set_cons_zero, List.set_cons_succ])
                  try rfl
                refine sched_take' (v := ?_) (a' := ?_) rfl (by kernel_rfl) ?_ rfl ?_ ?_
                rotate_left 2
                · intro w hSw
                  (try dsimp only at hSw)
                  go_simp
                  try with_reducible rfl
                · (try simp only [Act.put, List.setIfInBounds_toArray, List.set_cons_zero, List.set_cons_succ])
                  try rfl
                refine sched_take' (v := .int .i64 (app l m : Nat)) (a' := ?_) rfl (by kernel_rfl) ?_ rfl ?_ ?_
                rotate_left 1
                · intro w hSw
                  (try dsimp only at hSw)
                  go_simp
                  first | done | (obtain ⟨u0, u1⟩ := hSw; simp [*])
                · (try simp only [Act.put, List.setIfInBounds_toArray, List.set_cons_zero, List.set_cons_succ])
                  try rfl
                refine sched_take' (v := ?_) (a' := ?_) rfl (by kernel_rfl) ?_ rfl ?_ ?_
                rotate_left 2
                · intro w hSw
                  (try dsimp only at hSw)
                  go_simp
                  try with_reducible rfl
                · (try simp only [Act.put, List.setIfInBounds_toArray, List.set_cons_zero, List.set_cons_succ])
                  try rfl
                refine sched_take' (v := ?_) (a' := ?_) rfl (by kernel_rfl) ?_ rfl ?_ ?_
                rotate_left 2
                · intro w hSw
                  (try dsimp only at hSw)
                  go_simp
                  try with_reducible rfl
                · (try simp only [Act.put, List.setIfInBounds_toArray, List.set_cons_zero, List.set_cons_succ])
                  try rfl
                refine sched_take' (v := ?_) (a' := ?_) rfl (by kernel_rfl) ?_ rfl ?_ ?_
                rotate_left 2
                · intro w hSw
                  (try dsimp only at hSw)
                  go_simp
                  try with_reducible rfl
                · (try simp only [Act.put, List.setIfInBounds_toArray, List.set_cons_zero, List.set_cons_succ])
                  try rfl
                refine sched_take' (v := .int .i64 (x : Nat)) (a' := ?_) rfl (by kernel_rfl) ?_ rfl ?_ ?_
                rotate_left 1
                · intro w hSw
                  (try dsimp only at hSw)
                  go_simp
                  first | done | (obtain ⟨u0, u1⟩ := hSw; simp [*])
                · (try simp only [Act.put, List.setIfInBounds_toArray, List.set_cons_zero, List.set_cons_succ])
                  try rfl
                refine sched_take' (v := .bool false) (a' := ?_) rfl (by kernel_rfl) ?_ rfl ?_ ?_
                rotate_left 1
                · intro w hSw
                  (try dsimp only at hSw)
                  go_simp
                  first | done | exact hq | (simp [hq]; done) | (rw [hq])
                · (try simp only [Act.put, List.setIfInBounds_toArray, List.set_cons_zero, List.set_cons_succ])
                  try rfl
                refine sched_done (hQ1.out _ _ ?_)
                go_wp2_with fail
                go_roundg (a.n - m - 1)
                case rel => exact ⟨m + 1, cp2, g2, j, R, by omega, by go_num, rfl, hRl, fun h => HR1.out (by omega), fun h => HR2.out (by omega), O2.out, HS2.out⟩
                case measure => omega
            · obtain rfl : m = a.n := by omega
              have hgk : gk = 0 := by omega
              subst hgk
              have hRP := HR2.out (by omega)
              subst hRP
              obtain rfl : k + 1 = j := by rw [← hRl]; simp [hPl]
              clear hlt2 hm
              go_wp2_with fail
              go_roundg (ns.length - k - 1)
              case rel => exact ⟨k + 1, cp2, g2, by omega, by go_num, rfl, by rw [take_map hlt, ← Hxe.out, ← HP.out, ← Hke.out]; exact O1.out, HS.out⟩
              case measure => omega
        · obtain rfl : k = ns.length := by omega
          have hgk : gk = 0 := by omega
          subst hgk
          clear hlt hk
          have hcp := (own_cap O1.out).1
          have LO := Lib.hid (show LRow wp (some ⟨g1, 0, none⟩) (natsI (ns.map mv)) from by have := LRow_of O1.out; rwa [List.take_length] at this)
          have Y8 := Lib.hid (Y6.out.call HS.out)
          have B8 := Lib.hid (B6.out.trans (HS.out.mono B6.out.size))
          obtain ⟨x0, x1, x2⟩ := box_load Y8.out
          go_wp2_with fail
          refine (CG.out _ cp hcp _ LO.out).mono ?_
          rintro e w9 ⟨rfl, hz⟩
          have B9 := Lib.hid (B8.out.trans (hz.mono B8.out.size))
          clear hz x0 x1 x2
          go_wp2_with fail
          go_ret
          exact ⟨rfl, B9.out⟩

end Go.Proofs.YtgiaebeoldigbaaDoor
