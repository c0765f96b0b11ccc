/-
  Laws of the functions that the claim reaches, one after the other (packed by a program of the prover's: PlLaws, Each, Each2, Count, SOrders, SOrder, PartOf, SPart, SFits, Same, Own, OrbI, SPart2, OrbS, Mark, WOrb, DefI, DefP, DrP, Map). Conditions: texts below the reach.
-/
import Derived.Test.YteonanaihklgmaaDoorPq6
import Derived.Test.YteonanaihklgmaaDoorPq3
import Derived.Laws.EntriesVeiled
import Derived.Test.YteonanaihklgmaaDoorPq2
import Derived.Test.YteonanaihklgmaaDoorPq0
import Derived.StillTailTactics
import Derived.Deep.DrawnRows
import Derived.Maps.Own
import Derived.LaidEqlPtr
import Derived.Deep.RegionLawGrows
set_option linter.unusedSimpArgs false
set_option linter.unusedVariables false

namespace Go.Proofs.YteonanaihklgmaaDoor
namespace Pl

theorem mkSt_congr {n : Nat} {f f' : Nat → Bool} {g g' : Nat → Nat → Bool} (hf : ∀ x, x < n → f x = f' x) (hg : ∀ x y, x < n → y < n → g x y = g' x y) : mkSt n f g = mkSt n f' g' := by
  have e1 : ((List.range n).map fun x => bitB (f x)) = (List.range n).map fun x => bitB (f' x) :=
    List.map_congr_left fun x hx => by rw [hf x (List.mem_range.1 hx)]
  have e2 : ((List.range n).flatMap fun x => (List.range n).map fun y => bitB (g x y)) = (List.range n).flatMap fun x => (List.range n).map fun y => bitB (g' x y) := by
    rw [List.flatMap_def, List.flatMap_def]
    congr 1
    exact List.map_congr_left fun x hx => List.map_congr_left fun y hy => by rw [hg x y (List.mem_range.1 hx) (List.mem_range.1 hy)]
  unfold mkSt
  rw [e1, e2]

theorem getD_lt' {l : List Nat} {n : Nat} (h : ∀ x ∈ l, x < n) {i : Nat} (hi : i < l.length) : l.getD i 0 < n := h _ (app_mem hi)

theorem part_part {a : St} {l m : List Nat} (hm : ∀ x ∈ m, x < l.length) : (a.part l).part m = a.part (comp l m) := by
  unfold St.part
  rw [len_comp]
  have e : ∀ x, x < m.length → (comp l m).getD x 0 = l.getD (m.getD x 0) 0 := fun x hx => app_comp hx
  refine mkSt_congr (fun x hx => ?_) (fun x y hx hy => ?_)
  · rw [mkSt_inS (getD_lt' hm hx), e x hx]
  · rw [mkSt_inR (getD_lt' hm hx) (getD_lt' hm hy), e x hx, e y hy]

theorem part_range {a : St} (ha : a.ok) : a.part (List.range a.n) = a := by
  have e : ∀ x, x < a.n → (List.range a.n).getD x 0 = x := fun x hx => app_range hx
  have h : a.part (List.range a.n) = mkSt a.n a.inS a.inR := by
    unfold St.part
    rw [List.length_range]
    exact mkSt_congr (fun x hx => by rw [e x hx]) (fun x y hx hy => by rw [e x hx, e y hy])
  rw [h, mkSt_self ha]

theorem part_inv {a : St} (ha : a.ok) {l : List Nat} (hl : IsPerm a.n l) : (a.part l).part (inv l) = a := by
  rw [part_part (fun x hx => by rw [hl.len]; exact hl.inv.lt x hx), comp_inv hl, part_range ha]

theorem part_ok {a : St} {l : List Nat} (h1 : 1 ≤ l.length) (h8 : l.length ≤ 8) : (a.part l).ok := mkSt_ok h1 h8

theorem iso_part {a b : St} (ha : a.ok) (hb : b.ok) (hab : a.n = b.n) {l : List Nat} (hl : l ∈ isos a b) : a.part l = b := by
  obtain ⟨hp, h1, h2⟩ := mem_isos_iff.1 hl
  have h := ha.lo
  have h' := ha.hi
  refine St.ext' (part_ok (by rw [hp.len]; exact h) (by rw [hp.len]; exact h')) hb (by rw [← hab]; exact hp.len) (fun x hx => ?_) (fun x y hx hy => ?_)
  · have hx' : x < l.length := hx
    rw [show (a.part l).inS x = a.inS (app l x) from mkSt_inS hx']
    exact h1 x (by rw [← hp.len]; exact hx')
  · have hx' : x < l.length := hx
    have hy' : y < l.length := hy
    rw [show (a.part l).inR x y = a.inR (app l x) (app l y) from mkSt_inR hx' hy']
    exact h2 x y (by rw [← hp.len]; exact hx') (by rw [← hp.len]; exact hy')

theorem part_n {a : St} (l : List Nat) : (a.part l).n = l.length := rfl
theorem other_ok {a : St} (ha : a.ok) : a.other.ok := mkSt_ok ha.lo ha.hi
theorem turn_ok {a : St} (ha : a.ok) : a.turn.ok := mkSt_ok ha.lo ha.hi
theorem other_inS {a : St} {x : Nat} (h : x < a.n) : a.other.inS x = !a.inS x := mkSt_inS h
theorem other_inR {a : St} {x y : Nat} (h : x < a.n) (h2 : y < a.n) : a.other.inR x y = !a.inR x y := mkSt_inR h h2
theorem turn_inS {a : St} {x : Nat} (h : x < a.n) : a.turn.inS x = a.inS x := mkSt_inS h
theorem turn_inR {a : St} {x y : Nat} (h : x < a.n) (h2 : y < a.n) : a.turn.inR x y = a.inR y x := mkSt_inR h h2

theorem other_other {a : St} (ha : a.ok) : a.other.other = a := by
  refine St.ext' (other_ok (other_ok ha)) ha rfl (fun x hx => ?_) (fun x y hx hy => ?_)
  · rw [other_inS (show x < a.other.n from hx), other_inS (show x < a.n from hx), Bool.not_not]
  · rw [other_inR (show x < a.other.n from hx) (show y < a.other.n from hy), other_inR (show x < a.n from hx) (show y < a.n from hy), Bool.not_not]
theorem turn_turn {a : St} (ha : a.ok) : a.turn.turn = a := by
  refine St.ext' (turn_ok (turn_ok ha)) ha rfl (fun x hx => ?_) (fun x y hx hy => ?_)
  · rw [turn_inS (show x < a.turn.n from hx), turn_inS (show x < a.n from hx)]
  · rw [turn_inR (show x < a.turn.n from hx) (show y < a.turn.n from hy), turn_inR (show y < a.n from hy) (show x < a.n from hx)]
theorem other_turn (a : St) : a.other.turn = a.turn.other := by
  show mkSt a.n a.other.inS (fun x y => a.other.inR y x) = mkSt a.n (fun x => !a.turn.inS x) (fun x y => !a.turn.inR x y)
  exact mkSt_congr (fun x hx => by rw [other_inS hx, turn_inS hx]) (fun x y hx hy => by rw [other_inR hy hx, turn_inR hx hy])

theorem isos_other {a b : St} (hab : a.n = b.n) {l : List Nat} : l ∈ isos a.other b.other ↔ l ∈ isos a b := by
  rw [mem_isos_iff, mem_isos_iff]
  show (IsPerm a.n l ∧ (∀ i, i < a.n → a.other.inS (app l i) = b.other.inS i) ∧ ∀ i j, i < a.n → j < a.n → a.other.inR (app l i) (app l j) = b.other.inR i j) ↔ _
  refine and_congr_right fun hp => ?_
  refine and_congr (forall_congr' fun i => forall_congr' fun hi => ?_) (forall_congr' fun i => forall_congr' fun j => forall_congr' fun hi => forall_congr' fun hj => ?_)
  · rw [other_inS (hp.app_lt hi), other_inS (by rw [← hab]; exact hi)]
    cases a.inS (app l i) <;> cases b.inS i <;> simp
  · rw [other_inR (hp.app_lt hi) (hp.app_lt hj), other_inR (by rw [← hab]; exact hi) (by rw [← hab]; exact hj)]
    cases a.inR (app l i) (app l j) <;> cases b.inR i j <;> simp
theorem isos_turn {a b : St} (hab : a.n = b.n) {l : List Nat} : l ∈ isos a.turn b.turn ↔ l ∈ isos a b := by
  rw [mem_isos_iff, mem_isos_iff]
  show (IsPerm a.n l ∧ (∀ i, i < a.n → a.turn.inS (app l i) = b.turn.inS i) ∧ ∀ i j, i < a.n → j < a.n → a.turn.inR (app l i) (app l j) = b.turn.inR i j) ↔ _
  refine and_congr_right fun hp => ?_
  constructor
  · rintro ⟨h1, h2⟩
    exact ⟨fun i hi => by have := h1 i hi; rwa [turn_inS (hp.app_lt hi), turn_inS (by rw [← hab]; exact hi)] at this,
      fun i j hi hj => by have := h2 j i hj hi; rwa [turn_inR (hp.app_lt hj) (hp.app_lt hi), turn_inR (by rw [← hab]; exact hj) (by rw [← hab]; exact hi)] at this⟩
  · rintro ⟨h1, h2⟩
    exact ⟨fun i hi => by rw [turn_inS (hp.app_lt hi), turn_inS (by rw [← hab]; exact hi)]; exact h1 i hi,
      fun i j hi hj => by rw [turn_inR (hp.app_lt hi) (hp.app_lt hj), turn_inR (by rw [← hab]; exact hi) (by rw [← hab]; exact hj)]; exact h2 j i hj hi⟩
theorem sym_other (a : St) : (isos a.other a.other).length = (isos a a).length := nodup_len_eq (isos_nodup _ _) (isos_nodup _ _) fun _ => isos_other rfl
theorem sym_turn (a : St) : (isos a.turn a.turn).length = (isos a a).length := nodup_len_eq (isos_nodup _ _) (isos_nodup _ _) fun _ => isos_turn rfl
theorem isos_ne_sym {a b : St} (hab : a.n = b.n) : (isos b a).isEmpty = (isos a b).isEmpty := by
  have key : ∀ {a b : St}, a.n = b.n → (isos a b).isEmpty = true → (isos b a).isEmpty = true := fun {a b} hab h => by
    rw [List.isEmpty_iff] at h ⊢
    apply List.eq_nil_iff_forall_not_mem.2
    intro l hl
    have := iso_inv hab.symm hl
    rw [h] at this
    cases this
  rw [Bool.eq_iff_iff]
  exact ⟨key hab.symm, key hab⟩
theorem isos_ne_other {a b : St} (hab : a.n = b.n) : (isos a.other b.other).isEmpty = (isos a b).isEmpty := by
  rw [Bool.eq_iff_iff, List.isEmpty_iff, List.isEmpty_iff, List.eq_nil_iff_forall_not_mem, List.eq_nil_iff_forall_not_mem]
  exact forall_congr' fun l => not_congr (isos_other hab)
theorem sym_pos (a : St) : 0 < (isos a a).length := List.length_pos_of_mem (iso_refl a)

/-- orbits -/
theorem orb_self {n : Nat} {G : List (List Nat)} (hG : Grp n G) {x : Nat} (hx : x < n) : x ∈ orbL n G x := (mem_orbL hG hx).2 ⟨_, hG.one, app_range hx⟩

theorem orb_sub {n : Nat} {G : List (List Nat)} (hG : Grp n G) {x y : Nat} (hx : x < n) (hy : y ∈ orbL n G x) {z : Nat} (hz : z ∈ orbL n G y) : z ∈ orbL n G x := by
  obtain ⟨l, hl, rfl⟩ := (mem_orbL hG hx).1 hy
  have hyn := (hG.perm l hl).app_lt hx
  obtain ⟨m, hm, rfl⟩ := (mem_orbL hG hyn).1 hz
  exact (mem_orbL hG hx).2 ⟨_, hG.comp m hm l hl, app_comp (by rw [(hG.perm l hl).len]; exact hx)⟩
theorem orb_sym {n : Nat} {G : List (List Nat)} (hG : Grp n G) {x y : Nat} (hx : x < n) (hy : y ∈ orbL n G x) : x ∈ orbL n G y := by
  obtain ⟨l, hl, rfl⟩ := (mem_orbL hG hx).1 hy
  exact (mem_orbL hG ((hG.perm l hl).app_lt hx)).2 ⟨_, hG.inv l hl, inv_app (hG.perm l hl) hx⟩
theorem orb_lt {n : Nat} {G : List (List Nat)} {x y : Nat} (hy : y ∈ orbL n G x) : y < n := List.mem_range.1 (List.mem_filter.1 hy).1
theorem orb_ext {n : Nat} {G : List (List Nat)} {x y : Nat} (h : ∀ z, z ∈ orbL n G x ↔ z ∈ orbL n G y) : orbL n G x = orbL n G y := by
  unfold orbL
  apply List.filter_congr
  intro z hz
  have h1 := h z
  unfold orbL at h1
  rw [List.mem_filter, List.mem_filter] at h1
  rw [Bool.eq_iff_iff]
  exact ⟨fun e => (h1.1 ⟨hz, e⟩).2, fun e => (h1.2 ⟨hz, e⟩).2⟩
/-- an element is in an orbit exactly if it has the same -/
theorem orb_iff {n : Nat} {G : List (List Nat)} (hG : Grp n G) {x y : Nat} (hx : x < n) (hy : y < n) : y ∈ orbL n G x ↔ orbL n G y = orbL n G x := by
  constructor
  · intro h
    exact orb_ext fun z => ⟨fun hz => orb_sub hG hx h hz, fun hz => orb_sub hG hy (orb_sym hG hx h) hz⟩
  · intro h
    rw [← h]
    exact orb_self hG hy
theorem orb_inS {a : St} {x y : Nat} (hx : x < a.n) (hy : y ∈ orbL a.n (isos a a) x) : a.inS y = a.inS x := by
  obtain ⟨l, hl, rfl⟩ := (mem_orbL (aut_grp a) hx).1 hy
  exact (mem_isos_iff.1 hl).2.1 x hx
theorem orb_pos {n : Nat} {G : List (List Nat)} (hG : Grp n G) {x : Nat} (hx : x < n) : 0 < (orbL n G x).length := List.length_pos_of_mem (orb_self hG hx)

/-- every second number below a number -/
def half (n : Nat) : List Nat := (List.range ((n + 1) / 2)).map fun i => 2 * i
def halfTo (k : Nat) : List Nat := (List.range k).map fun i => 2 * i
theorem halfTo_succ (k : Nat) : halfTo (k + 1) = halfTo k ++ [2 * k] := by unfold halfTo; rw [List.range_succ, List.map_append]; rfl
theorem halfTo_len (k : Nat) : (halfTo k).length = k := by simp [halfTo]
theorem halfTo_lt {k n : Nat} (h : 2 * k ≤ n + 1) : ∀ x ∈ halfTo k, x < n := by
  intro x hx
  obtain ⟨i, hi, rfl⟩ := List.mem_map.1 hx
  have := List.mem_range.1 hi
  omega
theorem halfTo_nodup (k : Nat) : (halfTo k).Nodup := map_nodup _ List.nodup_range fun x _ y _ e => by omega
theorem comp_halfTo_succ (l : List Nat) (k : Nat) : comp l (halfTo (k + 1)) = comp l (halfTo k) ++ [app l (2 * k)] := by unfold comp; rw [halfTo_succ, List.map_append]; rfl
theorem comp_lt {n : Nat} {l m : List Nat} (hl : ∀ x ∈ l, x < n) (hm : ∀ x ∈ m, x < l.length) : ∀ x ∈ comp l m, x < n := by
  intro x hx
  obtain ⟨i, hi, rfl⟩ := List.mem_map.1 hx
  exact hl _ (app_mem (hm i hi))
theorem app_inj_nodup {l : List Nat} (h : l.Nodup) {x y : Nat} (hx : x < l.length) (hy : y < l.length) (e : app l x = app l y) : x = y := by
  unfold app at e
  simp only [List.getD_eq_getElem?_getD, List.getElem?_eq_getElem hx, List.getElem?_eq_getElem hy, Option.getD_some] at e
  have hp := List.pairwise_iff_getElem.1 h
  rcases Nat.lt_trichotomy x y with hlt | heq | hlt
  · exact absurd e (hp x y hx hy hlt)
  · exact heq
  · exact absurd e.symm (hp y x hy hx hlt)
theorem comp_nodup {l m : List Nat} (hl : l.Nodup) (hm : m.Nodup) (hlt : ∀ x ∈ m, x < l.length) : (comp l m).Nodup :=
  map_nodup _ hm fun x hx y hy e => app_inj_nodup hl (hlt x hx) (hlt y hy) e

/-- the order that undoes another one, filled from the left -/
def backTo (l : List Nat) (n k : Nat) : List Nat := (List.range n).map fun y => if l.idxOf y < k then l.idxOf y else 0
theorem backTo_zero (l : List Nat) (n : Nat) : backTo l n 0 = List.replicate n 0 := by
  unfold backTo
  apply List.ext_getElem (by simp)
  intro i h1 h2
  simp
theorem backTo_len (l : List Nat) (n k : Nat) : (backTo l n k).length = n := by simp [backTo]
theorem backTo_succ {l : List Nat} {n k : Nat} (h : IsPerm n l) (hk : k < n) : backTo l n (k + 1) = (backTo l n k).set (app l k) k := by
  apply List.ext_getElem (by simp [backTo])
  intro i h1 h2
  simp only [backTo, List.length_map, List.length_range] at h1
  have hkl : k < l.length := by rw [h.len]; exact hk
  have hal : app l k = l[k] := by simp [app, List.getD, hkl]
  rw [List.getElem_set]
  by_cases e : app l k = i
  · rw [if_pos e]
    have hi : l.idxOf i = k := by
      rw [← e, hal]
      exact h.nodup.idxOf_getElem k hkl
    simp [backTo, hi]
  · rw [if_neg e]
    have hne : l.idxOf i ≠ k := fun h3 => e (by
      have h4 := (app_idx (h.mem h1)).2
      rw [h3] at h4
      exact h4)
    simp only [backTo, List.getElem_map, List.getElem_range]
    by_cases hlt : l.idxOf i < k
    · rw [if_pos hlt, if_pos (by omega)]
    · rw [if_neg hlt, if_neg (by omega)]
theorem backTo_all {l : List Nat} {n : Nat} (h : IsPerm n l) : backTo l n n = inv l := by
  unfold backTo inv
  rw [h.len]
  apply List.map_congr_left
  intro y hy
  rw [if_pos (by have := (app_idx (h.mem (List.mem_range.1 hy))).1; rwa [h.len] at this)]

end Pl
end Go.Proofs.YteonanaihklgmaaDoor

namespace Go.Proofs.YteonanaihklgmaaDoor
open Go.RowKit
open Pl
set_option linter.unusedSimpArgs false
set_option linter.unusedVariables false

theorem enter_each1 : ∀ (args : Array Value) (w : World), (callFunc 88 args).run Tryd.prog w = .ok (.enter 88 args) w := enter_of Tryd.func88 (by kernel_rfl) (by kernel_rfl)

set_option maxHeartbeats 4000000 in
set_option maxRecDepth 100000 in
theorem each1_calls (B : Nat) (a b : St) (ha : a.ok) (hb : b.ok) (hab : a.n = b.n) (c : Bool) (tf : FuncId) (tF tC : Array Value)
    (eT : ∀ (args : Array Value) (W : World), (callFunc tf args).run Tryd.prog W = .ok (.enter tf args) W)
    (J : World → List (List Nat) → Prop) (hJ : ∀ W W' L, (c = true ∨ L = []) → J W L → Below B W W' → J W' L)
    (hT : ∀ W L (l : List Nat) A cap, (c = true ∨ L = []) → J W L → B + 6 ≤ W.heap.size → l.length = a.n → (∀ x ∈ l, x < a.n) → LRow W A (natsI l) → Calls Tryd.prog tf (tF.push (.slice A l.length cap) ++ tC) W fun e w' => (e = .returned (.bool c) ∧ J w' (L ++ [l])) ∧ Kp B W w') :
    ∀ (m : Nat) (o : List Nat) (L : List (List Nat)) (W : World), (c = true ∨ L = []) → o.length + m = a.n → (∀ x ∈ o, x < a.n) → eEnv W B a b (.func (.func tf) tF tC) → eRow W B o → J W L →
    Calls Tryd.prog 88 #[.pointer (some ⟨B + 4, 0, none⟩), .pointer (some ⟨B, 0, none⟩), .pointer (some ⟨B + 2, 0, none⟩), .pointer (some ⟨B + 1, 0, none⟩), .pointer (some ⟨B + 5, 0, none⟩)] W fun e w' => (∃ q : Bool, e = .returned (.bool q) ∧ q = (c || (shapes a b m o).isEmpty) ∧ J w' (L ++ told c (shapes a b m o)) ∧ (q = true → eRow w' B o)) ∧ eEnv w' B a b (.func (.func tf) tF tC) := by
  have hn8 := ha.hi
  intro m
  induction m with
  | zero =>
    intro o L W hcl hl ho he hr hj
    obtain ⟨v, hbx, hown, hne⟩ := hr
    obtain ⟨A, cap, rfl, hcap, hL⟩ := own_open hown
    have hl0 : o.length = a.n := by omega
    have ht := hT W L o A cap hcl hj he.lt hl0 ho hL
    have o0 := hbx.cell 0
    have a0 := he.1.cell 0
    have t0 := he.2.2.1.cell 0
    simp at o0 a0 t0
    rw [← hl0] at a0
    have Ht := Lib.hid ht
    have He := Lib.hid he
    have Hr := Lib.hid (show eRow W B o from ⟨_, hbx, hown, hne⟩)
    have hq : c = (c || (shapes a b 0 o).isEmpty) := by simp [shapes]
    have hs : told c (shapes a b 0 o) = [o] := by cases c <;> rfl
    rw [hs]
    have Hq := Lib.hid hq
    clear ht hbx hown hne hL he hj hT hJ ho hl hl0 hq hs hab ha hb hcl
    go_enter Tryd.func88, Tryd.ntmps88
    go_wp2_with fail
    refine (Ht.out).mono ?_
    rintro e w1 ⟨⟨rfl, hj⟩, hk⟩
    have Hj := Lib.hid hj
    have Hk := Lib.hid hk
    clear hj hk
    go_wp2_with fail
    go_ret
    exact ⟨⟨c, rfl, Hq.out, Hj.out, fun _ => Hr.out.kp Hk.out⟩, He.out.kp Hk.out⟩
  | succ m ih =>
    intro o L W hcl hl ho he hr hj
    have hmiss : o.length < a.n := by omega
    have hcn : ∀ k V A cap, LRow V A (natsI o) → Calls Tryd.prog 89 #[.slice A o.length cap, .int .i64 (k : Nat)] V fun e w' => e = .returned (.bool (o.contains k)) ∧ V = w' := fun k V A cap hL => by
      have h := Contains_calls A (natsI o) cap (k : Nat) V (by rw [natsI_len]; omega) hL
      rw [natsI_len] at h
      have hm : (((k : Nat) : Int) ∈ natsI o) ↔ k ∈ o := by
        simp only [natsI, List.mem_map]
        exact ⟨fun ⟨y, hy, e⟩ => by have : y = k := by omega
                                    exact this ▸ hy, fun h => ⟨k, h, rfl⟩⟩
      rwa [show decide (((k : Nat) : Int) ∈ natsI o) = o.contains k by rw [List.contains_eq_mem]; exact decide_eq_decide.2 hm] at h
    have hpl : ∀ (k : Nat) V A cap, k < a.n → LRow V A (natsI o) → Calls Tryd.prog 90 #[stV (a.n : Int) (bs a.set) (bs a.rel), stV (b.n : Int) (bs b.set) (bs b.rel), .slice A o.length cap, .int .i64 k] V fun e w' => e = .returned (.bool (fitsB a b o k)) ∧ Below V.heap.size V w' := fun k V A cap hk hL => placed_calls a b ha hb hab o ho hmiss k hk A cap V hL
    have hnx : ∀ k, nextB a b o k = (!o.contains k && fitsB a b o k) := fun k => rfl
    have hih : ∀ (k : Nat) L V, (c = true ∨ L = []) → k < a.n → eEnv V B a b (.func (.func tf) tF tC) → eRow V B (o ++ [k]) → J V L → Calls Tryd.prog 88 #[.pointer (some ⟨B + 4, 0, none⟩), .pointer (some ⟨B, 0, none⟩), .pointer (some ⟨B + 2, 0, none⟩), .pointer (some ⟨B + 1, 0, none⟩), .pointer (some ⟨B + 5, 0, none⟩)] V fun e w' => (∃ q : Bool, e = .returned (.bool q) ∧ q = (c || (shapes a b m (o ++ [k])).isEmpty) ∧ J w' (L ++ told c (shapes a b m (o ++ [k]))) ∧ (q = true → eRow w' B (o ++ [k]))) ∧ eEnv w' B a b (.func (.func tf) tF tC) :=
      fun k L V hcl hk he hr hj => ih (o ++ [k]) L V hcl (by simp; omega) (by intro x hx; rcases List.mem_append.1 hx with hx | hx; exact ho x hx; simp at hx; omega) he hr hj
    obtain ⟨v, hbx, hown, hne⟩ := hr
    obtain ⟨A, cap, rfl, hcap, hL⟩ := own_open hown
    have o0 := hbx.cell 0
    have a0 := he.1.cell 0
    simp at o0 a0
    have d0 : ((o.length : Int) == (a.n : Int)) = false := by simp; omega
    have d1 : decide ((o.length : Int) = (a.n : Int)) = false := by simp; omega
    have d2 : ¬ (o.length : Int) = (a.n : Int) := by omega
    have He0 := Lib.hid he
    have Hr0 := Lib.hid (show eRow W B o from ⟨_, hbx, hown, hne⟩)
    have Hj0 := Lib.hid hj
    have HJ := Lib.hid hJ
    have Hcl := Lib.hid hcl
    have Hcn := Lib.hid hcn
    have Hpl := Lib.hid hpl
    have Hnx := Lib.hid hnx
    have Hih := Lib.hid hih
    have Ho := Lib.hid ho
    have eE := enter_each1
    obtain ⟨i0, hi, hz0, hz1, hz2⟩ := info_parts (P := Tryd.prog) (e := 3) (z := .int .i64 0) (size := 1) (bytes := 8) (by kernel_rfl)
    clear hcl hbx hown hne hL he hj hT hJ hcn hpl hnx hih ih ho hab ha hb eT
    clear d2
    go_enter Tryd.func88, Tryd.ntmps88
    go_wp2_with fail
    go_loopg [19] a.n (fun cc i wr => ∃ k : Nat, k + cc = a.n ∧ i = .int .i64 k ∧ J wr (L ++ upTo a b m o k) ∧ (c = true ∨ upTo a b m o k = []) ∧ eEnv wr B a b (.func (.func tf) tF tC) ∧ eRow wr B o)
    case atStart => exact ⟨0, by omega, rfl, by rw [upTo_zero, List.append_nil]; exact Hj0.out, .inr rfl, He0.out, Hr0.out⟩
    case round =>
      clear He0 Hr0 Hj0 o0 a0
      obtain ⟨k, hk, rfl, hj, hcu, he, hr⟩ := hrel
      have Hr := Lib.hid hr
      obtain ⟨v, hbx, hown, hne⟩ := hr
      obtain ⟨A2, cap2, rfl, hcap2, hL⟩ := own_open hown
      have o0 := hbx.cell 0
      obtain ⟨a0, a1, a2⟩ := box_load he.1
      obtain ⟨b0, b1, b2⟩ := box_load he.2.1
      simp at o0
      have He := Lib.hid he
      have Hj := Lib.hid hj
      have Hcu := Lib.hid hcu
      have Hcc := Lib.hid (show c = true ∨ L ++ upTo a b m o k = [] from by rcases Hcl.out with h | h; exact .inl h; rcases hcu with h2 | h2; exact .inl h2; exact .inr (by rw [h, h2]; rfl))
      have Hb := Lib.hid hbx
      have Hw := Lib.hid hown
      have Hne := Lib.hid hne
      have HL := Lib.hid hL
      clear he hj hcu hbx hown hne hL
      by_cases hlt : k < a.n
      · have h1 := Hcn.out k wr A2 cap2 HL.out
        have h2 := fun V hV => Hpl.out k V A2 cap2 hlt (HL.out.call (w' := V) hV)
        cases hc : o.contains k with
        | true =>
          have hup : upTo a b m o (k + 1) = upTo a b m o k := by rw [upTo_succ, Hnx.out, hc]; simp
          have Hup := Lib.hid hup
          rw [hc] at h1
          have H1 := Lib.hid h1
          clear h1 h2 hc hup
          go_wp2_with fail
          refine (H1.out).mono ?_
          rintro e w1 ⟨rfl, rfl⟩
          go_wp2_with fail
          go_roundg (a.n - k - 1)
          case rel => exact ⟨k + 1, by omega, by go_num, by rw [Hup.out]; exact Hj.out, by rw [Hup.out]; exact Hcu.out, He.out, Hr.out⟩
          case measure => omega
        | false =>
          rw [hc] at h1
          have H1 := Lib.hid h1
          clear h1
          cases hf : fitsB a b o k with
          | false =>
            have hup : upTo a b m o (k + 1) = upTo a b m o k := by rw [upTo_succ, Hnx.out, hf]; simp
            have Hup := Lib.hid hup
            rw [hf] at h2
            have H2 := Lib.hid h2
            clear h2 hc hf hup
            go_wp2_with fail
            refine (H1.out).mono ?_
            rintro e w1 ⟨rfl, rfl⟩
            go_wp2_with fail
            refine (H2.out _ (Below.refl _ _)).mono ?_
            rintro e w1 ⟨rfl, hz⟩
            have Hz := Lib.hid hz
            clear hz
            go_wp2_with fail
            go_roundg (a.n - k - 1)
            case rel => exact ⟨k + 1, by omega, by go_num, by rw [Hup.out]; exact HJ.out _ _ _ Hcc.out Hj.out (Hz.out.mono (by have := He.out.lt; omega)), by rw [Hup.out]; exact Hcu.out, He.out.kp (.of_below Hz.out), Hr.out.kp (.of_below Hz.out)⟩
            case measure => omega
          | true =>
            have hup : upTo a b m o (k + 1) = upTo a b m o k ++ shapes a b m (o ++ [k]) := by rw [upTo_succ, Hnx.out, hc, hf]; simp
            have Hup := Lib.hid hup
            have hst := fun h0 hs => told_stop (a := a) (b := b) (m := m) (k := k) (o := o) hlt (by rw [Hnx.out, hc, hf]; rfl) h0 hs
            have Hst := Lib.hid hst
            rw [hf] at h2
            have H2 := Lib.hid h2
            have h4 := fun V => Hih.out k (L ++ upTo a b m o k) V Hcc.out hlt
            have H4 := Lib.hid h4
            clear h2 hc hf hup hst h4
            go_wp2_with fail
            refine (H1.out).mono ?_
            rintro e w1 ⟨rfl, rfl⟩
            go_wp2_with fail
            refine (H2.out _ (Below.refl _ _)).mono ?_
            rintro e w1 ⟨rfl, hz⟩
            have E1 := Lib.hid (He.out.kp (.of_below hz))
            have B1 := Lib.hid (Hb.out.kp (B := B) (.of_below hz) (by omega))
            have W1 := Lib.hid (own_kp (B := B) Hw.out (.of_below hz) (by omega))
            have J1 := Lib.hid (HJ.out _ _ _ Hcc.out Hj.out (hz.mono (by have := He.out.lt; omega)))
            have o1 := B1.out.cell 0
            have hsz := E1.out.lt
            simp at o1
            clear hz o0 a0 a1 a2 b0 b1 b2
            go_wp2_with (at_builtin; refine wpList_append_own_at _ rfl _ _ 30 rfl (B + 3) 3 i0 (.int .i64 0) 1 8 Tryd.underlying30 hi hz0 hz1 hz2 rfl (by decide) _ _ _ rfl (W1.out.alloc _) ⟨w1.heap.size, 0, none⟩ 1 1 [.int .i64 k] rfl rfl (cell_one_new _ _ _) (ints_oneCell .i64 [(k : Int)]) (by unfold maxLen; omega) (by omega) (by simp; omega) ?_; intro v' w2 hown' hgrow hnil hloc; obtain ⟨g2, cap3, rfl⟩ := own_form hown'; have x2 := (B1.out.alloc _).grown hgrow (fun e => (Hne.out _ e.symm).1 rfl); have c2 := x2.cell 0; have f2 := x2.free 0; have x3 := (E1.out.2.2.2.alloc _).grown hgrow (fun e => (Hne.out _ e.symm).2 rfl); have c3 := x3.cell 0; simp at c2 c3; have E3 := Lib.hid (each_put E1.out B1.out W1.out Hne.out hown' hgrow hloc); clear x2 x3 hown' hgrow hnil hloc)
            refine (H4.out _ E3.out.1 E3.out.2.1 (HJ.out _ _ _ Hcc.out J1.out E3.out.2.2)).mono ?_
            rintro e w4 ⟨⟨q, rfl, hq, hj4, hr4⟩, he4⟩
            clear o1 c2 f2 c3
            cases q with
            | true =>
              obtain ⟨g, cap4, hb4, hc4, he5, hr5, hbl⟩ := each_back he4 (hr4 rfl)
              have htl : told c (shapes a b m (o ++ [k])) = shapes a b m (o ++ [k]) := by
                unfold told
                cases c with
                | true => rfl
                | false =>
                  have h : (shapes a b m (o ++ [k])).isEmpty = true := hq.symm
                  rw [List.isEmpty_iff.1 h]; rfl
              have hcu2 : c = true ∨ upTo a b m o (k + 1) = [] := by
                rcases Hcu.out with h | h
                · exact .inl h
                · cases c with
                  | true => exact .inl rfl
                  | false =>
                    have h2 : (shapes a b m (o ++ [k])).isEmpty = true := hq.symm
                    exact .inr (by rw [Hup.out, h, List.isEmpty_iff.1 h2]; rfl)
              rw [htl, List.append_assoc, ← Hup.out] at hj4
              have c4 := hb4.cell 0
              have f4 := hb4.free 0
              simp at c4
              have i1 : (0 : Int) ≤ (o.length : Int) := by omega
              have i2 : (o.length : Int) ≤ (cap4 : Int) := by omega
              have hcc2 : c = true ∨ L ++ upTo a b m o (k + 1) = [] := by rcases Hcl.out with h | h; exact .inl h; rcases hcu2 with h2 | h2; exact .inl h2; exact .inr (by rw [h, h2]; rfl)
              have J4 := Lib.hid (HJ.out _ _ _ hcc2 hj4 hbl)
              have E5 := Lib.hid he5
              have R5 := Lib.hid hr5
              have C5 := Lib.hid hcu2
              clear hq hj4 hr4 he4 hb4 he5 hr5 hbl htl hcu2 hcc2
              go_wp2_with fail
              go_roundg (a.n - k - 1)
              case rel => exact ⟨k + 1, by omega, by go_num, J4.out, C5.out, E5.out, R5.out⟩
              case measure => omega
            | false =>
              have hcf : c = false ∧ (shapes a b m (o ++ [k])).isEmpty = false := by simpa using hq
              obtain ⟨rfl, hse⟩ := hcf
              have h0 : upTo a b m o k = [] := by rcases Hcu.out with h | h; cases h; exact h
              obtain ⟨t1, t2⟩ := Hst.out h0 hse
              rw [h0, List.append_nil, ← t2] at hj4
              have J4 := Lib.hid hj4
              have T1 := Lib.hid t1
              have E4 := Lib.hid he4
              clear hq hj4 hr4 he4 hse h0 t1 t2
              go_wp2_with fail
              go_ret
              exact ⟨⟨false, rfl, by rw [T1.out]; rfl, J4.out, fun h => by cases h⟩, E4.out⟩
      · have hk2 : k = a.n := by omega
        have hfin : J wr (L ++ told c (shapes a b (m + 1) o)) ∧ true = (c || (shapes a b (m + 1) o).isEmpty) := by
          have hj := Hj.out
          have hcu := Hcu.out
          rw [hk2, ← shapes_upTo] at hj hcu
          rcases hcu with rfl | h
          · exact ⟨hj, by simp⟩
          · rw [h] at hj ⊢
            exact ⟨by cases c <;> exact hj, by simp⟩
        have Hfin := Lib.hid hfin
        clear hfin hk2
        go_wp2_with fail
        go_ret
        exact ⟨⟨true, rfl, Hfin.out.2, Hfin.out.1, fun _ => Hr.out⟩, He.out⟩

end Go.Proofs.YteonanaihklgmaaDoor

namespace Go.Proofs.YteonanaihklgmaaDoor
open Go.RowKit
open Pl
set_option linter.unusedSimpArgs false
set_option linter.unusedVariables false

theorem new_at {w : World} {B : Nat} {t : TypeId} {cs : Array Value} (h : w.heap.size = B) : Bx (w.alloc (.cells cs t)) B t cs := h ▸ Bx.new w t cs
theorem each_six (w : World) (ca cb : Array Value) (tv : Value) :
    Bx ((((((w.alloc (.cells ca 27)).alloc (.cells cb 27)).alloc (.cells #[tv] 94)).alloc (.cells #[] 3)).alloc (.cells #[.slice (some ⟨w.heap.size + 1 + 1 + 1, 0, none⟩) 0 0] 30)).alloc (.cells #[.nilFunc] 106)) w.heap.size 27 ca ∧ Bx ((((((w.alloc (.cells ca 27)).alloc (.cells cb 27)).alloc (.cells #[tv] 94)).alloc (.cells #[] 3)).alloc (.cells #[.slice (some ⟨w.heap.size + 1 + 1 + 1, 0, none⟩) 0 0] 30)).alloc (.cells #[.nilFunc] 106)) (w.heap.size + 1) 27 cb ∧ Bx ((((((w.alloc (.cells ca 27)).alloc (.cells cb 27)).alloc (.cells #[tv] 94)).alloc (.cells #[] 3)).alloc (.cells #[.slice (some ⟨w.heap.size + 1 + 1 + 1, 0, none⟩) 0 0] 30)).alloc (.cells #[.nilFunc] 106)) (w.heap.size + 2) 94 #[tv] ∧ Bx ((((((w.alloc (.cells ca 27)).alloc (.cells cb 27)).alloc (.cells #[tv] 94)).alloc (.cells #[] 3)).alloc (.cells #[.slice (some ⟨w.heap.size + 1 + 1 + 1, 0, none⟩) 0 0] 30)).alloc (.cells #[.nilFunc] 106)) (w.heap.size + 3) 3 #[] ∧ Bx ((((((w.alloc (.cells ca 27)).alloc (.cells cb 27)).alloc (.cells #[tv] 94)).alloc (.cells #[] 3)).alloc (.cells #[.slice (some ⟨w.heap.size + 1 + 1 + 1, 0, none⟩) 0 0] 30)).alloc (.cells #[.nilFunc] 106)) (w.heap.size + 4) 30 #[.slice (some ⟨w.heap.size + 3, 0, none⟩) 0 0] ∧ Bx ((((((w.alloc (.cells ca 27)).alloc (.cells cb 27)).alloc (.cells #[tv] 94)).alloc (.cells #[] 3)).alloc (.cells #[.slice (some ⟨w.heap.size + 1 + 1 + 1, 0, none⟩) 0 0] 30)).alloc (.cells #[.nilFunc] 106)) (w.heap.size + 5) 106 #[.nilFunc] ∧ Below w.heap.size w ((((((w.alloc (.cells ca 27)).alloc (.cells cb 27)).alloc (.cells #[tv] 94)).alloc (.cells #[] 3)).alloc (.cells #[.slice (some ⟨w.heap.size + 1 + 1 + 1, 0, none⟩) 0 0] 30)).alloc (.cells #[.nilFunc] 106)) := by
  refine ⟨(((((Bx.new w 27 ca).alloc _).alloc _).alloc _).alloc _).alloc _, ((((new_at (by simp) : Bx _ (w.heap.size + 1) 27 cb).alloc _).alloc _).alloc _).alloc _, (((new_at (by simp) : Bx _ (w.heap.size + 2) 94 #[tv]).alloc _).alloc _).alloc _,
    ((new_at (by simp) : Bx _ (w.heap.size + 3) 3 #[]).alloc _).alloc _, (new_at (by simp) : Bx _ (w.heap.size + 4) 30 #[.slice (some ⟨w.heap.size + 3, 0, none⟩) 0 0]).alloc _, new_at (by simp), ?_⟩
  exact ((((((Below.refl w.heap.size w).alloc (by simp) _).alloc (by simp) _).alloc (by simp; omega) _).alloc (by simp; omega) _).alloc (by simp; omega) _).alloc (by simp; omega) _

set_option maxHeartbeats 4000000 in
set_option maxRecDepth 100000 in
theorem eachShape_calls (a b : St) (ha : a.ok) (hb : b.ok) (hab : a.n = b.n) (c : Bool) (tf : FuncId) (tF tC : Array Value) (w : World)
    (eT : ∀ (args : Array Value) (W : World), (callFunc tf args).run Tryd.prog W = .ok (.enter tf args) W)
    (J : World → List (List Nat) → Prop) (hJ : ∀ W W' L, (c = true ∨ L = []) → J W L → Below w.heap.size W W' → J W' L)
    (hT : ∀ W L (l : List Nat) A cap, (c = true ∨ L = []) → J W L → w.heap.size + 6 ≤ W.heap.size → l.length = a.n → (∀ x ∈ l, x < a.n) → LRow W A (natsI l) → Calls Tryd.prog tf (tF.push (.slice A l.length cap) ++ tC) W fun e w' => (e = .returned (.bool c) ∧ J w' (L ++ [l])) ∧ Kp w.heap.size W w')
    (hj : J w []) :
    Calls Tryd.prog 63 #[stA a, stA b, (.func (.func tf) tF tC)] w fun e w' => e = .returned (.tuple #[]) ∧ J w' (told c (isos a b)) := by
  have h := each1_calls w.heap.size a b ha hb hab c tf tF tC eT J hJ hT a.n [] []
  have hin : ∀ W, eEnv W w.heap.size a b (.func (.func tf) tF tC) → eRow W w.heap.size [] → Below w.heap.size w W → Calls Tryd.prog 88 #[.pointer (some ⟨w.heap.size + 4, 0, none⟩), .pointer (some ⟨w.heap.size, 0, none⟩), .pointer (some ⟨w.heap.size + 2, 0, none⟩), .pointer (some ⟨w.heap.size + 1, 0, none⟩), .pointer (some ⟨w.heap.size + 5, 0, none⟩)] W fun e w' => (∃ q : Bool, e = .returned (.bool q)) ∧ J w' (told c (isos a b)) := fun W he hr hbl =>
    (h W (.inr rfl) (by simp) (by simp) he hr (hJ _ _ _ (.inr rfl) hj hbl)).mono fun e w' ⟨⟨q, h1, _, h3, _⟩, _⟩ => ⟨⟨q, h1⟩, by simpa [isos] using h3⟩
  have Hin := Lib.hid hin
  clear h hin hT hJ hj ha hb hab eT
  have eE := enter_each1
  go_enter Tryd.func63, Tryd.ntmps63
  go_upto_region 3 with (fail)
  have hx := each_six w #[.int .i64 a.n, .string (bs a.set), .string (bs a.rel)] #[.int .i64 b.n, .string (bs b.set), .string (bs b.rel)] (.func (.func tf) tF tC)
  generalize ((((((w.alloc (.cells #[.int .i64 a.n, .string (bs a.set), .string (bs a.rel)] 27)).alloc (.cells #[.int .i64 b.n, .string (bs b.set), .string (bs b.rel)] 27)).alloc (.cells #[(.func (.func tf) tF tC)] 94)).alloc (.cells #[] 3)).alloc (.cells #[.slice (some ⟨w.heap.size + 1 + 1 + 1, 0, none⟩) 0 0] 30)).alloc (.cells #[.nilFunc] 106)) = V at *
  have Hx := Lib.hid hx
  have q0 : V.cell? ⟨w.heap.size + 1 + 1 + 1 + 1 + 1, 0, none⟩ = some .nilFunc := hx.2.2.2.2.2.1.cell 0
  have q1 : V.frozen? ⟨w.heap.size + 1 + 1 + 1 + 1 + 1, 0, none⟩ = false := hx.2.2.2.2.2.1.free 0
  clear hx
  go_wp2_with fail
  obtain ⟨x0, x1, x2, x3, x4, x5, hbl⟩ := Hx.out
  refine (Hin.out _ ?h1 ?h2 ?h3).mono ?_
  case h1 => exact ⟨x0.far (by simp <;> omega) _, x1.far (by simp <;> omega) _, x2.far (by simp <;> omega) _, by simpa using x5.set 0 _⟩
  case h2 => exact ⟨_, x4.far (by simp) _, ⟨by simp [intsV, natsI], .inr ⟨_, 0, #[], rfl, Nat.le_refl _, x3.far (by simp) _, Nat.le_refl _, Nat.zero_le _, rfl, by simp [intsV, natsI]⟩⟩, fun k hk => by injection hk with hk; simp at hk; omega⟩
  case h3 => exact hbl.setCell (by simp <;> omega) _
  rintro e w1 ⟨⟨q, rfl⟩, hj⟩
  have Hj := Lib.hid hj
  clear hj x0 x1 x2 x3 x4 x5 hbl Hx q0 q1
  go_wp2_with fail
  exact bodyPost_end (results_none Tryd.results63 _ _ _) rfl ⟨rfl, Hj.out⟩

end Go.Proofs.YteonanaihklgmaaDoor

namespace Go.Proofs.YteonanaihklgmaaDoor
open Go.RowKit
open Pl
set_option linter.unusedSimpArgs false
set_option linter.unusedVariables false

/-- a counter as the machine has it -/
def cnt : Nat → Int
  | 0 => 0
  | k + 1 => IntKind.i64.wrap (cnt k + 1)
theorem cnt_small : ∀ (k : Nat), k ≤ 1048576 → cnt k = k
  | 0, _ => rfl
  | k + 1, h => by
    show IntKind.i64.wrap (cnt k + 1) = _
    rw [cnt_small k (by omega), IntKind.wrap_i64]
    omega

theorem Kp.setCell {B : Nat} {W : World} {p : Addr} (hp : p.block < B) (u : Value) : Kp B W (W.setCell p u) :=
  ⟨by simp, fun k hk _ => Below.heap_setCell W p u k (by omega)⟩
theorem Kp.refl (B : Nat) (W : World) : Kp B W W := ⟨Nat.le_refl _, fun _ _ _ => rfl⟩

theorem count1_calls (nb : Nat) (k : Nat) (v : Value) (w : World) (hb : Bx w nb 3 #[.int .i64 (cnt k)]) :
    Calls Tryd.prog 64 #[v, .pointer (some ⟨nb, 0, none⟩)] w fun e w' => e = .returned (.bool true) ∧ w' = w.setCell ⟨nb, 0, none⟩ (.int .i64 (cnt (k + 1))) := by
  have q0 : w.cell? ⟨nb, 0, none⟩ = some (.int .i64 (cnt k)) := hb.cell 0
  have q1 := hb.free 0
  obtain ⟨N, hN⟩ : ∃ N, N = cnt (k + 1) := ⟨_, rfl⟩
  have hw : IntKind.i64.wrap (cnt k + 1) = N := hN.symm
  rw [← hN]
  clear hN hb
  go_enter Tryd.func64, Tryd.ntmps64
  go_wp2_with fail
  go_ret
  exact ⟨rfl, rfl⟩

theorem enter_count1 : ∀ (args : Array Value) (w : World), (callFunc 64 args).run Tryd.prog w = .ok (.enter 64 args) w := enter_of Tryd.func64 (by kernel_rfl) (by kernel_rfl)

theorem fact_le : ∀ n, n ≤ 8 → fact n ≤ 40320
  | 0, _ => by decide
  | 1, _ => by decide
  | 2, _ => by decide
  | 3, _ => by decide
  | 4, _ => by decide
  | 5, _ => by decide
  | 6, _ => by decide
  | 7, _ => by decide
  | 8, _ => by decide
theorem fact_pos : ∀ n, 0 < fact n
  | 0 => by decide
  | n + 1 => Nat.mul_pos (Nat.succ_pos n) (fact_pos n)
theorem isos_le {a : St} (ha : a.ok) : (isos a a).length ≤ 40320 := by
  have h := Nat.le_of_dvd (by have := fact_pos a.n; omega) (count_dvd_fact a)
  have := fact_le a.n ha.hi
  omega

/-- the number of symmetries -/
def symV (i : Int) (s r : ByteArray) : Int := if okB i s r then ((isos (ofSt i s r) (ofSt i s r)).length : Int) else -1
theorem symV_no {i : Int} {s r : ByteArray} (h : okB i s r = false) : symV i s r = -1 := by unfold symV; rw [h]; rfl

set_option maxHeartbeats 1000000 in
theorem CountSymmetries_impl (i : Int) (s r : ByteArray) (w : World) (hs : s.size ≤ maxLen) (hr : r.size ≤ maxLen) :
    Calls Tryd.prog 30 #[stV i s r] w fun e w' => e = .returned (.int .i64 (symV i s r)) ∧ Below w.heap.size w w' := by
  have hc : ∀ W, Calls Tryd.prog 39 #[stV i s r] W fun e w' => e = .returned (.bool (okB i s r)) ∧ Below W.heap.size W w' := fun W => isStructure_calls i s r W hs hr
  cases hok : okB i s r with
  | false =>
    rw [symV_no hok]
    rw [hok] at hc
    have Hc := Lib.hid hc
    clear hc hs hr hok
    go_enter Tryd.func30, Tryd.ntmps30
    go_wp2_with fail
    refine (Hc.out _).mono ?_
    rintro e w1 ⟨rfl, hz⟩
    have HB := Lib.hid (box_next (box_refl w _) hz)
    clear hz
    go_wp2_with fail
    go_ret
    exact ⟨rfl, box_down HB.out⟩
  | true =>
    rcases ok_cases i s r with h | ⟨a, ha, rfl, rfl, rfl⟩
    · rw [h] at hok; cases hok
    have hv : symV a.n (bs a.set) (bs a.rel) = cnt (isos a a).length := by
      rw [cnt_small _ (by have := isos_le ha; omega)]
      unfold symV
      rw [hok, ofSt_eq]
      rfl
    rw [hv]
    rw [hok] at hc
    have hes : ∀ (nb : Nat) (W : World), nb < W.heap.size → w.heap.size ≤ nb → Bx W nb 3 #[.int .i64 0] → Below w.heap.size w W → Calls Tryd.prog 63 #[stA a, stA a, .func (.func 64) #[] #[.pointer (some ⟨nb, 0, none⟩)]] W fun e w' => e = .returned (.tuple #[]) ∧ (Bx w' nb 3 #[.int .i64 (cnt (isos a a).length)] ∧ Below w.heap.size w w') := by
      intro nb W hnb hwn hbx hbl
      exact eachShape_calls a a ha ha rfl true 64 #[] #[.pointer (some ⟨nb, 0, none⟩)] W enter_count1 (fun V L => Bx V nb 3 #[.int .i64 (cnt L.length)] ∧ Below w.heap.size w V)
        (fun V V' L _ h hb => ⟨h.1.below hb hnb, h.2.trans (hb.mono (by omega))⟩)
        (fun V L l A cap _ h _ _ _ _ => (count1_calls nb L.length _ V h.1).mono fun e w' ⟨h1, h2⟩ => ⟨⟨h1, by
          rw [h2, List.length_append, List.length_singleton]
          exact ⟨by simpa using h.1.set 0 _, h.2.setCell hwn _⟩⟩, by rw [h2]; exact Kp.setCell hnb _⟩)
        ⟨hbx, hbl⟩
    have Hc := Lib.hid hc
    have Hes := Lib.hid hes
    clear hc hes hs hr hok hv ha
    go_enter Tryd.func30, Tryd.ntmps30
    go_wp2_with fail
    refine (Hc.out _).mono ?_
    rintro e w1 ⟨rfl, hz⟩
    have HB := Lib.hid (box_next (box_refl w _) hz)
    clear hz
    have HB2 := Lib.hid (HB.out.alloc (by have := HB.out.size; simpa using this) (.cells #[.int .i64 0] 3))
    obtain ⟨k0, k1, k2⟩ := box3 HB2.out
    go_wp2_with fail
    refine (Hes.out w1.heap.size _ ?h1 ?h2 ?h3 ?h4).mono ?_
    case h1 => simp
    case h2 => have := (box_down HB.out).size; exact this
    case h3 => exact Bx.new w1 _ _
    case h4 => exact (box_down HB.out).alloc (box_down HB.out).size _
    rintro e w2 ⟨rfl, hx, hbl⟩
    have q0 : w2.cell? ⟨w1.heap.size, 0, none⟩ = some (.int .i64 (cnt (isos a a).length)) := hx.cell 0
    have Hbl := Lib.hid hbl
    clear hx hbl k0 k1 k2
    go_wp2_with fail
    go_ret
    exact ⟨rfl, Hbl.out⟩

end Go.Proofs.YteonanaihklgmaaDoor

namespace Go.Proofs.YteonanaihklgmaaDoor
open Go.RowKit
open Pl
set_option linter.unusedSimpArgs false
set_option linter.unusedVariables false

/-- a number, and some list -/
def NumL (n : Nat) (e : Ending) : Prop := ∃ F k cap, e = .returned (.tuple #[.int .i64 (n : Nat), .slice F k cap])

end Go.Proofs.YteonanaihklgmaaDoor

namespace Go.Proofs.YteonanaihklgmaaDoor
open Go.RowKit
open Pl
set_option linter.unusedSimpArgs false
set_option linter.unusedVariables false

/-- the first of some lists, and whether there is one -/
def FstL (L : List (List Nat)) (e : Ending) (w' : World) : Prop := ∃ g cap, e = .returned (.tuple #[.slice (some ⟨g, 0, none⟩) (L.headD []).length cap, .bool (!L.isEmpty)]) ∧ LRow w' (some ⟨g, 0, none⟩) (natsI (L.headD []))

theorem fst_stop {a b : St} {m k : Nat} {o : List Nat} (hk : k < a.n) (hn : nextB a b o k = true) (h0 : upTo a b m o k = []) (hs : (shapes a b m (o ++ [k])).isEmpty = false) :
    (shapes a b (m + 1) o).isEmpty = false ∧ (shapes a b (m + 1) o).headD [] = (shapes a b m (o ++ [k])).headD [] := by
  obtain ⟨h1, h2⟩ := told_stop hk hn h0 hs
  refine ⟨h1, ?_⟩
  generalize shapes a b (m + 1) o = L at *
  generalize shapes a b m (o ++ [k]) = M at *
  cases L with
  | nil => cases h1
  | cons x L =>
    cases M with
    | nil => cases hs
    | cons y M => simp [told] at h2; exact h2

end Go.Proofs.YteonanaihklgmaaDoor

namespace Go.Proofs.YteonanaihklgmaaDoor
open Go.RowKit
open Pl
set_option linter.unusedSimpArgs false
set_option linter.unusedVariables false

/-- some elements can be a part -/
def partB (i : Int) (s r : ByteArray) (zs : List Int) : Bool := okB i s r && (decide (0 < zs.length) && (elAll i zs && nodB zs))
def partO (i : Int) (s r : ByteArray) (zs : List Int) : Option St := if partB i s r zs then some ((ofSt i s r).part (zs.map Int.toNat)) else none
def moveO (i : Int) (s r : ByteArray) (zs : List Int) : Option St := if (zs.length : Int) = i then partO i s r zs else none

theorem nats_of {n : Nat} {zs : List Int} (h : elAll n zs = true) (h2 : nodB zs = true) : ∃ ns : List Nat, zs = natsI ns ∧ (∀ x ∈ ns, x < n) ∧ ns.Nodup ∧ ns.length ≤ n ∧ zs.map Int.toNat = ns := by
  have hel : ∀ z ∈ zs, 0 ≤ z ∧ z < n := fun z hz => by
    have := List.all_eq_true.1 h z hz
    unfold elB at this
    simpa using this
  have hnd : zs.Nodup := of_decide_eq_true h2
  have hz : zs = natsI (zs.map Int.toNat) := by
    unfold natsI
    rw [List.map_map]
    conv => lhs; rw [← List.map_id zs]
    apply List.map_congr_left
    intro z hzm
    have := hel z hzm
    simp only [Function.comp, id]; omega
  have hlt : ∀ x ∈ zs.map Int.toNat, x < n := fun x hx => by
    obtain ⟨z, hzm, rfl⟩ := List.mem_map.1 hx
    have := hel z hzm; omega
  have hnd2 : (zs.map Int.toNat).Nodup := map_nodup zs hnd fun x hx y hy e => by
    have := hel x hx; have := hel y hy; omega
  refine ⟨zs.map Int.toNat, hz, hlt, hnd2, ?_, rfl⟩
  have := nodup_len_le (zs.map Int.toNat) (List.range n) hnd2 (fun x hx => List.mem_range.2 (hlt x hx))
  simpa using this

theorem part_no {i : Int} {s r : ByteArray} {zs : List Int} (h : partB i s r zs = false) : partO i s r zs = none := by unfold partO; rw [h]; rfl
theorem part_yes {a : St} {zs : List Int} (h : partB a.n (bs a.set) (bs a.rel) zs = true) : partO a.n (bs a.set) (bs a.rel) zs = some (a.part (zs.map Int.toNat)) := by unfold partO; rw [h]; rfl

end Go.Proofs.YteonanaihklgmaaDoor

namespace Go.Proofs.YteonanaihklgmaaDoor
open Go.RowKit
open Pl
set_option linter.unusedSimpArgs false
set_option linter.unusedVariables false

theorem quiet_left' {P : Program} {f : FuncId} {args : Array Value} {w : World} {n : Nat} {v : Value}
    (h : Calls P f args (w.drewN n) fun e w' => e = .returned v ∧ w.drewN n = w') : Calls P f args (w.drewN n) fun e w'' => e = .returned v ∧ ∃ m, w'' = w.drewN m :=
  h.mono fun _ _ ⟨he, hm⟩ => ⟨he, n, hm.symm⟩

theorem ok_range {i : Int} {s r : ByteArray} (h : okB i s r = true) : 1 ≤ i ∧ i ≤ 8 := by
  unfold okB at h
  simp only [Bool.and_eq_true, decide_eq_true_eq] at h
  exact ⟨h.1, h.2.1⟩

theorem wrap_pred {i : Int} (h1 : 1 ≤ i) (h8 : i ≤ 8) : IntKind.i64.wrap (i - 1) = i - 1 := IntWalk.i64_in _ (by omega)

theorem elB_in {i z : Int} (h1 : 1 ≤ i) (h8 : i ≤ 8) : (decide (0 ≤ z) && decide (z ≤ IntKind.i64.wrap (i - 1))) = elB i z := by
  rw [wrap_pred h1 h8]
  unfold elB
  congr 1
  rw [decide_eq_decide]; omega

theorem partB_out {i : Int} {s r : ByteArray} {zs : List Int} {z : Int} (hz : z ∈ zs) (h : (decide (0 ≤ z) && decide (z ≤ IntKind.i64.wrap (i - 1))) = false) : partB i s r zs = false := by
  unfold partB
  cases hok : okB i s r with
  | false => rfl
  | true =>
    obtain ⟨h1, h8⟩ := ok_range hok
    rw [elB_in h1 h8] at h
    have : elAll i zs = false := by
      rw [Bool.eq_false_iff]; intro e
      have := List.all_eq_true.1 e z hz
      rw [h] at this; cases this
    rw [this]; simp

theorem partB_dup {i : Int} {s r : ByteArray} {zs : List Int} (h : ¬ zs.Nodup) : partB i s r zs = false := by
  unfold partB nodB
  rw [decide_eq_false h]; simp

theorem partB_end {i : Int} {s r : ByteArray} {zs : List Int} (h : ∀ z ∈ zs, (decide (0 ≤ z) && decide (z ≤ IntKind.i64.wrap (i - 1))) = true) (h2 : zs.Nodup) : partB i s r zs = (okB i s r && decide (0 < zs.length)) := by
  unfold partB nodB
  cases hok : okB i s r with
  | false => rfl
  | true =>
    obtain ⟨h1, h8⟩ := ok_range hok
    have : elAll i zs = true := List.all_eq_true.2 fun z hz => by rw [← elB_in h1 h8]; exact h z hz
    rw [this, decide_eq_true h2]; simp

end Go.Proofs.YteonanaihklgmaaDoor

namespace Go.Proofs.YteonanaihklgmaaDoor
open Go.RowKit
open Pl
set_option linter.unusedSimpArgs false
set_option linter.unusedVariables false
attribute [local go_sem ↓] Go.wp_at_zero Go.wp_at_succ

/-- what the reference asks of a pair -/
def fitS (a b : St) (o : List Nat) (x k : Nat) : Bool :=
  decide ((o ++ [x]).getD k 0 = x) == decide (k = o.length) && a.inR ((o ++ [x]).getD k 0) x == b.inR k o.length && a.inR x ((o ++ [x]).getD k 0) == b.inR o.length k

theorem nextB_eq (a b : St) (o : List Nat) (x : Nat) : nextB a b o x = (a.inS x == b.inS o.length && (List.range (o.length + 1)).all (fitS a b o x)) := by
  rw [Bool.eq_iff_iff]
  unfold nextB fitsB fitS
  simp only [Bool.and_eq_true, Bool.not_eq_true', List.contains_eq_mem, decide_eq_false_iff_not, beq_iff_eq, List.all_eq_true, List.mem_range]
  constructor
  · rintro ⟨hc, ⟨h1, h2⟩, h3⟩
    refine ⟨h1, fun k hk => ?_⟩
    by_cases e : k = o.length
    · subst e
      rw [getD_snoc_eq]
      simp [h2]
    · have hk2 : k < o.length := by omega
      rw [getD_snoc_lt hk2]
      obtain ⟨h4, h5⟩ := h3 k hk2
      refine ⟨⟨?_, h5⟩, h4⟩
      rw [decide_eq_false e, decide_eq_false_iff_not]
      intro h
      apply hc
      rw [← h, List.getD_eq_getElem?_getD, List.getElem?_eq_getElem hk2]
      exact List.getElem_mem hk2
  · rintro ⟨h1, h⟩
    refine ⟨fun hc => ?_, ⟨h1, ?_⟩, fun k hk => ?_⟩
    · obtain ⟨k, hk, he⟩ := List.getElem_of_mem hc
      have h2 := (h k (by omega)).1.1
      rw [getD_snoc_lt hk, List.getD_eq_getElem?_getD, List.getElem?_eq_getElem hk, Option.getD_some, he, decide_eq_false (show ¬ k = o.length by omega)] at h2
      simp at h2
    · have h2 := (h o.length (by omega)).2
      rwa [getD_snoc_eq] at h2
    · have h2 := h k (by omega)
      rw [getD_snoc_lt hk] at h2
      exact ⟨h2.2, h2.1.2⟩

end Go.Proofs.YteonanaihklgmaaDoor

namespace Go.Proofs.YteonanaihklgmaaDoor
open Go.RowKit
open Pl
set_option linter.unusedSimpArgs false
set_option linter.unusedVariables false

theorem own_form' {w : World} {base n : Nat} {e : TypeId} {v : Value} {xs : List Value} (h : w.ownsRow base e 1 v n xs) (hn : 0 < n) : ∃ g cap, v = .slice (some ⟨g, 0, none⟩) n cap := by
  obtain ⟨_, ⟨_, h0⟩ | ⟨g, cap, _, hv, _⟩⟩ := h
  · omega
  · exact ⟨g, cap, hv⟩

/-- what the closure leaves -/
def SameP (w : World) (nb : Nat) (l : List Nat) (w' : World) : Prop := (∃ v, Bx w' nb 30 #[v] ∧ w'.ownsRow w.heap.size 3 1 v l.length (intsV (natsI l))) ∧ Below nb w w' ∧ ∀ B, nb < B → B ≤ w.heap.size → Kp B w w'

/-- the orders that turn one structure into the other -/
def shpL (i : Int) (s r : ByteArray) (j : Int) (t u : ByteArray) : List (List Nat) := if okB i s r && (okB j t u && decide (i = j)) then isos (ofSt i s r) (ofSt j t u) else []

theorem shp_cases (i : Int) (s r : ByteArray) (j : Int) (t u : ByteArray) : (okB i s r = false ∧ shpL i s r j t u = []) ∨ (okB i s r = true ∧ okB j t u = false ∧ shpL i s r j t u = []) ∨ (okB i s r = true ∧ okB j t u = true ∧ i ≠ j ∧ shpL i s r j t u = []) ∨
    ∃ a b : St, a.ok ∧ b.ok ∧ a.n = b.n ∧ i = a.n ∧ s = bs a.set ∧ r = bs a.rel ∧ j = b.n ∧ t = bs b.set ∧ u = bs b.rel ∧ shpL i s r j t u = isos a b := by
  rcases ok_cases i s r with h1 | ⟨a, ha, rfl, rfl, rfl⟩
  · exact .inl ⟨h1, by unfold shpL; rw [h1]; rfl⟩
  · have h1 := okB_true ha
    rcases ok_cases j t u with h2 | ⟨b, hb, rfl, rfl, rfl⟩
    · exact .inr (.inl ⟨h1, h2, by unfold shpL; rw [h1, h2]; rfl⟩)
    · have h2 := okB_true hb
      by_cases hab : a.n = b.n
      · exact .inr (.inr (.inr ⟨a, b, ha, hb, hab, rfl, rfl, rfl, rfl, rfl, rfl, by unfold shpL; rw [h1, h2, decide_eq_true (by omega)]; rfl⟩))
      · exact .inr (.inr (.inl ⟨h1, h2, by omega, by unfold shpL; rw [h1, h2, decide_eq_false (by omega)]; rfl⟩))

/-- a fresh list, the first of some -/
def ImpL (w : World) (L : List (List Nat)) (e : Ending) (w' : World) : Prop := ∃ v, e = .returned (.tuple #[v, .bool (!L.isEmpty)]) ∧ w'.ownsRow w.heap.size 3 1 v (L.headD []).length (intsV (natsI (L.headD [])))

/-- what lies in the variable -/
def FoundJ (w : World) (nb : Nat) (L : List (List Nat)) (V : World) : Prop := (∃ v, Bx V nb 30 #[v] ∧ (L = [] → v = .slice none 0 0) ∧ (∀ l, L = [l] → 0 < l.length ∧ V.ownsRow w.heap.size 3 1 v l.length (intsV (natsI l)))) ∧ Below w.heap.size w V

end Go.Proofs.YteonanaihklgmaaDoor

namespace Go.Proofs.YteonanaihklgmaaDoor
open Go.RowKit
open Pl
set_option linter.unusedSimpArgs false
set_option linter.unusedVariables false

/-- the elements below k that are marked -/
def rk (f : Nat → Bool) (k : Nat) : List Nat := (List.range k).filter f
theorem rk_succ (f : Nat → Bool) (k : Nat) : rk f (k + 1) = if f k then rk f k ++ [k] else rk f k := by
  unfold rk
  rw [List.range_succ, List.filter_append]
  cases h : f k <;> simp [h]
theorem rk_len (f : Nat → Bool) (k : Nat) : (rk f k).length ≤ k := by
  have := List.length_filter_le f (List.range k)
  simpa [rk] using this

theorem own_openZ {W : World} {base : Nat} {v : Value} {zs : List Int} (h : W.ownsRow base 3 1 v zs.length (intsV zs)) : ∃ A cap, v = .slice A zs.length cap ∧ zs.length ≤ cap ∧ LRow W A zs := by
  have h0 := h
  rcases h.2 with ⟨rfl, hn⟩ | ⟨g, cap, cur, rfl, _, _, hc, _⟩
  · exact ⟨none, 0, by rw [hn], by omega, fun hl => by omega⟩
  · exact ⟨some ⟨g, 0, none⟩, cap, rfl, hc, LRow_of h0⟩
theorem own_call {W W' : World} {base n : Nat} {e : TypeId} {v : Value} {xs : List Value} (h : W.ownsRow base e 1 v n xs) (hb : Below W.heap.size W W') : W'.ownsRow base e 1 v n xs := by
  obtain ⟨h1, h2⟩ := h
  refine ⟨h1, ?_⟩
  rcases h2 with h2 | ⟨g, c, cur, hv, hg, hh, hr⟩
  · exact .inl h2
  · exact .inr ⟨g, c, cur, hv, hg, (hb.block g (Array.getElem?_eq_some_iff.1 hh).1).trans hh, hr⟩
theorem own_others {W W' : World} {base n : Nat} {e : TypeId} {v : Value} {xs : List Value} {row : Option Nat} (h : W.ownsRow base e 1 v n xs) (hg : W.grownBy W' row) (hne : v.ownBlock ≠ row ∨ v.ownBlock = none) : W'.ownsRow base e 1 v n xs := by
  obtain ⟨h1, h2⟩ := h
  refine ⟨h1, ?_⟩
  rcases h2 with h2 | ⟨g, c, cur, hv, hb, hh, hr⟩
  · exact .inl h2
  · refine .inr ⟨g, c, cur, hv, hb, (hg.block g (Array.getElem?_eq_some_iff.1 hh).1 (fun e => ?_)).trans hh, hr⟩
    rcases hne with hne | hne
    · exact hne (by rw [hv]; exact e)
    · rw [hv] at hne; cases hne
/-- two lists do not share a block -/
def Apart (v u : Value) : Prop := v.ownBlock ≠ u.ownBlock ∨ v.ownBlock = none
theorem Apart.next {W : World} {base n H : Nat} {e : TypeId} {v u u' : Value} {xs : List Value} (h : Apart v u) (ho : W.ownsRow base e 1 v n xs) (hH : W.heap.size ≤ H) (hat : u'.ownBlock = u.ownBlock ∨ u'.ownBlock = some H) : Apart v u' := by
  rcases h with h | h
  · rcases hat with hat | hat
    · exact .inl (by rw [hat]; exact h)
    · refine .inl fun e => ?_
      rw [hat] at e
      have := (ho.lt _ e).2
      omega
  · exact .inr h
theorem Apart.symm {v u : Value} (h : Apart v u) : Apart u v := by
  cases hu : u.ownBlock with
  | none => exact .inr hu
  | some g =>
    rcases h with h | h
    · exact .inl (Ne.symm h)
    · exact .inl (by rw [h, hu]; simp)
theorem Apart.new {W W' : World} {base base' n n' : Nat} {e : TypeId} {v u : Value} {xs ys : List Value} (hv : W.ownsRow base e 1 v n xs) (hu : W'.ownsRow base' e 1 u n' ys) (hb : W.heap.size ≤ base') : Apart v u := by
  cases h : v.ownBlock with
  | none => exact .inr h
  | some g =>
    refine .inl fun e => ?_
    have h1 := (hv.lt g h).2
    have h2 := (hu.lt g (by rw [← e, h])).1
    omega
theorem natsI_snoc (l : List Nat) (k : Nat) : intsV (natsI (l ++ [k])) = intsV (natsI l) ++ [.int .i64 (k : Nat)] := by simp [intsV, natsI]
theorem intsV_snoc (l : List Int) (k : Int) : intsV (l ++ [k]) = intsV l ++ [.int .i64 k] := by simp [intsV]
theorem mod_at {n m : Nat} : (n : Int).tmod (m : Int) = ((n % m : Nat) : Int) := by rw [Int.ofNat_tmod]

theorem own_cells {W : World} {base n : Nat} {e : TypeId} {v : Value} {xs : List Value} (h : W.ownsRow base e 1 v n xs) {k : Nat} (hk : v.ownBlock = some k) : ∃ c t, W.heap[k]? = some (.cells c t (0, 0)) := by
  rcases h.2 with ⟨rfl, _⟩ | ⟨g, cap, cur, rfl, _, hh, _⟩
  · simp [Value.ownBlock] at hk
  · simp [Value.ownBlock] at hk
    subst hk
    exact ⟨cur, e, hh⟩
theorem own_base {W : World} {base base' n : Nat} {e : TypeId} {v : Value} {xs : List Value} (h : W.ownsRow base e 1 v n xs) (hb : base' ≤ base) : W.ownsRow base' e 1 v n xs :=
  ⟨h.1, h.2.imp (fun h => h) fun ⟨g, c, cur, h1, h2, h3⟩ => ⟨g, c, cur, h1, Nat.le_trans hb h2, h3⟩⟩
/-- lists of things of other types do not share a block -/
theorem Apart.types {W : World} {base base' n n' : Nat} {e e' : TypeId} {v u : Value} {xs ys : List Value} (hv : W.ownsRow base e 1 v n xs) (hu : W.ownsRow base' e' 1 u n' ys) (he : e ≠ e') : Apart v u := by
  cases h : v.ownBlock with
  | none => exact .inr h
  | some g =>
    refine .inl fun e2 => ?_
    rcases hv.2 with ⟨rfl, _⟩ | ⟨g1, c1, cur1, rfl, _, h1, _⟩
    · simp [Value.ownBlock] at h
    · rcases hu.2 with ⟨rfl, _⟩ | ⟨g2, c2, cur2, rfl, _, h2, _⟩
      · simp [Value.ownBlock] at e2
      · simp [Value.ownBlock] at e2
        subst e2
        rw [h1] at h2
        injection h2 with h2
        injection h2 with _ h2 _
        exact he h2
theorem own_zeroO (w : World) {t : TypeId} : (w.alloc (.cells #[] t)).ownsRow w.heap.size t 1 (.slice (some ⟨w.heap.size, 0, none⟩) 0 0) 0 [] :=
  ⟨rfl, .inr ⟨_, 0, #[], rfl, Nat.le_refl _, Bx.new w _ _, Nat.le_refl _, Nat.zero_le _, rfl, rfl⟩⟩

end Go.Proofs.YteonanaihklgmaaDoor

namespace Go.Proofs.YteonanaihklgmaaDoor
open Go.RowKit
open Pl
set_option linter.unusedSimpArgs false
set_option linter.unusedVariables false
attribute [local go_sem ↓] Go.wp_at_zero Go.wp_at_succ

/-- the elements that some orders put in the place of x -/
def inL (x : Nat) (L : List (List Nat)) (y : Nat) : Bool := L.any fun l => app l x == y
def boolsV (n : Nat) (f : Nat → Bool) : List Value := (List.range n).map fun y => .bool (f y)
theorem boolsV_len (n : Nat) (f : Nat → Bool) : (boolsV n f).length = n := by simp [boolsV]
theorem boolsV_get {n : Nat} {f : Nat → Bool} {k : Nat} (h : k < n) : (boolsV n f)[k]? = some (.bool (f k)) := by simp [boolsV, h]
theorem boolsV_set (n x : Nat) (L : List (List Nat)) (l : List Nat) : (boolsV n (inL x L)).set (app l x) (.bool true) = boolsV n (inL x (L ++ [l])) := by
  apply List.ext_getElem?
  intro k
  by_cases hk : k < n
  · rw [boolsV_get hk]
    by_cases e : app l x = k
    · subst e
      rw [List.getElem?_set_self (by rw [boolsV_len]; exact hk)]
      simp [inL]
    · rw [List.getElem?_set_ne e, boolsV_get hk]
      simp [inL, e]
  · rw [List.getElem?_eq_none (by rw [List.length_set, boolsV_len]; omega), List.getElem?_eq_none (by rw [boolsV_len]; omega)]

theorem Kp.trans {B : Nat} {a b c : World} (h : Kp B a b) (k : Kp B b c) : Kp B a c := ⟨Nat.le_trans h.size k.size, fun j h1 h2 => (k.block j h1 (Nat.lt_of_lt_of_le h2 h.size)).trans (h.block j h1 h2)⟩
theorem own_below {W W' : World} {B base n g cap : Nat} {e : TypeId} {xs : List Value} (h : W.ownsRow base e 1 (.slice (some ⟨g, 0, none⟩) n cap) n xs) (hb : Below B W W') (hg : g < B) : W'.ownsRow base e 1 (.slice (some ⟨g, 0, none⟩) n cap) n xs := by
  obtain ⟨h1, ⟨h2, _⟩ | ⟨g', c', cur, hv, h3, h4, h5⟩⟩ := h
  · cases h2
  · have hv2 := hv
    injection hv2 with h6 _ _
    injection h6 with h6
    injection h6 with h6 _
    subst h6
    exact ⟨h1, .inr ⟨g, c', cur, hv, h3, (hb.block g hg).trans h4, h5⟩⟩

set_option maxHeartbeats 1000000 in
set_option maxRecDepth 100000 in
theorem orb1_calls (base nb gb xb n c x : Nat) (L : List (List Nat)) (l : List Nat) (A : Option Addr) (cap : Nat) (w : World) (hb : Bx w nb 118 #[.slice (some ⟨gb, 0, none⟩) n c]) (hx : Bx w xb 3 #[.int .i64 (x : Nat)])
    (ho : w.ownsRow base 4 1 (.slice (some ⟨gb, 0, none⟩) n c) n (boolsV n (inL x L))) (hA : LRow w A (natsI l)) (hl : l.length = n) (hxn : x < n) (hn : n ≤ 8) (hlt : ∀ y ∈ l, y < n) :
    Calls Tryd.prog 87 #[.slice A l.length cap, .pointer (some ⟨nb, 0, none⟩), .pointer (some ⟨xb, 0, none⟩)] w fun e w' => e = .returned (.bool true) ∧ w' = w.drew.setCell ⟨gb, app l x, none⟩ (.bool true) := by
  obtain ⟨g, rfl, hc⟩ := hA.nats (k := x) (by omega)
  rw [hl]
  have hy : app l x < n := hlt _ (app_mem (by omega))
  have hc2 : w.cell? ⟨g, x, none⟩ = some (.int .i64 (app l x : Nat)) := hc
  obtain ⟨y, hyy⟩ : ∃ y, y = app l x := ⟨_, rfl⟩
  rw [← hyy] at hy hc2 ⊢
  have o0 := hb.cell 0
  have x0 := hx.cell 0
  simp at o0 x0
  have i1 : (0 : Int) ≤ (x : Int) := by omega
  have i2 : (x : Int) < (n : Int) := by omega
  have i3 : (0 : Int) ≤ (y : Int) := by omega
  have i4 : (y : Int) < (n : Int) := by omega
  have y0 : w.cell? ⟨gb, y, none⟩ = some (.bool (inL x L y)) := by
    have h := ho.cellAt y (by omega)
    rw [boolsV_get hy] at h
    exact h
  have y1 : w.frozen? ⟨gb, y, none⟩ = false := ho.frozenAt y
  generalize inL x L y = q at y0
  clear hb hx ho hA hc hlt hyy hl hxn
  go_enter Tryd.func87, Tryd.ntmps87
  go_upto_region 1 with (fail)
  go_still_tail 6, (by kernel_rfl)
  change wpList _ _ _ _ _ w.drew
  have y0' : w.drew.cell? ⟨gb, y, none⟩ = some (.bool q) := y0
  have y1' : w.drew.frozen? ⟨gb, y, none⟩ = false := y1
  clear o0 x0 hc2 y0 y1
  generalize hw2 : w.drew = w2 at *
  have Hw2 := Lib.hid hw2
  clear hw2
  go_wp2_with fail
  go_ret
  exact ⟨rfl, by rw [Hw2.out]⟩

theorem enter_orb1 : ∀ (args : Array Value) (w : World), (callFunc 87 args).run Tryd.prog w = .ok (.enter 87 args) w := enter_of Tryd.func87 (by kernel_rfl) (by kernel_rfl)

/-- what lies in memory while the orders are told -/
def OrbJ (w : World) (base gb nb xb n x : Nat) (L : List (List Nat)) (V : World) : Prop := (V.ownsRow base 4 1 (.slice (some ⟨gb, 0, none⟩) n n) n (boolsV n (inL x L)) ∧ Bx V nb 118 #[.slice (some ⟨gb, 0, none⟩) n n] ∧ Bx V xb 3 #[.int .i64 (x : Nat)]) ∧ Below w.heap.size w V

set_option maxHeartbeats 4000000 in
set_option maxRecDepth 100000 in
theorem orbitOf_calls (a : St) (ha : a.ok) (x : Nat) (hx : x < a.n) (w : World) :
    Calls Tryd.prog 62 #[stA a, .int .i64 (x : Nat)] w fun e w' => (∃ v, e = .returned v ∧ w'.ownsRow w.heap.size 3 1 v (orbL a.n (isos a a) x).length (intsV (natsI (orbL a.n (isos a a) x)))) ∧ Below w.heap.size w w' := by
  have hn1 := ha.lo
  have hn8 := ha.hi
  obtain ⟨i0, hi, hz0, hz1, hz2⟩ := info_parts (P := Tryd.prog) (e := 3) (z := .int .i64 0) (size := 1) (bytes := 8) (by kernel_rfl)
  obtain ⟨i1, hj, hy0, hy1, hy2⟩ := info_parts (P := Tryd.prog) (e := 4) (z := .bool false) (size := 1) (bytes := 1) (by kernel_rfl)
  have hes : ∀ (gb nb xb : Nat) (W : World), gb < W.heap.size → nb < W.heap.size → xb < W.heap.size → w.heap.size ≤ gb → OrbJ w w.heap.size gb nb xb a.n x [] W →
      Calls Tryd.prog 63 #[stV (a.n : Int) (bs a.set) (bs a.rel), stV (a.n : Int) (bs a.set) (bs a.rel), .func (.func 87) #[] #[.pointer (some ⟨nb, 0, none⟩), .pointer (some ⟨xb, 0, none⟩)]] W fun e w' => e = .returned (.tuple #[]) ∧ OrbJ w w.heap.size gb nb xb a.n x (isos a a) w' := by
    intro gb nb xb W hg hnb hxb hwg hj0
    refine eachShape_calls a a ha ha rfl true 87 #[] #[.pointer (some ⟨nb, 0, none⟩), .pointer (some ⟨xb, 0, none⟩)] W enter_orb1 (fun V L => OrbJ w w.heap.size gb nb xb a.n x L V)
      (fun V V' L _ h hb => ⟨⟨own_below h.1.1 hb hg, h.1.2.1.below hb hnb, h.1.2.2.below hb hxb⟩, h.2.trans (hb.mono (by omega))⟩) (fun V L l A cap _ h hsz hl hlt hA => ?_) hj0
    obtain ⟨⟨h1, h2, h3⟩, h4⟩ := h
    have hc := orb1_calls w.heap.size nb gb xb a.n a.n x L l A cap V h2 h3 h1 hA hl hx hn8 hlt
    have hyl : app l x < a.n := hlt _ (app_mem (by omega))
    have hne1 : nb ≠ gb := fun e => by
      have c1 := h2.cell 0
      have c2 := h1.cellAt 0 (by omega)
      rw [boolsV_get (by omega)] at c2
      rw [e] at c1
      rw [c1] at c2
      simp at c2
    have hne2 : xb ≠ gb := fun e => by
      have c1 := h3.cell 0
      have c2 := h1.cellAt 0 (by omega)
      rw [boolsV_get (by omega)] at c2
      rw [e] at c1
      rw [c1] at c2
      simp at c2
    have hst := (World.ownsRow.stored (w := V.drew) (show V.drew.ownsRow w.heap.size 4 1 (.slice (some ⟨gb, 0, none⟩) a.n a.n) a.n (boolsV a.n (inL x L)) from h1) (app l x) (.bool true)).1
    rw [boolsV_set] at hst
    refine hc.mono fun e w' ⟨g1, g2⟩ => ?_
    subst g2
    exact ⟨⟨g1, ⟨hst, (h2.drew).far (p := ⟨gb, app l x, none⟩) hne1 _, (h3.drew).far (p := ⟨gb, app l x, none⟩) hne2 _⟩, (h4.drew).setCell (p := ⟨gb, app l x, none⟩) hwg _⟩, (Kp.of_below ((Below.refl _ _).drew)).trans (Kp.setCell (p := ⟨gb, app l x, none⟩) hg _)⟩
  obtain ⟨R0, hR0⟩ : ∃ R0, R0 = inL x (isos a a) := ⟨_, rfl⟩
  have hRk : orbL a.n (isos a a) x = rk R0 a.n := by rw [hR0]; rfl
  rw [hRk]
  have hes2 : ∀ (gb nb xb : Nat) (W : World), gb < W.heap.size → nb < W.heap.size → xb < W.heap.size → w.heap.size ≤ gb → (W.ownsRow w.heap.size 4 1 (.slice (some ⟨gb, 0, none⟩) a.n a.n) a.n (boolsV a.n (inL x [])) ∧ Bx W nb 118 #[.slice (some ⟨gb, 0, none⟩) a.n a.n] ∧ Bx W xb 3 #[.int .i64 (x : Nat)]) → Below w.heap.size w W →
      Calls Tryd.prog 63 #[stV (a.n : Int) (bs a.set) (bs a.rel), stV (a.n : Int) (bs a.set) (bs a.rel), .func (.func 87) #[] #[.pointer (some ⟨nb, 0, none⟩), .pointer (some ⟨xb, 0, none⟩)]] W fun e w' => e = .returned (.tuple #[]) ∧ (w'.ownsRow w.heap.size 4 1 (.slice (some ⟨gb, 0, none⟩) a.n a.n) a.n (boolsV a.n R0) ∧ Bx w' nb 118 #[.slice (some ⟨gb, 0, none⟩) a.n a.n]) ∧ Below w.heap.size w w' := fun gb nb xb W h1 h2 h3 h4 h5 h6 =>
    (hes gb nb xb W h1 h2 h3 h4 ⟨h5, h6⟩).mono fun e w' ⟨g1, g2, g3⟩ => ⟨g1, ⟨by rw [hR0]; exact g2.1, g2.2.1⟩, g3⟩
  have hmk : ∀ V : World, w.heap.size ≤ V.heap.size → ∃ w1, (Instr.makeSlice 118 (.int .i64 (a.n : Int)) (.int .i64 (a.n : Int))).run Tryd.prog V = .ok (.slice (some ⟨V.heap.size, 0, none⟩) a.n a.n) w1 ∧ w1.ownsRow w.heap.size 4 1 (.slice (some ⟨V.heap.size, 0, none⟩) a.n a.n) a.n (boolsV a.n (inL x [])) ∧ V.grownBy w1 none := fun V hV => by
    obtain ⟨w1, h1, h2, h3⟩ := run_make_full (P := Tryd.prog) V w.heap.size 118 4 i1 (.bool false) 1 Tryd.underlying118 hj hy0 hy1 .i64 .i64 a.n (by rw [hy2]; omega) (by unfold maxLen; omega) hV
    refine ⟨w1, h1, ?_, h3⟩
    rw [show (Value.bool false).cells = #[.bool false] from rfl, Nat.mul_one, toList_madeCells_one] at h2
    rwa [show boolsV a.n (inL x []) = List.replicate a.n (.bool false) from by
      apply List.ext_getElem (by simp [boolsV])
      intro k h1 h2
      simp [boolsV, inL]]
  have Hes := Lib.hid hes2
  have Hmk := Lib.hid hmk
  clear hes hes2 hmk hR0 hRk hj hy0 hy1 hy2 hx
  show Calls Tryd.prog 62 #[stV (a.n : Int) (bs a.set) (bs a.rel), .int .i64 (x : Nat)] w _
  clear ha
  generalize a.n = n at *
  generalize bs a.set = S at *
  generalize bs a.rel = R at *
  obtain ⟨V, hV⟩ : ∃ V, V = (w.alloc (.cells #[.int .i64 n, .string S, .string R] 27)).alloc (.cells #[.int .i64 (x : Nat)] 3) := ⟨_, rfl⟩
  have hV2 : V.heap.size = w.heap.size + 2 := by rw [hV]; simp
  have xa : Bx V w.heap.size 27 #[.int .i64 n, .string S, .string R] := by rw [hV]; exact (Bx.new w _ _).alloc _
  have xx : Bx V (w.heap.size + 1) 3 #[.int .i64 (x : Nat)] := by rw [hV]; exact bx_two w _ _
  have hbV : Below w.heap.size w V := by rw [hV]; exact ((Below.refl _ _).alloc (Nat.le_refl _) _).alloc (by simp) _
  obtain ⟨w1, hrun, hown, hgr⟩ := Hmk.out V (by omega)
  have xa1 := xa.grown hgr (by simp)
  have xx1 := xx.grown hgr (by simp)
  have hb1 : Below w.heap.size w w1 := hbV.grown hgr (by omega) (by simp)
  obtain ⟨k0, k1, k2⟩ := box_load xa
  obtain ⟨l0, l1, l2⟩ := box_load (xa1.alloc (.cells #[.slice (some ⟨V.heap.size, 0, none⟩) n n] 118))
  have Xx := Lib.hid xx1
  have Hb1 := Lib.hid hb1
  have Hown := Lib.hid hown
  have HV := Lib.hid hV
  have HV2 := Lib.hid hV2
  have hw1 : V.heap.size < w1.heap.size := (hown.lt _ rfl).2
  have Hw1 := Lib.hid hw1
  clear xa xx hbV hgr xa1 xx1 hb1 hown hV2 hV hw1
  go_enter Tryd.func62, Tryd.ntmps62
  go_upto_region 1 with (fail)
  rw [← HV.out]
  go_wp2_with fail
  refine (Hes.out V.heap.size w1.heap.size (w.heap.size + 1) _ ?h1 ?h2 ?h3 ?h4 ?h5 ?h6).mono ?_
  case h1 => have := Hw1.out; simp; omega
  case h2 => simp
  case h3 => have := Hw1.out; have := HV2.out; simp; omega
  case h4 => have := HV2.out; omega
  case h5 => exact ⟨Hown.out.alloc _, Bx.new w1 _ _, Xx.out.alloc _⟩
  case h6 => exact Hb1.out.alloc Hb1.out.size _
  rintro e w3 ⟨rfl, ⟨ho3, hx3⟩, hz⟩
  have hg3 := (ho3.lt _ rfl).2
  have Hg3 := Lib.hid hg3
  have O3 := Lib.hid ho3
  have X3 := Lib.hid hx3
  have B3 := Lib.hid hz
  generalize V.heap.size = gb at *
  have o0 := (hx3.alloc (.cells #[] 3)).cell 0
  simp at o0
  have Hs3 := Lib.hid hz.size
  clear ho3 hx3 hz hg3 hrun k0 k1 k2 l0 l1 l2 Hown Xx Hb1 Hw1 HV HV2 Hmk Hes
  go_wp2_with fail
  clear o0
  go_loopg [6, 19] n (fun c o i wr => ∃ k : Nat, k + c = n ∧ i = .int .i64 k ∧ (wr.ownsRow w3.heap.size 3 1 o (rk R0 k).length (intsV (natsI (rk R0 k))) ∧ w3.heap.size ≤ wr.heap.size) ∧ wr.ownsRow w.heap.size 4 1 (.slice (some ⟨gb, 0, none⟩) n n) n (boolsV n R0) ∧ Below w.heap.size w wr)
  case atStart => exact ⟨0, by omega, rfl, ⟨own_zero w3, by simp⟩, O3.out.alloc _, B3.out.alloc B3.out.size _⟩
  case round =>
    obtain ⟨k, hk, rfl, ⟨ho, hs4⟩, hob, hbl⟩ := hrel
    have Ho := Lib.hid ho
    have Hob := Lib.hid hob
    have Hbl := Lib.hid hbl
    have Hs4 := Lib.hid hs4
    have hrl := rk_len R0 k
    by_cases hlt : k < n
    · have c0 := hob.cellAt k (by omega)
      rw [boolsV_get hlt] at c0
      have j1 : (0 : Int) ≤ (k : Int) := by omega
      have j2 : (k : Int) < (n : Int) := by omega
      clear ho hob hbl hs4
      cases hq : R0 k with
      | false =>
        have hsc : rk R0 (k + 1) = rk R0 k := by rw [rk_succ, hq]; rfl
        rw [hq] at c0
        have Hsc := Lib.hid hsc
        clear hsc hq
        go_wp2_with fail
        go_roundg (n - k - 1)
        case rel => exact ⟨k + 1, by omega, by go_num, ⟨by rw [Hsc.out]; exact Ho.out, Hs4.out⟩, Hob.out, Hbl.out⟩
        case measure => omega
      | true =>
        have hsc : rk R0 (k + 1) = rk R0 k ++ [k] := by rw [rk_succ, hq]; rfl
        rw [hq] at c0
        have Hsc := Lib.hid hsc
        clear hsc hq
        go_wp2_with (at_builtin; refine wpList_append_own_at _ rfl (.tmp 25) (.tmp 27) 30 rfl w3.heap.size 3 i0 (.int .i64 0) 1 8 Tryd.underlying30 hi hz0 hz1 hz2 rfl (by decide) _ (rk R0 k).length (intsV (natsI (rk R0 k))) rfl (Ho.out.alloc _) ⟨wr.heap.size, 0, none⟩ 1 1 [.int .i64 (k : Nat)] rfl rfl (cell_one_new _ _ _) (ints_oneCell .i64 [((k : Nat) : Int)]) (by unfold maxLen; omega) (by omega) (by have := Hs4.out; simp; omega) ?_; intro v2 w5 ho5 hg5 hn5 hat5; clear hn5 hat5)
        go_roundg (n - k - 1)
        case rel =>
          refine ⟨k + 1, by omega, by go_num, ⟨by rw [Hsc.out, show intsV (natsI (rk R0 k ++ [k])) = intsV (natsI (rk R0 k)) ++ [.int .i64 (k : Nat)] by simp [intsV, natsI], List.length_append, List.length_singleton]; exact ho5, ?_⟩, ?_, ?_⟩
          · have h1 := hg5.size
            have h2 := Hs4.out
            simp at h1
            omega
          · refine own_below (B := w3.heap.size) Hob.out (((Below.refl _ _).alloc Hs4.out _).grown hg5 (by have := Hs4.out; simp; omega) (fun j hj => (Ho.out.lt j hj).1)) Hg3.out
          · exact (Hbl.out.alloc Hbl.out.size _).grown hg5 (by have := Hbl.out.size; simp; omega) (fun j hj => by have h1 := (Ho.out.lt j hj).1; have h2 := Hs3.out; omega)
        case measure => omega
    · obtain rfl : k = n := by omega
      clear ho hob hbl hs4
      go_wp2_with fail
      go_ret
      exact ⟨⟨_, rfl, Ho.out.1, Ho.out.2.imp (fun h => h) fun ⟨g, c, cur, h1, h2, h3⟩ => ⟨g, c, cur, h1, by have := Hs3.out; omega, h3⟩⟩, Hbl.out⟩

/-- the orbit, or nothing -/
def orbV (i : Int) (s r : ByteArray) (x : Int) : List Nat := if okB i s r && elB i x then orbL (ofSt i s r).n (isos (ofSt i s r) (ofSt i s r)) x.toNat else []

set_option maxHeartbeats 1000000 in
theorem OrbitOf_impl (i : Int) (s r : ByteArray) (x : Int) (w : World) (hs : s.size ≤ maxLen) (hr : r.size ≤ maxLen) :
    Calls Tryd.prog 28 #[stV i s r, .int .i64 x] w fun e w' => (∃ v, e = .returned v ∧ w'.ownsRow w.heap.size 3 1 v (orbV i s r x).length (intsV (natsI (orbV i s r x)))) ∧ Below w.heap.size w w' := by
  have hc : ∀ W, Calls Tryd.prog 61 #[stV i s r, .int .i64 x] W fun e w' => e = .returned (.bool (okB i s r && elB i x)) ∧ Below W.heap.size W w' := fun W => hasElement_calls i s r x W hs hr
  cases hok : (okB i s r && elB i x) with
  | false =>
    have hv : orbV i s r x = [] := by unfold orbV; rw [hok]; rfl
    rw [hv]
    rw [hok] at hc
    have Hc := Lib.hid hc
    clear hc hs hr hok hv
    go_enter Tryd.func28, Tryd.ntmps28
    go_wp2_with fail
    refine (Hc.out _).mono ?_
    rintro e w1 ⟨rfl, hz⟩
    have HB := Lib.hid (box_next (box_refl w _) hz)
    clear hz
    go_wp2_with fail
    go_ret
    exact ⟨⟨_, rfl, rfl, .inl ⟨rfl, rfl⟩⟩, box_down HB.out⟩
  | true =>
    obtain ⟨h1, h2⟩ := Bool.and_eq_true_iff.1 hok
    rcases ok_cases i s r with h | ⟨a, ha, rfl, rfl, rfl⟩
    · rw [h] at h1; cases h1
    rcases el_cases a.n x with h | ⟨k, rfl, hk, _⟩
    · rw [h] at h2; cases h2
    have hv : orbV a.n (bs a.set) (bs a.rel) (k : Nat) = orbL a.n (isos a a) k := by unfold orbV; rw [hok, ofSt_eq]; rfl
    rw [hv]
    rw [hok] at hc
    have Hc := Lib.hid hc
    have ho := fun W => orbitOf_calls a ha k hk W
    have Hoo := Lib.hid ho
    generalize orbL a.n (isos a a) k = L at *
    clear hc hs hr hok hv ho h1 h2
    go_enter Tryd.func28, Tryd.ntmps28
    go_wp2_with fail
    refine (Hc.out _).mono ?_
    rintro e w1 ⟨rfl, hz⟩
    have HB := Lib.hid (box_next (box_refl w _) hz)
    clear hz
    obtain ⟨k0, k1, k2⟩ := box3 HB.out
    go_wp2_with fail
    refine (Hoo.out _).mono ?_
    rintro e w2 ⟨⟨v, rfl, hw⟩, hz⟩
    have HB2 := Lib.hid (box_next HB.out hz)
    have HW := Lib.hid (show w2.ownsRow w.heap.size 3 1 v L.length (intsV (natsI L)) from ⟨hw.1, hw.2.imp (fun h => h) fun ⟨g, c, cur, h1, h2, h3⟩ => ⟨g, c, cur, h1, by have := (box_down HB.out).size; omega, h3⟩⟩)
    clear hz hw k0 k1 k2
    go_wp2_with fail
    go_ret
    exact ⟨⟨v, rfl, HW.out⟩, box_down HB2.out⟩

end Go.Proofs.YteonanaihklgmaaDoor

namespace Go.Proofs.YteonanaihklgmaaDoor
open Go.RowKit
open Pl
set_option linter.unusedSimpArgs false
set_option linter.unusedVariables false
attribute [local go_sem ↓] Go.wp_at_zero Go.wp_at_succ

theorem bx_three (w : World) (o o2 : Obj) (cs : Array Value) {t : TypeId} : Bx (((w.alloc o).alloc o2).alloc (.cells cs t)) (w.heap.size + 2) t cs := by
  have h := Bx.new ((w.alloc o).alloc o2) t cs
  rwa [World.size_alloc, World.size_alloc] at h

end Go.Proofs.YteonanaihklgmaaDoor

namespace Go.Proofs.YteonanaihklgmaaDoor
open Go.RowKit
open Pl
set_option linter.unusedSimpArgs false
set_option linter.unusedVariables false
attribute [local go_sem ↓] Go.wp_at_zero Go.wp_at_succ

theorem own_ne {w : World} {base g n : Nat} {t e : TypeId} {cs : Array Value} {v : Value} {xs : List Value} (h : w.ownsRow base e 1 v n xs) (hb : Bx w g t cs) (hte : t ≠ e) : some g ≠ v.ownBlock := by
  obtain ⟨_, ⟨rfl, _⟩ | ⟨g', c', cur, rfl, _, hh, _⟩⟩ := h
  · simp [Value.ownBlock]
  · intro he
    have : g = g' := by simpa [Value.ownBlock] using he
    subst this
    unfold Bx at hb
    rw [hb] at hh
    injection hh with hh
    injection hh with _ hh _
    exact hte hh

theorem own_slice1 {W : World} {base : Nat} {v : Value} {o : List Nat} (h : W.ownsRow base 3 1 v o.length (intsV (natsI o))) : ∃ A cap, v = .slice A o.length cap := by
  obtain ⟨A, cap, h, _⟩ := own_open h
  exact ⟨A, cap, h⟩

/-- what lies in memory while the elements are gone through -/
structure OrbF (w : World) (bb : Nat) (ca cb : Array Value) (o : Value) (L : List Nat) (V : World) : Prop where
  fst : Bx V w.heap.size 27 ca
  snd : Bx V bb 27 cb
  out : V.ownsRow w.heap.size 3 1 o L.length (intsV (natsI L))
  bel : Below w.heap.size w V

theorem OrbF.call {w V V' : World} {bb : Nat} {ca cb : Array Value} {o : Value} {L : List Nat} (h : OrbF w bb ca cb o L V) (hz : Below V.heap.size V V') : OrbF w bb ca cb o L V' :=
  ⟨h.fst.call hz, h.snd.call hz, own_kp (B := 0) h.out (.of_below hz) (Nat.zero_le _), h.bel.trans (hz.mono h.bel.size)⟩
theorem OrbF.drew {w V : World} {bb : Nat} {ca cb : Array Value} {o : Value} {L : List Nat} (h : OrbF w bb ca cb o L V) : OrbF w bb ca cb o L V.drew := ⟨h.fst, h.snd, h.out, h.bel.drew⟩
theorem OrbF.put {w V V' : World} {bb : Nat} {ca cb : Array Value} {o o' : Value} {L : List Nat} {k : Nat} (h : OrbF w bb ca cb o L V)
    (ho : V'.ownsRow w.heap.size 3 1 o' (L.length + 1) (intsV (natsI L) ++ [.int .i64 (k : Nat)])) (hg : (V.alloc (.cells #[.int .i64 (k : Nat)] 3)).grownBy V' o.ownBlock) : OrbF w bb ca cb o' (L ++ [k]) V' := by
  refine ⟨(h.fst.alloc _).grown hg (own_ne h.out h.fst (by decide)), (h.snd.alloc _).grown hg (own_ne h.out h.snd (by decide)), ?_, (h.bel.alloc h.bel.size _).grown hg (by have := h.bel.size; simp; omega) (fun j hj => (h.out.lt j hj).1)⟩
  rw [show intsV (natsI (L ++ [k])) = intsV (natsI L) ++ [.int .i64 (k : Nat)] by simp [intsV, natsI], List.length_append, List.length_singleton]
  exact ho

/-- what lies in memory while the order is made -/
structure OrdF (w : World) (base : Nat) (ca : Array Value) (o : Value) (L : List Nat) (V : World) : Prop where
  fst : Bx V w.heap.size 27 ca
  snd : Bx V (w.heap.size + 1) 3 #[]
  out : V.ownsRow base 3 1 o L.length (intsV (natsI L))
  bel : Below w.heap.size w V
  sz : base ≤ V.heap.size

theorem OrdF.put {w V V' : World} {base : Nat} {ca : Array Value} {o o' : Value} {L : List Nat} {k : Nat} (h : OrdF w base ca o L V) (hb : w.heap.size + 2 ≤ base)
    (ho : V'.ownsRow base 3 1 o' (L.length + 1) (intsV (natsI L) ++ [.int .i64 (k : Nat)])) (hg : (V.alloc (.cells #[.int .i64 (k : Nat)] 3)).grownBy V' o.ownBlock) : OrdF w base ca o' (L ++ [k]) V' := by
  refine ⟨(h.fst.alloc _).grown hg (own_ne h.out h.fst (by decide)), (h.snd.alloc _).grown hg (fun e => by have := (h.out.lt _ e.symm).1; omega), ?_, (h.bel.alloc h.bel.size _).grown hg (by have := h.bel.size; simp; omega) (fun j hj => by have := (h.out.lt j hj).1; omega), ?_⟩
  · rw [show intsV (natsI (L ++ [k])) = intsV (natsI L) ++ [.int .i64 (k : Nat)] by simp [intsV, natsI], List.length_append, List.length_singleton]
    exact ho
  · have h1 := hg.size
    have h2 := h.sz
    simp at h1
    omega

theorem lrow_one (w : World) (y : Nat) : LRow (w.alloc (.cells #[.int .i64 (y : Nat)] 3)) (some ⟨w.heap.size, 0, none⟩) (natsI [y]) := fun _ => ⟨_, rfl, fun i hi => by
  simp [natsI] at hi
  subst hi
  have := (Bx.new w 3 #[.int .i64 (y : Nat)]).cell 0
  simp [natsI]⟩

theorem front_succ (n x : Nat) : frontL (n + 1) x = if n = x then frontL n x else frontL n x ++ [n] := by
  unfold frontL
  rw [List.range_succ, List.filter_append]
  by_cases h : n = x <;> simp [h]
theorem front_len (n x : Nat) : (frontL n x).length ≤ n + 1 := by
  unfold frontL
  have := List.length_filter_le (fun y => y != x) (List.range n)
  simp at this ⊢
  omega

end Go.Proofs.YteonanaihklgmaaDoor

namespace Go.Proofs.YteonanaihklgmaaDoor
open Go.RowKit
open Pl
set_option linter.unusedSimpArgs false
set_option linter.unusedVariables false

/-- the marks -/
def marksI (n : Nat) : List Int := (List.range n).map fun j : Nat => 1 + (j : Int)
theorem marks_len (n : Nat) : (marksI n).length = n := by simp [marksI]
theorem marks_get {n j : Nat} (h : j < n) : (marksI n).getD j 0 = 1 + (j : Int) := by simp [marksI, List.getD, h]

theorem own_form0 {w : World} {base n : Nat} {e : TypeId} {v : Value} {xs : List Value} (h : w.ownsRow base e 1 v n xs) (hn : 0 < n) : ∃ g cap, v = .slice (some ⟨g, 0, none⟩) n cap := by
  obtain ⟨_, ⟨_, h0⟩ | ⟨g, cap, _, hv, _⟩⟩ := h
  · omega
  · exact ⟨g, cap, hv⟩

end Go.Proofs.YteonanaihklgmaaDoor

namespace Go.Proofs.YteonanaihklgmaaDoor
open Go.RowKit
open Pl
set_option linter.unusedSimpArgs false
set_option linter.unusedVariables false

theorem orb_none (w : World) (c : Array Value) (V : World) (h : Below (w.heap.size + 2) ((w.alloc (.cells c 27)).alloc (.cells #[] 3)) V) :
    V.ownsRow w.heap.size 3 1 (.slice (some ⟨w.heap.size + 1, 0, none⟩) 0 0) 0 [] ∧ Below w.heap.size w V := by
  have hb : Bx V (w.heap.size + 1) 3 #[] := (bx_two w (.cells c 27) #[] (t := 3)).below h (by omega)
  exact ⟨⟨rfl, .inr ⟨_, 0, #[], rfl, by omega, hb, Nat.le_refl _, Nat.zero_le _, rfl, rfl⟩⟩, (((Below.refl w.heap.size w).alloc (Nat.le_refl _) _).alloc (by simp) _).trans (h.mono (by omega))⟩

theorem orbV_le (i : Int) (s r : ByteArray) (x : Int) : (orbV i s r x).length ≤ 8 := by
  unfold orbV
  split
  · rename_i h
    rcases ok_cases i s r with h1 | ⟨a, ha, rfl, rfl, rfl⟩
    · rw [h1] at h; cases h
    · have h8 := ha.hi
      rw [ofSt_eq]
      unfold orbL
      exact Nat.le_trans (List.length_filter_le _ _) (by simpa using h8)
  · simp

theorem own_slice2 {W : World} {base : Nat} {v : Value} {o : List Nat} (h : W.ownsRow base 3 1 v o.length (intsV (natsI o))) : ∃ A cap, v = .slice A o.length cap := by
  obtain ⟨A, cap, h, _⟩ := own_open h
  exact ⟨A, cap, h⟩

end Go.Proofs.YteonanaihklgmaaDoor

namespace Go.Proofs.YteonanaihklgmaaDoor
open Go.RowKit
open Pl
set_option linter.unusedSimpArgs false
set_option linter.unusedVariables false

/-- whether a list holds all numbers of another one -/
def goodB (zs : List Int) (R : List Nat) : Bool := R.all fun y => decide ((y : Int) ∈ zs)
/-- what IsDefinable answers -/
def defB (i : Int) (s r : ByteArray) (zs : List Int) : Bool := okB i s r && (elAll i zs && (nodB zs && zs.all fun z => goodB zs (orbV i s r z)))

theorem goodB_no {zs : List Int} {R : List Nat} {j : Nat} (hj : j < R.length) (h : ¬ (natsI R).getD j 0 ∈ zs) : goodB zs R = false := by
  refine Bool.eq_false_iff.2 fun hq => h ?_
  have hm := getD_mem (zs := natsI R) (by rw [natsI_len]; exact hj)
  unfold natsI at hm ⊢
  obtain ⟨y, hy, e⟩ := List.mem_map.1 hm
  rw [← e]
  exact of_decide_eq_true (List.all_eq_true.1 hq y hy)
theorem goodB_yes {zs : List Int} {R : List Nat} (h : ∀ j, j < R.length → (natsI R).getD j 0 ∈ zs) : goodB zs R = true := by
  refine List.all_eq_true.2 fun y hy => decide_eq_true ?_
  obtain ⟨j, hj, e⟩ := mem_getD (zs := natsI R) (List.mem_map.2 ⟨y, hy, rfl⟩)
  rw [natsI_len] at hj
  rw [← e]; exact h j hj
theorem defB_no {i : Int} {s r : ByteArray} {zs : List Int} {z : Int} (hz : z ∈ zs) (h : goodB zs (orbV i s r z) = false) : defB i s r zs = false := by
  refine Bool.eq_false_iff.2 fun hq => ?_
  unfold defB at hq
  simp only [Bool.and_eq_true] at hq
  have := List.all_eq_true.1 hq.2.2.2 z hz
  rw [h] at this; cases this
theorem defB_yes {i : Int} {s r : ByteArray} {zs : List Int} (h1 : okB i s r = true) (h2 : elAll i zs = true) (h3 : nodB zs = true) (h : ∀ j, j < zs.length → goodB zs (orbV i s r (zs.getD j 0)) = true) : defB i s r zs = true := by
  unfold defB
  rw [h1, h2, h3]
  refine List.all_eq_true.2 fun z hz => ?_
  obtain ⟨j, hj, e⟩ := mem_getD hz
  rw [← e]; exact h j hj

theorem orbitOf_any (i : Int) (s r : ByteArray) (z : Int) (hok : okB i s r = true) (hel : elB i z = true) (W : World) :
    Calls Tryd.prog 62 #[stV i s r, .int .i64 z] W fun e w' => (∃ C cap, e = .returned (.slice C (orbV i s r z).length cap) ∧ LRow w' C (natsI (orbV i s r z))) ∧ Below W.heap.size W w' := by
  rcases ok_cases i s r with h | ⟨a, ha, rfl, rfl, rfl⟩
  · rw [h] at hok; cases hok
  rcases el_cases a.n z with h | ⟨k, rfl, hk, _⟩
  · rw [h] at hel; cases hel
  have hv : orbV a.n (bs a.set) (bs a.rel) (k : Nat) = orbL a.n (isos a a) k := by unfold orbV; rw [hok, hel, ofSt_eq]; rfl
  rw [hv]
  exact (orbitOf_calls a ha k hk W).mono fun e w' ⟨⟨v, h1, h2⟩, h3⟩ => by
    obtain ⟨C, cap, rfl⟩ := own_slice2 h2
    exact ⟨⟨C, cap, h1, LRow_of h2⟩, h3⟩

end Go.Proofs.YteonanaihklgmaaDoor

namespace Go.Proofs.YteonanaihklgmaaDoor
open Go.RowKit
open Pl
set_option linter.unusedSimpArgs false
set_option linter.unusedVariables false

namespace Pl

/-- a list of elements is made of whole orbits -/
def defL (n : Nat) (G : List (List Nat)) (l : List Nat) : Bool := l.all fun x => (orbL n G x).all fun y => decide (y ∈ l)

theorem defL_iff {n : Nat} {G : List (List Nat)} {l : List Nat} : defL n G l = true ↔ ∀ x ∈ l, ∀ y ∈ orbL n G x, y ∈ l := by
  unfold defL
  simp only [List.all_eq_true, decide_eq_true_eq]

theorem orbL_nodup (n : Nat) (G : List (List Nat)) (x : Nat) : (orbL n G x).Nodup := List.nodup_range.filter _

theorem def_orbit {n : Nat} {G : List (List Nat)} (hG : Grp n G) {x : Nat} (hx : x < n) : defL n G (orbL n G x) = true :=
  defL_iff.2 fun y hy z hz => orb_sub hG hx hy hz

/-- the elements below k that are not in a list -/
def restTo (l : List Nat) (k : Nat) : List Nat := (List.range k).filter fun x => !decide (x ∈ l)
theorem restTo_succ (l : List Nat) (k : Nat) : restTo l (k + 1) = if k ∈ l then restTo l k else restTo l k ++ [k] := by
  unfold restTo
  rw [List.range_succ, List.filter_append]
  by_cases h : k ∈ l <;> simp [h]
theorem restTo_len (l : List Nat) (k : Nat) : (restTo l k).length ≤ k := by
  have := List.length_filter_le (fun x => !decide (x ∈ l)) (List.range k)
  simpa [restTo] using this
theorem restTo_nodup (l : List Nat) (k : Nat) : (restTo l k).Nodup := List.nodup_range.filter _
theorem mem_restTo {l : List Nat} {k x : Nat} : x ∈ restTo l k ↔ x < k ∧ x ∉ l := by
  unfold restTo
  rw [List.mem_filter, List.mem_range]
  simp
theorem def_rest {n : Nat} {G : List (List Nat)} (hG : Grp n G) {l : List Nat} (h : defL n G l = true) : defL n G (restTo l n) = true := by
  rw [defL_iff] at h ⊢
  intro x hx y hy
  obtain ⟨hxn, hxl⟩ := mem_restTo.1 hx
  exact mem_restTo.2 ⟨orb_lt hy, fun hyl => hxl (h y hyl x (orb_sym hG hxn hy))⟩

/-- a list with the first of another one that it lacks -/
def bothTo (l o : List Nat) : Nat → List Nat
  | 0 => l
  | k + 1 => if app o k ∈ bothTo l o k then bothTo l o k else bothTo l o k ++ [app o k]
theorem mem_bothTo {l o : List Nat} : ∀ {k : Nat}, k ≤ o.length → ∀ x, x ∈ bothTo l o k ↔ x ∈ l ∨ ∃ j, j < k ∧ app o j = x := by
  intro k
  induction k with
  | zero => intro _ x; simp [bothTo]
  | succ k ih =>
    intro hk x
    have ih := ih (by omega)
    unfold bothTo
    by_cases h : app o k ∈ bothTo l o k
    · rw [if_pos h, ih]
      constructor
      · rintro (h1 | ⟨j, hj, e⟩)
        · exact .inl h1
        · exact .inr ⟨j, by omega, e⟩
      · rintro (h1 | ⟨j, hj, e⟩)
        · exact .inl h1
        · by_cases hjk : j = k
          · subst hjk
            rw [e] at h
            exact (ih x).1 h
          · exact .inr ⟨j, by omega, e⟩
    · rw [if_neg h, List.mem_append, ih]
      constructor
      · rintro ((h1 | ⟨j, hj, e⟩) | h1)
        · exact .inl h1
        · exact .inr ⟨j, by omega, e⟩
        · simp at h1
          exact .inr ⟨k, by omega, h1.symm⟩
      · rintro (h1 | ⟨j, hj, e⟩)
        · exact .inl (.inl h1)
        · by_cases hjk : j = k
          · subst hjk
            exact .inr (by simp [e])
          · exact .inl (.inr ⟨j, by omega, e⟩)
theorem bothTo_nodup {l o : List Nat} (hl : l.Nodup) : ∀ k, (bothTo l o k).Nodup := by
  intro k
  induction k with
  | zero => exact hl
  | succ k ih =>
    unfold bothTo
    by_cases h : app o k ∈ bothTo l o k
    · rw [if_pos h]; exact ih
    · rw [if_neg h, List.nodup_append]
      exact ⟨ih, by simp, fun x hx y hy e => by simp at hy; subst hy; subst e; exact h hx⟩
theorem bothTo_len {l o : List Nat} : ∀ k, (bothTo l o k).length ≤ l.length + k := by
  intro k
  induction k with
  | zero => simp [bothTo]
  | succ k ih =>
    unfold bothTo
    split
    · omega
    · simp; omega
theorem mem_both {l o : List Nat} {x : Nat} : x ∈ bothTo l o o.length ↔ x ∈ l ∨ x ∈ o := by
  rw [mem_bothTo (Nat.le_refl _)]
  refine or_congr_right ⟨?_, ?_⟩
  · rintro ⟨j, hj, rfl⟩; exact app_mem hj
  · intro h; exact mem_app h
theorem def_both {n : Nat} {G : List (List Nat)} (hG : Grp n G) {l : List Nat} (h : defL n G l = true) {x : Nat} (hx : x < n) : defL n G (bothTo l (orbL n G x) (orbL n G x).length) = true := by
  rw [defL_iff] at h ⊢
  intro y hy z hz
  rcases mem_both.1 hy with h1 | h1
  · exact mem_both.2 (.inl (h y h1 z hz))
  · exact mem_both.2 (.inr (orb_sub hG hx h1 hz))

end Pl

theorem mem_natsI {ns : List Nat} {x : Nat} : (x : Int) ∈ natsI ns ↔ x ∈ ns := by
  unfold natsI
  rw [List.mem_map]
  constructor
  · rintro ⟨y, hy, e⟩
    have : y = x := by omega
    exact this ▸ hy
  · intro h; exact ⟨x, h, rfl⟩

theorem defB_nat {a : St} (ha : a.ok) {ns : List Nat} (hlt : ∀ x ∈ ns, x < a.n) (hnd : ns.Nodup) : defB a.n (bs a.set) (bs a.rel) (natsI ns) = defL a.n (isos a a) ns := by
  have h1 := okB_true ha
  have hel : ∀ x, x < a.n → elB (a.n : Int) (x : Nat) = true := fun x hx => by
    unfold elB
    rw [decide_eq_true (by omega), decide_eq_true (by omega)]; rfl
  have h2 : elAll (a.n : Int) (natsI ns) = true := List.all_eq_true.2 fun z hz => by
    obtain ⟨x, hx, rfl⟩ := List.mem_map.1 hz
    exact hel x (hlt x hx)
  have h3 : nodB (natsI ns) = true := decide_eq_true (map_nodup _ hnd fun x _ y _ e => by omega)
  unfold defB
  rw [h1, h2, h3, Bool.true_and, Bool.true_and, Bool.true_and, Bool.eq_iff_iff, defL_iff, List.all_eq_true]
  have ho : ∀ x, x < a.n → orbV a.n (bs a.set) (bs a.rel) (x : Nat) = orbL a.n (isos a a) x := fun x hx => by
    unfold orbV; rw [h1, hel x hx, ofSt_eq]; rfl
  constructor
  · intro h x hx y hy
    have := h (x : Int) (mem_natsI.2 hx)
    unfold goodB at this
    rw [ho x (hlt x hx)] at this
    exact mem_natsI.1 (of_decide_eq_true (List.all_eq_true.1 this y hy))
  · intro h z hz
    obtain ⟨x, hx, rfl⟩ := List.mem_map.1 hz
    unfold goodB
    rw [ho x (hlt x hx)]
    exact List.all_eq_true.2 fun y hy => decide_eq_true (mem_natsI.2 (h x hx y hy))

theorem defB_out {a : St} (ha : a.ok) {zs : List Int} (h : defB a.n (bs a.set) (bs a.rel) zs = true) : ∃ ns : List Nat, zs = natsI ns ∧ (∀ x ∈ ns, x < a.n) ∧ ns.Nodup ∧ defL a.n (isos a a) ns = true := by
  have h0 := h
  unfold defB at h
  simp only [Bool.and_eq_true] at h
  obtain ⟨ns, rfl, hlt, hnd, _, _⟩ := nats_of h.2.1 h.2.2.1
  exact ⟨ns, rfl, hlt, hnd, by rw [← defB_nat ha hlt hnd]; exact h0⟩

/-- the elements that are not in a list of numbers -/
def restZ (zs : List Int) (k : Nat) : List Nat := (List.range k).filter fun x => !decide ((x : Int) ∈ zs)
theorem restZ_succ (zs : List Int) (k : Nat) : restZ zs (k + 1) = if (k : Int) ∈ zs then restZ zs k else restZ zs k ++ [k] := by
  unfold restZ
  rw [List.range_succ, List.filter_append]
  by_cases h : (k : Int) ∈ zs <;> simp [h]
theorem restZ_len (zs : List Int) (k : Nat) : (restZ zs k).length ≤ k := by
  have := List.length_filter_le (fun x : Nat => !decide ((x : Int) ∈ zs)) (List.range k)
  simpa [restZ] using this
theorem restZ_nat (ns : List Nat) (k : Nat) : restZ (natsI ns) k = restTo ns k := by
  unfold restZ restTo
  apply List.filter_congr
  intro x _
  rw [decide_eq_decide.2 mem_natsI]

/-- a list of numbers with those of another one that it lacks -/
def bothZ (zs : List Int) (R : List Nat) : Nat → List Int
  | 0 => zs
  | k + 1 => if ((app R k : Nat) : Int) ∈ bothZ zs R k then bothZ zs R k else bothZ zs R k ++ [((app R k : Nat) : Int)]
theorem bothZ_succ (zs : List Int) (R : List Nat) (k : Nat) : bothZ zs R (k + 1) = if ((app R k : Nat) : Int) ∈ bothZ zs R k then bothZ zs R k else bothZ zs R k ++ [((app R k : Nat) : Int)] := rfl
theorem bothZ_len (zs : List Int) (R : List Nat) : ∀ k, (bothZ zs R k).length ≤ zs.length + k := by
  intro k
  induction k with
  | zero => simp [bothZ]
  | succ k ih =>
    rw [bothZ_succ]
    split
    · omega
    · simp; omega
theorem bothZ_nat (ns R : List Nat) : ∀ k, bothZ (natsI ns) R k = natsI (bothTo ns R k) := by
  intro k
  induction k with
  | zero => rfl
  | succ k ih =>
    rw [bothZ_succ, ih, show bothTo ns R (k + 1) = if app R k ∈ bothTo ns R k then bothTo ns R k else bothTo ns R k ++ [app R k] from rfl]
    by_cases h : app R k ∈ bothTo ns R k
    · rw [if_pos h, if_pos (mem_natsI.2 h)]
    · rw [if_neg h, if_neg (fun hq => h (mem_natsI.1 hq))]
      simp [natsI]

theorem orbV_nat {a : St} (ha : a.ok) {x : Nat} (hx : x < a.n) : orbV a.n (bs a.set) (bs a.rel) (x : Nat) = orbL a.n (isos a a) x := by
  unfold orbV
  rw [okB_true ha, show elB (a.n : Int) (x : Nat) = true by unfold elB; rw [decide_eq_true (by omega), decide_eq_true (by omega)]; rfl, ofSt_eq]
  rfl
theorem defB_orbit {a : St} (ha : a.ok) {x : Nat} (hx : x < a.n) : defB a.n (bs a.set) (bs a.rel) (natsI (orbV a.n (bs a.set) (bs a.rel) (x : Nat))) = true := by
  rw [orbV_nat ha hx, defB_nat ha (fun y hy => orb_lt hy) (orbL_nodup _ _ _)]
  exact def_orbit (aut_grp a) hx
theorem defB_rest {a : St} (ha : a.ok) {zs : List Int} (h : defB a.n (bs a.set) (bs a.rel) zs = true) : defB a.n (bs a.set) (bs a.rel) (natsI (restZ zs a.n)) = true := by
  obtain ⟨ns, rfl, hlt, hnd, hd⟩ := defB_out ha h
  rw [restZ_nat, defB_nat ha (fun y hy => (mem_restTo.1 hy).1) (restTo_nodup _ _)]
  exact def_rest (aut_grp a) hd
theorem defB_both {a : St} (ha : a.ok) {zs : List Int} (h : defB a.n (bs a.set) (bs a.rel) zs = true) {x : Nat} (hx : x < a.n) :
    defB a.n (bs a.set) (bs a.rel) (bothZ zs (orbV a.n (bs a.set) (bs a.rel) (x : Nat)) (orbV a.n (bs a.set) (bs a.rel) (x : Nat)).length) = true := by
  obtain ⟨ns, rfl, hlt, hnd, hd⟩ := defB_out ha h
  rw [orbV_nat ha hx, bothZ_nat, defB_nat ha (fun y hy => ?_) (bothTo_nodup hnd _)]
  · exact def_both (aut_grp a) hd hx
  · rcases mem_both.1 hy with h1 | h1
    · exact hlt y h1
    · exact orb_lt h1

end Go.Proofs.YteonanaihklgmaaDoor

namespace Go.Proofs.YteonanaihklgmaaDoor
open Go.RowKit
open Pl
set_option linter.unusedSimpArgs false
set_option linter.unusedVariables false

/-- whether a formula is true for two elements -/
noncomputable def pairB (a : St) (g : Fm) (x y : Nat) : Bool := g.holds a (envL [x, y])
/-- a structure with a defined relation -/
noncomputable def defS (a : St) (g : Fm) : St := mkSt a.n a.inS (pairB a g)
theorem defS_n (a : St) (g : Fm) : (defS a g).n = a.n := rfl
theorem defS_ok {a : St} (ha : a.ok) (g : Fm) : (defS a g).ok := mkSt_ok ha.lo ha.hi
theorem defS_set {a : St} (ha : a.ok) (g : Fm) : (defS a g).set = a.set := by
  have h := congrArg St.set (mkSt_self ha)
  exact h
theorem defS_rel (a : St) (g : Fm) : (defS a g).rel = relTo a.n (pairB a g) a.n := rfl
theorem rel_cases (i : Int) (s r f : ByteArray) : (rdyB i s r f 2 = false ∧ relV i s r f = bs []) ∨
    ∃ (a : St) (g : Fm), a.ok ∧ i = a.n ∧ s = bs a.set ∧ r = bs a.rel ∧ f = bs g.text ∧ g.text.length ≤ 4000 ∧ g.freeBits / 2 ^ 2 = 0 ∧ rdyB i s r f 2 = true ∧ relV i s r f = bs (defS a g).rel := by
  cases h : rdyB i s r f 2 with
  | false => left; exact ⟨rfl, rel_no h⟩
  | true =>
    right
    have hr := h
    unfold rdyB at hr
    simp only [Bool.and_eq_true, decide_eq_true_eq] at hr
    obtain ⟨h1, h2, h3⟩ := hr
    rcases ok_cases i s r with hq | ⟨a, ha, rfl, rfl, rfl⟩
    · rw [h1] at hq; cases hq
    rcases fm_cases f with ⟨hq, _⟩ | ⟨g, hb, hf, hs4, hl4⟩
    · rw [h2] at hq; cases hq
    rw [fmOf_eq hf] at h3
    have hv := rel_yes hf h
    obtain rfl := eq_bs hf
    exact ⟨a, g, ha, rfl, rfl, rfl, rfl, hl4, h3, rfl, hv⟩
theorem isos_def {a : St} (ha : a.ok) {g : Fm} (hf : g.freeBits / 2 ^ 2 = 0) {l : List Nat} (hl : l ∈ isos a a) : l ∈ isos (defS a g) (defS a g) := by
  have h := mem_isos_iff.1 hl
  obtain ⟨hp, h1, h2⟩ := h
  refine mem_isos_iff.2 ⟨hp, fun i hi => ?_, fun i j hi hj => ?_⟩
  · have hi' : i < a.n := hi
    show (defS a g).inS (app l i) = (defS a g).inS i
    unfold defS
    rw [mkSt_inS hi', mkSt_inS (hp.app_lt hi')]
    exact h1 i hi'
  · have hi' : i < a.n := hi
    have hj' : j < a.n := hj
    unfold defS
    rw [mkSt_inR hi' hj', mkSt_inR (hp.app_lt hi') (hp.app_lt hj')]
    unfold pairB
    rw [holds_iso rfl hl g (envL [i, j]) (fun v _ => env_lt ha (fun x hx => by
      simp at hx
      rcases hx with rfl | rfl <;> assumption) v)]
    apply holds_free
    intro v hv
    have hv2 := free_lt hf hv
    have : v = 0 ∨ v = 1 := by
      have := v.isLt
      rcases (show v.val = 0 ∨ v.val = 1 by omega) with h | h
      · left; exact Fin.ext h
      · right; exact Fin.ext h
    rcases this with rfl | rfl <;> rfl
theorem orb_def {a : St} (ha : a.ok) {g : Fm} (hf : g.freeBits / 2 ^ 2 = 0) {x y : Nat} (hx : x < a.n) (hy : y ∈ orbL a.n (isos a a) x) : y ∈ orbL a.n (isos (defS a g) (defS a g)) x := by
  obtain ⟨l, hl, e⟩ := (mem_orbL (aut_grp a) hx).1 hy
  exact (mem_orbL (aut_grp (defS a g)) hx).2 ⟨l, isos_def ha hf hl, e⟩
theorem sym_def {a : St} (ha : a.ok) {g : Fm} (hf : g.freeBits / 2 ^ 2 = 0) : (isos a a).length ∣ (isos (defS a g) (defS a g)).length :=
  lagrange (aut_grp a) (aut_grp (defS a g)) fun l hl => isos_def ha hf hl
/-- how many pairs are related, of those with a first element below k -/
def onesTo (n : Nat) (F : Nat → Nat → Bool) : Nat → Nat
  | 0 => 0
  | k + 1 => onesTo n F k + Pl.cnt n (F k)
theorem ones_le (n : Nat) (F : Nat → Nat → Bool) : ∀ k, onesTo n F k ≤ k * n := by
  intro k
  induction k with
  | zero => simp [onesTo]
  | succ k ih => show onesTo n F k + Pl.cnt n (F k) ≤ _; have := cnt_le n (F k); rw [Nat.succ_mul]; omega
theorem ones_flat (n : Nat) (P : List Nat → Bool) : ∀ k, (((List.range k).flatMap fun x => (List.range n).map fun y => [x, y]).filter P).length = onesTo n (fun x y => P [x, y]) k := by
  intro k
  induction k with
  | zero => rfl
  | succ k ih =>
    rw [List.range_succ, List.flatMap_append, List.filter_append, List.length_append, ih]
    show _ = onesTo n _ k + Pl.cnt n _
    congr 1
    rw [show (List.flatMap (fun x => (List.range n).map fun y => [x, y]) [k]) = (List.range n).map fun y => [k, y] by simp, List.filter_map, List.length_map]
    rfl
theorem ones_cntL (a : St) (g : Fm) : onesTo a.n (pairB a g) a.n = cntL a g 2 := by
  have h : listsK a.n 2 = (List.range a.n).flatMap fun x => (List.range a.n).map fun y => [x, y] := by
    show (([[]] : List (List Nat)).flatMap (extL a.n)).flatMap (extL a.n) = _
    rw [show ([[]] : List (List Nat)).flatMap (extL a.n) = (List.range a.n).map fun x => [x] by simp [extL], List.flatMap_map]
    rfl
  unfold cntL
  rw [h, ones_flat]
  rfl
theorem sym_mod {a : St} (ha : a.ok) {g : Fm} (hf : g.freeBits / 2 ^ 2 = 0) : ((symV (defS a g).n (bs (defS a g).set) (bs (defS a g).rel)).tmod (symV a.n (bs a.set) (bs a.rel))) = 0 ∧ 0 < symV a.n (bs a.set) (bs a.rel) := by
  have e : ∀ {b : St}, b.ok → symV b.n (bs b.set) (bs b.rel) = ((isos b b).length : Nat) := fun {b} hb => by
    unfold symV
    rw [okB_true hb, ofSt_eq]
    rfl
  rw [e (defS_ok ha g), e ha]
  have hp := sym_pos a
  refine ⟨?_, by omega⟩
  rw [← Int.ofNat_tmod, Nat.mod_eq_zero_of_dvd (sym_def ha hf)]
  rfl
theorem st_sm {a : St} (ha : a.ok) : (bs a.set).size ≤ 100 ∧ (bs a.rel).size ≤ 100 := by have := st_small ha; omega
theorem cnt_mono {m n : Nat} (h : m ≤ n) (p : Nat → Bool) : Pl.cnt m p ≤ Pl.cnt n p := by
  induction h with
  | refl => exact Nat.le_refl _
  | step _ ih => rw [cnt_succ]; omega
theorem orbV_leN (a : St) (x : Int) : (orbV a.n (bs a.set) (bs a.rel) x).length ≤ a.n := by
  unfold orbV
  split
  · rw [ofSt_eq]
    unfold orbL
    exact Nat.le_trans (List.length_filter_le _ _) (by simp)
  · simp
end Go.Proofs.YteonanaihklgmaaDoor

namespace Go.Proofs.YteonanaihklgmaaDoor
open Go.ChangeMaps
set_option linter.unusedSimpArgs false
set_option linter.unusedVariables false

/-- keys of which it can be told whether they are the same -/
structure MKey (P : Program) (w : World) (k : TypeId) (S : Value → Prop) : Prop where
  check : ∀ (em : Bool) {v : Value}, S v → (Instr.checkKey em 10000 k v).run P w = .ok () w
  find : ∀ {x : Value}, S x → ∀ es : List MapEntry, (∀ e ∈ es, S e.key) →
    ((Instr.findKey k x es).run P w = .ok none w ∧ ∀ e ∈ es, e.key ≠ x) ∨ ∃ j e, (Instr.findKey k x es).run P w = .ok (some (j, e.val)) w ∧ es[j]? = some e ∧ e.key = x
  stays : ∀ {v : Value}, S v → (Instr.keyThatStays v v).run P w = .ok v w

/-- numbers as keys -/
def IKey (v : Value) : Prop := ∃ n : Nat, v = .int .i64 (n : Nat) ∧ n < 4096
/-- addresses of blocks as keys -/
def PKey (w : World) (v : Value) : Prop := ∃ b c t, v = .pointer (some ⟨b, 0, none⟩) ∧ w.heap[b]? = some (.cells c t (0, 0))

theorem ikey {P : Program} {w : World} {k : TypeId} (hk : P.underlying k = some (.int .i64)) : MKey P w k IKey := by
  have K := Maps.int_keyed hk
  have key : ∀ {v}, IKey v → ∃ l, keyOf P k v = some l := fun {v} ⟨n, hv, hn⟩ => by
    refine ⟨_, hv ▸ Maps.keyOf_int_mk hk (a := (n : Int)) ?_⟩
    simp [Lit.wf, IntKind.min, IntKind.max, IntKind.signed, IntKind.bits]
    omega
  exact ⟨fun em v h => by obtain ⟨l, hl⟩ := key h; exact K.check w em hl, fun {x} h es hes => by
    obtain ⟨l, hl⟩ := key h
    exact K.find w hl es fun e he => key (hes e he), fun {v} h => by obtain ⟨l, hl⟩ := key h; exact K.stays w hl⟩

theorem eq_ptr {P : Program} {w : World} {k e : TypeId} {j : TypeInfo} (hk : P.underlying k = some (.pointer e)) (he : P.info? e = some j) (hsz : j.size ≠ 0) {x y : Value} (hx : PKey w x) (hy : PKey w y) :
    ∃ r : Bool, (Op.equal k x y).run P w = .ok r w ∧ (r = true ↔ x = y) := by
  obtain ⟨a, ca, ta, rfl, ha⟩ := hx
  obtain ⟨b, cb, tb, rfl, hb⟩ := hy
  by_cases hab : a = b
  · subst hab
    refine ⟨true, ?_, by simp⟩
    have h : ∀ d : Nat, (Op.equalIn (d + 1) k (.pointer (some ⟨a, 0, none⟩)) (.pointer (some ⟨a, 0, none⟩))).run P w = .ok true w := fun d => by
      simp [Op.equalIn, run_underlying hk, sizeOf, typeInfo, he, run_sameAddr_same]
    simp only [Op.equal, Op.maxDepth]
    exact h 9999
  · refine ⟨false, ?_, by simp [hab]⟩
    have h := run_sameAddr_other (P := P) w (a := ⟨a, 0, none⟩) (b := ⟨b, 0, none⟩) (by simp [hab]) ha hb
    have h2 : ∀ d : Nat, (Op.equalIn (d + 1) k (.pointer (some ⟨a, 0, none⟩)) (.pointer (some ⟨b, 0, none⟩))).run P w = .ok false w := fun d => by
      simp [Op.equalIn, run_underlying hk, sizeOf, typeInfo, he, hsz, h]
    simp only [Op.equal, Op.maxDepth]
    exact h2 9999

theorem find_ptr {P : Program} {w : World} {k e : TypeId} {j : TypeInfo} (hk : P.underlying k = some (.pointer e)) (he : P.info? e = some j) (hsz : j.size ≠ 0) {x : Value} (hx : PKey w x) : ∀ (es : List MapEntry) (i : Nat), (∀ e ∈ es, PKey w e.key) →
    ((Instr.findAsking k x es i).run P w = .ok none w ∧ ∀ e ∈ es, e.key ≠ x) ∨ ∃ j e, (Instr.findAsking k x es i).run P w = .ok (some (i + j, e.val)) w ∧ es[j]? = some e ∧ e.key = x
  | [], i, _ => .inl ⟨by simp [Instr.findAsking], by simp⟩
  | y :: es, i, hall => by
    obtain ⟨r, hr, hiff⟩ := eq_ptr hk he hsz hx (hall y (by simp))
    cases r with
    | false =>
      have hne : y.key ≠ x := fun h => by have := hiff.2 h.symm; cases this
      rcases find_ptr hk he hsz hx es (i + 1) (fun z hz => hall z (by simp [hz])) with ⟨h1, h2⟩ | ⟨j, e', h1, h2, h3⟩
      · refine .inl ⟨by simp [Instr.findAsking, hr, h1], fun z hz => ?_⟩
        rcases List.mem_cons.1 hz with rfl | hz
        · exact hne
        · exact h2 z hz
      · exact .inr ⟨j + 1, e', by simp [Instr.findAsking, hr, h1, Nat.add_assoc, Nat.add_comm 1 j], by simpa using h2, h3⟩
    | true => exact .inr ⟨0, y, by simp [Instr.findAsking, hr], rfl, (hiff.1 rfl).symm⟩

theorem findNow_ptr {d : TypeId} {x : Value} : ∀ (es : List MapEntry) (i : Nat), Instr.findNow (.pointer d) x es i = if es = [] then some none else none
  | [], i => rfl
  | y :: es, i => by simp [Instr.findNow, Instr.sameNow]

theorem pkey {P : Program} {w : World} {k e : TypeId} {j : TypeInfo} (hk : P.underlying k = some (.pointer e)) (he : P.info? e = some j) (hsz : j.size ≠ 0) : MKey P w k (PKey w) := by
  refine ⟨fun em v ⟨b, c, t, hv, _⟩ => ?_, fun {x} hx es hes => ?_, fun {v} ⟨b, c, t, hv, _⟩ => ?_⟩
  · subst hv
    have h : ∀ n : Nat, (Instr.checkKey em (n + 1) k (.pointer (some ⟨b, 0, none⟩))).run P w = .ok () w := fun n => by
      simp [Instr.checkKey, run_underlying hk]
    exact h 9999
  · cases es with
    | nil => exact .inl ⟨by simp [Instr.findKey, run_underlying hk, findNow_ptr], by simp⟩
    | cons y es =>
      have hf : (Instr.findKey k x (y :: es)).run P w = (Instr.findAsking k x (y :: es)).run P w := by simp [Instr.findKey, run_underlying hk, findNow_ptr]
      rw [hf]
      rcases find_ptr hk he hsz hx (y :: es) 0 hes with h | ⟨j, e', h1, h2, h3⟩
      · exact .inl h
      · exact .inr ⟨j, e', by simpa using h1, h2, h3⟩
  · subst hv
    have h : ∀ n : Nat, Instr.sameBits (n + 1) (.pointer (some ⟨b, 0, none⟩)) (.pointer (some ⟨b, 0, none⟩)) = true := fun n => by
      simp [Instr.sameBits]
    simp only [Instr.keyThatStays, h 9999]
    simp

section
variable {P : Program} {w : World} {k t e : TypeId} {S : Value → Prop} {b : Nat} {es : Array MapEntry} {clock : Nat} {key : Value}

theorem mlook (c : Bool) (K : MKey P w k S) (ht : P.underlying t = some (.map k e)) {z : Value} (hz : (zeroValue e).run P w = .ok z w) (hb : w.heap[b]? = some (.map es clock)) (hS : ∀ x ∈ es.toList, S x.key) (hkey : S key) :
    ((Instr.lookup t (.map (some b)) key c).run P w = .ok (if c then .tuple #[z, .bool false] else z) w ∧ ∀ x ∈ es.toList, x.key ≠ key) ∨
    ∃ e0, e0 ∈ es.toList ∧ e0.key = key ∧ (Instr.lookup t (.map (some b)) key c).run P w = .ok (if c then .tuple #[e0.val, .bool true] else e0.val) w := by
  rcases K.find hkey es.toList hS with ⟨h1, h2⟩ | ⟨j, e0, h1, h2, h3⟩
  · exact .inl ⟨by simp [Instr.lookup, run_underlying ht, MapKept.run_getObj_map hb, K.check _ hkey, h1, hz, Result.andThen], h2⟩
  · exact .inr ⟨e0, List.mem_of_getElem? h2, h3, by simp [Instr.lookup, run_underlying ht, MapKept.run_getObj_map hb, K.check _ hkey, h1, Result.andThen]⟩

theorem mlook_nil (c : Bool) (K : MKey P w k S) (ht : P.underlying t = some (.map k e)) {z : Value} (hz : (zeroValue e).run P w = .ok z w) (hkey : S key) :
    (Instr.lookup t (.map none) key c).run P w = .ok (if c then .tuple #[z, .bool false] else z) w := by
  rcases K.find hkey [] (by simp) with ⟨h1, h2⟩ | ⟨j, e0, h1, h2, h3⟩
  · simp [Instr.lookup, run_underlying ht, K.check _ hkey, h1, hz, Result.andThen]
  · simp at h2

theorem mput (K : MKey P w k S) (ht : P.underlying t = some (.map k e)) (hb : w.heap[b]? = some (.map es clock)) (hS : ∀ x ∈ es.toList, S x.key) (hkey : S key) (val : Value) :
    ∃ es' clock', (Instr.mapUpdate t (.map (some b)) key val).run P w = .ok () (setBlock w b (.map es' clock')) ∧ (∀ x ∈ es'.toList, (x ∈ es.toList ∧ (x.key ≠ key ∨ ∃ y ∈ es'.toList, y.key = key ∧ y.val = val)) ∨ (x.key = key ∧ x.val = val)) ∧ ∃ x ∈ es'.toList, x.key = key ∧ x.val = val := by
  rcases K.find hkey es.toList hS with ⟨h1, h2⟩ | ⟨j, e0, h1, h2, h3⟩
  · refine ⟨es.push ⟨key, val, clock⟩, clock + 1, ?_, ?_, ⟨⟨key, val, clock⟩, by simp, rfl, rfl⟩⟩
    · simp [Instr.mapUpdate, run_underlying ht, MapKept.run_getObj_map hb, K.check false hkey, h1, MapKept.run_setObj_map _ hb, Result.andThen, setBlock]
    · intro x hx
      simp only [Array.toList_push, List.mem_append, List.mem_singleton] at hx
      rcases hx with hx | rfl
      · exact .inl ⟨hx, .inl (h2 x hx)⟩
      · exact .inr ⟨rfl, rfl⟩
  · have hj : es[j]? = some e0 := by simpa using h2
    have hkey2 : (((es[j]?).map (·.key)).getD key) = key := by rw [hj]; exact h3
    have hst := K.stays (v := key) hkey
    have hlt : j < es.size := (Array.getElem?_eq_some_iff.1 hj).1
    have hnew : ({ e0 with key := key, val := val } : MapEntry) ∈ (es.modify j fun x => { x with key, val := val }).toList := by
      have h : (es.modify j fun x => { x with key, val := val })[j]? = some { e0 with key := key, val := val } := by
        simp [Array.getElem?_modify, hj]
      exact Array.mem_toList_iff.2 (Array.mem_of_getElem? h)
    refine ⟨es.modify j fun x => { x with key, val := val }, clock, ?_, ?_, ⟨_, hnew, rfl, rfl⟩⟩
    · simp [Instr.mapUpdate, run_underlying ht, MapKept.run_getObj_map hb, K.check false hkey, h1, MapKept.run_setObj_map _ hb, Result.andThen, setBlock, hj, h3, hst]
    · intro x hx
      obtain ⟨i, hi, rfl⟩ := List.getElem_of_mem hx
      simp only [Array.getElem_toList, Array.getElem_modify]
      split
      · exact .inr ⟨rfl, rfl⟩
      · exact .inl ⟨by simp, .inr ⟨_, hnew, rfl, rfl⟩⟩

end

end Go.Proofs.YteonanaihklgmaaDoor
