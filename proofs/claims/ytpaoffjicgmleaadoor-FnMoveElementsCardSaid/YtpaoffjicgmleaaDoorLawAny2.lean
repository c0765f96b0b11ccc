/-
  Contracts of parts, moved elements and shapes, as the laws ask them. Condition: texts below the reach.
-/
import Derived.Test.YtpaoffjicgmleaaDoorSPartOf
import Derived.Test.YtpaoffjicgmleaaDoorPartOf
import Derived.Test.YtpaoffjicgmleaaDoorSame
import Derived.Test.YtpaoffjicgmleaaDoorPlLaws
namespace Go.Proofs.YtpaoffjicgmleaaDoor
open Go.RowKit
open Pl
set_option linter.unusedSimpArgs false
set_option linter.unusedVariables false

theorem natsI_nodup {l : List Nat} (h : l.Nodup) : (natsI l).Nodup := by
  unfold natsI
  exact map_nodup _ h fun x _ y _ e => by omega
theorem natsI_toNat (l : List Nat) : (natsI l).map Int.toNat = l := by
  unfold natsI
  rw [List.map_map]
  conv => rhs; rw [← List.map_id l]
  exact List.map_congr_left fun x _ => by simp
theorem partB_nats {a : St} (ha : a.ok) {l : List Nat} (h1 : ∀ x ∈ l, x < a.n) (h2 : l.Nodup) (h3 : 0 < l.length) : partB a.n (bs a.set) (bs a.rel) (natsI l) = true := by
  unfold partB
  have e1 : elAll (a.n : Int) (natsI l) = true := by
    unfold elAll
    rw [List.all_eq_true]
    intro z hz
    obtain ⟨x, hx, rfl⟩ := List.mem_map.1 hz
    have := h1 x hx
    unfold elB
    simp
    omega
  have e2 : nodB (natsI l) = true := decide_eq_true (natsI_nodup h2)
  rw [okB_true ha, e1, e2, natsI_len, decide_eq_true h3]
  rfl
theorem partO_nats {a : St} (ha : a.ok) {l : List Nat} (h1 : ∀ x ∈ l, x < a.n) (h2 : l.Nodup) (h3 : 0 < l.length) : partO a.n (bs a.set) (bs a.rel) (natsI l) = some (a.part l) := by
  rw [part_yes (partB_nats ha h1 h2 h3), natsI_toNat]
theorem moveO_nats {a : St} (ha : a.ok) {l : List Nat} (h : IsPerm a.n l) : moveO a.n (bs a.set) (bs a.rel) (natsI l) = some (a.part l) := by
  unfold moveO
  rw [natsI_len, if_pos (by rw [h.len]), partO_nats ha h.lt h.nodup (by rw [h.len]; exact ha.lo)]
theorem st_100' {a : St} (ha : a.ok) : (bs a.set).size ≤ maxLen ∧ (bs a.rel).size ≤ maxLen := by have := st_small ha; unfold maxLen; omega

theorem part_st {a : St} (ha : a.ok) {l : List Nat} (h1 : ∀ x ∈ l, x < a.n) (h2 : l.Nodup) (h3 : 0 < l.length) (h8 : l.length ≤ 8) (A : Option Addr) (cap : Nat) (hc : l.length ≤ cap) (W : World) (hA : LRow W A (natsI l)) :
    Calls Tryd.prog 11 #[stA a, .slice A l.length cap] W fun e w' => e = .returned (.tuple #[stA (a.part l), .bool true]) ∧ Below W.heap.size W w' := by
  have h := PartOf_impl (a.n : Int) (bs a.set) (bs a.rel) A (natsI l) cap W (st_100' ha).1 (st_100' ha).2 (by rw [natsI_len]; omega) (by rw [natsI_len]; exact hc) hA
  rw [partO_nats ha h1 h2 h3, natsI_len] at h
  exact h
theorem move_st {a : St} (ha : a.ok) {l : List Nat} (hp : IsPerm a.n l) (A : Option Addr) (cap : Nat) (hc : l.length ≤ cap) (W : World) (hA : LRow W A (natsI l)) :
    Calls Tryd.prog 34 #[stA a, .slice A l.length cap] W fun e w' => e = .returned (.tuple #[stA (a.part l), .bool true]) ∧ Below W.heap.size W w' := by
  have h8 := ha.hi
  have hl := hp.len
  have h := MoveElements_impl (a.n : Int) (bs a.set) (bs a.rel) A (natsI l) cap W (st_100' ha).1 (st_100' ha).2 (by rw [natsI_len]; omega) (by rw [natsI_len]; exact hc) hA
  rw [moveO_nats ha hp, natsI_len] at h
  exact h

theorem shpI_any (i : Int) (s r : ByteArray) (j : Int) (t u : ByteArray) (hs : s.size ≤ 100) (hr : r.size ≤ 100) (ht : t.size ≤ 100) (hu : u.size ≤ 100) (L : List (List Nat)) (hL : shpL i s r j t u = L) (W : World) :
    Calls Tryd.prog 36 #[stV i s r, stV j t u] W fun e w' => (∃ A cap, e = .returned (.tuple #[.slice A (L.headD []).length cap, .bool (!L.isEmpty)]) ∧ (L.headD []).length ≤ cap ∧ LRow w' A (natsI (L.headD []))) ∧ Below W.heap.size W w' := by
  subst hL
  refine (SameShape_impl i s r j t u W (by unfold maxLen; omega) (by unfold maxLen; omega) (by unfold maxLen; omega) (by unfold maxLen; omega)).mono fun e w' ⟨⟨v, h1, h2⟩, hb⟩ => ⟨?_, hb⟩
  obtain ⟨A, cap, rfl, hc, hrow⟩ := own_open h2
  exact ⟨A, cap, h1, hc, hrow⟩
theorem shpS_any (i : Int) (s r : ByteArray) (j : Int) (t u : ByteArray) (hs : s.size ≤ 100) (hr : r.size ≤ 100) (ht : t.size ≤ 100) (hu : u.size ≤ 100) (L : List (List Nat)) (hL : shpL i s r j t u = L) (W : World) :
    Calls Tryd.prog 39 #[stV i s r, stV j t u] W fun e w' => (∃ A cap, e = .returned (.tuple #[.slice A (L.headD []).length cap, .bool (!L.isEmpty)]) ∧ LRow w' A (natsI (L.headD []))) ∧ Below W.heap.size W w' := by
  subst hL
  refine (SameShape_spec i s r j t u W (by unfold maxLen; omega) (by unfold maxLen; omega) (by unfold maxLen; omega) (by unfold maxLen; omega)).mono fun e w' ⟨⟨g, cap, h1, h2⟩, hb⟩ => ⟨⟨_, cap, h1, h2⟩, hb⟩
theorem shp_sym {i : Int} {s r : ByteArray} {j : Int} {t u : ByteArray} (h : shpL i s r j t u = []) : shpL j t u i s r = [] := by
  rcases shp_cases j t u i s r with ⟨_, h1⟩ | ⟨_, _, h1⟩ | ⟨_, _, _, h1⟩ | ⟨b, a, hb, ha, hab, rfl, rfl, rfl, rfl, rfl, rfl, h1⟩
  · exact h1
  · exact h1
  · exact h1
  · rw [h1]
    have h2 : shpL a.n (bs a.set) (bs a.rel) b.n (bs b.set) (bs b.rel) = isos a b := by
      unfold shpL
      rw [okB_true ha, okB_true hb, ofSt_eq, ofSt_eq, hab]
      simp
    rw [h2] at h
    have := isos_ne_sym (a := a) (b := b) hab.symm
    rw [h] at this
    simpa using this
theorem shp_st {a b : St} (ha : a.ok) (hb : b.ok) (hab : a.n = b.n) : shpL a.n (bs a.set) (bs a.rel) b.n (bs b.set) (bs b.rel) = isos a b := by
  unfold shpL
  rw [okB_true ha, okB_true hb, ofSt_eq, ofSt_eq, hab]
  simp

end Go.Proofs.YtpaoffjicgmleaaDoor
