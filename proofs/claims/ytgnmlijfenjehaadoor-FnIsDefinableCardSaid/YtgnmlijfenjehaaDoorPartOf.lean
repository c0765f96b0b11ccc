/-
  PartOf and MoveElements of the program. Condition: at most 2^20 numbers, texts below the reach.
-/
import Derived.Test.YtgnmlijfenjehaaDoorPart
import Derived.Test.YtgnmlijfenjehaaDoorPerms
import Derived.Test.YtgnmlijfenjehaaDoorFmt
namespace Go.Proofs.YtgnmlijfenjehaaDoor
open Go.RowKit
open Pl
set_option linter.unusedSimpArgs false
set_option linter.unusedVariables false

/-- some elements can be a part -/
def partB (i : Int) (s r : ByteArray) (zs : List Int) : Bool := okB i s r && (decide (0 < zs.length) && (elAll i zs && nodB zs))
def partO (i : Int) (s r : ByteArray) (zs : List Int) : Option St := if partB i s r zs then some ((ofSt i s r).part (zs.map Int.toNat)) else none
def moveO (i : Int) (s r : ByteArray) (zs : List Int) : Option St := if (zs.length : Int) = i then partO i s r zs else none

theorem nats_of {n : Nat} {zs : List Int} (h : elAll n zs = true) (h2 : nodB zs = true) : ∃ ns : List Nat, zs = natsI ns ∧ (∀ x ∈ ns, x < n) ∧ ns.Nodup ∧ ns.length ≤ n ∧ zs.map Int.toNat = ns := by
  have hel : ∀ z ∈ zs, 0 ≤ z ∧ z < n := fun z hz => by
    have := List.all_eq_true.1 h z hz
    unfold elB at this
    simpa using this
  have hnd : zs.Nodup := of_decide_eq_true h2
  have hz : zs = natsI (zs.map Int.toNat) := by
    unfold natsI
    rw [List.map_map]
    conv => lhs; rw [← List.map_id zs]
    apply List.map_congr_left
    intro z hzm
    have := hel z hzm
    simp only [Function.comp, id]; omega
  have hlt : ∀ x ∈ zs.map Int.toNat, x < n := fun x hx => by
    obtain ⟨z, hzm, rfl⟩ := List.mem_map.1 hx
    have := hel z hzm; omega
  have hnd2 : (zs.map Int.toNat).Nodup := map_nodup zs hnd fun x hx y hy e => by
    have := hel x hx; have := hel y hy; omega
  refine ⟨zs.map Int.toNat, hz, hlt, hnd2, ?_, rfl⟩
  have := nodup_len_le (zs.map Int.toNat) (List.range n) hnd2 (fun x hx => List.mem_range.2 (hlt x hx))
  simpa using this

theorem part_no {i : Int} {s r : ByteArray} {zs : List Int} (h : partB i s r zs = false) : partO i s r zs = none := by unfold partO; rw [h]; rfl
theorem part_yes {a : St} {zs : List Int} (h : partB a.n (bs a.set) (bs a.rel) zs = true) : partO a.n (bs a.set) (bs a.rel) zs = some (a.part (zs.map Int.toNat)) := by unfold partO; rw [h]; rfl

end Go.Proofs.YtgnmlijfenjehaaDoor
