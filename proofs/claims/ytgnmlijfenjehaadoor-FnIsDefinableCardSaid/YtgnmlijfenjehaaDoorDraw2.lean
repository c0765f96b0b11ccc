/-
  The reader of random numbers: numbers and texts of a list, and its beginning. Condition: at most 2^40 numbers are drawn.
-/
import Derived.Test.YtgnmlijfenjehaaDoorDraw
namespace Go.Proofs.YtgnmlijfenjehaaDoor
open Go.RowKit
open Pl
set_option linter.unusedSimpArgs false
set_option linter.unusedVariables false

/-- texts that lie in a block -/
def SCells (w : World) (g : Nat) (ss : List ByteArray) : Prop := ∀ i, i < ss.length → w.cell? ⟨g, i, none⟩ = some (.string (ss.getD i ⟨#[]⟩))
def NCells (w : World) (g : Nat) (zs : List Int) : Prop := ∀ i, i < zs.length → w.cell? ⟨g, i, none⟩ = some (.int .i64 (zs.getD i 0))

theorem grown_cell {w w' : World} {rb g i : Nat} {v : Value} (hg : w.grownBy w' (some rb)) (hne : g ≠ rb) (h : w.cell? ⟨g, i, none⟩ = some v) : w'.cell? ⟨g, i, none⟩ = some v := by
  rw [← h]
  exact World.cell?_of_block (hg.block g (World.block_lt_of_cell? w _ h) (by simp; exact hne))

set_option maxHeartbeats 1000000 in
theorem num_calls (rb : Nat) (A : Option Addr) (n cap p g c : Nat) (zs : List Int) (w : World) (h : Rd w rb A n cap p) (hp : p ≤ 1099511627776) (hz : 0 < zs.length) (hz2 : zs.length ≤ 1000) (hL : NCells w g zs) (hg : g ≠ rb) :
    Calls Tryd.prog 40 #[.pointer (some ⟨rb, 0, none⟩), .slice (some ⟨g, 0, none⟩) zs.length c] w fun e w' => (∃ m : Int, e = .returned (.int .i64 m) ∧ m ∈ zs) ∧ Rd w' rb A n cap (p + 1) ∧ w.grownBy w' (some rb) := by
  have hpk := pick_calls rb A n cap p (zs.length : Nat) w h hp (by omega)
  have Hpk := Lib.hid hpk
  have HL := Lib.hid hL
  clear hpk hL h
  go_enter Tryd.func40, Tryd.ntmps40
  go_wp2_with fail
  refine (Hpk.out).mono ?_
  rintro e w1 ⟨⟨m, rfl, hm0, hm1, _⟩, hr, hg1⟩
  have hmm := hm1 (by omega)
  obtain ⟨k, rfl⟩ : ∃ k : Nat, m = k := ⟨m.toNat, by omega⟩
  have hk : k < zs.length := by omega
  have hc := grown_cell hg1 hg (HL.out k hk)
  have Hr := Lib.hid hr
  have Hg1 := Lib.hid hg1
  have hmem := getD_mem hk
  have Hmem := Lib.hid hmem
  clear hr hg1 hm1 hmem
  go_wp2_with fail
  go_ret
  exact ⟨⟨_, rfl, List.getElem_mem hk⟩, Hr.out, Hg1.out⟩

set_option maxHeartbeats 1000000 in
theorem of_calls (rb : Nat) (A : Option Addr) (n cap p g c : Nat) (ss : List ByteArray) (w : World) (h : Rd w rb A n cap p) (hp : p ≤ 1099511627776) (hz : 0 < ss.length) (hz2 : ss.length ≤ 1000) (hL : SCells w g ss) (hg : g ≠ rb) :
    Calls Tryd.prog 68 #[.pointer (some ⟨rb, 0, none⟩), .slice (some ⟨g, 0, none⟩) ss.length c] w fun e w' => (∃ t : ByteArray, e = .returned (.string t) ∧ t ∈ ss) ∧ Rd w' rb A n cap (p + 1) ∧ w.grownBy w' (some rb) := by
  have hpk := pick_calls rb A n cap p (ss.length : Nat) w h hp (by omega)
  have Hpk := Lib.hid hpk
  have HL := Lib.hid hL
  clear hpk hL h
  go_enter Tryd.func68, Tryd.ntmps68
  go_wp2_with fail
  refine (Hpk.out).mono ?_
  rintro e w1 ⟨⟨m, rfl, hm0, hm1, _⟩, hr, hg1⟩
  have hmm := hm1 (by omega)
  obtain ⟨k, rfl⟩ : ∃ k : Nat, m = k := ⟨m.toNat, by omega⟩
  have hk : k < ss.length := by omega
  have hc := grown_cell hg1 hg (HL.out k hk)
  have hmem : ss.getD k ⟨#[]⟩ ∈ ss := by
    simp only [List.getD_eq_getElem?_getD, List.getElem?_eq_getElem hk, Option.getD_some]
    exact List.getElem_mem hk
  have Hr := Lib.hid hr
  have Hg1 := Lib.hid hg1
  have Hmem := Lib.hid hmem
  clear hr hg1 hm1 hmem
  go_wp2_with fail
  go_ret
  exact ⟨⟨_, rfl, List.getElem_mem hk⟩, Hr.out, Hg1.out⟩

/-- the reader, new -/
def OpenP (rb : Nat) (e : Ending) (w' : World) : Prop := ∃ (A' : Option Addr) (n' cap' : Nat), e = .returned (.pointer (some ⟨rb, 0, none⟩)) ∧ Rd w' rb A' n' cap' 0

set_option maxHeartbeats 1000000 in
theorem l15Open_calls (A : Option Addr) (n cap : Nat) (w : World) (h : ByRow w A n) (hn : n ≤ 1048576) (hc : n ≤ cap) (hm : cap ≤ maxLen) :
    Calls Tryd.prog 36 #[.slice A n cap] w fun e w' => OpenP w.heap.size e w' ∧ Below w.heap.size w w' := by
  have hrd : ∀ (m c : Nat), m ≤ 2000 → m ≤ n → Rd (w.alloc (.cells #[.slice A m c, .int .i64 0] 90)) w.heap.size A m c 0 := fun m c h1 h2 =>
    ⟨Bx.new w _ _, fun h0 => by
      obtain ⟨x, rfl, hcs⟩ := h (by omega)
      refine ⟨x, rfl, fun i hi => ?_⟩
      obtain ⟨b, hb, hcell⟩ := hcs i (by omega)
      exact ⟨b, hb, (((Below.refl w.heap.size w).alloc (Nat.le_refl _) _).cell (World.block_lt_of_cell? w _ hcell)).trans hcell⟩, h1, fun h0 x hx => by
      obtain ⟨y, hy, hcs⟩ := h (by omega)
      obtain rfl : y = x := Option.some.inj (hy.symm.trans hx)
      obtain ⟨b, _, hcell⟩ := hcs 0 (by omega)
      have hl := World.block_lt_of_cell? w _ hcell
      have hbl : (y.add 0).block = y.block := by unfold Addr.add; split <;> rfl
      rwa [hbl] at hl⟩
  have Hrd := Lib.hid hrd
  clear hrd h
  unfold maxLen at hm
  have i1 : (0 : Int) ≤ (n : Int) := by omega
  have i2 : (n : Int) ≤ (cap : Int) := by omega
  by_cases hl : 2000 < n
  · have h1 : (2000 : Int) < (n : Int) := by omega
    have h2 : (2000 : Int) ≤ (cap : Int) := by omega
    go_enter Tryd.func36, Tryd.ntmps36
    go_wp2_with fail
    go_ret
    exact ⟨⟨_, _, _, rfl, Hrd.out 2000 cap (by omega) (by omega)⟩, (Below.refl _ _).alloc (Nat.le_refl _) _⟩
  · have h1 : ¬ (2000 : Int) < (n : Int) := by omega
    go_enter Tryd.func36, Tryd.ntmps36
    go_wp2_with fail
    go_ret
    exact ⟨⟨_, _, _, rfl, Hrd.out n cap (by omega) (by omega)⟩, (Below.refl _ _).alloc (Nat.le_refl _) _⟩

end Go.Proofs.YtgnmlijfenjehaaDoor
