/-
  Lists of numbers in memory: what reads them, copies them, holds them against each other. Condition: at most 2^20 numbers.
-/
import Derived.Test.YtgnmlijfenjehaaDoorMk
import Derived.Laws.MakeOwn
import Derived.Laws.OwnMore
import Derived.OwnWalk
import Derived.Deep.QuietTactic
import Derived.BigQuiet
namespace Go.Proofs.YtgnmlijfenjehaaDoor
open Go.RowKit
open Pl
set_option linter.unusedSimpArgs false
set_option linter.unusedVariables false

theorem below_drewN' {B : Nat} {a w : World} (h : Below B a w) (n : Nat) : Below B a (w.drewN n) := ⟨h.os, h.tape, h.output, h.size, h.block⟩

/-- an address at which the numbers lie -/
def LRow (w : World) (A : Option Addr) (zs : List Int) : Prop := 0 < zs.length → ∃ g, A = some ⟨g, 0, none⟩ ∧ ∀ i, i < zs.length → w.cell? ⟨g, i, none⟩ = some (.int .i64 (zs.getD i 0))

theorem LRow.call {w w' : World} {A : Option Addr} {zs : List Int} (h : LRow w A zs) (hb : Below w.heap.size w w') : LRow w' A zs := fun hn => by
  obtain ⟨g, rfl, hc⟩ := h hn
  exact ⟨g, rfl, fun i hi => (hb.cell (World.block_lt_of_cell? w _ (hc i hi))).trans (hc i hi)⟩
theorem LRow.below {w w' : World} {A : Option Addr} {zs : List Int} {B : Nat} (h : LRow w A zs) (hB : ∀ g, A = some ⟨g, 0, none⟩ → g < B) (hb : Below B w w') : LRow w' A zs := fun hn => by
  obtain ⟨g, rfl, hc⟩ := h hn
  exact ⟨g, rfl, fun i hi => (hb.cell (p := ⟨g, i, none⟩) (hB g rfl)).trans (hc i hi)⟩
theorem LRow.drew {w : World} {A : Option Addr} {zs : List Int} (h : LRow w A zs) : LRow w.drew A zs := h
theorem LRow.alloc {w : World} {A : Option Addr} {zs : List Int} (h : LRow w A zs) (o : Obj) : LRow (w.alloc o) A zs := h.call ((Below.refl _ _).alloc (Nat.le_refl _) _)
theorem LRow.take {w : World} {A : Option Addr} {zs : List Int} (h : LRow w A zs) (k : Nat) : LRow w A (zs.take k) := fun hn => by
  rw [List.length_take] at hn
  obtain ⟨g, rfl, hc⟩ := h (by omega)
  refine ⟨g, rfl, fun i hi => ?_⟩
  rw [List.length_take] at hi
  rw [hc i (by omega)]
  simp [List.getD, List.getElem?_take, show i < k by omega]

theorem getD_mem {zs : List Int} {k : Nat} (h : k < zs.length) : zs.getD k 0 ∈ zs := by
  simp only [List.getD_eq_getElem?_getD, List.getElem?_eq_getElem h, Option.getD_some]
  exact List.getElem_mem h
theorem mem_getD {zs : List Int} {x : Int} (h : x ∈ zs) : ∃ k, k < zs.length ∧ zs.getD k 0 = x := by
  obtain ⟨k, hk, rfl⟩ := List.getElem_of_mem h
  exact ⟨k, hk, by simp [List.getD, hk]⟩

set_option maxHeartbeats 400000 in
theorem Index_calls (A : Option Addr) (zs : List Int) (cap : Nat) (x : Int) (w : World) (hn : zs.length ≤ 1048576) (hA : LRow w A zs) :
    Calls Tryd.prog 66 #[.slice A zs.length cap, .int .i64 x] w fun e w' => (∃ m : Int, e = .returned (.int .i64 m) ∧ (0 ≤ m ↔ x ∈ zs)) ∧ w = w' := by
  have HA := Lib.hid hA
  clear hA
  go_enter Tryd.func66, Tryd.ntmps66
  go_wp2_with fail
  go_loop [8] (fun i => ∃ k : Nat, k ≤ zs.length ∧ i = .int .i64 k ∧ ∀ j, j < k → zs.getD j 0 ≠ x) (fun i => zs.length - (intOf i).toNat)
  case atStart => exact ⟨0, Nat.zero_le _, rfl, fun j hj => absurd hj (Nat.not_lt_zero _)⟩
  case round =>
    obtain ⟨k, hk, rfl, hno⟩ := hrel
    have Hno := Lib.hid hno
    clear hno
    by_cases hlt : k < zs.length
    · obtain ⟨g, rfl, hc⟩ := HA.out (by omega)
      have hck := hc k hlt
      have hmem := getD_mem hlt
      obtain ⟨z, hz⟩ : ∃ z, z = zs.getD k 0 := ⟨_, rfl⟩
      rw [← hz] at hck hmem
      have Hz := Lib.hid hz
      clear hc hz
      by_cases hx : x = z
      · have hb : (x == z) = true := beq_iff_eq.2 hx
        subst hx
        have Hm := Lib.hid hmem
        clear hmem
        go_wp2_with fail
        go_ret
        exact ⟨⟨_, rfl, ⟨fun _ => Hm.out, fun _ => by omega⟩⟩, rfl⟩
      · have hb : (x == z) = false := beq_eq_false_iff_ne.2 hx
        have Hx := Lib.hid hx
        clear hmem hx
        go_wp2_with fail
        go_round
        case rel =>
          refine ⟨k + 1, by omega, by go_num, fun j hj => ?_⟩
          by_cases hjk : j = k
          · subst hjk; rw [← Hz.out]; exact fun e => Hx.out e.symm
          · exact Hno.out j (by omega)
        case measure => simp [intOf]; omega
    · go_wp2_with fail
      go_ret
      refine ⟨⟨_, rfl, ⟨fun h => absurd h (by decide), fun h => ?_⟩⟩, rfl⟩
      obtain ⟨j, hj, e⟩ := mem_getD h
      exact absurd e (Hno.out j (by omega))

theorem Contains_calls (A : Option Addr) (zs : List Int) (cap : Nat) (x : Int) (w : World) (hn : zs.length ≤ 1048576) (hA : LRow w A zs) :
    Calls Tryd.prog 35 #[.slice A zs.length cap, .int .i64 x] w fun e w' => e = .returned (.bool (decide (x ∈ zs))) ∧ w = w' := by
  have hc := Index_calls A zs cap x w hn hA
  have Hc := Lib.hid hc
  clear hc hA
  go_enter Tryd.func35, Tryd.ntmps35
  go_wp2_with fail
  refine (Hc.out).mono ?_
  rintro e w' ⟨⟨m, rfl, hm⟩, rfl⟩
  have Hm := Lib.hid hm
  clear hm
  go_wp2_with fail
  go_ret
  refine ⟨?_, rfl⟩
  show Ending.returned (.bool (decide (0 ≤ m))) = _
  congr 2
  exact decide_eq_decide.2 Hm.out

set_option maxHeartbeats 400000 in
theorem l1Has_calls (A : Option Addr) (zs : List Int) (cap : Nat) (x : Int) (w : World) (hn : zs.length ≤ 1048576) (hA : LRow w A zs) :
    Calls Tryd.prog 30 #[.slice A zs.length cap, .int .i64 x] w fun e w' => e = .returned (.bool (decide (x ∈ zs))) ∧ w = w' := by
  have HA := Lib.hid hA
  obtain ⟨V, hV⟩ : ∃ V, V = decide (x ∈ zs) := ⟨_, rfl⟩
  rw [← hV]
  have HV := Lib.hid hV
  clear hA hV
  go_enter Tryd.func30, Tryd.ntmps30
  go_wp2_with fail
  go_loop [5] (fun i => ∃ k : Nat, k ≤ zs.length ∧ i = .int .i64 k ∧ ∀ j, j < k → zs.getD j 0 ≠ x) (fun i => zs.length - (intOf i).toNat)
  case atStart => exact ⟨0, Nat.zero_le _, rfl, fun j hj => absurd hj (Nat.not_lt_zero _)⟩
  case round =>
    obtain ⟨k, hk, rfl, hno⟩ := hrel
    have Hno := Lib.hid hno
    clear hno
    by_cases hlt : k < zs.length
    · obtain ⟨g, rfl, hc⟩ := HA.out (by omega)
      have hck := hc k hlt
      have hmem := getD_mem hlt
      obtain ⟨z, hz⟩ : ∃ z, z = zs.getD k 0 := ⟨_, rfl⟩
      rw [← hz] at hck hmem
      have Hz := Lib.hid hz
      clear hc hz
      by_cases hx : z = x
      · have hb : (z == x) = true := beq_iff_eq.2 hx
        subst hx
        have Hm := Lib.hid hmem
        clear hmem
        go_wp2_with fail
        go_ret
        exact ⟨by rw [HV.out, decide_eq_true Hm.out]; rfl, rfl⟩
      · have hb : (z == x) = false := beq_eq_false_iff_ne.2 hx
        have Hx := Lib.hid hx
        clear hmem hx
        go_wp2_with fail
        go_round
        case rel =>
          refine ⟨k + 1, by omega, by go_num, fun j hj => ?_⟩
          by_cases hjk : j = k
          · subst hjk; rw [← Hz.out]; exact Hx.out
          · exact Hno.out j (by omega)
        case measure => simp [intOf]; omega
    · have hne : ¬ x ∈ zs := fun h => by
        obtain ⟨j, hj, e⟩ := mem_getD h
        exact absurd e (Hno.out j (by omega))
      have Hne := Lib.hid hne
      clear hne
      go_wp2_with fail
      go_ret
      exact ⟨by rw [HV.out, decide_eq_false Hne.out]; rfl, rfl⟩

/-- a list as a row of the call's own -/
def intsV (zs : List Int) : List Value := zs.map (Value.int .i64)

theorem LRow_of {w : World} {base : Nat} {A : Option Addr} {n cap : Nat} {zs : List Int} (h : w.ownsRow base 3 1 (.slice A n cap) n (intsV zs)) : LRow w A zs := by
  intro hn
  have hl := h.1
  have hzl : zs.length = n := by simpa [intsV] using hl
  obtain ⟨g, hA⟩ : ∃ g, A = some ⟨g, 0, none⟩ := by
    rcases h.2 with ⟨_, h0⟩ | ⟨g, c, cur, hv, _⟩
    · omega
    · exact ⟨g, by injection hv⟩
  subst hA
  refine ⟨g, rfl, fun i hi => ?_⟩
  have := h.cellAt i (by omega)
  rw [this]
  simp [intsV, List.getD, hi]

set_option maxHeartbeats 400000 in
theorem toIntS_calls (A : Option Addr) (cap : Nat) (zs : List Int) (w : World) (hn : zs.length ≤ 1048576) (hA : LRow w A zs) :
    Calls Tryd.prog 12 #[.slice A zs.length cap] w fun e w' => e = .returned (.slice (some ⟨w.heap.size, 0, none⟩) zs.length zs.length) ∧ w'.ownsRow w.heap.size 3 1 (.slice (some ⟨w.heap.size, 0, none⟩) zs.length zs.length) zs.length (intsV zs) ∧ Below w.heap.size w w' := by
  obtain ⟨i0, hi, hz0, hz1, hz2⟩ := info_parts (P := Tryd.prog) (e := 3) (z := .int .i64 0) (size := 1) (bytes := 8) (by kernel_rfl)
  obtain ⟨w1, hrun, hown, hgr⟩ := run_make_full (P := Tryd.prog) w w.heap.size 24 3 i0 (.int .i64 0) 1 Tryd.underlying24 hi hz0 hz1 .i64 .i64 zs.length (by rw [hz2]; omega) (by unfold maxLen; omega) (Nat.le_refl _)
  clear hi hz0 hz1 hz2
  have hb1 : Below w.heap.size w w1 := (Below.refl _ _).grown hgr (Nat.le_refl _) (by simp)
  have Hown := Lib.hid hown
  have Hb1 := Lib.hid hb1
  have HA := Lib.hid hA
  clear hown hgr hb1 hA
  go_enter Tryd.func12, Tryd.ntmps12
  go_wp2_with fail
  go_loopg [4] zs.length (fun c i wr => ∃ (k : Nat) (xs : List Value), k + c = zs.length ∧ i = .int .i64 k ∧ wr.ownsRow w.heap.size 3 1 (.slice (some ⟨w.heap.size, 0, none⟩) zs.length zs.length) zs.length xs ∧ (∀ j, j < k → xs[j]? = some (.int .i64 (zs.getD j 0))) ∧ Below w.heap.size w wr)
  case atStart => exact ⟨0, _, by omega, rfl, Hown.out, fun j hj => absurd hj (Nat.not_lt_zero _), Hb1.out⟩
  case round =>
    obtain ⟨k, xs, hk, rfl, ho, hx, hbr⟩ := hrel
    have Ho := Lib.hid ho
    have Hx := Lib.hid hx
    have Hbr := Lib.hid hbr
    clear ho hx hbr
    by_cases hlt : k < zs.length
    · obtain ⟨g, rfl, hc⟩ := HA.out (by omega)
      have hck := (Hbr.out.cell (World.block_lt_of_cell? w _ (hc k hlt))).trans (hc k hlt)
      have hxl : k < xs.length := by have := Ho.out.1; omega
      have hco := (Ho.out.cellAt k (by omega)).trans (List.getElem?_eq_getElem hxl)
      have hfo := Ho.out.frozenAt k
      obtain ⟨z, hz⟩ : ∃ z, z = zs.getD k 0 := ⟨_, rfl⟩
      rw [← hz] at hck
      have Hz := Lib.hid hz
      clear hc hz
      go_wp2_with fail
      go_roundg (gk - 1)
      case rel =>
        obtain ⟨h1, h2⟩ := Ho.out.stored k (.int .i64 z)
        refine ⟨k + 1, _, by omega, by go_num, h1, fun j hj => ?_, Hbr.out.grown h2 Hbr.out.size (fun _ e => by cases e; exact Nat.le_refl _)⟩
        by_cases hjk : j = k
        · subst hjk; rw [List.getElem?_set_self hxl, Hz.out]
        · rw [List.getElem?_set_ne (by omega)]; exact Hx.out j (by omega)
      case measure => omega
    · have hk2 : k = zs.length := by omega
      have hxs : xs = intsV zs := by
        apply List.ext_getElem?
        intro j
        have hxl := Ho.out.1
        by_cases hj : j < zs.length
        · rw [Hx.out j (by omega)]
          simp [intsV, List.getD, hj]
        · rw [List.getElem?_eq_none (by omega), List.getElem?_eq_none (by simp [intsV]; omega)]
      have Hxs := Lib.hid hxs
      clear hxs hk2
      go_wp2_with fail
      go_ret
      exact ⟨rfl, by rw [← Hxs.out]; exact Ho.out, Hbr.out⟩

set_option maxHeartbeats 400000 in

theorem eqIntS_calls (A C : Option Addr) (c1 c2 : Nat) (zs : List Int) (w : World) (hm : zs.length ≤ 1048576) (h1 : LRow w A zs) (h2 : LRow w C zs) :
    Calls Tryd.prog 14 #[.slice A zs.length c1, .slice C zs.length c2] w fun e w' => e = .returned (.bool true) ∧ Below w.heap.size w w' := by
  have H1 := Lib.hid h1
  have H2 := Lib.hid h2
  clear h1 h2
  go_enter Tryd.func14, Tryd.ntmps14
  go_wp2_with fail
  go_loopg [5] zs.length (fun c i wr => ∃ k : Nat, k + c = zs.length ∧ i = .int .i64 k ∧ Below w.heap.size w wr)
  case atStart => exact ⟨0, by omega, rfl, Below.refl _ _⟩
  case round =>
    obtain ⟨k, hk, rfl, hbr⟩ := hrel
    by_cases hlt : k < zs.length
    · obtain ⟨g, rfl, hc⟩ := H1.out (by omega)
      obtain ⟨g2, rfl, hc2⟩ := H2.out (by omega)
      have d1 := (hbr.cell (World.block_lt_of_cell? w _ (hc k hlt))).trans (hc k hlt)
      have d2 := (hbr.cell (World.block_lt_of_cell? w _ (hc2 k hlt))).trans (hc2 k hlt)
      have Hbr := Lib.hid hbr
      clear hbr hc hc2
      generalize zs.getD k 0 = z at d1 d2
      go_upto_region 6 with (fail)
      go_quiet (fail)
      go_wp2_with fail
      go_roundg (gk - 1)
      case rel => exact ⟨k + 1, by omega, by go_num, below_drewN' Hbr.out _⟩
      case measure => omega
    · have Hbr := Lib.hid hbr
      clear hbr
      go_wp2_with fail
      go_ret
      exact ⟨rfl, Hbr.out⟩

end Go.Proofs.YtgnmlijfenjehaaDoor
