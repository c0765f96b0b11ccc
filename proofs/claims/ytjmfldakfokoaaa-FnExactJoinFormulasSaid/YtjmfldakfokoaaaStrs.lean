/-
  Slices of strings: the laws' szStringS (toStringS and eqStringS follow). Condition: the slice names a row of strings.
-/
import Derived.Test.YtjmfldakfokoaaaSpecRank
import Derived.OwnWalk
import Derived.Deep.QuietTactic
import Derived.BigQuiet
import Derived.WalkSmall
import Derived.Laws.OwnMore
import Derived.Below
namespace Go.Proofs.Ytjmfldakfokoaaa
open Go.RowKit
open Pl
set_option linter.unusedSimpArgs false

/-- the row of strings that a slice names -/
def SRow (w : World) (v : Value) (zs : List ByteArray) : Prop :=
  (v = .slice none 0 0 ∧ zs = []) ∨ ∃ (a : Addr) (cap : Nat), v = .slice (some a) zs.length cap ∧ zs.length ≤ cap ∧ cap ≤ maxLen ∧ (∀ i, i < zs.length → w.cell? (a.add i) = some (.string (zs.getD i ByteArray.empty))) ∧ ∀ s ∈ zs, s.size ≤ maxLen

/-- the bytes of a row of strings -/
def szL (zs : List ByteArray) : Nat := (zs.map ByteArray.size).sum

theorem szL_take {zs : List ByteArray} {k : Nat} (h : k < zs.length) : szL (zs.take (k + 1)) = szL (zs.take k) + (zs.getD k ByteArray.empty).size := by
  unfold szL
  rw [List.take_succ_eq_append_getElem h, List.map_append, List.sum_append]
  simp [List.getD, h]

theorem szStringS_calls (v : Value) (zs : List ByteArray) (w : World) (left : Nat) (hl : left ≤ 1048576) (hv : SRow w v zs) :
    Calls Try.prog 14 #[v, .int .i64 left] w fun e w' => (∃ m : Int, e = .returned (.int .i64 m) ∧ (0 ≤ m → zs.length + szL zs ≤ left)) ∧ w = w' := by
  rcases hv with ⟨rfl, rfl⟩ | ⟨a, cap, rfl, hle, hm, hc, hs⟩
  · go_enter Try.func14, Try.ntmps14
    go_wp2_with fail
    go_loop [1, 5] (fun l i => l = .int .i64 left ∧ i = .int .i64 0) (fun _ _ => 0)
    case atStart => exact ⟨by go_num, rfl⟩
    case round =>
      obtain ⟨rfl, rfl⟩ := hrel
      go_wp2_with fail
      go_ret
      exact ⟨⟨_, rfl, fun _ => by simp [szL]⟩, rfl⟩
  · have Hc := Lib.hid hc
    have Hs := Lib.hid hs
    clear hc hs
    unfold maxLen at hm
    go_enter Try.func14, Try.ntmps14
    go_wp2_with fail
    · go_ret
      exact ⟨⟨_, rfl, fun h => absurd h (by decide)⟩, rfl⟩
    · go_loop [1, 5] (fun l i => ∃ (k r : Nat), k ≤ zs.length ∧ i = .int .i64 k ∧ l = .int .i64 r ∧ r + zs.length + szL (zs.take k) = left) (fun _ i => zs.length - (intOf i).toNat)
      case atStart => exact ⟨0, left - zs.length, by omega, rfl, by go_num, by simp [szL]; omega⟩
      case round =>
        obtain ⟨k, r, hk, rfl, rfl, hr⟩ := hrel
        by_cases hlt : k < zs.length
        · have hc := Hc.out k hlt
          have hz : (zs.getD k ByteArray.empty).size ≤ maxLen := by
            have hg : zs.getD k ByteArray.empty = zs[k] := by simp [List.getD, hlt]
            rw [hg]; exact Hs.out _ (List.getElem_mem hlt)
          have ht := szL_take hlt
          unfold maxLen at hz
          generalize zs.getD k ByteArray.empty = z at hc hz ht
          have Ht := Lib.hid ht
          have Hr := Lib.hid hr
          have hrl : r ≤ 1048576 := by omega
          clear ht hr
          go_wp2_with fail
          · go_ret
            exact ⟨⟨_, rfl, fun h => absurd h (by decide)⟩, rfl⟩
          · go_round
            case rel => exact ⟨k + 1, r - z.size, by omega, by go_num, by go_num, by have := Ht.out; have := Hr.out; omega⟩
            case measure => simp [intOf]; omega
        · obtain rfl : k = zs.length := by omega
          go_wp2_with fail
          go_ret
          exact ⟨⟨_, rfl, fun _ => by rw [List.take_length] at hr; omega⟩, rfl⟩

theorem add_zero_at (g i : Nat) : (⟨g, 0, none⟩ : Addr).add i = ⟨g, i, none⟩ := by
  unfold Addr.add; split <;> simp_all

theorem SRow_of {w : World} {base g n : Nat} {xs : List Value} {zs : List ByteArray} (h : w.ownsRow base 9 1 (.slice (some ⟨g, 0, none⟩) n n) n xs) (hn : n = zs.length) (hm : n ≤ maxLen)
    (hx : ∀ j, j < n → xs[j]? = some (.string (zs.getD j ByteArray.empty))) (hs : ∀ s ∈ zs, s.size ≤ maxLen) : SRow w (.slice (some ⟨g, 0, none⟩) n n) zs := by
  subst hn
  refine .inr ⟨_, _, rfl, Nat.le_refl _, hm, fun i hi => ?_, hs⟩
  have := h.cellAt i (by omega)
  rw [hx i hi] at this
  rw [add_zero_at]; exact this

set_option maxHeartbeats 400000 in
theorem toStringS_calls (v : Value) (zs : List ByteArray) (w : World) (hn : zs.length ≤ 1048576) (hv : SRow w v zs) :
    Calls Try.prog 16 #[v] w fun e w' => ∃ g, e = .returned (.slice (some ⟨g, 0, none⟩) zs.length zs.length) ∧ w.heap.size ≤ g ∧ SRow w' (.slice (some ⟨g, 0, none⟩) zs.length zs.length) zs ∧ Below w.heap.size w w' := by
  obtain ⟨i0, hi, hz0, hz1, hz2⟩ := info_parts (P := Try.prog) (e := 9) (z := .string ByteArray.empty) (size := 1) (bytes := 16) (by kernel_rfl)
  obtain ⟨w1, hrun, hown, hgr⟩ := run_make_full (P := Try.prog) w w.heap.size 24 9 i0 (.string ByteArray.empty) 1 Try.underlying24 hi hz0 hz1 .i64 .i64 zs.length (by rw [hz2]; omega) (by unfold maxLen; omega) (Nat.le_refl _)
  clear hi hz0 hz1 hz2
  have hb1 : Below w.heap.size w w1 := (Below.refl _ _).grown hgr (Nat.le_refl _) (by simp)
  have Hown := Lib.hid hown
  have Hb1 := Lib.hid hb1
  clear hown hgr hb1
  rcases hv with ⟨rfl, rfl⟩ | ⟨a, cap, rfl, hle, hm, hc, hs⟩
  · have hmk : (Instr.makeSlice 24 (.int .i64 0) (.int .i64 0)).run Try.prog w = .ok (.slice (some ⟨w.heap.size, 0, none⟩) 0 0) w1 := hrun
    clear hrun
    go_enter Try.func16, Try.ntmps16
    go_wp2_with fail
    go_loop [4] (fun i => i = .int .i64 0) (fun _ => 0)
    case atStart => rfl
    case round =>
      obtain rfl := hrel
      go_wp2_with fail
      go_ret
      exact ⟨_, rfl, Nat.le_refl _, SRow_of Hown.out rfl (by simp) (fun j hj => absurd hj (Nat.not_lt_zero _)) (by simp), Hb1.out⟩
  · have Hc := Lib.hid hc
    have Hs := Lib.hid hs
    have hab : ∀ i, i < zs.length → (a.add i).block < w.heap.size := fun i hi => World.block_lt_of_cell? w (a.add i) (hc i hi)
    have Hab := Lib.hid hab
    clear hc hs hab
    unfold maxLen at hm
    go_enter Try.func16, Try.ntmps16
    go_wp2_with fail
    go_loopg [4] zs.length (fun c i wr => ∃ (k : Nat) (xs : List Value), k + c = zs.length ∧ i = .int .i64 k ∧ wr.ownsRow w.heap.size 9 1 (.slice (some ⟨w.heap.size, 0, none⟩) zs.length zs.length) zs.length xs ∧ (∀ j, j < k → xs[j]? = some (.string (zs.getD j ByteArray.empty))) ∧ Below w.heap.size w wr)
    case atStart => exact ⟨0, _, by omega, rfl, Hown.out, fun j hj => absurd hj (Nat.not_lt_zero _), Hb1.out⟩
    case round =>
      obtain ⟨k, xs, hk, rfl, ho, hx, hbr⟩ := hrel
      have Ho := Lib.hid ho
      have Hx := Lib.hid hx
      have Hbr := Lib.hid hbr
      clear ho hx hbr
      by_cases hlt : k < zs.length
      · have hc := (Hbr.out.cell (p := a.add k) (Hab.out k hlt)).trans (Hc.out k hlt)
        have hxl : k < xs.length := by have := Ho.out.1; omega
        have hco := (Ho.out.cellAt k (by omega)).trans (List.getElem?_eq_getElem hxl)
        have hfo := Ho.out.frozenAt k
        go_wp2_with fail
        go_roundg (gk - 1)
        case rel =>
          obtain ⟨h1, h2⟩ := Ho.out.stored k (.string zs[k])
          refine ⟨k + 1, _, by omega, by go_num, h1, fun j hj => ?_, Hbr.out.grown h2 Hbr.out.size (fun _ e => by cases e; exact Nat.le_refl _)⟩
          by_cases hjk : j = k
          · subst hjk; rw [List.getElem?_set_self hxl]; simp [List.getD, hlt]
          · rw [List.getElem?_set_ne (by omega)]; exact Hx.out j (by omega)
        case measure => omega
      · obtain rfl : k = zs.length := by omega
        go_wp2_with fail
        go_ret
        exact ⟨_, rfl, Nat.le_refl _, SRow_of Ho.out rfl (by unfold maxLen; omega) Hx.out Hs.out, Hbr.out⟩

theorem SRow.lt {w : World} {v : Value} {zs : List ByteArray} (h : SRow w v zs) (w' : World) (hb : Below w.heap.size w w') : SRow w' v zs := by
  rcases h with h | ⟨a, cap, rfl, hle, hm, hc, hs⟩
  · exact .inl h
  · exact .inr ⟨a, cap, rfl, hle, hm, fun i hi => (hb.cell (World.block_lt_of_cell? w (a.add i) (hc i hi))).trans (hc i hi), hs⟩

set_option maxHeartbeats 400000 in
/-- two rows of the same strings are equal -/
theorem eqStringS_calls (g g2 : Nat) (zs : List ByteArray) (w : World) (hm : zs.length ≤ 1048576) (h1 : SRow w (.slice (some ⟨g, 0, none⟩) zs.length zs.length) zs) (h2 : SRow w (.slice (some ⟨g2, 0, none⟩) zs.length zs.length) zs) :
    Calls Try.prog 18 #[.slice (some ⟨g, 0, none⟩) zs.length zs.length, .slice (some ⟨g2, 0, none⟩) zs.length zs.length] w fun e w' => e = .returned (.bool true) ∧ Below w.heap.size w w' := by
  rcases h1 with ⟨h, _⟩ | ⟨a1, cap1, e1, _, _, hc1, hs1⟩
  · simp at h
  rcases h2 with ⟨h, _⟩ | ⟨a2, cap2, e2, _, _, hc2, _⟩
  · simp at h
  simp only [Value.slice.injEq, Option.some.injEq] at e1 e2
  obtain ⟨rfl, _, _⟩ := e1
  obtain ⟨rfl, _, _⟩ := e2
  have Hc1 := Lib.hid hc1
  have Hc2 := Lib.hid hc2
  clear hc1 hc2 hs1
  go_enter Try.func18, Try.ntmps18
  go_wp2_with fail
  go_loopg [5] zs.length (fun c i wr => ∃ k : Nat, k + c = zs.length ∧ i = .int .i64 k ∧ Below w.heap.size w wr)
  case atStart => exact ⟨0, by omega, rfl, Below.refl _ _⟩
  case round =>
    obtain ⟨k, hk, rfl, hbr⟩ := hrel
    by_cases hlt : k < zs.length
    · have d1 := (hbr.cell (World.block_lt_of_cell? w _ (Hc1.out k hlt))).trans (Hc1.out k hlt)
      have d2 := (hbr.cell (World.block_lt_of_cell? w _ (Hc2.out k hlt))).trans (Hc2.out k hlt)
      rw [add_zero_at] at d1 d2
      have Hbr := Lib.hid hbr
      clear hbr
      go_upto_region 6 with (fail)
      go_quiet (fail)
      go_wp2_with fail
      go_roundg (gk - 1)
      case rel => exact ⟨k + 1, by omega, by go_num, below_drewN Hbr.out _⟩
      case measure => omega
    · obtain rfl : k = zs.length := by omega
      have Hbr := Lib.hid hbr
      clear hbr
      go_wp2_with fail
      go_ret
      exact ⟨rfl, Hbr.out⟩

end Go.Proofs.Ytjmfldakfokoaaa
