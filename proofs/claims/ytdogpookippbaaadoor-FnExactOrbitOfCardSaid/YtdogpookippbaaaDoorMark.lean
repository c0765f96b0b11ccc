/-
  Marks in lists: markIntS and heldIntS of the laws. Condition: at most 2^20 numbers.
-/
import Derived.Test.YtdogpookippbaaaDoorApp
namespace Go.Proofs.YtdogpookippbaaaDoor
open Go.RowKit
open Pl
set_option linter.unusedSimpArgs false
set_option linter.unusedVariables false

/-- the marks -/
def marksI (n : Nat) : List Int := (List.range n).map fun j : Nat => 1 + (j : Int)
theorem marks_len (n : Nat) : (marksI n).length = n := by simp [marksI]
theorem marks_get {n j : Nat} (h : j < n) : (marksI n).getD j 0 = 1 + (j : Int) := by simp [marksI, List.getD, h]

theorem own_form0 {w : World} {base n : Nat} {e : TypeId} {v : Value} {xs : List Value} (h : w.ownsRow base e 1 v n xs) (hn : 0 < n) : ∃ g cap, v = .slice (some ⟨g, 0, none⟩) n cap := by
  obtain ⟨_, ⟨_, h0⟩ | ⟨g, cap, _, hv, _⟩⟩ := h
  · omega
  · exact ⟨g, cap, hv⟩

set_option maxHeartbeats 400000 in
set_option maxRecDepth 100000 in
theorem markIntS_calls (base : Nat) (A : Option Addr) (n cap : Nat) (xs : List Value) (w : World) (hn : n ≤ 1048576) (hown : w.ownsRow base 3 1 (.slice A n cap) n xs) (hbase : base ≤ w.heap.size) :
    Calls Tryd.prog 17 #[.slice A n cap, .int .i64 1] w fun e w' => e = .returned (.int .i64 (1 + (n : Int))) ∧ w'.ownsRow base 3 1 (.slice A n cap) n (intsV (marksI n)) ∧ Below base w w' := by
  have Hown := Lib.hid hown
  clear hown
  go_enter Tryd.func17, Tryd.ntmps17
  go_wp2_with fail
  go_loopg [1, 5] n (fun c m i wr => ∃ (k : Nat) (ys : List Value), k + c = n ∧ i = .int .i64 k ∧ m = .int .i64 (1 + (k : Int)) ∧ wr.ownsRow base 3 1 (.slice A n cap) n ys ∧ (∀ j, j < k → ys[j]? = some (.int .i64 (1 + (j : Int)))) ∧ Below base w wr)
  case atStart => exact ⟨0, _, by omega, rfl, rfl, Hown.out, fun j hj => absurd hj (Nat.not_lt_zero _), Below.refl _ _⟩
  case round =>
    clear Hown
    obtain ⟨k, ys, hk, rfl, rfl, ho, hx, hbr⟩ := hrel
    have Hx := Lib.hid hx
    have Hbr := Lib.hid hbr
    clear hx hbr
    by_cases hlt : k < n
    · obtain ⟨g, cap, e⟩ := own_form0 ho (by omega)
      injection e with e1 e2 e3
      subst e1 e3
      have Ho := Lib.hid ho
      have hxl : k < ys.length := by have := ho.1; omega
      have hco := (ho.cellAt k (by omega)).trans (List.getElem?_eq_getElem hxl)
      have hfo := ho.frozenAt k
      clear ho e2
      go_wp2_with fail
      go_roundg (n - k - 1)
      case rel =>
        obtain ⟨h1, h2⟩ := Ho.out.stored k (.int .i64 (1 + (k : Int)))
        refine ⟨k + 1, _, by omega, by go_num, by go_num, h1, fun j hj => ?_, Hbr.out.grown h2 (Nat.le_trans hbase Hbr.out.size) (fun j e => (Ho.out.lt j e).1)⟩
        by_cases hjk : j = k
        · subst hjk; rw [List.getElem?_set_self hxl]
        · rw [List.getElem?_set_ne (by omega)]; exact Hx.out j (by omega)
      case measure => omega
    · have hk2 : k = n := by omega
      have hxs : ys = intsV (marksI n) := by
        apply List.ext_getElem?
        intro j
        have hxl := ho.1
        by_cases hj : j < n
        · rw [Hx.out j (by omega)]
          simp [intsV, marksI, hj]
        · rw [List.getElem?_eq_none (by omega), List.getElem?_eq_none (by rw [intsV_len, marks_len]; omega)]
      have Ho := Lib.hid (show wr.ownsRow base 3 1 (.slice A n cap) n (intsV (marksI n)) by rw [← hxs]; exact ho)
      clear ho hxs
      subst hk2
      go_wp2_with fail
      go_ret
      exact ⟨rfl, Ho.out, Hbr.out⟩

set_option maxHeartbeats 400000 in
set_option maxRecDepth 100000 in
theorem heldIntS_calls (A : Option Addr) (n cap : Nat) (w : World) (hn : n ≤ 1048576) (hA : LRow w A (marksI n)) :
    Calls Tryd.prog 18 #[.slice A n cap, .int .i64 1] w fun e w' => e = .returned (.int .i64 (1 + (n : Int))) ∧ w = w' := by
  have HA := Lib.hid hA
  clear hA
  go_enter Tryd.func18, Tryd.ntmps18
  go_wp2_with fail
  go_loop [1, 5] (fun m i => ∃ k : Nat, k ≤ n ∧ i = .int .i64 k ∧ m = .int .i64 (1 + (k : Int))) (fun _ i => n - (intOf i).toNat)
  case atStart => exact ⟨0, Nat.zero_le _, rfl, rfl⟩
  case round =>
    obtain ⟨k, hk, rfl, rfl⟩ := hrel
    by_cases hlt : k < n
    · obtain ⟨g, rfl, hc⟩ := HA.out (by rw [marks_len]; omega)
      have hck := hc k (by rw [marks_len]; exact hlt)
      rw [marks_get hlt] at hck
      clear hc
      go_wp2_with fail
      go_round
      case rel => exact ⟨k + 1, by omega, by go_num, by go_num⟩
      case measure => simp [intOf]; omega
    · have hk2 : k = n := by omega
      subst hk2
      go_wp2_with fail
      go_ret
      exact ⟨rfl, rfl⟩

end Go.Proofs.YtdogpookippbaaaDoor
