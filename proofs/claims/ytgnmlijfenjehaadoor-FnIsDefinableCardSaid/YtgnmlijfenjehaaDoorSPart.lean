/-
  The reference's l1Elements and l1Part. Condition: at most 2^20 numbers, texts below the reach.
-/
import Derived.Test.YtgnmlijfenjehaaDoorPartOf
import Derived.Test.YtgnmlijfenjehaaDoorTurnS
namespace Go.Proofs.YtgnmlijfenjehaaDoor
open Go.RowKit
open Pl
set_option linter.unusedSimpArgs false
set_option linter.unusedVariables false

theorem quiet_left' {P : Program} {f : FuncId} {args : Array Value} {w : World} {n : Nat} {v : Value}
    (h : Calls P f args (w.drewN n) fun e w' => e = .returned v ∧ w.drewN n = w') : Calls P f args (w.drewN n) fun e w'' => e = .returned v ∧ ∃ m, w'' = w.drewN m :=
  h.mono fun _ _ ⟨he, hm⟩ => ⟨he, n, hm.symm⟩

theorem ok_range {i : Int} {s r : ByteArray} (h : okB i s r = true) : 1 ≤ i ∧ i ≤ 8 := by
  unfold okB at h
  simp only [Bool.and_eq_true, decide_eq_true_eq] at h
  exact ⟨h.1, h.2.1⟩

theorem wrap_pred {i : Int} (h1 : 1 ≤ i) (h8 : i ≤ 8) : IntKind.i64.wrap (i - 1) = i - 1 := IntWalk.i64_in _ (by omega)

theorem elB_in {i z : Int} (h1 : 1 ≤ i) (h8 : i ≤ 8) : (decide (0 ≤ z) && decide (z ≤ IntKind.i64.wrap (i - 1))) = elB i z := by
  rw [wrap_pred h1 h8]
  unfold elB
  congr 1
  rw [decide_eq_decide]; omega

theorem partB_out {i : Int} {s r : ByteArray} {zs : List Int} {z : Int} (hz : z ∈ zs) (h : (decide (0 ≤ z) && decide (z ≤ IntKind.i64.wrap (i - 1))) = false) : partB i s r zs = false := by
  unfold partB
  cases hok : okB i s r with
  | false => rfl
  | true =>
    obtain ⟨h1, h8⟩ := ok_range hok
    rw [elB_in h1 h8] at h
    have : elAll i zs = false := by
      rw [Bool.eq_false_iff]; intro e
      have := List.all_eq_true.1 e z hz
      rw [h] at this; cases this
    rw [this]; simp

theorem partB_dup {i : Int} {s r : ByteArray} {zs : List Int} (h : ¬ zs.Nodup) : partB i s r zs = false := by
  unfold partB nodB
  rw [decide_eq_false h]; simp

theorem partB_end {i : Int} {s r : ByteArray} {zs : List Int} (h : ∀ z ∈ zs, (decide (0 ≤ z) && decide (z ≤ IntKind.i64.wrap (i - 1))) = true) (h2 : zs.Nodup) : partB i s r zs = (okB i s r && decide (0 < zs.length)) := by
  unfold partB nodB
  cases hok : okB i s r with
  | false => rfl
  | true =>
    obtain ⟨h1, h8⟩ := ok_range hok
    have : elAll i zs = true := List.all_eq_true.2 fun z hz => by rw [← elB_in h1 h8]; exact h z hz
    rw [this, decide_eq_true h2]; simp

set_option maxHeartbeats 2000000 in
theorem l1Elements_calls (i : Int) (s r : ByteArray) (A : Option Addr) (zs : List Int) (cap : Nat) (w : World) (hs : s.size ≤ maxLen) (hr : r.size ≤ maxLen) (hn : zs.length ≤ 1048576) (hcap : zs.length ≤ cap) (hA : LRow w A zs) :
    Calls Tryd.prog 27 #[stV i s r, .slice A zs.length cap] w fun e w' => e = .returned (.bool (partB i s r zs)) ∧ Below w.heap.size w w' := by
  have hcS : ∀ W, Calls Tryd.prog 28 #[stV i s r] W fun e w' => e = .returned (.bool (okB i s r)) ∧ Below W.heap.size W w' := fun W => StructureValid_spec i s r W hs hr
  have HcS := Lib.hid hcS
  have HA := Lib.hid (hA.alloc (.cells #[.int .i64 i, .string s, .string r] 27))
  have hx := Bx.new w 27 #[.int .i64 i, .string s, .string r]
  have hB : Below w.heap.size w (w.alloc (.cells #[.int .i64 i, .string s, .string r] 27)) := (Below.refl _ _).alloc (Nat.le_refl _) _
  have ho := fun (z : Int) hz => @partB_out i s r zs z hz
  have hd := @partB_dup i s r zs
  have he := @partB_end i s r zs
  obtain ⟨V, hV⟩ : ∃ V, V = partB i s r zs := ⟨_, rfl⟩
  obtain ⟨q, hq⟩ : ∃ q, q = IntKind.i64.wrap (i - 1) := ⟨_, rfl⟩
  rw [← hV] at ho hd he ⊢
  rw [← hq] at ho he
  have Ho := Lib.hid ho
  have Hd := Lib.hid hd
  have He := Lib.hid he
  have hw : IntKind.i64.wrap (i - 1) = q := hq.symm
  have Hx := Lib.hid hx
  have HB := Lib.hid hB
  clear hcS hA hs hr hV hq ho hd he hx hB
  go_enter Tryd.func27, Tryd.ntmps27
  go_wp2_with fail
  go_loopg [5] zs.length (fun c i1 wr => ∃ k : Nat, k + c = zs.length ∧ i1 = .int .i64 k ∧ (∀ z ∈ zs.take k, (decide (0 ≤ z) && decide (z ≤ q)) = true) ∧ (zs.take k).Nodup ∧ Below (w.heap.size + 1) (w.alloc (.cells #[.int .i64 i, .string s, .string r] 27)) wr)
  case atStart => exact ⟨0, by omega, rfl, by simp, by simp, Below.refl _ _⟩
  case round =>
    obtain ⟨k, hk, rfl, hin, hnd, hbr⟩ := hrel
    have Hin := Lib.hid hin
    have Hnd := Lib.hid hnd
    have Hbr := Lib.hid hbr
    have hx1 := Hx.out.below hbr (Nat.lt_succ_self _)
    have HA1 := Lib.hid (HA.out.call (hbr.mono (by simp)))
    obtain ⟨k0, k1, k2⟩ := box_load hx1
    have Hx1 := Lib.hid hx1
    clear hin hnd hbr hx1
    by_cases hlt : k < zs.length
    · have hmem := getD_mem hlt
      have hcon := fun (W : World) (hW : LRow W A zs) => l1Has_calls A (zs.take k) cap (zs.getD k 0) W (by rw [List.length_take]; omega) (hW.take k)
      rw [List.length_take, Nat.min_eq_left (by omega)] at hcon
      have e0 : zs.getD k 0 = zs[k] := by simp [List.getD, hlt]
      have hstep : (zs.take (k + 1)).Nodup ↔ (zs.take k).Nodup ∧ ¬ zs.getD k 0 ∈ zs.take k := by
        rw [List.take_succ_eq_append_getElem hlt, List.nodup_append, e0]
        simp only [List.mem_singleton]
        constructor
        · rintro ⟨h1, _, h2⟩; exact ⟨h1, fun h => h2 _ h _ rfl rfl⟩
        · rintro ⟨h1, h2⟩; exact ⟨h1, by simp, fun x hx y hy e => by subst hy; subst e; exact h2 hx⟩
      have hall : (decide (0 ≤ zs.getD k 0) && decide (zs.getD k 0 ≤ q)) = true → ∀ z ∈ zs.take (k + 1), (decide (0 ≤ z) && decide (z ≤ q)) = true := fun h z hz => by
        rw [List.take_succ_eq_append_getElem hlt] at hz
        rcases List.mem_append.1 hz with hz | hz
        · exact Hin.out z hz
        · simp only [List.mem_singleton] at hz
          subst hz
          rw [← e0]; exact h
      have hwh : zs.Nodup → (zs.take (k + 1)).Nodup := fun h => h.sublist (List.take_sublist _ _)
      obtain ⟨g, rfl, hc⟩ := HA1.out (by omega)
      have hck := hc k hlt
      have i1 : (0 : Int) ≤ (k : Int) := by omega
      have i2 : (k : Int) < (zs.length : Int) := by omega
      have i3 : (k : Int) ≤ (cap : Int) := by omega
      obtain ⟨z, hz⟩ : ∃ z, z = zs.getD k 0 := ⟨_, rfl⟩
      rw [← hz] at hck hcon hmem hstep hall
      have hl1 := fun W => l1In_calls z 0 q W
      have hout := Ho.out z hmem
      clear hc hz e0
      cases hv : (decide (0 ≤ z) && decide (z ≤ q)) with
      | false =>
        simp only [hv] at hl1
        have Hl1 := Lib.hid hl1
        have Hout := Lib.hid (hout hv)
        clear hl1 hout hv hall hstep hcon hwh hmem
        go_wp2_with fail
        go_quiet ((first | (go_at_call 48; exact quiet_left' (Hl1.out _))))
        go_wp2_with fail
        go_ret
        exact ⟨by rw [Hout.out]; rfl, below_drewN' (box_down Hbr.out) _⟩
      | true =>
        simp only [hv] at hl1
        have Hl1 := Lib.hid hl1
        have Hall := Lib.hid (hall hv)
        by_cases hhas : z ∈ zs.take k
        · rw [decide_eq_true hhas] at hcon
          have Hcon := Lib.hid hcon
          have Hno := Lib.hid (Hd.out fun h => (hstep.1 (hwh h)).2 hhas)
          clear hl1 hout hv hall hstep hcon hwh hhas hmem
          go_wp2_with fail
          go_quiet ((first | (go_at_call 48; exact quiet_left' (Hl1.out _)) | (go_at_call 30; exact quiet_left' (Hcon.out _ HA1.out))))
          go_wp2_with fail
          go_ret
          exact ⟨by rw [Hno.out]; rfl, below_drewN' (box_down Hbr.out) _⟩
        · rw [decide_eq_false hhas] at hcon
          have Hcon := Lib.hid hcon
          have Hnext := Lib.hid (hstep.2 ⟨Hnd.out, hhas⟩)
          clear hl1 hout hv hall hstep hcon hwh hhas hmem
          go_wp2_with fail
          go_quiet ((first | (go_at_call 48; exact quiet_left' (Hl1.out _)) | (go_at_call 30; exact quiet_left' (Hcon.out _ HA1.out))))
          go_wp2_with fail
          go_roundg (gk - 1)
          case rel => exact ⟨k + 1, by omega, by go_num, Hall.out, Hnext.out, below_drewN' Hbr.out _⟩
          case measure => omega
    · have hv := He.out (fun z hz => Hin.out z (by rw [List.take_of_length_le (by omega)]; exact hz)) (by have := Hnd.out; rwa [List.take_of_length_le (by omega)] at this)
      have hcS := HcS.out
      cases hok : okB i s r with
      | false =>
        rw [hok] at hcS
        have hv2 : V = false := by rw [hv, hok]; rfl
        have Hv := Lib.hid hv2
        have HcS2 := Lib.hid hcS
        clear hcS hok hv hv2
        go_wp2_with fail
        refine (HcS2.out _).mono ?_
        rintro e w2 ⟨rfl, hz⟩
        have HB2 := Lib.hid (box_next Hbr.out hz)
        clear hz
        go_wp2_with fail
        go_ret
        exact ⟨by rw [Hv.out]; rfl, box_down HB2.out⟩
      | true =>
        rw [hok] at hcS
        have hv2 : V = decide ((0 : Int) < (zs.length : Int)) := by rw [hv, hok, Bool.true_and, decide_eq_decide]; omega
        have Hv := Lib.hid hv2
        have HcS2 := Lib.hid hcS
        clear hcS hok hv hv2
        go_wp2_with fail
        refine (HcS2.out _).mono ?_
        rintro e w2 ⟨rfl, hz⟩
        have HB2 := Lib.hid (box_next Hbr.out hz)
        clear hz
        by_cases hl0 : 0 < zs.length
        · go_wp2_with fail
          go_ret
          exact ⟨by rw [Hv.out, decide_eq_true (by omega)]; rfl, box_down HB2.out⟩
        · go_wp2_with fail
          go_ret
          exact ⟨by rw [Hv.out, decide_eq_false (by omega)]; rfl, box_down HB2.out⟩

end Go.Proofs.YtgnmlijfenjehaaDoor
