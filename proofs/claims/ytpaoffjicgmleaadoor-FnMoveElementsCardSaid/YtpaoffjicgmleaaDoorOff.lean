/-
  Lists of numbers that do not lie at the beginning of a block: l1Has, l1Elements, and MoveElements at another number of elements. Condition: at most 2^20 numbers.
-/
import Derived.Test.YtpaoffjicgmleaaDoorSPartOf
import Derived.BigQuiet
namespace Go.Proofs.YtpaoffjicgmleaaDoor
open Go.RowKit
open Pl
set_option linter.unusedSimpArgs false
set_option linter.unusedVariables false

/-- an address at which the numbers lie, anywhere in a block -/
def ORow (w : World) (A : Option Addr) (zs : List Int) : Prop := 0 < zs.length → ∃ x : Addr, A = some x ∧ ∀ i, i < zs.length → w.cell? (x.add i) = some (.int .i64 (zs.getD i 0))
theorem ORow.call {w w' : World} {A : Option Addr} {zs : List Int} (h : ORow w A zs) (hb : Below w.heap.size w w') : ORow w' A zs := fun hn => by
  obtain ⟨x, rfl, hc⟩ := h hn
  exact ⟨x, rfl, fun i hi => (hb.cell (World.block_lt_of_cell? w _ (hc i hi))).trans (hc i hi)⟩
theorem ORow.alloc {w : World} {A : Option Addr} {zs : List Int} (h : ORow w A zs) (o : Obj) : ORow (w.alloc o) A zs := h.call ((Below.refl _ _).alloc (Nat.le_refl _) _)
theorem ORow.take {w : World} {A : Option Addr} {zs : List Int} (h : ORow w A zs) (k : Nat) : ORow w A (zs.take k) := fun hn => by
  rw [List.length_take] at hn
  obtain ⟨x, rfl, hc⟩ := h (by omega)
  refine ⟨x, rfl, fun i hi => ?_⟩
  rw [List.length_take] at hi
  rw [hc i (by omega)]
  simp [List.getD, List.getElem?_take, show i < k by omega]

set_option maxHeartbeats 400000 in
theorem l1Has_off (A : Option Addr) (zs : List Int) (cap : Nat) (x : Int) (w : World) (hn : zs.length ≤ 1048576) (hA : ORow w A zs) :
    Calls Tryd.prog 84 #[.slice A zs.length cap, .int .i64 x] w fun e w' => e = .returned (.bool (decide (x ∈ zs))) ∧ w = w' := by
  have HA := Lib.hid hA
  obtain ⟨V, hV⟩ : ∃ V, V = decide (x ∈ zs) := ⟨_, rfl⟩
  rw [← hV]
  have HV := Lib.hid hV
  clear hA hV
  go_enter Tryd.func84, Tryd.ntmps84
  go_wp2_with fail
  go_loop [5] (fun i => ∃ k : Nat, k ≤ zs.length ∧ i = .int .i64 k ∧ ∀ j, j < k → zs.getD j 0 ≠ x) (fun i => zs.length - (intOf i).toNat)
  case atStart => exact ⟨0, Nat.zero_le _, rfl, fun j hj => absurd hj (Nat.not_lt_zero _)⟩
  case round =>
    obtain ⟨k, hk, rfl, hno⟩ := hrel
    have Hno := Lib.hid hno
    clear hno
    by_cases hlt : k < zs.length
    · obtain ⟨g, rfl, hc⟩ := HA.out (by omega)
      have hck := hc k hlt
      have hmem := getD_mem hlt
      obtain ⟨z, hz⟩ : ∃ z, z = zs.getD k 0 := ⟨_, rfl⟩
      rw [← hz] at hck hmem
      have Hz := Lib.hid hz
      clear hc hz
      by_cases hx : z = x
      · have hb : (z == x) = true := beq_iff_eq.2 hx
        subst hx
        have Hm := Lib.hid hmem
        clear hmem
        go_wp2_with fail
        go_ret
        exact ⟨by rw [HV.out, decide_eq_true Hm.out]; rfl, rfl⟩
      · have hb : (z == x) = false := beq_eq_false_iff_ne.2 hx
        have Hx := Lib.hid hx
        clear hmem hx
        go_wp2_with fail
        go_round
        case rel =>
          refine ⟨k + 1, by omega, by go_num, fun j hj => ?_⟩
          by_cases hjk : j = k
          · subst hjk; rw [← Hz.out]; exact Hx.out
          · exact Hno.out j (by omega)
        case measure => simp [intOf]; omega
    · have hne : ¬ x ∈ zs := fun h => by
        obtain ⟨j, hj, e⟩ := mem_getD h
        exact absurd e (Hno.out j (by omega))
      have Hne := Lib.hid hne
      clear hne
      go_wp2_with fail
      go_ret
      exact ⟨by rw [HV.out, decide_eq_false Hne.out]; rfl, rfl⟩

set_option maxHeartbeats 2000000 in
theorem l1Elements_off (i : Int) (s r : ByteArray) (A : Option Addr) (zs : List Int) (cap : Nat) (w : World) (hs : s.size ≤ maxLen) (hr : r.size ≤ maxLen) (hn : zs.length ≤ 1048576) (hcap : zs.length ≤ cap) (hA : ORow w A zs) :
    Calls Tryd.prog 50 #[stV i s r, .slice A zs.length cap] w fun e w' => e = .returned (.bool (partB i s r zs)) ∧ Below w.heap.size w w' := by
  have hcS : ∀ W, Calls Tryd.prog 57 #[stV i s r] W fun e w' => e = .returned (.bool (okB i s r)) ∧ Below W.heap.size W w' := fun W => StructureValid_spec i s r W hs hr
  have HcS := Lib.hid hcS
  have HA := Lib.hid (hA.alloc (.cells #[.int .i64 i, .string s, .string r] 24))
  have hx := Bx.new w 24 #[.int .i64 i, .string s, .string r]
  have hB : Below w.heap.size w (w.alloc (.cells #[.int .i64 i, .string s, .string r] 24)) := (Below.refl _ _).alloc (Nat.le_refl _) _
  have ho := fun (z : Int) hz => @partB_out i s r zs z hz
  have hd := @partB_dup i s r zs
  have he := @partB_end i s r zs
  obtain ⟨V, hV⟩ : ∃ V, V = partB i s r zs := ⟨_, rfl⟩
  obtain ⟨q, hq⟩ : ∃ q, q = IntKind.i64.wrap (i - 1) := ⟨_, rfl⟩
  rw [← hV] at ho hd he ⊢
  rw [← hq] at ho he
  have Ho := Lib.hid ho
  have Hd := Lib.hid hd
  have He := Lib.hid he
  have hw : IntKind.i64.wrap (i - 1) = q := hq.symm
  have Hx := Lib.hid hx
  have HB := Lib.hid hB
  clear hcS hA hs hr hV hq ho hd he hx hB
  go_enter Tryd.func50, Tryd.ntmps50
  go_wp2_with fail
  go_loopg [5] zs.length (fun c i1 wr => ∃ k : Nat, k + c = zs.length ∧ i1 = .int .i64 k ∧ (∀ z ∈ zs.take k, (decide (0 ≤ z) && decide (z ≤ q)) = true) ∧ (zs.take k).Nodup ∧ Below (w.heap.size + 1) (w.alloc (.cells #[.int .i64 i, .string s, .string r] 24)) wr)
  case atStart => exact ⟨0, by omega, rfl, by simp, by simp, Below.refl _ _⟩
  case round =>
    obtain ⟨k, hk, rfl, hin, hnd, hbr⟩ := hrel
    have Hin := Lib.hid hin
    have Hnd := Lib.hid hnd
    have Hbr := Lib.hid hbr
    have hx1 := Hx.out.below hbr (Nat.lt_succ_self _)
    have HA1 := Lib.hid (HA.out.call (hbr.mono (by simp)))
    obtain ⟨k0, k1, k2⟩ := box_load hx1
    have Hx1 := Lib.hid hx1
    clear hin hnd hbr hx1
    by_cases hlt : k < zs.length
    · have hmem := getD_mem hlt
      have hcon := fun (W : World) (hW : ORow W A zs) => l1Has_off A (zs.take k) cap (zs.getD k 0) W (by rw [List.length_take]; omega) (hW.take k)
      rw [List.length_take, Nat.min_eq_left (by omega)] at hcon
      have e0 : zs.getD k 0 = zs[k] := by simp [List.getD, hlt]
      have hstep : (zs.take (k + 1)).Nodup ↔ (zs.take k).Nodup ∧ ¬ zs.getD k 0 ∈ zs.take k := by
        rw [List.take_succ_eq_append_getElem hlt, List.nodup_append, e0]
        simp only [List.mem_singleton]
        constructor
        · rintro ⟨h1, _, h2⟩; exact ⟨h1, fun h => h2 _ h _ rfl rfl⟩
        · rintro ⟨h1, h2⟩; exact ⟨h1, by simp, fun x hx y hy e => by subst hy; subst e; exact h2 hx⟩
      have hall : (decide (0 ≤ zs.getD k 0) && decide (zs.getD k 0 ≤ q)) = true → ∀ z ∈ zs.take (k + 1), (decide (0 ≤ z) && decide (z ≤ q)) = true := fun h z hz => by
        rw [List.take_succ_eq_append_getElem hlt] at hz
        rcases List.mem_append.1 hz with hz | hz
        · exact Hin.out z hz
        · simp only [List.mem_singleton] at hz
          subst hz
          rw [← e0]; exact h
      have hwh : zs.Nodup → (zs.take (k + 1)).Nodup := fun h => h.sublist (List.take_sublist _ _)
      obtain ⟨g, rfl, hc⟩ := HA1.out (by omega)
      have hck := hc k hlt
      have i1 : (0 : Int) ≤ (k : Int) := by omega
      have i2 : (k : Int) < (zs.length : Int) := by omega
      have i3 : (k : Int) ≤ (cap : Int) := by omega
      obtain ⟨z, hz⟩ : ∃ z, z = zs.getD k 0 := ⟨_, rfl⟩
      rw [← hz] at hck hcon hmem hstep hall
      have hl1 := fun W => l1In_calls z 0 q W
      have hout := Ho.out z hmem
      clear hc hz e0
      cases hv : (decide (0 ≤ z) && decide (z ≤ q)) with
      | false =>
        simp only [hv] at hl1
        have Hl1 := Lib.hid hl1
        have Hout := Lib.hid (hout hv)
        clear hl1 hout hv hall hstep hcon hwh hmem
        go_wp2_with fail
        go_quiet ((first | (go_at_call 70; exact quiet_left' (Hl1.out _))))
        go_wp2_with fail
        go_ret
        exact ⟨by rw [Hout.out]; rfl, below_drewN' (box_down Hbr.out) _⟩
      | true =>
        simp only [hv] at hl1
        have Hl1 := Lib.hid hl1
        have Hall := Lib.hid (hall hv)
        by_cases hhas : z ∈ zs.take k
        · rw [decide_eq_true hhas] at hcon
          have Hcon := Lib.hid hcon
          have Hno := Lib.hid (Hd.out fun h => (hstep.1 (hwh h)).2 hhas)
          clear hl1 hout hv hall hstep hcon hwh hhas hmem
          go_wp2_with fail
          go_quiet ((first | (go_at_call 70; exact quiet_left' (Hl1.out _)) | (go_at_call 84; exact quiet_left' (Hcon.out _ HA1.out))))
          go_wp2_with fail
          go_ret
          exact ⟨by rw [Hno.out]; rfl, below_drewN' (box_down Hbr.out) _⟩
        · rw [decide_eq_false hhas] at hcon
          have Hcon := Lib.hid hcon
          have Hnext := Lib.hid (hstep.2 ⟨Hnd.out, hhas⟩)
          clear hl1 hout hv hall hstep hcon hwh hhas hmem
          go_wp2_with fail
          go_quiet ((first | (go_at_call 70; exact quiet_left' (Hl1.out _)) | (go_at_call 84; exact quiet_left' (Hcon.out _ HA1.out))))
          go_wp2_with fail
          go_roundg (gk - 1)
          case rel => exact ⟨k + 1, by omega, by go_num, Hall.out, Hnext.out, below_drewN' Hbr.out _⟩
          case measure => omega
    · have hv := He.out (fun z hz => Hin.out z (by rw [List.take_of_length_le (by omega)]; exact hz)) (by have := Hnd.out; rwa [List.take_of_length_le (by omega)] at this)
      have hcS := HcS.out
      cases hok : okB i s r with
      | false =>
        rw [hok] at hcS
        have hv2 : V = false := by rw [hv, hok]; rfl
        have Hv := Lib.hid hv2
        have HcS2 := Lib.hid hcS
        clear hcS hok hv hv2
        go_wp2_with fail
        refine (HcS2.out _).mono ?_
        rintro e w2 ⟨rfl, hz⟩
        have HB2 := Lib.hid (box_next Hbr.out hz)
        clear hz
        go_wp2_with fail
        go_ret
        exact ⟨by rw [Hv.out]; rfl, box_down HB2.out⟩
      | true =>
        rw [hok] at hcS
        have hv2 : V = decide ((0 : Int) < (zs.length : Int)) := by rw [hv, hok, Bool.true_and, decide_eq_decide]; omega
        have Hv := Lib.hid hv2
        have HcS2 := Lib.hid hcS
        clear hcS hok hv hv2
        go_wp2_with fail
        refine (HcS2.out _).mono ?_
        rintro e w2 ⟨rfl, hz⟩
        have HB2 := Lib.hid (box_next Hbr.out hz)
        clear hz
        by_cases hl0 : 0 < zs.length
        · go_wp2_with fail
          go_ret
          exact ⟨by rw [Hv.out, decide_eq_true (by omega)]; rfl, box_down HB2.out⟩
        · go_wp2_with fail
          go_ret
          exact ⟨by rw [Hv.out, decide_eq_false (by omega)]; rfl, box_down HB2.out⟩

set_option maxHeartbeats 1000000 in
theorem MoveElements_impl_ne (i : Int) (s r : ByteArray) (A : Option Addr) (len cap : Nat) (w : World) (hl : ¬ (len : Int) = i) :
    Calls Tryd.prog 34 #[stV i s r, .slice A len cap] w fun e w' => e = .returned (resV none) ∧ Below w.heap.size w w' := by
  have hne : ((len : Int) != i) = true := by simp [hl]
  clear hl
  have hz : Below ((w.alloc (.cells #[.int .i64 i, .string s, .string r] 24)).alloc (.cells #[.int .i64 0, .string (bs []), .string (bs [])] 24)).heap.size ((w.alloc (.cells #[.int .i64 i, .string s, .string r] 24)).alloc (.cells #[.int .i64 0, .string (bs []), .string (bs [])] 24)) ((w.alloc (.cells #[.int .i64 i, .string s, .string r] 24)).alloc (.cells #[.int .i64 0, .string (bs []), .string (bs [])] 24)) := Below.refl _ _
  have x0 := ((Bx.new w 24 #[.int .i64 i, .string s, .string r]).alloc (.cells #[.int .i64 0, .string (bs []), .string (bs [])] 24)).call hz
  have x1 := (bx_two w (.cells #[.int .i64 i, .string s, .string r] 24) #[.int .i64 0, .string (bs []), .string (bs [])] (t := 24)).call hz
  have HB := Lib.hid (((((Below.refl w.heap.size w).alloc (Nat.le_refl _) (.cells #[.int .i64 i, .string s, .string r] 24)).alloc (by simp) (.cells #[.int .i64 0, .string (bs []), .string (bs [])] 24)).trans (hz.mono (by simp; omega))))
  have X0 := Lib.hid x0
  have X1 := Lib.hid x1
  clear hz x0 x1
  have y1 := ((X1.out.set 0 (.int .i64 0)).set 1 (.string (bs []))).set 2 (.string (bs []))
  obtain ⟨q0, q1, q2⟩ := box_load (a := .int .i64 0) (b := .string (bs [])) (c := .string (bs [])) y1
  go_enter Tryd.func34, Tryd.ntmps34
  go_wp2_with fail
  refine bodyPost_ret (v := resV none) ?_ rfl ⟨rfl, ?_⟩
  · have e0 : (⟨#[]⟩ : ByteArray) = bs [] := rfl
    simp only [e0]
    simp [results, Tryd.results34, go_sem, resV]
  · exact HB.out

set_option maxHeartbeats 2000000 in
theorem MoveElements_spec_ne (i : Int) (s r : ByteArray) (A : Option Addr) (zs : List Int) (cap : Nat) (w : World) (hs : s.size ≤ maxLen) (hr : r.size ≤ maxLen) (hn : zs.length ≤ 1048576) (hcap : zs.length ≤ cap) (hA : ORow w A zs) (hl : ¬ (zs.length : Int) = i) :
    Calls Tryd.prog 35 #[stV i s r, .slice A zs.length cap] w fun e w' => e = .returned (resV none) ∧ Below w.heap.size w w' := by
  have hcE : ∀ W, ORow W A zs → Calls Tryd.prog 50 #[stV i s r, .slice A zs.length cap] W fun e w' => e = .returned (.bool (partB i s r zs)) ∧ Below W.heap.size W w' := fun W hW => l1Elements_off i s r A zs cap W hs hr hn hcap hW
  have HA1 := Lib.hid ((hA.alloc (.cells #[.int .i64 i, .string s, .string r] 24)).alloc (.cells #[.int .i64 0, .string (bs []), .string (bs [])] 24))
  have hne : ((zs.length : Int) != i) = true := by simp [hl]
  clear hA hl
  cases hpb : partB i s r zs with
  | false =>
    rw [hpb] at hcE
    have HcE := Lib.hid hcE
    clear hcE hs hr hpb
    go_enter Tryd.func35, Tryd.ntmps35
    go_wp2_with fail
    refine (HcE.out _ HA1.out).mono ?_
    rintro e w1 ⟨rfl, hz⟩
    have x0 := ((Bx.new w 24 #[.int .i64 i, .string s, .string r]).alloc (.cells #[.int .i64 0, .string (bs []), .string (bs [])] 24)).call hz
    have x1 := (bx_two w (.cells #[.int .i64 i, .string s, .string r] 24) #[.int .i64 0, .string (bs []), .string (bs [])] (t := 24)).call hz
    have HB := Lib.hid (((((Below.refl w.heap.size w).alloc (Nat.le_refl _) (.cells #[.int .i64 i, .string s, .string r] 24)).alloc (by simp) (.cells #[.int .i64 0, .string (bs []), .string (bs [])] 24)).trans (hz.mono (by simp; omega))))
    have X0 := Lib.hid x0
    have X1 := Lib.hid x1
    clear hz x0 x1
    obtain ⟨k0, k1, k2⟩ := box_load X0.out
    obtain ⟨d0, d1, d2⟩ := box_load X1.out
    have f0 := X1.out.free 0
    have f1 := X1.out.free 1
    have f2 := X1.out.free 2
    go_wp2_with fail
    have y1 := ((X1.out.set 0 (.int .i64 0)).set 1 (.string (bs []))).set 2 (.string (bs []))
    obtain ⟨q0, q1, q2⟩ := box_load (a := .int .i64 0) (b := .string (bs [])) (c := .string (bs [])) y1
    refine bodyPost_ret (v := resV none) ?_ rfl ⟨rfl, ?_⟩
    · have e0 : (⟨#[]⟩ : ByteArray) = bs [] := rfl
      simp only [e0]
      simp [results, Tryd.results35, go_sem, q0, q1, q2, resV]
    · exact ((HB.out.setCell (by simp) _).setCell (by simp) _).setCell (by simp) _
  | true =>
    rw [hpb] at hcE
    have HcE := Lib.hid hcE
    clear hcE hs hr hpb
    go_enter Tryd.func35, Tryd.ntmps35
    go_wp2_with fail
    refine (HcE.out _ HA1.out).mono ?_
    rintro e w1 ⟨rfl, hz⟩
    have x0 := ((Bx.new w 24 #[.int .i64 i, .string s, .string r]).alloc (.cells #[.int .i64 0, .string (bs []), .string (bs [])] 24)).call hz
    have x1 := (bx_two w (.cells #[.int .i64 i, .string s, .string r] 24) #[.int .i64 0, .string (bs []), .string (bs [])] (t := 24)).call hz
    have HB := Lib.hid (((((Below.refl w.heap.size w).alloc (Nat.le_refl _) (.cells #[.int .i64 i, .string s, .string r] 24)).alloc (by simp) (.cells #[.int .i64 0, .string (bs []), .string (bs [])] 24)).trans (hz.mono (by simp; omega))))
    have X0 := Lib.hid x0
    have X1 := Lib.hid x1
    clear hz x0 x1
    obtain ⟨k0, k1, k2⟩ := box_load X0.out
    obtain ⟨d0, d1, d2⟩ := box_load X1.out
    have f0 := X1.out.free 0
    have f1 := X1.out.free 1
    have f2 := X1.out.free 2

    go_wp2_with fail
    have y1 := ((X1.out.set 0 (.int .i64 0)).set 1 (.string (bs []))).set 2 (.string (bs []))
    obtain ⟨q0, q1, q2⟩ := box_load (a := .int .i64 0) (b := .string (bs [])) (c := .string (bs [])) y1
    refine bodyPost_ret (v := resV none) ?_ rfl ⟨rfl, ?_⟩
    · have e0 : (⟨#[]⟩ : ByteArray) = bs [] := rfl
      simp only [e0]
      simp [results, Tryd.results35, go_sem, q0, q1, q2, resV]
    · exact ((HB.out.setCell (by simp) _).setCell (by simp) _).setCell (by simp) _

end Go.Proofs.YtpaoffjicgmleaaDoor
