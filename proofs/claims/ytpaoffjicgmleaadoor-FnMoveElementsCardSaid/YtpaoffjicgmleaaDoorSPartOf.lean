/-
  PartOf and MoveElements of the reference. Condition: at most 2^20 numbers, texts below the reach.
-/
import Derived.Test.YtpaoffjicgmleaaDoorSPart2
namespace Go.Proofs.YtpaoffjicgmleaaDoor
open Go.RowKit
open Pl
set_option linter.unusedSimpArgs false
set_option linter.unusedVariables false

set_option maxHeartbeats 2000000 in
theorem PartOf_spec (i : Int) (s r : ByteArray) (A : Option Addr) (zs : List Int) (cap : Nat) (w : World) (hs : s.size ≤ maxLen) (hr : r.size ≤ maxLen) (hn : zs.length ≤ 1048576) (hcap : zs.length ≤ cap) (hA : LRow w A zs) :
    Calls Tryd.prog 12 #[stV i s r, .slice A zs.length cap] w fun e w' => e = .returned (resV (partO i s r zs)) ∧ Below w.heap.size w w' := by
  have hcE : ∀ W, LRow W A zs → Calls Tryd.prog 50 #[stV i s r, .slice A zs.length cap] W fun e w' => e = .returned (.bool (partB i s r zs)) ∧ Below W.heap.size W w' := fun W hW => l1Elements_calls i s r A zs cap W hs hr hn hcap hW
  have HA1 := Lib.hid ((hA.alloc (.cells #[.int .i64 i, .string s, .string r] 24)).alloc (.cells #[.int .i64 0, .string (bs []), .string (bs [])] 24))
  clear hA
  cases hpb : partB i s r zs with
  | false =>
    have hv : partO i s r zs = none := part_no hpb
    rw [hv]
    rw [hpb] at hcE
    have HcE := Lib.hid hcE
    clear hcE hs hr hpb hv
    go_enter Tryd.func12, Tryd.ntmps12
    go_wp2_with fail
    refine (HcE.out _ HA1.out).mono ?_
    rintro e w1 ⟨rfl, hz⟩
    have x0 := ((Bx.new w 24 #[.int .i64 i, .string s, .string r]).alloc (.cells #[.int .i64 0, .string (bs []), .string (bs [])] 24)).call hz
    have x1 := (bx_two w (.cells #[.int .i64 i, .string s, .string r] 24) #[.int .i64 0, .string (bs []), .string (bs [])] (t := 24)).call hz
    have HB := Lib.hid (((((Below.refl w.heap.size w).alloc (Nat.le_refl _) (.cells #[.int .i64 i, .string s, .string r] 24)).alloc (by simp) (.cells #[.int .i64 0, .string (bs []), .string (bs [])] 24)).trans (hz.mono (by simp; omega))))
    have X0 := Lib.hid x0
    have X1 := Lib.hid x1
    clear hz x0 x1
    obtain ⟨k0, k1, k2⟩ := box_load X0.out
    obtain ⟨d0, d1, d2⟩ := box_load X1.out
    have f0 := X1.out.free 0
    have f1 := X1.out.free 1
    have f2 := X1.out.free 2
    go_wp2_with fail
    have y1 := ((X1.out.set 0 (.int .i64 0)).set 1 (.string (bs []))).set 2 (.string (bs []))
    obtain ⟨q0, q1, q2⟩ := box_load (a := .int .i64 0) (b := .string (bs [])) (c := .string (bs [])) y1
    refine bodyPost_ret (v := resV none) ?_ rfl ⟨rfl, ?_⟩
    · have e0 : (⟨#[]⟩ : ByteArray) = bs [] := rfl
      simp only [e0]
      simp [results, Tryd.results12, go_sem, q0, q1, q2, resV]
    · exact ((HB.out.setCell (by simp) _).setCell (by simp) _).setCell (by simp) _
  | true =>
    rw [hpb] at hcE
    have HcE := Lib.hid hcE
    have hpb2 := hpb
    unfold partB at hpb2
    simp only [Bool.and_eq_true, decide_eq_true_eq] at hpb2
    obtain ⟨hok, h0, hel, hnd⟩ := hpb2
    obtain ⟨a, ha, rfl, rfl, rfl⟩ : ∃ a : St, a.ok ∧ i = a.n ∧ s = bs a.set ∧ r = bs a.rel := by
      rcases ok_cases i s r with h | h
      · rw [h] at hok; cases hok
      · exact h
    obtain ⟨ns, hzn, hns, hnd2, hnl, hmap⟩ := nats_of hel hnd
    have hl8 := ha.hi
    have hpv : partO a.n (bs a.set) (bs a.rel) zs = some (a.part ns) := by rw [part_yes hpb, hmap]
    have hcP : ∀ W, LRow W A zs → Calls Tryd.prog 51 #[stA a, .slice A zs.length cap] W fun e w' => e = .returned (stA (a.part ns)) ∧ Below W.heap.size W w' := fun W hW => by
      rw [hzn] at hW
      rw [hzn, natsI_len]
      exact l1Part_calls a ha ns hns (by omega) A cap W hW
    have HcP := Lib.hid hcP
    rw [hpv]
    clear hcE hs hr hpb hok hel hnd hmap hzn hcP hpv
    go_enter Tryd.func12, Tryd.ntmps12
    go_wp2_with fail
    refine (HcE.out _ HA1.out).mono ?_
    rintro e w1 ⟨rfl, hz⟩
    have HA2 := Lib.hid (HA1.out.call hz)
    have x0 := ((Bx.new w 24 #[.int .i64 a.n, .string (bs a.set), .string (bs a.rel)]).alloc (.cells #[.int .i64 0, .string (bs []), .string (bs [])] 24)).call hz
    have x1 := (bx_two w (.cells #[.int .i64 a.n, .string (bs a.set), .string (bs a.rel)] 24) #[.int .i64 0, .string (bs []), .string (bs [])] (t := 24)).call hz
    have HB := Lib.hid (((((Below.refl w.heap.size w).alloc (Nat.le_refl _) (.cells #[.int .i64 a.n, .string (bs a.set), .string (bs a.rel)] 24)).alloc (by simp) (.cells #[.int .i64 0, .string (bs []), .string (bs [])] 24)).trans (hz.mono (by simp; omega))))
    have X0 := Lib.hid x0
    have X1 := Lib.hid x1
    clear hz x0 x1
    obtain ⟨k0, k1, k2⟩ := box_load X0.out
    obtain ⟨d0, d1, d2⟩ := box_load X1.out
    have f0 := X1.out.free 0
    have f1 := X1.out.free 1
    have f2 := X1.out.free 2
    go_wp2_with fail
    refine (HcP.out _ HA2.out).mono ?_
    rintro e w3 ⟨rfl, hz⟩
    clear k0 k1 k2 d0 d1 d2 f0 f1 f2
    have X0 := Lib.hid (X0.out.call hz)
    have X1 := Lib.hid (X1.out.call hz)
    have HB := Lib.hid (HB.out.trans (hz.mono HB.out.size))
    clear hz
    obtain ⟨k0, k1, k2⟩ := box_load X0.out
    obtain ⟨d0, d1, d2⟩ := box_load X1.out
    have f0 := X1.out.free 0
    have f1 := X1.out.free 1
    have f2 := X1.out.free 2
    go_wp2_with fail
    have y1 := ((X1.out.set 0 (.int .i64 (a.part ns).n)).set 1 (.string (bs (a.part ns).set))).set 2 (.string (bs (a.part ns).rel))
    obtain ⟨q0, q1, q2⟩ := box_load (a := .int .i64 (a.part ns).n) (b := .string (bs (a.part ns).set)) (c := .string (bs (a.part ns).rel)) y1
    refine bodyPost_ret (v := resV (some (a.part ns))) ?_ rfl ⟨rfl, ?_⟩
    · simp [results, Tryd.results12, go_sem, q0, q1, q2, resV]
    · exact ((HB.out.setCell (by simp) _).setCell (by simp) _).setCell (by simp) _

set_option maxHeartbeats 2000000 in
theorem MoveElements_spec (i : Int) (s r : ByteArray) (A : Option Addr) (zs : List Int) (cap : Nat) (w : World) (hs : s.size ≤ maxLen) (hr : r.size ≤ maxLen) (hn : zs.length ≤ 1048576) (hcap : zs.length ≤ cap) (hA : LRow w A zs) :
    Calls Tryd.prog 35 #[stV i s r, .slice A zs.length cap] w fun e w' => e = .returned (resV (moveO i s r zs)) ∧ Below w.heap.size w w' := by
  have hcE : ∀ W, LRow W A zs → Calls Tryd.prog 50 #[stV i s r, .slice A zs.length cap] W fun e w' => e = .returned (.bool (partB i s r zs)) ∧ Below W.heap.size W w' := fun W hW => l1Elements_calls i s r A zs cap W hs hr hn hcap hW
  have HA1 := Lib.hid ((hA.alloc (.cells #[.int .i64 i, .string s, .string r] 24)).alloc (.cells #[.int .i64 0, .string (bs []), .string (bs [])] 24))
  clear hA
  cases hpb : partB i s r zs with
  | false =>
    have hv : moveO i s r zs = none := by unfold moveO; rw [part_no hpb]; split <;> rfl
    rw [hv]
    rw [hpb] at hcE
    have HcE := Lib.hid hcE
    clear hcE hs hr hpb hv
    go_enter Tryd.func35, Tryd.ntmps35
    go_wp2_with fail
    refine (HcE.out _ HA1.out).mono ?_
    rintro e w1 ⟨rfl, hz⟩
    have x0 := ((Bx.new w 24 #[.int .i64 i, .string s, .string r]).alloc (.cells #[.int .i64 0, .string (bs []), .string (bs [])] 24)).call hz
    have x1 := (bx_two w (.cells #[.int .i64 i, .string s, .string r] 24) #[.int .i64 0, .string (bs []), .string (bs [])] (t := 24)).call hz
    have HB := Lib.hid (((((Below.refl w.heap.size w).alloc (Nat.le_refl _) (.cells #[.int .i64 i, .string s, .string r] 24)).alloc (by simp) (.cells #[.int .i64 0, .string (bs []), .string (bs [])] 24)).trans (hz.mono (by simp; omega))))
    have X0 := Lib.hid x0
    have X1 := Lib.hid x1
    clear hz x0 x1
    obtain ⟨k0, k1, k2⟩ := box_load X0.out
    obtain ⟨d0, d1, d2⟩ := box_load X1.out
    have f0 := X1.out.free 0
    have f1 := X1.out.free 1
    have f2 := X1.out.free 2
    go_wp2_with fail
    have y1 := ((X1.out.set 0 (.int .i64 0)).set 1 (.string (bs []))).set 2 (.string (bs []))
    obtain ⟨q0, q1, q2⟩ := box_load (a := .int .i64 0) (b := .string (bs [])) (c := .string (bs [])) y1
    refine bodyPost_ret (v := resV none) ?_ rfl ⟨rfl, ?_⟩
    · have e0 : (⟨#[]⟩ : ByteArray) = bs [] := rfl
      simp only [e0]
      simp [results, Tryd.results35, go_sem, q0, q1, q2, resV]
    · exact ((HB.out.setCell (by simp) _).setCell (by simp) _).setCell (by simp) _
  | true =>
    rw [hpb] at hcE
    have HcE := Lib.hid hcE
    have hpb2 := hpb
    unfold partB at hpb2
    simp only [Bool.and_eq_true, decide_eq_true_eq] at hpb2
    obtain ⟨hok, h0, hel, hnd⟩ := hpb2
    obtain ⟨a, ha, rfl, rfl, rfl⟩ : ∃ a : St, a.ok ∧ i = a.n ∧ s = bs a.set ∧ r = bs a.rel := by
      rcases ok_cases i s r with h | h
      · rw [h] at hok; cases hok
      · exact h
    obtain ⟨ns, hzn, hns, hnd2, hnl, hmap⟩ := nats_of hel hnd
    have hl8 := ha.hi
    have hpv : partO a.n (bs a.set) (bs a.rel) zs = some (a.part ns) := by rw [part_yes hpb, hmap]
    have hcP : ∀ W, LRow W A zs → Calls Tryd.prog 51 #[stA a, .slice A zs.length cap] W fun e w' => e = .returned (stA (a.part ns)) ∧ Below W.heap.size W w' := fun W hW => by
      rw [hzn] at hW
      rw [hzn, natsI_len]
      exact l1Part_calls a ha ns hns (by omega) A cap W hW
    have HcP := Lib.hid hcP
    by_cases hl : (zs.length : Int) = a.n
    · have hv : moveO a.n (bs a.set) (bs a.rel) zs = some (a.part ns) := by unfold moveO; rw [if_pos hl, hpv]
      rw [hv]
      have hne : ((zs.length : Int) != (a.n : Int)) = false := by simp [hl]
      clear hcE hs hr hpb hok hel hnd hmap hzn hcP hpv hv hl
      go_enter Tryd.func35, Tryd.ntmps35
      go_wp2_with fail
      refine (HcE.out _ HA1.out).mono ?_
      rintro e w1 ⟨rfl, hz⟩
      have HA2 := Lib.hid (HA1.out.call hz)
      have x0 := ((Bx.new w 24 #[.int .i64 a.n, .string (bs a.set), .string (bs a.rel)]).alloc (.cells #[.int .i64 0, .string (bs []), .string (bs [])] 24)).call hz
      have x1 := (bx_two w (.cells #[.int .i64 a.n, .string (bs a.set), .string (bs a.rel)] 24) #[.int .i64 0, .string (bs []), .string (bs [])] (t := 24)).call hz
      have HB := Lib.hid (((((Below.refl w.heap.size w).alloc (Nat.le_refl _) (.cells #[.int .i64 a.n, .string (bs a.set), .string (bs a.rel)] 24)).alloc (by simp) (.cells #[.int .i64 0, .string (bs []), .string (bs [])] 24)).trans (hz.mono (by simp; omega))))
      have X0 := Lib.hid x0
      have X1 := Lib.hid x1
      clear hz x0 x1
      obtain ⟨k0, k1, k2⟩ := box_load X0.out
      obtain ⟨d0, d1, d2⟩ := box_load X1.out
      have f0 := X1.out.free 0
      have f1 := X1.out.free 1
      have f2 := X1.out.free 2
      go_wp2_with fail
      refine (HcP.out _ HA2.out).mono ?_
      rintro e w3 ⟨rfl, hz⟩
      clear k0 k1 k2 d0 d1 d2 f0 f1 f2
      have X0 := Lib.hid (X0.out.call hz)
      have X1 := Lib.hid (X1.out.call hz)
      have HB := Lib.hid (HB.out.trans (hz.mono HB.out.size))
      clear hz
      obtain ⟨k0, k1, k2⟩ := box_load X0.out
      obtain ⟨d0, d1, d2⟩ := box_load X1.out
      have f0 := X1.out.free 0
      have f1 := X1.out.free 1
      have f2 := X1.out.free 2
      go_wp2_with fail
      have y1 := ((X1.out.set 0 (.int .i64 (a.part ns).n)).set 1 (.string (bs (a.part ns).set))).set 2 (.string (bs (a.part ns).rel))
      obtain ⟨q0, q1, q2⟩ := box_load (a := .int .i64 (a.part ns).n) (b := .string (bs (a.part ns).set)) (c := .string (bs (a.part ns).rel)) y1
      refine bodyPost_ret (v := resV (some (a.part ns))) ?_ rfl ⟨rfl, ?_⟩
      · simp [results, Tryd.results35, go_sem, q0, q1, q2, resV]
      · exact ((HB.out.setCell (by simp) _).setCell (by simp) _).setCell (by simp) _

    · have hv : moveO a.n (bs a.set) (bs a.rel) zs = none := by unfold moveO; rw [if_neg hl]
      rw [hv]
      have hne : ((zs.length : Int) != (a.n : Int)) = true := by simp [hl]
      clear hcE hs hr hpb hok hel hnd hmap hzn hcP hpv hv hl
      go_enter Tryd.func35, Tryd.ntmps35
      go_wp2_with fail
      refine (HcE.out _ HA1.out).mono ?_
      rintro e w1 ⟨rfl, hz⟩
      have x0 := ((Bx.new w 24 #[.int .i64 a.n, .string (bs a.set), .string (bs a.rel)]).alloc (.cells #[.int .i64 0, .string (bs []), .string (bs [])] 24)).call hz
      have x1 := (bx_two w (.cells #[.int .i64 a.n, .string (bs a.set), .string (bs a.rel)] 24) #[.int .i64 0, .string (bs []), .string (bs [])] (t := 24)).call hz
      have HB := Lib.hid (((((Below.refl w.heap.size w).alloc (Nat.le_refl _) (.cells #[.int .i64 a.n, .string (bs a.set), .string (bs a.rel)] 24)).alloc (by simp) (.cells #[.int .i64 0, .string (bs []), .string (bs [])] 24)).trans (hz.mono (by simp; omega))))
      have X0 := Lib.hid x0
      have X1 := Lib.hid x1
      clear hz x0 x1
      obtain ⟨k0, k1, k2⟩ := box_load X0.out
      obtain ⟨d0, d1, d2⟩ := box_load X1.out
      have f0 := X1.out.free 0
      have f1 := X1.out.free 1
      have f2 := X1.out.free 2

      go_wp2_with fail
      have y1 := ((X1.out.set 0 (.int .i64 0)).set 1 (.string (bs []))).set 2 (.string (bs []))
      obtain ⟨q0, q1, q2⟩ := box_load (a := .int .i64 0) (b := .string (bs [])) (c := .string (bs [])) y1
      refine bodyPost_ret (v := resV none) ?_ rfl ⟨rfl, ?_⟩
      · have e0 : (⟨#[]⟩ : ByteArray) = bs [] := rfl
        simp only [e0]
        simp [results, Tryd.results35, go_sem, q0, q1, q2, resV]
      · exact ((HB.out.setCell (by simp) _).setCell (by simp) _).setCell (by simp) _


end Go.Proofs.YtpaoffjicgmleaaDoor
