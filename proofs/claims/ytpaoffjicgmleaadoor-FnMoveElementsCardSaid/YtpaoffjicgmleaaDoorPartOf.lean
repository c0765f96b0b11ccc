/-
  PartOf and MoveElements of the program. Condition: at most 2^20 numbers, texts below the reach.
-/
import Derived.Test.YtpaoffjicgmleaaDoorPart
import Derived.Test.YtpaoffjicgmleaaDoorPerms
import Derived.Test.YtpaoffjicgmleaaDoorFmt
namespace Go.Proofs.YtpaoffjicgmleaaDoor
open Go.RowKit
open Pl
set_option linter.unusedSimpArgs false
set_option linter.unusedVariables false

/-- some elements can be a part -/
def partB (i : Int) (s r : ByteArray) (zs : List Int) : Bool := okB i s r && (decide (0 < zs.length) && (elAll i zs && nodB zs))
def partO (i : Int) (s r : ByteArray) (zs : List Int) : Option St := if partB i s r zs then some ((ofSt i s r).part (zs.map Int.toNat)) else none
def moveO (i : Int) (s r : ByteArray) (zs : List Int) : Option St := if (zs.length : Int) = i then partO i s r zs else none

theorem nats_of {n : Nat} {zs : List Int} (h : elAll n zs = true) (h2 : nodB zs = true) : ∃ ns : List Nat, zs = natsI ns ∧ (∀ x ∈ ns, x < n) ∧ ns.Nodup ∧ ns.length ≤ n ∧ zs.map Int.toNat = ns := by
  have hel : ∀ z ∈ zs, 0 ≤ z ∧ z < n := fun z hz => by
    have := List.all_eq_true.1 h z hz
    unfold elB at this
    simpa using this
  have hnd : zs.Nodup := of_decide_eq_true h2
  have hz : zs = natsI (zs.map Int.toNat) := by
    unfold natsI
    rw [List.map_map]
    conv => lhs; rw [← List.map_id zs]
    apply List.map_congr_left
    intro z hzm
    have := hel z hzm
    simp only [Function.comp, id]; omega
  have hlt : ∀ x ∈ zs.map Int.toNat, x < n := fun x hx => by
    obtain ⟨z, hzm, rfl⟩ := List.mem_map.1 hx
    have := hel z hzm; omega
  have hnd2 : (zs.map Int.toNat).Nodup := map_nodup zs hnd fun x hx y hy e => by
    have := hel x hx; have := hel y hy; omega
  refine ⟨zs.map Int.toNat, hz, hlt, hnd2, ?_, rfl⟩
  have := nodup_len_le (zs.map Int.toNat) (List.range n) hnd2 (fun x hx => List.mem_range.2 (hlt x hx))
  simpa using this

theorem part_no {i : Int} {s r : ByteArray} {zs : List Int} (h : partB i s r zs = false) : partO i s r zs = none := by unfold partO; rw [h]; rfl
theorem part_yes {a : St} {zs : List Int} (h : partB a.n (bs a.set) (bs a.rel) zs = true) : partO a.n (bs a.set) (bs a.rel) zs = some (a.part (zs.map Int.toNat)) := by unfold partO; rw [h]; rfl

set_option maxHeartbeats 2000000 in
theorem PartOf_impl (i : Int) (s r : ByteArray) (A : Option Addr) (zs : List Int) (cap : Nat) (w : World) (hs : s.size ≤ maxLen) (hr : r.size ≤ maxLen) (hn : zs.length ≤ 1048576) (hcap : zs.length ≤ cap) (hA : LRow w A zs) :
    Calls Tryd.prog 11 #[stV i s r, .slice A zs.length cap] w fun e w' => e = .returned (resV (partO i s r zs)) ∧ Below w.heap.size w w' := by
  have hcI : ∀ W, Calls Tryd.prog 46 #[stV i s r] W fun e w' => e = .returned (.bool (okB i s r)) ∧ Below W.heap.size W w' := fun W => isStructure_calls i s r W hs hr
  have hcE : ∀ W, LRow W A zs → Calls Tryd.prog 47 #[stV i s r, .slice A zs.length cap] W fun e w' => e = .returned (.bool (elAll i zs)) ∧ Below W.heap.size W w' := fun W hW => areElements_calls i s r A zs cap W hn hW
  have hcD : ∀ W, LRow W A zs → Calls Tryd.prog 48 #[.slice A zs.length cap] W fun e w' => e = .returned (.bool (nodB zs)) ∧ W = w' := fun W hW => allDifferent_calls A zs cap W hn hcap hW
  have HA := Lib.hid hA
  clear hA
  cases hok : okB i s r with
  | false =>
    rw [part_no (by unfold partB; rw [hok]; rfl)]
    rw [hok] at hcI
    have HcI := Lib.hid hcI
    clear hcI hcE hcD hs hr hok
    go_enter Tryd.func11, Tryd.ntmps11
    go_wp2_with fail
    refine (HcI.out _).mono ?_
    rintro e w1 ⟨rfl, hz⟩
    have x0 := ((Bx.new w 24 #[.int .i64 i, .string s, .string r]).alloc (.cells #[.int .i64 0, .string (bs []), .string (bs [])] 24)).call hz
    have x1 := (bx_two w (.cells #[.int .i64 i, .string s, .string r] 24) #[.int .i64 0, .string (bs []), .string (bs [])] (t := 24)).call hz
    have HB := Lib.hid (((((Below.refl w.heap.size w).alloc (Nat.le_refl _) (.cells #[.int .i64 i, .string s, .string r] 24)).alloc (by simp) (.cells #[.int .i64 0, .string (bs []), .string (bs [])] 24)).trans (hz.mono (by simp; omega))))
    have X0 := Lib.hid x0
    have X1 := Lib.hid x1
    clear hz x0 x1
    obtain ⟨k0, k1, k2⟩ := box_load X0.out
    obtain ⟨d0, d1, d2⟩ := box_load X1.out
    have f0 := X1.out.free 0
    have f1 := X1.out.free 1
    have f2 := X1.out.free 2
    go_wp2_with fail
    have y1 := ((X1.out.set 0 (.int .i64 0)).set 1 (.string (bs []))).set 2 (.string (bs []))
    obtain ⟨q0, q1, q2⟩ := box_load (a := .int .i64 0) (b := .string (bs [])) (c := .string (bs [])) y1
    refine bodyPost_ret (v := resV none) ?_ rfl ⟨rfl, ?_⟩
    · have e0 : (⟨#[]⟩ : ByteArray) = bs [] := rfl
      simp only [e0]
      simp [results, Tryd.results11, go_sem, q0, q1, q2, resV]
    · exact ((HB.out.setCell (by simp) _).setCell (by simp) _).setCell (by simp) _
  | true =>
    rw [hok] at hcI
    have HcI := Lib.hid hcI
    by_cases h0 : zs.length = 0
    · rw [part_no (by unfold partB; rw [hok, decide_eq_false (by omega)]; rfl)]
      clear hcI hcE hcD hs hr hok
      go_enter Tryd.func11, Tryd.ntmps11
      go_wp2_with fail
      refine (HcI.out _).mono ?_
      rintro e w1 ⟨rfl, hz⟩
      have x0 := ((Bx.new w 24 #[.int .i64 i, .string s, .string r]).alloc (.cells #[.int .i64 0, .string (bs []), .string (bs [])] 24)).call hz
      have x1 := (bx_two w (.cells #[.int .i64 i, .string s, .string r] 24) #[.int .i64 0, .string (bs []), .string (bs [])] (t := 24)).call hz
      have HB := Lib.hid (((((Below.refl w.heap.size w).alloc (Nat.le_refl _) (.cells #[.int .i64 i, .string s, .string r] 24)).alloc (by simp) (.cells #[.int .i64 0, .string (bs []), .string (bs [])] 24)).trans (hz.mono (by simp; omega))))
      have X0 := Lib.hid x0
      have X1 := Lib.hid x1
      clear hz x0 x1
      obtain ⟨k0, k1, k2⟩ := box_load X0.out
      obtain ⟨d0, d1, d2⟩ := box_load X1.out
      have f0 := X1.out.free 0
      have f1 := X1.out.free 1
      have f2 := X1.out.free 2

      go_wp2_with fail
      have y1 := ((X1.out.set 0 (.int .i64 0)).set 1 (.string (bs []))).set 2 (.string (bs []))
      obtain ⟨q0, q1, q2⟩ := box_load (a := .int .i64 0) (b := .string (bs [])) (c := .string (bs [])) y1
      refine bodyPost_ret (v := resV none) ?_ rfl ⟨rfl, ?_⟩
      · have e0 : (⟨#[]⟩ : ByteArray) = bs [] := rfl
        simp only [e0]
        simp [results, Tryd.results11, go_sem, q0, q1, q2, resV]
      · exact ((HB.out.setCell (by simp) _).setCell (by simp) _).setCell (by simp) _

    · have h0b : ((zs.length : Int) == 0) = false := beq_eq_false_iff_ne.2 (by omega)
      cases hel : elAll i zs with
      | false =>
        rw [part_no (by unfold partB; rw [hok, hel]; simp)]
        rw [hel] at hcE
        have HcE := Lib.hid hcE
        clear hcI hcE hcD hs hr hok hel
        go_enter Tryd.func11, Tryd.ntmps11
        go_wp2_with fail
        refine (HcI.out _).mono ?_
        rintro e w1 ⟨rfl, hz⟩
        have HA1 := Lib.hid (((HA.out.alloc (.cells #[.int .i64 i, .string s, .string r] 24)).alloc (.cells #[.int .i64 0, .string (bs []), .string (bs [])] 24)).call hz)
        have x0 := ((Bx.new w 24 #[.int .i64 i, .string s, .string r]).alloc (.cells #[.int .i64 0, .string (bs []), .string (bs [])] 24)).call hz
        have x1 := (bx_two w (.cells #[.int .i64 i, .string s, .string r] 24) #[.int .i64 0, .string (bs []), .string (bs [])] (t := 24)).call hz
        have HB := Lib.hid (((((Below.refl w.heap.size w).alloc (Nat.le_refl _) (.cells #[.int .i64 i, .string s, .string r] 24)).alloc (by simp) (.cells #[.int .i64 0, .string (bs []), .string (bs [])] 24)).trans (hz.mono (by simp; omega))))
        have X0 := Lib.hid x0
        have X1 := Lib.hid x1
        clear hz x0 x1
        obtain ⟨k0, k1, k2⟩ := box_load X0.out
        obtain ⟨d0, d1, d2⟩ := box_load X1.out
        have f0 := X1.out.free 0
        have f1 := X1.out.free 1
        have f2 := X1.out.free 2

        go_wp2_with fail
        refine (HcE.out _ HA1.out).mono ?_
        rintro e w2 ⟨rfl, hz⟩
        clear k0 k1 k2 d0 d1 d2 f0 f1 f2
        have X0 := Lib.hid (X0.out.call hz)
        have X1 := Lib.hid (X1.out.call hz)
        have HB := Lib.hid (HB.out.trans (hz.mono HB.out.size))
        clear hz
        obtain ⟨k0, k1, k2⟩ := box_load X0.out
        obtain ⟨d0, d1, d2⟩ := box_load X1.out
        have f0 := X1.out.free 0
        have f1 := X1.out.free 1
        have f2 := X1.out.free 2

        go_wp2_with fail
        have y1 := ((X1.out.set 0 (.int .i64 0)).set 1 (.string (bs []))).set 2 (.string (bs []))
        obtain ⟨q0, q1, q2⟩ := box_load (a := .int .i64 0) (b := .string (bs [])) (c := .string (bs [])) y1
        refine bodyPost_ret (v := resV none) ?_ rfl ⟨rfl, ?_⟩
        · have e0 : (⟨#[]⟩ : ByteArray) = bs [] := rfl
          simp only [e0]
          simp [results, Tryd.results11, go_sem, q0, q1, q2, resV]
        · exact ((HB.out.setCell (by simp) _).setCell (by simp) _).setCell (by simp) _

      | true =>
        rw [hel] at hcE
        have HcE := Lib.hid hcE
        cases hnd : nodB zs with
        | false =>
          rw [part_no (by unfold partB; rw [hok, hel, hnd]; simp)]
          rw [hnd] at hcD
          have HcD := Lib.hid hcD
          clear hcI hcE hcD hs hr hok hel hnd
          go_enter Tryd.func11, Tryd.ntmps11
          go_wp2_with fail
          refine (HcI.out _).mono ?_
          rintro e w1 ⟨rfl, hz⟩
          have HA1 := Lib.hid (((HA.out.alloc (.cells #[.int .i64 i, .string s, .string r] 24)).alloc (.cells #[.int .i64 0, .string (bs []), .string (bs [])] 24)).call hz)
          have x0 := ((Bx.new w 24 #[.int .i64 i, .string s, .string r]).alloc (.cells #[.int .i64 0, .string (bs []), .string (bs [])] 24)).call hz
          have x1 := (bx_two w (.cells #[.int .i64 i, .string s, .string r] 24) #[.int .i64 0, .string (bs []), .string (bs [])] (t := 24)).call hz
          have HB := Lib.hid (((((Below.refl w.heap.size w).alloc (Nat.le_refl _) (.cells #[.int .i64 i, .string s, .string r] 24)).alloc (by simp) (.cells #[.int .i64 0, .string (bs []), .string (bs [])] 24)).trans (hz.mono (by simp; omega))))
          have X0 := Lib.hid x0
          have X1 := Lib.hid x1
          clear hz x0 x1
          obtain ⟨k0, k1, k2⟩ := box_load X0.out
          obtain ⟨d0, d1, d2⟩ := box_load X1.out
          have f0 := X1.out.free 0
          have f1 := X1.out.free 1
          have f2 := X1.out.free 2

          go_wp2_with fail
          refine (HcE.out _ HA1.out).mono ?_
          rintro e w2 ⟨rfl, hz⟩
          have HA2 := Lib.hid (HA1.out.call hz)
          clear k0 k1 k2 d0 d1 d2 f0 f1 f2
          have X0 := Lib.hid (X0.out.call hz)
          have X1 := Lib.hid (X1.out.call hz)
          have HB := Lib.hid (HB.out.trans (hz.mono HB.out.size))
          clear hz
          obtain ⟨k0, k1, k2⟩ := box_load X0.out
          obtain ⟨d0, d1, d2⟩ := box_load X1.out
          have f0 := X1.out.free 0
          have f1 := X1.out.free 1
          have f2 := X1.out.free 2

          go_wp2_with fail
          refine (HcD.out _ HA2.out).mono ?_
          rintro e w2 ⟨rfl, rfl⟩
          go_wp2_with fail
          have y1 := ((X1.out.set 0 (.int .i64 0)).set 1 (.string (bs []))).set 2 (.string (bs []))
          obtain ⟨q0, q1, q2⟩ := box_load (a := .int .i64 0) (b := .string (bs [])) (c := .string (bs [])) y1
          refine bodyPost_ret (v := resV none) ?_ rfl ⟨rfl, ?_⟩
          · have e0 : (⟨#[]⟩ : ByteArray) = bs [] := rfl
            simp only [e0]
            simp [results, Tryd.results11, go_sem, q0, q1, q2, resV]
          · exact ((HB.out.setCell (by simp) _).setCell (by simp) _).setCell (by simp) _

        | true =>
          obtain ⟨a, ha, rfl, rfl, rfl⟩ : ∃ a : St, a.ok ∧ i = a.n ∧ s = bs a.set ∧ r = bs a.rel := by
            rcases ok_cases i s r with h | h
            · rw [h] at hok; cases hok
            · exact h
          have hpb : partB a.n (bs a.set) (bs a.rel) zs = true := by unfold partB; rw [hok, hel, hnd, decide_eq_true (by omega)]; rfl
          rw [part_yes hpb]
          obtain ⟨ns, hzn, hns, hnd2, hnl, hmap⟩ := nats_of hel hnd
          rw [hmap]
          rw [hnd] at hcD
          have HcD := Lib.hid hcD
          have hl8 := ha.hi
          have hcP : ∀ W, LRow W A zs → Calls Tryd.prog 49 #[stA a, .slice A zs.length cap] W fun e w' => e = .returned (stA (a.part ns)) ∧ Below W.heap.size W w' := fun W hW => by
            rw [hzn] at hW
            rw [hzn, natsI_len]
            exact partOf_calls a ha ns hns (by omega) A cap W hW
          have HcP := Lib.hid hcP
          clear hcI hcE hcD hs hr hok hel hnd hpb hmap hzn hcP
          go_enter Tryd.func11, Tryd.ntmps11
          go_wp2_with fail
          refine (HcI.out _).mono ?_
          rintro e w1 ⟨rfl, hz⟩
          have HA1 := Lib.hid (((HA.out.alloc (.cells #[.int .i64 a.n, .string (bs a.set), .string (bs a.rel)] 24)).alloc (.cells #[.int .i64 0, .string (bs []), .string (bs [])] 24)).call hz)
          have x0 := ((Bx.new w 24 #[.int .i64 a.n, .string (bs a.set), .string (bs a.rel)]).alloc (.cells #[.int .i64 0, .string (bs []), .string (bs [])] 24)).call hz
          have x1 := (bx_two w (.cells #[.int .i64 a.n, .string (bs a.set), .string (bs a.rel)] 24) #[.int .i64 0, .string (bs []), .string (bs [])] (t := 24)).call hz
          have HB := Lib.hid (((((Below.refl w.heap.size w).alloc (Nat.le_refl _) (.cells #[.int .i64 a.n, .string (bs a.set), .string (bs a.rel)] 24)).alloc (by simp) (.cells #[.int .i64 0, .string (bs []), .string (bs [])] 24)).trans (hz.mono (by simp; omega))))
          have X0 := Lib.hid x0
          have X1 := Lib.hid x1
          clear hz x0 x1
          obtain ⟨k0, k1, k2⟩ := box_load X0.out
          obtain ⟨d0, d1, d2⟩ := box_load X1.out
          have f0 := X1.out.free 0
          have f1 := X1.out.free 1
          have f2 := X1.out.free 2

          go_wp2_with fail
          refine (HcE.out _ HA1.out).mono ?_
          rintro e w2 ⟨rfl, hz⟩
          have HA2 := Lib.hid (HA1.out.call hz)
          clear k0 k1 k2 d0 d1 d2 f0 f1 f2
          have X0 := Lib.hid (X0.out.call hz)
          have X1 := Lib.hid (X1.out.call hz)
          have HB := Lib.hid (HB.out.trans (hz.mono HB.out.size))
          clear hz
          obtain ⟨k0, k1, k2⟩ := box_load X0.out
          obtain ⟨d0, d1, d2⟩ := box_load X1.out
          have f0 := X1.out.free 0
          have f1 := X1.out.free 1
          have f2 := X1.out.free 2

          go_wp2_with fail
          refine (HcD.out _ HA2.out).mono ?_
          rintro e w2 ⟨rfl, rfl⟩
          go_wp2_with fail
          refine (HcP.out _ HA2.out).mono ?_
          rintro e w3 ⟨rfl, hz⟩
          clear k0 k1 k2 d0 d1 d2 f0 f1 f2
          have X0 := Lib.hid (X0.out.call hz)
          have X1 := Lib.hid (X1.out.call hz)
          have HB := Lib.hid (HB.out.trans (hz.mono HB.out.size))
          clear hz
          obtain ⟨k0, k1, k2⟩ := box_load X0.out
          obtain ⟨d0, d1, d2⟩ := box_load X1.out
          have f0 := X1.out.free 0
          have f1 := X1.out.free 1
          have f2 := X1.out.free 2

          go_wp2_with fail
          have y1 := ((X1.out.set 0 (.int .i64 (a.part ns).n)).set 1 (.string (bs (a.part ns).set))).set 2 (.string (bs (a.part ns).rel))
          obtain ⟨q0, q1, q2⟩ := box_load (a := .int .i64 (a.part ns).n) (b := .string (bs (a.part ns).set)) (c := .string (bs (a.part ns).rel)) y1
          refine bodyPost_ret (v := resV (some (a.part ns))) ?_ rfl ⟨rfl, ?_⟩
          · simp [results, Tryd.results11, go_sem, q0, q1, q2, resV]
          · exact ((HB.out.setCell (by simp) _).setCell (by simp) _).setCell (by simp) _


set_option maxHeartbeats 1000000 in
theorem MoveElements_impl (i : Int) (s r : ByteArray) (A : Option Addr) (zs : List Int) (cap : Nat) (w : World) (hs : s.size ≤ maxLen) (hr : r.size ≤ maxLen) (hn : zs.length ≤ 1048576) (hcap : zs.length ≤ cap) (hA : LRow w A zs) :
    Calls Tryd.prog 34 #[stV i s r, .slice A zs.length cap] w fun e w' => e = .returned (resV (moveO i s r zs)) ∧ Below w.heap.size w w' := by
  by_cases hl : (zs.length : Int) = i
  · have hv : moveO i s r zs = partO i s r zs := if_pos hl
    rw [hv]
    have hcP : ∀ W, LRow W A zs → Calls Tryd.prog 11 #[stV i s r, .slice A zs.length cap] W fun e w' => e = .returned (resV (partO i s r zs)) ∧ Below W.heap.size W w' := fun W hW => PartOf_impl i s r A zs cap W hs hr hn hcap hW
    obtain ⟨j, S, R, b, hres⟩ := resV_form (partO i s r zs)
    rw [hres] at hcP ⊢
    have HcP := Lib.hid hcP
    have HA := Lib.hid hA
    have hne : ((zs.length : Int) != i) = false := by simp [hl]
    clear hcP hA hs hr hv hres hl
    have HA1 := Lib.hid ((HA.out.alloc (.cells #[.int .i64 i, .string s, .string r] 24)).alloc (.cells #[.int .i64 0, .string (bs []), .string (bs [])] 24))
    go_enter Tryd.func34, Tryd.ntmps34
    go_wp2_with fail
    refine (HcP.out _ HA1.out).mono ?_
    rintro e w1 ⟨rfl, hz⟩
    have x0 := ((Bx.new w 24 #[.int .i64 i, .string s, .string r]).alloc (.cells #[.int .i64 0, .string (bs []), .string (bs [])] 24)).call hz
    have x1 := (bx_two w (.cells #[.int .i64 i, .string s, .string r] 24) #[.int .i64 0, .string (bs []), .string (bs [])] (t := 24)).call hz
    have HB := Lib.hid (((((Below.refl w.heap.size w).alloc (Nat.le_refl _) (.cells #[.int .i64 i, .string s, .string r] 24)).alloc (by simp) (.cells #[.int .i64 0, .string (bs []), .string (bs [])] 24)).trans (hz.mono (by simp; omega))))
    have X0 := Lib.hid x0
    have X1 := Lib.hid x1
    clear hz x0 x1
    obtain ⟨k0, k1, k2⟩ := box_load X0.out
    obtain ⟨d0, d1, d2⟩ := box_load X1.out
    have f0 := X1.out.free 0
    have f1 := X1.out.free 1
    have f2 := X1.out.free 2
    go_wp2_with fail
    have y1 := ((X1.out.set 0 (.int .i64 j)).set 1 (.string S)).set 2 (.string R)
    obtain ⟨q0, q1, q2⟩ := box_load (a := .int .i64 j) (b := .string S) (c := .string R) y1
    refine bodyPost_ret (v := .tuple #[stV j S R, .bool b]) ?_ rfl ⟨rfl, ?_⟩
    · simp [results, Tryd.results34, go_sem, q0, q1, q2]
    · exact ((HB.out.setCell (by simp) _).setCell (by simp) _).setCell (by simp) _
  · have hv : moveO i s r zs = none := if_neg hl
    rw [hv]
    have hne : ((zs.length : Int) != i) = true := by simp [hl]
    clear hA hs hr hv hl
    have hz : Below ((w.alloc (.cells #[.int .i64 i, .string s, .string r] 24)).alloc (.cells #[.int .i64 0, .string (bs []), .string (bs [])] 24)).heap.size ((w.alloc (.cells #[.int .i64 i, .string s, .string r] 24)).alloc (.cells #[.int .i64 0, .string (bs []), .string (bs [])] 24)) ((w.alloc (.cells #[.int .i64 i, .string s, .string r] 24)).alloc (.cells #[.int .i64 0, .string (bs []), .string (bs [])] 24)) := Below.refl _ _
    have x0 := ((Bx.new w 24 #[.int .i64 i, .string s, .string r]).alloc (.cells #[.int .i64 0, .string (bs []), .string (bs [])] 24)).call hz
    have x1 := (bx_two w (.cells #[.int .i64 i, .string s, .string r] 24) #[.int .i64 0, .string (bs []), .string (bs [])] (t := 24)).call hz
    have HB := Lib.hid (((((Below.refl w.heap.size w).alloc (Nat.le_refl _) (.cells #[.int .i64 i, .string s, .string r] 24)).alloc (by simp) (.cells #[.int .i64 0, .string (bs []), .string (bs [])] 24)).trans (hz.mono (by simp; omega))))
    have X0 := Lib.hid x0
    have X1 := Lib.hid x1
    clear hz x0 x1
    have y1 := ((X1.out.set 0 (.int .i64 0)).set 1 (.string (bs []))).set 2 (.string (bs []))
    obtain ⟨q0, q1, q2⟩ := box_load (a := .int .i64 0) (b := .string (bs [])) (c := .string (bs [])) y1
    go_enter Tryd.func34, Tryd.ntmps34
    go_wp2_with fail
    refine bodyPost_ret (v := resV none) ?_ rfl ⟨rfl, ?_⟩
    · have e0 : (⟨#[]⟩ : ByteArray) = bs [] := rfl
      simp only [e0]
      simp [results, Tryd.results34, go_sem, resV]
    · exact HB.out

end Go.Proofs.YtpaoffjicgmleaaDoor
