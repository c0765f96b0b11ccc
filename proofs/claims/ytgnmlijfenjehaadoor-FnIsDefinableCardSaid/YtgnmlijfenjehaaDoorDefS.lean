/-
  IsDefinable of the reference. Condition: at most 2^20 numbers.
-/
import Derived.Test.YtgnmlijfenjehaaDoorDefI
import Derived.Test.YtgnmlijfenjehaaDoorReg
namespace Go.Proofs.YtgnmlijfenjehaaDoor
open Go.RowKit
open Pl
set_option linter.unusedSimpArgs false
set_option linter.unusedVariables false

set_option maxHeartbeats 2000000 in
theorem IsDefinable_spec (i : Int) (s r : ByteArray) (A : Option Addr) (zs : List Int) (cap : Nat) (w : World) (hs : s.size ≤ maxLen) (hr : r.size ≤ maxLen) (hn : zs.length ≤ 1048576) (hcap : zs.length ≤ cap) (hA : LRow w A zs) :
    Calls Tryd.prog 10 #[stV i s r, .slice A zs.length cap] w fun e w' => e = .returned (.bool (defB i s r zs)) ∧ Below w.heap.size w w' := by
  have HcV := fun W => StructureValid_spec i s r W hs hr
  have HcE := fun (W : World) (hW : LRow W A zs) => l1Elements_calls i s r A zs cap W hs hr hn hcap hW
  have HB0 := Lib.hid (Below.refl (w.heap.size + 1) (w.alloc (.cells #[.int .i64 i, .string s, .string r] 27)))
  have HA := Lib.hid (hA.alloc (.cells #[.int .i64 i, .string s, .string r] 27))
  have Xa := Lib.hid (Bx.new w 27 #[.int .i64 i, .string s, .string r])
  have Hn := Lib.hid hn
  clear hA
  by_cases h0 : zs.length = 0
  case pos =>
    obtain rfl : zs = [] := List.eq_nil_of_length_eq_zero h0
    rw [show defB i s r [] = okB i s r by unfold defB elAll nodB; simp]
    have l0 : ¬ (0 : Int) < (([] : List Int).length : Int) := by simp
    have l1 : (([] : List Int).length : Int) = 0 := by simp
    cases hok : okB i s r
    case false =>
      simp only [hok] at HcV
      clear hok hs hr
      have CV := Lib.hid HcV
      have CE := Lib.hid HcE
      clear HcV HcE
      obtain ⟨k0, k1, k2⟩ := box_load Xa.out
      go_enter Tryd.func10, Tryd.ntmps10
      have B1 := HB0
      have X1 := Xa
      go_wp2_with fail
      refine (CV.out _).mono ?_
      rintro e w2 ⟨rfl, hz⟩
      have B2 := Lib.hid (B1.out.trans (hz.mono (by have := B1.out.size; first | (simp; done) | (simpa using this))))
      clear hz k0 k1 k2
      go_wp2_with fail
      go_ret
      exact ⟨rfl, box_down B2.out⟩
    case true =>
      simp only [hok] at HcV
      clear hok hs hr
      have CV := Lib.hid HcV
      have CE := Lib.hid HcE
      clear HcV HcE
      obtain ⟨k0, k1, k2⟩ := box_load Xa.out
      go_enter Tryd.func10, Tryd.ntmps10
      have B1 := HB0
      have X1 := Xa
      go_wp2_with fail
      refine (CV.out _).mono ?_
      rintro e w2 ⟨rfl, hz⟩
      have B2 := Lib.hid (B1.out.trans (hz.mono (by have := B1.out.size; first | (simp; done) | (simpa using this))))
      clear hz k0 k1 k2
      go_wp2_with fail
      go_loop [5] (fun i => i = .int .i64 0) (fun i => 0)
      case atStart => rfl
      case round =>
        subst hrel
        go_wp2_with fail
        go_ret
        exact ⟨rfl, box_down B2.out⟩
  case neg =>
  have l0 : (0 : Int) < (zs.length : Int) := by omega
  cases hpb : partB i s r zs
  case false =>
    rw [show defB i s r zs = false by
      refine Bool.eq_false_iff.2 fun hq => ?_
      refine Bool.eq_false_iff.1 hpb ?_
      unfold defB at hq
      unfold partB
      simp only [Bool.and_eq_true] at hq ⊢
      exact ⟨hq.1, decide_eq_true (by omega), hq.2.1, hq.2.2.1⟩]
    simp only [hpb] at HcE
    clear hpb hs hr
    have CV := Lib.hid HcV
    have CE := Lib.hid HcE
    clear HcV HcE
    obtain ⟨k0, k1, k2⟩ := box_load Xa.out
    go_enter Tryd.func10, Tryd.ntmps10
    go_wp2_with fail
    refine (CE.out _ HA.out).mono ?_
    rintro e w1 ⟨rfl, hz⟩
    have B1 := Lib.hid (HB0.out.trans (hz.mono (by simp)))
    have X1 := Lib.hid (Xa.out.call hz)
    clear hz k0 k1 k2
    go_wp2_with fail
    go_ret
    exact ⟨rfl, box_down B1.out⟩
  case true =>
  simp only [hpb] at HcE
  obtain ⟨hok, _, hel, hnd⟩ : okB i s r = true ∧ decide (0 < zs.length) = true ∧ elAll i zs = true ∧ nodB zs = true := by
    unfold partB at hpb
    simpa only [Bool.and_eq_true] using hpb
  simp only [hok] at HcV
  clear hpb
  have ho : ∀ z, z ∈ zs → ∀ W, Calls Tryd.prog 29 #[stV i s r, .int .i64 z] W fun e w' => (∃ C cap, e = .returned (.slice C (orbV i s r z).length cap) ∧ LRow w' C (natsI (orbV i s r z))) ∧ Below W.heap.size W w' := fun z hz W => (OrbitOf_spec i s r z W hs hr).mono fun e w' ⟨⟨v, h1, h2⟩, h3⟩ => by
    obtain ⟨C, cap, rfl⟩ := own_slice2 h2
    exact ⟨⟨C, cap, h1, LRow_of h2⟩, h3⟩
  have hno := fun z (hz : z ∈ zs) => @defB_no i s r zs z hz
  have hyes := @defB_yes i s r zs hok hel hnd
  obtain ⟨V, hV⟩ : ∃ V, V = defB i s r zs := ⟨_, rfl⟩
  rw [← hV] at hno hyes ⊢
  have Ho := Lib.hid ho
  have Hno := Lib.hid hno
  have Hyes := Lib.hid hyes
  clear hok hel hnd ho hno hyes hs hr hV
  have CV := Lib.hid HcV
  have CE := Lib.hid HcE
  clear HcV HcE
  obtain ⟨k0, k1, k2⟩ := box_load Xa.out
  go_enter Tryd.func10, Tryd.ntmps10
  go_wp2_with fail
  refine (CE.out _ HA.out).mono ?_
  rintro e w1 ⟨rfl, hz⟩
  have B1 := Lib.hid (HB0.out.trans (hz.mono (by simp)))
  have X1 := Lib.hid (Xa.out.call hz)
  clear hz k0 k1 k2
  obtain ⟨k0, k1, k2⟩ := box_load X1.out
  go_wp2_with fail
  refine (CV.out _).mono ?_
  rintro e w2 ⟨rfl, hz⟩
  have B2 := Lib.hid (B1.out.trans (hz.mono (by have := B1.out.size; first | (simp; done) | (simpa using this))))
  clear hz k0 k1 k2
  go_wp2_with fail
  go_loopg [5] zs.length (fun c i1 wr => ∃ k : Nat, k + c = zs.length ∧ i1 = .int .i64 k ∧ (∀ j, j < k → goodB zs (orbV i s r (zs.getD j 0)) = true) ∧ Below (w.heap.size + 1) (w.alloc (.cells #[.int .i64 i, .string s, .string r] 27)) wr)
  case atStart => exact ⟨0, by omega, rfl, fun j hj => absurd hj (Nat.not_lt_zero _), B2.out⟩
  case round =>
    obtain ⟨k, hk, rfl, hall, hbr⟩ := hrel
    have Hall := Lib.hid hall
    have Hbr := Lib.hid hbr
    have xa1 := Xa.out.below hbr (Nat.lt_succ_self _)
    have HA1 := Lib.hid (HA.out.call (hbr.mono (by simp)))
    clear hall hbr
    by_cases hlt : k < zs.length
    · have hmem := getD_mem hlt
      obtain ⟨g, rfl, hc⟩ := HA1.out (by omega)
      have d1 := hc k hlt
      have i1 : (0 : Int) ≤ (k : Int) := by omega
      have i2 : (k : Int) < (zs.length : Int) := by omega
      have i3 : (k : Int) ≤ (cap : Int) := by omega
      obtain ⟨z, hz⟩ : ∃ z, z = zs.getD k 0 := ⟨_, rfl⟩
      rw [← hz] at d1 hmem
      have Hz := Lib.hid hz
      have corb := fun W => Ho.out z hmem W
      have hno := Hno.out z hmem
      have h8 := orbV_le i s r z
      obtain ⟨R, hR⟩ : ∃ R, R = orbV i s r z := ⟨_, rfl⟩
      simp only [← hR] at corb hno h8
      have HR := Lib.hid hR
      have CO := Lib.hid corb
      have HnoR := Lib.hid hno
      have XA1 := Lib.hid xa1
      obtain ⟨a0, a1, a2⟩ := box_load xa1
      clear hc hz corb hno hmem hR xa1
      go_upto_region 6 with (fail)
      have HbrD := Lib.hid Hbr.out.drew
      clear a0 a1 a2
      obtain ⟨a0, a1, a2⟩ := box_load XA1.out.drew
      refine region_sched [(0, true), (1, true), (2, true), (3, true), (4, true), (5, false), (6, true)] (fun w' : World => w'.cell? ⟨w.heap.size, 0, none⟩ = some (.int .i64 i) ∧ w'.cell? ⟨w.heap.size, 1, none⟩ = some (.string s) ∧ w'.cell? ⟨w.heap.size, 2, none⟩ = some (.string r) ∧ w'.cell? ⟨g, k, none⟩ = some (.int .i64 z)) (by kernel_rfl) (by kernel_rfl) (by kernel_rfl) (by kernel_rfl) (fun _ _ _ _ h => h) ?_ (fun Q1 hQ1 => ?_)
      · exact ⟨a0, a1, a2, d1⟩
      try simp only [List.append]
      refine sched_take' (v := .agg #[.int .i64 i, .string s, .string r]) (a' := ?_) rfl (by kernel_rfl) ?_ rfl ?_ ?_
      rotate_left 1
      · intro w hSw
        (try dsimp only at hSw)
        go_simp
        first | done | (obtain ⟨u0, u1, u2, ud⟩ := hSw; simp [*])
      · (try simp only [Act.put, List.setIfInBounds_toArray, List.set_cons_zero, List.set_cons_succ])
        try rfl
      refine sched_take' (v := ?_) (a' := ?_) rfl (by kernel_rfl) ?_ rfl ?_ ?_
      rotate_left 2
      · intro w hSw
        (try dsimp only at hSw)
        go_simp
        try with_reducible rfl
      · (try simp only [Act.put, List.setIfInBounds_toArray, List.set_cons_zero, List.set_cons_succ])
        try rfl
      refine sched_take' (v := ?_) (a' := ?_) rfl (by kernel_rfl) ?_ rfl ?_ ?_
      rotate_left 2
      · intro w hSw
        (try dsimp only at hSw)
        go_simp
        try with_reducible rfl
      · (try simp only [Act.put, List.setIfInBounds_toArray, List.set_cons_zero, List.set_cons_succ])
        try rfl
      refine sched_take' (v := ?_) (a' := ?_) rfl (by kernel_rfl) ?_ rfl ?_ ?_
      rotate_left 2
      · intro w hSw
        (try dsimp only at hSw)
        go_simp
        try with_reducible rfl
      · (try simp only [Act.put, List.setIfInBounds_toArray, List.set_cons_zero, List.set_cons_succ])
        try rfl
      refine sched_take' (v := .int .i64 z) (a' := ?_) rfl (by kernel_rfl) ?_ rfl ?_ ?_
      rotate_left 1
      · intro w hSw
        (try dsimp only at hSw)
        go_simp
        first | done | (obtain ⟨u0, u1, u2, ud⟩ := hSw; simp [*])
      · (try simp only [Act.put, List.setIfInBounds_toArray, List.set_cons_zero, List.set_cons_succ])
        try rfl
      refine sched_call rfl (by kernel_rfl) (fun K1 hK1 => ?_)
      go_simp
      refine (CO.out _).mono ?_
      rintro e w7 ⟨⟨C7, c7, rfl, hl⟩, hz⟩
      have HB7 := Lib.hid hz
      have HB8 := Lib.hid (HbrD.out.trans (hz.mono (by have := HbrD.out.size; simpa using this)))
      have HL7 := Lib.hid hl
      have d2 := (hz.cell (World.block_lt_of_cell? _ _ d1)).trans d1
      clear hz hl a0 a1 a2
      obtain ⟨a0, a1, a2⟩ := box_load (XA1.out.drew.call HB7.out)
      go_wp2_with fail
      refine hK1.out _ _ ?_ (sched_lay (a' := ?_) ?_ ?_)
      · exact ⟨a0, a1, a2, d2⟩
      rotate_left 1
      · (try simp only [Act.put, List.getElem_toArray, List.getElem_cons_succ, List.getElem_cons_zero, List.setIfInBounds_toArray, List.set_cons_zero, List.set_cons_succ])
        try rfl
      clear hK1 K1
      refine sched_take' (v := ?_) (a' := ?_) rfl (by kernel_rfl) ?_ rfl ?_ ?_
      rotate_left 2
      · intro w hSw
        (try dsimp only at hSw)
        go_simp
        try with_reducible rfl
      · (try simp only [Act.put, List.setIfInBounds_toArray, List.set_cons_zero, List.set_cons_succ])
        try rfl
      refine sched_done (hQ1.out _ _ ?_)
      clear a0 a1 a2 d1 d2
      go_wp2_with fail
      have HLz := Lib.hid (show LRow w7 (some ⟨g, 0, none⟩) zs from HA1.out.drew.call HB7.out)
      have ch := fun y => l1Has_calls (some ⟨g, 0, none⟩) zs cap y w7 Hn.out HLz.out
      have CH := Lib.hid ch
      clear ch
      go_wp2_with fail
      go_loop [7] (fun i => ∃ j : Nat, j ≤ R.length ∧ i = .int .i64 j ∧ ∀ x, x < j → (natsI R).getD x 0 ∈ zs) (fun i => R.length - (intOf i).toNat)
      case atStart => exact ⟨0, by omega, rfl, fun j hj => absurd hj (Nat.not_lt_zero _)⟩
      case round =>
        obtain ⟨j, hj, rfl, hgood⟩ := hrel
        have Hgood := Lib.hid hgood
        clear hgood
        by_cases hjl : j < R.length
        · obtain ⟨g2, rfl, hc2⟩ := HL7.out (by rw [natsI_len]; omega)
          have d2 := hc2 j (by rw [natsI_len]; omega)
          have j1 : (0 : Int) ≤ (j : Int) := by omega
          have j2 : (j : Int) < (R.length : Int) := by omega
          obtain ⟨y, hy⟩ : ∃ y, y = (natsI R).getD j 0 := ⟨_, rfl⟩
          rw [← hy] at d2
          have Hy := Lib.hid hy
          have chy := CH.out y
          clear hc2 hy
          by_cases hin : y ∈ zs
          · rw [decide_eq_true hin] at chy
            have CY := Lib.hid chy
            have Hin := Lib.hid hin
            clear chy hin
            go_wp2_with fail
            refine (CY.out).mono ?_
            rintro e w8 ⟨rfl, rfl⟩
            go_wp2_with fail
            go_round
            case rel =>
              refine ⟨j + 1, by omega, by go_num, fun x hx => ?_⟩
              by_cases hxj : x = j
              · subst hxj; rw [← Hy.out]; exact Hin.out
              · exact Hgood.out x (by omega)
            case measure => simp [intOf]; omega
          · rw [decide_eq_false hin] at chy
            have CY := Lib.hid chy
            have Hv := Lib.hid (HnoR.out (goodB_no hjl (by rw [← Hy.out]; exact hin)))
            clear chy hin
            go_wp2_with fail
            refine (CY.out).mono ?_
            rintro e w8 ⟨rfl, rfl⟩
            go_wp2_with fail
            go_ret
            exact ⟨by rw [Hv.out]; rfl, box_down HB8.out⟩
        · have Hg := Lib.hid (goodB_yes (zs := zs) (R := R) fun x hx => Hgood.out x (by omega))
          go_wp2_with fail
          go_roundg (gk - 1)
          case rel =>
            refine ⟨k + 1, by omega, by go_num, fun x hx => ?_, HB8.out⟩
            by_cases hxk : x = k
            · subst hxk; rw [← Hz.out, ← HR.out]; exact Hg.out
            · exact Hall.out x (by omega)
          case measure => omega
    · have Hv := Lib.hid (Hyes.out fun x hx => Hall.out x (by omega))
      go_wp2_with fail
      go_ret
      exact ⟨by rw [Hv.out]; rfl, box_down Hbr.out⟩

end Go.Proofs.YtgnmlijfenjehaaDoor
