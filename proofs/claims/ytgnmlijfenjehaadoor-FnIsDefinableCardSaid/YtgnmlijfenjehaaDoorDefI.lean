/-
  IsDefinable of the program. Condition: at most 2^20 numbers.
-/
import Derived.Test.YtgnmlijfenjehaaDoorWOrb
namespace Go.Proofs.YtgnmlijfenjehaaDoor
open Go.RowKit
open Pl
set_option linter.unusedSimpArgs false
set_option linter.unusedVariables false

/-- whether a list holds all numbers of another one -/
def goodB (zs : List Int) (R : List Nat) : Bool := R.all fun y => decide ((y : Int) ∈ zs)
/-- what IsDefinable answers -/
def defB (i : Int) (s r : ByteArray) (zs : List Int) : Bool := okB i s r && (elAll i zs && (nodB zs && zs.all fun z => goodB zs (orbV i s r z)))

theorem goodB_no {zs : List Int} {R : List Nat} {j : Nat} (hj : j < R.length) (h : ¬ (natsI R).getD j 0 ∈ zs) : goodB zs R = false := by
  refine Bool.eq_false_iff.2 fun hq => h ?_
  have hm := getD_mem (zs := natsI R) (by rw [natsI_len]; exact hj)
  unfold natsI at hm ⊢
  obtain ⟨y, hy, e⟩ := List.mem_map.1 hm
  rw [← e]
  exact of_decide_eq_true (List.all_eq_true.1 hq y hy)
theorem goodB_yes {zs : List Int} {R : List Nat} (h : ∀ j, j < R.length → (natsI R).getD j 0 ∈ zs) : goodB zs R = true := by
  refine List.all_eq_true.2 fun y hy => decide_eq_true ?_
  obtain ⟨j, hj, e⟩ := mem_getD (zs := natsI R) (List.mem_map.2 ⟨y, hy, rfl⟩)
  rw [natsI_len] at hj
  rw [← e]; exact h j hj
theorem defB_no {i : Int} {s r : ByteArray} {zs : List Int} {z : Int} (hz : z ∈ zs) (h : goodB zs (orbV i s r z) = false) : defB i s r zs = false := by
  refine Bool.eq_false_iff.2 fun hq => ?_
  unfold defB at hq
  simp only [Bool.and_eq_true] at hq
  have := List.all_eq_true.1 hq.2.2.2 z hz
  rw [h] at this; cases this
theorem defB_yes {i : Int} {s r : ByteArray} {zs : List Int} (h1 : okB i s r = true) (h2 : elAll i zs = true) (h3 : nodB zs = true) (h : ∀ j, j < zs.length → goodB zs (orbV i s r (zs.getD j 0)) = true) : defB i s r zs = true := by
  unfold defB
  rw [h1, h2, h3]
  refine List.all_eq_true.2 fun z hz => ?_
  obtain ⟨j, hj, e⟩ := mem_getD hz
  rw [← e]; exact h j hj

theorem orbitOf_any (i : Int) (s r : ByteArray) (z : Int) (hok : okB i s r = true) (hel : elB i z = true) (W : World) :
    Calls Tryd.prog 34 #[stV i s r, .int .i64 z] W fun e w' => (∃ C cap, e = .returned (.slice C (orbV i s r z).length cap) ∧ LRow w' C (natsI (orbV i s r z))) ∧ Below W.heap.size W w' := by
  rcases ok_cases i s r with h | ⟨a, ha, rfl, rfl, rfl⟩
  · rw [h] at hok; cases hok
  rcases el_cases a.n z with h | ⟨k, rfl, hk, _⟩
  · rw [h] at hel; cases hel
  have hv : orbV a.n (bs a.set) (bs a.rel) (k : Nat) = orbL a.n (isos a a) k := by unfold orbV; rw [hok, hel, ofSt_eq]; rfl
  rw [hv]
  exact (orbitOf_calls a ha k hk W).mono fun e w' ⟨⟨v, h1, h2⟩, h3⟩ => by
    obtain ⟨C, cap, rfl⟩ := own_slice2 h2
    exact ⟨⟨C, cap, h1, LRow_of h2⟩, h3⟩

set_option maxHeartbeats 2000000 in
theorem IsDefinable_impl (i : Int) (s r : ByteArray) (A : Option Addr) (zs : List Int) (cap : Nat) (w : World) (hs : s.size ≤ maxLen) (hr : r.size ≤ maxLen) (hn : zs.length ≤ 1048576) (hcap : zs.length ≤ cap) (hA : LRow w A zs) :
    Calls Tryd.prog 13 #[stV i s r, .slice A zs.length cap] w fun e w' => e = .returned (.bool (defB i s r zs)) ∧ Below w.heap.size w w' := by
  have HcI := fun W => isStructure_calls i s r W hs hr
  have HcE := fun (W : World) (hW : LRow W A zs) => areElements_calls i s r A zs cap W hn hW
  have HcD := fun (W : World) (hW : LRow W A zs) => allDifferent_calls A zs cap W hn hcap hW
  have HB0 := Lib.hid (Below.refl (w.heap.size + 1) (w.alloc (.cells #[.int .i64 i, .string s, .string r] 27)))
  have HA := Lib.hid (hA.alloc (.cells #[.int .i64 i, .string s, .string r] 27))
  have Xa := Lib.hid (Bx.new w 27 #[.int .i64 i, .string s, .string r])
  have Hn := Lib.hid hn
  clear hA
  cases hok : okB i s r
  case false =>
    rw [show defB i s r zs = false by unfold defB; rw [hok]; rfl]
    simp only [hok] at HcI
    clear hok
    clear hs hr
    have CI := Lib.hid HcI
    have CE := Lib.hid HcE
    have CD := Lib.hid HcD
    clear HcI HcE HcD
    obtain ⟨k0, k1, k2⟩ := box_load Xa.out
    go_enter Tryd.func13, Tryd.ntmps13
    go_wp2_with fail
    refine (CI.out _).mono ?_
    rintro e w1 ⟨rfl, hz⟩
    have B1 := Lib.hid (HB0.out.trans (hz.mono (by simp)))
    have X1 := Lib.hid (Xa.out.call hz)
    have L1 := Lib.hid (HA.out.call hz)
    clear hz k0 k1 k2
    go_wp2_with fail
    go_ret
    exact ⟨rfl, box_down B1.out⟩
  case true =>
  simp only [hok] at HcI
  cases hel : elAll i zs
  case false =>
    rw [show defB i s r zs = false by unfold defB; rw [hok, hel]; rfl]
    simp only [hel] at HcE
    clear hok hel
    clear hs hr
    have CI := Lib.hid HcI
    have CE := Lib.hid HcE
    have CD := Lib.hid HcD
    clear HcI HcE HcD
    obtain ⟨k0, k1, k2⟩ := box_load Xa.out
    go_enter Tryd.func13, Tryd.ntmps13
    go_wp2_with fail
    refine (CI.out _).mono ?_
    rintro e w1 ⟨rfl, hz⟩
    have B1 := Lib.hid (HB0.out.trans (hz.mono (by simp)))
    have X1 := Lib.hid (Xa.out.call hz)
    have L1 := Lib.hid (HA.out.call hz)
    clear hz k0 k1 k2
    obtain ⟨k0, k1, k2⟩ := box_load X1.out
    go_wp2_with fail
    refine (CE.out _ L1.out).mono ?_
    rintro e w2 ⟨rfl, hz⟩
    have B2 := Lib.hid (B1.out.trans (hz.mono (by have := B1.out.size; first | (simp; done) | (simpa using this))))
    have X2 := Lib.hid (X1.out.call hz)
    have L2 := Lib.hid (L1.out.call hz)
    clear hz k0 k1 k2
    go_wp2_with fail
    go_ret
    exact ⟨rfl, box_down B2.out⟩
  case true =>
  simp only [hel] at HcE
  cases hnd : nodB zs
  case false =>
    rw [show defB i s r zs = false by unfold defB; rw [hok, hel, hnd]; rfl]
    simp only [hnd] at HcD
    clear hok hel hnd
    clear hs hr
    have CI := Lib.hid HcI
    have CE := Lib.hid HcE
    have CD := Lib.hid HcD
    clear HcI HcE HcD
    obtain ⟨k0, k1, k2⟩ := box_load Xa.out
    go_enter Tryd.func13, Tryd.ntmps13
    go_wp2_with fail
    refine (CI.out _).mono ?_
    rintro e w1 ⟨rfl, hz⟩
    have B1 := Lib.hid (HB0.out.trans (hz.mono (by simp)))
    have X1 := Lib.hid (Xa.out.call hz)
    have L1 := Lib.hid (HA.out.call hz)
    clear hz k0 k1 k2
    obtain ⟨k0, k1, k2⟩ := box_load X1.out
    go_wp2_with fail
    refine (CE.out _ L1.out).mono ?_
    rintro e w2 ⟨rfl, hz⟩
    have B2 := Lib.hid (B1.out.trans (hz.mono (by have := B1.out.size; first | (simp; done) | (simpa using this))))
    have X2 := Lib.hid (X1.out.call hz)
    have L2 := Lib.hid (L1.out.call hz)
    clear hz k0 k1 k2
    go_wp2_with fail
    refine (CD.out _ L2.out).mono ?_
    rintro e w3 ⟨rfl, rfl⟩
    go_wp2_with fail
    go_ret
    exact ⟨rfl, box_down B2.out⟩
  case true =>
  simp only [hnd] at HcD
  have ho : ∀ z, z ∈ zs → ∀ W, Calls Tryd.prog 34 #[stV i s r, .int .i64 z] W fun e w' => (∃ C cap, e = .returned (.slice C (orbV i s r z).length cap) ∧ LRow w' C (natsI (orbV i s r z))) ∧ Below W.heap.size W w' := fun z hz W => orbitOf_any i s r z hok (List.all_eq_true.1 hel z hz) W
  have hno := fun z (hz : z ∈ zs) => @defB_no i s r zs z hz
  have hyes := @defB_yes i s r zs hok hel hnd
  obtain ⟨V, hV⟩ : ∃ V, V = defB i s r zs := ⟨_, rfl⟩
  rw [← hV] at hno hyes ⊢
  have Ho := Lib.hid ho
  have Hno := Lib.hid hno
  have Hyes := Lib.hid hyes
  clear hok hel hnd ho hno hyes hs hr hV
  have CI := Lib.hid HcI
  have CE := Lib.hid HcE
  have CD := Lib.hid HcD
  clear HcI HcE HcD
  obtain ⟨k0, k1, k2⟩ := box_load Xa.out
  go_enter Tryd.func13, Tryd.ntmps13
  go_wp2_with fail
  refine (CI.out _).mono ?_
  rintro e w1 ⟨rfl, hz⟩
  have B1 := Lib.hid (HB0.out.trans (hz.mono (by simp)))
  have X1 := Lib.hid (Xa.out.call hz)
  have L1 := Lib.hid (HA.out.call hz)
  clear hz k0 k1 k2
  obtain ⟨k0, k1, k2⟩ := box_load X1.out
  go_wp2_with fail
  refine (CE.out _ L1.out).mono ?_
  rintro e w2 ⟨rfl, hz⟩
  have B2 := Lib.hid (B1.out.trans (hz.mono (by have := B1.out.size; first | (simp; done) | (simpa using this))))
  have X2 := Lib.hid (X1.out.call hz)
  have L2 := Lib.hid (L1.out.call hz)
  clear hz k0 k1 k2 
  go_wp2_with fail
  refine (CD.out _ L2.out).mono ?_
  rintro e w3 ⟨rfl, rfl⟩
  go_wp2_with fail
  go_loopg [25] zs.length (fun c i1 wr => ∃ k : Nat, k + c = zs.length ∧ i1 = .int .i64 k ∧ (∀ j, j < k → goodB zs (orbV i s r (zs.getD j 0)) = true) ∧ Below (w.heap.size + 1) (w.alloc (.cells #[.int .i64 i, .string s, .string r] 27)) wr)
  case atStart => exact ⟨0, by omega, rfl, fun j hj => absurd hj (Nat.not_lt_zero _), B2.out⟩
  case round =>
    obtain ⟨k, hk, rfl, hall, hbr⟩ := hrel
    have Hall := Lib.hid hall
    have Hbr := Lib.hid hbr
    have xa1 := Xa.out.below hbr (Nat.lt_succ_self _)
    have HA1 := Lib.hid (HA.out.call (hbr.mono (by simp)))
    clear hall hbr
    by_cases hlt : k < zs.length
    · have hmem := getD_mem hlt
      obtain ⟨g, rfl, hc⟩ := HA1.out (by omega)
      have d1 := hc k hlt
      have i1 : (0 : Int) ≤ (k : Int) := by omega
      have i2 : (k : Int) < (zs.length : Int) := by omega
      have i3 : (k : Int) ≤ (cap : Int) := by omega
      obtain ⟨z, hz⟩ : ∃ z, z = zs.getD k 0 := ⟨_, rfl⟩
      rw [← hz] at d1 hmem
      have Hz := Lib.hid hz
      have corb := fun W => Ho.out z hmem W
      have hno := Hno.out z hmem
      have h8 := orbV_le i s r z
      obtain ⟨R, hR⟩ : ∃ R, R = orbV i s r z := ⟨_, rfl⟩
      simp only [← hR] at corb hno h8
      have HR := Lib.hid hR
      have CO := Lib.hid corb
      have HnoR := Lib.hid hno
      have XA1 := Lib.hid xa1
      obtain ⟨a0, a1, a2⟩ := box_load xa1
      clear hc hz corb hno hmem hR xa1
      go_wp2_with fail
      refine (CO.out _).mono ?_
      rintro e w7 ⟨⟨C, c7, rfl, hl⟩, hz⟩
      have HB7 := Lib.hid hz
      have HB8 := Lib.hid (Hbr.out.trans (hz.mono (by have := Hbr.out.size; simpa using this)))
      have HL7 := Lib.hid hl
      clear hz hl a0 a1 a2 d1
      have HLz := Lib.hid (show LRow w7 (some ⟨g, 0, none⟩) zs from HA1.out.call (HB7.out))
      have ch := fun y => Contains_calls (some ⟨g, 0, none⟩) zs cap y w7 Hn.out HLz.out
      have CH := Lib.hid ch
      clear ch
      go_wp2_with fail
      go_loop [33] (fun i => ∃ j : Nat, j ≤ R.length ∧ i = .int .i64 j ∧ ∀ x, x < j → (natsI R).getD x 0 ∈ zs) (fun i => R.length - (intOf i).toNat)
      case atStart => exact ⟨0, by omega, rfl, fun j hj => absurd hj (Nat.not_lt_zero _)⟩
      case round =>
        obtain ⟨j, hj, rfl, hgood⟩ := hrel
        have Hgood := Lib.hid hgood
        clear hgood
        by_cases hjl : j < R.length
        · obtain ⟨g2, rfl, hc2⟩ := HL7.out (by rw [natsI_len]; omega)
          have d2 := hc2 j (by rw [natsI_len]; omega)
          have j1 : (0 : Int) ≤ (j : Int) := by omega
          have j2 : (j : Int) < (R.length : Int) := by omega
          obtain ⟨y, hy⟩ : ∃ y, y = (natsI R).getD j 0 := ⟨_, rfl⟩
          rw [← hy] at d2
          have Hy := Lib.hid hy
          have chy := CH.out y
          clear hc2 hy
          by_cases hin : y ∈ zs
          · rw [decide_eq_true hin] at chy
            have CY := Lib.hid chy
            have Hin := Lib.hid hin
            clear chy hin
            go_wp2_with fail
            refine (CY.out).mono ?_
            rintro e w8 ⟨rfl, rfl⟩
            go_wp2_with fail
            go_round
            case rel =>
              refine ⟨j + 1, by omega, by go_num, fun x hx => ?_⟩
              by_cases hxj : x = j
              · subst hxj; rw [← Hy.out]; exact Hin.out
              · exact Hgood.out x (by omega)
            case measure => simp [intOf]; omega
          · rw [decide_eq_false hin] at chy
            have CY := Lib.hid chy
            have Hv := Lib.hid (HnoR.out (goodB_no hjl (by rw [← Hy.out]; exact hin)))
            clear chy hin
            go_wp2_with fail
            refine (CY.out).mono ?_
            rintro e w8 ⟨rfl, rfl⟩
            go_wp2_with fail
            go_ret
            exact ⟨by rw [Hv.out]; rfl, box_down HB8.out⟩
        · have Hg := Lib.hid (goodB_yes (zs := zs) (R := R) fun x hx => Hgood.out x (by omega))
          go_wp2_with fail
          go_roundg (gk - 1)
          case rel =>
            refine ⟨k + 1, by omega, by go_num, fun x hx => ?_, HB8.out⟩
            by_cases hxk : x = k
            · subst hxk; rw [← Hz.out, ← HR.out]; exact Hg.out
            · exact Hall.out x (by omega)
          case measure => omega
    · have Hv := Lib.hid (Hyes.out fun x hx => Hall.out x (by omega))
      go_wp2_with fail
      go_ret
      exact ⟨by rw [Hv.out]; rfl, box_down Hbr.out⟩

end Go.Proofs.YtgnmlijfenjehaaDoor
