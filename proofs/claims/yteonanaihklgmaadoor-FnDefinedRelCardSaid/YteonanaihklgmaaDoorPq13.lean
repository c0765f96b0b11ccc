/-
  Laws of the functions that the claim reaches, one after the other (packed by a program of the prover's: WRelLaw). Conditions: texts below the reach.
-/
import Derived.Test.YteonanaihklgmaaDoorPq6
import Derived.Test.YteonanaihklgmaaDoorPq7
import Derived.Test.YteonanaihklgmaaDoorPq11
import Derived.Test.YteonanaihklgmaaDoorPq12
import Derived.Test.YteonanaihklgmaaDoorPq10
set_option linter.unusedSimpArgs false
set_option linter.unusedVariables false

namespace Go.Proofs.YteonanaihklgmaaDoor
open Go.RowKit
open Pl
set_option linter.unusedSimpArgs false
set_option linter.unusedVariables false

attribute [local go_sem ↓] Go.wp_at_zero Go.wp_at_succ

theorem def_at (a : St) (g : Fm) {x y : Nat} (hx : x < a.n) (hy : y < a.n) (RT : ByteArray) (hR : RT = bs (defS a g).rel) : ∃ h : x * a.n + y < RT.size, (((RT[x * a.n + y]'h).toNat : Int) == 49) = pairB a g x y := by
  subst hR
  have h := (flat_get (m := a.n) (fun x y => bitB (pairB a g x y)) a.n).2 x y hx hy
  obtain ⟨hl, he⟩ := List.getElem?_eq_some_iff.1 h
  refine ⟨by rw [bs_size]; exact hl, ?_⟩
  have e1 : (bs (defS a g).rel)[x * a.n + y]'(by rw [bs_size]; exact hl) = bitB (pairB a g x y) := he
  rw [e1]
  cases pairB a g x y <;> rfl
theorem def_size (a : St) (g : Fm) : (bs (defS a g).rel).size = a.n * a.n := by
  rw [bs_size]
  exact (flat_get (m := a.n) (fun x y => bitB (pairB a g x y)) a.n).1

set_option maxHeartbeats 16000000 in
set_option maxRecDepth 100000 in
theorem FnDefinedRel_walk (A : Option Addr) (n cap : Nat) (w : World) (h : ByRow w A n) (hc : n ≤ cap) (hm : cap ≤ maxLen) :
    Calls Tryd.prog 6 #[.slice A n cap] w fun e w' => e = .returned (.bool true) ∧ Below w.heap.size w w' := by
  by_cases hn : n ≤ 1048576
  case neg =>
    have hni : (1048576 : Int) < (n : Int) := by omega
    clear h hc hm
    go_enter Tryd.func6, Tryd.ntmps6
    go_wp2_with fail
    go_ret
    exact ⟨rfl, Below.refl _ _⟩
  case pos =>
  have hni : (n : Int) ≤ 1048576 := by omega
  have HD := Lib.hid (DrawDefinedRel_calls A n cap w h hn hc hm)
  clear h hc hm
  go_enter Tryd.func6, Tryd.ntmps6
  go_wp2_with fail
  refine (HD.out).mono ?_
  rintro e w1 ⟨⟨i, s, r, t, rfl, hs, hr, ht⟩, hz⟩
  have B1 := Lib.hid (hz.alloc hz.size (.cells #[.int .i64 i, .string s, .string r] 27))
  have X1 := Lib.hid (Bx.new w1 27 #[.int .i64 i, .string s, .string r])
  have ci := fun W => DefinedRel_impl i s r t W (by unfold maxLen; omega) (by unfold maxLen; omega)
  have cs := fun W => DefinedRel_spec i s r t W (by unfold maxLen; omega) (by unfold maxLen; omega) (by unfold maxLen; omega)
  clear hz
  rcases rel_cases i s r t with ⟨hb, hv⟩ | ⟨a, g, ha, rfl, rfl, rfl, rfl, hgl, hfr, hb, hv⟩
  · simp only [hb, hv] at ci cs
    have CI := Lib.hid ci
    have CS := Lib.hid cs
    clear ci cs hv hb
    obtain ⟨x0, x1, x2⟩ := box_load X1.out
    go_wp2_with fail
    refine (CI.out _).mono ?_
    rintro e w2 ⟨rfl, hz⟩
    have B2 := Lib.hid (B1.out.trans (hz.mono B1.out.size))
    have X2 := Lib.hid (X1.out.call hz)
    clear hz x0 x1 x2
    obtain ⟨x0, x1, x2⟩ := box_load X2.out
    go_wp2_with fail
    refine (CS.out _).mono ?_
    rintro e w3 ⟨rfl, hz⟩
    have B3 := Lib.hid (B2.out.trans (hz.mono B2.out.size))
    have X3 := Lib.hid (X2.out.call hz)
    clear hz x0 x1 x2
    obtain ⟨x0, x1, x2⟩ := box_load X3.out
    go_wp2_with fail
    go_ret
    exact ⟨rfl, B3.out⟩
  simp only [hb, hv] at ci cs
  clear hb hv
  have h8 := ha.hi
  have hlo := ha.lo
  have hsr := st_len ha
  have h100 := st_sm ha
  have hok := defS_ok ha g
  have h100b := st_sm hok
  have hcn := fun W => CountPoints_impl a.n (bs a.set) (bs a.rel) (bs g.text) 2 W (st_len ha).1 (st_len ha).2
  simp only [show cptV a.n (bs a.set) (bs a.rel) (bs g.text) 2 = (cntL a g 2 : Nat) from cpt_fm ha hgl (k := 2) (by omega) hfr] at hcn
  rw [← ones_cntL] at hcn
  have hsa := fun W => CountSymmetries_impl a.n (bs a.set) (bs a.rel) W (st_len ha).1 (st_len ha).2
  have hsb := fun W => CountSymmetries_impl (defS a g).n (bs (defS a g).set) (bs (defS a g).rel) W (st_len hok).1 (st_len hok).2
  have hoa := fun (x : Nat) (W : World) => orbI_any a.n (bs a.set) (bs a.rel) (x : Nat) h100.1 h100.2 W
  have hob := fun (x : Nat) (W : World) => orbI_any (defS a g).n (bs (defS a g).set) (bs (defS a g).rel) (x : Nat) h100b.1 h100b.2 W
  obtain ⟨hmod, hpos⟩ := sym_mod ha hfr
  have hsub : ∀ x, x < a.n → ∀ y, y ∈ orbV a.n (bs a.set) (bs a.rel) (x : Nat) → y ∈ orbV (defS a g).n (bs (defS a g).set) (bs (defS a g).rel) (x : Nat) := fun x hx y hy => by
    rw [orbV_nat ha hx] at hy
    rw [orbV_nat hok (show x < (defS a g).n from hx)]
    exact orb_def ha hfr hx hy
  have hsle := isos_le hok
  have hsbl : symV (defS a g).n (bs (defS a g).set) (bs (defS a g).rel) ≤ 40320 ∧ 0 ≤ symV (defS a g).n (bs (defS a g).set) (bs (defS a g).rel) := by
    unfold symV
    rw [okB_true hok]
    simp only [if_true]
    exact ⟨by rw [ofSt_eq]; omega, by omega⟩
  have hsal : symV a.n (bs a.set) (bs a.rel) ≤ 40320 := by
    unfold symV
    rw [okB_true ha]
    simp only [if_true]
    have := isos_le ha
    rw [ofSt_eq]; omega
  have hsbe : bs (defS a g).set = bs a.set := by rw [defS_set ha]
  have holen : ∀ (x : Nat), (orbV (defS a g).n (bs (defS a g).set) (bs (defS a g).rel) (x : Nat)).length ≤ 100 := fun x => Nat.le_trans (orbV_leN (defS a g) (x : Nat)) (by show a.n ≤ 100; omega)
  have holenA : ∀ (x : Nat), (orbV a.n (bs a.set) (bs a.rel) (x : Nat)).length ≤ 100 := fun x => Nat.le_trans (orbV_leN a (x : Nat)) (by omega)
  have hat := fun (x y : Nat) (hx : x < a.n) (hy : y < a.n) => def_at a g hx hy
  have hrs := def_size a g
  obtain ⟨RT, hRT⟩ : ∃ RT, RT = bs (defS a g).rel := ⟨_, rfl⟩
  rw [← hRT] at ci cs hsb hmod hsbl hrs
  simp only [← hRT] at hob hsub holen
  simp only [hsbe, defS_n] at hsb hob hmod hsub hsbl holen
  obtain ⟨SA, hSA⟩ : ∃ SA, SA = symV a.n (bs a.set) (bs a.rel) := ⟨_, rfl⟩
  obtain ⟨SB, hSB⟩ : ∃ SB, SB = symV a.n (bs a.set) RT := ⟨_, rfl⟩
  simp only [← hSA] at hsa
  simp only [← hSB] at hsb
  rw [← hSA, ← hSB] at hmod
  rw [← hSA] at hpos hsal
  rw [← hSB] at hsbl
  obtain ⟨oA, hoA⟩ : ∃ oA : Nat → List Nat, oA = fun x : Nat => orbV a.n (bs a.set) (bs a.rel) (x : Nat) := ⟨_, rfl⟩
  obtain ⟨oB, hoB⟩ : ∃ oB : Nat → List Nat, oB = fun x : Nat => orbV a.n (bs a.set) RT (x : Nat) := ⟨_, rfl⟩
  have hoa2 : ∀ (x : Nat) (W : World), Calls Tryd.prog 28 #[stV a.n (bs a.set) (bs a.rel), .int .i64 (x : Nat)] W fun e w' => (∃ A cap, e = .returned (.slice A (oA x).length cap) ∧ LRow w' A (natsI (oA x))) ∧ Below W.heap.size W w' := fun x W => by rw [hoA]; exact hoa x W
  have hob2 : ∀ (x : Nat) (W : World), Calls Tryd.prog 28 #[stV a.n (bs a.set) RT, .int .i64 (x : Nat)] W fun e w' => (∃ A cap, e = .returned (.slice A (oB x).length cap) ∧ LRow w' A (natsI (oB x))) ∧ Below W.heap.size W w' := fun x W => by rw [hoB]; exact hob x W
  have hha : ∀ (x : Nat), x < a.n → ∀ (i y : Nat), i < (oA x).length → y = (oA x).getD i 0 → ∀ (A2 : Option Addr) (c2 : Nat) (W : World), LRow W A2 (natsI (oB x)) → Calls Tryd.prog 29 #[.slice A2 (oB x).length c2, .int .i64 (y : Nat)] W fun e w' => e = .returned (.bool true) ∧ W = w' := fun x hx i y hi hy A2 c2 W hW => by
    have h1 := has_any A2 c2 (oB x) y W (by rw [hoB]; exact holen x) hW
    have h2 : y ∈ oB x := by
      rw [hoB]
      refine hsub x hx y ?_
      have h3 : y ∈ oA x := by
        rw [hy, List.getD_eq_getElem?_getD, List.getElem?_eq_getElem hi]
        exact List.getElem_mem hi
      rw [hoA] at h3
      exact h3
    rwa [decide_eq_true h2] at h1
  have hol : ∀ x, (oA x).length ≤ 100 := fun x => by rw [hoA]; exact holenA x
  have hgh : ∀ (x y : Nat), x < a.n → y < a.n → ∀ (b : Bool), pairB a g x y = b → ∀ (A2 : Option Addr) (W : World), LRow W A2 (natsI [x, y]) → Calls Tryd.prog 13 #[stV a.n (bs a.set) (bs a.rel), .string (bs g.text), .slice A2 2 2] W fun e w' => e = .returned (.bool b) ∧ Below W.heap.size W w' := fun x y hx hy b hb A2 W hW =>
    gs_any a ha g hgl _ rfl [x, y] (fun z hz => by simp at hz; rcases hz with rfl | rfl <;> assumption) (by simp) hfr A2 2 (by simp) b hb W hW
  have hRTi : (RT.size : Int) ≤ 64 := by rw [hrs]; exact_mod_cast sq_le h8
  obtain ⟨FF, hFF⟩ : ∃ FF, FF = pairB a g := ⟨_, rfl⟩
  rw [← hFF] at hcn hgh hat
  have hat2 := fun (x y : Nat) (hx : x < a.n) (hy : y < a.n) => hat x y hx hy RT hRT
  have hones : ∀ k, k ≤ a.n → onesTo a.n FF k ≤ 64 := fun k hk => Nat.le_trans (ones_le a.n FF k) (Nat.le_trans (Nat.mul_le_mul_right a.n hk) (sq_le h8))
  have CI := Lib.hid ci
  have CS := Lib.hid cs
  have HCN := Lib.hid hcn
  have HSA := Lib.hid hsa
  have HSB := Lib.hid hsb
  have HOA := Lib.hid hoa2
  have HOB := Lib.hid hob2
  have HHA := Lib.hid hha
  have HOL := Lib.hid hol
  have HGH := Lib.hid hgh
  have HAT := Lib.hid hat2
  have HON := Lib.hid hones
  have HMOD := Lib.hid hmod
  clear ci cs hcn hsa hsb hoa hob hoa2 hob2 hha hol hgh hat hat2 hones hmod hsub holen holenA hrs hsbe hFF hSA hSB hoA hoB hRT h100 h100b hok hsr hsle hfr
  obtain ⟨FT, hFT⟩ : ∃ FT, FT = bs g.text := ⟨_, rfl⟩
  rw [← hFT] at CI CS HCN HGH ht ⊢
  clear hFT hgl
  obtain ⟨x0, x1, x2⟩ := box_load X1.out
  go_wp2_with fail
  refine (CI.out _).mono ?_
  rintro e w2 ⟨rfl, hz⟩
  have B2 := Lib.hid (B1.out.trans (hz.mono B1.out.size))
  have X2 := Lib.hid (X1.out.call hz)
  clear hz x0 x1 x2
  obtain ⟨x0, x1, x2⟩ := box_load X2.out
  go_wp2_with fail
  refine (CS.out _).mono ?_
  rintro e w3 ⟨rfl, hz⟩
  have B3 := Lib.hid (B2.out.trans (hz.mono B2.out.size))
  have X3 := Lib.hid (X2.out.call hz)
  clear hz x0 x1 x2
  obtain ⟨x0, x1, x2⟩ := box_load X3.out
  go_wp2_with fail
  go_loopg [9, 10] a.n (fun c ov xv wr => ∃ k : Nat, k + c = a.n ∧ ov = .int .i64 ((onesTo a.n FF k : Nat) : Int) ∧ xv = .int .i64 (k : Nat) ∧ Bx wr w1.heap.size 27 #[.int .i64 (a.n : Int), .string (bs a.set), .string (bs a.rel)] ∧ Below w.heap.size w wr)
  case atStart => exact ⟨0, by omega, rfl, rfl, X3.out, B3.out⟩
  case round =>
    clear X1 X2 X3 B1 B2 B3 CI CS
    obtain ⟨k, hk, rfl, rfl, hxs, hbl⟩ := hrel
    have HXs := Lib.hid hxs
    have HB := Lib.hid hbl
    clear hxs hbl
    have ho1 := HON.out k (by omega)
    obtain ⟨OK, hOK⟩ : ∃ OK, OK = onesTo a.n FF k := ⟨_, rfl⟩
    rw [← hOK] at ho1 ⊢
    have HOK := Lib.hid hOK
    clear hOK
    obtain ⟨x0, x1, x2⟩ := box_load HXs.out
    by_cases hlt : k < a.n
    · have ho2 := HON.out (k + 1) (by omega)
      have hos : onesTo a.n FF (k + 1) = onesTo a.n FF k + Pl.cnt a.n (FF k) := rfl
      rw [hos, ← HOK.out] at ho2
      clear hos
      go_wp2_with fail
      go_loopg [9, 11] a.n (fun c ov yv wr => ∃ j : Nat, j + c = a.n ∧ ov = .int .i64 ((OK + Pl.cnt j (FF k) : Nat) : Int) ∧ yv = .int .i64 (j : Nat) ∧ Bx wr w1.heap.size 27 #[.int .i64 (a.n : Int), .string (bs a.set), .string (bs a.rel)] ∧ Below w.heap.size w wr)
      case atStart => exact ⟨0, by omega, rfl, rfl, HXs.out, HB.out⟩
      case round =>
        clear x0 x1 x2 HXs HB
        obtain ⟨j, hj, rfl, rfl, hxs, hbl⟩ := hrel
        have HXs := Lib.hid hxs
        have HB := Lib.hid hbl
        clear hxs hbl
        obtain ⟨wo, rfl⟩ : ∃ x, x = wr := ⟨wr, rfl⟩
        obtain ⟨x0, x1, x2⟩ := box_load HXs.out
        have hcle := cnt_le j (FF k)
        by_cases hlt2 : j < a.n
        · obtain ⟨hix, hbit⟩ := HAT.out k j hlt hlt2
          obtain ⟨Z, hZ⟩ : ∃ Z, Z = k * a.n := ⟨_, rfl⟩
          have hZ2 : (k : Int) * (a.n : Int) = (Z : Nat) := by rw [hZ, Int.natCast_mul]
          have hZ3 : Z + j < RT.size := by rw [hZ]; exact hix
          have hbit2 : (((RT[Z + j]'hZ3).toNat : Int) == 49) = FF k j := by subst hZ; exact hbit
          clear hZ hbit hix
          have hZi : ((Z : Nat) : Int) + (j : Nat) < (RT.size : Int) := by omega
          have hcs := cnt_succ j (FF k)
          have hcm : Pl.cnt (j + 1) (FF k) ≤ Pl.cnt a.n (FF k) := cnt_mono (by omega) (FF k)
          obtain ⟨Q, hQ⟩ : ∃ Q, Q = Pl.cnt j (FF k) := ⟨_, rfl⟩
          rw [← hQ] at hcs hcle ⊢
          have HCS := Lib.hid hcs
          have hw0 : wrap64 (Z : Nat) = (Z : Nat) := IntWalk.wrap64_in _ (by omega)
          have HW1 := Lib.hid hw0
          clear hw0
          cases hV : FF k j with
          | true =>
            have hg := HGH.out k j hlt hlt2 true hV
            rw [hV] at hbit2 hcs
            simp only [if_true] at hcs
            have hle3 : OK + Q + 1 ≤ 64 := by omega
            have HG := Lib.hid hg
            have HQ := Lib.hid hcs
            clear hg hV hQ hcs HCS hcm ho2
            go_wp2_with fail
            have HXa := Lib.hid (HXs.out.alloc (.cells #[.int .i64 (k : Nat), .int .i64 (j : Nat)] 3))
            have HBa := Lib.hid (HB.out.alloc HB.out.size (.cells #[.int .i64 (k : Nat), .int .i64 (j : Nat)] 3))
            refine (HG.out _ _ (LRow_two _ k j)).mono ?_
            rintro e w5 ⟨rfl, hz⟩
            have B5 := Lib.hid (HBa.out.trans (hz.mono HBa.out.size))
            have X5 := Lib.hid (HXa.out.call hz)
            clear hz x0 x1 x2
            go_wp2_with fail
            go_roundg (a.n - j - 1)
            case rel => exact ⟨j + 1, by omega, by rw [HQ.out]; go_num, by go_num, X5.out, B5.out⟩
            case measure => omega
          | false =>
            have hg := HGH.out k j hlt hlt2 false hV
            rw [hV] at hbit2 hcs
            simp only [Bool.false_eq_true, if_false, Nat.add_zero] at hcs
            have hle3 : OK + Q ≤ 64 := by omega
            have HG := Lib.hid hg
            have HQ := Lib.hid hcs
            clear hg hV hQ hcs HCS hcm ho2
            go_wp2_with fail
            have HXa := Lib.hid (HXs.out.alloc (.cells #[.int .i64 (k : Nat), .int .i64 (j : Nat)] 3))
            have HBa := Lib.hid (HB.out.alloc HB.out.size (.cells #[.int .i64 (k : Nat), .int .i64 (j : Nat)] 3))
            refine (HG.out _ _ (LRow_two _ k j)).mono ?_
            rintro e w5 ⟨rfl, hz⟩
            have B5 := Lib.hid (HBa.out.trans (hz.mono HBa.out.size))
            have X5 := Lib.hid (HXa.out.call hz)
            clear hz x0 x1 x2
            go_wp2_with fail
            go_roundg (a.n - j - 1)
            case rel => exact ⟨j + 1, by omega, by rw [HQ.out]; go_num, by go_num, X5.out, B5.out⟩
            case measure => omega
        · obtain rfl : j = a.n := by omega
          have hgk : gk = 0 := by omega
          subst hgk
          clear hlt2 hj
          obtain ⟨Q, hQ⟩ : ∃ Q, Q = Pl.cnt a.n (FF k) := ⟨_, rfl⟩
          rw [← hQ] at hcle ho2 ⊢
          have HQ := Lib.hid hQ
          clear hQ
          go_wp2_with fail
          go_roundg (a.n - k - 1)
          case rel => exact ⟨k + 1, by omega, by rw [HQ.out, HOK.out]; rfl, by go_num, HXs.out, HB.out⟩
          case measure => omega
    · obtain rfl : k = a.n := by omega
      have hgk : gk = 0 := by omega
      subst hgk
      clear hlt hk
      obtain ⟨bb, hbb⟩ : ∃ bb, bb = wr.heap.size := ⟨_, rfl⟩
      have B5 := Lib.hid (HB.out.alloc HB.out.size (.cells #[.int .i64 (a.n : Int), .string (bs a.set), .string RT] 27))
      have X5 := Lib.hid (HXs.out.alloc (.cells #[.int .i64 (a.n : Int), .string (bs a.set), .string RT] 27))
      have Y5 := Lib.hid (show Bx (wr.alloc (.cells #[.int .i64 (a.n : Int), .string (bs a.set), .string RT] 27)) bb 27 #[.int .i64 (a.n : Int), .string (bs a.set), .string RT] from by rw [hbb]; exact Bx.new wr 27 #[.int .i64 (a.n : Int), .string (bs a.set), .string RT])
      have HBB := Lib.hid hbb
      go_wp2_with fail
      rw [← hbb]
      clear hbb
      go_loopg [14] a.n (fun c xv wr => ∃ k : Nat, k + c = a.n ∧ xv = .int .i64 (k : Nat) ∧ Bx wr w1.heap.size 27 #[.int .i64 (a.n : Int), .string (bs a.set), .string (bs a.rel)] ∧ Bx wr bb 27 #[.int .i64 (a.n : Int), .string (bs a.set), .string RT] ∧ Below w.heap.size w wr)
      case atStart => exact ⟨0, by omega, rfl, X5.out, Y5.out, B5.out⟩
      case round =>
        clear X5 Y5 B5 x0 x1 x2 HXs HB HBB HON HGH HAT
        obtain ⟨m, hm, rfl, hxs, hys, hbl⟩ := hrel
        have X6 := Lib.hid hxs
        have Y6 := Lib.hid hys
        have B6 := Lib.hid hbl
        clear hxs hys hbl
        obtain ⟨wp, rfl⟩ : ∃ x, x = wr := ⟨wr, rfl⟩
        obtain ⟨x0, x1, x2⟩ := box_load X6.out
        obtain ⟨y0, y1, y2⟩ := box_load Y6.out
        by_cases hlt : m < a.n
        · have hol := HOL.out m
          have hha := HHA.out m hlt
          have hoa := HOA.out m
          have hob := HOB.out m
          obtain ⟨L1, hL1⟩ : ∃ L1, L1 = oA m := ⟨_, rfl⟩
          obtain ⟨L2, hL2⟩ : ∃ L2, L2 = oB m := ⟨_, rfl⟩
          rw [← hL1] at hol hha hoa
          rw [← hL2] at hha hob
          have OA := Lib.hid hoa
          have OB := Lib.hid hob
          have HA := Lib.hid hha
          clear hoa hob hha hL1 hL2
          go_wp2_with fail
          refine (OA.out _).mono ?_
          rintro e w7 ⟨⟨A1, c1, rfl, hl1⟩, hz⟩
          have B7 := Lib.hid (B6.out.trans (hz.mono B6.out.size))
          have X7 := Lib.hid (X6.out.call hz)
          have Y7 := Lib.hid (Y6.out.call hz)
          have P7 := Lib.hid hl1
          clear hz hl1 x0 x1 x2 y0 y1 y2
          obtain ⟨x0, x1, x2⟩ := box_load X7.out
          obtain ⟨y0, y1, y2⟩ := box_load Y7.out
          go_wp2_with fail
          refine (OB.out _).mono ?_
          rintro e w8 ⟨⟨A2, c2, rfl, hl2⟩, hz⟩
          have B8 := Lib.hid (B7.out.trans (hz.mono B7.out.size))
          have X8 := Lib.hid (X7.out.call hz)
          have Y8 := Lib.hid (Y7.out.call hz)
          have P8 := Lib.hid (P7.out.call hz)
          have Q8 := Lib.hid hl2
          clear hz hl2 x0 x1 x2 y0 y1 y2
          go_wp2_with fail
          go_loopg [17] L1.length (fun c iv wr => ∃ i : Nat, i + c = L1.length ∧ iv = .int .i64 (i : Nat) ∧ wr = w8)
          case atStart => exact ⟨0, by omega, rfl, rfl⟩
          case round =>
            obtain ⟨i, hi, rfl, rfl⟩ := hrel
            by_cases hli : i < L1.length
            · obtain ⟨g1, rfl, c3⟩ := LRow.nats P8.out hli
              have hh := HA.out i _ hli rfl A2 c2
              obtain ⟨y, hy⟩ : ∃ y, y = L1.getD i 0 := ⟨_, rfl⟩
              rw [← hy] at c3 hh
              have HH := Lib.hid hh
              clear hh hy
              go_wp2_with fail
              refine (HH.out _ Q8.out).mono ?_
              rintro e w9 ⟨rfl, rfl⟩
              go_wp2_with fail
              go_roundg (L1.length - i - 1)
              case rel => exact ⟨i + 1, by omega, by go_num, rfl⟩
              case measure => omega
            · obtain rfl : i = L1.length := by omega
              have hgk : gk = 0 := by omega
              subst hgk
              clear hli hi
              go_wp2_with fail
              go_roundg (a.n - m - 1)
              case rel => exact ⟨m + 1, by omega, by go_num, X8.out, Y8.out, B8.out⟩
              case measure => omega
        · obtain rfl : m = a.n := by omega
          have hgk : gk = 0 := by omega
          subst hgk
          have hok2 := HOK.out
          have hmod := HMOD.out
          rw [← hok2] at HCN
          have hne : SA ≠ 0 := by omega
          clear hlt hm hok2 HOK
          have B20 := Lib.hid B6.out.drew
          have X20 := Lib.hid X6.out.drew
          have Y20 := Lib.hid Y6.out.drew
          go_upto_region 31 with (fail)
          clear x0 x1 x2 y0 y1 y2
          obtain ⟨x0, x1, x2⟩ := box_load X20.out
          obtain ⟨y0, y1, y2⟩ := box_load Y20.out
          refine region_sched [(0, true), (1, true), (3, true), (2, false), (4, true), (5, true), (6, true), (8, true), (7, false), (9, false), (10, true), (11, true), (12, true), (13, true)] (fun w' : World => (w'.cell? ⟨w1.heap.size, 0, none⟩ = some (.int .i64 (a.n : Int)) ∧ w'.cell? ⟨w1.heap.size, 1, none⟩ = some (.string (bs a.set)) ∧ w'.cell? ⟨w1.heap.size, 2, none⟩ = some (.string (bs a.rel))) ∧ (w'.cell? ⟨bb, 0, none⟩ = some (.int .i64 (a.n : Int)) ∧ w'.cell? ⟨bb, 1, none⟩ = some (.string (bs a.set)) ∧ w'.cell? ⟨bb, 2, none⟩ = some (.string RT))) (by kernel_rfl) (by kernel_rfl) (by kernel_rfl) (by kernel_rfl) (fun _ _ _ _ h => h) ?_ (fun Q1 hQ1 => ?_)
          · exact ⟨⟨x0, x1, x2⟩, y0, y1, y2⟩
          try simp only [List.append]
          refine sched_take' (v := .agg #[.int .i64 (a.n : Int), .string (bs a.set), .string (bs a.rel)]) (a' := ?_) rfl (by kernel_rfl) ?_ rfl ?_ ?_
          rotate_left 1
          · intro w hSw
            (try dsimp only at hSw)
            go_simp
            first | done | (obtain ⟨⟨u0, u1, u2⟩, u3, u4, u5⟩ := hSw; simp [*])
          · (try simp only [Act.put, List.setIfInBounds_toArray, List.set_cons_zero, List.set_cons_succ])
            try rfl
          refine sched_take' (v := ?_) (a' := ?_) rfl (by kernel_rfl) ?_ rfl ?_ ?_
          rotate_left 2
          · intro w hSw
            (try dsimp only at hSw)
            go_simp
            try with_reducible rfl
          · (try simp only [Act.put, List.setIfInBounds_toArray, List.set_cons_zero, List.set_cons_succ])
            try rfl
          refine sched_take' (v := ?_) (a' := ?_) rfl (by kernel_rfl) ?_ rfl ?_ ?_
          rotate_left 2
          · intro w hSw
            (try dsimp only at hSw)
            go_simp
            try with_reducible rfl
          · (try simp only [Act.put, List.setIfInBounds_toArray, List.set_cons_zero, List.set_cons_succ])
            try rfl
          refine sched_call rfl (by kernel_rfl) (fun K1 hK1 => ?_)
          go_simp
          refine (HCN.out _).mono ?_
          rintro e w21 ⟨rfl, hz⟩
          have B21 := Lib.hid (B20.out.trans (hz.mono B20.out.size))
          have X21 := Lib.hid (X20.out.call hz)
          have Y21 := Lib.hid (Y20.out.call hz)
          clear hz x0 x1 x2 y0 y1 y2
          obtain ⟨x0, x1, x2⟩ := box_load X21.out
          obtain ⟨y0, y1, y2⟩ := box_load Y21.out
          go_wp2_with fail
          refine hK1.out _ _ ?_ (sched_lay (a' := ?_) ?_ ?_)
          · exact ⟨⟨x0, x1, x2⟩, y0, y1, y2⟩
          rotate_left 1
          · (try simp only [Act.put, List.getElem_toArray, List.getElem_cons_succ, List.getElem_cons_zero, List.setIfInBounds_toArray, List.set_cons_zero, List.set_cons_succ])
            try rfl
          clear hK1 K1
          refine sched_take' (v := .bool true) (a' := ?_) rfl (by kernel_rfl) ?_ rfl ?_ ?_
          rotate_left 1
          · intro w hSw
            (try dsimp only at hSw)
            go_simp
            first | done | (simp; done) | rfl
          · (try simp only [Act.put, List.setIfInBounds_toArray, List.set_cons_zero, List.set_cons_succ])
            try rfl
          refine sched_take' (v := ?_) (a' := ?_) rfl (by kernel_rfl) ?_ rfl ?_ ?_
          rotate_left 2
          · intro w hSw
            (try dsimp only at hSw)
            go_simp
            try with_reducible rfl
          · (try simp only [Act.put, List.setIfInBounds_toArray, List.set_cons_zero, List.set_cons_succ])
            try rfl
          refine sched_take' (v := .agg #[.int .i64 (a.n : Int), .string (bs a.set), .string RT]) (a' := ?_) rfl (by kernel_rfl) ?_ rfl ?_ ?_
          rotate_left 1
          · intro w hSw
            (try dsimp only at hSw)
            go_simp
            first | done | (obtain ⟨⟨u0, u1, u2⟩, u3, u4, u5⟩ := hSw; simp [*])
          · (try simp only [Act.put, List.setIfInBounds_toArray, List.set_cons_zero, List.set_cons_succ])
            try rfl
          refine sched_take' (v := .agg #[.int .i64 (a.n : Int), .string (bs a.set), .string (bs a.rel)]) (a' := ?_) rfl (by kernel_rfl) ?_ rfl ?_ ?_
          rotate_left 1
          · intro w hSw
            (try dsimp only at hSw)
            go_simp
            first | done | (obtain ⟨⟨u0, u1, u2⟩, u3, u4, u5⟩ := hSw; simp [*])
          · (try simp only [Act.put, List.setIfInBounds_toArray, List.set_cons_zero, List.set_cons_succ])
            try rfl
          refine sched_call rfl (by kernel_rfl) (fun K1 hK1 => ?_)
          go_simp
          refine (HSB.out _).mono ?_
          rintro e w22 ⟨rfl, hz⟩
          have B22 := Lib.hid (B21.out.trans (hz.mono B21.out.size))
          have X22 := Lib.hid (X21.out.call hz)
          have Y22 := Lib.hid (Y21.out.call hz)
          clear hz x0 x1 x2 y0 y1 y2
          obtain ⟨x0, x1, x2⟩ := box_load X22.out
          obtain ⟨y0, y1, y2⟩ := box_load Y22.out
          go_wp2_with fail
          refine hK1.out _ _ ?_ (sched_lay (a' := ?_) ?_ ?_)
          · exact ⟨⟨x0, x1, x2⟩, y0, y1, y2⟩
          rotate_left 1
          · (try simp only [Act.put, List.getElem_toArray, List.getElem_cons_succ, List.getElem_cons_zero, List.setIfInBounds_toArray, List.set_cons_zero, List.set_cons_succ])
            try rfl
          clear hK1 K1
          refine sched_call rfl (by kernel_rfl) (fun K1 hK1 => ?_)
          go_simp
          refine (HSA.out _).mono ?_
          rintro e w23 ⟨rfl, hz⟩
          have B23 := Lib.hid (B22.out.trans (hz.mono B22.out.size))
          have X23 := Lib.hid (X22.out.call hz)
          have Y23 := Lib.hid (Y22.out.call hz)
          clear hz x0 x1 x2 y0 y1 y2
          obtain ⟨x0, x1, x2⟩ := box_load X23.out
          obtain ⟨y0, y1, y2⟩ := box_load Y23.out
          go_wp2_with fail
          refine hK1.out _ _ ?_ (sched_lay (a' := ?_) ?_ ?_)
          · exact ⟨⟨x0, x1, x2⟩, y0, y1, y2⟩
          rotate_left 1
          · (try simp only [Act.put, List.getElem_toArray, List.getElem_cons_succ, List.getElem_cons_zero, List.setIfInBounds_toArray, List.set_cons_zero, List.set_cons_succ])
            try rfl
          clear hK1 K1
          refine sched_take' (v := .int .i64 0) (a' := ?_) rfl (by kernel_rfl) ?_ rfl ?_ ?_
          rotate_left 1
          · intro w hSw
            (try dsimp only at hSw)
            go_simp
            first | done | exact hmod | (rw [hmod]) | (simp [hmod]; done)
          · (try simp only [Act.put, List.setIfInBounds_toArray, List.set_cons_zero, List.set_cons_succ])
            try rfl
          refine sched_take' (v := .bool true) (a' := ?_) rfl (by kernel_rfl) ?_ rfl ?_ ?_
          rotate_left 1
          · intro w hSw
            (try dsimp only at hSw)
            go_simp
            first | done | rfl | (simp; done)
          · (try simp only [Act.put, List.setIfInBounds_toArray, List.set_cons_zero, List.set_cons_succ])
            try rfl
          refine sched_take' (v := ?_) (a' := ?_) rfl (by kernel_rfl) ?_ rfl ?_ ?_
          rotate_left 2
          · intro w hSw
            (try dsimp only at hSw)
            go_simp
            try with_reducible rfl
          · (try simp only [Act.put, List.setIfInBounds_toArray, List.set_cons_zero, List.set_cons_succ])
            try rfl
          refine sched_take' (v := ?_) (a' := ?_) rfl (by kernel_rfl) ?_ rfl ?_ ?_
          rotate_left 2
          · intro w hSw
            (try dsimp only at hSw)
            go_simp
            try with_reducible rfl
          · (try simp only [Act.put, List.setIfInBounds_toArray, List.set_cons_zero, List.set_cons_succ])
            try rfl
          refine sched_done (hQ1.out _ _ ?_)
          go_wp2_with fail
          go_ret
          exact ⟨rfl, B23.out⟩

end Go.Proofs.YteonanaihklgmaaDoor
