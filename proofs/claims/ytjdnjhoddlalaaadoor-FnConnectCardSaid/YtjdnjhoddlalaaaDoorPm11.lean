/-
  Laws of the functions that the claim reaches, one after the other (packed by a program of the prover's: Lists, PtsI, Gs, FmB, GsH, GsFour, CpP, FpP, FvP). Conditions: texts below the reach.
-/
import Derived.Test.YtjdnjhoddlalaaaDoorPm10
import Derived.Test.YtjdnjhoddlalaaaDoorPm7
import Derived.StillTailTactics
import Derived.Test.YtjdnjhoddlalaaaDoorPm0
import Derived.BigQuiet
import Derived.Test.YtjdnjhoddlalaaaDoorPm6
import Derived.Test.YtjdnjhoddlalaaaDoorPm5
import Derived.Test.YtjdnjhoddlalaaaDoorPm3
import Derived.Test.YtjdnjhoddlalaaaDoorPm1
import Derived.Test.YtjdnjhoddlalaaaDoorPm2
set_option linter.unusedSimpArgs false
set_option linter.unusedVariables false

namespace Go.Proofs.YtjdnjhoddlalaaaDoor
open Go.RowKit
open Pl
set_option linter.unusedSimpArgs false
set_option linter.unusedVariables false

attribute [local go_sem ↓] Go.wp_at_zero Go.wp_at_succ

set_option maxHeartbeats 4000000 in
set_option maxRecDepth 100000 in
theorem listsOf_calls (n wd : Nat) (hn0 : 0 < n) (hn : n ≤ 8) (hwd : wd ≤ 3) (w : World) :
    Calls Tryd.prog 96 #[.int .i64 (n : Nat), .int .i64 (wd : Nat)] w fun e w' => (∃ v, e = .returned v ∧ LL w' w.heap.size v (listsK n wd)) ∧ Below w.heap.size w w' := by
  obtain ⟨i0, hi, hz0, hz1, hz2⟩ := info_parts (P := Tryd.prog) (e := 3) (z := .int .i64 0) (size := 1) (bytes := 8) (by kernel_rfl)
  obtain ⟨i1, hi', hz0', hz1', hz2'⟩ := info_parts (P := Tryd.prog) (e := 25) (z := .slice none 0 0) (size := 1) (bytes := 24) (by kernel_rfl)
  have L0 : LL ((w.alloc (.cells #[] 3)).alloc (.cells #[.slice (some ⟨w.heap.size, 0, none⟩) 0 0] 25)) w.heap.size (.slice (some ⟨w.heap.size + 1, 0, none⟩) 1 1) [[]] := by
    have hx : Bx ((w.alloc (.cells #[] 3)).alloc (.cells #[.slice (some ⟨w.heap.size, 0, none⟩) 0 0] 25)) (w.heap.size + 1) 25 #[.slice (some ⟨w.heap.size, 0, none⟩) 0 0] := bx_two w _ _
    refine ⟨⟨_, _, rfl⟩, [.slice (some ⟨w.heap.size, 0, none⟩) 0 0], ⟨rfl, .inr ⟨_, 1, _, rfl, by omega, hx, by simp, by unfold maxLen; omega, rfl, rfl⟩⟩, rfl, fun i v L h1 h2 => ?_⟩
    have h0 : i = 0 := by
      rcases Nat.eq_zero_or_pos i with h0 | h0
      · exact h0
      · rw [List.getElem?_eq_none (by simp; omega)] at h1; cases h1
    subst h0
    simp at h1 h2
    subst h1 h2
    exact ⟨_, _, rfl, (own_zeroO w).alloc _⟩
  have HL := Lib.hid L0
  have B0 := Lib.hid (show Below w.heap.size w ((w.alloc (.cells #[] 3)).alloc (.cells #[.slice (some ⟨w.heap.size, 0, none⟩) 0 0] 25)) from ((Below.refl _ _).alloc (Nat.le_refl _) _).alloc (by simp) _)
  clear L0
  go_enter Tryd.func96, Tryd.ntmps96
  go_wp2_with fail
  go_loopg [5, 13] wd (fun c v i wr => ∃ k : Nat, k + c = wd ∧ i = .int .i64 (k : Nat) ∧ LL wr w.heap.size v (listsK n k) ∧ Below w.heap.size w wr)
  case atStart => exact ⟨0, by omega, rfl, HL.out, B0.out⟩
  case round =>
    clear HL B0
    obtain ⟨wo, rfl⟩ : ∃ x, x = wr := ⟨wr, rfl⟩
    obtain ⟨k, hk, rfl, hll, hbl⟩ := hrel
    obtain ⟨Ls, hLs⟩ : ∃ Ls, Ls = listsK n k := ⟨_, rfl⟩
    rw [← hLs] at hll
    have hln : Ls.length = n ^ k := by rw [hLs]; exact listsK_len hn0 k
    by_cases hlt : k < wd
    · have h64 : n ^ k ≤ 64 := by
        have h1 : n ^ k ≤ 8 ^ k := Nat.pow_le_pow_left hn k
        have h2 : 8 ^ k ≤ 8 ^ 2 := Nat.pow_le_pow_right (by omega) (by omega)
        omega
      have hl64 : Ls.length ≤ 64 := by omega
      have hsucc : listsK n (k + 1) = Ls.flatMap (extL n) := by rw [hLs]; rfl
      obtain ⟨gA, cap0, rfl⟩ := hll.form
      obtain ⟨Bn, hBn⟩ : ∃ Bn, Bn = wo.heap.size := ⟨_, rfl⟩
      have Hll := Lib.hid hll
      have Hbl := Lib.hid hbl
      have Hsucc := Lib.hid hsucc
      have HLs := Lib.hid hLs
      have HBn := Lib.hid hBn
      have hls := hbl.size
      have Hls := Lib.hid hls
      clear hll hbl hsucc hLs hBn h64 hls hln
      have NL := Lib.hid (LL.new wo)
      have NB := Lib.hid ((Below.refl wo.heap.size wo).alloc (Nat.le_refl _) (.cells #[] 25))
      go_wp2_with fail
      go_loopg [6, 18] Ls.length (fun c v i wx => ∃ j : Nat, j + c = Ls.length ∧ i = .int .i64 (j : Nat) ∧ LL wx wo.heap.size v (flatK n Ls j 0) ∧ Below wo.heap.size wo wx)
      case atStart => exact ⟨0, by omega, rfl, by rw [flatK_zero]; exact NL.out, NB.out⟩
      case round =>
        clear NL NB
        obtain ⟨j, hj, rfl, hll, hbl⟩ := hrel
        have Nll := Lib.hid hll
        have Nbl := Lib.hid hbl
        clear hll hbl
        by_cases hjl : j < Ls.length
        · obtain ⟨g, cap, gi, ci, e1, hcl, hcell, hinn⟩ := (Hll.out.call Nbl.out).get hjl
          simp only [Value.slice.injEq, Option.some.injEq, Addr.mk.injEq, and_true, true_and] at e1
          obtain ⟨rfl, rfl⟩ := e1
          have j1 : (0 : Int) ≤ (j : Int) := by omega
          have j2 : (j : Int) < (Ls.length : Int) := by omega
          have hnx := fun x => flatK_succ n Ls j x
          have hnn := @flatK_next n Ls j hjl
          have hfl := fun x => @flatK_len n Ls j x (Nat.le_of_lt hjl)
          obtain ⟨L0, hL0⟩ : ∃ L0, L0 = Ls.getD j [] := ⟨_, rfl⟩
          simp only [← hL0] at hcell hinn hnx
          obtain ⟨lq, hlq⟩ : ∃ lq, L0.length = lq := ⟨_, rfl⟩
          rw [hlq] at hcell hinn
          have hlq3 : lq ≤ 3 := by
            have hm : L0 ∈ listsK n k := by rw [hL0, ← HLs.out, List.getD_eq_getElem?_getD, List.getElem?_eq_getElem hjl]; exact List.getElem_mem hjl
            have := (listsK_mem hn0 hm).1
            omega
          have Hinn := Lib.hid hinn
          have Hnx := Lib.hid hnx
          have Hnn := Lib.hid hnn
          have Hfl := Lib.hid hfl
          have Hlq := Lib.hid hlq
          have HL0 := Lib.hid hL0
          have hjn : j * n ≤ 63 * n := Nat.mul_le_mul_right n (by omega)
          have Hjn := Lib.hid (show j * n + n ≤ 600 by omega)
          clear hinn hnx hnn hfl hlq hL0 hjn
          go_wp2_with fail
          go_loopg [6, 23] n (fun c v i wy => ∃ x : Nat, x + c = n ∧ i = .int .i64 (x : Nat) ∧ LL wy wo.heap.size v (flatK n Ls j x) ∧ Below wo.heap.size wo wy ∧ Inn wy w.heap.size (.slice (some ⟨gi, 0, none⟩) lq ci) L0)
          case atStart => exact ⟨0, by omega, rfl, Nll.out, Nbl.out, Hinn.out⟩
          case round =>
            clear Nll Nbl Hinn hcell
            obtain ⟨wy, rfl⟩ : ∃ x, x = wr := ⟨wr, rfl⟩
            obtain ⟨x, hx, rfl, hll, hbl, hinn⟩ := hrel
            by_cases hxl : x < n
            · obtain ⟨⟨gn, cn, rfl⟩, vals, hrow, hins⟩ := hll
              have hfx := Hfl.out x
              have hL0 := LRow_of (show wy.ownsRow w.heap.size 3 1 (.slice (some ⟨gi, 0, none⟩) lq ci) lq (intsV (natsI L0)) from by obtain ⟨_, _, _, h2⟩ := hinn; rw [Hlq.out] at h2; exact h2)
              obtain ⟨FL, hFL⟩ : ∃ FL, FL = flatK n Ls j x := ⟨_, rfl⟩
              rw [← hFL] at hrow hins hfx ⊢
              obtain ⟨fl, hfl⟩ : ∃ fl, FL.length = fl := ⟨_, rfl⟩
              rw [hfl] at hfx hrow ⊢
              have hf600 : fl ≤ 600 := by have := Hjn.out; omega
              have x1 : (0 : Int) ≤ (x : Int) := by omega
              have Row := Lib.hid hrow
              have Ins := Lib.hid hins
              have Bl := Lib.hid hbl
              have In0 := Lib.hid hinn
              have HL0r := Lib.hid hL0
              have HFL := Lib.hid hFL
              have Hflen := Lib.hid hfl
              have hsz := hbl.size
              have Hsz := Lib.hid hsz
              clear hrow hins hbl hinn hL0 hFL hfl hsz hfx
              go_wp2_with (first | (at_builtin; refine wpList_append_own_at _ rfl (.tmp 27) (.tmp 28) 25 rfl wy.heap.size 3 i0 (.int .i64 0) 1 8 Tryd.underlying25 hi hz0 hz1 hz2 rfl (by decide) _ 0 [] rfl (own_zero wy) ⟨gi, 0, none⟩ lq _ (intsV (natsI L0)) rfl (by simp [intsV_len, natsI_len, Hlq.out]) (LRow.news (HL0r.out.alloc _)) (ints_oneCell .i64 _) (by unfold maxLen; omega) (by omega) (by simp) ?_; intro v1 w1 ho1 hg1 hnn hat1; clear hnn hat1; have O1 := Lib.hid (app_one ho1 hg1).1; have B2 := Lib.hid (app_one ho1 hg1).2; clear ho1 hg1) | (at_builtin; refine wpList_append_own_at _ rfl (.tmp 29) (.tmp 31) 25 rfl wy.heap.size 3 i0 (.int .i64 0) 1 8 Tryd.underlying25 hi hz0 hz1 hz2 rfl (by decide) _ lq (intsV (natsI L0)) rfl (O1.out.alloc _) ⟨w1.heap.size, 0, none⟩ 1 1 [.int .i64 (x : Nat)] rfl rfl (cell_one_new _ _ _) (ints_oneCell .i64 [((x : Nat) : Int)]) (by unfold maxLen; omega) (by omega) (by have := B2.out.size; simp; omega) ?_; intro v2 w2 ho2 hg2 hnn hat2; clear hnn hat2; obtain ⟨g2, cp2, rfl, hI2, hY2⟩ := app_twoI Hlq.out B2.out O1.out ho2 hg2; have I2 := Lib.hid hI2; have Y2 := Lib.hid hY2; have Row2 := Lib.hid (own_call Row.out hY2); have Bl2 := Lib.hid (Bl.out.trans (hY2.mono Bl.out.size)); clear ho2 hg2 hI2 hY2) | (at_builtin; refine wpList_append_own_at _ rfl (.tmp 26) (.tmp 33) 87 rfl wo.heap.size 25 i1 (.slice none 0 0) 1 24 Tryd.underlying87 hi' hz0' hz1' hz2' rfl (by decide) _ fl vals rfl (Row2.out.alloc _) ⟨w2.heap.size, 0, none⟩ 1 1 [.slice (some ⟨g2, 0, none⟩) (lq + 1) cp2] rfl rfl (cell_one_new _ _ _) (fun u hu => by simp at hu; subst hu; rfl) (by unfold maxLen; omega) (by omega) (by have := Bl2.out.size; simp; omega) ?_; intro v3 w3 ho3 hg3 hnn hat3; clear hnn hat3))
              go_roundg (n - x - 1)
              case rel =>
                refine ⟨x + 1, by omega, by go_num, ?_, (Bl2.out.alloc Bl2.out.size _).grown hg3 (by have := Bl2.out.size; simp; omega) (fun q hq => (Row2.out.lt q hq).1), ?_⟩
                · rw [Hnx.out x, ← HFL.out]
                  exact LL.push (by rw [Hflen.out]; exact Row2.out.alloc _) ((Ins.out.call Y2.out).call ((Below.refl _ _).alloc (Nat.le_refl _) _)) ((I2.out.base Bl.out.size).call ((Below.refl _ _).alloc (Nat.le_refl _) _)) (by rw [Hflen.out]; exact ho3) hg3
                · exact ((In0.out.call Y2.out).call ((Below.refl _ _).alloc (Nat.le_refl _) _)).grown (Row2.out.alloc _) hg3
              case measure => omega
            · obtain rfl : x = n := by omega
              have Bl := Lib.hid hbl
              have Lx := Lib.hid hll
              clear hbl hll hinn
              go_wp2_with fail
              go_roundg (Ls.length - j - 1)
              case rel => exact ⟨j + 1, by omega, by go_num, by rw [← Hnn.out]; exact Lx.out, Bl.out⟩
              case measure => omega
        · obtain rfl : j = Ls.length := by omega
          go_wp2_with fail
          go_roundg (wd - k - 1)
          case rel => exact ⟨k + 1, by omega, by go_num, by rw [Hsucc.out, ← flatK_all]; exact Nll.out.base Hls.out, Hbl.out.trans (Nbl.out.mono Hls.out)⟩
          case measure => omega
    · obtain rfl : k = wd := by omega
      have Hll := Lib.hid hll
      have Hbl := Lib.hid hbl
      have HLs := Lib.hid hLs
      clear hll hbl hLs hln
      go_wp2_with fail
      go_ret
      exact ⟨⟨_, rfl, by rw [← HLs.out]; exact Hll.out⟩, Hbl.out⟩

end Go.Proofs.YtjdnjhoddlalaaaDoor

namespace Go.Proofs.YtjdnjhoddlalaaaDoor
open Go.RowKit
open Pl
set_option linter.unusedSimpArgs false
set_option linter.unusedVariables false

attribute [local go_sem ↓] Go.wp_at_zero Go.wp_at_succ

set_option maxHeartbeats 4000000 in
set_option maxRecDepth 100000 in
theorem pointsOf_no (i : Int) (s r f : ByteArray) (x : Int) (w : World) (hs : s.size ≤ maxLen) (hr : r.size ≤ maxLen) (h : ptB i s r f x = false) :
    Calls Tryd.prog 61 #[stV i s r, .string f, .int .i64 x] w fun e w' => e = .returned (.tuple #[.slice none 0 0, .bool false]) ∧ Below w.heap.size w w' := by
  have HcI := fun W => isStructure_calls i s r W hs hr
  have B0 := Lib.hid (show Below w.heap.size w (w.alloc (.cells #[.int .i64 i, .string s, .string r] 24)) from (Below.refl _ _).alloc (Nat.le_refl _) _)
  have Xa := Lib.hid (Bx.new w 24 #[.int .i64 i, .string s, .string r])
  clear hs hr
  rcases fm_cases f with ⟨hb, hno⟩ | ⟨g, hb, hf, hs4, hl4⟩
  · have Hno := Lib.hid hno
    clear hb hno HcI h
    go_enter Tryd.func61, Tryd.ntmps61
    go_wp2_with fail
    refine (parseFormula_no f _ Hno.out).mono ?_
    rintro e w1 ⟨rfl, hz⟩
    have B1 := Lib.hid (B0.out.trans (hz.mono (by simp)))
    clear hz
    go_wp2_with fail
    go_ret2
    exact ⟨rfl, B1.out⟩
  have Hf := Lib.hid hf
  have Hb := Lib.hid hb
  have hfr : g.freeBits < 16 := freeBits_lt g
  clear hf hb
  cases hok : okB i s r
  case false =>
    simp only [hok] at HcI
    clear hok h
    have CI := Lib.hid HcI
    clear HcI
    go_enter Tryd.func61, Tryd.ntmps61
    go_wp2_with fail
    refine (parseFormula_yes f g _ hs4 Hf.out).mono ?_
    rintro e w1 ⟨b, rfl, htr, hz⟩
    have B1 := Lib.hid (B0.out.trans (hz.mono (by simp)))
    have X1 := Lib.hid (Xa.out.call hz)
    have T1 := Lib.hid htr
    clear hz htr
    obtain ⟨k0, k1, k2⟩ := box_load X1.out
    go_wp2_with fail
    refine (CI.out _).mono ?_
    rintro e w2 ⟨rfl, hz⟩
    have B2 := Lib.hid (B1.out.trans (hz.mono B1.out.size))
    have X2 := Lib.hid (X1.out.call hz)
    have T2 := Lib.hid (T1.out.below hz)
    have D2 := Lib.hid hz
    clear hz k0 k1 k2
    go_wp2_with fail
    go_ret2
    exact ⟨rfl, B2.out⟩
  case true =>
  simp only [hok] at HcI
  have CI := Lib.hid HcI
  clear HcI
  by_cases hx0 : 0 ≤ x
  case neg =>
    clear hok h
    go_enter Tryd.func61, Tryd.ntmps61
    go_wp2_with fail
    refine (parseFormula_yes f g _ hs4 Hf.out).mono ?_
    rintro e w1 ⟨b, rfl, htr, hz⟩
    have B1 := Lib.hid (B0.out.trans (hz.mono (by simp)))
    have X1 := Lib.hid (Xa.out.call hz)
    have T1 := Lib.hid htr
    clear hz htr
    obtain ⟨k0, k1, k2⟩ := box_load X1.out
    go_wp2_with fail
    refine (CI.out _).mono ?_
    rintro e w2 ⟨rfl, hz⟩
    have B2 := Lib.hid (B1.out.trans (hz.mono B1.out.size))
    have X2 := Lib.hid (X1.out.call hz)
    have T2 := Lib.hid (T1.out.below hz)
    have D2 := Lib.hid hz
    clear hz k0 k1 k2
    go_wp2_with fail
    go_ret2
    exact ⟨rfl, B2.out⟩
  case pos =>
  by_cases hx3 : x ≤ 3
  case neg =>
    clear hok h
    go_enter Tryd.func61, Tryd.ntmps61
    go_wp2_with fail
    refine (parseFormula_yes f g _ hs4 Hf.out).mono ?_
    rintro e w1 ⟨b, rfl, htr, hz⟩
    have B1 := Lib.hid (B0.out.trans (hz.mono (by simp)))
    have X1 := Lib.hid (Xa.out.call hz)
    have T1 := Lib.hid htr
    clear hz htr
    obtain ⟨k0, k1, k2⟩ := box_load X1.out
    go_wp2_with fail
    refine (CI.out _).mono ?_
    rintro e w2 ⟨rfl, hz⟩
    have B2 := Lib.hid (B1.out.trans (hz.mono B1.out.size))
    have X2 := Lib.hid (X1.out.call hz)
    have T2 := Lib.hid (T1.out.below hz)
    have D2 := Lib.hid hz
    clear hz k0 k1 k2
    go_wp2_with fail
    go_ret2
    exact ⟨rfl, B2.out⟩
  case pos =>
  obtain ⟨k, rfl⟩ : ∃ k : Nat, x = (k : Nat) := ⟨x.toNat, by omega⟩
  obtain ⟨a, ha, rfl, rfl, rfl⟩ := st_of hok
  rw [pt_nat _ _ _ _ (by omega), rdy_of Hb.out Hf.out ha k] at h
  have hne : ((g.freeBits : Int) / 2 ^ k != 0) = true := by rw [div_nat, bne_iff_ne]; have := of_decide_eq_false h; omega
  clear hok h
  go_enter Tryd.func61, Tryd.ntmps61
  go_wp2_with fail
  refine (parseFormula_yes f g _ hs4 Hf.out).mono ?_
  rintro e w1 ⟨b, rfl, htr, hz⟩
  have B1 := Lib.hid (B0.out.trans (hz.mono (by simp)))
  have X1 := Lib.hid (Xa.out.call hz)
  have T1 := Lib.hid htr
  clear hz htr
  obtain ⟨k0, k1, k2⟩ := box_load X1.out
  go_wp2_with fail
  refine (CI.out _).mono ?_
  rintro e w2 ⟨rfl, hz⟩
  have B2 := Lib.hid (B1.out.trans (hz.mono B1.out.size))
  have X2 := Lib.hid (X1.out.call hz)
  have T2 := Lib.hid (T1.out.below hz)
  have D2 := Lib.hid hz
  clear hz k0 k1 k2
  obtain ⟨_, _, _, _, _, _, hc3, _⟩ := node_cells T2.out
  go_wp2_with fail
  go_ret2
  exact ⟨rfl, B2.out⟩

set_option maxHeartbeats 4000000 in
set_option maxRecDepth 100000 in
theorem pointsOf_yes (i : Int) (s r f : ByteArray) (x : Int) (w : World) (hs : s.size ≤ maxLen) (hr : r.size ≤ maxLen) (h : ptB i s r f x = true) :
    Calls Tryd.prog 61 #[stV i s r, .string f, .int .i64 x] w fun e w' => (∃ v, e = .returned (.tuple #[v, .bool true]) ∧ LL w' w.heap.size v (ptL i s r f x)) ∧ Below w.heap.size w w' := by
  obtain ⟨i1, hi', hz0', hz1', hz2'⟩ := info_parts (P := Tryd.prog) (e := 25) (z := .slice none 0 0) (size := 1) (bytes := 24) (by kernel_rfl)
  have HcI := fun W => isStructure_calls i s r W hs hr
  have B0 := Lib.hid (show Below w.heap.size w (w.alloc (.cells #[.int .i64 i, .string s, .string r] 24)) from (Below.refl _ _).alloc (Nat.le_refl _) _)
  have Xa := Lib.hid (Bx.new w 24 #[.int .i64 i, .string s, .string r])
  clear hs hr
  obtain ⟨k, rfl, hk3, hry⟩ := pt_cases h
  rcases fm_cases f with ⟨hb, hno⟩ | ⟨g, hb, hf, hs4, hl4⟩
  · rw [rdy_noFm hb] at hry; cases hry
  cases hok : okB i s r
  case false => rw [rdy_noSt hok] at hry; cases hry
  case true =>
  simp only [hok] at HcI
  have CI := Lib.hid HcI
  obtain ⟨a, ha, rfl, rfl, rfl⟩ := st_of hok
  rw [ptL_yes hf h]
  rw [rdy_of hb hf ha k] at hry
  have heq : (g.freeBits : Int) / 2 ^ k = 0 := by rw [div_nat]; have := of_decide_eq_true hry; omega
  have hfr : g.freeBits < 16 := freeBits_lt g
  have hk0 : (0 : Int) ≤ (k : Int) := by omega
  have hk3i : (k : Int) ≤ 3 := by omega
  have h8 := ha.hi
  have hlo := ha.lo
  have Hf := Lib.hid hf
  obtain ⟨PP, hPP⟩ : ∃ PP : List Nat → Bool, PP = fun l => g.holds a (envL l) := ⟨_, rfl⟩
  rw [← hPP]
  have HPP := Lib.hid hPP
  obtain ⟨Ls, hLs⟩ : ∃ Ls, Ls = listsK a.n k := ⟨_, rfl⟩
  rw [← hLs]
  have hmem : ∀ l ∈ Ls, l.length = k ∧ ∀ y ∈ l, y < a.n := fun l hl => listsK_mem hlo (by rw [← hLs]; exact hl)
  have hl512 : Ls.length ≤ 512 := by
    rw [hLs, listsK_len hlo]
    have h1 : a.n ^ k ≤ 8 ^ k := Nat.pow_le_pow_left h8 k
    have h2 : 8 ^ k ≤ 8 ^ 3 := Nat.pow_le_pow_right (by omega) hk3
    omega
  have cl := fun W => listsOf_calls a.n k hlo h8 hk3 W
  simp only [← hLs] at cl
  have CLs := Lib.hid cl
  have Hmem := Lib.hid hmem
  clear HcI hok h hry hb hf hPP hLs hmem cl hl4
  go_enter Tryd.func61, Tryd.ntmps61
  go_wp2_with fail
  refine (parseFormula_yes f g _ hs4 Hf.out).mono ?_
  rintro e w1 ⟨b, rfl, htr, hz⟩
  have B1 := Lib.hid (B0.out.trans (hz.mono (by simp)))
  have X1 := Lib.hid (Xa.out.call hz)
  have T1 := Lib.hid htr
  clear hz htr
  obtain ⟨k0, k1, k2⟩ := box_load X1.out
  go_wp2_with fail
  refine (CI.out _).mono ?_
  rintro e w2 ⟨rfl, hz⟩
  have B2 := Lib.hid (B1.out.trans (hz.mono B1.out.size))
  have X2 := Lib.hid (X1.out.call hz)
  have T2 := Lib.hid (T1.out.below hz)
  have D2 := Lib.hid hz
  clear hz k0 k1 k2
  obtain ⟨_, _, _, _, _, _, hc3, _⟩ := node_cells T2.out
  obtain ⟨k0, k1, k2⟩ := box_load X2.out
  go_wp2_with fail
  refine (newHolder_calls (w.alloc (.cells #[.int .i64 (a.n : Int), .string (bs a.set), .string (bs a.rel)] 24)).heap.size w1 a w2 D2.out).mono ?_
  rintro e w3 ⟨rfl, hW, hz⟩
  have B3 := Lib.hid ((B2.out.trans (hz.mono B2.out.size)).alloc (B2.out.trans (hz.mono B2.out.size)).size (.cells #[] 25))
  have X3 := Lib.hid ((X2.out.call hz).alloc (.cells #[] 25))
  have W3 := Lib.hid (hW.alloc (.cells #[] 25))
  have Hlt3 := Lib.hid hW.box.lt
  have HS23 := Lib.hid B2.out.size
  have HS3 := Lib.hid (show w.heap.size ≤ w3.heap.size from Nat.le_trans B2.out.size hz.size)
  have N3 := Lib.hid (LL.new w3)
  clear hz k0 k1 k2 hc3 hW
  generalize hhb : w2.heap.size + 1 = hb at *
  have Hhb := Lib.hid hhb
  clear hhb
  obtain ⟨k0, k1, k2⟩ := box_load X3.out
  go_wp2_with fail
  refine (CLs.out _).mono ?_
  rintro e w4 ⟨⟨v4, rfl, hL4⟩, hz⟩
  have B4 := Lib.hid (B3.out.trans (hz.mono B3.out.size))
  have W4 := Lib.hid (W3.out.call hz)
  have N4 := Lib.hid (N3.out.call hz)
  have L4 := Lib.hid hL4
  have A4 := Lib.hid (show Apart v4 (.slice (some ⟨w3.heap.size, 0, none⟩) 0 0) from Apart.symm (Apart.new N3.out.2.choose_spec.1 hL4.2.choose_spec.1 (Nat.le_refl _)))
  have S4 := Lib.hid (show w3.heap.size ≤ w4.heap.size from by have := hz.size; simp at this; omega)
  clear hz k0 k1 k2 hL4
  obtain ⟨gl, cl, rfl⟩ := L4.out.form
  go_wp2_with fail
  go_loopg [10, 47] Ls.length (fun c o xi wr => ∃ j : Nat, j + c = Ls.length ∧ xi = .int .i64 (j : Nat) ∧ LL wr w3.heap.size o (ftK PP Ls j) ∧ LL wr (w3.heap.size + 1) (.slice (some ⟨gl, 0, none⟩) Ls.length cl) Ls ∧ Apart (.slice (some ⟨gl, 0, none⟩) Ls.length cl) o ∧ HoldW (w.alloc (.cells #[.int .i64 (a.n : Int), .string (bs a.set), .string (bs a.rel)] 24)).heap.size w1 a hb wr ∧ Below w.heap.size w wr)
  case atStart => exact ⟨0, by omega, rfl, N4.out, by have := L4.out; rwa [World.size_alloc] at this, A4.out, W4.out, B4.out⟩
  case round =>
    clear N4 L4 A4 W4 B4 N3 X3 W3
    obtain ⟨j, hj, rfl, ho, hl, hap, hWr, hbl⟩ := hrel
    have Hl := Lib.hid hl
    have Hap := Lib.hid hap
    have HWr := Lib.hid hWr
    have Hbl := Lib.hid hbl
    clear hl hap hWr hbl
    by_cases hjl : j < Ls.length
    · obtain ⟨g1, c1, gi, ci, e1, hcl, hcell, hinn⟩ := Hl.out.get hjl
      simp only [Value.slice.injEq, Option.some.injEq, Addr.mk.injEq, and_true, true_and] at e1
      obtain ⟨rfl, rfl⟩ := e1
      have j1 : (0 : Int) ≤ (j : Int) := by omega
      have j2 : (j : Int) < (Ls.length : Int) := by omega
      have hsucc := ftK_succ PP Ls j hjl
      have hle := ftK_le PP Ls j
      obtain ⟨L0, hL0⟩ : ∃ L0, L0 = Ls.getD j [] := ⟨_, rfl⟩
      have hm0 := Hmem.out L0 (by rw [hL0, List.getD_eq_getElem?_getD, List.getElem?_eq_getElem hjl]; exact List.getElem_mem hjl)
      simp only [← hL0] at hcell hinn hsucc
      obtain ⟨FK, hFK⟩ : ∃ FK, FK = ftK PP Ls j := ⟨_, rfl⟩
      rw [← hFK] at ho hsucc hle
      obtain ⟨⟨go, co, rfl⟩, vals, hrow, hins⟩ := ho
      obtain ⟨fl, hfl⟩ : ∃ fl, FK.length = fl := ⟨_, rfl⟩
      rw [hfl] at hrow hle Hap
      have hL0l : L0.length = k := hm0.1
      rw [hL0l] at hcell hinn
      have hLR := LRow_of (show wr.ownsRow (w3.heap.size + 1) 3 1 (.slice (some ⟨gi, 0, none⟩) k ci) k (intsV (natsI L0)) from by obtain ⟨_, _, _, h2⟩ := hinn; rw [hL0l] at h2; exact h2)
      have hcall := holds_calls (w.alloc (.cells #[.int .i64 (a.n : Int), .string (bs a.set), .string (bs a.rel)] 24)).heap.size w1 a ha hb g b L0 (some ⟨gi, 0, none⟩) ci wr T1.out hm0.2 (by omega) hLR HWr.out
      rw [show g.holds a (envL L0) = PP L0 by rw [HPP.out], hL0l] at hcall
      have HC := Lib.hid hcall
      have Row := Lib.hid hrow
      have Ins := Lib.hid hins
      have In0 := Lib.hid hinn
      have Hfl := Lib.hid hfl
      have HFK := Lib.hid hFK
      have Hsucc := Lib.hid hsucc
      clear hcall hrow hins hinn hfl hFK hsucc hL0 hm0 hLR hL0l
      rw [Hfl.out]
      cases hq : PP L0 with
      | false =>
        rw [hq] at HC
        have hs2 := Hsucc.out
        rw [hq] at hs2
        have Hs2 := Lib.hid hs2
        clear hs2 hq
        go_wp2_with fail
        refine (HC.out).mono ?_
        rintro e w5 ⟨rfl, hW5, hF⟩
        have W5 := Lib.hid hW5
        have F5 := Lib.hid (Hbl.out.trans (hF.below.mono (by have := HS23.out; have := Hhb.out; omega)))
        have L5 := Lib.hid (Hl.out.fz hF)
        have O5 := Lib.hid (show LL w5 w3.heap.size (.slice (some ⟨go, 0, none⟩) fl co) FK from LL.fz ⟨⟨_, _, by rw [Hfl.out]⟩, vals, by rw [Hfl.out]; exact Row.out, Ins.out⟩ hF)
        clear hW5 hF hcell
        go_wp2_with fail
        go_roundg (Ls.length - j - 1)
        case rel => exact ⟨j + 1, by omega, by go_num, by rw [Hs2.out]; exact O5.out, L5.out, Hap.out, W5.out, F5.out⟩
        case measure => omega
      | true =>
        rw [hq] at HC
        have hs2 := Hsucc.out
        rw [hq] at hs2
        have Hs2 := Lib.hid hs2
        clear hs2 hq
        go_wp2_with fail
        refine (HC.out).mono ?_
        rintro e w5 ⟨rfl, hW5, hF⟩
        have W5 := Lib.hid hW5
        have F5 := Lib.hid (Hbl.out.trans (hF.below.mono (by have := HS23.out; have := Hhb.out; omega)))
        have L5 := Lib.hid (Hl.out.fz hF)
        have R5 := Lib.hid (own_fz Row.out hF)
        have I5 := Lib.hid (show Inns w5 w3.heap.size vals FK from (show LL w5 w3.heap.size (.slice (some ⟨go, 0, none⟩) fl co) FK from LL.fz ⟨⟨_, _, by rw [Hfl.out]⟩, vals, by rw [Hfl.out]; exact Row.out, Ins.out⟩ hF) |> fun _ => ⟨Ins.out.1, fun q v L h1 h2 => (Ins.out.2 q v L h1 h2).fz hF⟩)
        have Z5 := Lib.hid (show Inn w5 w3.heap.size (.slice (some ⟨gi, 0, none⟩) k ci) L0 from (In0.out.fz hF).base (by omega))
        have S5 := Lib.hid (show w3.heap.size ≤ w5.heap.size from by have := (R5.out.lt go rfl); omega)
        clear hW5 hF
        have hcell5 := hcell
        clear hcell hcell5
        go_wp2_with (at_builtin; refine wpList_append_own_at _ rfl (.tmp 55) (.tmp 57) 87 rfl w3.heap.size 25 i1 (.slice none 0 0) 1 24 Tryd.underlying87 hi' hz0' hz1' hz2' rfl (by decide) _ fl vals rfl (R5.out.alloc _) ⟨w5.heap.size, 0, none⟩ 1 1 [.slice (some ⟨gi, 0, none⟩) k ci] rfl rfl (cell_one_new _ _ _) (fun u hu => by simp at hu; subst hu; rfl) (by unfold maxLen; omega) (by omega) (by have := S5.out; simp; omega) ?_; intro v6 w6 ho6 hg6 hnn hat6; clear hnn; have W6 := Lib.hid ((W5.out.alloc _).own (R5.out.alloc _) (by have := Hlt3.out; omega) hg6); have A6 := Lib.hid hat6; clear hat6)
        go_roundg (Ls.length - j - 1)
        case rel =>
          refine ⟨j + 1, by omega, by go_num, ?_, ?_, ?_, W6.out, ?_⟩
          · rw [Hs2.out]
            exact LL.push (W := w5.alloc (.cells #[.slice (some ⟨gi, 0, none⟩) k ci] 25)) (v := .slice (some ⟨go, 0, none⟩) fl co) (by rw [Hfl.out]; exact R5.out.alloc _) (I5.out.call ((Below.refl _ _).alloc (Nat.le_refl _) _)) (Z5.out.call ((Below.refl _ _).alloc (Nat.le_refl _) _)) (by rw [Hfl.out]; exact ho6) hg6
          · exact (L5.out.alloc _).others (R5.out.alloc _) hg6 Hap.out
          · exact Hap.out.next (L5.out.alloc _).2.choose_spec.1 (Nat.le_refl _) A6.out
          · exact (F5.out.alloc F5.out.size _).grown hg6 (by have := F5.out.size; simp; omega) (fun q hq => by have h1 := (R5.out.lt q hq).1; have h2 := HS3.out; omega)
        case measure => omega
    · obtain rfl : j = Ls.length := by omega
      obtain ⟨go, co, rfl⟩ := ho.form
      have Ho := Lib.hid ho
      clear ho
      go_wp2_with fail
      go_ret2
      exact ⟨⟨_, rfl, by rw [← ftK_all]; exact Ho.out.base HS3.out⟩, Hbl.out⟩

set_option maxRecDepth 100000 in
set_option maxHeartbeats 1000000 in
theorem CountPoints_impl (i : Int) (s r f : ByteArray) (x : Int) (w : World) (hs : s.size ≤ maxLen) (hr : r.size ≤ maxLen) :
    Calls Tryd.prog 18 #[stV i s r, .string f, .int .i64 x] w fun e w' => e = .returned (.int .i64 (cptV i s r f x)) ∧ Below w.heap.size w w' := by
  have B0 := Lib.hid (show Below w.heap.size w (w.alloc (.cells #[.int .i64 i, .string s, .string r] 24)) from (Below.refl _ _).alloc (Nat.le_refl _) _)
  obtain ⟨k0, k1, k2⟩ := box_load (Bx.new w 24 #[.int .i64 i, .string s, .string r])
  unfold cptV
  cases hp : ptB i s r f x
  case false =>
    have CP := Lib.hid (fun W => pointsOf_no i s r f x W hs hr hp)
    clear hs hr hp
    go_enter Tryd.func18, Tryd.ntmps18
    go_wp2_with fail
    refine (CP.out _).mono ?_
    rintro e w1 ⟨rfl, hz⟩
    have B1 := Lib.hid (B0.out.trans (hz.mono B0.out.size))
    clear hz k0 k1 k2
    go_wp2_with fail
    go_ret
    exact ⟨rfl, B1.out⟩
  case true =>
    have CP := Lib.hid (fun W => pointsOf_yes i s r f x W hs hr hp)
    clear hs hr hp
    go_enter Tryd.func18, Tryd.ntmps18
    go_wp2_with fail
    refine (CP.out _).mono ?_
    rintro e w1 ⟨⟨v, rfl, hL⟩, hz⟩
    have B1 := Lib.hid (B0.out.trans (hz.mono B0.out.size))
    obtain ⟨gl, cl, rfl⟩ := hL.form
    clear hz k0 k1 k2 hL
    go_wp2_with fail
    go_ret
    exact ⟨rfl, B1.out⟩

set_option maxRecDepth 100000 in
set_option maxHeartbeats 1000000 in
theorem FirstPoint_impl (i : Int) (s r f : ByteArray) (x : Int) (w : World) (hs : s.size ≤ maxLen) (hr : r.size ≤ maxLen) :
    Calls Tryd.prog 16 #[stV i s r, .string f, .int .i64 x] w fun e w' => (∃ v, e = .returned (.tuple #[v, .bool (fstB i s r f x)]) ∧ w'.ownsRow w.heap.size 3 1 v (fstV i s r f x).length (intsV (natsI (fstV i s r f x)))) ∧ Below w.heap.size w w' := by
  have B0 := Lib.hid (show Below w.heap.size w (w.alloc (.cells #[.int .i64 i, .string s, .string r] 24)) from (Below.refl _ _).alloc (Nat.le_refl _) _)
  obtain ⟨k0, k1, k2⟩ := box_load (Bx.new w 24 #[.int .i64 i, .string s, .string r])
  unfold fstB fstV
  cases hp : ptB i s r f x
  case false =>
    rw [ptL_no hp]
    have CP := Lib.hid (fun W => pointsOf_no i s r f x W hs hr hp)
    clear hs hr hp
    go_enter Tryd.func16, Tryd.ntmps16
    go_wp2_with fail
    refine (CP.out _).mono ?_
    rintro e w1 ⟨rfl, hz⟩
    have B1 := Lib.hid (B0.out.trans (hz.mono B0.out.size))
    clear hz k0 k1 k2
    go_wp2_with fail
    go_ret2
    exact ⟨⟨_, rfl, rfl, .inl ⟨rfl, rfl⟩⟩, B1.out⟩
  case true =>
    have cp := fun W => pointsOf_yes i s r f x W hs hr hp
    clear hs hr hp
    obtain ⟨Q, hQ⟩ : ∃ Q, Q = ptL i s r f x := ⟨_, rfl⟩
    simp only [← hQ] at cp
    rw [← hQ]
    have CP := Lib.hid cp
    clear cp hQ
    go_enter Tryd.func16, Tryd.ntmps16
    go_wp2_with fail
    refine (CP.out _).mono ?_
    rintro e w1 ⟨⟨v, rfl, hL⟩, hz⟩
    have B1 := Lib.hid (B0.out.trans (hz.mono B0.out.size))
    cases Q with
    | nil =>
      obtain ⟨gl, cl, rfl⟩ := hL.form
      clear hz k0 k1 k2 hL
      simp only [List.length_nil]
      go_wp2_with fail
      go_ret2
      exact ⟨⟨_, rfl, rfl, .inl ⟨rfl, rfl⟩⟩, B1.out⟩
    | cons l t =>
      obtain ⟨gl, cl, gi, ci, rfl, hcl, hcell, hinn⟩ := hL.get (k := 0) (by simp)
      simp only [List.getD_cons_zero] at hcell hinn
      have In0 := Lib.hid hinn
      have hsz : ((l :: t).length : Int) = (t.length : Int) + 1 := by simp
      obtain ⟨ln, hln⟩ : ∃ ln, ln = (l :: t).length := ⟨_, rfl⟩
      rw [← hln]
      have hpos : (0 : Int) < (ln : Int) := by rw [hln]; simp only [List.length_cons]; omega
      have hne : ((ln : Int) == 0) = false := by rw [beq_eq_false_iff_ne]; omega
      clear hz k0 k1 k2 hL hinn hln hsz
      go_wp2_with fail
      go_ret2
      obtain ⟨_, _, _, h2⟩ := In0.out
      exact ⟨⟨_, rfl, own_base h2 (by have := B0.out.size; omega)⟩, B1.out⟩

end Go.Proofs.YtjdnjhoddlalaaaDoor

namespace Go.Proofs.YtjdnjhoddlalaaaDoor
open Go.RowKit
open Pl
set_option linter.unusedSimpArgs false
set_option linter.unusedVariables false

set_option maxHeartbeats 400000 in
theorem gsHas_calls (A : Option Addr) (zs : List Int) (cap : Nat) (x : Int) (w : World) (hn : zs.length ≤ 1048576) (hA : LRow w A zs) :
    Calls Tryd.prog 40 #[.slice A zs.length cap, .int .i64 x] w fun e w' => e = .returned (.bool (decide (x ∈ zs))) ∧ w = w' := by
  have HA := Lib.hid hA
  obtain ⟨V, hV⟩ : ∃ V, V = decide (x ∈ zs) := ⟨_, rfl⟩
  rw [← hV]
  have HV := Lib.hid hV
  clear hA hV
  go_enter Tryd.func40, Tryd.ntmps40
  go_wp2_with fail
  go_loop [5] (fun i => ∃ k : Nat, k ≤ zs.length ∧ i = .int .i64 k ∧ ∀ j, j < k → zs.getD j 0 ≠ x) (fun i => zs.length - (intOf i).toNat)
  case atStart => exact ⟨0, Nat.zero_le _, rfl, fun j hj => absurd hj (Nat.not_lt_zero _)⟩
  case round =>
    obtain ⟨k, hk, rfl, hno⟩ := hrel
    have Hno := Lib.hid hno
    clear hno
    by_cases hlt : k < zs.length
    · obtain ⟨g, rfl, hc⟩ := HA.out (by omega)
      have hck := hc k hlt
      have hmem := getD_mem hlt
      obtain ⟨z, hz⟩ : ∃ z, z = zs.getD k 0 := ⟨_, rfl⟩
      rw [← hz] at hck hmem
      have Hz := Lib.hid hz
      clear hc hz
      by_cases hx : z = x
      · have hb : (z == x) = true := beq_iff_eq.2 hx
        subst hx
        have Hm := Lib.hid hmem
        clear hmem
        go_wp2_with fail
        go_ret
        exact ⟨by rw [HV.out, decide_eq_true Hm.out]; rfl, rfl⟩
      · have hb : (z == x) = false := beq_eq_false_iff_ne.2 hx
        have Hx := Lib.hid hx
        clear hmem hx
        go_wp2_with fail
        go_round
        case rel =>
          refine ⟨k + 1, by omega, by go_num, fun j hj => ?_⟩
          by_cases hjk : j = k
          · subst hjk; rw [← Hz.out]; exact Hx.out
          · exact Hno.out j (by omega)
        case measure => simp [intOf]; omega
    · have hne : ¬ x ∈ zs := fun h => by
        obtain ⟨j, hj, e⟩ := mem_getD h
        exact absurd e (Hno.out j (by omega))
      have Hne := Lib.hid hne
      clear hne
      go_wp2_with fail
      go_ret
      exact ⟨by rw [HV.out, decide_eq_false Hne.out]; rfl, rfl⟩

theorem getD_eq {xs ys : List Int} (hl : xs.length = ys.length) (h : ∀ j, j < xs.length → xs.getD j 0 = ys.getD j 0) : xs = ys := by
  apply List.ext_getElem hl
  intro i h1 h2
  have := h i h1
  simpa [List.getD, h1, h2] using this

set_option maxHeartbeats 400000 in
theorem gsSame_calls (A C : Option Addr) (c1 c2 : Nat) (xs ys : List Int) (w : World) (hm : xs.length ≤ 1048576) (hm2 : ys.length ≤ 1048576) (h1 : LRow w A xs) (h2 : LRow w C ys) :
    Calls Tryd.prog 19 #[.slice A xs.length c1, .slice C ys.length c2] w fun e w' => e = .returned (.bool (decide (xs = ys))) ∧ Below w.heap.size w w' := by
  have H1 := Lib.hid h1
  have H2 := Lib.hid h2
  clear h1 h2
  obtain ⟨V, hV⟩ : ∃ V, V = decide (xs = ys) := ⟨_, rfl⟩
  rw [← hV]
  have HV := Lib.hid hV
  clear hV
  by_cases hl : xs.length = ys.length
  · have hli : ((xs.length : Int) != (ys.length : Int)) = false := by simp; omega
    have hli3 : ¬ (xs.length : Int) ≠ (ys.length : Int) := by omega
    have hli2 : (xs.length : Int) = (ys.length : Int) := by omega
    have Hl := Lib.hid hl
    clear hl hli3
    go_enter Tryd.func19, Tryd.ntmps19
    go_wp2_with fail
    go_loopg [5] xs.length (fun c i wr => ∃ k : Nat, k + c = xs.length ∧ i = .int .i64 k ∧ Below w.heap.size w wr ∧ ∀ j, j < k → xs.getD j 0 = ys.getD j 0)
    case atStart => exact ⟨0, by omega, rfl, Below.refl _ _, fun j hj => absurd hj (Nat.not_lt_zero _)⟩
    case round =>
      obtain ⟨k, hk, rfl, hbr, hall⟩ := hrel
      have Hall := Lib.hid hall
      clear hall
      by_cases hlt : k < xs.length
      · obtain ⟨g, rfl, hc⟩ := H1.out (by omega)
        obtain ⟨g2, rfl, hc2⟩ := H2.out (by have := Hl.out; omega)
        have hlt2 : k < ys.length := by have := Hl.out; omega
        have d1 := (hbr.cell (World.block_lt_of_cell? w _ (hc k hlt))).trans (hc k hlt)
        have d2 := (hbr.cell (World.block_lt_of_cell? w _ (hc2 k hlt2))).trans (hc2 k hlt2)
        have Hbr := Lib.hid hbr
        obtain ⟨z1, hz1⟩ : ∃ z, z = xs.getD k 0 := ⟨_, rfl⟩
        obtain ⟨z2, hz2⟩ : ∃ z, z = ys.getD k 0 := ⟨_, rfl⟩
        rw [← hz1] at d1
        rw [← hz2] at d2
        have Z1 := Lib.hid hz1
        have Z2 := Lib.hid hz2
        have hki : (k : Int) < (ys.length : Int) := by omega
        clear hbr hc hc2 hz1 hz2
        by_cases hz : z1 = z2
        · have hb : (z1 != z2) = false := by simp [hz]
          subst hz
          go_upto_region 6 with (fail)
          go_quiet (fail)
          go_wp2_with fail
          go_roundg (xs.length - k - 1)
          case rel =>
            refine ⟨k + 1, by omega, by go_num, below_drewN' Hbr.out _, fun j hj => ?_⟩
            by_cases hjk : j = k
            · subst hjk; rw [← Z1.out, ← Z2.out]
            · exact Hall.out j (by omega)
          case measure => omega
        · have hb : (z1 != z2) = true := by simp [hz]
          have Hz := Lib.hid hz
          clear hz
          go_upto_region 6 with (fail)
          go_quiet (fail)
          go_wp2_with fail
          go_ret
          exact ⟨by rw [HV.out, decide_eq_false (fun e => Hz.out (by rw [Z1.out, Z2.out, e]))]; rfl, below_drewN' Hbr.out _⟩
      · have Hbr := Lib.hid hbr
        have hkl : k = xs.length := by omega
        have hke : xs = ys := getD_eq Hl.out (fun j hj => Hall.out j (by omega))
        have Hke := Lib.hid hke
        clear hbr hke hkl
        go_wp2_with fail
        go_ret
        exact ⟨by rw [HV.out, decide_eq_true Hke.out]; rfl, Hbr.out⟩
  · have hli : ((xs.length : Int) != (ys.length : Int)) = true := by simp; omega
    have hli2 : ¬ (xs.length : Int) = (ys.length : Int) := by omega
    have Hl := Lib.hid hl
    clear hl
    go_enter Tryd.func19, Tryd.ntmps19
    go_wp2_with fail
    go_ret
    exact ⟨by rw [HV.out, decide_eq_false (fun e => Hl.out (by rw [e]))]; rfl, Below.refl _ _⟩

end Go.Proofs.YtjdnjhoddlalaaaDoor

namespace Go.Proofs.YtjdnjhoddlalaaaDoor
open Pl
set_option linter.unusedSimpArgs false
set_option linter.unusedVariables false

theorem fm_bs {g : Fm} (h : g.text.length ≤ 4000) : fmB (bs g.text).data.toList = true := fmB_true.2 ⟨by simpa [bs] using h, g, by simp [bs]⟩
theorem bs_list (l : List UInt8) : (bs l).data.toList = l := by simp [bs]
theorem elAll_of_nats {n : Nat} {ns : List Nat} (h : ∀ x ∈ ns, x < n) : elAll n (natsI ns) = true := by
  unfold elAll
  rw [List.all_eq_true]
  intro z hz
  obtain ⟨x, hx, rfl⟩ := List.mem_map.1 hz
  have := h x hx
  unfold elB
  simp
  omega
theorem natsI_back (l : List Nat) : (natsI l).map Int.toNat = l := by
  unfold natsI
  rw [List.map_map]
  conv => rhs; rw [← List.map_id l]
  exact List.map_congr_left fun x _ => by simp

/-- HoldsAt of a formula, with elements for all that is free -/
theorem hold_fm {a : St} (ha : a.ok) {g : Fm} (hg : g.text.length ≤ 4000) {ns : List Nat} (hn : ∀ x ∈ ns, x < a.n) (hl : ns.length ≤ 4) (hf : g.freeBits / 2 ^ ns.length = 0) :
    holdB a.n (bs a.set) (bs a.rel) (bs g.text) (natsI ns) = true ∧ holdV a.n (bs a.set) (bs a.rel) (bs g.text) (natsI ns) = g.holds a (envL ns) := by
  have h1 : rdyB a.n (bs a.set) (bs a.rel) (bs g.text) (natsI ns).length = true := by
    rw [rdy_of (fm_bs hg) (bs_list _) ha, natsI_len, decide_eq_true hf]
  have h2 := hold_yes h1 (by rw [natsI_len]; exact hl) (elAll_of_nats hn)
  refine ⟨h2, ?_⟩
  rw [hold_yesV h2, natsI_back, tru_of (bs_list _)]
theorem hold_four {a : St} (ha : a.ok) {g : Fm} (hg : g.text.length ≤ 4000) {ns : List Nat} (hn : ∀ x ∈ ns, x < a.n) (hl : ns.length = 4) :
    holdV a.n (bs a.set) (bs a.rel) (bs g.text) (natsI ns) = g.holds a (envL ns) :=
  (hold_fm ha hg hn (by omega) (by have := freeBits_lt g; rw [hl]; omega)).2
/-- HoldsAt of anything: no, or a formula, a structure and elements -/
theorem hold_cases (i : Int) (s r f : ByteArray) (zs : List Int) : (holdB i s r f zs = false ∧ holdV i s r f zs = false) ∨
    ∃ (a : St) (g : Fm) (ns : List Nat), a.ok ∧ i = a.n ∧ s = bs a.set ∧ r = bs a.rel ∧ f = bs g.text ∧ g.text.length ≤ 4000 ∧ zs = natsI ns ∧ (∀ x ∈ ns, x < a.n) ∧ ns.length ≤ 4 ∧ g.freeBits / 2 ^ ns.length = 0 ∧ holdB i s r f zs = true ∧ holdV i s r f zs = g.holds a (envL ns) := by
  cases h : holdB i s r f zs with
  | false => exact .inl ⟨rfl, hold_no h⟩
  | true =>
    right
    have h0 := h
    unfold holdB rdyB at h
    simp only [Bool.and_eq_true, decide_eq_true_eq] at h
    obtain ⟨⟨h1, h2, h3⟩, h4, h5⟩ := h
    rcases ok_cases i s r with hq | ⟨a, ha, rfl, rfl, rfl⟩
    · rw [h1] at hq; cases hq
    rcases fm_cases f with ⟨hq, _⟩ | ⟨g, hb, hf, hs4, hl4⟩
    · rw [h2] at hq; cases hq
    obtain ⟨e1, e2⟩ := elAll_nats h5
    rw [fmOf_eq hf] at h3
    refine ⟨a, g, zs.map Int.toNat, ha, rfl, rfl, rfl, eq_bs hf, hl4, e1, e2, by simpa using h4, by simpa using h3, rfl, ?_⟩
    rw [hold_yesV h0, tru_of hf]

theorem text_app (l m : List UInt8) : bs l ++ bs m = bs (l ++ m) := by rw [append_bs, bs_list, bs_list]
theorem mk_bs (x : Array UInt8) : ByteArray.mk x = bs x.toList := by unfold bs; simp

end Go.Proofs.YtjdnjhoddlalaaaDoor

namespace Go.Proofs.YtjdnjhoddlalaaaDoor
open Go.RowKit
open Pl
set_option linter.unusedSimpArgs false
set_option linter.unusedVariables false

set_option maxRecDepth 100000 in
theorem gsHolds_calls (i : Int) (s r f : ByteArray) (A : Option Addr) (zs : List Int) (cap : Nat) (w : World) (hs : s.size ≤ maxLen) (hr : r.size ≤ maxLen) (hn : zs.length ≤ 1048576) (hcap : zs.length ≤ cap) (hA : LRow w A zs) :
    Calls Tryd.prog 12 #[stV i s r, .string f, .slice A zs.length cap] w fun e w' => e = .returned (.bool (holdV i s r f zs)) ∧ Below w.heap.size w w' := by
  have B0 := Lib.hid ((Below.refl w.heap.size w).alloc (Nat.le_refl _) (.cells #[.int .i64 i, .string s, .string r] 24))
  have hc := HoldsAt_impl i s r f A zs cap (w.alloc (.cells #[.int .i64 i, .string s, .string r] 24)) hs hr hn hcap (hA.alloc _)
  have Hc := Lib.hid hc
  obtain ⟨k0, k1, k2⟩ := box_load (Bx.new w 24 #[.int .i64 i, .string s, .string r])
  clear hc hs hr hA
  go_enter Tryd.func12, Tryd.ntmps12
  go_wp2_with fail
  refine (Hc.out).mono ?_
  rintro e w1 ⟨rfl, hz⟩
  have B1 := Lib.hid (B0.out.trans (hz.mono B0.out.size))
  clear hz k0 k1 k2
  go_wp2_with fail
  go_ret
  exact ⟨rfl, B1.out⟩
theorem st_len {a : St} (ha : a.ok) : (bs a.set).size ≤ maxLen ∧ (bs a.rel).size ≤ maxLen := by have := st_small ha; unfold maxLen; omega
/-- gsHolds of a formula with four elements -/
theorem gs_four (a : St) (ha : a.ok) (g : Fm) (hg : g.text.length ≤ 4000) (f : ByteArray) (hf : f = bs g.text) (ns : List Nat) (hn : ∀ x ∈ ns, x < a.n) (hl : ns.length = 4) (A : Option Addr) (cap : Nat) (hcap : 4 ≤ cap) (b : Bool) (hb : g.holds a (envL ns) = b) (w : World) (hA : LRow w A (natsI ns)) :
    Calls Tryd.prog 12 #[stV a.n (bs a.set) (bs a.rel), .string f, .slice A 4 cap] w fun e w' => e = .returned (.bool b) ∧ Below w.heap.size w w' := by
  subst hf
  have h := gsHolds_calls a.n (bs a.set) (bs a.rel) (bs g.text) A (natsI ns) cap w (st_len ha).1 (st_len ha).2 (by rw [natsI_len, hl]; omega) (by rw [natsI_len, hl]; exact hcap) hA
  rw [hold_four ha hg hn hl, natsI_len, hl, hb] at h
  exact h
theorem inSet_at (a : St) (ha : a.ok) (x : Nat) (hx : x < a.n) (W : World) :
    Calls Tryd.prog 13 #[stV a.n (bs a.set) (bs a.rel), .int .i64 (x : Nat)] W fun e w' => e = .returned (.bool (a.inS x)) ∧ Below W.heap.size W w' := by
  have h := InSet_impl (a.n : Int) (bs a.set) (bs a.rel) (x : Nat) W (st_len ha).1 (st_len ha).2
  have e : inSetV (a.n : Int) (bs a.set) (bs a.rel) (x : Nat) = a.inS x := by
    have hx2 : elB a.n (x : Nat) = true := by unfold elB; simp; omega
    unfold inSetV; rw [okB_true ha, hx2, ofSt_eq]; rfl
  rwa [e] at h
theorem inRel_at (a : St) (ha : a.ok) (x y : Nat) (hx : x < a.n) (hy : y < a.n) (W : World) :
    Calls Tryd.prog 14 #[stV a.n (bs a.set) (bs a.rel), .int .i64 (x : Nat), .int .i64 (y : Nat)] W fun e w' => e = .returned (.bool (a.inR x y)) ∧ Below W.heap.size W w' := by
  have h := InRel_impl (a.n : Int) (bs a.set) (bs a.rel) (x : Nat) (y : Nat) W (st_len ha).1 (st_len ha).2
  have e : inRelV (a.n : Int) (bs a.set) (bs a.rel) (x : Nat) (y : Nat) = a.inR x y := by
    have hx2 : elB a.n (x : Nat) = true := by unfold elB; simp; omega
    have hy2 : elB a.n (y : Nat) = true := by unfold elB; simp; omega
    unfold inRelV; rw [okB_true ha, hx2, hy2, ofSt_eq]; rfl
  rwa [e] at h
theorem four_cells {W : World} {g a b c d : Nat} (h : LRow W (some ⟨g, 0, none⟩) (natsI [a, b, c, d])) : W.cell? ⟨g, 0, none⟩ = some (.int .i64 (a : Nat)) ∧ W.cell? ⟨g, 1, none⟩ = some (.int .i64 (b : Nat)) ∧ W.cell? ⟨g, 2, none⟩ = some (.int .i64 (c : Nat)) ∧ W.cell? ⟨g, 3, none⟩ = some (.int .i64 (d : Nat)) := by
  obtain ⟨g', hg, hc⟩ := h (by simp [natsI])
  injection hg with hg
  injection hg with hg _ _
  subst hg
  exact ⟨hc 0 (by simp [natsI]), hc 1 (by simp [natsI]), hc 2 (by simp [natsI]), hc 3 (by simp [natsI])⟩
theorem LRow_four (W : World) (a b c d : Nat) : LRow (W.alloc (.cells #[.int .i64 (a : Nat), .int .i64 (b : Nat), .int .i64 (c : Nat), .int .i64 (d : Nat)] 3)) (some ⟨W.heap.size, 0, none⟩) (natsI [a, b, c, d]) := fun _ => ⟨_, rfl, fun i hi => by
  have hx := Bx.new W 3 #[.int .i64 (a : Nat), .int .i64 (b : Nat), .int .i64 (c : Nat), .int .i64 (d : Nat)]
  have : i = 0 ∨ i = 1 ∨ i = 2 ∨ i = 3 := by simp [natsI] at hi; omega
  rcases this with rfl | rfl | rfl | rfl
  · exact hx.cell 0
  · exact hx.cell 1
  · exact hx.cell 2
  · exact hx.cell 3⟩
theorem len4 {ns : List Nat} (h : ns.length = 4) : ∃ a b c d, ns = [a, b, c, d] := by
  match ns, h with
  | [a, b, c, d], _ => exact ⟨a, b, c, d, rfl⟩

end Go.Proofs.YtjdnjhoddlalaaaDoor

namespace Go.Proofs.YtjdnjhoddlalaaaDoor
open Go.RowKit
open Pl
set_option linter.unusedSimpArgs false
set_option linter.unusedVariables false

attribute [local go_sem ↓] Go.wp_at_zero Go.wp_at_succ

/-- four elements in memory -/
def FourP (a : St) (w : World) (e : Ending) (w' : World) : Prop := ∃ g y0 y1 y2 y3, e = .returned (.slice (some ⟨g, 0, none⟩) 4 4) ∧ y0 < a.n ∧ y1 < a.n ∧ y2 < a.n ∧ y3 < a.n ∧ LRow w' (some ⟨g, 0, none⟩) (natsI [y0, y1, y2, y3]) ∧ w.heap.size ≤ g

set_option maxHeartbeats 4000000 in
set_option maxRecDepth 100000 in
theorem gsFour_calls (a : St) (ha : a.ok) (AA : Option Addr) (n2 cap2 : Nat) (hn : n2 ≤ 1048576) (k : Nat) (hk : k ≤ 1000) (w : World) (h : ByRow w AA n2) :
    Calls Tryd.prog 20 #[stV a.n (bs a.set) (bs a.rel), .slice AA n2 cap2, .int .i64 (k : Nat)] w fun e w' => FourP a w e w' ∧ Below w.heap.size w w' := by
  have HB := Lib.hid ((Below.refl w.heap.size w).alloc (Nat.le_refl _) (.cells #[.int .i64 (a.n : Int), .string (bs a.set), .string (bs a.rel)] 24))
  have X1 := Lib.hid (Bx.new w 24 #[.int .i64 (a.n : Int), .string (bs a.set), .string (bs a.rel)])
  have HR := Lib.hid (h.call HB.out)
  have h8 := ha.hi
  have hlo := ha.lo
  clear h
  go_enter Tryd.func20, Tryd.ntmps20
  go_wp2_with fail
  generalize hw1 : w.alloc (.cells #[.int .i64 (a.n : Int), .string (bs a.set), .string (bs a.rel)] 24) = w1 at *
  go_loopg [7, 8] 8 (fun c xv iv wr => ∃ j x : Nat, j + c = 8 ∧ iv = .int .i64 (j : Nat) ∧ xv = .int .i64 (x : Nat) ∧ x ≤ 1100000 ∧ w1 = wr)
  case atStart => exact ⟨0, 7 * k + n2, by omega, rfl, by go_num, by omega, rfl⟩
  case round =>
    obtain ⟨j, x, hj, rfl, rfl, hx, rfl⟩ := hrel
    obtain ⟨x0, x1, x2⟩ := box_load X1.out
    by_cases hlt : j < n2
    · by_cases hlt8 : j < 8
      · obtain ⟨ad, rfl, hc⟩ := HR.out (by omega)
        obtain ⟨b, hb, hcb⟩ := hc j hlt
        clear hc
        go_wp2_with fail
        go_roundg (8 - j - 1)
        case rel => exact ⟨j + 1, (x * 5 + b) % 1000003, by omega, by go_num, by go_num, by omega, rfl⟩
        case measure => omega
      · obtain rfl : j = 8 := by omega
        have hgk : gk = 0 := by omega
        subst hgk
        clear x0 x1 x2
        have B3 := Lib.hid (HB.out.drew.alloc (by have := HB.out.size; simpa using this) (.cells #[.int .i64 (x % a.n : Nat), .int .i64 (x / 11 % a.n : Nat), .int .i64 (x / 101 % a.n : Nat), .int .i64 (x / 1009 % a.n : Nat)] 3))
        have y0 := (X1.out.drew.alloc (.cells #[.int .i64 (x % a.n : Nat), .int .i64 (x / 11 % a.n : Nat), .int .i64 (x / 101 % a.n : Nat), .int .i64 (x / 1009 % a.n : Nat)] 3)).cell 0
        have x0 := X1.out.drew.cell 0
        have r0 : ((x : Nat) : Int).tmod (a.n : Int) = ((x % a.n : Nat) : Int) := by rw [Int.ofNat_tmod]
        have r1 : ((x / 11 : Nat) : Int).tmod (a.n : Int) = ((x / 11 % a.n : Nat) : Int) := by rw [Int.ofNat_tmod]
        have r2 : ((x / 101 : Nat) : Int).tmod (a.n : Int) = ((x / 101 % a.n : Nat) : Int) := by rw [Int.ofNat_tmod]
        have r3 : ((x / 1009 : Nat) : Int).tmod (a.n : Int) = ((x / 1009 % a.n : Nat) : Int) := by rw [Int.ofNat_tmod]
        have d1 : ((x : Nat) : Int).tdiv 11 = ((x / 11 : Nat) : Int) := by rw [Int.tdiv_eq_ediv_of_nonneg (by omega)]; simp
        have d2 : ((x : Nat) : Int).tdiv 101 = ((x / 101 : Nat) : Int) := by rw [Int.tdiv_eq_ediv_of_nonneg (by omega)]; simp
        have d3 : ((x : Nat) : Int).tdiv 1009 = ((x / 1009 : Nat) : Int) := by rw [Int.tdiv_eq_ediv_of_nonneg (by omega)]; simp
        have c1 : IntKind.i64.wrap ((x : Int) / 11) = (x : Int) / 11 := IntWalk.i64_in _ (by omega)
        have c2 : IntKind.i64.wrap ((x : Int) / 101) = (x : Int) / 101 := IntWalk.i64_in _ (by omega)
        have c3 : IntKind.i64.wrap ((x : Int) / 1009) = (x : Int) / 1009 := IntWalk.i64_in _ (by omega)
        have e1 : ((x : Int) / 11).tmod (a.n : Int) = (x : Int) / 11 % (a.n : Int) := Int.tmod_eq_emod_of_nonneg (by omega)
        have e2 : ((x : Int) / 101).tmod (a.n : Int) = (x : Int) / 101 % (a.n : Int) := Int.tmod_eq_emod_of_nonneg (by omega)
        have e3 : ((x : Int) / 1009).tmod (a.n : Int) = (x : Int) / 1009 % (a.n : Int) := Int.tmod_eq_emod_of_nonneg (by omega)
        go_upto_region 6 with (fail)
        refine region_sched [(0, true), (1, true), (2, true), (3, true), (4, true), (5, true), (6, true), (7, true), (8, true), (9, true), (10, true), (11, true), (12, true), (13, true), (14, true), (15, true), (16, true), (17, true), (18, true), (19, false), (20, true)] (fun w' : World => w'.cell? ⟨w.heap.size, 0, none⟩ = some (.int .i64 (a.n : Int))) (by kernel_rfl) (by kernel_rfl) (by kernel_rfl) (by kernel_rfl) (fun _ _ _ _ h => h) ?_ (fun Q1 hQ1 => ?_)
        · exact x0
        try simp only [List.append]
        refine sched_take' (v := ?_) (a' := ?_) rfl (by kernel_rfl) ?_ rfl ?_ ?_
        rotate_left 2
        · intro w hSw
          (try dsimp only at hSw)
          go_simp
          try with_reducible rfl
        · (try simp only [Act.put, List.setIfInBounds_toArray, List.set_cons_zero, List.set_cons_succ])
          try rfl
        refine sched_take' (v := ?_) (a' := ?_) rfl (by kernel_rfl) ?_ rfl ?_ ?_
        rotate_left 2
        · intro w hSw
          (try dsimp only at hSw)
          go_simp
          try with_reducible rfl
        · (try simp only [Act.put, List.setIfInBounds_toArray, List.set_cons_zero, List.set_cons_succ])
          try rfl
        refine sched_take' (v := .int .i64 (a.n : Int)) (a' := ?_) rfl (by kernel_rfl) ?_ rfl ?_ ?_
        rotate_left 1
        · intro w hSw
          (try dsimp only at hSw)
          go_simp
          first | done | (simp [hSw]; done)
        · (try simp only [Act.put, List.setIfInBounds_toArray, List.set_cons_zero, List.set_cons_succ])
          try rfl
        refine sched_take' (v := .int .i64 (x % a.n : Nat)) (a' := ?_) rfl (by kernel_rfl) ?_ rfl ?_ ?_
        rotate_left 1
        · intro w hSw
          (try dsimp only at hSw)
          go_simp
          first | done | omega | exact r0 | (rw [r0]; done) | (rw [if_neg (by omega), e1]; done) | (rw [if_neg (by omega), e2]; done) | (rw [if_neg (by omega), e3]; done) | exact c1 | exact c2 | exact c3 | (trace_state; done)
        · (try simp only [Act.put, List.setIfInBounds_toArray, List.set_cons_zero, List.set_cons_succ])
          try rfl
        refine sched_take' (v := ?_) (a' := ?_) rfl (by kernel_rfl) ?_ rfl ?_ ?_
        rotate_left 2
        · intro w hSw
          (try dsimp only at hSw)
          go_simp
          try with_reducible rfl
        · (try simp only [Act.put, List.setIfInBounds_toArray, List.set_cons_zero, List.set_cons_succ])
          try rfl
        refine sched_take' (v := .int .i64 (x / 11 : Nat)) (a' := ?_) rfl (by kernel_rfl) ?_ rfl ?_ ?_
        rotate_left 1
        · intro w hSw
          (try dsimp only at hSw)
          go_simp
          first | done | omega | exact d1 | (rw [d1]; done) | (rw [if_neg (by omega), e1]; done) | (rw [if_neg (by omega), e2]; done) | (rw [if_neg (by omega), e3]; done) | exact c1 | exact c2 | exact c3 | (trace_state; done)
        · (try simp only [Act.put, List.setIfInBounds_toArray, List.set_cons_zero, List.set_cons_succ])
          try rfl
        refine sched_take' (v := ?_) (a' := ?_) rfl (by kernel_rfl) ?_ rfl ?_ ?_
        rotate_left 2
        · intro w hSw
          (try dsimp only at hSw)
          go_simp
          try with_reducible rfl
        · (try simp only [Act.put, List.setIfInBounds_toArray, List.set_cons_zero, List.set_cons_succ])
          try rfl
        refine sched_take' (v := .int .i64 (a.n : Int)) (a' := ?_) rfl (by kernel_rfl) ?_ rfl ?_ ?_
        rotate_left 1
        · intro w hSw
          (try dsimp only at hSw)
          go_simp
          first | done | (simp [hSw]; done)
        · (try simp only [Act.put, List.setIfInBounds_toArray, List.set_cons_zero, List.set_cons_succ])
          try rfl
        refine sched_take' (v := .int .i64 (x / 11 % a.n : Nat)) (a' := ?_) rfl (by kernel_rfl) ?_ rfl ?_ ?_
        rotate_left 1
        · intro w hSw
          (try dsimp only at hSw)
          go_simp
          first | done | omega | exact r1 | (rw [r1]; done) | (rw [if_neg (by omega), e1]; done) | (rw [if_neg (by omega), e2]; done) | (rw [if_neg (by omega), e3]; done) | exact c1 | exact c2 | exact c3 | (trace_state; done)
        · (try simp only [Act.put, List.setIfInBounds_toArray, List.set_cons_zero, List.set_cons_succ])
          try rfl
        refine sched_take' (v := ?_) (a' := ?_) rfl (by kernel_rfl) ?_ rfl ?_ ?_
        rotate_left 2
        · intro w hSw
          (try dsimp only at hSw)
          go_simp
          try with_reducible rfl
        · (try simp only [Act.put, List.setIfInBounds_toArray, List.set_cons_zero, List.set_cons_succ])
          try rfl
        refine sched_take' (v := .int .i64 (x / 101 : Nat)) (a' := ?_) rfl (by kernel_rfl) ?_ rfl ?_ ?_
        rotate_left 1
        · intro w hSw
          (try dsimp only at hSw)
          go_simp
          first | done | omega | exact d2 | (rw [d2]; done) | (rw [if_neg (by omega), e1]; done) | (rw [if_neg (by omega), e2]; done) | (rw [if_neg (by omega), e3]; done) | exact c1 | exact c2 | exact c3 | (trace_state; done)
        · (try simp only [Act.put, List.setIfInBounds_toArray, List.set_cons_zero, List.set_cons_succ])
          try rfl
        refine sched_take' (v := ?_) (a' := ?_) rfl (by kernel_rfl) ?_ rfl ?_ ?_
        rotate_left 2
        · intro w hSw
          (try dsimp only at hSw)
          go_simp
          try with_reducible rfl
        · (try simp only [Act.put, List.setIfInBounds_toArray, List.set_cons_zero, List.set_cons_succ])
          try rfl
        refine sched_take' (v := .int .i64 (a.n : Int)) (a' := ?_) rfl (by kernel_rfl) ?_ rfl ?_ ?_
        rotate_left 1
        · intro w hSw
          (try dsimp only at hSw)
          go_simp
          first | done | (simp [hSw]; done)
        · (try simp only [Act.put, List.setIfInBounds_toArray, List.set_cons_zero, List.set_cons_succ])
          try rfl
        refine sched_take' (v := .int .i64 (x / 101 % a.n : Nat)) (a' := ?_) rfl (by kernel_rfl) ?_ rfl ?_ ?_
        rotate_left 1
        · intro w hSw
          (try dsimp only at hSw)
          go_simp
          first | done | omega | exact r2 | (rw [r2]; done) | (rw [if_neg (by omega), e1]; done) | (rw [if_neg (by omega), e2]; done) | (rw [if_neg (by omega), e3]; done) | exact c1 | exact c2 | exact c3 | (trace_state; done)
        · (try simp only [Act.put, List.setIfInBounds_toArray, List.set_cons_zero, List.set_cons_succ])
          try rfl
        refine sched_take' (v := ?_) (a' := ?_) rfl (by kernel_rfl) ?_ rfl ?_ ?_
        rotate_left 2
        · intro w hSw
          (try dsimp only at hSw)
          go_simp
          try with_reducible rfl
        · (try simp only [Act.put, List.setIfInBounds_toArray, List.set_cons_zero, List.set_cons_succ])
          try rfl
        refine sched_take' (v := .int .i64 (x / 1009 : Nat)) (a' := ?_) rfl (by kernel_rfl) ?_ rfl ?_ ?_
        rotate_left 1
        · intro w hSw
          (try dsimp only at hSw)
          go_simp
          first | done | omega | exact d3 | (rw [d3]; done) | (rw [if_neg (by omega), e1]; done) | (rw [if_neg (by omega), e2]; done) | (rw [if_neg (by omega), e3]; done) | exact c1 | exact c2 | exact c3 | (trace_state; done)
        · (try simp only [Act.put, List.setIfInBounds_toArray, List.set_cons_zero, List.set_cons_succ])
          try rfl
        refine sched_take' (v := ?_) (a' := ?_) rfl (by kernel_rfl) ?_ rfl ?_ ?_
        rotate_left 2
        · intro w hSw
          (try dsimp only at hSw)
          go_simp
          try with_reducible rfl
        · (try simp only [Act.put, List.setIfInBounds_toArray, List.set_cons_zero, List.set_cons_succ])
          try rfl
        refine sched_take' (v := .int .i64 (a.n : Int)) (a' := ?_) rfl (by kernel_rfl) ?_ rfl ?_ ?_
        rotate_left 1
        · intro w hSw
          (try dsimp only at hSw)
          go_simp
          first | done | (simp [hSw]; done)
        · (try simp only [Act.put, List.setIfInBounds_toArray, List.set_cons_zero, List.set_cons_succ])
          try rfl
        refine sched_take' (v := .int .i64 (x / 1009 % a.n : Nat)) (a' := ?_) rfl (by kernel_rfl) ?_ rfl ?_ ?_
        rotate_left 1
        · intro w hSw
          (try dsimp only at hSw)
          go_simp
          first | done | omega | exact r3 | (rw [r3]; done) | (rw [if_neg (by omega), e1]; done) | (rw [if_neg (by omega), e2]; done) | (rw [if_neg (by omega), e3]; done) | exact c1 | exact c2 | exact c3 | (trace_state; done)
        · (try simp only [Act.put, List.setIfInBounds_toArray, List.set_cons_zero, List.set_cons_succ])
          try rfl
        refine sched_call rfl (by kernel_rfl) (fun K1 hK1 => ?_)
        go_simp
        refine hK1.out _ _ ?_ (sched_lay (a' := ?_) ?_ ?_)
        · exact y0
        rotate_left 1
        · (try simp only [Act.put, List.getElem_toArray, List.getElem_cons_succ, List.getElem_cons_zero, List.setIfInBounds_toArray, List.set_cons_zero, List.set_cons_succ])
          try rfl
        clear hK1 K1
        refine sched_take' (v := ?_) (a' := ?_) rfl (by kernel_rfl) ?_ rfl ?_ ?_
        rotate_left 2
        · intro w hSw
          (try dsimp only at hSw)
          go_simp
          try with_reducible rfl
        · (try simp only [Act.put, List.setIfInBounds_toArray, List.set_cons_zero, List.set_cons_succ])
          try rfl
        refine sched_done (hQ1.out _ _ ?_)
        go_wp2_with fail
        go_ret
        refine ⟨⟨w1.heap.size, x % a.n, x / 11 % a.n, x / 101 % a.n, x / 1009 % a.n, rfl, Nat.mod_lt _ hlo, Nat.mod_lt _ hlo, Nat.mod_lt _ hlo, Nat.mod_lt _ hlo, ?_, by have := HB.out.size; simpa using this⟩, B3.out⟩
        exact LRow_four w1.drew _ _ _ _
    · clear x0 x1 x2
      have B3 := Lib.hid (HB.out.drew.alloc (by have := HB.out.size; simpa using this) (.cells #[.int .i64 (x % a.n : Nat), .int .i64 (x / 11 % a.n : Nat), .int .i64 (x / 101 % a.n : Nat), .int .i64 (x / 1009 % a.n : Nat)] 3))
      have y0 := (X1.out.drew.alloc (.cells #[.int .i64 (x % a.n : Nat), .int .i64 (x / 11 % a.n : Nat), .int .i64 (x / 101 % a.n : Nat), .int .i64 (x / 1009 % a.n : Nat)] 3)).cell 0
      have x0 := X1.out.drew.cell 0
      have r0 : ((x : Nat) : Int).tmod (a.n : Int) = ((x % a.n : Nat) : Int) := by rw [Int.ofNat_tmod]
      have r1 : ((x / 11 : Nat) : Int).tmod (a.n : Int) = ((x / 11 % a.n : Nat) : Int) := by rw [Int.ofNat_tmod]
      have r2 : ((x / 101 : Nat) : Int).tmod (a.n : Int) = ((x / 101 % a.n : Nat) : Int) := by rw [Int.ofNat_tmod]
      have r3 : ((x / 1009 : Nat) : Int).tmod (a.n : Int) = ((x / 1009 % a.n : Nat) : Int) := by rw [Int.ofNat_tmod]
      have d1 : ((x : Nat) : Int).tdiv 11 = ((x / 11 : Nat) : Int) := by rw [Int.tdiv_eq_ediv_of_nonneg (by omega)]; simp
      have d2 : ((x : Nat) : Int).tdiv 101 = ((x / 101 : Nat) : Int) := by rw [Int.tdiv_eq_ediv_of_nonneg (by omega)]; simp
      have d3 : ((x : Nat) : Int).tdiv 1009 = ((x / 1009 : Nat) : Int) := by rw [Int.tdiv_eq_ediv_of_nonneg (by omega)]; simp
      have c1 : IntKind.i64.wrap ((x : Int) / 11) = (x : Int) / 11 := IntWalk.i64_in _ (by omega)
      have c2 : IntKind.i64.wrap ((x : Int) / 101) = (x : Int) / 101 := IntWalk.i64_in _ (by omega)
      have c3 : IntKind.i64.wrap ((x : Int) / 1009) = (x : Int) / 1009 := IntWalk.i64_in _ (by omega)
      have e1 : ((x : Int) / 11).tmod (a.n : Int) = (x : Int) / 11 % (a.n : Int) := Int.tmod_eq_emod_of_nonneg (by omega)
      have e2 : ((x : Int) / 101).tmod (a.n : Int) = (x : Int) / 101 % (a.n : Int) := Int.tmod_eq_emod_of_nonneg (by omega)
      have e3 : ((x : Int) / 1009).tmod (a.n : Int) = (x : Int) / 1009 % (a.n : Int) := Int.tmod_eq_emod_of_nonneg (by omega)
      go_upto_region 6 with (fail)
      refine region_sched [(0, true), (1, true), (2, true), (3, true), (4, true), (5, true), (6, true), (7, true), (8, true), (9, true), (10, true), (11, true), (12, true), (13, true), (14, true), (15, true), (16, true), (17, true), (18, true), (19, false), (20, true)] (fun w' : World => w'.cell? ⟨w.heap.size, 0, none⟩ = some (.int .i64 (a.n : Int))) (by kernel_rfl) (by kernel_rfl) (by kernel_rfl) (by kernel_rfl) (fun _ _ _ _ h => h) ?_ (fun Q1 hQ1 => ?_)
      · exact x0
      try simp only [List.append]
      refine sched_take' (v := ?_) (a' := ?_) rfl (by kernel_rfl) ?_ rfl ?_ ?_
      rotate_left 2
      · intro w hSw
        (try dsimp only at hSw)
        go_simp
        try with_reducible rfl
      · (try simp only [Act.put, List.setIfInBounds_toArray, List.set_cons_zero, List.set_cons_succ])
        try rfl
      refine sched_take' (v := ?_) (a' := ?_) rfl (by kernel_rfl) ?_ rfl ?_ ?_
      rotate_left 2
      · intro w hSw
        (try dsimp only at hSw)
        go_simp
        try with_reducible rfl
      · (try simp only [Act.put, List.setIfInBounds_toArray, List.set_cons_zero, List.set_cons_succ])
        try rfl
      refine sched_take' (v := .int .i64 (a.n : Int)) (a' := ?_) rfl (by kernel_rfl) ?_ rfl ?_ ?_
      rotate_left 1
      · intro w hSw
        (try dsimp only at hSw)
        go_simp
        first | done | (simp [hSw]; done)
      · (try simp only [Act.put, List.setIfInBounds_toArray, List.set_cons_zero, List.set_cons_succ])
        try rfl
      refine sched_take' (v := .int .i64 (x % a.n : Nat)) (a' := ?_) rfl (by kernel_rfl) ?_ rfl ?_ ?_
      rotate_left 1
      · intro w hSw
        (try dsimp only at hSw)
        go_simp
        first | done | omega | exact r0 | (rw [r0]; done) | (rw [if_neg (by omega), e1]; done) | (rw [if_neg (by omega), e2]; done) | (rw [if_neg (by omega), e3]; done) | exact c1 | exact c2 | exact c3 | (trace_state; done)
      · (try simp only [Act.put, List.setIfInBounds_toArray, List.set_cons_zero, List.set_cons_succ])
        try rfl
      refine sched_take' (v := ?_) (a' := ?_) rfl (by kernel_rfl) ?_ rfl ?_ ?_
      rotate_left 2
      · intro w hSw
        (try dsimp only at hSw)
        go_simp
        try with_reducible rfl
      · (try simp only [Act.put, List.setIfInBounds_toArray, List.set_cons_zero, List.set_cons_succ])
        try rfl
      refine sched_take' (v := .int .i64 (x / 11 : Nat)) (a' := ?_) rfl (by kernel_rfl) ?_ rfl ?_ ?_
      rotate_left 1
      · intro w hSw
        (try dsimp only at hSw)
        go_simp
        first | done | omega | exact d1 | (rw [d1]; done) | (rw [if_neg (by omega), e1]; done) | (rw [if_neg (by omega), e2]; done) | (rw [if_neg (by omega), e3]; done) | exact c1 | exact c2 | exact c3 | (trace_state; done)
      · (try simp only [Act.put, List.setIfInBounds_toArray, List.set_cons_zero, List.set_cons_succ])
        try rfl
      refine sched_take' (v := ?_) (a' := ?_) rfl (by kernel_rfl) ?_ rfl ?_ ?_
      rotate_left 2
      · intro w hSw
        (try dsimp only at hSw)
        go_simp
        try with_reducible rfl
      · (try simp only [Act.put, List.setIfInBounds_toArray, List.set_cons_zero, List.set_cons_succ])
        try rfl
      refine sched_take' (v := .int .i64 (a.n : Int)) (a' := ?_) rfl (by kernel_rfl) ?_ rfl ?_ ?_
      rotate_left 1
      · intro w hSw
        (try dsimp only at hSw)
        go_simp
        first | done | (simp [hSw]; done)
      · (try simp only [Act.put, List.setIfInBounds_toArray, List.set_cons_zero, List.set_cons_succ])
        try rfl
      refine sched_take' (v := .int .i64 (x / 11 % a.n : Nat)) (a' := ?_) rfl (by kernel_rfl) ?_ rfl ?_ ?_
      rotate_left 1
      · intro w hSw
        (try dsimp only at hSw)
        go_simp
        first | done | omega | exact r1 | (rw [r1]; done) | (rw [if_neg (by omega), e1]; done) | (rw [if_neg (by omega), e2]; done) | (rw [if_neg (by omega), e3]; done) | exact c1 | exact c2 | exact c3 | (trace_state; done)
      · (try simp only [Act.put, List.setIfInBounds_toArray, List.set_cons_zero, List.set_cons_succ])
        try rfl
      refine sched_take' (v := ?_) (a' := ?_) rfl (by kernel_rfl) ?_ rfl ?_ ?_
      rotate_left 2
      · intro w hSw
        (try dsimp only at hSw)
        go_simp
        try with_reducible rfl
      · (try simp only [Act.put, List.setIfInBounds_toArray, List.set_cons_zero, List.set_cons_succ])
        try rfl
      refine sched_take' (v := .int .i64 (x / 101 : Nat)) (a' := ?_) rfl (by kernel_rfl) ?_ rfl ?_ ?_
      rotate_left 1
      · intro w hSw
        (try dsimp only at hSw)
        go_simp
        first | done | omega | exact d2 | (rw [d2]; done) | (rw [if_neg (by omega), e1]; done) | (rw [if_neg (by omega), e2]; done) | (rw [if_neg (by omega), e3]; done) | exact c1 | exact c2 | exact c3 | (trace_state; done)
      · (try simp only [Act.put, List.setIfInBounds_toArray, List.set_cons_zero, List.set_cons_succ])
        try rfl
      refine sched_take' (v := ?_) (a' := ?_) rfl (by kernel_rfl) ?_ rfl ?_ ?_
      rotate_left 2
      · intro w hSw
        (try dsimp only at hSw)
        go_simp
        try with_reducible rfl
      · (try simp only [Act.put, List.setIfInBounds_toArray, List.set_cons_zero, List.set_cons_succ])
        try rfl
      refine sched_take' (v := .int .i64 (a.n : Int)) (a' := ?_) rfl (by kernel_rfl) ?_ rfl ?_ ?_
      rotate_left 1
      · intro w hSw
        (try dsimp only at hSw)
        go_simp
        first | done | (simp [hSw]; done)
      · (try simp only [Act.put, List.setIfInBounds_toArray, List.set_cons_zero, List.set_cons_succ])
        try rfl
      refine sched_take' (v := .int .i64 (x / 101 % a.n : Nat)) (a' := ?_) rfl (by kernel_rfl) ?_ rfl ?_ ?_
      rotate_left 1
      · intro w hSw
        (try dsimp only at hSw)
        go_simp
        first | done | omega | exact r2 | (rw [r2]; done) | (rw [if_neg (by omega), e1]; done) | (rw [if_neg (by omega), e2]; done) | (rw [if_neg (by omega), e3]; done) | exact c1 | exact c2 | exact c3 | (trace_state; done)
      · (try simp only [Act.put, List.setIfInBounds_toArray, List.set_cons_zero, List.set_cons_succ])
        try rfl
      refine sched_take' (v := ?_) (a' := ?_) rfl (by kernel_rfl) ?_ rfl ?_ ?_
      rotate_left 2
      · intro w hSw
        (try dsimp only at hSw)
        go_simp
        try with_reducible rfl
      · (try simp only [Act.put, List.setIfInBounds_toArray, List.set_cons_zero, List.set_cons_succ])
        try rfl
      refine sched_take' (v := .int .i64 (x / 1009 : Nat)) (a' := ?_) rfl (by kernel_rfl) ?_ rfl ?_ ?_
      rotate_left 1
      · intro w hSw
        (try dsimp only at hSw)
        go_simp
        first | done | omega | exact d3 | (rw [d3]; done) | (rw [if_neg (by omega), e1]; done) | (rw [if_neg (by omega), e2]; done) | (rw [if_neg (by omega), e3]; done) | exact c1 | exact c2 | exact c3 | (trace_state; done)
      · (try simp only [Act.put, List.setIfInBounds_toArray, List.set_cons_zero, List.set_cons_succ])
        try rfl
      refine sched_take' (v := ?_) (a' := ?_) rfl (by kernel_rfl) ?_ rfl ?_ ?_
      rotate_left 2
      · intro w hSw
        (try dsimp only at hSw)
        go_simp
        try with_reducible rfl
      · (try simp only [Act.put, List.setIfInBounds_toArray, List.set_cons_zero, List.set_cons_succ])
        try rfl
      refine sched_take' (v := .int .i64 (a.n : Int)) (a' := ?_) rfl (by kernel_rfl) ?_ rfl ?_ ?_
      rotate_left 1
      · intro w hSw
        (try dsimp only at hSw)
        go_simp
        first | done | (simp [hSw]; done)
      · (try simp only [Act.put, List.setIfInBounds_toArray, List.set_cons_zero, List.set_cons_succ])
        try rfl
      refine sched_take' (v := .int .i64 (x / 1009 % a.n : Nat)) (a' := ?_) rfl (by kernel_rfl) ?_ rfl ?_ ?_
      rotate_left 1
      · intro w hSw
        (try dsimp only at hSw)
        go_simp
        first | done | omega | exact r3 | (rw [r3]; done) | (rw [if_neg (by omega), e1]; done) | (rw [if_neg (by omega), e2]; done) | (rw [if_neg (by omega), e3]; done) | exact c1 | exact c2 | exact c3 | (trace_state; done)
      · (try simp only [Act.put, List.setIfInBounds_toArray, List.set_cons_zero, List.set_cons_succ])
        try rfl
      refine sched_call rfl (by kernel_rfl) (fun K1 hK1 => ?_)
      go_simp
      refine hK1.out _ _ ?_ (sched_lay (a' := ?_) ?_ ?_)
      · exact y0
      rotate_left 1
      · (try simp only [Act.put, List.getElem_toArray, List.getElem_cons_succ, List.getElem_cons_zero, List.setIfInBounds_toArray, List.set_cons_zero, List.set_cons_succ])
        try rfl
      clear hK1 K1
      refine sched_take' (v := ?_) (a' := ?_) rfl (by kernel_rfl) ?_ rfl ?_ ?_
      rotate_left 2
      · intro w hSw
        (try dsimp only at hSw)
        go_simp
        try with_reducible rfl
      · (try simp only [Act.put, List.setIfInBounds_toArray, List.set_cons_zero, List.set_cons_succ])
        try rfl
      refine sched_done (hQ1.out _ _ ?_)
      go_wp2_with fail
      go_ret
      refine ⟨⟨w1.heap.size, x % a.n, x / 11 % a.n, x / 101 % a.n, x / 1009 % a.n, rfl, Nat.mod_lt _ hlo, Nat.mod_lt _ hlo, Nat.mod_lt _ hlo, Nat.mod_lt _ hlo, ?_, by have := HB.out.size; simpa using this⟩, B3.out⟩
      exact LRow_four w1.drew _ _ _ _

end Go.Proofs.YtjdnjhoddlalaaaDoor

namespace Go.Proofs.YtjdnjhoddlalaaaDoor
open Go.RowKit
open Pl
set_option linter.unusedSimpArgs false
set_option linter.unusedVariables false

/-- how many lists of k elements make g true -/
noncomputable def cntL (a : St) (g : Fm) (k : Nat) : Nat := ((listsK a.n k).filter fun l => g.holds a (envL l)).length
theorem cpt_fm {a : St} (ha : a.ok) {g : Fm} (hg : g.text.length ≤ 4000) {k : Nat} (hk : k ≤ 3) (hf : g.freeBits / 2 ^ k = 0) : cptV a.n (bs a.set) (bs a.rel) (bs g.text) (k : Nat) = (cntL a g k : Nat) := by
  have h : ptB a.n (bs a.set) (bs a.rel) (bs g.text) (k : Nat) = true := by
    rw [pt_nat _ _ _ _ hk, rdy_of (fm_bs hg) (bs_list _) ha, decide_eq_true hf]
  unfold cptV
  rw [h, ptL_yes (bs_list _) h]
  rfl
theorem cpt_cases (i : Int) (s r f : ByteArray) (x : Int) : cptV i s r f x = -1 ∨
    ∃ (a : St) (g : Fm) (k : Nat), a.ok ∧ i = a.n ∧ s = bs a.set ∧ r = bs a.rel ∧ f = bs g.text ∧ g.text.length ≤ 4000 ∧ x = (k : Nat) ∧ k ≤ 3 ∧ g.freeBits / 2 ^ k = 0 ∧ cptV i s r f x = (cntL a g k : Nat) := by
  cases h : ptB i s r f x with
  | false => left; unfold cptV; rw [h]; rfl
  | true =>
    right
    obtain ⟨k, rfl, hk, hr⟩ := pt_cases h
    unfold rdyB at hr
    simp only [Bool.and_eq_true, decide_eq_true_eq] at hr
    obtain ⟨h1, h2, h3⟩ := hr
    rcases ok_cases i s r with hq | ⟨a, ha, rfl, rfl, rfl⟩
    · rw [h1] at hq; cases hq
    rcases fm_cases f with ⟨hq, _⟩ | ⟨g, hb, hf, hs4, hl4⟩
    · rw [h2] at hq; cases hq
    rw [fmOf_eq hf] at h3
    obtain rfl := eq_bs hf
    exact ⟨a, g, k, ha, rfl, rfl, rfl, rfl, hl4, rfl, hk, h3, cpt_fm ha hl4 hk h3⟩
theorem filter_not {α : Type} (p : α → Bool) : ∀ l : List α, (l.filter p).length + (l.filter fun x => !p x).length = l.length := by
  intro l
  induction l with
  | nil => rfl
  | cons x l ih => cases h : p x <;> simp [h] <;> omega
theorem cnt_neg {a : St} (ha : a.ok) (g : Fm) (k : Nat) : cntL a g k + cntL a (.neg g) k = a.n ^ k := by
  have h := filter_not (fun l => g.holds a (envL l)) (listsK a.n k)
  rw [listsK_len (by have := ha.lo; omega)] at h
  exact h
theorem cntL_le {a : St} (ha : a.ok) (g : Fm) (k : Nat) : cntL a g k ≤ a.n ^ k := by have := cnt_neg ha g k; omega
theorem free_lt {g : Fm} {k : Nat} (hf : g.freeBits / 2 ^ k = 0) {v : Fin 4} (hv : g.isFree v) : v.val < k := by
  apply Classical.byContradiction
  intro hge
  have h1 : g.freeBits < 2 ^ k := by
    have h2 : 0 < 2 ^ k := Nat.two_pow_pos _
    have := Nat.div_add_mod g.freeBits (2 ^ k)
    rw [hf] at this
    have := Nat.mod_lt g.freeBits h2
    omega
  have h3 : g.freeBits < 2 ^ v.val := Nat.lt_of_lt_of_le h1 (Nat.pow_le_pow_right (by decide) (by omega))
  unfold Fm.isFree at hv
  rw [Nat.testBit_lt_two_pow h3] at hv
  cases hv
theorem cnt_flat {a : St} {g : Fm} {k : Nat} (hf : g.freeBits / 2 ^ k = 0) : ∀ Ls : List (List Nat), (∀ l ∈ Ls, l.length = k) → ((Ls.flatMap (extL a.n)).filter fun l => g.holds a (envL l)).length = (Ls.filter fun l => g.holds a (envL l)).length * a.n := by
  intro Ls
  induction Ls with
  | nil => intro _; simp
  | cons l Ls ih =>
    intro hl
    have hll := hl l (by simp)
    have he : ∀ x, g.holds a (envL (l ++ [x])) = g.holds a (envL l) := fun x => holds_free a g _ _ fun v hv => by
      have := free_lt hf hv
      unfold envL
      rw [List.getD_eq_getElem?_getD, List.getD_eq_getElem?_getD, List.getElem?_append_left (by omega)]
    have h1 : ((extL a.n l).filter fun l => g.holds a (envL l)).length = if g.holds a (envL l) then a.n else 0 := by
      unfold extL
      rw [List.filter_map, List.length_map]
      cases hb : g.holds a (envL l) with
      | false => rw [List.filter_eq_nil_iff.2 (fun x _ => by simp [he, hb])]; rfl
      | true => rw [List.filter_eq_self.2 (fun x _ => by simp [he, hb])]; simp
    rw [List.flatMap_cons, List.filter_append, List.length_append, ih fun m hm => hl m (by simp [hm]), h1]
    cases hb : g.holds a (envL l) with
    | false => simp [hb]
    | true => simp [hb, Nat.succ_mul]; omega
theorem cnt_more {a : St} (ha : a.ok) {g : Fm} {k : Nat} (hf : g.freeBits / 2 ^ k = 0) : cntL a g (k + 1) = cntL a g k * a.n := by
  have h := cnt_flat (a := a) hf (listsK a.n k) (fun l hl => (listsK_mem (by have := ha.lo; omega) hl).1)
  exact h
theorem cpt_big (i : Int) (s r f : ByteArray) {x : Int} (h : 3 < x) : cptV i s r f x = -1 := by
  unfold cptV
  rw [pt_big (by omega)]
  rfl

end Go.Proofs.YtjdnjhoddlalaaaDoor

namespace Go.Proofs.YtjdnjhoddlalaaaDoor
open Go.RowKit
open Pl
set_option linter.unusedSimpArgs false
set_option linter.unusedVariables false

/-- a list comes before another one of its length -/
def lexB : List Nat → List Nat → Bool
  | x :: q, y :: p => decide (x < y) || (x == y && lexB q p)
  | _, _ => false
theorem lex_irr : ∀ l, lexB l l = false := by
  intro l
  induction l with
  | nil => rfl
  | cons x l ih => simp [lexB, ih]
theorem lex_asymm : ∀ {q p}, lexB q p = true → lexB p q = false := by
  intro q
  induction q with
  | nil => intro p h; simp [lexB] at h
  | cons x q ih =>
    intro p h
    cases p with
    | nil => rfl
    | cons y p =>
      simp only [lexB, Bool.or_eq_true, Bool.and_eq_true, decide_eq_true_eq, beq_iff_eq] at h
      simp only [lexB, Bool.or_eq_false_iff, Bool.and_eq_false_iff, decide_eq_false_iff_not, beq_eq_false_iff_ne]
      rcases h with h | ⟨rfl, h⟩
      · exact ⟨by omega, .inl (by omega)⟩
      · exact ⟨by omega, .inr (ih h)⟩
theorem lex_ext : ∀ (l : List Nat) {x y : Nat}, x < y → lexB (l ++ [x]) (l ++ [y]) = true := by
  intro l
  induction l with
  | nil => intro x y h; simp [lexB, h]
  | cons z l ih => intro x y h; simp [lexB, ih h]
theorem lex_app : ∀ {l m : List Nat}, lexB l m = true → l.length = m.length → ∀ x y, lexB (l ++ [x]) (m ++ [y]) = true := by
  intro l
  induction l with
  | nil => intro m h; simp [lexB] at h
  | cons z l ih =>
    intro m h hl x y
    cases m with
    | nil => simp at hl
    | cons u m =>
      simp only [lexB, Bool.or_eq_true, Bool.and_eq_true, decide_eq_true_eq, beq_iff_eq] at h
      simp only [List.cons_append, lexB, Bool.or_eq_true, Bool.and_eq_true, decide_eq_true_eq, beq_iff_eq]
      rcases h with h | ⟨h1, h2⟩
      · exact .inl h
      · exact .inr ⟨h1, ih h2 (by simpa using hl) x y⟩
theorem lists_lex {n : Nat} (hn : 0 < n) : ∀ k, (listsK n k).Pairwise fun a b => lexB a b = true := by
  intro k
  induction k with
  | zero => simp [listsK]
  | succ k ih =>
    show ((listsK n k).flatMap (extL n)).Pairwise _
    rw [List.pairwise_flatMap]
    refine ⟨fun l _ => ?_, ?_⟩
    · unfold extL
      rw [List.pairwise_map]
      exact List.pairwise_lt_range.imp fun h => lex_ext l h
    · refine List.Pairwise.imp_of_mem (fun {a b} ha hb h => ?_) ih
      intro x hx y hy
      unfold extL at hx hy
      obtain ⟨u, _, rfl⟩ := List.mem_map.1 hx
      obtain ⟨v, _, rfl⟩ := List.mem_map.1 hy
      exact lex_app h (by rw [(listsK_mem hn ha).1, (listsK_mem hn hb).1]) u v
theorem lists_all {n : Nat} : ∀ (k : Nat) (l : List Nat), l.length = k → (∀ x ∈ l, x < n) → l ∈ listsK n k := by
  intro k
  induction k with
  | zero => intro l hl _; rw [List.length_eq_zero_iff] at hl; subst hl; simp [listsK]
  | succ k ih =>
    intro l hl hx
    have hne : l ≠ [] := by intro h; subst h; simp at hl
    rw [← List.dropLast_concat_getLast hne]
    show _ ∈ (listsK n k).flatMap (extL n)
    refine List.mem_flatMap.2 ⟨l.dropLast, ih _ (by simp [hl]) (fun x hx2 => hx x (List.dropLast_subset l hx2)), ?_⟩
    unfold extL
    exact List.mem_map.2 ⟨_, List.mem_range.2 (hx _ (List.getLast_mem hne)), rfl⟩
/-- what comes before the first one is not true -/
theorem first_lex {n : Nat} (hn : 0 < n) {k : Nat} {P : List Nat → Bool} {p : List Nat} {R : List (List Nat)} (h : (listsK n k).filter P = p :: R) {q : List Nat} (hq : q ∈ listsK n k) (hl : lexB q p = true) : P q = false := by
  cases hP : P q with
  | false => rfl
  | true =>
    exfalso
    have hm : q ∈ (listsK n k).filter P := List.mem_filter.2 ⟨hq, hP⟩
    have hp := (lists_lex hn k).filter P
    rw [h] at hm hp
    rcases List.mem_cons.1 hm with rfl | hm
    · rw [lex_irr] at hl; cases hl
    · have := (List.pairwise_cons.1 hp).1 q hm
      rw [lex_asymm this] at hl
      cases hl
theorem lex_drop {q p : List Nat} {i : Nat} (hq : i < q.length) (hp : i < p.length) : lexB (q.drop i) (p.drop i) = (decide (q.getD i 0 < p.getD i 0) || (q.getD i 0 == p.getD i 0 && lexB (q.drop (i + 1)) (p.drop (i + 1)))) := by
  rw [List.drop_eq_getElem_cons hq, List.drop_eq_getElem_cons hp]
  simp only [lexB, List.getD_eq_getElem?_getD, List.getElem?_eq_getElem hq, List.getElem?_eq_getElem hp, Option.getD_some]
/-- FirstPoint: no, or a formula with its lists -/
theorem fst_fm {a : St} (ha : a.ok) {g : Fm} (hg : g.text.length ≤ 4000) {k : Nat} (hk : k ≤ 3) (hf : g.freeBits / 2 ^ k = 0) :
    (fstB a.n (bs a.set) (bs a.rel) (bs g.text) (k : Nat) = false ∧ fstV a.n (bs a.set) (bs a.rel) (bs g.text) (k : Nat) = [] ∧ cntL a g k = 0) ∨
    ∃ p R, (listsK a.n k).filter (fun l => g.holds a (envL l)) = p :: R ∧ fstB a.n (bs a.set) (bs a.rel) (bs g.text) (k : Nat) = true ∧ fstV a.n (bs a.set) (bs a.rel) (bs g.text) (k : Nat) = p ∧ 0 < cntL a g k ∧ p.length = k ∧ (∀ x ∈ p, x < a.n) ∧ g.holds a (envL p) = true := by
  have h : ptB a.n (bs a.set) (bs a.rel) (bs g.text) (k : Nat) = true := by
    rw [pt_nat _ _ _ _ hk, rdy_of (fm_bs hg) (bs_list _) ha, decide_eq_true hf]
  have hL := ptL_yes (bs_list g.text) h
  unfold fstB fstV cntL
  rw [hL, h]
  cases hc : (listsK a.n k).filter (fun l => g.holds a (envL l)) with
  | nil => left; simp
  | cons p R =>
    right
    have hm : p ∈ (listsK a.n k).filter (fun l => g.holds a (envL l)) := by rw [hc]; simp
    obtain ⟨h1, h2⟩ := List.mem_filter.1 hm
    obtain ⟨h3, h4⟩ := listsK_mem (by have := ha.lo; omega) h1
    exact ⟨p, R, rfl, by simp, by simp, by simp, h3, h4, h2⟩
theorem fst_none {i : Int} {s r f : ByteArray} {x : Int} (h : cptV i s r f x = -1) : fstB i s r f x = false ∧ fstV i s r f x = [] := by
  cases hp : ptB i s r f x with
  | false =>
    unfold fstB fstV
    rw [hp, ptL_no hp]
    exact ⟨rfl, rfl⟩
  | true =>
    unfold cptV at h
    rw [hp] at h
    simp at h

end Go.Proofs.YtjdnjhoddlalaaaDoor

namespace Go.Proofs.YtjdnjhoddlalaaaDoor
open Go.RowKit
open Pl
set_option linter.unusedSimpArgs false
set_option linter.unusedVariables false

theorem vars_at (m : Nat) : ∀ n, n ≤ 4 → ∀ k, k < (varsL m n).length → ∃ v : Fin 4, (varsL m n).getD k 0 = vb v := by
  intro n
  induction n with
  | zero => intro _ k hk; simp [varsL] at hk
  | succ n ih =>
    intro hn k hk
    cases h : m.testBit n with
    | false => rw [varsL_no h] at hk ⊢; exact ih (by omega) k hk
    | true =>
      rw [varsL_yes h] at hk ⊢
      by_cases hlt : k < (varsL m n).length
      · obtain ⟨v, hv⟩ := ih (by omega) k hlt
        refine ⟨v, ?_⟩
        rw [← hv, List.getD_eq_getElem?_getD, List.getD_eq_getElem?_getD, List.getElem?_append_left hlt]
      · have : k = (varsL m n).length := by simp at hk; omega
        refine ⟨⟨n, by omega⟩, ?_⟩
        rw [this, List.getD_eq_getElem?_getD]
        simp [vb]
theorem vars_mem (m : Nat) {n k : Nat} (hk : k < n) (h : m.testBit k = true) : UInt8.ofNat (97 + k) ∈ varsL m n := by
  unfold varsL
  exact List.mem_map.2 ⟨k, List.mem_filter.2 ⟨List.mem_range.2 hk, h⟩, rfl⟩
/-- an element that is not free may be changed -/
theorem holds_set {a : St} {g : Fm} {ns : List Nat} {k x : Nat} (hk : k < 4) (h : g.freeBits.testBit k = false) : g.holds a (envL (ns.set k x)) = g.holds a (envL ns) := by
  apply holds_free
  intro v hv
  have hne : v.val ≠ k := by
    intro e
    unfold Fm.isFree at hv
    rw [e, h] at hv
    cases hv
  unfold envL
  rw [List.getD_eq_getElem?_getD, List.getD_eq_getElem?_getD, List.getElem?_set_ne (Ne.symm hne)]
theorem holds_some {a : St} {q : Fm} {e : Env} {v : Fin 4} (hv : e v < a.n) (h : q.holds a e = true) : (Fm.qu .S v q).holds a e = true := by
  show decide (0 < cnt a.n (fun x => q.holds a (upd e v x))) = true
  rw [decide_eq_true_eq]
  have he : upd e v (e v) = e := by
    funext u
    by_cases hu : u = v
    · subst hu; rw [upd_same]
    · rw [upd_other hu]
  have h1 := cnt_split a.n (e v + 1) (fun x => q.holds a (upd e v x)) (by omega)
  have h2 := cnt_succ (e v) (fun x => q.holds a (upd e v x))
  simp only [he, h, if_true] at h2
  omega
/-- HoldsIn of a formula: no, or no free variables -/
theorem in_cases {a : St} (ha : a.ok) {q : Fm} (hq : q.text.length ≤ 4000) (e : Env) : holdB a.n (bs a.set) (bs a.rel) (bs q.text) [] = false ∨ (holdB a.n (bs a.set) (bs a.rel) (bs q.text) [] = true ∧ holdV a.n (bs a.set) (bs a.rel) (bs q.text) [] = q.holds a e) := by
  by_cases h0 : q.freeBits = 0
  · right
    have := hold_fm ha hq (ns := []) (by simp) (by simp) (by rw [h0]; rfl)
    refine ⟨this.1, this.2.trans (holds_free a q _ _ fun v hv => ?_)⟩
    unfold Fm.isFree at hv
    rw [h0] at hv
    simp at hv
  · left
    cases h : holdB a.n (bs a.set) (bs a.rel) (bs q.text) [] with
    | false => rfl
    | true =>
      exfalso
      unfold holdB at h
      simp only [Bool.and_eq_true] at h
      have h1 := h.1
      rw [show (([] : List Int).length) = 0 from rfl, rdy_of (fm_bs hq) (bs_list _) ha] at h1
      simp at h1
      exact h0 h1
/-- gsHolds of a formula with elements for all that is free -/
theorem gs_any (a : St) (ha : a.ok) (g : Fm) (hg : g.text.length ≤ 4000) (f : ByteArray) (hf : f = bs g.text) (ns : List Nat) (hn : ∀ x ∈ ns, x < a.n) (hl : ns.length ≤ 4) (hfr : g.freeBits / 2 ^ ns.length = 0) (A : Option Addr) (cap : Nat) (hcap : ns.length ≤ cap) (b : Bool) (hb : g.holds a (envL ns) = b) (w : World) (hA : LRow w A (natsI ns)) :
    Calls Tryd.prog 12 #[stV a.n (bs a.set) (bs a.rel), .string f, .slice A ns.length cap] w fun e w' => e = .returned (.bool b) ∧ Below w.heap.size w w' := by
  subst hf
  have h := gsHolds_calls a.n (bs a.set) (bs a.rel) (bs g.text) A (natsI ns) cap w (st_len ha).1 (st_len ha).2 (by rw [natsI_len]; omega) (by rw [natsI_len]; exact hcap) hA
  rw [(hold_fm ha hg hn hl hfr).2, natsI_len, hb] at h
  exact h
theorem ext_one {l : List UInt8} {k : Nat} (h : k < l.length) : (bs l).extract k (k + 1) = bs [l.getD k 0] := by
  apply eq_bs
  rw [Lib.extract_data, bs_list]
  rw [List.getD_eq_getElem?_getD, List.getElem?_eq_getElem h]
  rw [show k + 1 = k + 1 from rfl]
  apply List.ext_getElem
  · simp; omega
  · intro i h1 h2
    simp at h2
    subst h2
    simp
theorem cmp_at {l : List UInt8} {k m : Nat} (hk : k < 4) (hm : m < (bs l).size) (hk2 : k < (ByteArray.mk #[97, 98, 99, 100]).size) (h : ((((bs l)[m]'hm).toNat : Int) == (((ByteArray.mk #[97, 98, 99, 100])[k]'hk2).toNat : Int)) = false) : l.getD m 0 ≠ UInt8.ofNat (97 + k) := by
  intro e
  have hm2 : m < l.length := by rw [bs_size] at hm; exact hm
  have e1 : (bs l)[m]'hm = l.getD m 0 := by
    rw [List.getD_eq_getElem?_getD, List.getElem?_eq_getElem hm2]
    rfl
  have e2 : (ByteArray.mk #[97, 98, 99, 100])[k]'hk2 = UInt8.ofNat (97 + k) := by
    match k, hk with
    | 0, _ => rfl
    | 1, _ => rfl
    | 2, _ => rfl
    | 3, _ => rfl
  rw [e1, e2, e] at h
  simp at h
theorem LRow.set {W : World} {g : Nat} {ns : List Nat} {k x : Nat} (h : LRow W (some ⟨g, 0, none⟩) (natsI ns)) (hk : k < ns.length) : LRow (W.setCell ⟨g, k, none⟩ (.int .i64 (x : Nat))) (some ⟨g, 0, none⟩) (natsI (ns.set k x)) := by
  intro hl
  obtain ⟨g', hg, hc⟩ := h (by rw [natsI_len]; omega)
  injection hg with hg
  injection hg with hg _ _
  subst hg
  refine ⟨g, rfl, fun i hi => ?_⟩
  rw [natsI_len, List.length_set] at hi
  have h2 := hc i (by rw [natsI_len]; exact hi)
  by_cases e : i = k
  · subst e
    rw [World.cell?_setCell_same _ _ _ h2]
    simp [natsI, List.getD, hi]
  · rw [World.cell?_setCell_other _ _ _ _ (by intro e2; injection e2 with _ e2 _; exact e e2.symm), h2]
    simp [natsI, List.getD, List.getElem?_set_ne (Ne.symm e)]
theorem LRow.far {W : World} {g : Nat} {A : Option Addr} {zs : List Int} (h : LRow W A zs) (hA : ∀ b, A = some ⟨b, 0, none⟩ → b ≠ g) (k : Nat) (u : Value) : LRow (W.setCell ⟨g, k, none⟩ u) A zs := by
  intro hl
  obtain ⟨b, hb, hc⟩ := h hl
  refine ⟨b, hb, fun i hi => ?_⟩
  rw [World.cell?_setCell_other _ _ _ _ (by intro e2; injection e2 with e2 _ _; exact hA b hb e2.symm)]
  exact hc i hi

end Go.Proofs.YtjdnjhoddlalaaaDoor
