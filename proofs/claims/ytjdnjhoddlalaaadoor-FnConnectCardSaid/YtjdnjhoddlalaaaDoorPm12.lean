/-
  Laws of the functions that the claim reaches, one after the other (packed by a program of the prover's: WFirstLaw, DrawH, RegC). Conditions: texts below the reach.
-/
import Derived.Test.YtjdnjhoddlalaaaDoorPm5
import Derived.Test.YtjdnjhoddlalaaaDoorPm8
import Derived.Test.YtjdnjhoddlalaaaDoorPm11
import Derived.Test.YtjdnjhoddlalaaaDoorPm2
import Derived.Test.YtjdnjhoddlalaaaDoorPm4
import Derived.Test.YtjdnjhoddlalaaaDoorPm0
set_option linter.unusedSimpArgs false
set_option linter.unusedVariables false

namespace Go.Proofs.YtjdnjhoddlalaaaDoor
open Go.RowKit
open Pl
set_option linter.unusedSimpArgs false
set_option linter.unusedVariables false

attribute [local go_sem ↓] Go.wp_at_zero Go.wp_at_succ

set_option maxHeartbeats 16000000 in
set_option maxRecDepth 100000 in
theorem FnFirstPoint_walk (A : Option Addr) (n cap : Nat) (AA : Option Addr) (n2 cap2 : Nat) (w : World) (h : ByRow w A n) (hc : n ≤ cap) (hm : cap ≤ maxLen) (h2 : ByRow w AA n2) (hc2 : n2 ≤ cap2) (hm2 : cap2 ≤ maxLen) :
    Calls Tryd.prog 4 #[.slice A n cap, .slice AA n2 cap2] w fun e w' => e = .returned (.bool true) ∧ Below w.heap.size w w' := by
  by_cases hn : n ≤ 1048576
  case neg =>
    have hni : (1048576 : Int) < (n : Int) := by omega
    clear h hc hm h2 hc2 hm2
    go_enter Tryd.func4, Tryd.ntmps4
    go_wp2_with fail
    go_ret
    exact ⟨rfl, Below.refl _ _⟩
  case pos =>
  have hni : (n : Int) ≤ 1048576 := by omega
  by_cases hn2 : n2 ≤ 1048576
  case neg =>
    have hni2 : (1048576 : Int) < (n2 : Int) := by omega
    clear h hc hm h2 hc2 hm2
    go_enter Tryd.func4, Tryd.ntmps4
    go_wp2_with fail
    go_ret
    exact ⟨rfl, Below.refl _ _⟩
  case pos =>
  have hni2 : (n2 : Int) ≤ 1048576 := by omega
  have H2 := Lib.hid h2
  have HD := Lib.hid (DrawFirstPoint_calls A n cap w h hn hc hm)
  clear h hc hm h2
  go_enter Tryd.func4, Tryd.ntmps4
  go_wp2_with fail
  refine (HD.out).mono ?_
  rintro e w1 ⟨⟨i, s, r, t, x, rfl, hs, hr, ht, hx0, hx1⟩, hz⟩
  have B1 := Lib.hid (hz.alloc hz.size (.cells #[.int .i64 i, .string s, .string r] 24))
  have X1 := Lib.hid (Bx.new w1 24 #[.int .i64 i, .string s, .string r])
  clear hz
  obtain ⟨p, hp⟩ : ∃ p, p = fstV i s r t x := ⟨_, rfl⟩
  obtain ⟨b, hb⟩ : ∃ b, b = fstB i s r t x := ⟨_, rfl⟩
  have hp8 : p.length ≤ 8 := by rw [hp]; exact fst_le _ _ _ _ _
  have ci : ∀ W, Calls Tryd.prog 16 #[stV i s r, .string t, .int .i64 x] W fun e w' => (∃ A c, e = .returned (.tuple #[.slice A p.length c, .bool b]) ∧ p.length ≤ c ∧ LRow w' A (natsI p)) ∧ Below W.heap.size W w' := fun W => by
    refine (FirstPoint_impl i s r t x W (by unfold maxLen; omega) (by unfold maxLen; omega)).mono fun e w' hh => ?_
    obtain ⟨⟨v, he, ho⟩, hb2⟩ := hh
    obtain ⟨A2, c2, rfl, h3, h4⟩ := own_open ho
    rw [← hp, ← hb] at he
    rw [← hp] at h3 h4
    exact ⟨⟨A2, c2, he, h3, h4⟩, hb2⟩
  have cs : ∀ W, Calls Tryd.prog 17 #[stV i s r, .string t, .int .i64 x] W fun e w' => (∃ A c, e = .returned (.tuple #[.slice A p.length c, .bool b]) ∧ LRow w' A (natsI p)) ∧ Below W.heap.size W w' := fun W => by
    refine (FirstPoint_spec i s r t x W (by unfold maxLen; omega) (by unfold maxLen; omega) (by unfold maxLen; omega)).mono fun e w' hh => ?_
    obtain ⟨⟨A2, c2, he, h3, h4⟩, hb2⟩ := hh
    rw [← hp, ← hb] at he
    rw [← hp] at h3
    exact ⟨⟨A2, c2, he, h3⟩, hb2⟩
  have cg : ∀ (A1 A2 : Option Addr) (c1 c2 : Nat) (W : World), LRow W A1 (natsI p) → LRow W A2 (natsI p) → Calls Tryd.prog 19 #[.slice A1 p.length c1, .slice A2 p.length c2] W fun e w' => e = .returned (.bool true) ∧ Below W.heap.size W w' := fun A1 A2 c1 c2 W q1 q2 => by
    have := gsSame_calls A1 A2 c1 c2 (natsI p) (natsI p) W (by rw [natsI_len]; omega) (by rw [natsI_len]; omega) q1 q2
    rw [natsI_len] at this
    simpa using this
  have cn := fun W => CountPoints_impl i s r t x W (by unfold maxLen; omega) (by unfold maxLen; omega)
  have CI := Lib.hid ci
  have CS := Lib.hid cs
  have CG := Lib.hid cg
  clear ci cs cg
  rcases cpt_cases i s r t x with hv | ⟨a, g, k, ha, rfl, rfl, rfl, rfl, hgl, rfl, hk3, hfr, hv⟩
  · obtain ⟨e1, e2⟩ := fst_none hv
    rw [← hb] at e1
    rw [← hp] at e2
    clear hb hp
    subst e1 e2
    simp only [hv] at cn
    have CN := Lib.hid cn
    clear cn hv
    obtain ⟨x0, x1, x2⟩ := box_load X1.out
    go_wp2_with fail
    refine (CI.out _).mono ?_
    rintro e w2 ⟨⟨Ap, cp, rfl, hcp, hlp⟩, hz⟩
    have B2 := Lib.hid (B1.out.trans (hz.mono B1.out.size))
    have X2 := Lib.hid (X1.out.call hz)
    have P2 := Lib.hid hlp
    clear hz hlp x0 x1 x2
    obtain ⟨x0, x1, x2⟩ := box_load X2.out
    go_wp2_with fail
    refine (CS.out _).mono ?_
    rintro e w3 ⟨⟨Aq, cq, rfl, hlq⟩, hz⟩
    have B3 := Lib.hid (B2.out.trans (hz.mono B2.out.size))
    have X3 := Lib.hid (X2.out.call hz)
    have P3 := Lib.hid (P2.out.call hz)
    have Q3 := Lib.hid hlq
    clear hz hlq x0 x1 x2
    obtain ⟨x0, x1, x2⟩ := box_load X3.out
    go_wp2_with fail
    refine (CN.out _).mono ?_
    rintro e w4 ⟨rfl, hz⟩
    have B4 := Lib.hid (B3.out.trans (hz.mono B3.out.size))
    have X4 := Lib.hid (X3.out.call hz)
    have P4 := Lib.hid (P3.out.call hz)
    have Q4 := Lib.hid (Q3.out.call hz)
    clear hz x0 x1 x2
    go_wp2_with fail
    refine (CG.out _ _ _ _ _ P4.out Q4.out).mono ?_
    rintro e w5 ⟨rfl, hz⟩
    have B5 := Lib.hid (B4.out.trans (hz.mono B4.out.size))
    have X5 := Lib.hid (X4.out.call hz)
    have P5 := Lib.hid (P4.out.call hz)
    have Q5 := Lib.hid (Q4.out.call hz)
    clear hz
    go_wp2_with fail
    refine (CG.out _ _ _ _ _ P5.out Q5.out).mono ?_
    rintro e w6 ⟨rfl, hz⟩
    have B6 := Lib.hid (B5.out.trans (hz.mono B5.out.size))
    clear hz
    go_wp2_with fail
    go_ret
    exact ⟨rfl, B6.out⟩
  simp only [hv] at cn
  have h8 := ha.hi
  have hlo := ha.lo
  rcases fst_fm ha hgl hk3 hfr with ⟨e1, e2, e3⟩ | ⟨p', R, hfl, e1, e2, e3, hpl, hpx, hpt⟩
  · rw [← hb] at e1
    rw [← hp] at e2
    rw [e3] at cn
    clear hb hp hv e3
    subst e1 e2
    have CN := Lib.hid cn
    clear cn
    obtain ⟨x0, x1, x2⟩ := box_load X1.out
    go_wp2_with fail
    refine (CI.out _).mono ?_
    rintro e w2 ⟨⟨Ap, cp, rfl, hcp, hlp⟩, hz⟩
    have B2 := Lib.hid (B1.out.trans (hz.mono B1.out.size))
    have X2 := Lib.hid (X1.out.call hz)
    have P2 := Lib.hid hlp
    clear hz hlp x0 x1 x2
    obtain ⟨x0, x1, x2⟩ := box_load X2.out
    go_wp2_with fail
    refine (CS.out _).mono ?_
    rintro e w3 ⟨⟨Aq, cq, rfl, hlq⟩, hz⟩
    have B3 := Lib.hid (B2.out.trans (hz.mono B2.out.size))
    have X3 := Lib.hid (X2.out.call hz)
    have P3 := Lib.hid (P2.out.call hz)
    have Q3 := Lib.hid hlq
    clear hz hlq x0 x1 x2
    obtain ⟨x0, x1, x2⟩ := box_load X3.out
    go_wp2_with fail
    refine (CN.out _).mono ?_
    rintro e w4 ⟨rfl, hz⟩
    have B4 := Lib.hid (B3.out.trans (hz.mono B3.out.size))
    have X4 := Lib.hid (X3.out.call hz)
    have P4 := Lib.hid (P3.out.call hz)
    have Q4 := Lib.hid (Q3.out.call hz)
    clear hz x0 x1 x2
    go_wp2_with fail
    refine (CG.out _ _ _ _ _ P4.out Q4.out).mono ?_
    rintro e w5 ⟨rfl, hz⟩
    have B5 := Lib.hid (B4.out.trans (hz.mono B4.out.size))
    have X5 := Lib.hid (X4.out.call hz)
    have P5 := Lib.hid (P4.out.call hz)
    have Q5 := Lib.hid (Q4.out.call hz)
    clear hz
    go_wp2_with fail
    go_ret
    exact ⟨rfl, B5.out⟩
  rw [← hb] at e1
  rw [← hp] at e2
  clear hb hp hv
  subst e1 e2
  obtain ⟨N, hN⟩ : ∃ N, N = cntL a g k := ⟨_, rfl⟩
  rw [← hN] at cn e3
  have CN := Lib.hid cn
  have HFL := Lib.hid hfl
  have HFR := Lib.hid hfr
  have HPX := Lib.hid hpx
  have HPT := Lib.hid hpt
  have HPL := Lib.hid hpl
  have HGS := Lib.hid (fun (q : List Nat) (hq : q.length = k) (hqx : ∀ x ∈ q, x < a.n) (b : Bool) (hb : g.holds a (envL q) = b) (A2 : Option Addr) (c2 : Nat) (hc2 : k ≤ c2) (W : World) (hW : LRow W A2 (natsI q)) => show Calls Tryd.prog 12 #[stV a.n (bs a.set) (bs a.rel), .string (bs g.text), .slice A2 k c2] W (fun e w' => e = .returned (.bool b) ∧ Below W.heap.size W w') from by
    have h := gs_any a ha g hgl _ rfl q hqx (by omega) (by rw [hq]; exact HFR.out) A2 c2 (by omega) b hb W hW
    rwa [hq] at h)
  have HG := Lib.hid (fun (q : Nat) (hq : q ≤ 1000) (W : World) (hW : ByRow W AA n2) => gsFour_calls a ha AA n2 cap2 hn2 q hq W hW)
  clear cn hN hfl hfr hpx hpt hpl
  obtain ⟨x0, x1, x2⟩ := box_load X1.out
  go_wp2_with fail
  refine (CI.out _).mono ?_
  rintro e w2 ⟨⟨Ap, cp, rfl, hcp, hlp⟩, hz⟩
  have B2 := Lib.hid (B1.out.trans (hz.mono B1.out.size))
  have X2 := Lib.hid (X1.out.call hz)
  have P2 := Lib.hid hlp
  clear hz hlp x0 x1 x2
  obtain ⟨x0, x1, x2⟩ := box_load X2.out
  go_wp2_with fail
  refine (CS.out _).mono ?_
  rintro e w3 ⟨⟨Aq, cq, rfl, hlq⟩, hz⟩
  have B3 := Lib.hid (B2.out.trans (hz.mono B2.out.size))
  have X3 := Lib.hid (X2.out.call hz)
  have P3 := Lib.hid (P2.out.call hz)
  have Q3 := Lib.hid hlq
  clear hz hlq x0 x1 x2
  obtain ⟨x0, x1, x2⟩ := box_load X3.out
  go_wp2_with fail
  refine (CN.out _).mono ?_
  rintro e w4 ⟨rfl, hz⟩
  have B4 := Lib.hid (B3.out.trans (hz.mono B3.out.size))
  have X4 := Lib.hid (X3.out.call hz)
  have P4 := Lib.hid (P3.out.call hz)
  have Q4 := Lib.hid (Q3.out.call hz)
  clear hz x0 x1 x2
  go_wp2_with fail
  refine (CG.out _ _ _ _ _ P4.out Q4.out).mono ?_
  rintro e w5 ⟨rfl, hz⟩
  have B5 := Lib.hid (B4.out.trans (hz.mono B4.out.size))
  have X5 := Lib.hid (X4.out.call hz)
  have P5 := Lib.hid (P4.out.call hz)
  have Q5 := Lib.hid (Q4.out.call hz)
  clear hz
  have R5 := Lib.hid (H2.out.call B5.out)
  have HCP := Lib.hid (show k ≤ cp by have := HPL.out; omega)
  go_wp2_with fail
  go_loopg [13] 12 (fun c iv wr => ∃ k2 : Nat, k2 + c = 12 ∧ iv = .int .i64 (k2 : Nat) ∧ Bx wr w1.heap.size 24 #[.int .i64 (a.n : Int), .string (bs a.set), .string (bs a.rel)] ∧ LRow wr Ap (natsI p) ∧ ByRow wr AA n2 ∧ Below w.heap.size w wr)
  case atStart => exact ⟨0, by omega, rfl, X5.out, P5.out, R5.out, B5.out⟩
  case round =>
    clear X1 X2 X3 X4 X5 P2 P3 P4 P5 Q3 Q4 Q5 B1 B2 B3 B4 B5 R5 CI CS CN CG
    obtain ⟨k2, hk2, rfl, hxs, hlp, hby, hbl⟩ := hrel
    have HXs := Lib.hid hxs
    have HLP := Lib.hid hlp
    have HBY := Lib.hid hby
    have HB := Lib.hid hbl
    clear hxs hlp hby hbl
    obtain ⟨x0, x1, x2⟩ := box_load HXs.out
    by_cases hlt : k2 < 12
    · go_wp2_with fail
      refine (HG.out k2 (by omega) _ HBY.out).mono ?_
      rintro e w6 ⟨⟨gq, y0, y1, y2, y3, rfl, z0, z1, z2, z3, hq, hgq⟩, hz⟩
      have B6 := Lib.hid (HB.out.trans (hz.mono HB.out.size))
      have X6 := Lib.hid (HXs.out.call hz)
      have P6 := Lib.hid (HLP.out.call hz)
      have R6 := Lib.hid (HBY.out.call hz)
      obtain ⟨qs, hqs⟩ : ∃ qs, qs = [y0, y1, y2, y3].take k := ⟨_, rfl⟩
      have Q6 := Lib.hid (show LRow w6 (some ⟨gq, 0, none⟩) (natsI qs) from by rw [hqs]; have := hq.take k; simpa [natsI, List.map_take] using this)
      have HQL := Lib.hid (show qs.length = k from by rw [hqs]; simp; omega)
      have HQX := Lib.hid (show ∀ x ∈ qs, x < a.n from fun x hx => by rw [hqs] at hx; have := List.mem_of_mem_take hx; simp at this; rcases this with rfl | rfl | rfl | rfl <;> assumption)
      clear hz hq hgq hqs z0 z1 z2 z3 x0 x1 x2
      go_wp2_with fail
      go_loopg [15, 16] k (fun c bv iv wr => ∃ (j : Nat) (bf : Bool), c = j ∧ j ≤ k ∧ iv = .int .i64 ((j : Int) - 1) ∧ bv = .bool bf ∧ bf = lexB (qs.drop j) (p.drop j) ∧ Bx wr w1.heap.size 24 #[.int .i64 (a.n : Int), .string (bs a.set), .string (bs a.rel)] ∧ LRow wr Ap (natsI p) ∧ LRow wr (some ⟨gq, 0, none⟩) (natsI qs) ∧ ByRow wr AA n2 ∧ Below w.heap.size w wr)
      case atStart => exact ⟨k, false, rfl, Nat.le_refl _, rfl, rfl, by rw [List.drop_eq_nil_of_le (by rw [HQL.out]; exact Nat.le_refl _)]; cases p.drop k <;> rfl, X6.out, P6.out, Q6.out, R6.out, B6.out⟩
      case round =>
        clear X6 P6 Q6 R6 B6 HXs HLP HBY HB
        obtain ⟨j, bf, hcj, hjk, rfl, rfl, hbf, hx6, hp6, hq6, hr6, hb6⟩ := hrel
        subst hcj
        obtain ⟨w6, rfl⟩ : ∃ x, x = wr := ⟨wr, rfl⟩
        have X6 := Lib.hid hx6
        have P6 := Lib.hid hp6
        have Q6 := Lib.hid hq6
        have R6 := Lib.hid hr6
        have B6 := Lib.hid hb6
        clear hx6 hp6 hq6 hr6 hb6
        have HBF := Lib.hid hbf
        clear hbf
        rcases Nat.eq_zero_or_pos gk with h0 | h0
        · subst h0
          obtain ⟨x0, x1, x2⟩ := box_load X6.out
          cases bf with
          | false =>
            clear HBF
            go_wp2_with fail
            go_roundg (12 - k2 - 1)
            case rel => exact ⟨k2 + 1, by omega, by go_num, X6.out, P6.out, R6.out, B6.out⟩
            case measure => omega
          | true =>
            have hno : g.holds a (envL qs) = false := first_lex hlo HFL.out (lists_all k qs HQL.out HQX.out) (by have := HBF.out; simpa using this.symm)
            have HGQ := Lib.hid (HGS.out qs HQL.out HQX.out false hno (some ⟨gq, 0, none⟩) 4 (by omega))
            clear HBF hno
            go_wp2_with fail
            refine (HGQ.out _ Q6.out).mono ?_
            rintro e w7 ⟨rfl, hz⟩
            have B7 := Lib.hid (B6.out.trans (hz.mono B6.out.size))
            have X7 := Lib.hid (X6.out.call hz)
            have P7 := Lib.hid (P6.out.call hz)
            have R7 := Lib.hid (R6.out.call hz)
            clear hz x0 x1 x2
            go_wp2_with fail
            go_roundg (12 - k2 - 1)
            case rel => exact ⟨k2 + 1, by omega, by go_num, X7.out, P7.out, R7.out, B7.out⟩
            case measure => omega
        · obtain ⟨j, rfl⟩ : ∃ j, gk = j + 1 := ⟨gk - 1, by omega⟩
          have hji : ((j + 1 : Nat) : Int) - 1 = ((j : Nat) : Int) := by omega
          rw [hji]
          obtain ⟨gz, hgz, c3⟩ := LRow.nats Q6.out (k := j) (by rw [HQL.out]; omega)
          cases hgz
          obtain ⟨gp, rfl, c4⟩ := LRow.nats P6.out (k := j) (by rw [HPL.out]; omega)
          have hld := lex_drop (q := qs) (p := p) (i := j) (by rw [HQL.out]; omega) (by rw [HPL.out]; omega)
          rw [← HBF.out] at hld
          obtain ⟨x, hx⟩ : ∃ x, x = qs.getD j 0 := ⟨_, rfl⟩
          obtain ⟨y, hy⟩ : ∃ y, y = p.getD j 0 := ⟨_, rfl⟩
          rw [← hx] at c3 hld
          rw [← hy] at c4 hld
          have HLD := Lib.hid hld
          have d3 : w6.drew.cell? ⟨gq, j, none⟩ = some (.int .i64 (x : Nat)) := c3
          have d4 : w6.drew.cell? ⟨gp, j, none⟩ = some (.int .i64 (y : Nat)) := c4
          have HPI := Lib.hid (show (j : Int) < (p.length : Int) by have := HPL.out; omega)
          clear HBF hld hx hy c3 c4 hji
          have hjp : (j : Int) < (p.length : Int) := HPI.out
          have hjp2 : j < p.length := by omega
          have hjk2 : j < k := by omega
          by_cases hlt3 : x < y
          · have q1 : decide ((x : Int) < (y : Int)) = true := by rw [decide_eq_true_eq]; omega
            go_upto_region 19 with (fail)
            refine region_sched [(0, true), (1, true), (2, true), (3, true), (4, true), (5, true), (6, true), (7, true), (8, true), (9, true), (10, true), (11, true), (12, true), (13, true), (14, true), (15, true), (16, true), (17, true), (18, true), (19, true), (20, true), (21, true), (22, true), (23, true)] (fun w' : World => w'.cell? ⟨gq, j, none⟩ = some (.int .i64 (x : Nat)) ∧ w'.cell? ⟨gp, j, none⟩ = some (.int .i64 (y : Nat))) (by kernel_rfl) (by kernel_rfl) (by kernel_rfl) (by kernel_rfl) (fun _ _ _ _ h => h) ?_ (fun Q1 hQ1 => ?_)
            · exact ⟨d3, d4⟩
            try simp only [List.append]
            refine sched_take' (v := ?_) (a' := ?_) rfl (by kernel_rfl) ?_ rfl ?_ ?_
            rotate_left 2
            · intro w hSw
              (try dsimp only at hSw)
              go_simp
              try with_reducible rfl
            · (try simp only [Act.put, List.setIfInBounds_toArray, List.set_cons_zero, List.set_cons_succ])
              try rfl
            refine sched_take' (v := ?_) (a' := ?_) rfl (by kernel_rfl) ?_ rfl ?_ ?_
            rotate_left 2
            · intro w hSw
              (try dsimp only at hSw)
              go_simp
              try with_reducible rfl
            · (try simp only [Act.put, List.setIfInBounds_toArray, List.set_cons_zero, List.set_cons_succ])
              try rfl
            refine sched_take' (v := ?_) (a' := ?_) rfl (by kernel_rfl) ?_ rfl ?_ ?_
            rotate_left 2
            · intro w hSw
              (try dsimp only at hSw)
              go_simp
              try with_reducible rfl
            · (try simp only [Act.put, List.setIfInBounds_toArray, List.set_cons_zero, List.set_cons_succ])
              try rfl
            refine sched_take' (v := .int .i64 (x : Nat)) (a' := ?_) rfl (by kernel_rfl) ?_ rfl ?_ ?_
            rotate_left 1
            · intro w hSw
              (try dsimp only at hSw)
              go_simp
              first | done | (obtain ⟨u0, u1⟩ := hSw; simp [*])
            · (try simp only [Act.put, List.setIfInBounds_toArray, List.set_cons_zero, List.set_cons_succ])
              try rfl
            refine sched_take' (v := ?_) (a' := ?_) rfl (by kernel_rfl) ?_ rfl ?_ ?_
            rotate_left 2
            · intro w hSw
              (try dsimp only at hSw)
              go_simp
              try with_reducible rfl
            · (try simp only [Act.put, List.setIfInBounds_toArray, List.set_cons_zero, List.set_cons_succ])
              try rfl
            refine sched_take' (v := ?_) (a' := ?_) rfl (by kernel_rfl) ?_ rfl ?_ ?_
            rotate_left 2
            · intro w hSw
              (try dsimp only at hSw)
              go_simp
              try with_reducible rfl
            · (try simp only [Act.put, List.setIfInBounds_toArray, List.set_cons_zero, List.set_cons_succ])
              try rfl
            refine sched_take' (v := ?_) (a' := ?_) rfl (by kernel_rfl) ?_ rfl ?_ ?_
            rotate_left 2
            · intro w hSw
              (try dsimp only at hSw)
              go_simp
              try with_reducible rfl
            · (try simp only [Act.put, List.setIfInBounds_toArray, List.set_cons_zero, List.set_cons_succ])
              try rfl
            refine sched_take' (v := .int .i64 (y : Nat)) (a' := ?_) rfl (by kernel_rfl) ?_ rfl ?_ ?_
            rotate_left 1
            · intro w hSw
              (try dsimp only at hSw)
              go_simp
              first | done | (obtain ⟨u0, u1⟩ := hSw; simp [*])
            · (try simp only [Act.put, List.setIfInBounds_toArray, List.set_cons_zero, List.set_cons_succ])
              try rfl
            refine sched_take' (v := .bool true) (a' := ?_) rfl (by kernel_rfl) ?_ rfl ?_ ?_
            rotate_left 1
            · intro w hSw
              (try dsimp only at hSw)
              go_simp
              first | done | exact q1 | (simp [q1]; done) | (rw [q1])
            · (try simp only [Act.put, List.setIfInBounds_toArray, List.set_cons_zero, List.set_cons_succ])
              try rfl
            refine sched_take' (v := ?_) (a' := ?_) rfl (by kernel_rfl) ?_ rfl ?_ ?_
            rotate_left 2
            · intro w hSw
              (try dsimp only at hSw)
              go_simp
              try with_reducible rfl
            · (try simp only [Act.put, List.setIfInBounds_toArray, List.set_cons_zero, List.set_cons_succ])
              try rfl
            refine sched_skip' (a' := ?_) rfl (by kernel_rfl) rfl ?_ ?_
            rotate_left 1
            · (try simp only [Act.put, List.setIfInBounds_toArray, List.set_cons_zero, List.set_cons_succ])
              try rfl
            refine sched_skip' (a' := ?_) rfl (by kernel_rfl) rfl ?_ ?_
            rotate_left 1
            · (try simp only [Act.put, List.setIfInBounds_toArray, List.set_cons_zero, List.set_cons_succ])
              try rfl
            refine sched_skip' (a' := ?_) rfl (by kernel_rfl) rfl ?_ ?_
            rotate_left 1
            · (try simp only [Act.put, List.setIfInBounds_toArray, List.set_cons_zero, List.set_cons_succ])
              try rfl
            refine sched_skip' (a' := ?_) rfl (by kernel_rfl) rfl ?_ ?_
            rotate_left 1
            · (try simp only [Act.put, List.setIfInBounds_toArray, List.set_cons_zero, List.set_cons_succ])
              try rfl
            refine sched_skip' (a' := ?_) rfl (by kernel_rfl) rfl ?_ ?_
            rotate_left 1
            · (try simp only [Act.put, List.setIfInBounds_toArray, List.set_cons_zero, List.set_cons_succ])
              try rfl
            refine sched_skip' (a' := ?_) rfl (by kernel_rfl) rfl ?_ ?_
            rotate_left 1
            · (try simp only [Act.put, List.setIfInBounds_toArray, List.set_cons_zero, List.set_cons_succ])
              try rfl
            refine sched_skip' (a' := ?_) rfl (by kernel_rfl) rfl ?_ ?_
            rotate_left 1
            · (try simp only [Act.put, List.setIfInBounds_toArray, List.set_cons_zero, List.set_cons_succ])
              try rfl
            refine sched_skip' (a' := ?_) rfl (by kernel_rfl) rfl ?_ ?_
            rotate_left 1
            · (try simp only [Act.put, List.setIfInBounds_toArray, List.set_cons_zero, List.set_cons_succ])
              try rfl
            refine sched_skip' (a' := ?_) rfl (by kernel_rfl) rfl ?_ ?_
            rotate_left 1
            · (try simp only [Act.put, List.setIfInBounds_toArray, List.set_cons_zero, List.set_cons_succ])
              try rfl
            refine sched_skip' (a' := ?_) rfl (by kernel_rfl) rfl ?_ ?_
            rotate_left 1
            · (try simp only [Act.put, List.setIfInBounds_toArray, List.set_cons_zero, List.set_cons_succ])
              try rfl
            refine sched_skip' (a' := ?_) rfl (by kernel_rfl) rfl ?_ ?_
            rotate_left 1
            · (try simp only [Act.put, List.setIfInBounds_toArray, List.set_cons_zero, List.set_cons_succ])
              try rfl
            refine sched_skip' (a' := ?_) rfl (by kernel_rfl) rfl ?_ ?_
            rotate_left 1
            · (try simp only [Act.put, List.setIfInBounds_toArray, List.set_cons_zero, List.set_cons_succ])
              try rfl
            refine sched_take' (v := .bool true) (a' := ?_) rfl (by kernel_rfl) ?_ rfl ?_ ?_
            rotate_left 1
            · intro w hSw
              (try dsimp only at hSw)
              go_simp
              first | done | rfl | (simp; done)
            · (try simp only [Act.put, List.setIfInBounds_toArray, List.set_cons_zero, List.set_cons_succ])
              try rfl
            refine sched_take' (v := ?_) (a' := ?_) rfl (by kernel_rfl) ?_ rfl ?_ ?_
            rotate_left 2
            · intro w hSw
              (try dsimp only at hSw)
              go_simp
              try with_reducible rfl
            · (try simp only [Act.put, List.setIfInBounds_toArray, List.set_cons_zero, List.set_cons_succ])
              try rfl
            refine sched_done (hQ1.out _ _ ?_)
            go_wp2_with fail
            go_roundg j
            case rel => exact ⟨j, true, rfl, by omega, rfl, rfl, by rw [HLD.out]; simp [hlt3], X6.out.drew, P6.out.drew, Q6.out.drew, R6.out.call (Below.refl w6.heap.size w6).drew, B6.out.drew⟩
            case measure => omega
          · have q1 : decide ((x : Int) < (y : Int)) = false := by rw [decide_eq_false_iff_not]; omega
            by_cases he : x = y
            · have q2 : (((x : Nat) : Int) == ((y : Nat) : Int)) = true := by rw [he]; simp
              go_upto_region 19 with (fail)
              refine region_sched [(0, true), (1, true), (2, true), (3, true), (4, true), (5, true), (6, true), (7, true), (8, true), (9, true), (10, true), (11, true), (12, true), (13, true), (14, true), (15, true), (16, true), (17, true), (18, true), (19, true), (20, true), (21, true), (22, true), (23, true)] (fun w' : World => w'.cell? ⟨gq, j, none⟩ = some (.int .i64 (x : Nat)) ∧ w'.cell? ⟨gp, j, none⟩ = some (.int .i64 (y : Nat))) (by kernel_rfl) (by kernel_rfl) (by kernel_rfl) (by kernel_rfl) (fun _ _ _ _ h => h) ?_ (fun Q1 hQ1 => ?_)
              · exact ⟨d3, d4⟩
              try simp only [List.append]
              refine sched_take' (v := ?_) (a' := ?_) rfl (by kernel_rfl) ?_ rfl ?_ ?_
              rotate_left 2
              · intro w hSw
                (try dsimp only at hSw)
                go_simp
                try with_reducible rfl
              · (try simp only [Act.put, List.setIfInBounds_toArray, List.set_cons_zero, List.set_cons_succ])
                try rfl
              refine sched_take' (v := ?_) (a' := ?_) rfl (by kernel_rfl) ?_ rfl ?_ ?_
              rotate_left 2
              · intro w hSw
                (try dsimp only at hSw)
                go_simp
                try with_reducible rfl
              · (try simp only [Act.put, List.setIfInBounds_toArray, List.set_cons_zero, List.set_cons_succ])
                try rfl
              refine sched_take' (v := ?_) (a' := ?_) rfl (by kernel_rfl) ?_ rfl ?_ ?_
              rotate_left 2
              · intro w hSw
                (try dsimp only at hSw)
                go_simp
                try with_reducible rfl
              · (try simp only [Act.put, List.setIfInBounds_toArray, List.set_cons_zero, List.set_cons_succ])
                try rfl
              refine sched_take' (v := .int .i64 (x : Nat)) (a' := ?_) rfl (by kernel_rfl) ?_ rfl ?_ ?_
              rotate_left 1
              · intro w hSw
                (try dsimp only at hSw)
                go_simp
                first | done | (obtain ⟨u0, u1⟩ := hSw; simp [*])
              · (try simp only [Act.put, List.setIfInBounds_toArray, List.set_cons_zero, List.set_cons_succ])
                try rfl
              refine sched_take' (v := ?_) (a' := ?_) rfl (by kernel_rfl) ?_ rfl ?_ ?_
              rotate_left 2
              · intro w hSw
                (try dsimp only at hSw)
                go_simp
                try with_reducible rfl
              · (try simp only [Act.put, List.setIfInBounds_toArray, List.set_cons_zero, List.set_cons_succ])
                try rfl
              refine sched_take' (v := ?_) (a' := ?_) rfl (by kernel_rfl) ?_ rfl ?_ ?_
              rotate_left 2
              · intro w hSw
                (try dsimp only at hSw)
                go_simp
                try with_reducible rfl
              · (try simp only [Act.put, List.setIfInBounds_toArray, List.set_cons_zero, List.set_cons_succ])
                try rfl
              refine sched_take' (v := ?_) (a' := ?_) rfl (by kernel_rfl) ?_ rfl ?_ ?_
              rotate_left 2
              · intro w hSw
                (try dsimp only at hSw)
                go_simp
                try with_reducible rfl
              · (try simp only [Act.put, List.setIfInBounds_toArray, List.set_cons_zero, List.set_cons_succ])
                try rfl
              refine sched_take' (v := .int .i64 (y : Nat)) (a' := ?_) rfl (by kernel_rfl) ?_ rfl ?_ ?_
              rotate_left 1
              · intro w hSw
                (try dsimp only at hSw)
                go_simp
                first | done | (obtain ⟨u0, u1⟩ := hSw; simp [*])
              · (try simp only [Act.put, List.setIfInBounds_toArray, List.set_cons_zero, List.set_cons_succ])
                try rfl
              refine sched_take' (v := .bool false) (a' := ?_) rfl (by kernel_rfl) ?_ rfl ?_ ?_
              rotate_left 1
              · intro w hSw
                (try dsimp only at hSw)
                go_simp
                first | done | exact q1 | (simp [q1]; done) | (rw [q1])
              · (try simp only [Act.put, List.setIfInBounds_toArray, List.set_cons_zero, List.set_cons_succ])
                try rfl
              refine sched_take' (v := ?_) (a' := ?_) rfl (by kernel_rfl) ?_ rfl ?_ ?_
              rotate_left 2
              · intro w hSw
                (try dsimp only at hSw)
                go_simp
                try with_reducible rfl
              · (try simp only [Act.put, List.setIfInBounds_toArray, List.set_cons_zero, List.set_cons_succ])
                try rfl
              refine sched_take' (v := ?_) (a' := ?_) rfl (by kernel_rfl) ?_ rfl ?_ ?_
              rotate_left 2
              · intro w hSw
                (try dsimp only at hSw)
                go_simp
                try with_reducible rfl
              · (try simp only [Act.put, List.setIfInBounds_toArray, List.set_cons_zero, List.set_cons_succ])
                try rfl
              refine sched_take' (v := ?_) (a' := ?_) rfl (by kernel_rfl) ?_ rfl ?_ ?_
              rotate_left 2
              · intro w hSw
                (try dsimp only at hSw)
                go_simp
                try with_reducible rfl
              · (try simp only [Act.put, List.setIfInBounds_toArray, List.set_cons_zero, List.set_cons_succ])
                try rfl
              refine sched_take' (v := ?_) (a' := ?_) rfl (by kernel_rfl) ?_ rfl ?_ ?_
              rotate_left 2
              · intro w hSw
                (try dsimp only at hSw)
                go_simp
                try with_reducible rfl
              · (try simp only [Act.put, List.setIfInBounds_toArray, List.set_cons_zero, List.set_cons_succ])
                try rfl
              refine sched_take' (v := .int .i64 (x : Nat)) (a' := ?_) rfl (by kernel_rfl) ?_ rfl ?_ ?_
              rotate_left 1
              · intro w hSw
                (try dsimp only at hSw)
                go_simp
                first | done | (obtain ⟨u0, u1⟩ := hSw; simp [*])
              · (try simp only [Act.put, List.setIfInBounds_toArray, List.set_cons_zero, List.set_cons_succ])
                try rfl
              refine sched_take' (v := ?_) (a' := ?_) rfl (by kernel_rfl) ?_ rfl ?_ ?_
              rotate_left 2
              · intro w hSw
                (try dsimp only at hSw)
                go_simp
                try with_reducible rfl
              · (try simp only [Act.put, List.setIfInBounds_toArray, List.set_cons_zero, List.set_cons_succ])
                try rfl
              refine sched_take' (v := ?_) (a' := ?_) rfl (by kernel_rfl) ?_ rfl ?_ ?_
              rotate_left 2
              · intro w hSw
                (try dsimp only at hSw)
                go_simp
                try with_reducible rfl
              · (try simp only [Act.put, List.setIfInBounds_toArray, List.set_cons_zero, List.set_cons_succ])
                try rfl
              refine sched_take' (v := ?_) (a' := ?_) rfl (by kernel_rfl) ?_ rfl ?_ ?_
              rotate_left 2
              · intro w hSw
                (try dsimp only at hSw)
                go_simp
                try with_reducible rfl
              · (try simp only [Act.put, List.setIfInBounds_toArray, List.set_cons_zero, List.set_cons_succ])
                try rfl
              refine sched_take' (v := .int .i64 (y : Nat)) (a' := ?_) rfl (by kernel_rfl) ?_ rfl ?_ ?_
              rotate_left 1
              · intro w hSw
                (try dsimp only at hSw)
                go_simp
                first | done | (obtain ⟨u0, u1⟩ := hSw; simp [*])
              · (try simp only [Act.put, List.setIfInBounds_toArray, List.set_cons_zero, List.set_cons_succ])
                try rfl
              refine sched_take' (v := .bool true) (a' := ?_) rfl (by kernel_rfl) ?_ rfl ?_ ?_
              rotate_left 1
              · intro w hSw
                (try dsimp only at hSw)
                go_simp
                first | done | exact q2 | (simp [q2]; done) | (rw [q2])
              · (try simp only [Act.put, List.setIfInBounds_toArray, List.set_cons_zero, List.set_cons_succ])
                try rfl
              refine sched_take' (v := ?_) (a' := ?_) rfl (by kernel_rfl) ?_ rfl ?_ ?_
              rotate_left 2
              · intro w hSw
                (try dsimp only at hSw)
                go_simp
                try with_reducible rfl
              · (try simp only [Act.put, List.setIfInBounds_toArray, List.set_cons_zero, List.set_cons_succ])
                try rfl
              refine sched_take' (v := ?_) (a' := ?_) rfl (by kernel_rfl) ?_ rfl ?_ ?_
              rotate_left 2
              · intro w hSw
                (try dsimp only at hSw)
                go_simp
                try with_reducible rfl
              · (try simp only [Act.put, List.setIfInBounds_toArray, List.set_cons_zero, List.set_cons_succ])
                try rfl
              refine sched_take' (v := ?_) (a' := ?_) rfl (by kernel_rfl) ?_ rfl ?_ ?_
              rotate_left 2
              · intro w hSw
                (try dsimp only at hSw)
                go_simp
                try with_reducible rfl
              · (try simp only [Act.put, List.setIfInBounds_toArray, List.set_cons_zero, List.set_cons_succ])
                try rfl
              refine sched_take' (v := .bool bf) (a' := ?_) rfl (by kernel_rfl) ?_ rfl ?_ ?_
              rotate_left 1
              · intro w hSw
                (try dsimp only at hSw)
                go_simp
                first | done | rfl | (simp; done)
              · (try simp only [Act.put, List.setIfInBounds_toArray, List.set_cons_zero, List.set_cons_succ])
                try rfl
              refine sched_take' (v := ?_) (a' := ?_) rfl (by kernel_rfl) ?_ rfl ?_ ?_
              rotate_left 2
              · intro w hSw
                (try dsimp only at hSw)
                go_simp
                try with_reducible rfl
              · (try simp only [Act.put, List.setIfInBounds_toArray, List.set_cons_zero, List.set_cons_succ])
                try rfl
              refine sched_done (hQ1.out _ _ ?_)
              go_wp2_with fail
              go_roundg j
              case rel => exact ⟨j, bf, rfl, by omega, rfl, rfl, by rw [HLD.out]; simp [he], X6.out.drew, P6.out.drew, Q6.out.drew, R6.out.call (Below.refl w6.heap.size w6).drew, B6.out.drew⟩
              case measure => omega
            · have q2 : (((x : Nat) : Int) == ((y : Nat) : Int)) = false := by rw [beq_eq_false_iff_ne]; omega
              go_upto_region 19 with (fail)
              refine region_sched [(0, true), (1, true), (2, true), (3, true), (4, true), (5, true), (6, true), (7, true), (8, true), (9, true), (10, true), (11, true), (12, true), (13, true), (14, true), (15, true), (16, true), (17, true), (18, true), (19, true), (20, true), (21, true), (22, true), (23, true)] (fun w' : World => w'.cell? ⟨gq, j, none⟩ = some (.int .i64 (x : Nat)) ∧ w'.cell? ⟨gp, j, none⟩ = some (.int .i64 (y : Nat))) (by kernel_rfl) (by kernel_rfl) (by kernel_rfl) (by kernel_rfl) (fun _ _ _ _ h => h) ?_ (fun Q1 hQ1 => ?_)
              · exact ⟨d3, d4⟩
              try simp only [List.append]
              refine sched_take' (v := ?_) (a' := ?_) rfl (by kernel_rfl) ?_ rfl ?_ ?_
              rotate_left 2
              · intro w hSw
                (try dsimp only at hSw)
                go_simp
                try with_reducible rfl
              · (try simp only [Act.put, List.setIfInBounds_toArray, List.set_cons_zero, List.set_cons_succ])
                try rfl
              refine sched_take' (v := ?_) (a' := ?_) rfl (by kernel_rfl) ?_ rfl ?_ ?_
              rotate_left 2
              · intro w hSw
                (try dsimp only at hSw)
                go_simp
                try with_reducible rfl
              · (try simp only [Act.put, List.setIfInBounds_toArray, List.set_cons_zero, List.set_cons_succ])
                try rfl
              refine sched_take' (v := ?_) (a' := ?_) rfl (by kernel_rfl) ?_ rfl ?_ ?_
              rotate_left 2
              · intro w hSw
                (try dsimp only at hSw)
                go_simp
                try with_reducible rfl
              · (try simp only [Act.put, List.setIfInBounds_toArray, List.set_cons_zero, List.set_cons_succ])
                try rfl
              refine sched_take' (v := .int .i64 (x : Nat)) (a' := ?_) rfl (by kernel_rfl) ?_ rfl ?_ ?_
              rotate_left 1
              · intro w hSw
                (try dsimp only at hSw)
                go_simp
                first | done | (obtain ⟨u0, u1⟩ := hSw; simp [*])
              · (try simp only [Act.put, List.setIfInBounds_toArray, List.set_cons_zero, List.set_cons_succ])
                try rfl
              refine sched_take' (v := ?_) (a' := ?_) rfl (by kernel_rfl) ?_ rfl ?_ ?_
              rotate_left 2
              · intro w hSw
                (try dsimp only at hSw)
                go_simp
                try with_reducible rfl
              · (try simp only [Act.put, List.setIfInBounds_toArray, List.set_cons_zero, List.set_cons_succ])
                try rfl
              refine sched_take' (v := ?_) (a' := ?_) rfl (by kernel_rfl) ?_ rfl ?_ ?_
              rotate_left 2
              · intro w hSw
                (try dsimp only at hSw)
                go_simp
                try with_reducible rfl
              · (try simp only [Act.put, List.setIfInBounds_toArray, List.set_cons_zero, List.set_cons_succ])
                try rfl
              refine sched_take' (v := ?_) (a' := ?_) rfl (by kernel_rfl) ?_ rfl ?_ ?_
              rotate_left 2
              · intro w hSw
                (try dsimp only at hSw)
                go_simp
                try with_reducible rfl
              · (try simp only [Act.put, List.setIfInBounds_toArray, List.set_cons_zero, List.set_cons_succ])
                try rfl
              refine sched_take' (v := .int .i64 (y : Nat)) (a' := ?_) rfl (by kernel_rfl) ?_ rfl ?_ ?_
              rotate_left 1
              · intro w hSw
                (try dsimp only at hSw)
                go_simp
                first | done | (obtain ⟨u0, u1⟩ := hSw; simp [*])
              · (try simp only [Act.put, List.setIfInBounds_toArray, List.set_cons_zero, List.set_cons_succ])
                try rfl
              refine sched_take' (v := .bool false) (a' := ?_) rfl (by kernel_rfl) ?_ rfl ?_ ?_
              rotate_left 1
              · intro w hSw
                (try dsimp only at hSw)
                go_simp
                first | done | exact q1 | (simp [q1]; done) | (rw [q1])
              · (try simp only [Act.put, List.setIfInBounds_toArray, List.set_cons_zero, List.set_cons_succ])
                try rfl
              refine sched_take' (v := ?_) (a' := ?_) rfl (by kernel_rfl) ?_ rfl ?_ ?_
              rotate_left 2
              · intro w hSw
                (try dsimp only at hSw)
                go_simp
                try with_reducible rfl
              · (try simp only [Act.put, List.setIfInBounds_toArray, List.set_cons_zero, List.set_cons_succ])
                try rfl
              refine sched_take' (v := ?_) (a' := ?_) rfl (by kernel_rfl) ?_ rfl ?_ ?_
              rotate_left 2
              · intro w hSw
                (try dsimp only at hSw)
                go_simp
                try with_reducible rfl
              · (try simp only [Act.put, List.setIfInBounds_toArray, List.set_cons_zero, List.set_cons_succ])
                try rfl
              refine sched_take' (v := ?_) (a' := ?_) rfl (by kernel_rfl) ?_ rfl ?_ ?_
              rotate_left 2
              · intro w hSw
                (try dsimp only at hSw)
                go_simp
                try with_reducible rfl
              · (try simp only [Act.put, List.setIfInBounds_toArray, List.set_cons_zero, List.set_cons_succ])
                try rfl
              refine sched_take' (v := ?_) (a' := ?_) rfl (by kernel_rfl) ?_ rfl ?_ ?_
              rotate_left 2
              · intro w hSw
                (try dsimp only at hSw)
                go_simp
                try with_reducible rfl
              · (try simp only [Act.put, List.setIfInBounds_toArray, List.set_cons_zero, List.set_cons_succ])
                try rfl
              refine sched_take' (v := .int .i64 (x : Nat)) (a' := ?_) rfl (by kernel_rfl) ?_ rfl ?_ ?_
              rotate_left 1
              · intro w hSw
                (try dsimp only at hSw)
                go_simp
                first | done | (obtain ⟨u0, u1⟩ := hSw; simp [*])
              · (try simp only [Act.put, List.setIfInBounds_toArray, List.set_cons_zero, List.set_cons_succ])
                try rfl
              refine sched_take' (v := ?_) (a' := ?_) rfl (by kernel_rfl) ?_ rfl ?_ ?_
              rotate_left 2
              · intro w hSw
                (try dsimp only at hSw)
                go_simp
                try with_reducible rfl
              · (try simp only [Act.put, List.setIfInBounds_toArray, List.set_cons_zero, List.set_cons_succ])
                try rfl
              refine sched_take' (v := ?_) (a' := ?_) rfl (by kernel_rfl) ?_ rfl ?_ ?_
              rotate_left 2
              · intro w hSw
                (try dsimp only at hSw)
                go_simp
                try with_reducible rfl
              · (try simp only [Act.put, List.setIfInBounds_toArray, List.set_cons_zero, List.set_cons_succ])
                try rfl
              refine sched_take' (v := ?_) (a' := ?_) rfl (by kernel_rfl) ?_ rfl ?_ ?_
              rotate_left 2
              · intro w hSw
                (try dsimp only at hSw)
                go_simp
                try with_reducible rfl
              · (try simp only [Act.put, List.setIfInBounds_toArray, List.set_cons_zero, List.set_cons_succ])
                try rfl
              refine sched_take' (v := .int .i64 (y : Nat)) (a' := ?_) rfl (by kernel_rfl) ?_ rfl ?_ ?_
              rotate_left 1
              · intro w hSw
                (try dsimp only at hSw)
                go_simp
                first | done | (obtain ⟨u0, u1⟩ := hSw; simp [*])
              · (try simp only [Act.put, List.setIfInBounds_toArray, List.set_cons_zero, List.set_cons_succ])
                try rfl
              refine sched_take' (v := .bool false) (a' := ?_) rfl (by kernel_rfl) ?_ rfl ?_ ?_
              rotate_left 1
              · intro w hSw
                (try dsimp only at hSw)
                go_simp
                first | done | exact q2 | (simp [q2]; done) | (rw [q2])
              · (try simp only [Act.put, List.setIfInBounds_toArray, List.set_cons_zero, List.set_cons_succ])
                try rfl
              refine sched_take' (v := ?_) (a' := ?_) rfl (by kernel_rfl) ?_ rfl ?_ ?_
              rotate_left 2
              · intro w hSw
                (try dsimp only at hSw)
                go_simp
                try with_reducible rfl
              · (try simp only [Act.put, List.setIfInBounds_toArray, List.set_cons_zero, List.set_cons_succ])
                try rfl
              refine sched_skip' (a' := ?_) rfl (by kernel_rfl) rfl ?_ ?_
              rotate_left 1
              · (try simp only [Act.put, List.setIfInBounds_toArray, List.set_cons_zero, List.set_cons_succ])
                try rfl
              refine sched_take' (v := ?_) (a' := ?_) rfl (by kernel_rfl) ?_ rfl ?_ ?_
              rotate_left 2
              · intro w hSw
                (try dsimp only at hSw)
                go_simp
                try with_reducible rfl
              · (try simp only [Act.put, List.setIfInBounds_toArray, List.set_cons_zero, List.set_cons_succ])
                try rfl
              refine sched_take' (v := .bool false) (a' := ?_) rfl (by kernel_rfl) ?_ rfl ?_ ?_
              rotate_left 1
              · intro w hSw
                (try dsimp only at hSw)
                go_simp
                first | done | rfl | (simp; done)
              · (try simp only [Act.put, List.setIfInBounds_toArray, List.set_cons_zero, List.set_cons_succ])
                try rfl
              refine sched_take' (v := ?_) (a' := ?_) rfl (by kernel_rfl) ?_ rfl ?_ ?_
              rotate_left 2
              · intro w hSw
                (try dsimp only at hSw)
                go_simp
                try with_reducible rfl
              · (try simp only [Act.put, List.setIfInBounds_toArray, List.set_cons_zero, List.set_cons_succ])
                try rfl
              refine sched_done (hQ1.out _ _ ?_)
              go_wp2_with fail
              go_roundg j
              case rel => exact ⟨j, false, rfl, by omega, rfl, rfl, by rw [HLD.out]; simp [hlt3, he], X6.out.drew, P6.out.drew, Q6.out.drew, R6.out.call (Below.refl w6.heap.size w6).drew, B6.out.drew⟩
              case measure => omega
    · obtain rfl : k2 = 12 := by omega
      have hpl := HPL.out
      have hcp : k ≤ cp := HCP.out
      have HGP := Lib.hid (HGS.out p HPL.out HPX.out true HPT.out Ap cp hcp)
      have hpl2 : (p.length : Int) = (k : Int) := by omega
      go_wp2_with fail
      refine (HGP.out _ HLP.out).mono ?_
      rintro e w6 ⟨rfl, hz⟩
      have B6 := Lib.hid (HB.out.trans (hz.mono HB.out.size))
      clear hz x0 x1 x2
      go_wp2_with fail
      go_ret
      exact ⟨rfl, B6.out⟩

end Go.Proofs.YtjdnjhoddlalaaaDoor

namespace Go.Proofs.YtjdnjhoddlalaaaDoor
open Go.RowKit
open Pl
set_option linter.unusedSimpArgs false
set_option linter.unusedVariables false

attribute [local go_sem ↓] Go.wp_at_zero Go.wp_at_succ

/-- a structure, a text and some numbers that are drawn -/
def StFL (e : Ending) (w' : World) : Prop := ∃ (i : Int) (s r t : ByteArray) (zs : List Int) (A : Option Addr) (c : Nat), e = .returned (.tuple #[stV i s r, .string t, .slice A zs.length c]) ∧ s.size ≤ 100 ∧ r.size ≤ 100 ∧ t.size ≤ 64 ∧ zs.length ≤ 10 ∧ zs.length ≤ c ∧ LRow w' A zs
theorem num_le5 {m : Int} (h : m ∈ [4, 4, 3, 2, 5, 0]) : 0 ≤ m ∧ m ≤ 5 := by
  simp only [List.mem_cons, List.not_mem_nil, or_false] at h
  omega

set_option maxHeartbeats 8000000 in
set_option maxRecDepth 100000 in
theorem DrawHoldsAt_calls (A : Option Addr) (n cap : Nat) (w : World) (h : ByRow w A n) (hn : n ≤ 1048576) (hc : n ≤ cap) (hm : cap ≤ maxLen) :
    Calls Tryd.prog 9 #[.slice A n cap] w fun e w' => StFL e w' ∧ Below w.heap.size w w' := by
  obtain ⟨i0, hi, hz0, hz1, hz2⟩ := info_parts (P := Tryd.prog) (e := 3) (z := .int .i64 0) (size := 1) (bytes := 8) (by kernel_rfl)
  have Ho := Lib.hid (fun W h => l15Open_calls A n cap W h hn hc hm)
  have H0 := Lib.hid (h.call ((Below.refl w.heap.size w).alloc (Nat.le_refl _) (.cells #[.int .i64 0, .string (bs []), .string (bs [])] 24)))
  have Hso := Lib.hid (fun (rb n cap : Nat) (A : Option Addr) (W : World) (h : Rd W rb A n cap 0) => l1Open_calls rb A n cap 0 W h (by omega))
  have Hfo := Lib.hid (fun (rb n cap p : Nat) (A : Option Addr) (W : World) (h : Rd W rb A n cap p) (hp : p ≤ 10000) => l2Open_calls rb A n cap p W h (by omega))
  have Hpk0 := Lib.hid (show ∀ (rb n cap : Nat) (A : Option Addr) (k : Int) (q : Nat) (V : World), k ≤ 1000 → q ≤ 100000 → Rd V rb A n cap q → Calls Tryd.prog 46 #[.pointer (some ⟨rb, 0, none⟩), .int .i64 k] V fun e w' => PickP k e ∧ Rd w' rb A n cap (q + 1) ∧ V.grownBy w' (some rb) from fun rb n cap A k q V hk hq hr => pick_calls rb A n cap q k V hr (by omega) (by omega))
  have Hnum := Lib.hid (show ∀ (rb n cap : Nat) (A : Option Addr) (q g : Nat) (W : World), q ≤ 100000 → NCells W g [4, 4, 3, 2, 5, 0] → g ≠ rb → Rd W rb A n cap q → Calls Tryd.prog 45 #[.pointer (some ⟨rb, 0, none⟩), .slice (some ⟨g, 0, none⟩) 6 6] W fun e w' => (∃ k : Int, e = .returned (.int .i64 k) ∧ 0 ≤ k ∧ k ≤ 5) ∧ Rd w' rb A n cap (q + 1) ∧ W.grownBy w' (some rb) from
    fun rb n cap A q g W hq h1 h2 h3 => (num_calls rb A n cap q g 6 [4, 4, 3, 2, 5, 0] W h3 (by omega) (by simp) (by simp) h1 h2).mono fun e w' ⟨⟨m, h4, h5⟩, h6⟩ => ⟨⟨m, h4, num_le5 h5⟩, h6⟩)
  have Hnum2 := Lib.hid (show ∀ (rb n cap : Nat) (A : Option Addr) (q g : Nat) (W : World), q ≤ 100000 → NCells W g [-1, 8] → g ≠ rb → Rd W rb A n cap q → Calls Tryd.prog 45 #[.pointer (some ⟨rb, 0, none⟩), .slice (some ⟨g, 0, none⟩) 2 2] W fun e w' => (∃ k : Int, e = .returned (.int .i64 k)) ∧ Rd w' rb A n cap (q + 1) ∧ W.grownBy w' (some rb) from
    fun rb n cap A q g W hq h1 h2 h3 => (num_calls rb A n cap q g 2 [-1, 8] W h3 (by omega) (by simp) (by simp) h1 h2).mono fun e w' ⟨⟨m, h4, _⟩, h6⟩ => ⟨⟨m, h4⟩, h6⟩)
  have X0 := Lib.hid (Bx.new w 24 #[.int .i64 0, .string (bs []), .string (bs [])])
  have B0 := Lib.hid ((Below.refl w.heap.size w).alloc (Nat.le_refl _) (.cells #[.int .i64 0, .string (bs []), .string (bs [])] 24))
  clear h hn hc hm
  go_enter Tryd.func9, Tryd.ntmps9
  go_wp2_with fail
  refine (Ho.out _ H0.out).mono ?_
  rintro e w1 ⟨⟨A', n', cap', rfl, hr⟩, hb⟩
  have F1 := Lib.hid (Fr.new (rb := w.heap.size + 1) B0.out hr hb (by simp))
  have X1 := Lib.hid (X0.out.call hb)
  have Hpk := Lib.hid (Hpk0.out (w.heap.size + 1) n' cap' A')
  clear hr hb
  go_wp2_with fail
  refine (Hso.out _ _ _ _ _ F1.out.rd).mono ?_
  rintro e w2 ⟨⟨i, s, r, p2, rfl, _, hs, hr, hp2, hrd⟩, hg⟩
  have F2 := Lib.hid (F1.out.step hrd hg)
  have X2 := Lib.hid (X1.out.grown' hg (by first | (simp; done) | (simp; omega)))
  clear hrd hg
  have F3 := Lib.hid (F2.out.alloc (.cells #[.int .i64 i, .string s, .string r] 24))
  have X3 := Lib.hid (X2.out.alloc (.cells #[.int .i64 i, .string s, .string r] 24))
  have XA3 := Lib.hid (Bx.new w2 24 #[.int .i64 i, .string s, .string r])
  have HA := Lib.hid (show w.heap.size + 1 < w2.heap.size from F2.out.rd.box.lt)
  go_wp2_with fail
  refine (Hfo.out _ _ _ _ _ _ F3.out.rd (by omega)).mono ?_
  rintro e w4 ⟨⟨t, p4, rfl, ht, hp4, hrd⟩, hg⟩
  have F4 := Lib.hid (F3.out.step hrd hg)
  have X4 := Lib.hid (X3.out.grown' hg (by first | (simp; done) | (simp; omega)))
  have XA4 := Lib.hid (XA3.out.grown' hg (by have := HA.out; simp; omega))
  clear hrd hg
  have F5 := Lib.hid (F4.out.alloc (.cells #[] 3))
  have X5 := Lib.hid (X4.out.alloc (.cells #[] 3))
  have XA5 := Lib.hid (XA4.out.alloc (.cells #[] 3))
  have HO := Lib.hid (show w.heap.size + 1 < w4.heap.size from F4.out.rd.box.lt)
  have HB := Lib.hid (show w2.heap.size < w4.heap.size from XA4.out.lt)
  have O5 := Lib.hid (own_zero w4)
  have F6 := Lib.hid (F5.out.alloc (.cells #[.int .i64 4, .int .i64 4, .int .i64 3, .int .i64 2, .int .i64 5, .int .i64 0] 3))
  have X6 := Lib.hid (X5.out.alloc (.cells #[.int .i64 4, .int .i64 4, .int .i64 3, .int .i64 2, .int .i64 5, .int .i64 0] 3))
  have XA6 := Lib.hid (XA5.out.alloc (.cells #[.int .i64 4, .int .i64 4, .int .i64 3, .int .i64 2, .int .i64 5, .int .i64 0] 3))
  have O6 := Lib.hid (O5.out.alloc (.cells #[.int .i64 4, .int .i64 4, .int .i64 3, .int .i64 2, .int .i64 5, .int .i64 0] 3))
  have N6 := Lib.hid (ncells_new (w4.alloc (.cells #[] 3)) [4, 4, 3, 2, 5, 0] 3)
  go_wp2_with fail
  refine (Hnum.out _ _ _ _ p4 _ _ (by omega) (by have := N6.out; simpa using this) (by have := HO.out; simp; omega) F6.out.rd).mono ?_
  rintro e w7 ⟨⟨m, rfl, hm0, hm5⟩, hrd, hg⟩
  have Hs7 := Lib.hid (show w4.heap.size ≤ w7.heap.size from by have := hg.size; simp at this; omega)
  have F7 := Lib.hid (F6.out.step hrd hg)
  have X7 := Lib.hid (X6.out.grown' hg (by first | (simp; done) | (simp; omega)))
  have XA7 := Lib.hid (XA6.out.grown' hg (by have := HA.out; simp; omega))
  have O7 := Lib.hid (own_dw O6.out hg (by have := HO.out; omega))
  clear hrd hg
  obtain ⟨M, rfl⟩ : ∃ M : Nat, m = (M : Nat) := ⟨m.toNat, by omega⟩
  have hM : M ≤ 5 := by omega
  clear hm0 hm5
  go_wp2_with fail
  go_loopg [8, 9] M (fun c o nv wr => ∃ (j q p : Nat) (zs : List Int) (g cp : Nat), q = c ∧ j + q = M ∧ nv = .int .i64 (q : Nat) ∧ o = .slice (some ⟨g, 0, none⟩) j cp ∧ j ≤ cp ∧ zs.length = j ∧ p ≤ p4 + 1 + j ∧ wr.ownsRow w4.heap.size 3 1 (.slice (some ⟨g, 0, none⟩) j cp) j (intsV zs) ∧ Fr w (w.heap.size + 1) A' n' cap' p wr ∧ Bx wr w.heap.size 24 #[.int .i64 0, .string (bs []), .string (bs [])] ∧ Bx wr w2.heap.size 24 #[.int .i64 i, .string s, .string r] ∧ w4.heap.size ≤ wr.heap.size)
  case atStart => exact ⟨0, M, p4 + 1, [], w4.heap.size, 0, rfl, by omega, rfl, rfl, Nat.le_refl _, rfl, by omega, O7.out, F7.out, X7.out, XA7.out, Hs7.out⟩
  case round =>
    clear F1 F2 F3 F4 F5 F6 F7 X1 X2 X3 X4 X5 X6 X7 XA3 XA4 XA5 XA6 XA7 O5 O6 O7 N6 Hs7
    obtain ⟨j, q, p, zs, g, cp, hq, hj, rfl, rfl, hcp, hzl, hp, ho, hf, hx, hxa, hsz⟩ := hrel
    subst hq
    have F1 := Lib.hid hf
    have X1 := Lib.hid hx
    have XA1 := Lib.hid hxa
    have O1 := Lib.hid ho
    have Hsz := Lib.hid hsz
    have Hzl := Lib.hid hzl
    clear hf hx hxa ho hsz hzl
    obtain ⟨a0, a1, a2⟩ := box_load XA1.out
    rcases Nat.eq_zero_or_pos q with h0 | h0
    · subst h0
      obtain rfl : j = M := by omega
      clear a0 a1 a2
      go_wp2_with fail
      refine (Hpk.out 20 p _ (by omega) (by omega) F1.out.rd).mono ?_
      rintro e w2' ⟨⟨m, rfl, hm0, _, _⟩, hrd, hg⟩
      have Hsz2 := Lib.hid (show w4.heap.size ≤ w2'.heap.size from by have := hg.size; have := Hsz.out; omega)
      have F2 := Lib.hid (F1.out.step hrd hg)
      have X2 := Lib.hid (X1.out.grown' hg (by first | (simp; done) | (simp; omega)))
      have XA2 := Lib.hid (XA1.out.grown' hg (by have := HA.out; simp; omega))
      have O2 := Lib.hid (own_dw O1.out hg (by have := HO.out; omega))
      clear hrd hg
      by_cases e0 : m = 0
      · subst e0
        have F3 := Lib.hid (F2.out.alloc (.cells #[.int .i64 (-1), .int .i64 8] 3))
        have X3 := Lib.hid (X2.out.alloc (.cells #[.int .i64 (-1), .int .i64 8] 3))
        have XA3 := Lib.hid (XA2.out.alloc (.cells #[.int .i64 (-1), .int .i64 8] 3))
        have O3 := Lib.hid (O2.out.alloc (.cells #[.int .i64 (-1), .int .i64 8] 3))
        have N3 := Lib.hid (ncells_new w2' [-1, 8] 3)
        go_wp2_with fail
        refine (Hnum2.out _ _ _ _ (p + 1) _ _ (by omega) (by have := N3.out; simpa using this) (by have := HO.out; have := Hsz2.out; simp; omega) F3.out.rd).mono ?_
        rintro e w4' ⟨⟨x, rfl⟩, hrd, hg⟩
        have Hsz4 := Lib.hid (show w4.heap.size ≤ w4'.heap.size from by have e1 := hg.size; have e2 := Hsz2.out; simp at e1; omega)
        have F4 := Lib.hid (F3.out.step hrd hg)
        have X4 := Lib.hid (X3.out.grown' hg (by first | (simp; done) | (simp; omega)))
        have XA4 := Lib.hid (XA3.out.grown' hg (by have := HA.out; simp; omega))
        have O4 := Lib.hid (own_dw O3.out hg (by have := HO.out; omega))
        clear hrd hg
        go_wp2_with (at_builtin; refine wpList_append_own_at _ rfl (.tmp 36) (.tmp 40) 25 rfl w4.heap.size 3 i0 (.int .i64 0) 1 8 Tryd.underlying25 hi hz0 hz1 hz2 rfl (by decide) _ j (intsV zs) rfl (O4.out.alloc _) ⟨w4'.heap.size, 0, none⟩ 1 1 [.int .i64 x] rfl rfl (cell_one_new _ _ _) (ints_oneCell .i64 [x]) (by unfold maxLen; omega) (by omega) (by have := HB.out; have := Hsz4.out; first | omega | (simp; omega)) ?_; intro v5 w5 ho5 hg5 hn5 hat5; clear hn5 hat5; obtain ⟨g5, cp5, rfl⟩ := own_form ho5; obtain ⟨hcx1, hcx2, _, _⟩ := own_cap ho5; have F5 := Lib.hid ((F4.out.alloc (.cells #[.int .i64 x] 3)).app hg5 (fun j hj => by have := (O4.out.lt j hj).1; have := HO.out; omega)); have X5 := Lib.hid ((X4.out.alloc (.cells #[.int .i64 x] 3)).grown' hg5 (fun e => by have := (O4.out.lt _ e.symm).1; have := HO.out; omega)); have XA5 := Lib.hid ((XA4.out.alloc (.cells #[.int .i64 x] 3)).grown' hg5 (fun e => by have := (O4.out.lt _ e.symm).1; have := HA.out; have := HB.out; omega)); have O5 := Lib.hid (show w5.ownsRow w4.heap.size 3 1 (.slice (some ⟨g5, 0, none⟩) (j + 1) cp5) (j + 1) (intsV (zs ++ [x])) from by rw [show intsV (zs ++ [x]) = intsV zs ++ [.int .i64 x] by simp [intsV]]; exact ho5); clear ho5 hg5; obtain ⟨a0, a1, a2⟩ := box_load XA5.out; obtain ⟨c0, c1, c2⟩ := box_load X5.out; have f0 := X5.out.free 0; have f1 := X5.out.free 1; have f2 := X5.out.free 2; obtain ⟨q0, q1, q2⟩ := box_load (X5.out.puts (.int .i64 i) (.string s) (.string r)); have E1 := Lib.hid (below_puts F5.out.bel (Nat.le_refl _) (.int .i64 i) (.string s) (.string r)); have O99 := Lib.hid (own_far (p := ⟨w.heap.size, 2, none⟩) (own_far (p := ⟨w.heap.size, 1, none⟩) (own_far (p := ⟨w.heap.size, 0, none⟩) O5.out (fun g' hg' => by have := (O5.out.lt g' hg').1; have := HO.out; show g' ≠ w.heap.size; omega) (.int .i64 i)) (fun g' hg' => by have := (O5.out.lt g' hg').1; have := HO.out; show g' ≠ w.heap.size; omega) (.string s)) (fun g' hg' => by have := (O5.out.lt g' hg').1; have := HO.out; show g' ≠ w.heap.size; omega) (.string r)))
        refine bodyPost_ret (v := .tuple #[stV i s r, .string t, .slice (some ⟨g5, 0, none⟩) (j + 1) cp5]) ?_ rfl ⟨⟨i, s, r, t, (zs ++ [x]), _, _, by rw [show (zs ++ [x]).length = j + 1 by rw [List.length_append, Hzl.out]; rfl], hs, hr, ht, by rw [show (zs ++ [x]).length = j + 1 by rw [List.length_append, Hzl.out]; rfl]; omega, by rw [show (zs ++ [x]).length = j + 1 by rw [List.length_append, Hzl.out]; rfl]; omega, LRow_of O99.out⟩, E1.out⟩
        simp [results, Tryd.results9, go_sem, q0, q1, q2]
      · have f9 : (m == 0) = false := by rw [beq_eq_false_iff_ne]; exact e0
        obtain ⟨a0, a1, a2⟩ := box_load XA2.out
        obtain ⟨c0, c1, c2⟩ := box_load X2.out
        have f0 := X2.out.free 0
        have f1 := X2.out.free 1
        have f2 := X2.out.free 2
        obtain ⟨q0, q1, q2⟩ := box_load (X2.out.puts (.int .i64 i) (.string s) (.string r))
        have E1 := Lib.hid (below_puts F2.out.bel (Nat.le_refl _) (.int .i64 i) (.string s) (.string r))
        have O99 := Lib.hid (own_far (p := ⟨w.heap.size, 2, none⟩) (own_far (p := ⟨w.heap.size, 1, none⟩) (own_far (p := ⟨w.heap.size, 0, none⟩) O2.out (fun g' hg' => by have := (O2.out.lt g' hg').1; have := HO.out; show g' ≠ w.heap.size; omega) (.int .i64 i)) (fun g' hg' => by have := (O2.out.lt g' hg').1; have := HO.out; show g' ≠ w.heap.size; omega) (.string s)) (fun g' hg' => by have := (O2.out.lt g' hg').1; have := HO.out; show g' ≠ w.heap.size; omega) (.string r))
        go_wp2_with fail
        refine bodyPost_ret (v := .tuple #[stV i s r, .string t, .slice (some ⟨g, 0, none⟩) (j) cp]) ?_ rfl ⟨⟨i, s, r, t, zs, _, _, by rw [Hzl.out], hs, hr, ht, by rw [Hzl.out]; omega, by rw [Hzl.out]; omega, LRow_of O99.out⟩, E1.out⟩
        simp [results, Tryd.results9, go_sem, q0, q1, q2]
    · obtain ⟨q', rfl⟩ : ∃ q', q = q' + 1 := ⟨q - 1, by omega⟩
      have hq1 : (0 : Int) < ((q' + 1 : Nat) : Int) := by omega
      have hq2 : ((q' + 1 : Nat) : Int) - 1 = ((q' : Nat) : Int) := by omega
      have hq3 : (q' : Int) ≤ 5 := by omega
      go_wp2_with fail
      refine (Hpk.out _ p _ (by omega) (by omega) F1.out.rd).mono ?_
      rintro e w2' ⟨⟨x, rfl, _, _, _⟩, hrd, hg⟩
      have Hsz2 := Lib.hid (show w4.heap.size ≤ w2'.heap.size from by have := hg.size; have := Hsz.out; omega)
      clear a0 a1 a2
      have F2 := Lib.hid (F1.out.step hrd hg)
      have X2 := Lib.hid (X1.out.grown' hg (by first | (simp; done) | (simp; omega)))
      have XA2 := Lib.hid (XA1.out.grown' hg (by have := HA.out; simp; omega))
      have O2 := Lib.hid (own_dw O1.out hg (by have := HO.out; omega))
      clear hrd hg
      go_wp2_with (at_builtin; refine wpList_append_own_at _ rfl (.tmp 24) (.tmp 31) 25 rfl w4.heap.size 3 i0 (.int .i64 0) 1 8 Tryd.underlying25 hi hz0 hz1 hz2 rfl (by decide) _ j (intsV zs) rfl (O2.out.alloc _) ⟨w2'.heap.size, 0, none⟩ 1 1 [.int .i64 x] rfl rfl (cell_one_new _ _ _) (ints_oneCell .i64 [x]) (by unfold maxLen; omega) (by omega) (by have := HB.out; have := Hsz2.out; first | omega | (simp; omega)) ?_; intro v5 w5 ho5 hg5 hn5 hat5; clear hn5 hat5; obtain ⟨g5, cp5, rfl⟩ := own_form ho5; obtain ⟨hcx1, hcx2, _, _⟩ := own_cap ho5; have F3 := Lib.hid ((F2.out.alloc (.cells #[.int .i64 x] 3)).app hg5 (fun j hj => by have := (O2.out.lt j hj).1; have := HO.out; omega)); have X3 := Lib.hid ((X2.out.alloc (.cells #[.int .i64 x] 3)).grown' hg5 (fun e => by have := (O2.out.lt _ e.symm).1; have := HO.out; omega)); have XA3 := Lib.hid ((XA2.out.alloc (.cells #[.int .i64 x] 3)).grown' hg5 (fun e => by have := (O2.out.lt _ e.symm).1; have := HA.out; have := HB.out; omega)); have O3 := Lib.hid (show w5.ownsRow w4.heap.size 3 1 (.slice (some ⟨g5, 0, none⟩) (j + 1) cp5) (j + 1) (intsV (zs ++ [x])) from by rw [show intsV (zs ++ [x]) = intsV zs ++ [.int .i64 x] by simp [intsV]]; exact ho5); have Hsz5 := Lib.hid (show w4.heap.size ≤ w5.heap.size from by have e1 := hg5.size; have e2 := Hsz2.out; simp at e1; omega); clear ho5 hg5)
      go_roundg q'
      case rel => exact ⟨j + 1, q', p + 1, zs ++ [x], g5, cp5, rfl, by omega, by go_num, rfl, hcx1, by rw [List.length_append, Hzl.out]; rfl, by omega, O3.out, F3.out, X3.out, XA3.out, Hsz5.out⟩
      case measure => omega

end Go.Proofs.YtjdnjhoddlalaaaDoor

namespace Go.Proofs.YtjdnjhoddlalaaaDoor
open Go.RowKit
set_option linter.unusedVariables false

section
variable {md : Region.Mode} {ops : Array Oper}

/-- a part of the order -/
def schedPart (md : Region.Mode) (ops : Array Oper) : List (Nat × Bool) → Array Bool → Bool
  | [], _ => true
  | (i, true) :: is, listed => Region.free md ops listed i && ((Region.ready md ops listed).contains i && schedPart md ops is (listed.setIfInBounds i true))
  | (i, false) :: is, listed => (Region.ready md ops listed == [i]) && schedPart md ops is (listed.setIfInBounds i true)
/-- what is listed behind it -/
def layB : List (Nat × Bool) → Array Bool → Array Bool
  | [], l => l
  | (i, _) :: is, l => layB is (l.setIfInBounds i true)
theorem schedOk_app : ∀ (is1 is2 : List (Nat × Bool)) (l : Array Bool), schedPart md ops is1 l = true → schedOk md ops is2 (layB is1 l) = true → schedOk md ops (is1 ++ is2) l = true := by
  intro is1
  induction is1 with
  | nil => intro is2 l _ h; exact h
  | cons p is ih =>
    obtain ⟨i, b⟩ := p
    intro is2 l h1 h2
    cases b with
    | true =>
      simp only [schedPart, Bool.and_eq_true] at h1
      simp only [List.cons_append, schedOk, Bool.and_eq_true]
      exact ⟨h1.1, h1.2.1, ih is2 _ h1.2.2 h2⟩
    | false =>
      simp only [schedPart, Bool.and_eq_true] at h1
      simp only [List.cons_append, schedOk, Bool.and_eq_true]
      exact ⟨h1.1, ih is2 _ h1.2 h2⟩
theorem schedOk_cut (is1 is2 : List (Nat × Bool)) (l l' : Array Bool) (h1 : schedPart md ops is1 l = true) (hl : layB is1 l = l') (h2 : schedOk md ops is2 l' = true) : schedOk md ops (is1 ++ is2) l = true :=
  schedOk_app is1 is2 l h1 (by rw [hl]; exact h2)
end

end Go.Proofs.YtjdnjhoddlalaaaDoor
