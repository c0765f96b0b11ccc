/-
  Laws of the functions that the claim reaches, one after the other (packed by a program of the prover's: PtsS, WCount, SameI, PtsT, WSameIn). Conditions: texts below the reach.
-/
import Derived.Test.YtebjanjobfiloaaDoorPk6
import Derived.Test.YtebjanjobfiloaaDoorPk7
import Derived.Test.YtebjanjobfiloaaDoorPk2
set_option linter.unusedSimpArgs false
set_option linter.unusedVariables false

namespace Go.Proofs.YtebjanjobfiloaaDoor
open Go.RowKit
open Pl
set_option linter.unusedSimpArgs false
set_option linter.unusedVariables false

attribute [local go_sem ↓] Go.wp_at_zero Go.wp_at_succ

theorem pow_le {n w : Nat} (h8 : n ≤ 8) (hw : w ≤ 3) : n ^ w ≤ 512 := by
  have h1 : n ^ w ≤ 8 ^ w := Nat.pow_le_pow_left h8 w
  have h2 : 8 ^ w ≤ 8 ^ 3 := Nat.pow_le_pow_right (by omega) hw
  omega

set_option maxHeartbeats 1000000 in
set_option maxRecDepth 100000 in
theorem l3Power_calls (a : St) (ha : a.ok) (wd : Nat) (hw : wd ≤ 3) (w : World) :
    Calls Tryd.prog 45 #[stA a, .int .i64 (wd : Nat)] w fun e w' => e = .returned (.int .i64 (a.n ^ wd : Nat)) ∧ Below w.heap.size w w' := by
  have h8 := ha.hi
  have hB := (Below.refl w.heap.size w).alloc (Nat.le_refl _) (.cells #[.int .i64 (a.n : Int), .string (bs a.set), .string (bs a.rel)] 28)
  have HB := Lib.hid hB
  obtain ⟨k0, k1, k2⟩ := box_load (Bx.new w 28 #[.int .i64 (a.n : Int), .string (bs a.set), .string (bs a.rel)])
  clear hB
  unfold stA
  go_enter Tryd.func45, Tryd.ntmps45
  go_wp2_with fail
  go_loopg [5, 6] wd (fun c o i wr => ∃ k : Nat, k + c = wd ∧ i = .int .i64 (k : Nat) ∧ o = .int .i64 (a.n ^ k : Nat) ∧ wr = (w.alloc (.cells #[.int .i64 (a.n : Int), .string (bs a.set), .string (bs a.rel)] 28)))
  case atStart => exact ⟨0, by omega, rfl, rfl, rfl⟩
  case round =>
    obtain ⟨k, hk, rfl, rfl, rfl⟩ := hrel
    have hle := pow_le h8 (show k ≤ 3 by omega)
    have hps : a.n ^ (k + 1) = a.n ^ k * a.n := Nat.pow_succ ..
    obtain ⟨q, hq⟩ : ∃ q, q = a.n ^ k := ⟨_, rfl⟩
    rw [← hq] at hle hps ⊢
    have Hps := Lib.hid hps
    have Hq := Lib.hid hq
    have hmul : wrap64 ((q : Int) * (a.n : Int)) = ((q * a.n : Nat) : Int) := by
      have h1 : q * a.n ≤ 512 * 8 := Nat.mul_le_mul hle h8
      rw [← Int.natCast_mul]
      unfold wrap64; omega
    clear hq hps
    by_cases hlt : k < wd
    · have Hmul := Lib.hid hmul
      clear hmul
      go_wp2_with fail
      go_roundg (wd - k - 1)
      case rel => exact ⟨k + 1, by omega, by go_num, congrArg (Value.int .i64) (by rw [Hps.out]; first | exact Hmul.out | (rw [← Hmul.out]; rfl)), rfl⟩
      case measure => omega
    · go_wp2_with fail
      go_ret
      obtain rfl : k = wd := by omega
      exact ⟨congrArg Ending.returned (show Value.int .i64 (q : Nat) = .int .i64 (a.n ^ k : Nat) by rw [Hq.out]), HB.out⟩

set_option maxHeartbeats 2000000 in
set_option maxRecDepth 100000 in
theorem l3Point_calls (a : St) (ha : a.ok) (wd k : Nat) (hw : wd ≤ 3) (hk : k ≤ 512) (w : World) :
    Calls Tryd.prog 46 #[stA a, .int .i64 (k : Nat), .int .i64 (wd : Nat)] w fun e w' => e = .returned (.agg (envA4 (envL (ptK a.n wd k)))) ∧ Below w.heap.size w w' := by
  have h8 := ha.hi
  have hlo := ha.lo
  have XS := Lib.hid (((Bx.new w 28 #[.int .i64 (a.n : Int), .string (bs a.set), .string (bs a.rel)]).alloc (.cells #[.int .i64 0, .int .i64 0, .int .i64 0, .int .i64 0] 46)).alloc (.cells #[.int .i64 0, .int .i64 0, .int .i64 0, .int .i64 0] 46))
  have XR := Lib.hid (show Bx ((((w.alloc (.cells #[.int .i64 (a.n : Int), .string (bs a.set), .string (bs a.rel)] 28))).alloc (.cells #[.int .i64 0, .int .i64 0, .int .i64 0, .int .i64 0] 46)).alloc (.cells #[.int .i64 0, .int .i64 0, .int .i64 0, .int .i64 0] 46)) (w.heap.size + 1) 46 #[.int .i64 0, .int .i64 0, .int .i64 0, .int .i64 0] from (bx_two w (.cells #[.int .i64 (a.n : Int), .string (bs a.set), .string (bs a.rel)] 28) #[.int .i64 0, .int .i64 0, .int .i64 0, .int .i64 0]).alloc _)
  have XO := Lib.hid (show Bx ((((w.alloc (.cells #[.int .i64 (a.n : Int), .string (bs a.set), .string (bs a.rel)] 28))).alloc (.cells #[.int .i64 0, .int .i64 0, .int .i64 0, .int .i64 0] 46)).alloc (.cells #[.int .i64 0, .int .i64 0, .int .i64 0, .int .i64 0] 46)) (w.heap.size + 1 + 1) 46 #[.int .i64 ((ptE a.n wd k 0) 0 : Nat), .int .i64 ((ptE a.n wd k 0) 1 : Nat), .int .i64 ((ptE a.n wd k 0) 2 : Nat), .int .i64 ((ptE a.n wd k 0) 3 : Nat)] from by
    have h := bx_two (w.alloc (.cells #[.int .i64 (a.n : Int), .string (bs a.set), .string (bs a.rel)] 28)) (.cells #[.int .i64 0, .int .i64 0, .int .i64 0, .int .i64 0] 46) #[.int .i64 0, .int .i64 0, .int .i64 0, .int .i64 0] (t := 46)
    rw [World.size_alloc] at h
    simp only [ptE_zero]
    exact h)
  have BV := Lib.hid (show Below w.heap.size w ((((w.alloc (.cells #[.int .i64 (a.n : Int), .string (bs a.set), .string (bs a.rel)] 28))).alloc (.cells #[.int .i64 0, .int .i64 0, .int .i64 0, .int .i64 0] 46)).alloc (.cells #[.int .i64 0, .int .i64 0, .int .i64 0, .int .i64 0] 46)) from (((Below.refl _ _).alloc (Nat.le_refl _) _).alloc (by simp) _).alloc (by simp; omega) _)
  have hw3 : (wd : Int) ≤ 3 := by omega
  unfold stA
  go_enter Tryd.func46, Tryd.ntmps46
  go_wp2_with fail
  go_loopg [1, 8] wd (fun c nv i1 wr => ∃ j q : Nat, q = c ∧ j + q = wd ∧ i1 = .int .i64 ((q : Int) - 1) ∧ nv = .int .i64 (k / a.n ^ j : Nat) ∧ Bx wr w.heap.size 28 #[.int .i64 (a.n : Int), .string (bs a.set), .string (bs a.rel)] ∧ Bx wr (w.heap.size + 1) 46 #[.int .i64 0, .int .i64 0, .int .i64 0, .int .i64 0] ∧ Bx wr (w.heap.size + 1 + 1) 46 #[.int .i64 ((ptE a.n wd k j) 0 : Nat), .int .i64 ((ptE a.n wd k j) 1 : Nat), .int .i64 ((ptE a.n wd k j) 2 : Nat), .int .i64 ((ptE a.n wd k j) 3 : Nat)] ∧ Below w.heap.size w wr)
  case atStart => exact ⟨0, wd, rfl, by omega, rfl, by simp, XS.out, XR.out, XO.out, BV.out⟩
  case round =>
    obtain ⟨j, q, hqc, hj, rfl, rfl, hxs, hxr, hxo, hbl⟩ := hrel
    have HS := Lib.hid hxs
    have HR := Lib.hid hxr
    have HO := Lib.hid hxo
    have HB := Lib.hid hbl
    clear hxs hxr hxo hbl
    obtain ⟨m0, m1, m2⟩ := box_load HS.out
    rcases Nat.eq_zero_or_pos (wd - j) with h0 | h0
    · obtain rfl : j = wd := by omega
      have hc0 : q = 0 := by omega
      subst hc0 hqc
      rw [show (((0 : Nat) : Int) - 1) = -1 from rfl]
      have d0 := HO.out.cell 0
      have d1 := HO.out.cell 1
      have d2 := HO.out.cell 2
      have d3 := HO.out.cell 3
      have e0 := HR.out.free 0
      have e1 := HR.out.free 1
      have e2 := HR.out.free 2
      have e3 := HR.out.free 3
      have r0 := HR.out.cell 0
      have r1 := HR.out.cell 1
      have r2 := HR.out.cell 2
      have r3 := HR.out.cell 3
      simp only [List.getElem?_toArray, List.getElem?_cons_zero, List.getElem?_cons_succ] at d0 d1 d2 d3 r0 r1 r2 r3
      obtain ⟨E, hE⟩ : ∃ E, E = ptE a.n j k j := ⟨_, rfl⟩
      have hEE : E = envL (ptK a.n j k) := by rw [hE]; exact ptE_all hlo j k
      rw [← hE] at d0 d1 d2 d3
      have HE := Lib.hid hEE
      clear hE hEE
      go_wp2_with fail
      have x4 := (((HR.out.set 0 (.int .i64 (E 0 : Nat))).set 1 (.int .i64 (E 1 : Nat))).set 2 (.int .i64 (E 2 : Nat))).set 3 (.int .i64 (E 3 : Nat))
      have q0 := x4.cell 0
      have q1 := x4.cell 1
      have q2 := x4.cell 2
      have q3 := x4.cell 3
      simp at q0 q1 q2 q3
      refine bodyPost_ret (v := .agg (envA4 (envL (ptK a.n j k)))) ?_ rfl ⟨rfl, ?_⟩
      · rw [← HE.out]
        simp [results, Tryd.results46, go_sem, q0, q1, q2, q3]
        rfl
      · exact (((HB.out.setCell (by simp) _).setCell (by simp) _).setCell (by simp) _).setCell (by simp) _
    · obtain ⟨p, hp⟩ : ∃ p, q = p + 1 := ⟨q - 1, by omega⟩
      subst hp hqc
      have hpi : (((p + 1 : Nat) : Int) - 1) = (p : Int) := by omega
      rw [hpi]
      have hp4 : p < 4 := by omega
      have hp4i : (p : Int) < 4 := by omega
      have hp0i : (0 : Int) ≤ (p : Int) := by omega
      have hen := ptE_succ (n := a.n) (w := wd) (k := k) (j := j) hp4 (by omega)
      have hdd : k / a.n ^ (j + 1) = k / a.n ^ j / a.n := by rw [Nat.pow_succ, Nat.div_div_eq_div_mul]
      have hkl : k / a.n ^ j ≤ k := Nat.div_le_self _ _
      obtain ⟨K, hK⟩ : ∃ K, K = k / a.n ^ j := ⟨_, rfl⟩
      rw [← hK] at hen hdd hkl ⊢
      have hmod : (K : Int).tmod (a.n : Int) = ((K % a.n : Nat) : Int) := by rw [Int.ofNat_tmod]
      have hdiv : (K : Int).tdiv (a.n : Int) = ((K / a.n : Nat) : Int) := by rw [Int.ofNat_tdiv]
      have hml : K % a.n < a.n := Nat.mod_lt _ hlo
      have hdl : K / a.n ≤ K := Nat.div_le_self _ _
      have hn0 : ¬ (a.n : Int) = 0 := by omega
      have hn0b : ((a.n : Int) == 0) = false := by rw [beq_eq_false_iff_ne]; exact hn0
      have fv := HO.out.free p
      have cv := (HO.out.cell p).trans (env_at (ptE a.n wd k j) ⟨p, hp4⟩)
      have XS1 := Lib.hid (show Bx (wr.setCell ⟨w.heap.size + 1 + 1, p, none⟩ (.int .i64 (K % a.n : Nat))) w.heap.size 28 #[.int .i64 (a.n : Int), .string (bs a.set), .string (bs a.rel)] from HS.out.far (by simp; omega) _)
      have XR1 := Lib.hid (show Bx (wr.setCell ⟨w.heap.size + 1 + 1, p, none⟩ (.int .i64 (K % a.n : Nat))) (w.heap.size + 1) 46 #[.int .i64 0, .int .i64 0, .int .i64 0, .int .i64 0] from HR.out.far (by simp) _)
      have XO1 := Lib.hid (show Bx (wr.setCell ⟨w.heap.size + 1 + 1, p, none⟩ (.int .i64 (K % a.n : Nat))) (w.heap.size + 1 + 1) 46 (envA4 (ptE a.n wd k (j + 1))) from by
        have := HO.out.set p (.int .i64 (K % a.n : Nat))
        rw [show (#[.int .i64 ((ptE a.n wd k j) 0 : Nat), .int .i64 ((ptE a.n wd k j) 1 : Nat), .int .i64 ((ptE a.n wd k j) 2 : Nat), .int .i64 ((ptE a.n wd k j) 3 : Nat)] : Array Value).setIfInBounds p (.int .i64 (K % a.n : Nat)) = envA4 (ptE a.n wd k (j + 1)) from (envA_upd (ptE a.n wd k j) ⟨p, hp4⟩ (K % a.n)).trans (by rw [hen])] at this
        exact this)
      have B1 := Lib.hid (show Below w.heap.size w (wr.setCell ⟨w.heap.size + 1 + 1, p, none⟩ (.int .i64 (K % a.n : Nat))) from HB.out.setCell (by simp; omega) _)
      obtain ⟨t0, t1, t2⟩ := box_load XS1.out
      obtain ⟨M, hM⟩ : ∃ M, M = K % a.n := ⟨_, rfl⟩
      obtain ⟨D, hD⟩ : ∃ D, D = K / a.n := ⟨_, rfl⟩
      simp only [← hM, ← hD] at *
      have Hdd := Lib.hid hdd
      clear hen hM hD hdd hK
      go_wp2_with fail
      go_roundg p
      case rel => exact ⟨j + 1, p, rfl, by omega, by go_num, by rw [Hdd.out], XS1.out, XR1.out, XO1.out, B1.out⟩
      case measure => omega

set_option maxHeartbeats 4000000 in
set_option maxRecDepth 100000 in
theorem CountPoints_spec (i : Int) (s r f : ByteArray) (x : Int) (w : World) (hs : s.size ≤ maxLen) (hr : r.size ≤ maxLen) (hf : f.size ≤ maxLen) :
    Calls Tryd.prog 24 #[stV i s r, .string f, .int .i64 x] w fun e w' => e = .returned (.int .i64 (cntV i s r f x)) ∧ Below w.heap.size w w' := by
  have B0 := Lib.hid (show Below w.heap.size w (w.alloc (.cells #[.int .i64 i, .string s, .string r] 28)) from (Below.refl _ _).alloc (Nat.le_refl _) _)
  have Xa := Lib.hid (Bx.new w 28 #[.int .i64 i, .string s, .string r])
  have cin := fun W => l1In_calls x 0 3 W
  by_cases hx : 0 ≤ x ∧ x ≤ 3
  case neg =>
    have hp : ptB i s r f x = false := by
      by_cases h0 : 0 ≤ x
      · exact pt_big fun h3 => hx ⟨h0, h3⟩
      · exact pt_neg h0
    have hb : (decide (0 ≤ x) && decide (x ≤ 3)) = false := by
      by_cases h0 : 0 ≤ x
      · rw [decide_eq_false (fun h3 => hx ⟨h0, h3⟩)]; simp
      · rw [decide_eq_false h0]; rfl
    unfold cntV
    rw [hp]
    simp only [hb] at cin
    have CI := Lib.hid cin
    clear cin hx hp hb hs hr hf
    go_enter Tryd.func24, Tryd.ntmps24
    go_wp2_with fail
    refine (CI.out _).mono ?_
    rintro e w1 ⟨rfl, rfl⟩
    go_wp2_with fail
    go_ret
    exact ⟨rfl, B0.out⟩
  case pos =>
  obtain ⟨k, rfl⟩ : ∃ k : Nat, x = (k : Nat) := ⟨x.toNat, by omega⟩
  have hwk : k ≤ 3 := by omega
  have hb : (decide ((0 : Int) ≤ (k : Nat)) && decide (((k : Nat) : Int) ≤ 3)) = true := by rw [decide_eq_true hx.1, decide_eq_true hx.2]; rfl
  simp only [hb] at cin
  have CI := Lib.hid cin
  have cr := fun W => l3Ready_calls i s r f k W hs hr hf (by omega)
  have hk3i : (k : Int) ≤ 3 := hx.2
  clear cin hx hb hs hr hf
  unfold cntV
  cases hry : rdyB i s r f k
  case false =>
    rw [show ptB i s r f (k : Nat) = false by rw [pt_nat _ _ _ _ hwk, hry]]
    simp only [hry] at cr
    have CR := Lib.hid cr
    clear cr hry
    obtain ⟨k0, k1, k2⟩ := box_load Xa.out
    go_enter Tryd.func24, Tryd.ntmps24
    go_wp2_with fail
    refine (CI.out _).mono ?_
    rintro e w1 ⟨rfl, rfl⟩
    go_wp2_with fail
    refine (CR.out _).mono ?_
    rintro e w1 ⟨rfl, hz⟩
    have B1 := Lib.hid (B0.out.trans (hz.mono B0.out.size))
    clear hz k0 k1 k2
    go_wp2_with fail
    go_ret
    exact ⟨rfl, B1.out⟩
  case true =>
    have hp : ptB i s r f (k : Nat) = true := by rw [pt_nat _ _ _ _ hwk, hry]
    obtain ⟨a, g, ha, rfl, rfl, rfl, hfm, hs4⟩ := rdy_fm hry
    simp only [hry] at cr
    have CR := Lib.hid cr
    rw [ptL_yes hfm hp, hp]
    obtain ⟨PP, hPP⟩ : ∃ PP : List Nat → Bool, PP = fun l => g.holds a (envL l) := ⟨_, rfl⟩
    rw [← hPP]
    have h8 := ha.hi
    have hlo := ha.lo
    have hpl := pow_le h8 hwk
    have cw := fun W => l3Power_calls a ha k hwk W
    have cp := fun (j : Nat) W (hj : j < a.n ^ k) => l3Point_calls a ha k j hwk (by omega) W
    have ct := fun (j : Nat) W => l2True_calls a ha f g (envL (ptK a.n k j)) W hfm hs4 (env_lt ha (ptK_lt hlo k j))
    have hall := cntK_all hlo PP k
    have hcs := fun j => cntK_succ PP a.n k j
    have hcl := fun j => cntK_le PP a.n k j
    obtain ⟨Q, hQ⟩ : ∃ Q, Q = a.n ^ k := ⟨_, rfl⟩
    simp only [← hQ] at cw cp hall hpl
    have ct2 : ∀ (j : Nat) (W : World), Calls Tryd.prog 34 #[.agg #[.int .i64 (a.n : Int), .string (bs a.set), .string (bs a.rel)], .string f, .agg (envA4 (envL (ptK a.n k j)))] W fun ed w' => ed = .returned (.bool (PP (ptK a.n k j))) ∧ Below W.heap.size W w' := fun j W => by rw [hPP]; exact ct j W
    unfold stA at cw cp
    have CW := Lib.hid cw
    have CP := Lib.hid cp
    have CT := Lib.hid ct2
    have Hall := Lib.hid hall
    have Hcs := Lib.hid hcs
    have Hcl := Lib.hid hcl
    clear cr hry hp hfm cw cp ct ct2 hPP hall hcs hcl hQ
    obtain ⟨k0, k1, k2⟩ := box_load Xa.out
    go_enter Tryd.func24, Tryd.ntmps24
    go_wp2_with fail
    refine (CI.out _).mono ?_
    rintro e w1 ⟨rfl, rfl⟩
    go_wp2_with fail
    refine (CR.out _).mono ?_
    rintro e w1 ⟨rfl, hz⟩
    have B1 := Lib.hid (B0.out.trans (hz.mono B0.out.size))
    have X1 := Lib.hid (Xa.out.call hz)
    clear hz k0 k1 k2
    go_wp2_with fail
    go_loopg [7, 8] Q (fun c cn xi wr => ∃ j : Nat, j + c = Q ∧ xi = .int .i64 (j : Nat) ∧ cn = .int .i64 (cntK PP a.n k j : Nat) ∧ Bx wr w.heap.size 28 #[.int .i64 (a.n : Int), .string (bs a.set), .string (bs a.rel)] ∧ Below w.heap.size w wr)
    case atStart => exact ⟨0, by omega, rfl, rfl, X1.out, B1.out⟩
    case round =>
      clear X1 B1
      obtain ⟨j, hj, rfl, rfl, hxs, hbl⟩ := hrel
      have HS := Lib.hid hxs
      have HB := Lib.hid hbl
      clear hxs hbl
      obtain ⟨m0, m1, m2⟩ := box_load HS.out
      have hle := Hcl.out j
      have hsc := Hcs.out j
      obtain ⟨Z, hZ⟩ : ∃ Z, Z = cntK PP a.n k j := ⟨_, rfl⟩
      rw [← hZ] at hle hsc ⊢
      have HZ := Lib.hid hZ
      clear hZ
      by_cases hjl : j < Q
      · have cpj := fun W => CP.out j W hjl
        have ctj := fun W => CT.out j W
        obtain ⟨L, hL⟩ : ∃ L, L = ptK a.n k j := ⟨_, rfl⟩
        rw [← hL] at hsc
        simp only [← hL] at cpj ctj
        have CPj := Lib.hid cpj
        have hjlt : (j : Int) < (Q : Int) := by omega
        clear cpj hL
        cases hq : PP L with
        | false =>
          rw [hq] at hsc
          simp only [hq] at ctj
          have CTj := Lib.hid ctj
          have Hsc := Lib.hid hsc
          clear hsc ctj hq
          go_upto_region 7 with (go_at_call 45; refine (CW.out _).mono ?_; rintro e w2 ⟨rfl, hz⟩; have B2 := Lib.hid (HB.out.trans (hz.mono HB.out.size)).drew; have X2 := Lib.hid (HS.out.call hz).drew; clear hz m0 m1 m2; obtain ⟨p0, p1, p2⟩ := box_load X2.out)
          have q0 : w2.cell? ⟨w.heap.size, 0, none⟩ = some (.int .i64 (a.n : Int)) := p0
          have q1 : w2.cell? ⟨w.heap.size, 1, none⟩ = some (.string (bs a.set)) := p1
          have q2 : w2.cell? ⟨w.heap.size, 2, none⟩ = some (.string (bs a.rel)) := p2
          refine region_sched [(0, true), (1, true), (2, true), (3, true), (4, true), (5, false), (6, false)] (fun w' : World => w'.cell? ⟨w.heap.size, 0, none⟩ = some (.int .i64 (a.n : Int)) ∧ w'.cell? ⟨w.heap.size, 1, none⟩ = some (.string (bs a.set)) ∧ w'.cell? ⟨w.heap.size, 2, none⟩ = some (.string (bs a.rel))) (by kernel_rfl) (by kernel_rfl) (by kernel_rfl) (by kernel_rfl) (fun _ _ _ _ h => h) ?_ (fun Q1 hQ1 => ?_)
          · exact ⟨q0, q1, q2⟩
          try simp only [List.append]
          refine sched_take' (v := .agg #[.int .i64 (a.n : Int), .string (bs a.set), .string (bs a.rel)]) (a' := ?_) rfl (by kernel_rfl) ?_ rfl ?_ ?_
          rotate_left 1
          · intro w hSw
            (try dsimp only at hSw)
            go_simp
            first | done | (obtain ⟨u0, u1, u2⟩ := hSw; simp [*])
          · (try simp only [Act.put, List.setIfInBounds_toArray, List.set_cons_zero, List.set_cons_succ])
            try rfl
          refine sched_take' (v := ?_) (a' := ?_) rfl (by kernel_rfl) ?_ rfl ?_ ?_
          rotate_left 2
          · intro w hSw
            (try dsimp only at hSw)
            go_simp
            try with_reducible rfl
          · (try simp only [Act.put, List.setIfInBounds_toArray, List.set_cons_zero, List.set_cons_succ])
            try rfl
          refine sched_take' (v := .agg #[.int .i64 (a.n : Int), .string (bs a.set), .string (bs a.rel)]) (a' := ?_) rfl (by kernel_rfl) ?_ rfl ?_ ?_
          rotate_left 1
          · intro w hSw
            (try dsimp only at hSw)
            go_simp
            first | done | (obtain ⟨u0, u1, u2⟩ := hSw; simp [*])
          · (try simp only [Act.put, List.setIfInBounds_toArray, List.set_cons_zero, List.set_cons_succ])
            try rfl
          refine sched_take' (v := ?_) (a' := ?_) rfl (by kernel_rfl) ?_ rfl ?_ ?_
          rotate_left 2
          · intro w hSw
            (try dsimp only at hSw)
            go_simp
            try with_reducible rfl
          · (try simp only [Act.put, List.setIfInBounds_toArray, List.set_cons_zero, List.set_cons_succ])
            try rfl
          refine sched_take' (v := ?_) (a' := ?_) rfl (by kernel_rfl) ?_ rfl ?_ ?_
          rotate_left 2
          · intro w hSw
            (try dsimp only at hSw)
            go_simp
            try with_reducible rfl
          · (try simp only [Act.put, List.setIfInBounds_toArray, List.set_cons_zero, List.set_cons_succ])
            try rfl
          refine sched_call rfl (by kernel_rfl) (fun K1 hK1 => ?_)
          go_simp
          refine (CPj.out _).mono ?_
          rintro ed w3 ⟨rfl, hz⟩
          have B3 := Lib.hid (B2.out.trans (hz.mono B2.out.size))
          have X3 := Lib.hid (X2.out.call hz)
          clear hz
          obtain ⟨r0, r1, r2⟩ := box_load X3.out
          go_wp2_with fail
          refine hK1.out _ _ ?_ (sched_lay (a' := ?_) ?_ ?_)
          · exact ⟨r0, r1, r2⟩
          rotate_left 1
          · (try simp only [Act.put, List.getElem_toArray, List.getElem_cons_succ, List.getElem_cons_zero, List.setIfInBounds_toArray, List.set_cons_zero, List.set_cons_succ])
            try rfl
          clear hK1 K1
          refine sched_call rfl (by kernel_rfl) (fun K1 hK1 => ?_)
          go_simp
          refine (CTj.out _).mono ?_
          rintro ed w4 ⟨rfl, hz⟩
          have B4 := Lib.hid (B3.out.trans (hz.mono B3.out.size))
          have X4 := Lib.hid (X3.out.call hz)
          clear hz
          obtain ⟨t0, t1, t2⟩ := box_load X4.out
          go_wp2_with fail
          refine hK1.out _ _ ?_ (sched_lay (a' := ?_) ?_ ?_)
          · exact ⟨t0, t1, t2⟩
          rotate_left 1
          · (try simp only [Act.put, List.getElem_toArray, List.getElem_cons_succ, List.getElem_cons_zero, List.setIfInBounds_toArray, List.set_cons_zero, List.set_cons_succ])
            try rfl
          clear hK1 K1
          refine sched_done (hQ1.out _ _ ?_)
          go_wp2_with fail
          go_roundg (Q - j - 1)
          case rel => exact ⟨j + 1, by omega, by go_num, by rw [Hsc.out]; rfl, X4.out, B4.out⟩
          case measure => omega
        | true =>
          rw [hq] at hsc
          simp only [hq] at ctj
          have CTj := Lib.hid ctj
          have Hsc := Lib.hid hsc
          clear hsc ctj hq
          go_upto_region 7 with (go_at_call 45; refine (CW.out _).mono ?_; rintro e w2 ⟨rfl, hz⟩; have B2 := Lib.hid (HB.out.trans (hz.mono HB.out.size)).drew; have X2 := Lib.hid (HS.out.call hz).drew; clear hz m0 m1 m2; obtain ⟨p0, p1, p2⟩ := box_load X2.out)
          have q0 : w2.cell? ⟨w.heap.size, 0, none⟩ = some (.int .i64 (a.n : Int)) := p0
          have q1 : w2.cell? ⟨w.heap.size, 1, none⟩ = some (.string (bs a.set)) := p1
          have q2 : w2.cell? ⟨w.heap.size, 2, none⟩ = some (.string (bs a.rel)) := p2
          refine region_sched [(0, true), (1, true), (2, true), (3, true), (4, true), (5, false), (6, false)] (fun w' : World => w'.cell? ⟨w.heap.size, 0, none⟩ = some (.int .i64 (a.n : Int)) ∧ w'.cell? ⟨w.heap.size, 1, none⟩ = some (.string (bs a.set)) ∧ w'.cell? ⟨w.heap.size, 2, none⟩ = some (.string (bs a.rel))) (by kernel_rfl) (by kernel_rfl) (by kernel_rfl) (by kernel_rfl) (fun _ _ _ _ h => h) ?_ (fun Q1 hQ1 => ?_)
          · exact ⟨q0, q1, q2⟩
          try simp only [List.append]
          refine sched_take' (v := .agg #[.int .i64 (a.n : Int), .string (bs a.set), .string (bs a.rel)]) (a' := ?_) rfl (by kernel_rfl) ?_ rfl ?_ ?_
          rotate_left 1
          · intro w hSw
            (try dsimp only at hSw)
            go_simp
            first | done | (obtain ⟨u0, u1, u2⟩ := hSw; simp [*])
          · (try simp only [Act.put, List.setIfInBounds_toArray, List.set_cons_zero, List.set_cons_succ])
            try rfl
          refine sched_take' (v := ?_) (a' := ?_) rfl (by kernel_rfl) ?_ rfl ?_ ?_
          rotate_left 2
          · intro w hSw
            (try dsimp only at hSw)
            go_simp
            try with_reducible rfl
          · (try simp only [Act.put, List.setIfInBounds_toArray, List.set_cons_zero, List.set_cons_succ])
            try rfl
          refine sched_take' (v := .agg #[.int .i64 (a.n : Int), .string (bs a.set), .string (bs a.rel)]) (a' := ?_) rfl (by kernel_rfl) ?_ rfl ?_ ?_
          rotate_left 1
          · intro w hSw
            (try dsimp only at hSw)
            go_simp
            first | done | (obtain ⟨u0, u1, u2⟩ := hSw; simp [*])
          · (try simp only [Act.put, List.setIfInBounds_toArray, List.set_cons_zero, List.set_cons_succ])
            try rfl
          refine sched_take' (v := ?_) (a' := ?_) rfl (by kernel_rfl) ?_ rfl ?_ ?_
          rotate_left 2
          · intro w hSw
            (try dsimp only at hSw)
            go_simp
            try with_reducible rfl
          · (try simp only [Act.put, List.setIfInBounds_toArray, List.set_cons_zero, List.set_cons_succ])
            try rfl
          refine sched_take' (v := ?_) (a' := ?_) rfl (by kernel_rfl) ?_ rfl ?_ ?_
          rotate_left 2
          · intro w hSw
            (try dsimp only at hSw)
            go_simp
            try with_reducible rfl
          · (try simp only [Act.put, List.setIfInBounds_toArray, List.set_cons_zero, List.set_cons_succ])
            try rfl
          refine sched_call rfl (by kernel_rfl) (fun K1 hK1 => ?_)
          go_simp
          refine (CPj.out _).mono ?_
          rintro ed w3 ⟨rfl, hz⟩
          have B3 := Lib.hid (B2.out.trans (hz.mono B2.out.size))
          have X3 := Lib.hid (X2.out.call hz)
          clear hz
          obtain ⟨r0, r1, r2⟩ := box_load X3.out
          go_wp2_with fail
          refine hK1.out _ _ ?_ (sched_lay (a' := ?_) ?_ ?_)
          · exact ⟨r0, r1, r2⟩
          rotate_left 1
          · (try simp only [Act.put, List.getElem_toArray, List.getElem_cons_succ, List.getElem_cons_zero, List.setIfInBounds_toArray, List.set_cons_zero, List.set_cons_succ])
            try rfl
          clear hK1 K1
          refine sched_call rfl (by kernel_rfl) (fun K1 hK1 => ?_)
          go_simp
          refine (CTj.out _).mono ?_
          rintro ed w4 ⟨rfl, hz⟩
          have B4 := Lib.hid (B3.out.trans (hz.mono B3.out.size))
          have X4 := Lib.hid (X3.out.call hz)
          clear hz
          obtain ⟨t0, t1, t2⟩ := box_load X4.out
          go_wp2_with fail
          refine hK1.out _ _ ?_ (sched_lay (a' := ?_) ?_ ?_)
          · exact ⟨t0, t1, t2⟩
          rotate_left 1
          · (try simp only [Act.put, List.getElem_toArray, List.getElem_cons_succ, List.getElem_cons_zero, List.setIfInBounds_toArray, List.set_cons_zero, List.set_cons_succ])
            try rfl
          clear hK1 K1
          refine sched_done (hQ1.out _ _ ?_)
          go_wp2_with fail
          go_roundg (Q - j - 1)
          case rel => exact ⟨j + 1, by omega, by go_num, by rw [Hsc.out]; rfl, X4.out, B4.out⟩
          case measure => omega
      · obtain rfl : j = Q := by omega
        have hzz : Z = ((listsK a.n k).filter PP).length := by rw [HZ.out, Hall.out]
        have Hzz := Lib.hid hzz
        have hnl : ¬ ((j : Int) < (j : Int)) := by omega
        clear hzz hsc
        go_wp2_with (go_at_call 45; refine (CW.out _).mono ?_; rintro e w2 ⟨rfl, hz⟩; have B2 := Lib.hid (HB.out.trans (hz.mono HB.out.size)); clear hz m0 m1 m2)
        go_ret
        exact ⟨congrArg Ending.returned (show Value.int .i64 (Z : Nat) = Value.int .i64 (((listsK a.n k).filter PP).length : Nat) by rw [Hzz.out]), B2.out⟩

end Go.Proofs.YtebjanjobfiloaaDoor

namespace Go.Proofs.YtebjanjobfiloaaDoor
open Go.RowKit
open Pl
set_option linter.unusedSimpArgs false
set_option linter.unusedVariables false

set_option maxHeartbeats 4000000 in
set_option maxRecDepth 100000 in
theorem FnExactCountPoints_walk (i : Int) (s r : ByteArray) (f : ByteArray) (x : Int) (w : World) (hi : (Lit.int .i64 i).wf = true) (hs : s.size ≤ maxLen) (hr : r.size ≤ maxLen) (h_f : f.size ≤ maxLen) (h_x : (Lit.int .i64 x).wf = true)  :
    Calls Tryd.prog 7 #[stV i s r, .string f, .int .i64 x] w fun e w' => e = .returned (.bool true) ∧ Below w.heap.size w w' := by
  have Hs := Lib.hid hs
  have Hr := Lib.hid hr
  clear hs hr hi
  by_cases hg0 : f.size ≤ 1048576
  case neg =>
    have hgi : 1048576 < (f.size : Int) := by omega
    clear Hs Hr
    go_enter Tryd.func7, Tryd.ntmps7
    go_wp2_with fail
    go_ret
    exact ⟨rfl, (Below.refl _ _).alloc (Nat.le_refl _) _⟩
  case pos =>
  have hgi0 : (f.size : Int) ≤ 1048576 := by omega
  have c1 := fun (W : World) => CountPoints_spec i s r f x W Hs.out Hr.out h_f
  have c2 := fun (W : World) => CountPoints_impl i s r f x W Hs.out Hr.out
  obtain ⟨CC, hCC⟩ : ∃ CC, CC = cntV i s r f x := ⟨_, rfl⟩
  simp only [← hCC] at c1 c2
  clear hCC
  have C1 := Lib.hid c1
  have C2 := Lib.hid c2
  have B1 := Lib.hid ((Below.refl w.heap.size w).alloc (Nat.le_refl _) (.cells #[.int .i64 i, .string s, .string r] 23))
  have Xa1 := Lib.hid (Bx.new w 23 #[.int .i64 i, .string s, .string r])
  clear c1 c2
  go_enter Tryd.func7, Tryd.ntmps7
  obtain ⟨a0, a1, a2⟩ := box_load Xa1.out
  go_wp2_with fail
  refine (szStructure_calls i s r 1048576 _ (Nat.le_refl _) Hs.out Hr.out).mono ?_
  clear a0 a1 a2
  rintro e w1 ⟨⟨m, rfl, hm⟩, hz⟩
  have B2 := Lib.hid (B1.out.trans (hz.mono B1.out.size))
  have Xa2 := Lib.hid (Xa1.out.call hz)
  clear hm
  clear hz
  obtain ⟨a0, a1, a2⟩ := box_load Xa2.out
  by_cases h0 : 0 ≤ m
  · have hn : ¬ m < 0 := by omega
    go_wp2_with fail
    refine (toStructure_calls i s r _).mono ?_
    clear a0 a1 a2
    rintro e w2 ⟨rfl, hz⟩
    have B3 := Lib.hid (B2.out.trans (hz.mono B2.out.size))
    have Xa3 := Lib.hid (Xa2.out.call hz)
    clear hz
    obtain ⟨a0, a1, a2⟩ := box_load Xa3.out
    go_wp2_with fail
    refine (C1.out _).mono ?_
    clear a0 a1 a2
    rintro e w3 ⟨rfl, hz⟩
    have B4 := Lib.hid (B3.out.trans (hz.mono B3.out.size))
    have Xa4 := Lib.hid (Xa3.out.call hz)
    clear hz
    obtain ⟨a0, a1, a2⟩ := box_load Xa4.out
    go_wp2_with fail
    refine (toStructure_calls i s r _).mono ?_
    clear a0 a1 a2
    rintro e w4 ⟨rfl, hz⟩
    have B5 := Lib.hid (B4.out.trans (hz.mono B4.out.size))
    have Xa5 := Lib.hid (Xa4.out.call hz)
    clear hz
    obtain ⟨a0, a1, a2⟩ := box_load Xa5.out
    go_wp2_with fail
    refine (C2.out _).mono ?_
    clear a0 a1 a2
    rintro e w5 ⟨rfl, hz⟩
    have B6 := Lib.hid (B5.out.trans (hz.mono B5.out.size))
    have Xa6 := Lib.hid (Xa5.out.call hz)
    clear hz
    obtain ⟨a0, a1, a2⟩ := box_load Xa6.out
    go_wp2_with fail
    go_ret
    exact ⟨rfl, B6.out⟩
  · go_wp2_with fail
    go_ret
    exact ⟨rfl, B2.out⟩

end Go.Proofs.YtebjanjobfiloaaDoor

namespace Go.Proofs.YtebjanjobfiloaaDoor
open Go.RowKit
open Pl
set_option linter.unusedSimpArgs false
set_option linter.unusedVariables false

theorem getD_ext {l m : List Nat} (hl : l.length = m.length) (h : ∀ j, j < l.length → l.getD j 0 = m.getD j 0) : l = m := by
  refine List.ext_getElem hl fun j h1 h2 => ?_
  have := h j h1
  rwa [List.getD_eq_getElem?_getD, List.getD_eq_getElem?_getD, List.getElem?_eq_getElem h1, List.getElem?_eq_getElem h2] at this
theorem getD_extL {l m : List (List Nat)} (hl : l.length = m.length) (h : ∀ j, j < l.length → l.getD j [] = m.getD j []) : l = m := by
  refine List.ext_getElem hl fun j h1 h2 => ?_
  have := h j h1
  rwa [List.getD_eq_getElem?_getD, List.getD_eq_getElem?_getD, List.getElem?_eq_getElem h1, List.getElem?_eq_getElem h2] at this

set_option maxHeartbeats 2000000 in
set_option maxRecDepth 100000 in
theorem Equal_calls (g1 g2 : Nat) (c1 c2 : Nat) (xs ys : List Nat) (w : World) (hx : xs.length ≤ 100) (hy : ys.length ≤ 100) (h1 : LRow w (some ⟨g1, 0, none⟩) (natsI xs)) (h2 : LRow w (some ⟨g2, 0, none⟩) (natsI ys)) :
    Calls Tryd.prog 49 #[.slice (some ⟨g1, 0, none⟩) xs.length c1, .slice (some ⟨g2, 0, none⟩) ys.length c2] w fun e w' => e = .returned (.bool (decide (xs = ys))) ∧ Below w.heap.size w w' := by
  obtain ⟨R, hR⟩ : ∃ R, R = decide (xs = ys) := ⟨_, rfl⟩
  rw [← hR]
  have H1 := Lib.hid h1
  have H2 := Lib.hid h2
  have HR := Lib.hid hR
  clear h1 h2 hR
  by_cases hl : xs.length = ys.length
  case neg =>
    have hR2 : R = false := by rw [HR.out]; exact decide_eq_false fun e => hl (by rw [e])
    have hne : ((xs.length : Int) != (ys.length : Int)) = true := by rw [bne_iff_ne]; omega
    subst hR2
    clear hl
    go_enter Tryd.func49, Tryd.ntmps49
    go_wp2_with fail
    go_ret
    exact ⟨rfl, Below.refl _ _⟩
  case pos =>
  have HL := Lib.hid hl
  obtain ⟨n, hn⟩ : ∃ n, n = xs.length := ⟨_, rfl⟩
  have hyn : ys.length = n := by rw [hn, hl]
  rw [hyn, ← hn]
  have Hn := Lib.hid hn
  have Hyn := Lib.hid hyn
  have hn100 : n ≤ 100 := by omega
  clear hl hn hyn hx hy
  go_enter Tryd.func49, Tryd.ntmps49
  go_wp2_with fail
  go_loopg [13] n (fun c xi wr => ∃ j : Nat, j + c = n ∧ xi = .int .i64 (j : Nat) ∧ (∀ q, q < j → xs.getD q 0 = ys.getD q 0) ∧ Below w.heap.size w wr)
  case atStart => exact ⟨0, by omega, rfl, fun q hq => absurd hq (Nat.not_lt_zero _), Below.refl _ _⟩
  case round =>
    obtain ⟨j, hj, rfl, hno, hbl⟩ := hrel
    have Hno := Lib.hid hno
    have HB := Lib.hid hbl
    clear hno hbl
    by_cases hjl : j < n
    · obtain ⟨_, e1, d1⟩ := LRow.nats (H1.out.call HB.out) (k := j) (by have := Hn.out; omega)
      obtain ⟨_, e2, d2⟩ := LRow.nats (H2.out.call HB.out) (k := j) (by have := Hyn.out; omega)
      simp only [Option.some.injEq, Addr.mk.injEq, and_true] at e1 e2
      subst e1 e2
      obtain ⟨x, hx⟩ : ∃ x, x = xs.getD j 0 := ⟨_, rfl⟩
      obtain ⟨y, hy⟩ : ∃ y, y = ys.getD j 0 := ⟨_, rfl⟩
      rw [← hx] at d1
      rw [← hy] at d2
      have Hx := Lib.hid hx
      have Hy := Lib.hid hy
      have j1 : (0 : Int) ≤ (j : Int) := by omega
      have j2 : (j : Int) < (n : Int) := by omega
      clear hx hy
      by_cases hxy : x = y
      · subst hxy
        go_upto_region 6 with (fail)
        refine region_sched [(0, true), (1, true), (2, true), (3, true), (4, true), (5, true), (6, true), (7, true), (8, true)] (fun w' : World => w'.cell? ⟨g1, j, none⟩ = some (.int .i64 (x : Nat)) ∧ w'.cell? ⟨g2, j, none⟩ = some (.int .i64 (x : Nat))) (by kernel_rfl) (by kernel_rfl) (by kernel_rfl) (by kernel_rfl) (fun _ _ _ _ h => h) ?_ (fun Q1 hQ1 => ?_)
        · exact ⟨d1, d2⟩
        try simp only [List.append]
        refine sched_take' (v := ?_) (a' := ?_) rfl (by kernel_rfl) ?_ rfl ?_ ?_
        rotate_left 2
        · intro w hSw
          (try dsimp only at hSw)
          go_simp
          try with_reducible rfl
        · (try simp only [Act.put, List.setIfInBounds_toArray, List.set_cons_zero, List.set_cons_succ])
          try rfl
        refine sched_take' (v := ?_) (a' := ?_) rfl (by kernel_rfl) ?_ rfl ?_ ?_
        rotate_left 2
        · intro w hSw
          (try dsimp only at hSw)
          go_simp
          try with_reducible rfl
        · (try simp only [Act.put, List.setIfInBounds_toArray, List.set_cons_zero, List.set_cons_succ])
          try rfl
        refine sched_take' (v := ?_) (a' := ?_) rfl (by kernel_rfl) ?_ rfl ?_ ?_
        rotate_left 2
        · intro w hSw
          (try dsimp only at hSw)
          go_simp
          try with_reducible rfl
        · (try simp only [Act.put, List.setIfInBounds_toArray, List.set_cons_zero, List.set_cons_succ])
          try rfl
        refine sched_take' (v := .int .i64 (x : Nat)) (a' := ?_) rfl (by kernel_rfl) ?_ rfl ?_ ?_
        rotate_left 1
        · intro w hSw
          (try dsimp only at hSw)
          go_simp
          first | done | (obtain ⟨u0, u1⟩ := hSw; simp [*])
        · (try simp only [Act.put, List.setIfInBounds_toArray, List.set_cons_zero, List.set_cons_succ])
          try rfl
        refine sched_take' (v := ?_) (a' := ?_) rfl (by kernel_rfl) ?_ rfl ?_ ?_
        rotate_left 2
        · intro w hSw
          (try dsimp only at hSw)
          go_simp
          try with_reducible rfl
        · (try simp only [Act.put, List.setIfInBounds_toArray, List.set_cons_zero, List.set_cons_succ])
          try rfl
        refine sched_take' (v := ?_) (a' := ?_) rfl (by kernel_rfl) ?_ rfl ?_ ?_
        rotate_left 2
        · intro w hSw
          (try dsimp only at hSw)
          go_simp
          try with_reducible rfl
        · (try simp only [Act.put, List.setIfInBounds_toArray, List.set_cons_zero, List.set_cons_succ])
          try rfl
        refine sched_take' (v := ?_) (a' := ?_) rfl (by kernel_rfl) ?_ rfl ?_ ?_
        rotate_left 2
        · intro w hSw
          (try dsimp only at hSw)
          go_simp
          try with_reducible rfl
        · (try simp only [Act.put, List.setIfInBounds_toArray, List.set_cons_zero, List.set_cons_succ])
          try rfl
        refine sched_take' (v := .int .i64 (x : Nat)) (a' := ?_) rfl (by kernel_rfl) ?_ rfl ?_ ?_
        rotate_left 1
        · intro w hSw
          (try dsimp only at hSw)
          go_simp
          first | done | (obtain ⟨u0, u1⟩ := hSw; simp [*])
        · (try simp only [Act.put, List.setIfInBounds_toArray, List.set_cons_zero, List.set_cons_succ])
          try rfl
        refine sched_take' (v := ?_) (a' := ?_) rfl (by kernel_rfl) ?_ rfl ?_ ?_
        rotate_left 2
        · intro w hSw
          (try dsimp only at hSw)
          go_simp
          try with_reducible rfl
        · (try simp only [Act.put, List.setIfInBounds_toArray, List.set_cons_zero, List.set_cons_succ])
          try rfl
        refine sched_done (hQ1.out _ _ ?_)
        go_wp2_with fail
        go_roundg (n - j - 1)
        case rel => exact ⟨j + 1, by omega, by go_num, fun q hq => by
          by_cases hqj : q = j
          · subst hqj; rw [← Hx.out, ← Hy.out]
          · exact Hno.out q (by omega), HB.out.drew⟩
        case measure => omega
      · have hne : ((x : Int) != (y : Int)) = true := by rw [bne_iff_ne]; omega
        have hR2 : R = false := by rw [HR.out]; exact decide_eq_false fun e => hxy (by rw [Hx.out, Hy.out, e])
        subst hR2
        clear hxy
        go_upto_region 6 with (fail)
        refine region_sched [(0, true), (1, true), (2, true), (3, true), (4, true), (5, true), (6, true), (7, true), (8, true)] (fun w' : World => w'.cell? ⟨g1, j, none⟩ = some (.int .i64 (x : Nat)) ∧ w'.cell? ⟨g2, j, none⟩ = some (.int .i64 (y : Nat))) (by kernel_rfl) (by kernel_rfl) (by kernel_rfl) (by kernel_rfl) (fun _ _ _ _ h => h) ?_ (fun Q1 hQ1 => ?_)
        · exact ⟨d1, d2⟩
        try simp only [List.append]
        refine sched_take' (v := ?_) (a' := ?_) rfl (by kernel_rfl) ?_ rfl ?_ ?_
        rotate_left 2
        · intro w hSw
          (try dsimp only at hSw)
          go_simp
          try with_reducible rfl
        · (try simp only [Act.put, List.setIfInBounds_toArray, List.set_cons_zero, List.set_cons_succ])
          try rfl
        refine sched_take' (v := ?_) (a' := ?_) rfl (by kernel_rfl) ?_ rfl ?_ ?_
        rotate_left 2
        · intro w hSw
          (try dsimp only at hSw)
          go_simp
          try with_reducible rfl
        · (try simp only [Act.put, List.setIfInBounds_toArray, List.set_cons_zero, List.set_cons_succ])
          try rfl
        refine sched_take' (v := ?_) (a' := ?_) rfl (by kernel_rfl) ?_ rfl ?_ ?_
        rotate_left 2
        · intro w hSw
          (try dsimp only at hSw)
          go_simp
          try with_reducible rfl
        · (try simp only [Act.put, List.setIfInBounds_toArray, List.set_cons_zero, List.set_cons_succ])
          try rfl
        refine sched_take' (v := .int .i64 (x : Nat)) (a' := ?_) rfl (by kernel_rfl) ?_ rfl ?_ ?_
        rotate_left 1
        · intro w hSw
          (try dsimp only at hSw)
          go_simp
          first | done | (obtain ⟨u0, u1⟩ := hSw; simp [*])
        · (try simp only [Act.put, List.setIfInBounds_toArray, List.set_cons_zero, List.set_cons_succ])
          try rfl
        refine sched_take' (v := ?_) (a' := ?_) rfl (by kernel_rfl) ?_ rfl ?_ ?_
        rotate_left 2
        · intro w hSw
          (try dsimp only at hSw)
          go_simp
          try with_reducible rfl
        · (try simp only [Act.put, List.setIfInBounds_toArray, List.set_cons_zero, List.set_cons_succ])
          try rfl
        refine sched_take' (v := ?_) (a' := ?_) rfl (by kernel_rfl) ?_ rfl ?_ ?_
        rotate_left 2
        · intro w hSw
          (try dsimp only at hSw)
          go_simp
          try with_reducible rfl
        · (try simp only [Act.put, List.setIfInBounds_toArray, List.set_cons_zero, List.set_cons_succ])
          try rfl
        refine sched_take' (v := ?_) (a' := ?_) rfl (by kernel_rfl) ?_ rfl ?_ ?_
        rotate_left 2
        · intro w hSw
          (try dsimp only at hSw)
          go_simp
          try with_reducible rfl
        · (try simp only [Act.put, List.setIfInBounds_toArray, List.set_cons_zero, List.set_cons_succ])
          try rfl
        refine sched_take' (v := .int .i64 (y : Nat)) (a' := ?_) rfl (by kernel_rfl) ?_ rfl ?_ ?_
        rotate_left 1
        · intro w hSw
          (try dsimp only at hSw)
          go_simp
          first | done | (obtain ⟨u0, u1⟩ := hSw; simp [*])
        · (try simp only [Act.put, List.setIfInBounds_toArray, List.set_cons_zero, List.set_cons_succ])
          try rfl
        refine sched_take' (v := ?_) (a' := ?_) rfl (by kernel_rfl) ?_ rfl ?_ ?_
        rotate_left 2
        · intro w hSw
          (try dsimp only at hSw)
          go_simp
          try with_reducible rfl
        · (try simp only [Act.put, List.setIfInBounds_toArray, List.set_cons_zero, List.set_cons_succ])
          try rfl
        refine sched_done (hQ1.out _ _ ?_)
        go_wp2_with fail
        go_ret
        exact ⟨rfl, HB.out.drew⟩
    · obtain rfl : j = n := by omega
      have hR2 : R = true := by rw [HR.out]; exact decide_eq_true (getD_ext HL.out fun q hq => Hno.out q (by have := Hn.out; omega))
      subst hR2
      go_wp2_with fail
      go_ret
      exact ⟨rfl, HB.out⟩

theorem enter_equal : ∀ (args : Array Value) (w : World), (callFunc 49 args).run Tryd.prog w = .ok (.enter 49 args) w := enter_of Tryd.func49 (by kernel_rfl) (by kernel_rfl)

set_option maxHeartbeats 2000000 in
set_option maxRecDepth 100000 in
theorem EqualFunc_calls (b1 b2 : Nat) (v1 v2 : Value) (xs ys : List (List Nat)) (w : World) (hx : xs.length ≤ 1000) (hy : ys.length ≤ 1000) (hx3 : ∀ l ∈ xs, l.length ≤ 3) (hy3 : ∀ l ∈ ys, l.length ≤ 3) (h1 : LL w b1 v1 xs) (h2 : LL w b2 v2 ys) :
    Calls Tryd.prog 48 #[v1, v2, .func (.func 49) #[] #[]] w fun e w' => e = .returned (.bool (decide (xs = ys))) ∧ Below w.heap.size w w' := by
  obtain ⟨R, hR⟩ : ∃ R, R = decide (xs = ys) := ⟨_, rfl⟩
  rw [← hR]
  obtain ⟨g1, c1, rfl⟩ := h1.form
  obtain ⟨g2, c2, rfl⟩ := h2.form
  have H1 := Lib.hid h1
  have H2 := Lib.hid h2
  have HR := Lib.hid hR
  have HX := Lib.hid hx3
  have HY := Lib.hid hy3
  clear h1 h2 hR hx3 hy3
  by_cases hl : xs.length = ys.length
  case neg =>
    have hR2 : R = false := by rw [HR.out]; exact decide_eq_false fun e => hl (by rw [e])
    have hne : ((xs.length : Int) != (ys.length : Int)) = true := by rw [bne_iff_ne]; omega
    subst hR2
    clear hl
    go_enter Tryd.func48, Tryd.ntmps48
    go_wp2_with fail
    go_ret
    exact ⟨rfl, Below.refl _ _⟩
  case pos =>
  have HL := Lib.hid hl
  obtain ⟨n, hn⟩ : ∃ n, n = xs.length := ⟨_, rfl⟩
  have hyn : ys.length = n := by rw [hn, hl]
  rw [hyn, ← hn]
  have Hn := Lib.hid hn
  have Hyn := Lib.hid hyn
  have hn100 : n ≤ 1000 := by omega
  have hen := enter_equal
  have Hen := Lib.hid hen
  clear hl hn hyn hx hy hen
  go_enter Tryd.func48, Tryd.ntmps48
  go_wp2_with fail
  go_loopg [17] n (fun c xi wr => ∃ j : Nat, j + c = n ∧ xi = .int .i64 (j : Nat) ∧ (∀ q, q < j → xs.getD q [] = ys.getD q []) ∧ Below w.heap.size w wr)
  case atStart => exact ⟨0, by omega, rfl, fun q hq => absurd hq (Nat.not_lt_zero _), Below.refl _ _⟩
  case round =>
    obtain ⟨j, hj, rfl, hno, hbl⟩ := hrel
    have Hno := Lib.hid hno
    have HB := Lib.hid hbl
    clear hno hbl
    by_cases hjl : j < n
    · obtain ⟨_, _, gi, ci, e1, hc1, d1, in1⟩ := LL.get (H1.out.call HB.out) (k := j) (by have := Hn.out; omega)
      obtain ⟨_, _, gk2, ck, e2, hc2, d2, in2⟩ := LL.get (H2.out.call HB.out) (k := j) (by have := Hyn.out; omega)
      simp only [Value.slice.injEq, Option.some.injEq, Addr.mk.injEq, and_true, true_and] at e1 e2
      obtain ⟨rfl, rfl⟩ := e1
      obtain ⟨rfl, rfl⟩ := e2
      have lx := HX.out (xs.getD j []) (by rw [List.getD_eq_getElem?_getD, List.getElem?_eq_getElem (by have := Hn.out; omega)]; exact List.getElem_mem _)
      have ly := HY.out (ys.getD j []) (by rw [List.getD_eq_getElem?_getD, List.getElem?_eq_getElem (by have := Hyn.out; omega)]; exact List.getElem_mem _)
      obtain ⟨x, hx⟩ : ∃ x, x = xs.getD j [] := ⟨_, rfl⟩
      obtain ⟨y, hy⟩ : ∃ y, y = ys.getD j [] := ⟨_, rfl⟩
      rw [← hx] at d1 in1 lx
      rw [← hy] at d2 in2 ly
      obtain ⟨_, _, f1, r1⟩ := in1.row
      obtain ⟨_, _, f2, r2⟩ := in2.row
      simp only [Value.slice.injEq, Option.some.injEq, Addr.mk.injEq, and_true, true_and] at f1 f2
      obtain ⟨rfl, rfl⟩ := f1
      obtain ⟨rfl, rfl⟩ := f2
      have heq := Equal_calls gi gk2 ci ck x y wr (by omega) (by omega) r1 r2
      have Hx := Lib.hid hx
      have Hy := Lib.hid hy
      have j1 : (0 : Int) ≤ (j : Int) := by omega
      have j2 : (j : Int) < (n : Int) := by omega
      have hcl := Hn.out
      have hcl2 := Hyn.out
      have hcc : n ≤ c1 := by omega
      have hcc2 : n ≤ c2 := by omega
      clear hx hy in1 in2 r1 r2 hc1 hc2 hcl hcl2
      by_cases hxy : x = y
      · rw [decide_eq_true hxy] at heq
        have HE := Lib.hid heq
        have Hxy := Lib.hid hxy
        clear heq hxy
        go_wp2_with fail
        refine (show Calls Tryd.prog 49 #[.slice (some ⟨gi, 0, none⟩) x.length ci, .slice (some ⟨gk2, 0, none⟩) y.length ck] wr _ from HE.out.mono ?_)
        rintro e w2 ⟨rfl, hz⟩
        have B2 := Lib.hid (HB.out.trans (hz.mono HB.out.size))
        clear hz d1 d2
        go_wp2_with fail
        go_roundg (n - j - 1)
        case rel => exact ⟨j + 1, by omega, by go_num, fun q hq => by
          by_cases hqj : q = j
          · subst hqj; rw [← Hx.out, ← Hy.out, Hxy.out]
          · exact Hno.out q (by omega), B2.out⟩
        case measure => omega
      · rw [decide_eq_false hxy] at heq
        have HE := Lib.hid heq
        have hR2 : R = false := by rw [HR.out]; exact decide_eq_false fun e => hxy (by rw [Hx.out, Hy.out, e])
        subst hR2
        clear heq hxy
        go_wp2_with fail
        refine (show Calls Tryd.prog 49 #[.slice (some ⟨gi, 0, none⟩) x.length ci, .slice (some ⟨gk2, 0, none⟩) y.length ck] wr _ from HE.out.mono ?_)
        rintro e w2 ⟨rfl, hz⟩
        have B2 := Lib.hid (HB.out.trans (hz.mono HB.out.size))
        clear hz d1 d2
        go_wp2_with fail
        go_ret
        exact ⟨rfl, B2.out⟩
    · obtain rfl : j = n := by omega
      have hR2 : R = true := by rw [HR.out]; exact decide_eq_true (getD_extL HL.out fun q hq => Hno.out q (by have := Hn.out; omega))
      subst hR2
      go_wp2_with fail
      go_ret
      exact ⟨rfl, HB.out⟩

theorem ptL_512 (i : Int) (s r f : ByteArray) (x : Int) : (ptL i s r f x).length ≤ 512 := by
  unfold ptL
  split
  · rename_i h
    obtain ⟨k, rfl, hk, hr⟩ := pt_cases h
    rcases ok_cases i s r with h1 | ⟨a, ha, rfl, rfl, rfl⟩
    · rw [rdy_noSt h1] at hr; cases hr
    · rw [ofSt_eq]
      refine Nat.le_trans (List.length_filter_le _ _) ?_
      rw [listsK_len ha.lo]
      have h1 : a.n ^ k ≤ 8 ^ k := Nat.pow_le_pow_left ha.hi k
      have h2 : 8 ^ k ≤ 8 ^ 3 := Nat.pow_le_pow_right (by omega) hk
      simp only [Int.toNat_natCast]
      omega
  · simp
theorem pt_three (i : Int) (s r f : ByteArray) : ptB i s r f 3 = rdyB i s r f 3 := pt_nat i s r f (k := 3) (by omega)

set_option maxHeartbeats 2000000 in
set_option maxRecDepth 100000 in
theorem SameIn_impl (i : Int) (s r f f2 : ByteArray) (w : World) (hs : s.size ≤ maxLen) (hr : r.size ≤ maxLen) :
    Calls Tryd.prog 27 #[stV i s r, .string f, .string f2] w fun e w' => e = .returned (.tuple #[.bool (sameV i s r f f2), .bool (rdyB i s r f 3 && rdyB i s r f2 3)]) ∧ Below w.heap.size w w' := by
  have B0 := Lib.hid (show Below w.heap.size w (w.alloc (.cells #[.int .i64 i, .string s, .string r] 28)) from (Below.refl _ _).alloc (Nat.le_refl _) _)
  have Xa := Lib.hid (Bx.new w 28 #[.int .i64 i, .string s, .string r])
  obtain ⟨k0, k1, k2⟩ := box_load Xa.out
  unfold sameV
  cases hry : rdyB i s r f 3
  case false =>
    have CP := Lib.hid (fun W => pointsOf_no i s r f 3 W hs hr (by rw [pt_three, hry]))
    cases hry2 : rdyB i s r f2 3
    case false =>
      have CQ := Lib.hid (fun W => pointsOf_no i s r f2 3 W hs hr (by rw [pt_three, hry2]))
      clear hs hr hry hry2
      go_enter Tryd.func27, Tryd.ntmps27
      go_wp2_with fail
      refine (CP.out _).mono ?_
      rintro e w1 ⟨rfl, hz⟩
      have B1 := Lib.hid (B0.out.trans (hz.mono B0.out.size))
      have X1 := Lib.hid (Xa.out.call hz)
      clear hz k0 k1 k2
      obtain ⟨k0, k1, k2⟩ := box_load X1.out
      go_wp2_with fail
      refine (CQ.out _).mono ?_
      rintro e w2 ⟨rfl, hz⟩
      have B2 := Lib.hid (B1.out.trans (hz.mono B1.out.size))
      clear hz k0 k1 k2
      go_wp2_with fail
      go_ret2
      exact ⟨rfl, B2.out⟩
    case true =>
      have CQ := Lib.hid (fun W => pointsOf_yes i s r f2 3 W hs hr (by rw [pt_three, hry2]))
      clear hs hr hry hry2
      go_enter Tryd.func27, Tryd.ntmps27
      go_wp2_with fail
      refine (CP.out _).mono ?_
      rintro e w1 ⟨rfl, hz⟩
      have B1 := Lib.hid (B0.out.trans (hz.mono B0.out.size))
      have X1 := Lib.hid (Xa.out.call hz)
      clear hz k0 k1 k2
      obtain ⟨k0, k1, k2⟩ := box_load X1.out
      go_wp2_with fail
      refine (CQ.out _).mono ?_
      rintro e w2 ⟨⟨v, rfl, hL⟩, hz⟩
      have B2 := Lib.hid (B1.out.trans (hz.mono B1.out.size))
      clear hz k0 k1 k2 hL
      go_wp2_with fail
      go_ret2
      exact ⟨rfl, B2.out⟩
  case true =>
    have cp := fun W => pointsOf_yes i s r f 3 W hs hr (by rw [pt_three, hry])
    have l1 := ptL_512 i s r f 3
    have m1 := ptL_len i s r f 3
    obtain ⟨Q1, hQ1⟩ : ∃ Q, Q = ptL i s r f 3 := ⟨_, rfl⟩
    simp only [← hQ1] at cp l1 m1
    rw [← hQ1]
    have CP := Lib.hid cp
    clear cp hQ1
    cases hry2 : rdyB i s r f2 3
    case false =>
      have CQ := Lib.hid (fun W => pointsOf_no i s r f2 3 W hs hr (by rw [pt_three, hry2]))
      clear hs hr hry hry2 l1 m1
      go_enter Tryd.func27, Tryd.ntmps27
      go_wp2_with fail
      refine (CP.out _).mono ?_
      rintro e w1 ⟨⟨v, rfl, hL⟩, hz⟩
      have B1 := Lib.hid (B0.out.trans (hz.mono B0.out.size))
      have X1 := Lib.hid (Xa.out.call hz)
      clear hz k0 k1 k2 hL
      obtain ⟨k0, k1, k2⟩ := box_load X1.out
      go_wp2_with fail
      refine (CQ.out _).mono ?_
      rintro e w2 ⟨rfl, hz⟩
      have B2 := Lib.hid (B1.out.trans (hz.mono B1.out.size))
      clear hz k0 k1 k2
      go_wp2_with fail
      go_ret2
      exact ⟨rfl, B2.out⟩
    case true =>
      have cq := fun W => pointsOf_yes i s r f2 3 W hs hr (by rw [pt_three, hry2])
      have l2 := ptL_512 i s r f2 3
      have m2 := ptL_len i s r f2 3
      obtain ⟨Q2, hQ2⟩ : ∃ Q, Q = ptL i s r f2 3 := ⟨_, rfl⟩
      simp only [← hQ2] at cq l2 m2
      rw [← hQ2]
      have CQ := Lib.hid cq
      have ce := fun (b1 b2 : Nat) (v1 v2 : Value) W h1 h2 => EqualFunc_calls b1 b2 v1 v2 Q1 Q2 W (by omega) (by omega) m1 m2 h1 h2
      obtain ⟨R, hR⟩ : ∃ R, R = decide (Q1 = Q2) := ⟨_, rfl⟩
      simp only [← hR] at ce
      rw [← hR]
      have CE := Lib.hid ce
      clear hs hr hry hry2 l1 m1 l2 m2 cq hQ2 ce hR
      go_enter Tryd.func27, Tryd.ntmps27
      go_wp2_with fail
      refine (CP.out _).mono ?_
      rintro e w1 ⟨⟨v, rfl, hL⟩, hz⟩
      have B1 := Lib.hid (B0.out.trans (hz.mono B0.out.size))
      have X1 := Lib.hid (Xa.out.call hz)
      have L1 := Lib.hid hL
      clear hz k0 k1 k2 hL
      obtain ⟨k0, k1, k2⟩ := box_load X1.out
      go_wp2_with fail
      refine (CQ.out _).mono ?_
      rintro e w2 ⟨⟨v2, rfl, hL⟩, hz⟩
      have B2 := Lib.hid (B1.out.trans (hz.mono B1.out.size))
      have M1 := Lib.hid (L1.out.call hz)
      have M2 := Lib.hid hL
      clear hz k0 k1 k2 hL
      go_wp2_with fail
      refine (CE.out _ _ _ _ _ M1.out M2.out).mono ?_
      rintro e w3 ⟨rfl, hz⟩
      have B3 := Lib.hid (B2.out.trans (hz.mono B2.out.size))
      clear hz
      go_wp2_with fail
      go_ret2
      exact ⟨rfl, B3.out⟩

end Go.Proofs.YtebjanjobfiloaaDoor

namespace Go.Proofs.YtebjanjobfiloaaDoor
open Go.RowKit
open Pl
set_option linter.unusedSimpArgs false
set_option linter.unusedVariables false

attribute [local go_sem ↓] Go.wp_at_zero Go.wp_at_succ

theorem lrow_none (W : World) (A : Option Addr) : LRow W A (natsI []) := fun h => by simp [natsI] at h
theorem lrow_env {W : World} {g : Nat} {L : List Nat} (h : Bx W g 46 (envA4 (envL L))) (hl : L.length ≤ 4) : LRow W (some ⟨g, 0, none⟩) (natsI L) := fun hn => ⟨g, rfl, fun i hi => by
  rw [natsI_len] at hi
  rw [natsI_get]
  exact (h.cell i).trans (env_at (envL L) ⟨i, by omega⟩)⟩

set_option maxHeartbeats 4000000 in
set_option maxRecDepth 100000 in
theorem FirstPoint_spec (i : Int) (s r f : ByteArray) (x : Int) (w : World) (hs : s.size ≤ maxLen) (hr : r.size ≤ maxLen) (hf : f.size ≤ maxLen) :
    Calls Tryd.prog 28 #[stV i s r, .string f, .int .i64 x] w fun e w' => (∃ A cap, e = .returned (.tuple #[.slice A (fstV i s r f x).length cap, .bool (fstB i s r f x)]) ∧ LRow w' A (natsI (fstV i s r f x)) ∧ ∀ g, A = some ⟨g, 0, none⟩ → g < w'.heap.size) ∧ Below w.heap.size w w' := by
  have B0 := Lib.hid (show Below w.heap.size w (w.alloc (.cells #[.int .i64 i, .string s, .string r] 28)) from (Below.refl _ _).alloc (Nat.le_refl _) _)
  have Xa := Lib.hid (Bx.new w 28 #[.int .i64 i, .string s, .string r])
  have cin := fun W => l1In_calls x 0 3 W
  unfold fstB fstV
  by_cases hx : 0 ≤ x ∧ x ≤ 3
  case neg =>
    have hp : ptB i s r f x = false := by
      by_cases h0 : 0 ≤ x
      · exact pt_big fun h3 => hx ⟨h0, h3⟩
      · exact pt_neg h0
    have hb : (decide (0 ≤ x) && decide (x ≤ 3)) = false := by
      by_cases h0 : 0 ≤ x
      · rw [decide_eq_false (fun h3 => hx ⟨h0, h3⟩)]; simp
      · rw [decide_eq_false h0]; rfl
    rw [ptL_no hp, hp]
    simp only [hb] at cin
    have CI := Lib.hid cin
    clear cin hx hp hb hs hr hf
    go_enter Tryd.func28, Tryd.ntmps28
    go_wp2_with fail
    refine (CI.out _).mono ?_
    rintro e w1 ⟨rfl, rfl⟩
    go_wp2_with fail
    go_ret2
    exact ⟨⟨_, _, rfl, lrow_none _ _, fun g hg => by injection hg with hg; injection hg with hg _; subst hg; simp⟩, B0.out.alloc B0.out.size _⟩
  case pos =>
  obtain ⟨k, rfl⟩ : ∃ k : Nat, x = (k : Nat) := ⟨x.toNat, by omega⟩
  have hwk : k ≤ 3 := by omega
  have hb : (decide ((0 : Int) ≤ (k : Nat)) && decide (((k : Nat) : Int) ≤ 3)) = true := by rw [decide_eq_true hx.1, decide_eq_true hx.2]; rfl
  simp only [hb] at cin
  have CI := Lib.hid cin
  have cr := fun W => l3Ready_calls i s r f k W hs hr hf (by omega)
  have hk3i : (k : Int) ≤ 3 := hx.2
  clear cin hx hb hs hr hf
  cases hry : rdyB i s r f k
  case false =>
    have hp : ptB i s r f (k : Nat) = false := by rw [pt_nat _ _ _ _ hwk, hry]
    rw [ptL_no hp, hp]
    simp only [hry] at cr
    have CR := Lib.hid cr
    clear cr hry hp
    obtain ⟨k0, k1, k2⟩ := box_load Xa.out
    go_enter Tryd.func28, Tryd.ntmps28
    go_wp2_with fail
    refine (CI.out _).mono ?_
    rintro e w1 ⟨rfl, rfl⟩
    go_wp2_with fail
    refine (CR.out _).mono ?_
    rintro e w1 ⟨rfl, hz⟩
    have B1 := Lib.hid (B0.out.trans (hz.mono B0.out.size))
    clear hz k0 k1 k2
    go_wp2_with fail
    go_ret2
    exact ⟨⟨_, _, rfl, lrow_none _ _, fun g hg => by injection hg with hg; injection hg with hg _; subst hg; simp⟩, B1.out.alloc B1.out.size _⟩
  case true =>
    have hp : ptB i s r f (k : Nat) = true := by rw [pt_nat _ _ _ _ hwk, hry]
    obtain ⟨a, g, ha, rfl, rfl, rfl, hfm, hs4⟩ := rdy_fm hry
    simp only [hry] at cr
    have CR := Lib.hid cr
    rw [ptL_yes hfm hp, hp]
    obtain ⟨PP, hPP⟩ : ∃ PP : List Nat → Bool, PP = fun l => g.holds a (envL l) := ⟨_, rfl⟩
    rw [← hPP]
    have h8 := ha.hi
    have hlo := ha.lo
    have hpl := pow_le h8 hwk
    have cw := fun W => l3Power_calls a ha k hwk W
    have cp := fun (j : Nat) W (hj : j < a.n ^ k) => l3Point_calls a ha k j hwk (by omega) W
    have ct := fun (j : Nat) W => l2True_calls a ha f g (envL (ptK a.n k j)) W hfm hs4 (env_lt ha (ptK_lt hlo k j))
    obtain ⟨Q, hQ⟩ : ∃ Q, Q = a.n ^ k := ⟨_, rfl⟩
    simp only [← hQ] at cw cp hpl
    have ct2 : ∀ (j : Nat) (W : World), Calls Tryd.prog 34 #[.agg #[.int .i64 (a.n : Int), .string (bs a.set), .string (bs a.rel)], .string f, .agg (envA4 (envL (ptK a.n k j)))] W fun ed w' => ed = .returned (.bool (PP (ptK a.n k j))) ∧ Below W.heap.size W w' := fun j W => by rw [hPP]; exact ct j W
    unfold stA at cw cp
    have CW := Lib.hid cw
    have CP := Lib.hid cp
    have CT := Lib.hid ct2
    clear cr hfm cw cp ct ct2 hPP
    have hat := fun (j : Nat) h1 h2 h3 => @first_at a.n hlo PP k j h1 h2 h3
    have hnone := fun h => @first_none a.n hlo PP k h
    rw [← hQ] at hat hnone
    have Hat := Lib.hid hat
    have Hnone := Lib.hid hnone
    obtain ⟨R, hR⟩ : ∃ R, R = (listsK a.n k).filter PP := ⟨_, rfl⟩
    rw [← hR] at Hat Hnone ⊢
    clear hat hnone hR hQ hry hp
    obtain ⟨k0, k1, k2⟩ := box_load Xa.out
    go_enter Tryd.func28, Tryd.ntmps28
    go_wp2_with fail
    refine (CI.out _).mono ?_
    rintro e w1 ⟨rfl, rfl⟩
    go_wp2_with fail
    refine (CR.out _).mono ?_
    rintro e w1 ⟨rfl, hz⟩
    have B1 := Lib.hid (B0.out.trans (hz.mono B0.out.size))
    have X1 := Lib.hid (Xa.out.call hz)
    clear hz k0 k1 k2
    go_wp2_with fail
    go_loopg [8] Q (fun c xi wr => ∃ j : Nat, j + c = Q ∧ xi = .int .i64 (j : Nat) ∧ (∀ q, q < j → PP (ptK a.n k q) = false) ∧ Bx wr w.heap.size 28 #[.int .i64 (a.n : Int), .string (bs a.set), .string (bs a.rel)] ∧ Below w.heap.size w wr)
    case atStart => exact ⟨0, by omega, rfl, fun q hq => absurd hq (Nat.not_lt_zero _), X1.out, B1.out⟩
    case round =>
      clear X1 B1
      obtain ⟨j, hj, rfl, hno, hxs, hbl⟩ := hrel
      have HS := Lib.hid hxs
      have HB := Lib.hid hbl
      have Hno := Lib.hid hno
      clear hxs hbl hno
      obtain ⟨m0, m1, m2⟩ := box_load HS.out
      by_cases hjl : j < Q
      · have cpj := fun W => CP.out j W hjl
        have ctj := fun W => CT.out j W
        have hll := ptK_len a.n k j
        have hla := Hat.out j hjl Hno.out
        obtain ⟨L, hL⟩ : ∃ L, L = ptK a.n k j := ⟨_, rfl⟩
        rw [← hL] at hll hla
        simp only [← hL] at cpj ctj
        unfold envA4 at cpj ctj
        have CPj := Lib.hid cpj
        have HL := Lib.hid hL
        have hjlt : (j : Int) < (Q : Int) := by omega
        clear cpj hL
        cases hq : PP L with
        | false =>
          simp only [hq] at ctj
          have CTj := Lib.hid ctj
          have Hq := Lib.hid hq
          clear ctj hq hla hll
          go_wp2_with (first | (go_at_call 45; refine (CW.out _).mono ?_; rintro e w2 ⟨rfl, hz⟩; have B2 := Lib.hid (HB.out.trans (hz.mono HB.out.size)); have X2 := Lib.hid (HS.out.call hz); clear hz m0 m1 m2; obtain ⟨p0, p1, p2⟩ := box_load X2.out) | (go_at_call 46; refine (CPj.out _).mono ?_; rintro e w3 ⟨rfl, hz⟩; have B3 := Lib.hid ((B2.out.trans (hz.mono B2.out.size)).alloc (B2.out.trans (hz.mono B2.out.size)).size (.cells #[.int .i64 ((envL L) 0 : Nat), .int .i64 ((envL L) 1 : Nat), .int .i64 ((envL L) 2 : Nat), .int .i64 ((envL L) 3 : Nat)] 46)); have X3 := Lib.hid ((X2.out.call hz).alloc (.cells #[.int .i64 ((envL L) 0 : Nat), .int .i64 ((envL L) 1 : Nat), .int .i64 ((envL L) 2 : Nat), .int .i64 ((envL L) 3 : Nat)] 46)); have XP3 := Lib.hid (Bx.new w3 46 #[.int .i64 ((envL L) 0 : Nat), .int .i64 ((envL L) 1 : Nat), .int .i64 ((envL L) 2 : Nat), .int .i64 ((envL L) 3 : Nat)]); clear hz p0 p1 p2; obtain ⟨q0, q1, q2⟩ := box_load X3.out; have v0 := XP3.out.cell 0; have v1 := XP3.out.cell 1; have v2 := XP3.out.cell 2; have v3 := XP3.out.cell 3; simp only [List.getElem?_toArray, List.getElem?_cons_zero, List.getElem?_cons_succ] at v0 v1 v2 v3) | (go_at_call 34; refine (CTj.out _).mono ?_; rintro e w4 ⟨rfl, hz⟩; have B4 := Lib.hid (B3.out.trans (hz.mono B3.out.size)); have X4 := Lib.hid (X3.out.call hz); have XP4 := Lib.hid (XP3.out.call hz); clear hz q0 q1 q2 v0 v1 v2 v3))
          go_roundg (Q - j - 1)
          case rel => exact ⟨j + 1, by omega, by go_num, fun q hq => by
            by_cases hqj : q = j
            · subst hqj; rw [← HL.out]; exact Hq.out
            · exact Hno.out q (by omega), X4.out, B4.out⟩
          case measure => omega
        | true =>
          simp only [hq] at ctj
          obtain ⟨t, ht⟩ := hla hq
          have CTj := Lib.hid ctj
          have Ht := Lib.hid ht
          have Hll := Lib.hid hll
          have hk0 : (0 : Int) ≤ (k : Int) := by omega
          have hk4 : (k : Int) ≤ 4 := by omega
          clear ctj hq hla hll ht
          go_wp2_with (first | (go_at_call 45; refine (CW.out _).mono ?_; rintro e w2 ⟨rfl, hz⟩; have B2 := Lib.hid (HB.out.trans (hz.mono HB.out.size)); have X2 := Lib.hid (HS.out.call hz); clear hz m0 m1 m2; obtain ⟨p0, p1, p2⟩ := box_load X2.out) | (go_at_call 46; refine (CPj.out _).mono ?_; rintro e w3 ⟨rfl, hz⟩; have B3 := Lib.hid ((B2.out.trans (hz.mono B2.out.size)).alloc (B2.out.trans (hz.mono B2.out.size)).size (.cells #[.int .i64 ((envL L) 0 : Nat), .int .i64 ((envL L) 1 : Nat), .int .i64 ((envL L) 2 : Nat), .int .i64 ((envL L) 3 : Nat)] 46)); have X3 := Lib.hid ((X2.out.call hz).alloc (.cells #[.int .i64 ((envL L) 0 : Nat), .int .i64 ((envL L) 1 : Nat), .int .i64 ((envL L) 2 : Nat), .int .i64 ((envL L) 3 : Nat)] 46)); have XP3 := Lib.hid (Bx.new w3 46 #[.int .i64 ((envL L) 0 : Nat), .int .i64 ((envL L) 1 : Nat), .int .i64 ((envL L) 2 : Nat), .int .i64 ((envL L) 3 : Nat)]); clear hz p0 p1 p2; obtain ⟨q0, q1, q2⟩ := box_load X3.out; have v0 := XP3.out.cell 0; have v1 := XP3.out.cell 1; have v2 := XP3.out.cell 2; have v3 := XP3.out.cell 3; simp only [List.getElem?_toArray, List.getElem?_cons_zero, List.getElem?_cons_succ] at v0 v1 v2 v3) | (go_at_call 34; refine (CTj.out _).mono ?_; rintro e w4 ⟨rfl, hz⟩; have B4 := Lib.hid (B3.out.trans (hz.mono B3.out.size)); have X4 := Lib.hid (X3.out.call hz); have XP4 := Lib.hid (XP3.out.call hz); clear hz q0 q1 q2 v0 v1 v2 v3))
          go_ret2
          rw [Ht.out]
          exact ⟨⟨some ⟨w3.heap.size, 0, none⟩, 4, by simp only [List.headD_cons, Hll.out]; rfl, lrow_env XP4.out (by have := Hll.out; simp only [List.headD_cons]; omega), fun g hg => by injection hg with hg; injection hg with hg _; subst hg; exact XP4.out.lt⟩, B4.out⟩
      · obtain rfl : j = Q := by omega
        have hR := Hnone.out Hno.out
        subst hR
        have hnl : ¬ ((j : Int) < (j : Int)) := by omega
        go_wp2_with (go_at_call 45; refine (CW.out _).mono ?_; rintro e w2 ⟨rfl, hz⟩; have B2 := Lib.hid (HB.out.trans (hz.mono HB.out.size)); clear hz m0 m1 m2)
        go_ret2
        exact ⟨⟨_, _, rfl, lrow_none _ _, fun g hg => by injection hg with hg; injection hg with hg _; subst hg; simp⟩, B2.out.alloc B2.out.size _⟩

theorem same_no1 {i : Int} {s r f g : ByteArray} (h : rdyB i s r f 3 = false) : sameV i s r f g = false := by unfold sameV; rw [h]; rfl
theorem same_no2 {i : Int} {s r f g : ByteArray} (h : rdyB i s r g 3 = false) : sameV i s r f g = false := by unfold sameV; rw [h]; simp
theorem same_yes {a : St} {f f2 : ByteArray} {g g2 : Fm} (hf : f.data.toList = g.text) (hf2 : f2.data.toList = g2.text) (h : rdyB a.n (bs a.set) (bs a.rel) f 3 = true) (h2 : rdyB a.n (bs a.set) (bs a.rel) f2 3 = true) :
    sameV a.n (bs a.set) (bs a.rel) f f2 = decide (((listsK a.n 3).filter fun l => g.holds a (envL l)) = (listsK a.n 3).filter fun l => g2.holds a (envL l)) := by
  unfold sameV
  rw [h, h2]
  have e1 := ptL_yes (k := 3) hf (by rw [pt_nat _ _ _ _ (by omega), h])
  have e2 := ptL_yes (k := 3) hf2 (by rw [pt_nat _ _ _ _ (by omega), h2])
  have e1' : ptL a.n (bs a.set) (bs a.rel) f 3 = _ := e1
  have e2' : ptL a.n (bs a.set) (bs a.rel) f2 3 = _ := e2
  rw [e1', e2']; rfl

set_option maxHeartbeats 4000000 in
set_option maxRecDepth 100000 in
theorem SameIn_spec (i : Int) (s r f f2 : ByteArray) (w : World) (hs : s.size ≤ maxLen) (hr : r.size ≤ maxLen) (hf : f.size ≤ maxLen) (hf2 : f2.size ≤ maxLen) :
    Calls Tryd.prog 26 #[stV i s r, .string f, .string f2] w fun e w' => e = .returned (.tuple #[.bool (sameV i s r f f2), .bool (rdyB i s r f 3 && rdyB i s r f2 3)]) ∧ Below w.heap.size w w' := by
  have B0 := Lib.hid (show Below w.heap.size w (w.alloc (.cells #[.int .i64 i, .string s, .string r] 28)) from (Below.refl _ _).alloc (Nat.le_refl _) _)
  have Xa := Lib.hid (Bx.new w 28 #[.int .i64 i, .string s, .string r])
  have cr := fun W => l3Ready_calls i s r f 3 W hs hr hf (by omega)
  have cr2 := fun W => l3Ready_calls i s r f2 3 W hs hr hf2 (by omega)
  clear hs hr hf hf2
  obtain ⟨k0, k1, k2⟩ := box_load Xa.out
  cases hry : rdyB i s r f 3
  case false =>
    rw [same_no1 hry]
    simp only [hry] at cr
    have CR := Lib.hid cr
    clear cr cr2 hry
    go_enter Tryd.func26, Tryd.ntmps26
    go_wp2_with fail
    refine (CR.out _).mono ?_
    rintro e w1 ⟨rfl, hz⟩
    have B1 := Lib.hid (B0.out.trans (hz.mono B0.out.size))
    clear hz k0 k1 k2
    go_wp2_with fail
    go_ret2
    exact ⟨rfl, B1.out⟩
  case true =>
  simp only [hry] at cr
  have CR := Lib.hid cr
  clear cr
  cases hry2 : rdyB i s r f2 3
  case false =>
    rw [same_no2 hry2]
    simp only [hry2] at cr2
    have CR2 := Lib.hid cr2
    clear cr2 hry hry2
    go_enter Tryd.func26, Tryd.ntmps26
    go_wp2_with fail
    refine (CR.out _).mono ?_
    rintro e w1 ⟨rfl, hz⟩
    have B1 := Lib.hid (B0.out.trans (hz.mono B0.out.size))
    have X1 := Lib.hid (Xa.out.call hz)
    clear hz k0 k1 k2
    obtain ⟨k0, k1, k2⟩ := box_load X1.out
    go_wp2_with fail
    refine (CR2.out _).mono ?_
    rintro e w2 ⟨rfl, hz⟩
    have B2 := Lib.hid (B1.out.trans (hz.mono B1.out.size))
    clear hz k0 k1 k2
    go_wp2_with fail
    go_ret2
    exact ⟨rfl, B2.out⟩
  case true =>
    simp only [hry2] at cr2
    have CR2 := Lib.hid cr2
    obtain ⟨a, g, ha, rfl, rfl, rfl, hfm, hs4⟩ := rdy_fm hry
    obtain ⟨g2, hfm2, hs42⟩ : ∃ g2 : Fm, f2.data.toList = g2.text ∧ f2.size ≤ 4000 := by
      obtain ⟨_, g2, _, _, _, _, h1, h2⟩ := rdy_fm hry2
      exact ⟨g2, h1, h2⟩
    rw [same_yes hfm hfm2 hry hry2]
    have hwk : 3 ≤ 3 := Nat.le_refl 3
    obtain ⟨QQ, hQQ⟩ : ∃ QQ : List Nat → Bool, QQ = fun l => g2.holds a (envL l) := ⟨_, rfl⟩
    rw [← hQQ]
    have ctb := fun (j : Nat) W => l2True_calls a ha f2 g2 (envL (ptK a.n 3 j)) W hfm2 hs42 (env_lt ha (ptK_lt ha.lo 3 j))
    have ctb2 : ∀ (j : Nat) (W : World), Calls Tryd.prog 34 #[.agg #[.int .i64 (a.n : Int), .string (bs a.set), .string (bs a.rel)], .string f2, .agg (envA4 (envL (ptK a.n 3 j)))] W fun ed w' => ed = .returned (.bool (QQ (ptK a.n 3 j))) ∧ Below W.heap.size W w' := fun j W => by rw [hQQ]; exact ctb j W
    have CTB := Lib.hid ctb2
    clear ctb ctb2 hQQ cr2 hfm2
    obtain ⟨PP, hPP⟩ : ∃ PP : List Nat → Bool, PP = fun l => g.holds a (envL l) := ⟨_, rfl⟩
    rw [← hPP]
    have h8 := ha.hi
    have hlo := ha.lo
    have hpl := pow_le h8 hwk
    have cw := fun W => l3Power_calls a ha 3 hwk W
    have cp := fun (j : Nat) W (hj : j < a.n ^ 3) => l3Point_calls a ha 3 j hwk (by omega) W
    have ct := fun (j : Nat) W => l2True_calls a ha f g (envL (ptK a.n 3 j)) W hfm hs4 (env_lt ha (ptK_lt hlo 3 j))
    obtain ⟨Q, hQ⟩ : ∃ Q, Q = a.n ^ 3 := ⟨_, rfl⟩
    simp only [← hQ] at cw cp hpl
    have ct2 : ∀ (j : Nat) (W : World), Calls Tryd.prog 34 #[.agg #[.int .i64 (a.n : Int), .string (bs a.set), .string (bs a.rel)], .string f, .agg (envA4 (envL (ptK a.n 3 j)))] W fun ed w' => ed = .returned (.bool (PP (ptK a.n 3 j))) ∧ Below W.heap.size W w' := fun j W => by rw [hPP]; exact ct j W
    unfold stA at cw cp
    have CW := Lib.hid cw
    have CP := Lib.hid cp
    have CT := Lib.hid ct2
    clear hfm cw cp ct ct2 hPP
    have hsa := fun h => @same_all a.n hlo PP QQ 3 h
    have hsn := fun (j : Nat) h1 h2 => @same_not a.n hlo PP QQ 3 j h1 h2
    rw [← hQ] at hsa hsn
    have Hsa := Lib.hid hsa
    have Hsn := Lib.hid hsn
    obtain ⟨R, hR⟩ : ∃ R, R = decide ((listsK a.n 3).filter PP = (listsK a.n 3).filter QQ) := ⟨_, rfl⟩
    rw [← hR]
    have HR := Lib.hid hR
    clear hsa hsn hR hQ hry hry2
    go_enter Tryd.func26, Tryd.ntmps26
    go_wp2_with fail
    refine (CR.out _).mono ?_
    rintro e w1 ⟨rfl, hz⟩
    have B1 := Lib.hid (B0.out.trans (hz.mono B0.out.size))
    have X1 := Lib.hid (Xa.out.call hz)
    clear hz k0 k1 k2
    obtain ⟨k0, k1, k2⟩ := box_load X1.out
    go_wp2_with fail
    refine (CR2.out _).mono ?_
    rintro e w2 ⟨rfl, hz⟩
    have B2 := Lib.hid (B1.out.trans (hz.mono B1.out.size))
    have X2 := Lib.hid (X1.out.call hz)
    clear hz k0 k1 k2
    go_wp2_with fail
    go_loopg [8] Q (fun c xi wr => ∃ j : Nat, j + c = Q ∧ xi = .int .i64 (j : Nat) ∧ (∀ q, q < j → PP (ptK a.n 3 q) = QQ (ptK a.n 3 q)) ∧ Bx wr w.heap.size 28 #[.int .i64 (a.n : Int), .string (bs a.set), .string (bs a.rel)] ∧ Below w.heap.size w wr)
    case atStart => exact ⟨0, by omega, rfl, fun q hq => absurd hq (Nat.not_lt_zero _), X2.out, B2.out⟩
    case round =>
      clear X1 B1 X2 B2
      obtain ⟨j, hj, rfl, hno, hxs, hbl⟩ := hrel
      have HS := Lib.hid hxs
      have HB := Lib.hid hbl
      have Hno := Lib.hid hno
      clear hxs hbl hno
      obtain ⟨m0, m1, m2⟩ := box_load HS.out
      by_cases hjl : j < Q
      · have cpj := fun W => CP.out j W hjl
        have ctj := fun W => CT.out j W
        have ctk := fun W => CTB.out j W
        have hsnj := Hsn.out j hjl
        obtain ⟨L, hL⟩ : ∃ L, L = ptK a.n 3 j := ⟨_, rfl⟩
        rw [← hL] at hsnj
        simp only [← hL] at cpj ctj ctk
        unfold envA4 at cpj ctj ctk
        have CPj := Lib.hid cpj
        have HL := Lib.hid hL
        have hjlt : (j : Int) < (Q : Int) := by omega
        have Hsnj := Lib.hid hsnj
        clear cpj hL hsnj
        cases hq : PP L with
        | false =>
          cases hq2 : QQ L with
          | false =>
            simp only [hq] at ctj
            simp only [hq2] at ctk
            have CTj := Lib.hid ctj
            have CTk := Lib.hid ctk
            have Hq := Lib.hid hq
            have Hq2 := Lib.hid hq2
            clear ctj ctk hq hq2
            go_upto_region 7 with (first | (go_at_call 45; refine (CW.out _).mono ?_; rintro e w2 ⟨rfl, hz⟩; have B2 := Lib.hid (HB.out.trans (hz.mono HB.out.size)); have X2 := Lib.hid (HS.out.call hz); clear hz m0 m1 m2; obtain ⟨p0, p1, p2⟩ := box_load X2.out) | (go_at_call 46; refine (CPj.out _).mono ?_; rintro e w3 ⟨rfl, hz⟩; have B3 := Lib.hid ((B2.out.trans (hz.mono B2.out.size)).alloc (B2.out.trans (hz.mono B2.out.size)).size (.cells #[.int .i64 ((envL L) 0 : Nat), .int .i64 ((envL L) 1 : Nat), .int .i64 ((envL L) 2 : Nat), .int .i64 ((envL L) 3 : Nat)] 46)).drew; have X3 := Lib.hid ((X2.out.call hz).alloc (.cells #[.int .i64 ((envL L) 0 : Nat), .int .i64 ((envL L) 1 : Nat), .int .i64 ((envL L) 2 : Nat), .int .i64 ((envL L) 3 : Nat)] 46)).drew; have XP3 := Lib.hid (Bx.new w3 46 #[.int .i64 ((envL L) 0 : Nat), .int .i64 ((envL L) 1 : Nat), .int .i64 ((envL L) 2 : Nat), .int .i64 ((envL L) 3 : Nat)]).drew; clear hz p0 p1 p2; obtain ⟨q0, q1, q2⟩ := box_load X3.out; have v0 := XP3.out.cell 0; have v1 := XP3.out.cell 1; have v2 := XP3.out.cell 2; have v3 := XP3.out.cell 3; simp only [List.getElem?_toArray, List.getElem?_cons_zero, List.getElem?_cons_succ] at v0 v1 v2 v3))
            refine region_sched [(0, true), (1, true), (2, true), (4, true), (5, true), (6, true), (3, false), (7, false), (8, true)] (fun w' : World => w'.cell? ⟨w.heap.size, 0, none⟩ = some (.int .i64 (a.n : Int)) ∧ w'.cell? ⟨w.heap.size, 1, none⟩ = some (.string (bs a.set)) ∧ w'.cell? ⟨w.heap.size, 2, none⟩ = some (.string (bs a.rel)) ∧ w'.cell? ⟨w3.heap.size, 0, none⟩ = some (.int .i64 (envL L 0 : Nat)) ∧ w'.cell? ⟨w3.heap.size, 1, none⟩ = some (.int .i64 (envL L 1 : Nat)) ∧ w'.cell? ⟨w3.heap.size, 2, none⟩ = some (.int .i64 (envL L 2 : Nat)) ∧ w'.cell? ⟨w3.heap.size, 3, none⟩ = some (.int .i64 (envL L 3 : Nat))) (by kernel_rfl) (by kernel_rfl) (by kernel_rfl) (by kernel_rfl) (fun _ _ _ _ h => h) ?_ (fun Q1 hQ1 => ?_)
            · exact ⟨q0, q1, q2, v0, v1, v2, v3⟩
            try simp only [List.append]
            refine sched_take' (v := .agg #[.int .i64 (a.n : Int), .string (bs a.set), .string (bs a.rel)]) (a' := ?_) rfl (by kernel_rfl) ?_ rfl ?_ ?_
            rotate_left 1
            · intro w hSw
              (try dsimp only at hSw)
              go_simp
              first | done | (obtain ⟨u0, u1, u2, u3, u4, u5, u6⟩ := hSw; simp [*])
            · (try simp only [Act.put, List.setIfInBounds_toArray, List.set_cons_zero, List.set_cons_succ])
              try rfl
            refine sched_take' (v := ?_) (a' := ?_) rfl (by kernel_rfl) ?_ rfl ?_ ?_
            rotate_left 2
            · intro w hSw
              (try dsimp only at hSw)
              go_simp
              try with_reducible rfl
            · (try simp only [Act.put, List.setIfInBounds_toArray, List.set_cons_zero, List.set_cons_succ])
              try rfl
            refine sched_take' (v := .agg #[.int .i64 ((envL L) 0 : Nat), .int .i64 ((envL L) 1 : Nat), .int .i64 ((envL L) 2 : Nat), .int .i64 ((envL L) 3 : Nat)]) (a' := ?_) rfl (by kernel_rfl) ?_ rfl ?_ ?_
            rotate_left 1
            · intro w hSw
              (try dsimp only at hSw)
              go_simp
              first | done | (obtain ⟨u0, u1, u2, u3, u4, u5, u6⟩ := hSw; simp [*])
            · (try simp only [Act.put, List.setIfInBounds_toArray, List.set_cons_zero, List.set_cons_succ])
              try rfl
            refine sched_take' (v := .agg #[.int .i64 (a.n : Int), .string (bs a.set), .string (bs a.rel)]) (a' := ?_) rfl (by kernel_rfl) ?_ rfl ?_ ?_
            rotate_left 1
            · intro w hSw
              (try dsimp only at hSw)
              go_simp
              first | done | (obtain ⟨u0, u1, u2, u3, u4, u5, u6⟩ := hSw; simp [*])
            · (try simp only [Act.put, List.setIfInBounds_toArray, List.set_cons_zero, List.set_cons_succ])
              try rfl
            refine sched_take' (v := ?_) (a' := ?_) rfl (by kernel_rfl) ?_ rfl ?_ ?_
            rotate_left 2
            · intro w hSw
              (try dsimp only at hSw)
              go_simp
              try with_reducible rfl
            · (try simp only [Act.put, List.setIfInBounds_toArray, List.set_cons_zero, List.set_cons_succ])
              try rfl
            refine sched_take' (v := .agg #[.int .i64 ((envL L) 0 : Nat), .int .i64 ((envL L) 1 : Nat), .int .i64 ((envL L) 2 : Nat), .int .i64 ((envL L) 3 : Nat)]) (a' := ?_) rfl (by kernel_rfl) ?_ rfl ?_ ?_
            rotate_left 1
            · intro w hSw
              (try dsimp only at hSw)
              go_simp
              first | done | (obtain ⟨u0, u1, u2, u3, u4, u5, u6⟩ := hSw; simp [*])
            · (try simp only [Act.put, List.setIfInBounds_toArray, List.set_cons_zero, List.set_cons_succ])
              try rfl
            refine sched_call rfl (by kernel_rfl) (fun K1 hK1 => ?_)
            go_simp
            refine (CTj.out _).mono ?_
            rintro ed w4 ⟨rfl, hz⟩
            have B4 := Lib.hid (B3.out.trans (hz.mono B3.out.size))
            have X4 := Lib.hid (X3.out.call hz)
            have XP4 := Lib.hid (XP3.out.call hz)
            clear hz
            obtain ⟨r0, r1, r2⟩ := box_load X4.out
            have s0 := XP4.out.cell 0
            have s1 := XP4.out.cell 1
            have s2 := XP4.out.cell 2
            have s3 := XP4.out.cell 3
            simp only [List.getElem?_toArray, List.getElem?_cons_zero, List.getElem?_cons_succ] at s0 s1 s2 s3
            go_wp2_with fail
            refine hK1.out _ _ ?_ (sched_lay (a' := ?_) ?_ ?_)
            · exact ⟨r0, r1, r2, s0, s1, s2, s3⟩
            rotate_left 1
            · (try simp only [Act.put, List.getElem_toArray, List.getElem_cons_succ, List.getElem_cons_zero, List.setIfInBounds_toArray, List.set_cons_zero, List.set_cons_succ])
              try rfl
            clear hK1 K1
            refine sched_call rfl (by kernel_rfl) (fun K1 hK1 => ?_)
            go_simp
            refine (CTk.out _).mono ?_
            rintro ed w5 ⟨rfl, hz⟩
            have B5 := Lib.hid (B4.out.trans (hz.mono B4.out.size))
            have X5 := Lib.hid (X4.out.call hz)
            have XP5 := Lib.hid (XP4.out.call hz)
            clear hz
            obtain ⟨t0, t1, t2⟩ := box_load X5.out
            have y0 := XP5.out.cell 0
            have y1 := XP5.out.cell 1
            have y2 := XP5.out.cell 2
            have y3 := XP5.out.cell 3
            simp only [List.getElem?_toArray, List.getElem?_cons_zero, List.getElem?_cons_succ] at y0 y1 y2 y3
            go_wp2_with fail
            refine hK1.out _ _ ?_ (sched_lay (a' := ?_) ?_ ?_)
            · exact ⟨t0, t1, t2, y0, y1, y2, y3⟩
            rotate_left 1
            · (try simp only [Act.put, List.getElem_toArray, List.getElem_cons_succ, List.getElem_cons_zero, List.setIfInBounds_toArray, List.set_cons_zero, List.set_cons_succ])
              try rfl
            clear hK1 K1
            refine sched_take' (v := ?_) (a' := ?_) rfl (by kernel_rfl) ?_ rfl ?_ ?_
            rotate_left 2
            · intro w hSw
              (try dsimp only at hSw)
              go_simp
              try with_reducible rfl
            · (try simp only [Act.put, List.setIfInBounds_toArray, List.set_cons_zero, List.set_cons_succ])
              try rfl
            refine sched_done (hQ1.out _ _ ?_)
            go_wp2_with fail
            go_roundg (Q - j - 1)
            case rel => exact ⟨j + 1, by omega, by go_num, fun q hq => by
              by_cases hqj : q = j
              · subst hqj; rw [← HL.out, Hq.out, Hq2.out]
              · exact Hno.out q (by omega), X5.out, B5.out⟩
            case measure => omega
          | true =>
            simp only [hq] at ctj
            simp only [hq2] at ctk
            have CTj := Lib.hid ctj
            have CTk := Lib.hid ctk
            have Hq := Lib.hid hq
            have Hq2 := Lib.hid hq2
            clear ctj ctk hq hq2
            have hR2 : R = false := by rw [HR.out]; exact decide_eq_false (Hsnj.out (by rw [Hq.out, Hq2.out]; simp))
            have HR2 := Lib.hid hR2
            clear hR2
            go_upto_region 7 with (first | (go_at_call 45; refine (CW.out _).mono ?_; rintro e w2 ⟨rfl, hz⟩; have B2 := Lib.hid (HB.out.trans (hz.mono HB.out.size)); have X2 := Lib.hid (HS.out.call hz); clear hz m0 m1 m2; obtain ⟨p0, p1, p2⟩ := box_load X2.out) | (go_at_call 46; refine (CPj.out _).mono ?_; rintro e w3 ⟨rfl, hz⟩; have B3 := Lib.hid ((B2.out.trans (hz.mono B2.out.size)).alloc (B2.out.trans (hz.mono B2.out.size)).size (.cells #[.int .i64 ((envL L) 0 : Nat), .int .i64 ((envL L) 1 : Nat), .int .i64 ((envL L) 2 : Nat), .int .i64 ((envL L) 3 : Nat)] 46)).drew; have X3 := Lib.hid ((X2.out.call hz).alloc (.cells #[.int .i64 ((envL L) 0 : Nat), .int .i64 ((envL L) 1 : Nat), .int .i64 ((envL L) 2 : Nat), .int .i64 ((envL L) 3 : Nat)] 46)).drew; have XP3 := Lib.hid (Bx.new w3 46 #[.int .i64 ((envL L) 0 : Nat), .int .i64 ((envL L) 1 : Nat), .int .i64 ((envL L) 2 : Nat), .int .i64 ((envL L) 3 : Nat)]).drew; clear hz p0 p1 p2; obtain ⟨q0, q1, q2⟩ := box_load X3.out; have v0 := XP3.out.cell 0; have v1 := XP3.out.cell 1; have v2 := XP3.out.cell 2; have v3 := XP3.out.cell 3; simp only [List.getElem?_toArray, List.getElem?_cons_zero, List.getElem?_cons_succ] at v0 v1 v2 v3))
            refine region_sched [(0, true), (1, true), (2, true), (4, true), (5, true), (6, true), (3, false), (7, false), (8, true)] (fun w' : World => w'.cell? ⟨w.heap.size, 0, none⟩ = some (.int .i64 (a.n : Int)) ∧ w'.cell? ⟨w.heap.size, 1, none⟩ = some (.string (bs a.set)) ∧ w'.cell? ⟨w.heap.size, 2, none⟩ = some (.string (bs a.rel)) ∧ w'.cell? ⟨w3.heap.size, 0, none⟩ = some (.int .i64 (envL L 0 : Nat)) ∧ w'.cell? ⟨w3.heap.size, 1, none⟩ = some (.int .i64 (envL L 1 : Nat)) ∧ w'.cell? ⟨w3.heap.size, 2, none⟩ = some (.int .i64 (envL L 2 : Nat)) ∧ w'.cell? ⟨w3.heap.size, 3, none⟩ = some (.int .i64 (envL L 3 : Nat))) (by kernel_rfl) (by kernel_rfl) (by kernel_rfl) (by kernel_rfl) (fun _ _ _ _ h => h) ?_ (fun Q1 hQ1 => ?_)
            · exact ⟨q0, q1, q2, v0, v1, v2, v3⟩
            try simp only [List.append]
            refine sched_take' (v := .agg #[.int .i64 (a.n : Int), .string (bs a.set), .string (bs a.rel)]) (a' := ?_) rfl (by kernel_rfl) ?_ rfl ?_ ?_
            rotate_left 1
            · intro w hSw
              (try dsimp only at hSw)
              go_simp
              first | done | (obtain ⟨u0, u1, u2, u3, u4, u5, u6⟩ := hSw; simp [*])
            · (try simp only [Act.put, List.setIfInBounds_toArray, List.set_cons_zero, List.set_cons_succ])
              try rfl
            refine sched_take' (v := ?_) (a' := ?_) rfl (by kernel_rfl) ?_ rfl ?_ ?_
            rotate_left 2
            · intro w hSw
              (try dsimp only at hSw)
              go_simp
              try with_reducible rfl
            · (try simp only [Act.put, List.setIfInBounds_toArray, List.set_cons_zero, List.set_cons_succ])
              try rfl
            refine sched_take' (v := .agg #[.int .i64 ((envL L) 0 : Nat), .int .i64 ((envL L) 1 : Nat), .int .i64 ((envL L) 2 : Nat), .int .i64 ((envL L) 3 : Nat)]) (a' := ?_) rfl (by kernel_rfl) ?_ rfl ?_ ?_
            rotate_left 1
            · intro w hSw
              (try dsimp only at hSw)
              go_simp
              first | done | (obtain ⟨u0, u1, u2, u3, u4, u5, u6⟩ := hSw; simp [*])
            · (try simp only [Act.put, List.setIfInBounds_toArray, List.set_cons_zero, List.set_cons_succ])
              try rfl
            refine sched_take' (v := .agg #[.int .i64 (a.n : Int), .string (bs a.set), .string (bs a.rel)]) (a' := ?_) rfl (by kernel_rfl) ?_ rfl ?_ ?_
            rotate_left 1
            · intro w hSw
              (try dsimp only at hSw)
              go_simp
              first | done | (obtain ⟨u0, u1, u2, u3, u4, u5, u6⟩ := hSw; simp [*])
            · (try simp only [Act.put, List.setIfInBounds_toArray, List.set_cons_zero, List.set_cons_succ])
              try rfl
            refine sched_take' (v := ?_) (a' := ?_) rfl (by kernel_rfl) ?_ rfl ?_ ?_
            rotate_left 2
            · intro w hSw
              (try dsimp only at hSw)
              go_simp
              try with_reducible rfl
            · (try simp only [Act.put, List.setIfInBounds_toArray, List.set_cons_zero, List.set_cons_succ])
              try rfl
            refine sched_take' (v := .agg #[.int .i64 ((envL L) 0 : Nat), .int .i64 ((envL L) 1 : Nat), .int .i64 ((envL L) 2 : Nat), .int .i64 ((envL L) 3 : Nat)]) (a' := ?_) rfl (by kernel_rfl) ?_ rfl ?_ ?_
            rotate_left 1
            · intro w hSw
              (try dsimp only at hSw)
              go_simp
              first | done | (obtain ⟨u0, u1, u2, u3, u4, u5, u6⟩ := hSw; simp [*])
            · (try simp only [Act.put, List.setIfInBounds_toArray, List.set_cons_zero, List.set_cons_succ])
              try rfl
            refine sched_call rfl (by kernel_rfl) (fun K1 hK1 => ?_)
            go_simp
            refine (CTj.out _).mono ?_
            rintro ed w4 ⟨rfl, hz⟩
            have B4 := Lib.hid (B3.out.trans (hz.mono B3.out.size))
            have X4 := Lib.hid (X3.out.call hz)
            have XP4 := Lib.hid (XP3.out.call hz)
            clear hz
            obtain ⟨r0, r1, r2⟩ := box_load X4.out
            have s0 := XP4.out.cell 0
            have s1 := XP4.out.cell 1
            have s2 := XP4.out.cell 2
            have s3 := XP4.out.cell 3
            simp only [List.getElem?_toArray, List.getElem?_cons_zero, List.getElem?_cons_succ] at s0 s1 s2 s3
            go_wp2_with fail
            refine hK1.out _ _ ?_ (sched_lay (a' := ?_) ?_ ?_)
            · exact ⟨r0, r1, r2, s0, s1, s2, s3⟩
            rotate_left 1
            · (try simp only [Act.put, List.getElem_toArray, List.getElem_cons_succ, List.getElem_cons_zero, List.setIfInBounds_toArray, List.set_cons_zero, List.set_cons_succ])
              try rfl
            clear hK1 K1
            refine sched_call rfl (by kernel_rfl) (fun K1 hK1 => ?_)
            go_simp
            refine (CTk.out _).mono ?_
            rintro ed w5 ⟨rfl, hz⟩
            have B5 := Lib.hid (B4.out.trans (hz.mono B4.out.size))
            have X5 := Lib.hid (X4.out.call hz)
            have XP5 := Lib.hid (XP4.out.call hz)
            clear hz
            obtain ⟨t0, t1, t2⟩ := box_load X5.out
            have y0 := XP5.out.cell 0
            have y1 := XP5.out.cell 1
            have y2 := XP5.out.cell 2
            have y3 := XP5.out.cell 3
            simp only [List.getElem?_toArray, List.getElem?_cons_zero, List.getElem?_cons_succ] at y0 y1 y2 y3
            go_wp2_with fail
            refine hK1.out _ _ ?_ (sched_lay (a' := ?_) ?_ ?_)
            · exact ⟨t0, t1, t2, y0, y1, y2, y3⟩
            rotate_left 1
            · (try simp only [Act.put, List.getElem_toArray, List.getElem_cons_succ, List.getElem_cons_zero, List.setIfInBounds_toArray, List.set_cons_zero, List.set_cons_succ])
              try rfl
            clear hK1 K1
            refine sched_take' (v := ?_) (a' := ?_) rfl (by kernel_rfl) ?_ rfl ?_ ?_
            rotate_left 2
            · intro w hSw
              (try dsimp only at hSw)
              go_simp
              try with_reducible rfl
            · (try simp only [Act.put, List.setIfInBounds_toArray, List.set_cons_zero, List.set_cons_succ])
              try rfl
            refine sched_done (hQ1.out _ _ ?_)
            go_wp2_with fail
            go_ret2
            exact ⟨ret_pair (by show Value.bool false = Value.bool R; rw [HR2.out]) rfl, B5.out⟩
        | true =>
          cases hq2 : QQ L with
          | false =>
            simp only [hq] at ctj
            simp only [hq2] at ctk
            have CTj := Lib.hid ctj
            have CTk := Lib.hid ctk
            have Hq := Lib.hid hq
            have Hq2 := Lib.hid hq2
            clear ctj ctk hq hq2
            have hR2 : R = false := by rw [HR.out]; exact decide_eq_false (Hsnj.out (by rw [Hq.out, Hq2.out]; simp))
            have HR2 := Lib.hid hR2
            clear hR2
            go_upto_region 7 with (first | (go_at_call 45; refine (CW.out _).mono ?_; rintro e w2 ⟨rfl, hz⟩; have B2 := Lib.hid (HB.out.trans (hz.mono HB.out.size)); have X2 := Lib.hid (HS.out.call hz); clear hz m0 m1 m2; obtain ⟨p0, p1, p2⟩ := box_load X2.out) | (go_at_call 46; refine (CPj.out _).mono ?_; rintro e w3 ⟨rfl, hz⟩; have B3 := Lib.hid ((B2.out.trans (hz.mono B2.out.size)).alloc (B2.out.trans (hz.mono B2.out.size)).size (.cells #[.int .i64 ((envL L) 0 : Nat), .int .i64 ((envL L) 1 : Nat), .int .i64 ((envL L) 2 : Nat), .int .i64 ((envL L) 3 : Nat)] 46)).drew; have X3 := Lib.hid ((X2.out.call hz).alloc (.cells #[.int .i64 ((envL L) 0 : Nat), .int .i64 ((envL L) 1 : Nat), .int .i64 ((envL L) 2 : Nat), .int .i64 ((envL L) 3 : Nat)] 46)).drew; have XP3 := Lib.hid (Bx.new w3 46 #[.int .i64 ((envL L) 0 : Nat), .int .i64 ((envL L) 1 : Nat), .int .i64 ((envL L) 2 : Nat), .int .i64 ((envL L) 3 : Nat)]).drew; clear hz p0 p1 p2; obtain ⟨q0, q1, q2⟩ := box_load X3.out; have v0 := XP3.out.cell 0; have v1 := XP3.out.cell 1; have v2 := XP3.out.cell 2; have v3 := XP3.out.cell 3; simp only [List.getElem?_toArray, List.getElem?_cons_zero, List.getElem?_cons_succ] at v0 v1 v2 v3))
            refine region_sched [(0, true), (1, true), (2, true), (4, true), (5, true), (6, true), (3, false), (7, false), (8, true)] (fun w' : World => w'.cell? ⟨w.heap.size, 0, none⟩ = some (.int .i64 (a.n : Int)) ∧ w'.cell? ⟨w.heap.size, 1, none⟩ = some (.string (bs a.set)) ∧ w'.cell? ⟨w.heap.size, 2, none⟩ = some (.string (bs a.rel)) ∧ w'.cell? ⟨w3.heap.size, 0, none⟩ = some (.int .i64 (envL L 0 : Nat)) ∧ w'.cell? ⟨w3.heap.size, 1, none⟩ = some (.int .i64 (envL L 1 : Nat)) ∧ w'.cell? ⟨w3.heap.size, 2, none⟩ = some (.int .i64 (envL L 2 : Nat)) ∧ w'.cell? ⟨w3.heap.size, 3, none⟩ = some (.int .i64 (envL L 3 : Nat))) (by kernel_rfl) (by kernel_rfl) (by kernel_rfl) (by kernel_rfl) (fun _ _ _ _ h => h) ?_ (fun Q1 hQ1 => ?_)
            · exact ⟨q0, q1, q2, v0, v1, v2, v3⟩
            try simp only [List.append]
            refine sched_take' (v := .agg #[.int .i64 (a.n : Int), .string (bs a.set), .string (bs a.rel)]) (a' := ?_) rfl (by kernel_rfl) ?_ rfl ?_ ?_
            rotate_left 1
            · intro w hSw
              (try dsimp only at hSw)
              go_simp
              first | done | (obtain ⟨u0, u1, u2, u3, u4, u5, u6⟩ := hSw; simp [*])
            · (try simp only [Act.put, List.setIfInBounds_toArray, List.set_cons_zero, List.set_cons_succ])
              try rfl
            refine sched_take' (v := ?_) (a' := ?_) rfl (by kernel_rfl) ?_ rfl ?_ ?_
            rotate_left 2
            · intro w hSw
              (try dsimp only at hSw)
              go_simp
              try with_reducible rfl
            · (try simp only [Act.put, List.setIfInBounds_toArray, List.set_cons_zero, List.set_cons_succ])
              try rfl
            refine sched_take' (v := .agg #[.int .i64 ((envL L) 0 : Nat), .int .i64 ((envL L) 1 : Nat), .int .i64 ((envL L) 2 : Nat), .int .i64 ((envL L) 3 : Nat)]) (a' := ?_) rfl (by kernel_rfl) ?_ rfl ?_ ?_
            rotate_left 1
            · intro w hSw
              (try dsimp only at hSw)
              go_simp
              first | done | (obtain ⟨u0, u1, u2, u3, u4, u5, u6⟩ := hSw; simp [*])
            · (try simp only [Act.put, List.setIfInBounds_toArray, List.set_cons_zero, List.set_cons_succ])
              try rfl
            refine sched_take' (v := .agg #[.int .i64 (a.n : Int), .string (bs a.set), .string (bs a.rel)]) (a' := ?_) rfl (by kernel_rfl) ?_ rfl ?_ ?_
            rotate_left 1
            · intro w hSw
              (try dsimp only at hSw)
              go_simp
              first | done | (obtain ⟨u0, u1, u2, u3, u4, u5, u6⟩ := hSw; simp [*])
            · (try simp only [Act.put, List.setIfInBounds_toArray, List.set_cons_zero, List.set_cons_succ])
              try rfl
            refine sched_take' (v := ?_) (a' := ?_) rfl (by kernel_rfl) ?_ rfl ?_ ?_
            rotate_left 2
            · intro w hSw
              (try dsimp only at hSw)
              go_simp
              try with_reducible rfl
            · (try simp only [Act.put, List.setIfInBounds_toArray, List.set_cons_zero, List.set_cons_succ])
              try rfl
            refine sched_take' (v := .agg #[.int .i64 ((envL L) 0 : Nat), .int .i64 ((envL L) 1 : Nat), .int .i64 ((envL L) 2 : Nat), .int .i64 ((envL L) 3 : Nat)]) (a' := ?_) rfl (by kernel_rfl) ?_ rfl ?_ ?_
            rotate_left 1
            · intro w hSw
              (try dsimp only at hSw)
              go_simp
              first | done | (obtain ⟨u0, u1, u2, u3, u4, u5, u6⟩ := hSw; simp [*])
            · (try simp only [Act.put, List.setIfInBounds_toArray, List.set_cons_zero, List.set_cons_succ])
              try rfl
            refine sched_call rfl (by kernel_rfl) (fun K1 hK1 => ?_)
            go_simp
            refine (CTj.out _).mono ?_
            rintro ed w4 ⟨rfl, hz⟩
            have B4 := Lib.hid (B3.out.trans (hz.mono B3.out.size))
            have X4 := Lib.hid (X3.out.call hz)
            have XP4 := Lib.hid (XP3.out.call hz)
            clear hz
            obtain ⟨r0, r1, r2⟩ := box_load X4.out
            have s0 := XP4.out.cell 0
            have s1 := XP4.out.cell 1
            have s2 := XP4.out.cell 2
            have s3 := XP4.out.cell 3
            simp only [List.getElem?_toArray, List.getElem?_cons_zero, List.getElem?_cons_succ] at s0 s1 s2 s3
            go_wp2_with fail
            refine hK1.out _ _ ?_ (sched_lay (a' := ?_) ?_ ?_)
            · exact ⟨r0, r1, r2, s0, s1, s2, s3⟩
            rotate_left 1
            · (try simp only [Act.put, List.getElem_toArray, List.getElem_cons_succ, List.getElem_cons_zero, List.setIfInBounds_toArray, List.set_cons_zero, List.set_cons_succ])
              try rfl
            clear hK1 K1
            refine sched_call rfl (by kernel_rfl) (fun K1 hK1 => ?_)
            go_simp
            refine (CTk.out _).mono ?_
            rintro ed w5 ⟨rfl, hz⟩
            have B5 := Lib.hid (B4.out.trans (hz.mono B4.out.size))
            have X5 := Lib.hid (X4.out.call hz)
            have XP5 := Lib.hid (XP4.out.call hz)
            clear hz
            obtain ⟨t0, t1, t2⟩ := box_load X5.out
            have y0 := XP5.out.cell 0
            have y1 := XP5.out.cell 1
            have y2 := XP5.out.cell 2
            have y3 := XP5.out.cell 3
            simp only [List.getElem?_toArray, List.getElem?_cons_zero, List.getElem?_cons_succ] at y0 y1 y2 y3
            go_wp2_with fail
            refine hK1.out _ _ ?_ (sched_lay (a' := ?_) ?_ ?_)
            · exact ⟨t0, t1, t2, y0, y1, y2, y3⟩
            rotate_left 1
            · (try simp only [Act.put, List.getElem_toArray, List.getElem_cons_succ, List.getElem_cons_zero, List.setIfInBounds_toArray, List.set_cons_zero, List.set_cons_succ])
              try rfl
            clear hK1 K1
            refine sched_take' (v := ?_) (a' := ?_) rfl (by kernel_rfl) ?_ rfl ?_ ?_
            rotate_left 2
            · intro w hSw
              (try dsimp only at hSw)
              go_simp
              try with_reducible rfl
            · (try simp only [Act.put, List.setIfInBounds_toArray, List.set_cons_zero, List.set_cons_succ])
              try rfl
            refine sched_done (hQ1.out _ _ ?_)
            go_wp2_with fail
            go_ret2
            exact ⟨ret_pair (by show Value.bool false = Value.bool R; rw [HR2.out]) rfl, B5.out⟩
          | true =>
            simp only [hq] at ctj
            simp only [hq2] at ctk
            have CTj := Lib.hid ctj
            have CTk := Lib.hid ctk
            have Hq := Lib.hid hq
            have Hq2 := Lib.hid hq2
            clear ctj ctk hq hq2
            go_upto_region 7 with (first | (go_at_call 45; refine (CW.out _).mono ?_; rintro e w2 ⟨rfl, hz⟩; have B2 := Lib.hid (HB.out.trans (hz.mono HB.out.size)); have X2 := Lib.hid (HS.out.call hz); clear hz m0 m1 m2; obtain ⟨p0, p1, p2⟩ := box_load X2.out) | (go_at_call 46; refine (CPj.out _).mono ?_; rintro e w3 ⟨rfl, hz⟩; have B3 := Lib.hid ((B2.out.trans (hz.mono B2.out.size)).alloc (B2.out.trans (hz.mono B2.out.size)).size (.cells #[.int .i64 ((envL L) 0 : Nat), .int .i64 ((envL L) 1 : Nat), .int .i64 ((envL L) 2 : Nat), .int .i64 ((envL L) 3 : Nat)] 46)).drew; have X3 := Lib.hid ((X2.out.call hz).alloc (.cells #[.int .i64 ((envL L) 0 : Nat), .int .i64 ((envL L) 1 : Nat), .int .i64 ((envL L) 2 : Nat), .int .i64 ((envL L) 3 : Nat)] 46)).drew; have XP3 := Lib.hid (Bx.new w3 46 #[.int .i64 ((envL L) 0 : Nat), .int .i64 ((envL L) 1 : Nat), .int .i64 ((envL L) 2 : Nat), .int .i64 ((envL L) 3 : Nat)]).drew; clear hz p0 p1 p2; obtain ⟨q0, q1, q2⟩ := box_load X3.out; have v0 := XP3.out.cell 0; have v1 := XP3.out.cell 1; have v2 := XP3.out.cell 2; have v3 := XP3.out.cell 3; simp only [List.getElem?_toArray, List.getElem?_cons_zero, List.getElem?_cons_succ] at v0 v1 v2 v3))
            refine region_sched [(0, true), (1, true), (2, true), (4, true), (5, true), (6, true), (3, false), (7, false), (8, true)] (fun w' : World => w'.cell? ⟨w.heap.size, 0, none⟩ = some (.int .i64 (a.n : Int)) ∧ w'.cell? ⟨w.heap.size, 1, none⟩ = some (.string (bs a.set)) ∧ w'.cell? ⟨w.heap.size, 2, none⟩ = some (.string (bs a.rel)) ∧ w'.cell? ⟨w3.heap.size, 0, none⟩ = some (.int .i64 (envL L 0 : Nat)) ∧ w'.cell? ⟨w3.heap.size, 1, none⟩ = some (.int .i64 (envL L 1 : Nat)) ∧ w'.cell? ⟨w3.heap.size, 2, none⟩ = some (.int .i64 (envL L 2 : Nat)) ∧ w'.cell? ⟨w3.heap.size, 3, none⟩ = some (.int .i64 (envL L 3 : Nat))) (by kernel_rfl) (by kernel_rfl) (by kernel_rfl) (by kernel_rfl) (fun _ _ _ _ h => h) ?_ (fun Q1 hQ1 => ?_)
            · exact ⟨q0, q1, q2, v0, v1, v2, v3⟩
            try simp only [List.append]
            refine sched_take' (v := .agg #[.int .i64 (a.n : Int), .string (bs a.set), .string (bs a.rel)]) (a' := ?_) rfl (by kernel_rfl) ?_ rfl ?_ ?_
            rotate_left 1
            · intro w hSw
              (try dsimp only at hSw)
              go_simp
              first | done | (obtain ⟨u0, u1, u2, u3, u4, u5, u6⟩ := hSw; simp [*])
            · (try simp only [Act.put, List.setIfInBounds_toArray, List.set_cons_zero, List.set_cons_succ])
              try rfl
            refine sched_take' (v := ?_) (a' := ?_) rfl (by kernel_rfl) ?_ rfl ?_ ?_
            rotate_left 2
            · intro w hSw
              (try dsimp only at hSw)
              go_simp
              try with_reducible rfl
            · (try simp only [Act.put, List.setIfInBounds_toArray, List.set_cons_zero, List.set_cons_succ])
              try rfl
            refine sched_take' (v := .agg #[.int .i64 ((envL L) 0 : Nat), .int .i64 ((envL L) 1 : Nat), .int .i64 ((envL L) 2 : Nat), .int .i64 ((envL L) 3 : Nat)]) (a' := ?_) rfl (by kernel_rfl) ?_ rfl ?_ ?_
            rotate_left 1
            · intro w hSw
              (try dsimp only at hSw)
              go_simp
              first | done | (obtain ⟨u0, u1, u2, u3, u4, u5, u6⟩ := hSw; simp [*])
            · (try simp only [Act.put, List.setIfInBounds_toArray, List.set_cons_zero, List.set_cons_succ])
              try rfl
            refine sched_take' (v := .agg #[.int .i64 (a.n : Int), .string (bs a.set), .string (bs a.rel)]) (a' := ?_) rfl (by kernel_rfl) ?_ rfl ?_ ?_
            rotate_left 1
            · intro w hSw
              (try dsimp only at hSw)
              go_simp
              first | done | (obtain ⟨u0, u1, u2, u3, u4, u5, u6⟩ := hSw; simp [*])
            · (try simp only [Act.put, List.setIfInBounds_toArray, List.set_cons_zero, List.set_cons_succ])
              try rfl
            refine sched_take' (v := ?_) (a' := ?_) rfl (by kernel_rfl) ?_ rfl ?_ ?_
            rotate_left 2
            · intro w hSw
              (try dsimp only at hSw)
              go_simp
              try with_reducible rfl
            · (try simp only [Act.put, List.setIfInBounds_toArray, List.set_cons_zero, List.set_cons_succ])
              try rfl
            refine sched_take' (v := .agg #[.int .i64 ((envL L) 0 : Nat), .int .i64 ((envL L) 1 : Nat), .int .i64 ((envL L) 2 : Nat), .int .i64 ((envL L) 3 : Nat)]) (a' := ?_) rfl (by kernel_rfl) ?_ rfl ?_ ?_
            rotate_left 1
            · intro w hSw
              (try dsimp only at hSw)
              go_simp
              first | done | (obtain ⟨u0, u1, u2, u3, u4, u5, u6⟩ := hSw; simp [*])
            · (try simp only [Act.put, List.setIfInBounds_toArray, List.set_cons_zero, List.set_cons_succ])
              try rfl
            refine sched_call rfl (by kernel_rfl) (fun K1 hK1 => ?_)
            go_simp
            refine (CTj.out _).mono ?_
            rintro ed w4 ⟨rfl, hz⟩
            have B4 := Lib.hid (B3.out.trans (hz.mono B3.out.size))
            have X4 := Lib.hid (X3.out.call hz)
            have XP4 := Lib.hid (XP3.out.call hz)
            clear hz
            obtain ⟨r0, r1, r2⟩ := box_load X4.out
            have s0 := XP4.out.cell 0
            have s1 := XP4.out.cell 1
            have s2 := XP4.out.cell 2
            have s3 := XP4.out.cell 3
            simp only [List.getElem?_toArray, List.getElem?_cons_zero, List.getElem?_cons_succ] at s0 s1 s2 s3
            go_wp2_with fail
            refine hK1.out _ _ ?_ (sched_lay (a' := ?_) ?_ ?_)
            · exact ⟨r0, r1, r2, s0, s1, s2, s3⟩
            rotate_left 1
            · (try simp only [Act.put, List.getElem_toArray, List.getElem_cons_succ, List.getElem_cons_zero, List.setIfInBounds_toArray, List.set_cons_zero, List.set_cons_succ])
              try rfl
            clear hK1 K1
            refine sched_call rfl (by kernel_rfl) (fun K1 hK1 => ?_)
            go_simp
            refine (CTk.out _).mono ?_
            rintro ed w5 ⟨rfl, hz⟩
            have B5 := Lib.hid (B4.out.trans (hz.mono B4.out.size))
            have X5 := Lib.hid (X4.out.call hz)
            have XP5 := Lib.hid (XP4.out.call hz)
            clear hz
            obtain ⟨t0, t1, t2⟩ := box_load X5.out
            have y0 := XP5.out.cell 0
            have y1 := XP5.out.cell 1
            have y2 := XP5.out.cell 2
            have y3 := XP5.out.cell 3
            simp only [List.getElem?_toArray, List.getElem?_cons_zero, List.getElem?_cons_succ] at y0 y1 y2 y3
            go_wp2_with fail
            refine hK1.out _ _ ?_ (sched_lay (a' := ?_) ?_ ?_)
            · exact ⟨t0, t1, t2, y0, y1, y2, y3⟩
            rotate_left 1
            · (try simp only [Act.put, List.getElem_toArray, List.getElem_cons_succ, List.getElem_cons_zero, List.setIfInBounds_toArray, List.set_cons_zero, List.set_cons_succ])
              try rfl
            clear hK1 K1
            refine sched_take' (v := ?_) (a' := ?_) rfl (by kernel_rfl) ?_ rfl ?_ ?_
            rotate_left 2
            · intro w hSw
              (try dsimp only at hSw)
              go_simp
              try with_reducible rfl
            · (try simp only [Act.put, List.setIfInBounds_toArray, List.set_cons_zero, List.set_cons_succ])
              try rfl
            refine sched_done (hQ1.out _ _ ?_)
            go_wp2_with fail
            go_roundg (Q - j - 1)
            case rel => exact ⟨j + 1, by omega, by go_num, fun q hq => by
              by_cases hqj : q = j
              · subst hqj; rw [← HL.out, Hq.out, Hq2.out]
              · exact Hno.out q (by omega), X5.out, B5.out⟩
            case measure => omega
      · obtain rfl : j = Q := by omega
        have hR2 : R = true := by rw [HR.out]; exact decide_eq_true (Hsa.out Hno.out)
        have HR2 := Lib.hid hR2
        have hnl : ¬ ((j : Int) < (j : Int)) := by omega
        clear hR2
        go_wp2_with (go_at_call 45; refine (CW.out _).mono ?_; rintro e w2 ⟨rfl, hz⟩; have B2 := Lib.hid (HB.out.trans (hz.mono HB.out.size)); clear hz m0 m1 m2)
        go_ret2
        exact ⟨ret_pair (by show Value.bool true = Value.bool R; rw [HR2.out]) rfl, B2.out⟩

end Go.Proofs.YtebjanjobfiloaaDoor

namespace Go.Proofs.YtebjanjobfiloaaDoor
open Go.RowKit
open Pl
set_option linter.unusedSimpArgs false
set_option linter.unusedVariables false

set_option maxHeartbeats 4000000 in
set_option maxRecDepth 100000 in
theorem FnExactSameIn_walk (i : Int) (s r : ByteArray) (f : ByteArray) (g : ByteArray) (w : World) (hi : (Lit.int .i64 i).wf = true) (hs : s.size ≤ maxLen) (hr : r.size ≤ maxLen) (h_f : f.size ≤ maxLen) (h_g : g.size ≤ maxLen)  :
    Calls Tryd.prog 8 #[stV i s r, .string f, .string g] w fun e w' => e = .returned (.bool true) ∧ Below w.heap.size w w' := by
  have Hs := Lib.hid hs
  have Hr := Lib.hid hr
  clear hs hr hi
  by_cases hg0 : f.size ≤ 1048576
  case neg =>
    have hgi : 1048576 < (f.size : Int) := by omega
    clear Hs Hr
    go_enter Tryd.func8, Tryd.ntmps8
    go_wp2_with fail
    go_ret
    exact ⟨rfl, (Below.refl _ _).alloc (Nat.le_refl _) _⟩
  case pos =>
  have hgi0 : (f.size : Int) ≤ 1048576 := by omega
  by_cases hg1 : g.size ≤ 1048576
  case neg =>
    have hgi : 1048576 < (g.size : Int) := by omega
    clear Hs Hr
    go_enter Tryd.func8, Tryd.ntmps8
    go_wp2_with fail
    go_ret
    exact ⟨rfl, (Below.refl _ _).alloc (Nat.le_refl _) _⟩
  case pos =>
  have hgi1 : (g.size : Int) ≤ 1048576 := by omega
  have c1 := fun (W : World) => SameIn_spec i s r f g W Hs.out Hr.out h_f h_g
  have c2 := fun (W : World) => SameIn_impl i s r f g W Hs.out Hr.out
  obtain ⟨VA, hVA⟩ : ∃ VA, VA = sameV i s r f g := ⟨_, rfl⟩
  simp only [← hVA] at c1 c2
  clear hVA
  have hbVA : (VA != VA) = false := by cases VA <;> rfl
  obtain ⟨VB, hVB⟩ : ∃ VB, VB = (rdyB i s r f 3 && rdyB i s r g 3) := ⟨_, rfl⟩
  simp only [← hVB] at c1 c2
  clear hVB
  have hbVB : (VB != VB) = false := by cases VB <;> rfl
  have C1 := Lib.hid c1
  have C2 := Lib.hid c2
  have B1 := Lib.hid ((Below.refl w.heap.size w).alloc (Nat.le_refl _) (.cells #[.int .i64 i, .string s, .string r] 23))
  have Xa1 := Lib.hid (Bx.new w 23 #[.int .i64 i, .string s, .string r])
  clear c1 c2
  go_enter Tryd.func8, Tryd.ntmps8
  obtain ⟨a0, a1, a2⟩ := box_load Xa1.out
  go_wp2_with fail
  refine (szStructure_calls i s r 1048576 _ (Nat.le_refl _) Hs.out Hr.out).mono ?_
  clear a0 a1 a2
  rintro e w1 ⟨⟨m, rfl, hm⟩, hz⟩
  have B2 := Lib.hid (B1.out.trans (hz.mono B1.out.size))
  have Xa2 := Lib.hid (Xa1.out.call hz)
  clear hm
  clear hz
  obtain ⟨a0, a1, a2⟩ := box_load Xa2.out
  by_cases h0 : 0 ≤ m
  · have hn : ¬ m < 0 := by omega
    go_wp2_with fail
    refine (toStructure_calls i s r _).mono ?_
    clear a0 a1 a2
    rintro e w2 ⟨rfl, hz⟩
    have B3 := Lib.hid (B2.out.trans (hz.mono B2.out.size))
    have Xa3 := Lib.hid (Xa2.out.call hz)
    clear hz
    obtain ⟨a0, a1, a2⟩ := box_load Xa3.out
    go_wp2_with fail
    refine (C1.out _).mono ?_
    clear a0 a1 a2
    rintro e w3 ⟨rfl, hz⟩
    have B4 := Lib.hid (B3.out.trans (hz.mono B3.out.size))
    have Xa4 := Lib.hid (Xa3.out.call hz)
    clear hz
    obtain ⟨a0, a1, a2⟩ := box_load Xa4.out
    go_wp2_with fail
    refine (toStructure_calls i s r _).mono ?_
    clear a0 a1 a2
    rintro e w4 ⟨rfl, hz⟩
    have B5 := Lib.hid (B4.out.trans (hz.mono B4.out.size))
    have Xa5 := Lib.hid (Xa4.out.call hz)
    clear hz
    obtain ⟨a0, a1, a2⟩ := box_load Xa5.out
    go_wp2_with fail
    refine (C2.out _).mono ?_
    clear a0 a1 a2
    rintro e w5 ⟨rfl, hz⟩
    have B6 := Lib.hid (B5.out.trans (hz.mono B5.out.size))
    have Xa6 := Lib.hid (Xa5.out.call hz)
    clear hz
    obtain ⟨a0, a1, a2⟩ := box_load Xa6.out
    go_wp2_with fail
    go_ret
    exact ⟨rfl, B6.out⟩
  · go_wp2_with fail
    go_ret
    exact ⟨rfl, B2.out⟩

end Go.Proofs.YtebjanjobfiloaaDoor
