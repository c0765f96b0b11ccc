/-
  Laws of the functions that the claim reaches, one after the other (packed by a program of the prover's: PtEnv, PtsS, PtsT, CpP, SmP, WSameLaw, Strs, DrawJ, Join, JoinF). Conditions: texts below the reach.
-/
import Derived.Test.YteonanaihklgmaaDoorPp11
import Derived.Test.YteonanaihklgmaaDoorPp9
import Derived.Test.YteonanaihklgmaaDoorPp7
import Derived.OwnWalk
import Derived.Deep.QuietTactic
import Derived.BigQuiet
import Derived.WalkSmall
import Derived.Laws.OwnMore
import Derived.Below
import Derived.Test.YteonanaihklgmaaDoorPp2
import Derived.Test.YteonanaihklgmaaDoorPp10
set_option linter.unusedSimpArgs false
set_option linter.unusedVariables false

namespace Go.Proofs.YteonanaihklgmaaDoor
open Go.RowKit
open Pl
set_option linter.unusedSimpArgs false
set_option linter.unusedVariables false

/-- the places from the last one on -/
def ptE (n w k j : Nat) : Env := fun v => if v.val < w ∧ w ≤ v.val + j then (k / n ^ (w - 1 - v.val)) % n else 0
theorem ptE_zero (n w k : Nat) (v : Fin 4) : ptE n w k 0 v = 0 := by
  unfold ptE
  rw [if_neg (by omega)]
theorem ptE_succ {n w k j p : Nat} (hp : p < 4) (h : j + p + 1 = w) : upd (ptE n w k j) ⟨p, hp⟩ ((k / n ^ j) % n) = ptE n w k (j + 1) := by
  funext u
  unfold upd ptE
  by_cases hu : u = ⟨p, hp⟩
  · subst hu
    rw [if_pos rfl, if_pos (by constructor <;> (simp only; omega))]
    have : w - 1 - p = j := by omega
    simp only [this]
  · have : u.val ≠ p := fun e => hu (Fin.ext e)
    rw [if_neg hu]
    by_cases h2 : u.val < w ∧ w ≤ u.val + j
    · rw [if_pos h2, if_pos (by omega)]
    · rw [if_neg h2, if_neg (by omega)]
theorem ptE_all {n : Nat} (hn : 0 < n) (w k : Nat) : ptE n w k w = envL (ptK n w k) := by
  funext u
  unfold ptE envL
  by_cases h : u.val < w
  · rw [if_pos (by omega), ptK_get hn w k u.val h]
  · rw [if_neg (by omega), List.getD_eq_getElem?_getD, List.getElem?_eq_none (by rw [ptK_len]; omega)]; rfl
/-- how many of the first j lists -/
def cntK (P : List Nat → Bool) (n w j : Nat) : Nat := (((List.range j).map (ptK n w)).filter P).length
theorem cntK_succ (P : List Nat → Bool) (n w j : Nat) : cntK P n w (j + 1) = if P (ptK n w j) then cntK P n w j + 1 else cntK P n w j := by
  unfold cntK
  rw [List.range_succ, List.map_append, List.filter_append, List.length_append]
  cases h : P (ptK n w j) <;> simp [h]
theorem cntK_all {n : Nat} (hn : 0 < n) (P : List Nat → Bool) (w : Nat) : cntK P n w (n ^ w) = ((listsK n w).filter P).length := by unfold cntK; rw [listsK_eq hn]
theorem cntK_le (P : List Nat → Bool) (n w j : Nat) : cntK P n w j ≤ j := by
  unfold cntK
  exact Nat.le_trans (List.length_filter_le _ _) (by simp)
theorem first_at {n : Nat} (hn : 0 < n) {P : List Nat → Bool} {w j : Nat} (hj : j < n ^ w) (h0 : ∀ i, i < j → P (ptK n w i) = false) (h1 : P (ptK n w j) = true) : ∃ t, (listsK n w).filter P = ptK n w j :: t := by
  rw [listsK_eq hn, show n ^ w = j + (n ^ w - j) by omega, List.range_add, List.map_append, List.filter_append]
  have e1 : ((List.range j).map (ptK n w)).filter P = [] := by
    rw [List.filter_eq_nil_iff]
    intro l hl
    obtain ⟨i, hi, rfl⟩ := List.mem_map.1 hl
    rw [h0 i (List.mem_range.1 hi)]; simp
  rw [e1, List.nil_append, show n ^ w - j = (n ^ w - j - 1) + 1 by omega, List.range_succ_eq_map]
  simp [h1]
theorem first_none {n : Nat} (hn : 0 < n) {P : List Nat → Bool} {w : Nat} (h0 : ∀ i, i < n ^ w → P (ptK n w i) = false) : (listsK n w).filter P = [] := by
  rw [listsK_eq hn, List.filter_eq_nil_iff]
  intro l hl
  obtain ⟨i, hi, rfl⟩ := List.mem_map.1 hl
  rw [h0 i (List.mem_range.1 hi)]; simp
theorem same_all {n : Nat} (hn : 0 < n) {P Q : List Nat → Bool} {w : Nat} (h0 : ∀ i, i < n ^ w → P (ptK n w i) = Q (ptK n w i)) : (listsK n w).filter P = (listsK n w).filter Q := by
  rw [listsK_eq hn]
  refine List.filter_congr fun l hl => ?_
  obtain ⟨i, hi, rfl⟩ := List.mem_map.1 hl
  exact h0 i (List.mem_range.1 hi)
theorem same_not {n : Nat} (hn : 0 < n) {P Q : List Nat → Bool} {w j : Nat} (hj : j < n ^ w) (h : P (ptK n w j) ≠ Q (ptK n w j)) : (listsK n w).filter P ≠ (listsK n w).filter Q := by
  intro e
  have hm : ptK n w j ∈ listsK n w := by rw [listsK_eq hn]; exact List.mem_map.2 ⟨j, List.mem_range.2 hj, rfl⟩
  have h1 : ptK n w j ∈ (listsK n w).filter P ↔ ptK n w j ∈ (listsK n w).filter Q := by rw [e]
  rw [List.mem_filter, List.mem_filter] at h1
  apply h
  rw [Bool.eq_iff_iff]
  exact ⟨fun hp => (h1.1 ⟨hm, hp⟩).2, fun hq => (h1.2 ⟨hm, hq⟩).2⟩

end Go.Proofs.YteonanaihklgmaaDoor

namespace Go.Proofs.YteonanaihklgmaaDoor
open Go.RowKit
open Pl
set_option linter.unusedSimpArgs false
set_option linter.unusedVariables false

attribute [local go_sem ↓] Go.wp_at_zero Go.wp_at_succ

theorem pow_le {n w : Nat} (h8 : n ≤ 8) (hw : w ≤ 3) : n ^ w ≤ 512 := by
  have h1 : n ^ w ≤ 8 ^ w := Nat.pow_le_pow_left h8 w
  have h2 : 8 ^ w ≤ 8 ^ 3 := Nat.pow_le_pow_right (by omega) hw
  omega

set_option maxHeartbeats 1000000 in
set_option maxRecDepth 100000 in
theorem l3Power_calls (a : St) (ha : a.ok) (wd : Nat) (hw : wd ≤ 3) (w : World) :
    Calls Tryd.prog 49 #[stA a, .int .i64 (wd : Nat)] w fun e w' => e = .returned (.int .i64 (a.n ^ wd : Nat)) ∧ Below w.heap.size w w' := by
  have h8 := ha.hi
  have hB := (Below.refl w.heap.size w).alloc (Nat.le_refl _) (.cells #[.int .i64 (a.n : Int), .string (bs a.set), .string (bs a.rel)] 27)
  have HB := Lib.hid hB
  obtain ⟨k0, k1, k2⟩ := box_load (Bx.new w 27 #[.int .i64 (a.n : Int), .string (bs a.set), .string (bs a.rel)])
  clear hB
  unfold stA
  go_enter Tryd.func49, Tryd.ntmps49
  go_wp2_with fail
  go_loopg [5, 6] wd (fun c o i wr => ∃ k : Nat, k + c = wd ∧ i = .int .i64 (k : Nat) ∧ o = .int .i64 (a.n ^ k : Nat) ∧ wr = (w.alloc (.cells #[.int .i64 (a.n : Int), .string (bs a.set), .string (bs a.rel)] 27)))
  case atStart => exact ⟨0, by omega, rfl, rfl, rfl⟩
  case round =>
    obtain ⟨k, hk, rfl, rfl, rfl⟩ := hrel
    have hle := pow_le h8 (show k ≤ 3 by omega)
    have hps : a.n ^ (k + 1) = a.n ^ k * a.n := Nat.pow_succ ..
    obtain ⟨q, hq⟩ : ∃ q, q = a.n ^ k := ⟨_, rfl⟩
    rw [← hq] at hle hps ⊢
    have Hps := Lib.hid hps
    have Hq := Lib.hid hq
    have hmul : wrap64 ((q : Int) * (a.n : Int)) = ((q * a.n : Nat) : Int) := by
      have h1 : q * a.n ≤ 512 * 8 := Nat.mul_le_mul hle h8
      rw [← Int.natCast_mul]
      unfold wrap64; omega
    clear hq hps
    by_cases hlt : k < wd
    · have Hmul := Lib.hid hmul
      clear hmul
      go_wp2_with fail
      go_roundg (wd - k - 1)
      case rel => exact ⟨k + 1, by omega, by go_num, congrArg (Value.int .i64) (by rw [Hps.out]; first | exact Hmul.out | (rw [← Hmul.out]; rfl)), rfl⟩
      case measure => omega
    · go_wp2_with fail
      go_ret
      obtain rfl : k = wd := by omega
      exact ⟨congrArg Ending.returned (show Value.int .i64 (q : Nat) = .int .i64 (a.n ^ k : Nat) by rw [Hq.out]), HB.out⟩

set_option maxHeartbeats 2000000 in
set_option maxRecDepth 100000 in
theorem l3Point_calls (a : St) (ha : a.ok) (wd k : Nat) (hw : wd ≤ 3) (hk : k ≤ 512) (w : World) :
    Calls Tryd.prog 50 #[stA a, .int .i64 (k : Nat), .int .i64 (wd : Nat)] w fun e w' => e = .returned (.agg (envA4 (envL (ptK a.n wd k)))) ∧ Below w.heap.size w w' := by
  have h8 := ha.hi
  have hlo := ha.lo
  have XS := Lib.hid (((Bx.new w 27 #[.int .i64 (a.n : Int), .string (bs a.set), .string (bs a.rel)]).alloc (.cells #[.int .i64 0, .int .i64 0, .int .i64 0, .int .i64 0] 79)).alloc (.cells #[.int .i64 0, .int .i64 0, .int .i64 0, .int .i64 0] 79))
  have XR := Lib.hid (show Bx ((((w.alloc (.cells #[.int .i64 (a.n : Int), .string (bs a.set), .string (bs a.rel)] 27))).alloc (.cells #[.int .i64 0, .int .i64 0, .int .i64 0, .int .i64 0] 79)).alloc (.cells #[.int .i64 0, .int .i64 0, .int .i64 0, .int .i64 0] 79)) (w.heap.size + 1) 79 #[.int .i64 0, .int .i64 0, .int .i64 0, .int .i64 0] from (bx_two w (.cells #[.int .i64 (a.n : Int), .string (bs a.set), .string (bs a.rel)] 27) #[.int .i64 0, .int .i64 0, .int .i64 0, .int .i64 0]).alloc _)
  have XO := Lib.hid (show Bx ((((w.alloc (.cells #[.int .i64 (a.n : Int), .string (bs a.set), .string (bs a.rel)] 27))).alloc (.cells #[.int .i64 0, .int .i64 0, .int .i64 0, .int .i64 0] 79)).alloc (.cells #[.int .i64 0, .int .i64 0, .int .i64 0, .int .i64 0] 79)) (w.heap.size + 1 + 1) 79 #[.int .i64 ((ptE a.n wd k 0) 0 : Nat), .int .i64 ((ptE a.n wd k 0) 1 : Nat), .int .i64 ((ptE a.n wd k 0) 2 : Nat), .int .i64 ((ptE a.n wd k 0) 3 : Nat)] from by
    have h := bx_two (w.alloc (.cells #[.int .i64 (a.n : Int), .string (bs a.set), .string (bs a.rel)] 27)) (.cells #[.int .i64 0, .int .i64 0, .int .i64 0, .int .i64 0] 79) #[.int .i64 0, .int .i64 0, .int .i64 0, .int .i64 0] (t := 79)
    rw [World.size_alloc] at h
    simp only [ptE_zero]
    exact h)
  have BV := Lib.hid (show Below w.heap.size w ((((w.alloc (.cells #[.int .i64 (a.n : Int), .string (bs a.set), .string (bs a.rel)] 27))).alloc (.cells #[.int .i64 0, .int .i64 0, .int .i64 0, .int .i64 0] 79)).alloc (.cells #[.int .i64 0, .int .i64 0, .int .i64 0, .int .i64 0] 79)) from (((Below.refl _ _).alloc (Nat.le_refl _) _).alloc (by simp) _).alloc (by simp; omega) _)
  have hw3 : (wd : Int) ≤ 3 := by omega
  unfold stA
  go_enter Tryd.func50, Tryd.ntmps50
  go_wp2_with fail
  go_loopg [1, 8] wd (fun c nv i1 wr => ∃ j q : Nat, q = c ∧ j + q = wd ∧ i1 = .int .i64 ((q : Int) - 1) ∧ nv = .int .i64 (k / a.n ^ j : Nat) ∧ Bx wr w.heap.size 27 #[.int .i64 (a.n : Int), .string (bs a.set), .string (bs a.rel)] ∧ Bx wr (w.heap.size + 1) 79 #[.int .i64 0, .int .i64 0, .int .i64 0, .int .i64 0] ∧ Bx wr (w.heap.size + 1 + 1) 79 #[.int .i64 ((ptE a.n wd k j) 0 : Nat), .int .i64 ((ptE a.n wd k j) 1 : Nat), .int .i64 ((ptE a.n wd k j) 2 : Nat), .int .i64 ((ptE a.n wd k j) 3 : Nat)] ∧ Below w.heap.size w wr)
  case atStart => exact ⟨0, wd, rfl, by omega, rfl, by simp, XS.out, XR.out, XO.out, BV.out⟩
  case round =>
    obtain ⟨j, q, hqc, hj, rfl, rfl, hxs, hxr, hxo, hbl⟩ := hrel
    have HS := Lib.hid hxs
    have HR := Lib.hid hxr
    have HO := Lib.hid hxo
    have HB := Lib.hid hbl
    clear hxs hxr hxo hbl
    obtain ⟨m0, m1, m2⟩ := box_load HS.out
    rcases Nat.eq_zero_or_pos (wd - j) with h0 | h0
    · obtain rfl : j = wd := by omega
      have hc0 : q = 0 := by omega
      subst hc0 hqc
      rw [show (((0 : Nat) : Int) - 1) = -1 from rfl]
      have d0 := HO.out.cell 0
      have d1 := HO.out.cell 1
      have d2 := HO.out.cell 2
      have d3 := HO.out.cell 3
      have e0 := HR.out.free 0
      have e1 := HR.out.free 1
      have e2 := HR.out.free 2
      have e3 := HR.out.free 3
      have r0 := HR.out.cell 0
      have r1 := HR.out.cell 1
      have r2 := HR.out.cell 2
      have r3 := HR.out.cell 3
      simp only [List.getElem?_toArray, List.getElem?_cons_zero, List.getElem?_cons_succ] at d0 d1 d2 d3 r0 r1 r2 r3
      obtain ⟨E, hE⟩ : ∃ E, E = ptE a.n j k j := ⟨_, rfl⟩
      have hEE : E = envL (ptK a.n j k) := by rw [hE]; exact ptE_all hlo j k
      rw [← hE] at d0 d1 d2 d3
      have HE := Lib.hid hEE
      clear hE hEE
      go_wp2_with fail
      have x4 := (((HR.out.set 0 (.int .i64 (E 0 : Nat))).set 1 (.int .i64 (E 1 : Nat))).set 2 (.int .i64 (E 2 : Nat))).set 3 (.int .i64 (E 3 : Nat))
      have q0 := x4.cell 0
      have q1 := x4.cell 1
      have q2 := x4.cell 2
      have q3 := x4.cell 3
      simp at q0 q1 q2 q3
      refine bodyPost_ret (v := .agg (envA4 (envL (ptK a.n j k)))) ?_ rfl ⟨rfl, ?_⟩
      · rw [← HE.out]
        simp [results, Tryd.results50, go_sem, q0, q1, q2, q3]
        rfl
      · exact (((HB.out.setCell (by simp) _).setCell (by simp) _).setCell (by simp) _).setCell (by simp) _
    · obtain ⟨p, hp⟩ : ∃ p, q = p + 1 := ⟨q - 1, by omega⟩
      subst hp hqc
      have hpi : (((p + 1 : Nat) : Int) - 1) = (p : Int) := by omega
      rw [hpi]
      have hp4 : p < 4 := by omega
      have hp4i : (p : Int) < 4 := by omega
      have hp0i : (0 : Int) ≤ (p : Int) := by omega
      have hen := ptE_succ (n := a.n) (w := wd) (k := k) (j := j) hp4 (by omega)
      have hdd : k / a.n ^ (j + 1) = k / a.n ^ j / a.n := by rw [Nat.pow_succ, Nat.div_div_eq_div_mul]
      have hkl : k / a.n ^ j ≤ k := Nat.div_le_self _ _
      obtain ⟨K, hK⟩ : ∃ K, K = k / a.n ^ j := ⟨_, rfl⟩
      rw [← hK] at hen hdd hkl ⊢
      have hmod : (K : Int).tmod (a.n : Int) = ((K % a.n : Nat) : Int) := by rw [Int.ofNat_tmod]
      have hdiv : (K : Int).tdiv (a.n : Int) = ((K / a.n : Nat) : Int) := by rw [Int.ofNat_tdiv]
      have hml : K % a.n < a.n := Nat.mod_lt _ hlo
      have hdl : K / a.n ≤ K := Nat.div_le_self _ _
      have hn0 : ¬ (a.n : Int) = 0 := by omega
      have hn0b : ((a.n : Int) == 0) = false := by rw [beq_eq_false_iff_ne]; exact hn0
      have fv := HO.out.free p
      have cv := (HO.out.cell p).trans (env_at (ptE a.n wd k j) ⟨p, hp4⟩)
      have XS1 := Lib.hid (show Bx (wr.setCell ⟨w.heap.size + 1 + 1, p, none⟩ (.int .i64 (K % a.n : Nat))) w.heap.size 27 #[.int .i64 (a.n : Int), .string (bs a.set), .string (bs a.rel)] from HS.out.far (by simp; omega) _)
      have XR1 := Lib.hid (show Bx (wr.setCell ⟨w.heap.size + 1 + 1, p, none⟩ (.int .i64 (K % a.n : Nat))) (w.heap.size + 1) 79 #[.int .i64 0, .int .i64 0, .int .i64 0, .int .i64 0] from HR.out.far (by simp) _)
      have XO1 := Lib.hid (show Bx (wr.setCell ⟨w.heap.size + 1 + 1, p, none⟩ (.int .i64 (K % a.n : Nat))) (w.heap.size + 1 + 1) 79 (envA4 (ptE a.n wd k (j + 1))) from by
        have := HO.out.set p (.int .i64 (K % a.n : Nat))
        rw [show (#[.int .i64 ((ptE a.n wd k j) 0 : Nat), .int .i64 ((ptE a.n wd k j) 1 : Nat), .int .i64 ((ptE a.n wd k j) 2 : Nat), .int .i64 ((ptE a.n wd k j) 3 : Nat)] : Array Value).setIfInBounds p (.int .i64 (K % a.n : Nat)) = envA4 (ptE a.n wd k (j + 1)) from (envA_upd (ptE a.n wd k j) ⟨p, hp4⟩ (K % a.n)).trans (by rw [hen])] at this
        exact this)
      have B1 := Lib.hid (show Below w.heap.size w (wr.setCell ⟨w.heap.size + 1 + 1, p, none⟩ (.int .i64 (K % a.n : Nat))) from HB.out.setCell (by simp; omega) _)
      obtain ⟨t0, t1, t2⟩ := box_load XS1.out
      obtain ⟨M, hM⟩ : ∃ M, M = K % a.n := ⟨_, rfl⟩
      obtain ⟨D, hD⟩ : ∃ D, D = K / a.n := ⟨_, rfl⟩
      simp only [← hM, ← hD] at *
      have Hdd := Lib.hid hdd
      clear hen hM hD hdd hK
      go_wp2_with fail
      go_roundg p
      case rel => exact ⟨j + 1, p, rfl, by omega, by go_num, by rw [Hdd.out], XS1.out, XR1.out, XO1.out, B1.out⟩
      case measure => omega

end Go.Proofs.YteonanaihklgmaaDoor

namespace Go.Proofs.YteonanaihklgmaaDoor
open Go.RowKit
open Pl
set_option linter.unusedSimpArgs false
set_option linter.unusedVariables false

attribute [local go_sem ↓] Go.wp_at_zero Go.wp_at_succ

theorem lrow_none (W : World) (A : Option Addr) : LRow W A (natsI []) := fun h => by simp [natsI] at h
theorem lrow_env {W : World} {g : Nat} {L : List Nat} (h : Bx W g 79 (envA4 (envL L))) (hl : L.length ≤ 4) : LRow W (some ⟨g, 0, none⟩) (natsI L) := fun hn => ⟨g, rfl, fun i hi => by
  rw [natsI_len] at hi
  rw [natsI_get]
  exact (h.cell i).trans (env_at (envL L) ⟨i, by omega⟩)⟩

theorem same_no1 {i : Int} {s r f g : ByteArray} (h : rdyB i s r f 3 = false) : sameV i s r f g = false := by unfold sameV; rw [h]; rfl
theorem same_no2 {i : Int} {s r f g : ByteArray} (h : rdyB i s r g 3 = false) : sameV i s r f g = false := by unfold sameV; rw [h]; simp
theorem same_yes {a : St} {f f2 : ByteArray} {g g2 : Fm} (hf : f.data.toList = g.text) (hf2 : f2.data.toList = g2.text) (h : rdyB a.n (bs a.set) (bs a.rel) f 3 = true) (h2 : rdyB a.n (bs a.set) (bs a.rel) f2 3 = true) :
    sameV a.n (bs a.set) (bs a.rel) f f2 = decide (((listsK a.n 3).filter fun l => g.holds a (envL l)) = (listsK a.n 3).filter fun l => g2.holds a (envL l)) := by
  unfold sameV
  rw [h, h2]
  have e1 := ptL_yes (k := 3) hf (by rw [pt_nat _ _ _ _ (by omega), h])
  have e2 := ptL_yes (k := 3) hf2 (by rw [pt_nat _ _ _ _ (by omega), h2])
  have e1' : ptL a.n (bs a.set) (bs a.rel) f 3 = _ := e1
  have e2' : ptL a.n (bs a.set) (bs a.rel) f2 3 = _ := e2
  rw [e1', e2']; rfl

set_option maxHeartbeats 4000000 in
set_option maxRecDepth 100000 in
theorem SameIn_spec (i : Int) (s r f f2 : ByteArray) (w : World) (hs : s.size ≤ maxLen) (hr : r.size ≤ maxLen) (hf : f.size ≤ maxLen) (hf2 : f2.size ≤ maxLen) :
    Calls Tryd.prog 18 #[stV i s r, .string f, .string f2] w fun e w' => e = .returned (.tuple #[.bool (sameV i s r f f2), .bool (rdyB i s r f 3 && rdyB i s r f2 3)]) ∧ Below w.heap.size w w' := by
  have B0 := Lib.hid (show Below w.heap.size w (w.alloc (.cells #[.int .i64 i, .string s, .string r] 27)) from (Below.refl _ _).alloc (Nat.le_refl _) _)
  have Xa := Lib.hid (Bx.new w 27 #[.int .i64 i, .string s, .string r])
  have cr := fun W => l3Ready_calls i s r f 3 W hs hr hf (by omega)
  have cr2 := fun W => l3Ready_calls i s r f2 3 W hs hr hf2 (by omega)
  clear hs hr hf hf2
  obtain ⟨k0, k1, k2⟩ := box_load Xa.out
  cases hry : rdyB i s r f 3
  case false =>
    rw [same_no1 hry]
    simp only [hry] at cr
    have CR := Lib.hid cr
    clear cr cr2 hry
    go_enter Tryd.func18, Tryd.ntmps18
    go_wp2_with fail
    refine (CR.out _).mono ?_
    rintro e w1 ⟨rfl, hz⟩
    have B1 := Lib.hid (B0.out.trans (hz.mono B0.out.size))
    clear hz k0 k1 k2
    go_wp2_with fail
    go_ret2
    exact ⟨rfl, B1.out⟩
  case true =>
  simp only [hry] at cr
  have CR := Lib.hid cr
  clear cr
  cases hry2 : rdyB i s r f2 3
  case false =>
    rw [same_no2 hry2]
    simp only [hry2] at cr2
    have CR2 := Lib.hid cr2
    clear cr2 hry hry2
    go_enter Tryd.func18, Tryd.ntmps18
    go_wp2_with fail
    refine (CR.out _).mono ?_
    rintro e w1 ⟨rfl, hz⟩
    have B1 := Lib.hid (B0.out.trans (hz.mono B0.out.size))
    have X1 := Lib.hid (Xa.out.call hz)
    clear hz k0 k1 k2
    obtain ⟨k0, k1, k2⟩ := box_load X1.out
    go_wp2_with fail
    refine (CR2.out _).mono ?_
    rintro e w2 ⟨rfl, hz⟩
    have B2 := Lib.hid (B1.out.trans (hz.mono B1.out.size))
    clear hz k0 k1 k2
    go_wp2_with fail
    go_ret2
    exact ⟨rfl, B2.out⟩
  case true =>
    simp only [hry2] at cr2
    have CR2 := Lib.hid cr2
    obtain ⟨a, g, ha, rfl, rfl, rfl, hfm, hs4⟩ := rdy_fm hry
    obtain ⟨g2, hfm2, hs42⟩ : ∃ g2 : Fm, f2.data.toList = g2.text ∧ f2.size ≤ 4000 := by
      obtain ⟨_, g2, _, _, _, _, h1, h2⟩ := rdy_fm hry2
      exact ⟨g2, h1, h2⟩
    rw [same_yes hfm hfm2 hry hry2]
    have hwk : 3 ≤ 3 := Nat.le_refl 3
    obtain ⟨QQ, hQQ⟩ : ∃ QQ : List Nat → Bool, QQ = fun l => g2.holds a (envL l) := ⟨_, rfl⟩
    rw [← hQQ]
    have ctb := fun (j : Nat) W => l2True_calls a ha f2 g2 (envL (ptK a.n 3 j)) W hfm2 hs42 (env_lt ha (ptK_lt ha.lo 3 j))
    have ctb2 : ∀ (j : Nat) (W : World), Calls Tryd.prog 51 #[.agg #[.int .i64 (a.n : Int), .string (bs a.set), .string (bs a.rel)], .string f2, .agg (envA4 (envL (ptK a.n 3 j)))] W fun ed w' => ed = .returned (.bool (QQ (ptK a.n 3 j))) ∧ Below W.heap.size W w' := fun j W => by rw [hQQ]; exact ctb j W
    have CTB := Lib.hid ctb2
    clear ctb ctb2 hQQ cr2 hfm2
    obtain ⟨PP, hPP⟩ : ∃ PP : List Nat → Bool, PP = fun l => g.holds a (envL l) := ⟨_, rfl⟩
    rw [← hPP]
    have h8 := ha.hi
    have hlo := ha.lo
    have hpl := pow_le h8 hwk
    have cw := fun W => l3Power_calls a ha 3 hwk W
    have cp := fun (j : Nat) W (hj : j < a.n ^ 3) => l3Point_calls a ha 3 j hwk (by omega) W
    have ct := fun (j : Nat) W => l2True_calls a ha f g (envL (ptK a.n 3 j)) W hfm hs4 (env_lt ha (ptK_lt hlo 3 j))
    obtain ⟨Q, hQ⟩ : ∃ Q, Q = a.n ^ 3 := ⟨_, rfl⟩
    simp only [← hQ] at cw cp hpl
    have ct2 : ∀ (j : Nat) (W : World), Calls Tryd.prog 51 #[.agg #[.int .i64 (a.n : Int), .string (bs a.set), .string (bs a.rel)], .string f, .agg (envA4 (envL (ptK a.n 3 j)))] W fun ed w' => ed = .returned (.bool (PP (ptK a.n 3 j))) ∧ Below W.heap.size W w' := fun j W => by rw [hPP]; exact ct j W
    unfold stA at cw cp
    have CW := Lib.hid cw
    have CP := Lib.hid cp
    have CT := Lib.hid ct2
    clear hfm cw cp ct ct2 hPP
    have hsa := fun h => @same_all a.n hlo PP QQ 3 h
    have hsn := fun (j : Nat) h1 h2 => @same_not a.n hlo PP QQ 3 j h1 h2
    rw [← hQ] at hsa hsn
    have Hsa := Lib.hid hsa
    have Hsn := Lib.hid hsn
    obtain ⟨R, hR⟩ : ∃ R, R = decide ((listsK a.n 3).filter PP = (listsK a.n 3).filter QQ) := ⟨_, rfl⟩
    rw [← hR]
    have HR := Lib.hid hR
    clear hsa hsn hR hQ hry hry2
    go_enter Tryd.func18, Tryd.ntmps18
    go_wp2_with fail
    refine (CR.out _).mono ?_
    rintro e w1 ⟨rfl, hz⟩
    have B1 := Lib.hid (B0.out.trans (hz.mono B0.out.size))
    have X1 := Lib.hid (Xa.out.call hz)
    clear hz k0 k1 k2
    obtain ⟨k0, k1, k2⟩ := box_load X1.out
    go_wp2_with fail
    refine (CR2.out _).mono ?_
    rintro e w2 ⟨rfl, hz⟩
    have B2 := Lib.hid (B1.out.trans (hz.mono B1.out.size))
    have X2 := Lib.hid (X1.out.call hz)
    clear hz k0 k1 k2
    go_wp2_with fail
    go_loopg [8] Q (fun c xi wr => ∃ j : Nat, j + c = Q ∧ xi = .int .i64 (j : Nat) ∧ (∀ q, q < j → PP (ptK a.n 3 q) = QQ (ptK a.n 3 q)) ∧ Bx wr w.heap.size 27 #[.int .i64 (a.n : Int), .string (bs a.set), .string (bs a.rel)] ∧ Below w.heap.size w wr)
    case atStart => exact ⟨0, by omega, rfl, fun q hq => absurd hq (Nat.not_lt_zero _), X2.out, B2.out⟩
    case round =>
      clear X1 B1 X2 B2
      obtain ⟨j, hj, rfl, hno, hxs, hbl⟩ := hrel
      have HS := Lib.hid hxs
      have HB := Lib.hid hbl
      have Hno := Lib.hid hno
      clear hxs hbl hno
      obtain ⟨m0, m1, m2⟩ := box_load HS.out
      by_cases hjl : j < Q
      · have cpj := fun W => CP.out j W hjl
        have ctj := fun W => CT.out j W
        have ctk := fun W => CTB.out j W
        have hsnj := Hsn.out j hjl
        obtain ⟨L, hL⟩ : ∃ L, L = ptK a.n 3 j := ⟨_, rfl⟩
        rw [← hL] at hsnj
        simp only [← hL] at cpj ctj ctk
        unfold envA4 at cpj ctj ctk
        have CPj := Lib.hid cpj
        have HL := Lib.hid hL
        have hjlt : (j : Int) < (Q : Int) := by omega
        have Hsnj := Lib.hid hsnj
        clear cpj hL hsnj
        cases hq : PP L with
        | false =>
          cases hq2 : QQ L with
          | false =>
            simp only [hq] at ctj
            simp only [hq2] at ctk
            have CTj := Lib.hid ctj
            have CTk := Lib.hid ctk
            have Hq := Lib.hid hq
            have Hq2 := Lib.hid hq2
            clear ctj ctk hq hq2
            go_upto_region 7 with (first | (go_at_call 49; refine (CW.out _).mono ?_; rintro e w2 ⟨rfl, hz⟩; have B2 := Lib.hid (HB.out.trans (hz.mono HB.out.size)); have X2 := Lib.hid (HS.out.call hz); clear hz m0 m1 m2; obtain ⟨p0, p1, p2⟩ := box_load X2.out) | (go_at_call 50; refine (CPj.out _).mono ?_; rintro e w3 ⟨rfl, hz⟩; have B3 := Lib.hid ((B2.out.trans (hz.mono B2.out.size)).alloc (B2.out.trans (hz.mono B2.out.size)).size (.cells #[.int .i64 ((envL L) 0 : Nat), .int .i64 ((envL L) 1 : Nat), .int .i64 ((envL L) 2 : Nat), .int .i64 ((envL L) 3 : Nat)] 79)).drew; have X3 := Lib.hid ((X2.out.call hz).alloc (.cells #[.int .i64 ((envL L) 0 : Nat), .int .i64 ((envL L) 1 : Nat), .int .i64 ((envL L) 2 : Nat), .int .i64 ((envL L) 3 : Nat)] 79)).drew; have XP3 := Lib.hid (Bx.new w3 79 #[.int .i64 ((envL L) 0 : Nat), .int .i64 ((envL L) 1 : Nat), .int .i64 ((envL L) 2 : Nat), .int .i64 ((envL L) 3 : Nat)]).drew; clear hz p0 p1 p2; obtain ⟨q0, q1, q2⟩ := box_load X3.out; have v0 := XP3.out.cell 0; have v1 := XP3.out.cell 1; have v2 := XP3.out.cell 2; have v3 := XP3.out.cell 3; simp only [List.getElem?_toArray, List.getElem?_cons_zero, List.getElem?_cons_succ] at v0 v1 v2 v3))
            refine region_sched [(0, true), (1, true), (2, true), (4, true), (5, true), (6, true), (3, false), (7, false), (8, true)] (fun w' : World => w'.cell? ⟨w.heap.size, 0, none⟩ = some (.int .i64 (a.n : Int)) ∧ w'.cell? ⟨w.heap.size, 1, none⟩ = some (.string (bs a.set)) ∧ w'.cell? ⟨w.heap.size, 2, none⟩ = some (.string (bs a.rel)) ∧ w'.cell? ⟨w3.heap.size, 0, none⟩ = some (.int .i64 (envL L 0 : Nat)) ∧ w'.cell? ⟨w3.heap.size, 1, none⟩ = some (.int .i64 (envL L 1 : Nat)) ∧ w'.cell? ⟨w3.heap.size, 2, none⟩ = some (.int .i64 (envL L 2 : Nat)) ∧ w'.cell? ⟨w3.heap.size, 3, none⟩ = some (.int .i64 (envL L 3 : Nat))) (by kernel_rfl) (by kernel_rfl) (by kernel_rfl) (by kernel_rfl) (fun _ _ _ _ h => h) ?_ (fun Q1 hQ1 => ?_)
            · exact ⟨q0, q1, q2, v0, v1, v2, v3⟩
            try simp only [List.append]
            refine sched_take' (v := .agg #[.int .i64 (a.n : Int), .string (bs a.set), .string (bs a.rel)]) (a' := ?_) rfl (by kernel_rfl) ?_ rfl ?_ ?_
            rotate_left 1
            · intro w hSw
              (try dsimp only at hSw)
              go_simp
              first | done | (obtain ⟨u0, u1, u2, u3, u4, u5, u6⟩ := hSw; simp [*])
            · (try simp only [Act.put, List.setIfInBounds_toArray, List.set_cons_zero, List.set_cons_succ])
              try rfl
            refine sched_take' (v := ?_) (a' := ?_) rfl (by kernel_rfl) ?_ rfl ?_ ?_
            rotate_left 2
            · intro w hSw
              (try dsimp only at hSw)
              go_simp
              try with_reducible rfl
            · (try simp only [Act.put, List.setIfInBounds_toArray, List.set_cons_zero, List.set_cons_succ])
              try rfl
            refine sched_take' (v := .agg #[.int .i64 ((envL L) 0 : Nat), .int .i64 ((envL L) 1 : Nat), .int .i64 ((envL L) 2 : Nat), .int .i64 ((envL L) 3 : Nat)]) (a' := ?_) rfl (by kernel_rfl) ?_ rfl ?_ ?_
            rotate_left 1
            · intro w hSw
              (try dsimp only at hSw)
              go_simp
              first | done | (obtain ⟨u0, u1, u2, u3, u4, u5, u6⟩ := hSw; simp [*])
            · (try simp only [Act.put, List.setIfInBounds_toArray, List.set_cons_zero, List.set_cons_succ])
              try rfl
            refine sched_take' (v := .agg #[.int .i64 (a.n : Int), .string (bs a.set), .string (bs a.rel)]) (a' := ?_) rfl (by kernel_rfl) ?_ rfl ?_ ?_
            rotate_left 1
            · intro w hSw
              (try dsimp only at hSw)
              go_simp
              first | done | (obtain ⟨u0, u1, u2, u3, u4, u5, u6⟩ := hSw; simp [*])
            · (try simp only [Act.put, List.setIfInBounds_toArray, List.set_cons_zero, List.set_cons_succ])
              try rfl
            refine sched_take' (v := ?_) (a' := ?_) rfl (by kernel_rfl) ?_ rfl ?_ ?_
            rotate_left 2
            · intro w hSw
              (try dsimp only at hSw)
              go_simp
              try with_reducible rfl
            · (try simp only [Act.put, List.setIfInBounds_toArray, List.set_cons_zero, List.set_cons_succ])
              try rfl
            refine sched_take' (v := .agg #[.int .i64 ((envL L) 0 : Nat), .int .i64 ((envL L) 1 : Nat), .int .i64 ((envL L) 2 : Nat), .int .i64 ((envL L) 3 : Nat)]) (a' := ?_) rfl (by kernel_rfl) ?_ rfl ?_ ?_
            rotate_left 1
            · intro w hSw
              (try dsimp only at hSw)
              go_simp
              first | done | (obtain ⟨u0, u1, u2, u3, u4, u5, u6⟩ := hSw; simp [*])
            · (try simp only [Act.put, List.setIfInBounds_toArray, List.set_cons_zero, List.set_cons_succ])
              try rfl
            refine sched_call rfl (by kernel_rfl) (fun K1 hK1 => ?_)
            go_simp
            refine (CTj.out _).mono ?_
            rintro ed w4 ⟨rfl, hz⟩
            have B4 := Lib.hid (B3.out.trans (hz.mono B3.out.size))
            have X4 := Lib.hid (X3.out.call hz)
            have XP4 := Lib.hid (XP3.out.call hz)
            clear hz
            obtain ⟨r0, r1, r2⟩ := box_load X4.out
            have s0 := XP4.out.cell 0
            have s1 := XP4.out.cell 1
            have s2 := XP4.out.cell 2
            have s3 := XP4.out.cell 3
            simp only [List.getElem?_toArray, List.getElem?_cons_zero, List.getElem?_cons_succ] at s0 s1 s2 s3
            go_wp2_with fail
            refine hK1.out _ _ ?_ (sched_lay (a' := ?_) ?_ ?_)
            · exact ⟨r0, r1, r2, s0, s1, s2, s3⟩
            rotate_left 1
            · (try simp only [Act.put, List.getElem_toArray, List.getElem_cons_succ, List.getElem_cons_zero, List.setIfInBounds_toArray, List.set_cons_zero, List.set_cons_succ])
              try rfl
            clear hK1 K1
            refine sched_call rfl (by kernel_rfl) (fun K1 hK1 => ?_)
            go_simp
            refine (CTk.out _).mono ?_
            rintro ed w5 ⟨rfl, hz⟩
            have B5 := Lib.hid (B4.out.trans (hz.mono B4.out.size))
            have X5 := Lib.hid (X4.out.call hz)
            have XP5 := Lib.hid (XP4.out.call hz)
            clear hz
            obtain ⟨t0, t1, t2⟩ := box_load X5.out
            have y0 := XP5.out.cell 0
            have y1 := XP5.out.cell 1
            have y2 := XP5.out.cell 2
            have y3 := XP5.out.cell 3
            simp only [List.getElem?_toArray, List.getElem?_cons_zero, List.getElem?_cons_succ] at y0 y1 y2 y3
            go_wp2_with fail
            refine hK1.out _ _ ?_ (sched_lay (a' := ?_) ?_ ?_)
            · exact ⟨t0, t1, t2, y0, y1, y2, y3⟩
            rotate_left 1
            · (try simp only [Act.put, List.getElem_toArray, List.getElem_cons_succ, List.getElem_cons_zero, List.setIfInBounds_toArray, List.set_cons_zero, List.set_cons_succ])
              try rfl
            clear hK1 K1
            refine sched_take' (v := ?_) (a' := ?_) rfl (by kernel_rfl) ?_ rfl ?_ ?_
            rotate_left 2
            · intro w hSw
              (try dsimp only at hSw)
              go_simp
              try with_reducible rfl
            · (try simp only [Act.put, List.setIfInBounds_toArray, List.set_cons_zero, List.set_cons_succ])
              try rfl
            refine sched_done (hQ1.out _ _ ?_)
            go_wp2_with fail
            go_roundg (Q - j - 1)
            case rel => exact ⟨j + 1, by omega, by go_num, fun q hq => by
              by_cases hqj : q = j
              · subst hqj; rw [← HL.out, Hq.out, Hq2.out]
              · exact Hno.out q (by omega), X5.out, B5.out⟩
            case measure => omega
          | true =>
            simp only [hq] at ctj
            simp only [hq2] at ctk
            have CTj := Lib.hid ctj
            have CTk := Lib.hid ctk
            have Hq := Lib.hid hq
            have Hq2 := Lib.hid hq2
            clear ctj ctk hq hq2
            have hR2 : R = false := by rw [HR.out]; exact decide_eq_false (Hsnj.out (by rw [Hq.out, Hq2.out]; simp))
            have HR2 := Lib.hid hR2
            clear hR2
            go_upto_region 7 with (first | (go_at_call 49; refine (CW.out _).mono ?_; rintro e w2 ⟨rfl, hz⟩; have B2 := Lib.hid (HB.out.trans (hz.mono HB.out.size)); have X2 := Lib.hid (HS.out.call hz); clear hz m0 m1 m2; obtain ⟨p0, p1, p2⟩ := box_load X2.out) | (go_at_call 50; refine (CPj.out _).mono ?_; rintro e w3 ⟨rfl, hz⟩; have B3 := Lib.hid ((B2.out.trans (hz.mono B2.out.size)).alloc (B2.out.trans (hz.mono B2.out.size)).size (.cells #[.int .i64 ((envL L) 0 : Nat), .int .i64 ((envL L) 1 : Nat), .int .i64 ((envL L) 2 : Nat), .int .i64 ((envL L) 3 : Nat)] 79)).drew; have X3 := Lib.hid ((X2.out.call hz).alloc (.cells #[.int .i64 ((envL L) 0 : Nat), .int .i64 ((envL L) 1 : Nat), .int .i64 ((envL L) 2 : Nat), .int .i64 ((envL L) 3 : Nat)] 79)).drew; have XP3 := Lib.hid (Bx.new w3 79 #[.int .i64 ((envL L) 0 : Nat), .int .i64 ((envL L) 1 : Nat), .int .i64 ((envL L) 2 : Nat), .int .i64 ((envL L) 3 : Nat)]).drew; clear hz p0 p1 p2; obtain ⟨q0, q1, q2⟩ := box_load X3.out; have v0 := XP3.out.cell 0; have v1 := XP3.out.cell 1; have v2 := XP3.out.cell 2; have v3 := XP3.out.cell 3; simp only [List.getElem?_toArray, List.getElem?_cons_zero, List.getElem?_cons_succ] at v0 v1 v2 v3))
            refine region_sched [(0, true), (1, true), (2, true), (4, true), (5, true), (6, true), (3, false), (7, false), (8, true)] (fun w' : World => w'.cell? ⟨w.heap.size, 0, none⟩ = some (.int .i64 (a.n : Int)) ∧ w'.cell? ⟨w.heap.size, 1, none⟩ = some (.string (bs a.set)) ∧ w'.cell? ⟨w.heap.size, 2, none⟩ = some (.string (bs a.rel)) ∧ w'.cell? ⟨w3.heap.size, 0, none⟩ = some (.int .i64 (envL L 0 : Nat)) ∧ w'.cell? ⟨w3.heap.size, 1, none⟩ = some (.int .i64 (envL L 1 : Nat)) ∧ w'.cell? ⟨w3.heap.size, 2, none⟩ = some (.int .i64 (envL L 2 : Nat)) ∧ w'.cell? ⟨w3.heap.size, 3, none⟩ = some (.int .i64 (envL L 3 : Nat))) (by kernel_rfl) (by kernel_rfl) (by kernel_rfl) (by kernel_rfl) (fun _ _ _ _ h => h) ?_ (fun Q1 hQ1 => ?_)
            · exact ⟨q0, q1, q2, v0, v1, v2, v3⟩
            try simp only [List.append]
            refine sched_take' (v := .agg #[.int .i64 (a.n : Int), .string (bs a.set), .string (bs a.rel)]) (a' := ?_) rfl (by kernel_rfl) ?_ rfl ?_ ?_
            rotate_left 1
            · intro w hSw
              (try dsimp only at hSw)
              go_simp
              first | done | (obtain ⟨u0, u1, u2, u3, u4, u5, u6⟩ := hSw; simp [*])
            · (try simp only [Act.put, List.setIfInBounds_toArray, List.set_cons_zero, List.set_cons_succ])
              try rfl
            refine sched_take' (v := ?_) (a' := ?_) rfl (by kernel_rfl) ?_ rfl ?_ ?_
            rotate_left 2
            · intro w hSw
              (try dsimp only at hSw)
              go_simp
              try with_reducible rfl
            · (try simp only [Act.put, List.setIfInBounds_toArray, List.set_cons_zero, List.set_cons_succ])
              try rfl
            refine sched_take' (v := .agg #[.int .i64 ((envL L) 0 : Nat), .int .i64 ((envL L) 1 : Nat), .int .i64 ((envL L) 2 : Nat), .int .i64 ((envL L) 3 : Nat)]) (a' := ?_) rfl (by kernel_rfl) ?_ rfl ?_ ?_
            rotate_left 1
            · intro w hSw
              (try dsimp only at hSw)
              go_simp
              first | done | (obtain ⟨u0, u1, u2, u3, u4, u5, u6⟩ := hSw; simp [*])
            · (try simp only [Act.put, List.setIfInBounds_toArray, List.set_cons_zero, List.set_cons_succ])
              try rfl
            refine sched_take' (v := .agg #[.int .i64 (a.n : Int), .string (bs a.set), .string (bs a.rel)]) (a' := ?_) rfl (by kernel_rfl) ?_ rfl ?_ ?_
            rotate_left 1
            · intro w hSw
              (try dsimp only at hSw)
              go_simp
              first | done | (obtain ⟨u0, u1, u2, u3, u4, u5, u6⟩ := hSw; simp [*])
            · (try simp only [Act.put, List.setIfInBounds_toArray, List.set_cons_zero, List.set_cons_succ])
              try rfl
            refine sched_take' (v := ?_) (a' := ?_) rfl (by kernel_rfl) ?_ rfl ?_ ?_
            rotate_left 2
            · intro w hSw
              (try dsimp only at hSw)
              go_simp
              try with_reducible rfl
            · (try simp only [Act.put, List.setIfInBounds_toArray, List.set_cons_zero, List.set_cons_succ])
              try rfl
            refine sched_take' (v := .agg #[.int .i64 ((envL L) 0 : Nat), .int .i64 ((envL L) 1 : Nat), .int .i64 ((envL L) 2 : Nat), .int .i64 ((envL L) 3 : Nat)]) (a' := ?_) rfl (by kernel_rfl) ?_ rfl ?_ ?_
            rotate_left 1
            · intro w hSw
              (try dsimp only at hSw)
              go_simp
              first | done | (obtain ⟨u0, u1, u2, u3, u4, u5, u6⟩ := hSw; simp [*])
            · (try simp only [Act.put, List.setIfInBounds_toArray, List.set_cons_zero, List.set_cons_succ])
              try rfl
            refine sched_call rfl (by kernel_rfl) (fun K1 hK1 => ?_)
            go_simp
            refine (CTj.out _).mono ?_
            rintro ed w4 ⟨rfl, hz⟩
            have B4 := Lib.hid (B3.out.trans (hz.mono B3.out.size))
            have X4 := Lib.hid (X3.out.call hz)
            have XP4 := Lib.hid (XP3.out.call hz)
            clear hz
            obtain ⟨r0, r1, r2⟩ := box_load X4.out
            have s0 := XP4.out.cell 0
            have s1 := XP4.out.cell 1
            have s2 := XP4.out.cell 2
            have s3 := XP4.out.cell 3
            simp only [List.getElem?_toArray, List.getElem?_cons_zero, List.getElem?_cons_succ] at s0 s1 s2 s3
            go_wp2_with fail
            refine hK1.out _ _ ?_ (sched_lay (a' := ?_) ?_ ?_)
            · exact ⟨r0, r1, r2, s0, s1, s2, s3⟩
            rotate_left 1
            · (try simp only [Act.put, List.getElem_toArray, List.getElem_cons_succ, List.getElem_cons_zero, List.setIfInBounds_toArray, List.set_cons_zero, List.set_cons_succ])
              try rfl
            clear hK1 K1
            refine sched_call rfl (by kernel_rfl) (fun K1 hK1 => ?_)
            go_simp
            refine (CTk.out _).mono ?_
            rintro ed w5 ⟨rfl, hz⟩
            have B5 := Lib.hid (B4.out.trans (hz.mono B4.out.size))
            have X5 := Lib.hid (X4.out.call hz)
            have XP5 := Lib.hid (XP4.out.call hz)
            clear hz
            obtain ⟨t0, t1, t2⟩ := box_load X5.out
            have y0 := XP5.out.cell 0
            have y1 := XP5.out.cell 1
            have y2 := XP5.out.cell 2
            have y3 := XP5.out.cell 3
            simp only [List.getElem?_toArray, List.getElem?_cons_zero, List.getElem?_cons_succ] at y0 y1 y2 y3
            go_wp2_with fail
            refine hK1.out _ _ ?_ (sched_lay (a' := ?_) ?_ ?_)
            · exact ⟨t0, t1, t2, y0, y1, y2, y3⟩
            rotate_left 1
            · (try simp only [Act.put, List.getElem_toArray, List.getElem_cons_succ, List.getElem_cons_zero, List.setIfInBounds_toArray, List.set_cons_zero, List.set_cons_succ])
              try rfl
            clear hK1 K1
            refine sched_take' (v := ?_) (a' := ?_) rfl (by kernel_rfl) ?_ rfl ?_ ?_
            rotate_left 2
            · intro w hSw
              (try dsimp only at hSw)
              go_simp
              try with_reducible rfl
            · (try simp only [Act.put, List.setIfInBounds_toArray, List.set_cons_zero, List.set_cons_succ])
              try rfl
            refine sched_done (hQ1.out _ _ ?_)
            go_wp2_with fail
            go_ret2
            exact ⟨ret_pair (by show Value.bool false = Value.bool R; rw [HR2.out]) rfl, B5.out⟩
        | true =>
          cases hq2 : QQ L with
          | false =>
            simp only [hq] at ctj
            simp only [hq2] at ctk
            have CTj := Lib.hid ctj
            have CTk := Lib.hid ctk
            have Hq := Lib.hid hq
            have Hq2 := Lib.hid hq2
            clear ctj ctk hq hq2
            have hR2 : R = false := by rw [HR.out]; exact decide_eq_false (Hsnj.out (by rw [Hq.out, Hq2.out]; simp))
            have HR2 := Lib.hid hR2
            clear hR2
            go_upto_region 7 with (first | (go_at_call 49; refine (CW.out _).mono ?_; rintro e w2 ⟨rfl, hz⟩; have B2 := Lib.hid (HB.out.trans (hz.mono HB.out.size)); have X2 := Lib.hid (HS.out.call hz); clear hz m0 m1 m2; obtain ⟨p0, p1, p2⟩ := box_load X2.out) | (go_at_call 50; refine (CPj.out _).mono ?_; rintro e w3 ⟨rfl, hz⟩; have B3 := Lib.hid ((B2.out.trans (hz.mono B2.out.size)).alloc (B2.out.trans (hz.mono B2.out.size)).size (.cells #[.int .i64 ((envL L) 0 : Nat), .int .i64 ((envL L) 1 : Nat), .int .i64 ((envL L) 2 : Nat), .int .i64 ((envL L) 3 : Nat)] 79)).drew; have X3 := Lib.hid ((X2.out.call hz).alloc (.cells #[.int .i64 ((envL L) 0 : Nat), .int .i64 ((envL L) 1 : Nat), .int .i64 ((envL L) 2 : Nat), .int .i64 ((envL L) 3 : Nat)] 79)).drew; have XP3 := Lib.hid (Bx.new w3 79 #[.int .i64 ((envL L) 0 : Nat), .int .i64 ((envL L) 1 : Nat), .int .i64 ((envL L) 2 : Nat), .int .i64 ((envL L) 3 : Nat)]).drew; clear hz p0 p1 p2; obtain ⟨q0, q1, q2⟩ := box_load X3.out; have v0 := XP3.out.cell 0; have v1 := XP3.out.cell 1; have v2 := XP3.out.cell 2; have v3 := XP3.out.cell 3; simp only [List.getElem?_toArray, List.getElem?_cons_zero, List.getElem?_cons_succ] at v0 v1 v2 v3))
            refine region_sched [(0, true), (1, true), (2, true), (4, true), (5, true), (6, true), (3, false), (7, false), (8, true)] (fun w' : World => w'.cell? ⟨w.heap.size, 0, none⟩ = some (.int .i64 (a.n : Int)) ∧ w'.cell? ⟨w.heap.size, 1, none⟩ = some (.string (bs a.set)) ∧ w'.cell? ⟨w.heap.size, 2, none⟩ = some (.string (bs a.rel)) ∧ w'.cell? ⟨w3.heap.size, 0, none⟩ = some (.int .i64 (envL L 0 : Nat)) ∧ w'.cell? ⟨w3.heap.size, 1, none⟩ = some (.int .i64 (envL L 1 : Nat)) ∧ w'.cell? ⟨w3.heap.size, 2, none⟩ = some (.int .i64 (envL L 2 : Nat)) ∧ w'.cell? ⟨w3.heap.size, 3, none⟩ = some (.int .i64 (envL L 3 : Nat))) (by kernel_rfl) (by kernel_rfl) (by kernel_rfl) (by kernel_rfl) (fun _ _ _ _ h => h) ?_ (fun Q1 hQ1 => ?_)
            · exact ⟨q0, q1, q2, v0, v1, v2, v3⟩
            try simp only [List.append]
            refine sched_take' (v := .agg #[.int .i64 (a.n : Int), .string (bs a.set), .string (bs a.rel)]) (a' := ?_) rfl (by kernel_rfl) ?_ rfl ?_ ?_
            rotate_left 1
            · intro w hSw
              (try dsimp only at hSw)
              go_simp
              first | done | (obtain ⟨u0, u1, u2, u3, u4, u5, u6⟩ := hSw; simp [*])
            · (try simp only [Act.put, List.setIfInBounds_toArray, List.set_cons_zero, List.set_cons_succ])
              try rfl
            refine sched_take' (v := ?_) (a' := ?_) rfl (by kernel_rfl) ?_ rfl ?_ ?_
            rotate_left 2
            · intro w hSw
              (try dsimp only at hSw)
              go_simp
              try with_reducible rfl
            · (try simp only [Act.put, List.setIfInBounds_toArray, List.set_cons_zero, List.set_cons_succ])
              try rfl
            refine sched_take' (v := .agg #[.int .i64 ((envL L) 0 : Nat), .int .i64 ((envL L) 1 : Nat), .int .i64 ((envL L) 2 : Nat), .int .i64 ((envL L) 3 : Nat)]) (a' := ?_) rfl (by kernel_rfl) ?_ rfl ?_ ?_
            rotate_left 1
            · intro w hSw
              (try dsimp only at hSw)
              go_simp
              first | done | (obtain ⟨u0, u1, u2, u3, u4, u5, u6⟩ := hSw; simp [*])
            · (try simp only [Act.put, List.setIfInBounds_toArray, List.set_cons_zero, List.set_cons_succ])
              try rfl
            refine sched_take' (v := .agg #[.int .i64 (a.n : Int), .string (bs a.set), .string (bs a.rel)]) (a' := ?_) rfl (by kernel_rfl) ?_ rfl ?_ ?_
            rotate_left 1
            · intro w hSw
              (try dsimp only at hSw)
              go_simp
              first | done | (obtain ⟨u0, u1, u2, u3, u4, u5, u6⟩ := hSw; simp [*])
            · (try simp only [Act.put, List.setIfInBounds_toArray, List.set_cons_zero, List.set_cons_succ])
              try rfl
            refine sched_take' (v := ?_) (a' := ?_) rfl (by kernel_rfl) ?_ rfl ?_ ?_
            rotate_left 2
            · intro w hSw
              (try dsimp only at hSw)
              go_simp
              try with_reducible rfl
            · (try simp only [Act.put, List.setIfInBounds_toArray, List.set_cons_zero, List.set_cons_succ])
              try rfl
            refine sched_take' (v := .agg #[.int .i64 ((envL L) 0 : Nat), .int .i64 ((envL L) 1 : Nat), .int .i64 ((envL L) 2 : Nat), .int .i64 ((envL L) 3 : Nat)]) (a' := ?_) rfl (by kernel_rfl) ?_ rfl ?_ ?_
            rotate_left 1
            · intro w hSw
              (try dsimp only at hSw)
              go_simp
              first | done | (obtain ⟨u0, u1, u2, u3, u4, u5, u6⟩ := hSw; simp [*])
            · (try simp only [Act.put, List.setIfInBounds_toArray, List.set_cons_zero, List.set_cons_succ])
              try rfl
            refine sched_call rfl (by kernel_rfl) (fun K1 hK1 => ?_)
            go_simp
            refine (CTj.out _).mono ?_
            rintro ed w4 ⟨rfl, hz⟩
            have B4 := Lib.hid (B3.out.trans (hz.mono B3.out.size))
            have X4 := Lib.hid (X3.out.call hz)
            have XP4 := Lib.hid (XP3.out.call hz)
            clear hz
            obtain ⟨r0, r1, r2⟩ := box_load X4.out
            have s0 := XP4.out.cell 0
            have s1 := XP4.out.cell 1
            have s2 := XP4.out.cell 2
            have s3 := XP4.out.cell 3
            simp only [List.getElem?_toArray, List.getElem?_cons_zero, List.getElem?_cons_succ] at s0 s1 s2 s3
            go_wp2_with fail
            refine hK1.out _ _ ?_ (sched_lay (a' := ?_) ?_ ?_)
            · exact ⟨r0, r1, r2, s0, s1, s2, s3⟩
            rotate_left 1
            · (try simp only [Act.put, List.getElem_toArray, List.getElem_cons_succ, List.getElem_cons_zero, List.setIfInBounds_toArray, List.set_cons_zero, List.set_cons_succ])
              try rfl
            clear hK1 K1
            refine sched_call rfl (by kernel_rfl) (fun K1 hK1 => ?_)
            go_simp
            refine (CTk.out _).mono ?_
            rintro ed w5 ⟨rfl, hz⟩
            have B5 := Lib.hid (B4.out.trans (hz.mono B4.out.size))
            have X5 := Lib.hid (X4.out.call hz)
            have XP5 := Lib.hid (XP4.out.call hz)
            clear hz
            obtain ⟨t0, t1, t2⟩ := box_load X5.out
            have y0 := XP5.out.cell 0
            have y1 := XP5.out.cell 1
            have y2 := XP5.out.cell 2
            have y3 := XP5.out.cell 3
            simp only [List.getElem?_toArray, List.getElem?_cons_zero, List.getElem?_cons_succ] at y0 y1 y2 y3
            go_wp2_with fail
            refine hK1.out _ _ ?_ (sched_lay (a' := ?_) ?_ ?_)
            · exact ⟨t0, t1, t2, y0, y1, y2, y3⟩
            rotate_left 1
            · (try simp only [Act.put, List.getElem_toArray, List.getElem_cons_succ, List.getElem_cons_zero, List.setIfInBounds_toArray, List.set_cons_zero, List.set_cons_succ])
              try rfl
            clear hK1 K1
            refine sched_take' (v := ?_) (a' := ?_) rfl (by kernel_rfl) ?_ rfl ?_ ?_
            rotate_left 2
            · intro w hSw
              (try dsimp only at hSw)
              go_simp
              try with_reducible rfl
            · (try simp only [Act.put, List.setIfInBounds_toArray, List.set_cons_zero, List.set_cons_succ])
              try rfl
            refine sched_done (hQ1.out _ _ ?_)
            go_wp2_with fail
            go_ret2
            exact ⟨ret_pair (by show Value.bool false = Value.bool R; rw [HR2.out]) rfl, B5.out⟩
          | true =>
            simp only [hq] at ctj
            simp only [hq2] at ctk
            have CTj := Lib.hid ctj
            have CTk := Lib.hid ctk
            have Hq := Lib.hid hq
            have Hq2 := Lib.hid hq2
            clear ctj ctk hq hq2
            go_upto_region 7 with (first | (go_at_call 49; refine (CW.out _).mono ?_; rintro e w2 ⟨rfl, hz⟩; have B2 := Lib.hid (HB.out.trans (hz.mono HB.out.size)); have X2 := Lib.hid (HS.out.call hz); clear hz m0 m1 m2; obtain ⟨p0, p1, p2⟩ := box_load X2.out) | (go_at_call 50; refine (CPj.out _).mono ?_; rintro e w3 ⟨rfl, hz⟩; have B3 := Lib.hid ((B2.out.trans (hz.mono B2.out.size)).alloc (B2.out.trans (hz.mono B2.out.size)).size (.cells #[.int .i64 ((envL L) 0 : Nat), .int .i64 ((envL L) 1 : Nat), .int .i64 ((envL L) 2 : Nat), .int .i64 ((envL L) 3 : Nat)] 79)).drew; have X3 := Lib.hid ((X2.out.call hz).alloc (.cells #[.int .i64 ((envL L) 0 : Nat), .int .i64 ((envL L) 1 : Nat), .int .i64 ((envL L) 2 : Nat), .int .i64 ((envL L) 3 : Nat)] 79)).drew; have XP3 := Lib.hid (Bx.new w3 79 #[.int .i64 ((envL L) 0 : Nat), .int .i64 ((envL L) 1 : Nat), .int .i64 ((envL L) 2 : Nat), .int .i64 ((envL L) 3 : Nat)]).drew; clear hz p0 p1 p2; obtain ⟨q0, q1, q2⟩ := box_load X3.out; have v0 := XP3.out.cell 0; have v1 := XP3.out.cell 1; have v2 := XP3.out.cell 2; have v3 := XP3.out.cell 3; simp only [List.getElem?_toArray, List.getElem?_cons_zero, List.getElem?_cons_succ] at v0 v1 v2 v3))
            refine region_sched [(0, true), (1, true), (2, true), (4, true), (5, true), (6, true), (3, false), (7, false), (8, true)] (fun w' : World => w'.cell? ⟨w.heap.size, 0, none⟩ = some (.int .i64 (a.n : Int)) ∧ w'.cell? ⟨w.heap.size, 1, none⟩ = some (.string (bs a.set)) ∧ w'.cell? ⟨w.heap.size, 2, none⟩ = some (.string (bs a.rel)) ∧ w'.cell? ⟨w3.heap.size, 0, none⟩ = some (.int .i64 (envL L 0 : Nat)) ∧ w'.cell? ⟨w3.heap.size, 1, none⟩ = some (.int .i64 (envL L 1 : Nat)) ∧ w'.cell? ⟨w3.heap.size, 2, none⟩ = some (.int .i64 (envL L 2 : Nat)) ∧ w'.cell? ⟨w3.heap.size, 3, none⟩ = some (.int .i64 (envL L 3 : Nat))) (by kernel_rfl) (by kernel_rfl) (by kernel_rfl) (by kernel_rfl) (fun _ _ _ _ h => h) ?_ (fun Q1 hQ1 => ?_)
            · exact ⟨q0, q1, q2, v0, v1, v2, v3⟩
            try simp only [List.append]
            refine sched_take' (v := .agg #[.int .i64 (a.n : Int), .string (bs a.set), .string (bs a.rel)]) (a' := ?_) rfl (by kernel_rfl) ?_ rfl ?_ ?_
            rotate_left 1
            · intro w hSw
              (try dsimp only at hSw)
              go_simp
              first | done | (obtain ⟨u0, u1, u2, u3, u4, u5, u6⟩ := hSw; simp [*])
            · (try simp only [Act.put, List.setIfInBounds_toArray, List.set_cons_zero, List.set_cons_succ])
              try rfl
            refine sched_take' (v := ?_) (a' := ?_) rfl (by kernel_rfl) ?_ rfl ?_ ?_
            rotate_left 2
            · intro w hSw
              (try dsimp only at hSw)
              go_simp
              try with_reducible rfl
            · (try simp only [Act.put, List.setIfInBounds_toArray, List.set_cons_zero, List.set_cons_succ])
              try rfl
            refine sched_take' (v := .agg #[.int .i64 ((envL L) 0 : Nat), .int .i64 ((envL L) 1 : Nat), .int .i64 ((envL L) 2 : Nat), .int .i64 ((envL L) 3 : Nat)]) (a' := ?_) rfl (by kernel_rfl) ?_ rfl ?_ ?_
            rotate_left 1
            · intro w hSw
              (try dsimp only at hSw)
              go_simp
              first | done | (obtain ⟨u0, u1, u2, u3, u4, u5, u6⟩ := hSw; simp [*])
            · (try simp only [Act.put, List.setIfInBounds_toArray, List.set_cons_zero, List.set_cons_succ])
              try rfl
            refine sched_take' (v := .agg #[.int .i64 (a.n : Int), .string (bs a.set), .string (bs a.rel)]) (a' := ?_) rfl (by kernel_rfl) ?_ rfl ?_ ?_
            rotate_left 1
            · intro w hSw
              (try dsimp only at hSw)
              go_simp
              first | done | (obtain ⟨u0, u1, u2, u3, u4, u5, u6⟩ := hSw; simp [*])
            · (try simp only [Act.put, List.setIfInBounds_toArray, List.set_cons_zero, List.set_cons_succ])
              try rfl
            refine sched_take' (v := ?_) (a' := ?_) rfl (by kernel_rfl) ?_ rfl ?_ ?_
            rotate_left 2
            · intro w hSw
              (try dsimp only at hSw)
              go_simp
              try with_reducible rfl
            · (try simp only [Act.put, List.setIfInBounds_toArray, List.set_cons_zero, List.set_cons_succ])
              try rfl
            refine sched_take' (v := .agg #[.int .i64 ((envL L) 0 : Nat), .int .i64 ((envL L) 1 : Nat), .int .i64 ((envL L) 2 : Nat), .int .i64 ((envL L) 3 : Nat)]) (a' := ?_) rfl (by kernel_rfl) ?_ rfl ?_ ?_
            rotate_left 1
            · intro w hSw
              (try dsimp only at hSw)
              go_simp
              first | done | (obtain ⟨u0, u1, u2, u3, u4, u5, u6⟩ := hSw; simp [*])
            · (try simp only [Act.put, List.setIfInBounds_toArray, List.set_cons_zero, List.set_cons_succ])
              try rfl
            refine sched_call rfl (by kernel_rfl) (fun K1 hK1 => ?_)
            go_simp
            refine (CTj.out _).mono ?_
            rintro ed w4 ⟨rfl, hz⟩
            have B4 := Lib.hid (B3.out.trans (hz.mono B3.out.size))
            have X4 := Lib.hid (X3.out.call hz)
            have XP4 := Lib.hid (XP3.out.call hz)
            clear hz
            obtain ⟨r0, r1, r2⟩ := box_load X4.out
            have s0 := XP4.out.cell 0
            have s1 := XP4.out.cell 1
            have s2 := XP4.out.cell 2
            have s3 := XP4.out.cell 3
            simp only [List.getElem?_toArray, List.getElem?_cons_zero, List.getElem?_cons_succ] at s0 s1 s2 s3
            go_wp2_with fail
            refine hK1.out _ _ ?_ (sched_lay (a' := ?_) ?_ ?_)
            · exact ⟨r0, r1, r2, s0, s1, s2, s3⟩
            rotate_left 1
            · (try simp only [Act.put, List.getElem_toArray, List.getElem_cons_succ, List.getElem_cons_zero, List.setIfInBounds_toArray, List.set_cons_zero, List.set_cons_succ])
              try rfl
            clear hK1 K1
            refine sched_call rfl (by kernel_rfl) (fun K1 hK1 => ?_)
            go_simp
            refine (CTk.out _).mono ?_
            rintro ed w5 ⟨rfl, hz⟩
            have B5 := Lib.hid (B4.out.trans (hz.mono B4.out.size))
            have X5 := Lib.hid (X4.out.call hz)
            have XP5 := Lib.hid (XP4.out.call hz)
            clear hz
            obtain ⟨t0, t1, t2⟩ := box_load X5.out
            have y0 := XP5.out.cell 0
            have y1 := XP5.out.cell 1
            have y2 := XP5.out.cell 2
            have y3 := XP5.out.cell 3
            simp only [List.getElem?_toArray, List.getElem?_cons_zero, List.getElem?_cons_succ] at y0 y1 y2 y3
            go_wp2_with fail
            refine hK1.out _ _ ?_ (sched_lay (a' := ?_) ?_ ?_)
            · exact ⟨t0, t1, t2, y0, y1, y2, y3⟩
            rotate_left 1
            · (try simp only [Act.put, List.getElem_toArray, List.getElem_cons_succ, List.getElem_cons_zero, List.setIfInBounds_toArray, List.set_cons_zero, List.set_cons_succ])
              try rfl
            clear hK1 K1
            refine sched_take' (v := ?_) (a' := ?_) rfl (by kernel_rfl) ?_ rfl ?_ ?_
            rotate_left 2
            · intro w hSw
              (try dsimp only at hSw)
              go_simp
              try with_reducible rfl
            · (try simp only [Act.put, List.setIfInBounds_toArray, List.set_cons_zero, List.set_cons_succ])
              try rfl
            refine sched_done (hQ1.out _ _ ?_)
            go_wp2_with fail
            go_roundg (Q - j - 1)
            case rel => exact ⟨j + 1, by omega, by go_num, fun q hq => by
              by_cases hqj : q = j
              · subst hqj; rw [← HL.out, Hq.out, Hq2.out]
              · exact Hno.out q (by omega), X5.out, B5.out⟩
            case measure => omega
      · obtain rfl : j = Q := by omega
        have hR2 : R = true := by rw [HR.out]; exact decide_eq_true (Hsa.out Hno.out)
        have HR2 := Lib.hid hR2
        have hnl : ¬ ((j : Int) < (j : Int)) := by omega
        clear hR2
        go_wp2_with (go_at_call 49; refine (CW.out _).mono ?_; rintro e w2 ⟨rfl, hz⟩; have B2 := Lib.hid (HB.out.trans (hz.mono HB.out.size)); clear hz m0 m1 m2)
        go_ret2
        exact ⟨ret_pair (by show Value.bool true = Value.bool R; rw [HR2.out]) rfl, B2.out⟩

end Go.Proofs.YteonanaihklgmaaDoor

namespace Go.Proofs.YteonanaihklgmaaDoor
open Go.RowKit
open Pl
set_option linter.unusedSimpArgs false
set_option linter.unusedVariables false

/-- how many lists of k elements make g true -/
noncomputable def cntL (a : St) (g : Fm) (k : Nat) : Nat := ((listsK a.n k).filter fun l => g.holds a (envL l)).length
theorem cpt_fm {a : St} (ha : a.ok) {g : Fm} (hg : g.text.length ≤ 4000) {k : Nat} (hk : k ≤ 3) (hf : g.freeBits / 2 ^ k = 0) : cptV a.n (bs a.set) (bs a.rel) (bs g.text) (k : Nat) = (cntL a g k : Nat) := by
  have h : ptB a.n (bs a.set) (bs a.rel) (bs g.text) (k : Nat) = true := by
    rw [pt_nat _ _ _ _ hk, rdy_of (fm_bs hg) (bs_list _) ha, decide_eq_true hf]
  unfold cptV
  rw [h, ptL_yes (bs_list _) h]
  rfl
theorem cpt_cases (i : Int) (s r f : ByteArray) (x : Int) : cptV i s r f x = -1 ∨
    ∃ (a : St) (g : Fm) (k : Nat), a.ok ∧ i = a.n ∧ s = bs a.set ∧ r = bs a.rel ∧ f = bs g.text ∧ g.text.length ≤ 4000 ∧ x = (k : Nat) ∧ k ≤ 3 ∧ g.freeBits / 2 ^ k = 0 ∧ cptV i s r f x = (cntL a g k : Nat) := by
  cases h : ptB i s r f x with
  | false => left; unfold cptV; rw [h]; rfl
  | true =>
    right
    obtain ⟨k, rfl, hk, hr⟩ := pt_cases h
    unfold rdyB at hr
    simp only [Bool.and_eq_true, decide_eq_true_eq] at hr
    obtain ⟨h1, h2, h3⟩ := hr
    rcases ok_cases i s r with hq | ⟨a, ha, rfl, rfl, rfl⟩
    · rw [h1] at hq; cases hq
    rcases fm_cases f with ⟨hq, _⟩ | ⟨g, hb, hf, hs4, hl4⟩
    · rw [h2] at hq; cases hq
    rw [fmOf_eq hf] at h3
    obtain rfl := eq_bs hf
    exact ⟨a, g, k, ha, rfl, rfl, rfl, rfl, hl4, rfl, hk, h3, cpt_fm ha hl4 hk h3⟩
theorem filter_not {α : Type} (p : α → Bool) : ∀ l : List α, (l.filter p).length + (l.filter fun x => !p x).length = l.length := by
  intro l
  induction l with
  | nil => rfl
  | cons x l ih => cases h : p x <;> simp [h] <;> omega
theorem cnt_neg {a : St} (ha : a.ok) (g : Fm) (k : Nat) : cntL a g k + cntL a (.neg g) k = a.n ^ k := by
  have h := filter_not (fun l => g.holds a (envL l)) (listsK a.n k)
  rw [listsK_len (by have := ha.lo; omega)] at h
  exact h
theorem cntL_le {a : St} (ha : a.ok) (g : Fm) (k : Nat) : cntL a g k ≤ a.n ^ k := by have := cnt_neg ha g k; omega
theorem free_lt {g : Fm} {k : Nat} (hf : g.freeBits / 2 ^ k = 0) {v : Fin 4} (hv : g.isFree v) : v.val < k := by
  apply Classical.byContradiction
  intro hge
  have h1 : g.freeBits < 2 ^ k := by
    have h2 : 0 < 2 ^ k := Nat.two_pow_pos _
    have := Nat.div_add_mod g.freeBits (2 ^ k)
    rw [hf] at this
    have := Nat.mod_lt g.freeBits h2
    omega
  have h3 : g.freeBits < 2 ^ v.val := Nat.lt_of_lt_of_le h1 (Nat.pow_le_pow_right (by decide) (by omega))
  unfold Fm.isFree at hv
  rw [Nat.testBit_lt_two_pow h3] at hv
  cases hv
theorem cnt_flat {a : St} {g : Fm} {k : Nat} (hf : g.freeBits / 2 ^ k = 0) : ∀ Ls : List (List Nat), (∀ l ∈ Ls, l.length = k) → ((Ls.flatMap (extL a.n)).filter fun l => g.holds a (envL l)).length = (Ls.filter fun l => g.holds a (envL l)).length * a.n := by
  intro Ls
  induction Ls with
  | nil => intro _; simp
  | cons l Ls ih =>
    intro hl
    have hll := hl l (by simp)
    have he : ∀ x, g.holds a (envL (l ++ [x])) = g.holds a (envL l) := fun x => holds_free a g _ _ fun v hv => by
      have := free_lt hf hv
      unfold envL
      rw [List.getD_eq_getElem?_getD, List.getD_eq_getElem?_getD, List.getElem?_append_left (by omega)]
    have h1 : ((extL a.n l).filter fun l => g.holds a (envL l)).length = if g.holds a (envL l) then a.n else 0 := by
      unfold extL
      rw [List.filter_map, List.length_map]
      cases hb : g.holds a (envL l) with
      | false => rw [List.filter_eq_nil_iff.2 (fun x _ => by simp [he, hb])]; rfl
      | true => rw [List.filter_eq_self.2 (fun x _ => by simp [he, hb])]; simp
    rw [List.flatMap_cons, List.filter_append, List.length_append, ih fun m hm => hl m (by simp [hm]), h1]
    cases hb : g.holds a (envL l) with
    | false => simp [hb]
    | true => simp [hb, Nat.succ_mul]; omega
theorem cnt_more {a : St} (ha : a.ok) {g : Fm} {k : Nat} (hf : g.freeBits / 2 ^ k = 0) : cntL a g (k + 1) = cntL a g k * a.n := by
  have h := cnt_flat (a := a) hf (listsK a.n k) (fun l hl => (listsK_mem (by have := ha.lo; omega) hl).1)
  exact h
theorem cpt_big (i : Int) (s r f : ByteArray) {x : Int} (h : 3 < x) : cptV i s r f x = -1 := by
  unfold cptV
  rw [pt_big (by omega)]
  rfl

end Go.Proofs.YteonanaihklgmaaDoor

namespace Go.Proofs.YteonanaihklgmaaDoor
open Go.RowKit
open Pl
set_option linter.unusedSimpArgs false
set_option linter.unusedVariables false

/-- one of two formulas is true and the other one is not -/
def difF (g q : Fm) : Fm := .dis (.con g (.neg q)) (.con q (.neg g))
theorem dif_holds (a : St) (g q : Fm) (e : Env) : (difF g q).holds a e = (g.holds a e != q.holds a e) := by
  show (g.holds a e && !(q.holds a e) || q.holds a e && !(g.holds a e)) = _
  cases g.holds a e <;> cases q.holds a e <;> rfl
theorem dif_text (g q : Fm) : (difF g q).text = [124, 38] ++ g.text ++ [33] ++ q.text ++ [38] ++ q.text ++ [33] ++ g.text := by simp [difF, Fm.text]
theorem dif_len (g q : Fm) : (difF g q).text.length = 5 + 2 * g.text.length + 2 * q.text.length := by rw [dif_text]; simp; omega
theorem dif_bs (g q : Fm) : (⟨#[124, 38]⟩ : ByteArray) ++ bs g.text ++ ⟨#[33]⟩ ++ bs q.text ++ ⟨#[38]⟩ ++ bs q.text ++ ⟨#[33]⟩ ++ bs g.text = bs (difF g q).text := by
  rw [dif_text]
  simp only [mk_bs, text_app]
theorem small_bits {m k : Nat} (h : m / 2 ^ k = 0) : m < 2 ^ k := by
  have h2 : 0 < 2 ^ k := Nat.two_pow_pos _
  have := Nat.div_add_mod m (2 ^ k)
  rw [h] at this
  have := Nat.mod_lt m h2
  omega
theorem dif_free {g q : Fm} {k : Nat} (h1 : g.freeBits / 2 ^ k = 0) (h2 : q.freeBits / 2 ^ k = 0) : (difF g q).freeBits / 2 ^ k = 0 := by
  have e : (difF g q).freeBits = (g.freeBits ||| q.freeBits) ||| (q.freeBits ||| g.freeBits) := rfl
  rw [e]
  exact Nat.div_eq_of_lt (Nat.or_lt_two_pow (Nat.or_lt_two_pow (small_bits h1) (small_bits h2)) (Nat.or_lt_two_pow (small_bits h2) (small_bits h1)))
theorem filt_eq {α : Type} (p q : α → Bool) (L : List α) : (L.filter p = L.filter q) ↔ (L.filter fun x => p x != q x).length = 0 := by
  constructor
  · intro h
    rw [List.length_eq_zero_iff, List.filter_eq_nil_iff]
    intro x hx hn
    have h1 : x ∈ L.filter p ↔ x ∈ L.filter q := by rw [h]
    simp only [List.mem_filter, hx, true_and] at h1
    cases hp : p x <;> cases hq : q x <;> simp [hp, hq] at h1 hn
  · intro h
    rw [List.length_eq_zero_iff, List.filter_eq_nil_iff] at h
    apply List.filter_congr
    intro x hx
    have := h x hx
    cases hp : p x <;> cases hq : q x <;> simp [hp, hq] at this ⊢
theorem same_cases (i : Int) (s r f f2 : ByteArray) : ((rdyB i s r f 3 && rdyB i s r f2 3) = false ∧ sameV i s r f f2 = false) ∨
    ∃ (a : St) (g q : Fm), a.ok ∧ i = a.n ∧ s = bs a.set ∧ r = bs a.rel ∧ f = bs g.text ∧ f2 = bs q.text ∧ g.text.length ≤ 4000 ∧ q.text.length ≤ 4000 ∧ g.freeBits / 2 ^ 3 = 0 ∧ q.freeBits / 2 ^ 3 = 0 ∧ (rdyB i s r f 3 && rdyB i s r f2 3) = true := by
  cases h : (rdyB i s r f 3 && rdyB i s r f2 3) with
  | false => left; refine ⟨rfl, ?_⟩; unfold sameV; rw [h]; rfl
  | true =>
    right
    rw [Bool.and_eq_true] at h
    obtain ⟨hr, hq⟩ := h
    unfold rdyB at hr hq
    simp only [Bool.and_eq_true, decide_eq_true_eq] at hr hq
    obtain ⟨h1, h2, h3⟩ := hr
    obtain ⟨_, h5, h6⟩ := hq
    rcases ok_cases i s r with hq | ⟨a, ha, rfl, rfl, rfl⟩
    · rw [h1] at hq; cases hq
    rcases fm_cases f with ⟨hq, _⟩ | ⟨g, hb, hf, hs4, hl4⟩
    · rw [h2] at hq; cases hq
    rcases fm_cases f2 with ⟨hq, _⟩ | ⟨g2, hb2, hf2, hs42, hl42⟩
    · rw [h5] at hq; cases hq
    rw [fmOf_eq hf] at h3
    rw [fmOf_eq hf2] at h6
    obtain rfl := eq_bs hf
    obtain rfl := eq_bs hf2
    exact ⟨a, g, g2, ha, rfl, rfl, rfl, rfl, rfl, hl4, hl42, h3, h6, rfl⟩
theorem rdy_three {a : St} (ha : a.ok) {g : Fm} (hg : g.text.length ≤ 4000) (hf : g.freeBits / 2 ^ 3 = 0) : rdyB a.n (bs a.set) (bs a.rel) (bs g.text) 3 = true := by
  rw [rdy_of (fm_bs hg) (bs_list _) ha, decide_eq_true hf]
theorem same_dif {a : St} (ha : a.ok) {g q : Fm} (hg : g.text.length ≤ 4000) (hq : q.text.length ≤ 4000) (hf : g.freeBits / 2 ^ 3 = 0) (hf2 : q.freeBits / 2 ^ 3 = 0) :
    sameV a.n (bs a.set) (bs a.rel) (bs g.text) (bs q.text) = (((cntL a (difF g q) 3 : Nat) : Int) == 0) := by
  have h1 := rdy_three ha hg hf
  have h2 := rdy_three ha hq hf2
  have h3 : ∀ {f : Fm}, f.text.length ≤ 4000 → f.freeBits / 2 ^ 3 = 0 → ptL a.n (bs a.set) (bs a.rel) (bs f.text) 3 = (listsK a.n 3).filter fun l => f.holds a (envL l) := fun {f} hl hb =>
    ptL_yes (k := 3) (bs_list _) (by rw [pt_nat _ _ _ _ (by omega)]; exact rdy_three ha hl hb)
  unfold sameV
  rw [h1, h2, h3 hg hf, h3 hq hf2]
  unfold cntL
  simp only [dif_holds, Bool.true_and]
  rw [Bool.eq_iff_iff, decide_eq_true_eq, beq_iff_eq, filt_eq]
  omega
theorem same_sym {a : St} (ha : a.ok) {g q : Fm} (hg : g.text.length ≤ 4000) (hq : q.text.length ≤ 4000) (hf : g.freeBits / 2 ^ 3 = 0) (hf2 : q.freeBits / 2 ^ 3 = 0) :
    sameV a.n (bs a.set) (bs a.rel) (bs q.text) (bs g.text) = sameV a.n (bs a.set) (bs a.rel) (bs g.text) (bs q.text) := by
  unfold sameV
  rw [rdy_three ha hg hf, rdy_three ha hq hf2, Bool.eq_iff_iff]
  simp [eq_comm]
end Go.Proofs.YteonanaihklgmaaDoor

namespace Go.Proofs.YteonanaihklgmaaDoor
open Go.RowKit
open Pl
set_option linter.unusedSimpArgs false
set_option linter.unusedVariables false

attribute [local go_sem ↓] Go.wp_at_zero Go.wp_at_succ

set_option maxHeartbeats 16000000 in
set_option maxRecDepth 100000 in
theorem FnSameIn_walk (A : Option Addr) (n cap : Nat) (w : World) (h : ByRow w A n) (hc : n ≤ cap) (hm : cap ≤ maxLen) :
    Calls Tryd.prog 4 #[.slice A n cap] w fun e w' => e = .returned (.bool true) ∧ Below w.heap.size w w' := by
  by_cases hn : n ≤ 1048576
  case neg =>
    have hni : (1048576 : Int) < (n : Int) := by omega
    clear h hc hm
    go_enter Tryd.func4, Tryd.ntmps4
    go_wp2_with fail
    go_ret
    exact ⟨rfl, Below.refl _ _⟩
  case pos =>
  have hni : (n : Int) ≤ 1048576 := by omega
  have HD := Lib.hid (DrawSameIn_calls A n cap w h hn hc hm)
  clear h hc hm
  go_enter Tryd.func4, Tryd.ntmps4
  go_wp2_with fail
  refine (HD.out).mono ?_
  rintro e w1 ⟨⟨i, s, r, t, t2, rfl, hs, hr, ht, ht2⟩, hz⟩
  have B1 := Lib.hid (hz.alloc hz.size (.cells #[.int .i64 i, .string s, .string r] 27))
  have X1 := Lib.hid (Bx.new w1 27 #[.int .i64 i, .string s, .string r])
  have ci := fun W => SameIn_impl i s r t t2 W (by unfold maxLen; omega) (by unfold maxLen; omega)
  have cs := fun W => SameIn_spec i s r t t2 W (by unfold maxLen; omega) (by unfold maxLen; omega) (by unfold maxLen; omega) (by unfold maxLen; omega)
  have co := fun W => SameIn_impl i s r t2 t W (by unfold maxLen; omega) (by unfold maxLen; omega)
  clear hz
  rcases same_cases i s r t t2 with ⟨hb, hv⟩ | ⟨a, g, q, ha, rfl, rfl, rfl, rfl, rfl, hgl, hql, hgf, hqf, hb⟩
  · simp only [hb, hv] at ci cs
    have CI := Lib.hid ci
    have CS := Lib.hid cs
    clear ci cs co hv hb
    obtain ⟨x0, x1, x2⟩ := box_load X1.out
    go_wp2_with fail
    refine (CI.out _).mono ?_
    rintro e w2 ⟨rfl, hz⟩
    have B2 := Lib.hid (B1.out.trans (hz.mono B1.out.size))
    have X2 := Lib.hid (X1.out.call hz)
    clear hz x0 x1 x2
    obtain ⟨x0, x1, x2⟩ := box_load X2.out
    go_wp2_with fail
    refine (CS.out _).mono ?_
    rintro e w3 ⟨rfl, hz⟩
    have B3 := Lib.hid (B2.out.trans (hz.mono B2.out.size))
    have X3 := Lib.hid (X2.out.call hz)
    clear hz x0 x1 x2
    obtain ⟨x0, x1, x2⟩ := box_load X3.out
    go_wp2_with fail
    go_ret
    exact ⟨rfl, B3.out⟩
  have hgs : g.text.length ≤ 72 := by rw [bs_size] at ht; exact ht
  have hqs : q.text.length ≤ 144 := by rw [bs_size] at ht2; exact ht2
  have hb2 : (rdyB a.n (bs a.set) (bs a.rel) (bs q.text) 3 && rdyB a.n (bs a.set) (bs a.rel) (bs g.text) 3) = true := by rw [Bool.and_comm]; exact hb
  have cn := fun W => CountPoints_impl a.n (bs a.set) (bs a.rel) (bs (difF g q).text) 3 W (st_len ha).1 (st_len ha).2
  simp only [show cptV a.n (bs a.set) (bs a.rel) (bs (difF g q).text) 3 = (cntL a (difF g q) 3 : Nat) from cpt_fm ha (by rw [dif_len]; omega) (k := 3) (by omega) (dif_free hgf hqf)] at cn
  simp only [← dif_bs] at cn
  simp only [hb] at ci cs
  simp only [hb2, same_sym ha hgl hql hgf hqf] at co
  simp only [same_dif ha hgl hql hgf hqf] at ci cs co
  obtain ⟨N, hN⟩ : ∃ N, N = cntL a (difF g q) 3 := ⟨_, rfl⟩
  simp only [← hN] at ci cs co cn
  clear hN hb hb2
  have hgz : ((bs g.text).size : Int) ≤ 72 := by omega
  have hqz : ((bs q.text).size : Int) ≤ 144 := by omega
  obtain ⟨t, htt⟩ : ∃ t, t = bs g.text := ⟨_, rfl⟩
  obtain ⟨t2, htt2⟩ : ∃ t2, t2 = bs q.text := ⟨_, rfl⟩
  rw [← htt] at ci cs co cn hgz ht ⊢
  rw [← htt2] at ci cs co cn hqz ht2 ⊢
  have k1 : (ByteArray.mk #[124, 38] ++ t).size ≤ 80 := by rw [ByteArray.size_append]; have : (ByteArray.mk #[124, 38]).size = 2 := rfl; omega
  have s1 : (ByteArray.mk #[33]).size = 1 := rfl
  have s2 : (ByteArray.mk #[38]).size = 1 := rfl
  have k2 : (ByteArray.mk #[124, 38] ++ t ++ ⟨#[33]⟩).size ≤ 90 := by rw [ByteArray.size_append]; omega
  have k3 : (ByteArray.mk #[124, 38] ++ t ++ ⟨#[33]⟩ ++ t2).size ≤ 250 := by rw [ByteArray.size_append]; omega
  have k4 : (ByteArray.mk #[124, 38] ++ t ++ ⟨#[33]⟩ ++ t2 ++ ⟨#[38]⟩).size ≤ 260 := by rw [ByteArray.size_append]; omega
  have k5 : (ByteArray.mk #[124, 38] ++ t ++ ⟨#[33]⟩ ++ t2 ++ ⟨#[38]⟩ ++ t2).size ≤ 410 := by rw [ByteArray.size_append]; omega
  have k6 : (ByteArray.mk #[124, 38] ++ t ++ ⟨#[33]⟩ ++ t2 ++ ⟨#[38]⟩ ++ t2 ++ ⟨#[33]⟩).size ≤ 420 := by rw [ByteArray.size_append]; omega
  clear s1 s2
  have CI := Lib.hid ci
  have CS := Lib.hid cs
  have CO := Lib.hid co
  have CN := Lib.hid cn
  clear ci cs co cn htt htt2 hgf hqf hgl hql
  obtain ⟨Q, hQ⟩ : ∃ Q, Q = (((N : Nat) : Int) == 0) := ⟨_, rfl⟩
  have HQ := Lib.hid hQ
  rw [← hQ] at CI CS CO
  clear hQ
  obtain ⟨x0, x1, x2⟩ := box_load X1.out
  go_wp2_with fail
  refine (CI.out _).mono ?_
  rintro e w2 ⟨rfl, hz⟩
  have B2 := Lib.hid (B1.out.trans (hz.mono B1.out.size))
  have X2 := Lib.hid (X1.out.call hz)
  clear hz x0 x1 x2
  obtain ⟨x0, x1, x2⟩ := box_load X2.out
  have hQQ : (Q == Q) = true := by cases Q <;> rfl
  have hQQ2 : (Q != Q) = false := by cases Q <;> rfl
  go_wp2_with fail
  refine (CS.out _).mono ?_
  rintro e w3 ⟨rfl, hz⟩
  have B3 := Lib.hid (B2.out.trans (hz.mono B2.out.size))
  have X3 := Lib.hid (X2.out.call hz)
  clear hz x0 x1 x2
  obtain ⟨x0, x1, x2⟩ := box_load X3.out
  go_wp2_with fail
  refine (CO.out _).mono ?_
  rintro e w4 ⟨rfl, hz⟩
  have B4 := Lib.hid (B3.out.trans (hz.mono B3.out.size))
  have X4 := Lib.hid (X3.out.call hz)
  clear hz x0 x1 x2
  obtain ⟨x0, x1, x2⟩ := box_load X4.out
  go_wp2_with fail
  refine (CN.out _).mono ?_
  rintro e w5 ⟨rfl, hz⟩
  have B5 := Lib.hid (B4.out.trans (hz.mono B4.out.size))
  have X5 := Lib.hid (X4.out.call hz)
  clear hz x0 x1 x2
  obtain ⟨x0, x1, x2⟩ := box_load X5.out
  have hQ3 : (((N : Nat) : Int) == 0) = Q := HQ.out.symm
  go_wp2_with fail
  go_ret
  exact ⟨rfl, B5.out⟩

end Go.Proofs.YteonanaihklgmaaDoor

namespace Go.Proofs.YteonanaihklgmaaDoor
open Go.RowKit
open Pl
set_option linter.unusedSimpArgs false

/-- the row of strings that a slice names -/
def SRow (w : World) (v : Value) (zs : List ByteArray) : Prop :=
  (v = .slice none 0 0 ∧ zs = []) ∨ ∃ (a : Addr) (cap : Nat), v = .slice (some a) zs.length cap ∧ zs.length ≤ cap ∧ cap ≤ maxLen ∧ (∀ i, i < zs.length → w.cell? (a.add i) = some (.string (zs.getD i ByteArray.empty))) ∧ ∀ s ∈ zs, s.size ≤ maxLen

/-- the bytes of a row of strings -/
def szL (zs : List ByteArray) : Nat := (zs.map ByteArray.size).sum

theorem szL_take {zs : List ByteArray} {k : Nat} (h : k < zs.length) : szL (zs.take (k + 1)) = szL (zs.take k) + (zs.getD k ByteArray.empty).size := by
  unfold szL
  rw [List.take_succ_eq_append_getElem h, List.map_append, List.sum_append]
  simp [List.getD, h]

theorem add_zero_at (g i : Nat) : (⟨g, 0, none⟩ : Addr).add i = ⟨g, i, none⟩ := by
  unfold Addr.add; split <;> simp_all

theorem SRow_of {w : World} {base g n : Nat} {xs : List Value} {zs : List ByteArray} (h : w.ownsRow base 9 1 (.slice (some ⟨g, 0, none⟩) n n) n xs) (hn : n = zs.length) (hm : n ≤ maxLen)
    (hx : ∀ j, j < n → xs[j]? = some (.string (zs.getD j ByteArray.empty))) (hs : ∀ s ∈ zs, s.size ≤ maxLen) : SRow w (.slice (some ⟨g, 0, none⟩) n n) zs := by
  subst hn
  refine .inr ⟨_, _, rfl, Nat.le_refl _, hm, fun i hi => ?_, hs⟩
  have := h.cellAt i (by omega)
  rw [hx i hi] at this
  rw [add_zero_at]; exact this

theorem SRow.lt {w : World} {v : Value} {zs : List ByteArray} (h : SRow w v zs) (w' : World) (hb : Below w.heap.size w w') : SRow w' v zs := by
  rcases h with h | ⟨a, cap, rfl, hle, hm, hc, hs⟩
  · exact .inl h
  · exact .inr ⟨a, cap, rfl, hle, hm, fun i hi => (hb.cell (World.block_lt_of_cell? w (a.add i) (hc i hi))).trans (hc i hi), hs⟩

end Go.Proofs.YteonanaihklgmaaDoor

namespace Go.Proofs.YteonanaihklgmaaDoor
open Go.RowKit
open Pl
set_option linter.unusedSimpArgs false
set_option linter.unusedVariables false

attribute [local go_sem ↓] Go.wp_at_zero Go.wp_at_succ

def strV (zs : List ByteArray) : List Value := zs.map fun z => .string z
theorem str_one (t : ByteArray) : ∀ u ∈ [Value.string t], u.oneCell' = true := by
  intro u hu
  simp at hu
  subst hu
  rfl
theorem SRow_own {w : World} {base g n cp : Nat} {zs : List ByteArray} (h : w.ownsRow base 9 1 (.slice (some ⟨g, 0, none⟩) n cp) n (strV zs)) (hn : n = zs.length) (hs : ∀ s ∈ zs, s.size ≤ maxLen) : SRow w (.slice (some ⟨g, 0, none⟩) n cp) zs := by
  subst hn
  obtain ⟨h1, h2, h3, h4⟩ := own_cap h
  obtain ⟨a, c, e1, hl, hc⟩ := row_slice h
  injection e1 with e1 e2 e3
  refine .inr ⟨⟨g, 0, none⟩, cp, rfl, h1, h2, fun i hi => ?_, hs⟩
  obtain ⟨g', e4, hc2⟩ := hc i hi
  rw [← e1] at e4
  injection e4 with e4
  injection e4 with e4 _ _
  rw [add_zero_at, e4, hc2]
  unfold strV
  rw [List.getElem?_map, List.getElem?_eq_getElem hi, List.getD_eq_getElem?_getD, List.getElem?_eq_getElem hi]
  rfl
/-- an operator and texts that are drawn -/
def OpL (e : Ending) (w' : World) : Prop := ∃ (op : ByteArray) (zs : List ByteArray) (g cp : Nat), e = .returned (.tuple #[.string op, .slice (some ⟨g, 0, none⟩) zs.length cp]) ∧ op.size ≤ 1 ∧ zs.length ≤ 3 ∧ (∀ z ∈ zs, z.size ≤ 64) ∧ SRow w' (.slice (some ⟨g, 0, none⟩) zs.length cp) zs

set_option maxHeartbeats 8000000 in
set_option maxRecDepth 100000 in
theorem DrawJoinFormulas_calls (A : Option Addr) (n cap : Nat) (w : World) (h : ByRow w A n) (hn : n ≤ 1048576) (hc : n ≤ cap) (hm : cap ≤ maxLen) :
    Calls Tryd.prog 20 #[.slice A n cap] w fun e w' => OpL e w' ∧ Below w.heap.size w w' := by
  obtain ⟨i0, hi, hz0, hz1, hz2⟩ := info_parts (P := Tryd.prog) (e := 9) (z := .string ⟨#[]⟩) (size := 1) (bytes := 16) (by kernel_rfl)
  have Ho := Lib.hid (fun W h => l15Open_calls A n cap W h hn hc hm)
  have H0 := Lib.hid h
  have Hfo0 := Lib.hid (fun (rb n cap p : Nat) (A : Option Addr) (W : World) (h : Rd W rb A n cap p) (hp : p ≤ 10000) => l2Open_calls rb A n cap p W h (by omega))
  have B0 := Lib.hid (Below.refl w.heap.size w)
  clear h hn hc hm
  go_enter Tryd.func20, Tryd.ntmps20
  go_wp2_with fail
  refine (Ho.out _ H0.out).mono ?_
  rintro e w1 ⟨⟨A', n', cap', rfl, hr⟩, hb⟩
  have F1 := Lib.hid (Fr.new (rb := w.heap.size) B0.out hr hb rfl)
  have hws := F1.out.rd.box.lt
  have HO := Lib.hid (show w.heap.size < w1.heap.size from F1.out.rd.box.lt)
  clear hr hb
  have Hpk := Lib.hid (show ∀ (k : Int) (q : Nat) (V : World), k ≤ 1000 → q ≤ 1000000000000 → Rd V w.heap.size A' n' cap' q → Calls Tryd.prog 44 #[.pointer (some ⟨w.heap.size, 0, none⟩), .int .i64 k] V fun e w' => PickP k e ∧ Rd w' w.heap.size A' n' cap' (q + 1) ∧ V.grownBy w' (some w.heap.size) from fun k q V hk hq hr => pick_calls w.heap.size A' n' cap' q k V hr (by omega) (by omega))
  have Hof2 := Lib.hid (show ∀ (g q : Nat) (W : World), SCells W g [bs [38], bs [124], bs [38], bs [124], bs [38], bs [124], bs [], bs [33]] → g ≠ w.heap.size → q ≤ 1000000000000 → Rd W w.heap.size A' n' cap' q → Calls Tryd.prog 52 #[.pointer (some ⟨w.heap.size, 0, none⟩), .slice (some ⟨g, 0, none⟩) 8 8] W fun e w' => (∃ t : ByteArray, e = .returned (.string t) ∧ 0 ≤ t.size ∧ t.size ≤ 1) ∧ Rd w' w.heap.size A' n' cap' (q + 1) ∧ W.grownBy w' (some w.heap.size) from
    fun g q W h1 h2 h4 h3 => (of_calls w.heap.size A' n' cap' q g 8 [bs [38], bs [124], bs [38], bs [124], bs [38], bs [124], bs [], bs [33]] W h3 (by omega) (by simp) (by simp) h1 h2).mono fun e w' ⟨⟨m, h4, h5⟩, h6⟩ => ⟨⟨m, h4, by
      simp only [List.mem_cons, List.not_mem_nil, or_false] at h5
      rcases h5 with rfl | rfl | rfl | rfl | rfl | rfl | rfl | rfl <;> decide⟩, h6⟩)
  have Hfo := Lib.hid (Hfo0.out w.heap.size n' cap')
  have F2 := Lib.hid (F1.out.alloc (.cells #[] 9))
  have O2 := Lib.hid (own_zeroO w1 (t := 9))
  go_wp2_with fail
  refine (Hpk.out 4 _ _ (by omega) (by omega) F2.out.rd).mono ?_
  rintro e w3 ⟨⟨m, rfl, hm0, hm1, _⟩, hrd, hg⟩
  have hm4 := hm1 (by omega)
  have F3 := Lib.hid (F2.out.step hrd hg)
  have O3 := Lib.hid (own_dw O2.out hg (by have := HO.out; omega))
  have Hsz3 := Lib.hid (show w1.heap.size ≤ w3.heap.size from by have := hg.size; simp at this; omega)
  clear hrd hg hm1
  obtain ⟨M, rfl⟩ : ∃ M : Nat, m = (M : Nat) := ⟨m.toNat, by omega⟩
  have hM : M ≤ 3 := by omega
  clear hm0 hm4
  go_wp2_with fail
  go_loopg [5, 6] M (fun c o nv wr => ∃ (j q p : Nat) (zs : List ByteArray) (g cp : Nat), q = c ∧ j + q = M ∧ nv = .int .i64 (q : Nat) ∧ o = .slice (some ⟨g, 0, none⟩) j cp ∧ j ≤ cp ∧ zs.length = j ∧ (∀ z ∈ zs, z.size ≤ 64) ∧ p ≤ 1 + 203 * j ∧ wr.ownsRow w1.heap.size 9 1 (.slice (some ⟨g, 0, none⟩) j cp) j (strV zs) ∧ Fr w w.heap.size A' n' cap' p wr ∧ w1.heap.size ≤ wr.heap.size)
  case atStart => exact ⟨0, M, _, [], w1.heap.size, 0, rfl, by omega, rfl, rfl, Nat.le_refl _, rfl, by simp, by omega, O3.out, F3.out, Hsz3.out⟩
  case round =>
    clear F1 F2 F3 O2 O3 Hsz3
    obtain ⟨j, q, p, zs, g, cp, hq, hj, rfl, rfl, hcp, hzl, hzs, hp, ho, hf, hsz⟩ := hrel
    subst hq
    have F1 := Lib.hid hf
    have O1 := Lib.hid ho
    have Hsz := Lib.hid hsz
    have Hzl := Lib.hid hzl
    have Hzs := Lib.hid hzs
    clear hf ho hsz hzl hzs
    rcases Nat.eq_zero_or_pos q with h0 | h0
    · subst h0
      obtain rfl : j = M := by omega
      have N2 := Lib.hid (scells_new wr [bs [38], bs [124], bs [38], bs [124], bs [38], bs [124], bs [], bs [33]] 9)
      have F2 := Lib.hid (F1.out.alloc (.cells #[.string ⟨#[38]⟩, .string ⟨#[124]⟩, .string ⟨#[38]⟩, .string ⟨#[124]⟩, .string ⟨#[38]⟩, .string ⟨#[124]⟩, .string ⟨#[]⟩, .string ⟨#[33]⟩] 9))
      have O2 := Lib.hid (O1.out.alloc (.cells #[.string ⟨#[38]⟩, .string ⟨#[124]⟩, .string ⟨#[38]⟩, .string ⟨#[124]⟩, .string ⟨#[38]⟩, .string ⟨#[124]⟩, .string ⟨#[]⟩, .string ⟨#[33]⟩] 9))
      go_wp2_with fail
      refine (Hof2.out _ _ _ (by exact N2.out) (by have := HO.out; have := Hsz.out; omega) (by omega) F2.out.rd).mono ?_
      rintro e w5 ⟨⟨op, rfl, op0, op1⟩, hrd, hg⟩
      have F5 := Lib.hid (F2.out.step hrd hg)
      have O5 := Lib.hid (own_dw O2.out hg (by have := HO.out; omega))
      clear hrd hg
      go_wp2_with fail
      go_ret2
      refine ⟨⟨op, zs, g, cp, by rw [Hzl.out]; rfl, op1, by rw [Hzl.out]; omega, Hzs.out, ?_⟩, F5.out.bel⟩
      have h9 := SRow_own O5.out Hzl.out.symm (fun z hz => by have := Hzs.out z hz; unfold maxLen; omega)
      rw [Hzl.out]
      exact h9
    · obtain ⟨q', rfl⟩ : ∃ q', q = q' + 1 := ⟨q - 1, by omega⟩
      have hq1 : (0 : Int) < ((q' + 1 : Nat) : Int) := by omega
      have hq2 : ((q' + 1 : Nat) : Int) - 1 = ((q' : Nat) : Int) := by omega
      have hq3 : (q' : Int) ≤ 5 := by omega
      go_wp2_with fail
      refine (Hfo.out p A' _ F1.out.rd (by omega)).mono ?_
      rintro e w5 ⟨⟨t, p5, rfl, ht, hp5, hrd⟩, hg⟩
      have Hsz5 := Lib.hid (show w1.heap.size ≤ w5.heap.size from by have := hg.size; have := Hsz.out; omega)
      have F2 := Lib.hid (F1.out.step hrd hg)
      have O2 := Lib.hid (own_dw O1.out hg (by have := HO.out; omega))
      clear hrd hg
      go_wp2_with (at_builtin; refine wpList_append_own_at _ rfl (.tmp 16) (.tmp 19) 42 rfl w1.heap.size 9 i0 (.string ⟨#[]⟩) 1 16 Tryd.underlying42 hi hz0 hz1 hz2 rfl (by decide) _ j (strV zs) rfl (O2.out.alloc _) ⟨w5.heap.size, 0, none⟩ 1 1 [.string t] rfl rfl (cell_one_new _ _ _) (str_one t) (by unfold maxLen; omega) (by omega) (by have := Hsz5.out; first | omega | (simp; omega)) ?_; intro v5 w6 ho5 hg5 hn5 hat5; clear hn5 hat5; obtain ⟨g5, cp5, rfl⟩ := own_form ho5; obtain ⟨hcx1, hcx2, _, _⟩ := own_cap ho5; have F3 := Lib.hid ((F2.out.alloc (.cells #[.string t] 9)).app hg5 (fun j hj => by have := (O2.out.lt j hj).1; have := HO.out; omega)); have O3 := Lib.hid (show w6.ownsRow w1.heap.size 9 1 (.slice (some ⟨g5, 0, none⟩) (j + 1) cp5) (j + 1) (strV (zs ++ [t])) from by rw [show strV (zs ++ [t]) = strV zs ++ [.string t] by simp [strV]]; exact ho5); have Hsz6 := Lib.hid (show w1.heap.size ≤ w6.heap.size from by have e1 := hg5.size; have e2 := Hsz5.out; simp at e1; omega); clear ho5 hg5)
      go_roundg q'
      case rel => exact ⟨j + 1, q', p5, zs ++ [t], g5, cp5, rfl, by omega, by go_num, rfl, hcx1, by rw [List.length_append, Hzl.out]; rfl, fun z hz => by
        rcases List.mem_append.1 hz with hz | hz
        · exact Hzs.out z hz
        · simp at hz; rw [hz]; exact ht, by omega, O3.out, F3.out, Hsz6.out⟩
      case measure => omega

end Go.Proofs.YteonanaihklgmaaDoor

namespace Go.Proofs.YteonanaihklgmaaDoor
open Go.RowKit
open Pl
set_option linter.unusedSimpArgs false

/-- the texts up to one, each behind the operator -/
def preL (c : UInt8) (zs : List ByteArray) (k : Nat) : List UInt8 := ((zs.take k).map fun z => c :: z.data.toList).flatten

theorem preL_zero (c : UInt8) (zs : List ByteArray) : preL c zs 0 = [] := by simp [preL]

theorem preL_succ (c : UInt8) {zs : List ByteArray} {k : Nat} (h : k < zs.length) : preL c zs (k + 1) = preL c zs k ++ c :: (zs.getD k ByteArray.empty).data.toList := by
  unfold preL
  have hg : zs.getD k ByteArray.empty = zs[k] := by simp [List.getD, h]
  rw [List.take_succ_eq_append_getElem h, List.map_append, List.flatten_append, hg]
  simp only [List.map_cons, List.map_nil, List.flatten_cons, List.flatten_nil, List.append_nil]

theorem preL_len (c : UInt8) (zs : List ByteArray) (hs : ∀ z ∈ zs, z.size ≤ 4000) (k : Nat) (hk : k ≤ zs.length) : (preL c zs k).length ≤ 4001 * k := by
  induction k with
  | zero => simp [preL]
  | succ k ih =>
    rw [preL_succ c (by omega)]
    have hg : zs.getD k ByteArray.empty = zs[k] := by simp [List.getD, show k < zs.length by omega]
    have h1 := hs zs[k] (List.getElem_mem _)
    rw [Lib.size_eq] at h1
    rw [hg]
    have := ih (by omega)
    simp only [List.length_append, List.length_cons]
    omega

/-- the texts joined -/
def joinL (c : UInt8) (zs : List ByteArray) : List UInt8 :=
  if zs.length = 0 then (if c = 38 then [116] else [102]) else preL c zs (zs.length - 1) ++ (zs.getD (zs.length - 1) ByteArray.empty).data.toList

theorem joined_calls (op : ByteArray) (c : UInt8) (g : Nat) {cp : Nat} (zs : List ByteArray) (w : World) (hop : op.data.toList = [c]) (hc : (c = 38 ∧ op = ⟨#[38]⟩) ∨ (c = 124 ∧ op = ⟨#[124]⟩)) (hn : zs.length ≤ 1048576) (hs : ∀ z ∈ zs, z.size ≤ 4000)
    (hv : SRow w (.slice (some ⟨g, 0, none⟩) zs.length cp) zs) :
    Calls Tryd.prog 53 #[.string op, .slice (some ⟨g, 0, none⟩) zs.length cp] w fun e w' => e = .returned (.string (bs (joinL c zs))) ∧ w = w' := by
  rcases hv with ⟨h, _⟩ | ⟨a, cap, e1, hcp, _, hcell, _⟩
  · simp at h
  simp only [Value.slice.injEq, Option.some.injEq] at e1
  obtain ⟨rfl, _, rfl⟩ := e1
  simp only [add_zero_at] at hcell
  have Hcell := Lib.hid hcell
  have Hs := Lib.hid hs
  clear hcell hs
  by_cases h0 : zs.length = 0
  · have hj : joinL c zs = if c = 38 then [116] else [102] := by unfold joinL; rw [if_pos h0]
    rw [hj, h0]
    rcases hc with ⟨rfl, rfl⟩ | ⟨rfl, rfl⟩
    · clear hj
      go_enter Tryd.func53, Tryd.ntmps53
      go_wp2_with fail
      go_ret
      exact ⟨rfl, rfl⟩
    · clear hj
      go_enter Tryd.func53, Tryd.ntmps53
      go_wp2_with fail
      go_ret
      exact ⟨rfl, rfl⟩
  · have hj : joinL c zs = preL c zs (zs.length - 1) ++ (zs.getD (zs.length - 1) ByteArray.empty).data.toList := by unfold joinL; rw [if_neg h0]
    have Hj := Lib.hid hj
    have hos : op.size = 1 := by rw [Lib.size_eq, hop]; rfl
    have Hop := Lib.hid hop
    clear hj hop hc
    have hlz := Hcell.out (zs.length - 1) (by omega)
    have hlz2 : (zs.getD (zs.length - 1) ByteArray.empty).size ≤ 4000 := by
      have hg : zs.getD (zs.length - 1) ByteArray.empty = zs[zs.length - 1] := by simp [List.getD, show zs.length - 1 < zs.length by omega]
      rw [hg]; exact Hs.out _ (List.getElem_mem _)
    obtain ⟨z, hz⟩ : ∃ z, z = zs.getD (zs.length - 1) ByteArray.empty := ⟨_, rfl⟩
    rw [← hz] at hlz hlz2
    have Hz := Lib.hid hz
    clear hz
    obtain ⟨n, hnn⟩ : ∃ n, zs.length = n + 1 := ⟨zs.length - 1, by omega⟩
    have hn1 : zs.length - 1 = n := by omega
    rw [hn1] at hlz
    rw [hnn] at hcp ⊢
    have Hn := Lib.hid hnn
    have hn2 : n < 1048576 := by omega
    clear hnn hn1 hn h0
    go_enter Tryd.func53, Tryd.ntmps53
    go_wp2_with fail
    go_loop [5, 19] (fun o i => ∃ k : Nat, k ≤ n ∧ i = .int .i64 k ∧ o = .string (bs (preL c zs k))) (fun _ i => n - (intOf i).toNat)
    case atStart => exact ⟨0, by omega, rfl, by rw [preL_zero]; rfl⟩
    case round =>
      obtain ⟨k, hk, rfl, rfl⟩ := hrel
      have hpl : (bs (preL c zs k)).size ≤ 4001 * k := by rw [bs_size]; exact preL_len c zs Hs.out k (by have := Hn.out; omega)
      by_cases hlt : k < n
      · have hcl := Hcell.out k (by have := Hn.out; omega)
        have hy2 : (zs.getD k ByteArray.empty).size ≤ 4000 := by
          have hkk : k < zs.length := by have := Hn.out; omega
          have hg : zs.getD k ByteArray.empty = zs[k] := by simp [List.getD, hkk]
          rw [hg]; exact Hs.out _ (List.getElem_mem _)
        have hsu := preL_succ c (zs := zs) (k := k) (by have := Hn.out; omega)
        generalize zs.getD k ByteArray.empty = y at hcl hy2 hsu
        have Hsu := Lib.hid hsu
        clear hsu
        go_wp2_with fail
        go_round
        case rel => exact ⟨k + 1, by omega, by go_num, str_eq (eq_bs (by simp [bs_data, Hsu.out, Hop.out]))⟩
        case measure => simp [intOf]; omega
      · obtain rfl : k = n := by omega
        go_wp2_with fail
        go_ret
        refine ⟨congrArg (fun x => Ending.returned (.string x)) (eq_bs ?_), rfl⟩
        rw [Hj.out, ← Hz.out, Hn.out]
        simp [bs_data]

theorem l2Join_calls (op : ByteArray) (c : UInt8) (g : Nat) {cp : Nat} (zs : List ByteArray) (w : World) (hop : op.data.toList = [c]) (hc : (c = 38 ∧ op = ⟨#[38]⟩) ∨ (c = 124 ∧ op = ⟨#[124]⟩)) (hn : zs.length ≤ 1048576) (hs : ∀ z ∈ zs, z.size ≤ 4000)
    (hv : SRow w (.slice (some ⟨g, 0, none⟩) zs.length cp) zs) :
    Calls Tryd.prog 54 #[.string op, .slice (some ⟨g, 0, none⟩) zs.length cp] w fun e w' => e = .returned (.string (bs (joinL c zs))) ∧ Below w.heap.size w w' := by
  rcases hv with ⟨h, _⟩ | ⟨a, cap, e1, hcp, _, hcell, _⟩
  · simp at h
  simp only [Value.slice.injEq, Option.some.injEq] at e1
  obtain ⟨rfl, _, rfl⟩ := e1
  simp only [add_zero_at] at hcell
  have Hcell := Lib.hid hcell
  have Hs := Lib.hid hs
  clear hcell hs
  by_cases h0 : zs.length = 0
  · have hj : joinL c zs = if c = 38 then [116] else [102] := by unfold joinL; rw [if_pos h0]
    rw [hj, h0]
    have hf1 : ∀ w, Calls Tryd.prog 79 #[.string ⟨#[38, 124]⟩, .int .u8 38] w fun e w' => e = .returned (.int .i64 0) ∧ w' = w := fun w => (l15Find_calls ⟨#[38, 124]⟩ 38 w (by decide)).mono (by rintro e w' ⟨rfl, rfl⟩; exact ⟨rfl, rfl⟩)
    have hf2 : ∀ w, Calls Tryd.prog 79 #[.string ⟨#[38, 124]⟩, .int .u8 124] w fun e w' => e = .returned (.int .i64 1) ∧ w' = w := fun w => (l15Find_calls ⟨#[38, 124]⟩ 124 w (by decide)).mono (by rintro e w' ⟨rfl, rfl⟩; exact ⟨rfl, rfl⟩)
    have Hf1 := Lib.hid hf1
    have Hf2 := Lib.hid hf2
    clear hf1 hf2
    rcases hc with ⟨rfl, rfl⟩ | ⟨rfl, rfl⟩
    · clear hj
      go_enter Tryd.func54, Tryd.ntmps54
      go_upto_region 2 with (fail)
      go_quiet ((go_at_call 79; exact Calls.quiet_of_same (Hf1.out _)))
      go_wp2_with fail
      go_ret
      exact ⟨rfl, below_drewN (Below.refl _ _) _⟩
    · clear hj
      go_enter Tryd.func54, Tryd.ntmps54
      go_upto_region 2 with (fail)
      go_quiet ((go_at_call 79; exact Calls.quiet_of_same (Hf2.out _)))
      go_wp2_with fail
      go_ret
      exact ⟨rfl, below_drewN (Below.refl _ _) _⟩
  · have hj : joinL c zs = preL c zs (zs.length - 1) ++ (zs.getD (zs.length - 1) ByteArray.empty).data.toList := by unfold joinL; rw [if_neg h0]
    have Hj := Lib.hid hj
    have hos : op.size = 1 := by rw [Lib.size_eq, hop]; rfl
    have Hop := Lib.hid hop
    clear hj hop hc
    obtain ⟨J, hJ⟩ : ∃ J, J = joinL c zs := ⟨_, rfl⟩
    rw [← hJ]
    have HJ := Lib.hid hJ
    clear hJ
    go_enter Tryd.func54, Tryd.ntmps54
    go_wp2_with fail
    go_loop [5, 6] (fun o i => ∃ k : Nat, k ≤ zs.length ∧ i = .int .i64 k ∧ ((k < zs.length ∧ o = .string (bs (preL c zs k))) ∨ (k = zs.length ∧ o = .string (bs J)))) (fun _ i => zs.length - (intOf i).toNat)
    case atStart => exact ⟨0, by omega, rfl, .inl ⟨by omega, by rw [preL_zero]; rfl⟩⟩
    case round =>
      obtain ⟨k, hk, rfl, ⟨hlt, rfl⟩ | ⟨rfl, rfl⟩⟩ := hrel
      · have hpl : (bs (preL c zs k)).size ≤ 4001 * k := by rw [bs_size]; exact preL_len c zs Hs.out k (by omega)
        have hcl := Hcell.out k hlt
        have hy2 : (zs.getD k ByteArray.empty).size ≤ 4000 := by
          have hg : zs.getD k ByteArray.empty = zs[k] := by simp [List.getD, hlt]
          rw [hg]; exact Hs.out _ (List.getElem_mem _)
        have hsu := preL_succ c (zs := zs) (k := k) hlt
        by_cases hk1 : k + 1 < zs.length
        · generalize zs.getD k ByteArray.empty = y at hcl hy2 hsu
          have Hsu := Lib.hid hsu
          clear hsu
          go_wp2_with fail
          go_round
          case rel => exact ⟨k + 1, by omega, by go_num, .inl ⟨hk1, str_eq (eq_bs (by simp [bs_data, Hsu.out, Hop.out]))⟩⟩
          case measure => simp [intOf]; omega
        · have hkz : zs.length - 1 = k := by omega
          have hJ2 : J = preL c zs k ++ (zs.getD k ByteArray.empty).data.toList := by rw [HJ.out, Hj.out, hkz]
          clear hsu
          generalize zs.getD k ByteArray.empty = y at hcl hy2 hJ2
          have HJ2 := Lib.hid hJ2
          clear hJ2
          go_wp2_with fail
          go_round
          case rel => exact ⟨k + 1, by omega, by go_num, .inr ⟨by omega, str_eq (eq_bs (by simp [bs_data, HJ2.out]))⟩⟩
          case measure => simp [intOf]; omega
      · go_wp2_with fail
        go_ret
        exact ⟨rfl, Below.refl _ _⟩

end Go.Proofs.YteonanaihklgmaaDoor

namespace Go.Proofs.YteonanaihklgmaaDoor
open Go.RowKit
open Pl
set_option linter.unusedSimpArgs false

open Classical in
/-- formulas joined by an operator, and whether there is such a text -/
noncomputable def joinV (op : ByteArray) (zs : List ByteArray) : ByteArray × Bool :=
  if (op = ⟨#[38]⟩ ∨ op = ⟨#[124]⟩) ∧ (∀ z ∈ zs, IsFm z.data.toList) ∧ (joinL (op.data.toList.headD 0) zs).length ≤ 4000 then (bs (joinL (op.data.toList.headD 0) zs), true) else (bs [], false)

theorem joinV_no {op : ByteArray} {zs : List ByteArray} (h : ¬ ((op = ⟨#[38]⟩ ∨ op = ⟨#[124]⟩) ∧ (∀ z ∈ zs, IsFm z.data.toList) ∧ (joinL (op.data.toList.headD 0) zs).length ≤ 4000)) : joinV op zs = (bs [], false) := if_neg h
theorem joinV_yes {op : ByteArray} {zs : List ByteArray} (h : (op = ⟨#[38]⟩ ∨ op = ⟨#[124]⟩) ∧ (∀ z ∈ zs, IsFm z.data.toList) ∧ (joinL (op.data.toList.headD 0) zs).length ≤ 4000) : joinV op zs = (bs (joinL (op.data.toList.headD 0) zs), true) := if_pos h


set_option maxHeartbeats 1000000 in
set_option maxRecDepth 100000 in
theorem JoinFormulas_spec (op : ByteArray) (g : Nat) {cp : Nat} (zs : List ByteArray) (w : World) (hn : zs.length ≤ 1048576) (hv : SRow w (.slice (some ⟨g, 0, none⟩) zs.length cp) zs) :
    Calls Tryd.prog 22 #[.string op, .slice (some ⟨g, 0, none⟩) zs.length cp] w fun e w' => e = .returned (.tuple #[.string (joinV op zs).1, .bool (joinV op zs).2]) ∧ Below w.heap.size w w' := by
  by_cases hc : ∃ c, op.data.toList = [c] ∧ ((c = 38 ∧ op = ⟨#[38]⟩) ∨ (c = 124 ∧ op = ⟨#[124]⟩))
  · obtain ⟨c, hop, hc⟩ := hc
    have hhd : op.data.toList.headD 0 = c := by rw [hop]; rfl
    have hor : op = ⟨#[38]⟩ ∨ op = ⟨#[124]⟩ := by rcases hc with ⟨_, h⟩ | ⟨_, h⟩ <;> simp [h]
    obtain ⟨J, hJ⟩ : ∃ J, joinL (op.data.toList.headD 0) zs = J := ⟨_, rfl⟩
    have hjoin : (∀ z ∈ zs, IsFm z.data.toList) → ∀ W, Below w.heap.size w W → Calls Tryd.prog 54 #[.string op, .slice (some ⟨g, 0, none⟩) zs.length cp] W fun e w' => e = .returned (.string (bs J)) ∧ Below W.heap.size W w' := fun ha W hW =>
      have hs4 : ∀ z ∈ zs, z.size ≤ 4000 := fun z hz => by rw [Lib.size_eq]; exact (ha z hz).1
      by rw [← hJ, hhd]; exact l2Join_calls op c g zs W hop hc hn hs4 (hv.lt W hW)
    have hv2 := hv
    rcases hv2 with ⟨h, _⟩ | ⟨a, cap, e1, _, _, hcell, hsz⟩
    · simp at h
    simp only [Value.slice.injEq, Option.some.injEq] at e1
    obtain ⟨rfl, e2, e3⟩ := e1
    clear e2 e3
    simp only [add_zero_at] at hcell
    have Hcell := Lib.hid hcell
    have Hsz := Lib.hid hsz
    have Hjoin0 := Lib.hid hjoin
    obtain ⟨V, hV⟩ : ∃ V, V = joinV op zs := ⟨_, rfl⟩
    rw [← hV]
    have HV := Lib.hid hV
    have Hor := Lib.hid hor
    have HJ := Lib.hid hJ
    clear hcell hsz hjoin hV hor hhd hop hv hJ
    rcases hc with ⟨rfl, rfl⟩ | ⟨rfl, rfl⟩
    all_goals
      go_enter Tryd.func22, Tryd.ntmps22
      go_wp2_with fail
      go_loopg [6] zs.length (fun c i wr => ∃ k : Nat, k + c = zs.length ∧ i = .int .i64 k ∧ (∀ j, j < k → IsFm (zs.getD j ByteArray.empty).data.toList) ∧ Below w.heap.size w wr)
      case atStart => exact ⟨0, by omega, rfl, fun j hj => absurd hj (Nat.not_lt_zero _), Below.refl _ _⟩
      case round =>
        obtain ⟨k, hk, rfl, hall, hbr⟩ := hrel
        have Hall := Lib.hid hall
        have Hbr := Lib.hid hbr
        clear hall hbr
        by_cases hlt : k < zs.length
        · have hcl := (Hbr.out.cell (World.block_lt_of_cell? w _ (Hcell.out k hlt))).trans (Hcell.out k hlt)
          have hg : zs.getD k ByteArray.empty = zs[k] := by simp [List.getD, hlt]
          have hmem : zs[k] ∈ zs := List.getElem_mem _
          have hy : (zs.getD k ByteArray.empty).size ≤ maxLen := by rw [hg]; exact Hsz.out _ hmem
          have hkk : ∀ P : ByteArray → Prop, (∀ z ∈ zs, P z) → P (zs.getD k ByteArray.empty) := fun P h => by rw [hg]; exact h _ hmem
          clear hg hmem
          obtain ⟨y, hyz⟩ : ∃ y, y = zs.getD k ByteArray.empty := ⟨_, rfl⟩
          rw [← hyz] at hcl hy hkk
          have Hyz := Lib.hid hyz
          have Hy := Lib.hid hy
          have Hkk := Lib.hid hkk
          clear hyz hy hkk
          rcases fm_cases y with ⟨hb, hno⟩ | ⟨f, hb, hf, hs4, hl4⟩
          · have Hb := Lib.hid hb
            have Hno := Lib.hid hno
            clear hb hno
            go_wp2_with (go_at_call 36; refine (FormulaValid_spec y _ Hy.out).mono ?_; rintro e w' ⟨rfl, rfl⟩; rw [Hb.out])
            go_ret2
            exact ⟨by rw [HV.out, joinV_no (fun h => Hno.out (Hkk.out (fun z => IsFm z.data.toList) h.2.1))]; rfl, Hbr.out⟩
          · have Hb := Lib.hid hb
            have Hf := Lib.hid hf
            have Hs4 := Lib.hid hs4
            have Hl4 := Lib.hid hl4
            clear hb hf hs4 hl4
            go_wp2_with (go_at_call 36; refine (FormulaValid_spec y _ Hy.out).mono ?_; rintro e w' ⟨rfl, rfl⟩; rw [Hb.out])
            go_roundg (gk - 1)
            case rel =>
              refine ⟨k + 1, by omega, by go_num, fun j hj => ?_, Hbr.out⟩
              by_cases hjk : j = k
              · subst hjk; rw [← Hyz.out]; exact ⟨by rw [← Lib.size_eq]; exact Hs4.out, f, Hf.out⟩
              · exact Hall.out j (by omega)
            case measure => omega
        · obtain rfl : k = zs.length := by omega
          have hall2 : ∀ z ∈ zs, IsFm z.data.toList := fun z hz => by
            obtain ⟨j, hj, rfl⟩ := List.getElem_of_mem hz
            have := Hall.out j hj
            simpa [List.getD, hj] using this
          have hjoin := Hjoin0.out hall2
          have Hjoin := Lib.hid hjoin
          have Hall2 := Lib.hid hall2
          clear hjoin hall2
          by_cases hlen : J.length ≤ 4000
          · have hz4 := hlen
            rw [← bs_size] at hz4
            have Hlen := Lib.hid hlen
            clear hlen
            go_wp2_with (first | (go_at_call 54; refine (Hjoin.out _ Hbr.out).mono ?_; rintro e w2 ⟨rfl, hb2⟩))
            go_ret2
            exact ⟨by rw [HV.out, joinV_yes ⟨by first | exact .inl rfl | exact .inr rfl, Hall2.out, by rw [HJ.out]; exact Hlen.out⟩, HJ.out]; rfl, (Hbr.out.trans (hb2.mono Hbr.out.size))⟩
          · have hz4 : 4000 < (bs J).size := by rw [bs_size]; exact Nat.lt_of_not_le hlen
            have Hlen := Lib.hid hlen
            clear hlen
            go_wp2_with (first | (go_at_call 54; refine (Hjoin.out _ Hbr.out).mono ?_; rintro e w2 ⟨rfl, hb2⟩))
            go_ret2
            exact ⟨by rw [HV.out, joinV_no (fun h => Hlen.out (by have := h.2.2; rw [HJ.out] at this; exact this))]; rfl, (Hbr.out.trans (hb2.mono Hbr.out.size))⟩
  · have h1 : ¬ op = ⟨#[38]⟩ := by rintro rfl; exact hc ⟨38, rfl, .inl ⟨rfl, rfl⟩⟩
    have h2 : ¬ op = ⟨#[124]⟩ := by rintro rfl; exact hc ⟨124, rfl, .inr ⟨rfl, rfl⟩⟩
    have hV : joinV op zs = (bs [], false) := joinV_no (by rintro ⟨rfl | rfl, _⟩; exact hc ⟨38, rfl, .inl ⟨rfl, rfl⟩⟩; exact hc ⟨124, rfl, .inr ⟨rfl, rfl⟩⟩)
    rw [hV]
    have g1 : ¬ op.toList = [38] := by rw [ByteArray.toList_eq]; intro e; exact h1 (by rw [← bs_of op, e]; rfl)
    have g2 : ¬ op.toList = [124] := by rw [ByteArray.toList_eq]; intro e; exact h2 (by rw [← bs_of op, e]; rfl)
    have b1 : (op.toList == [38]) = false := beq_eq_false_iff_ne.2 g1
    have b2 : (op.toList == [124]) = false := beq_eq_false_iff_ne.2 g2
    clear hV hc hv h1 h2
    go_enter Tryd.func22, Tryd.ntmps22
    go_wp2_with fail
    go_ret2
    exact ⟨rfl, Below.refl _ _⟩

set_option maxHeartbeats 1000000 in
set_option maxRecDepth 100000 in
theorem JoinFormulas_impl (op : ByteArray) (g : Nat) {cp : Nat} (zs : List ByteArray) (w : World) (hn : zs.length ≤ 1048576) (hv : SRow w (.slice (some ⟨g, 0, none⟩) zs.length cp) zs) :
    Calls Tryd.prog 21 #[.string op, .slice (some ⟨g, 0, none⟩) zs.length cp] w fun e w' => e = .returned (.tuple #[.string (joinV op zs).1, .bool (joinV op zs).2]) ∧ Below w.heap.size w w' := by
  by_cases hc : ∃ c, op.data.toList = [c] ∧ ((c = 38 ∧ op = ⟨#[38]⟩) ∨ (c = 124 ∧ op = ⟨#[124]⟩))
  · obtain ⟨c, hop, hc⟩ := hc
    have hhd : op.data.toList.headD 0 = c := by rw [hop]; rfl
    have hor : op = ⟨#[38]⟩ ∨ op = ⟨#[124]⟩ := by rcases hc with ⟨_, h⟩ | ⟨_, h⟩ <;> simp [h]
    obtain ⟨J, hJ⟩ : ∃ J, joinL (op.data.toList.headD 0) zs = J := ⟨_, rfl⟩
    have hjoin : (∀ z ∈ zs, IsFm z.data.toList) → ∀ W, Below w.heap.size w W → Calls Tryd.prog 53 #[.string op, .slice (some ⟨g, 0, none⟩) zs.length cp] W fun e w' => e = .returned (.string (bs J)) ∧ Below W.heap.size W w' := fun ha W hW =>
      have hs4 : ∀ z ∈ zs, z.size ≤ 4000 := fun z hz => by rw [Lib.size_eq]; exact (ha z hz).1
      by rw [← hJ, hhd]; exact ((joined_calls op c g zs W hop hc hn hs4 (hv.lt W hW)).mono (by rintro e w' ⟨rfl, rfl⟩; exact ⟨rfl, Below.refl _ _⟩))
    have hv2 := hv
    rcases hv2 with ⟨h, _⟩ | ⟨a, cap, e1, _, _, hcell, hsz⟩
    · simp at h
    simp only [Value.slice.injEq, Option.some.injEq] at e1
    obtain ⟨rfl, e2, e3⟩ := e1
    clear e2 e3
    simp only [add_zero_at] at hcell
    have Hcell := Lib.hid hcell
    have Hsz := Lib.hid hsz
    have Hjoin0 := Lib.hid hjoin
    obtain ⟨V, hV⟩ : ∃ V, V = joinV op zs := ⟨_, rfl⟩
    rw [← hV]
    have HV := Lib.hid hV
    have Hor := Lib.hid hor
    have HJ := Lib.hid hJ
    clear hcell hsz hjoin hV hor hhd hop hv hJ
    rcases hc with ⟨rfl, rfl⟩ | ⟨rfl, rfl⟩
    all_goals
      go_enter Tryd.func21, Tryd.ntmps21
      go_wp2_with fail
      go_loopg [16] zs.length (fun c i wr => ∃ k : Nat, k + c = zs.length ∧ i = .int .i64 k ∧ (∀ j, j < k → IsFm (zs.getD j ByteArray.empty).data.toList) ∧ Below w.heap.size w wr)
      case atStart => exact ⟨0, by omega, rfl, fun j hj => absurd hj (Nat.not_lt_zero _), Below.refl _ _⟩
      case round =>
        obtain ⟨k, hk, rfl, hall, hbr⟩ := hrel
        have Hall := Lib.hid hall
        have Hbr := Lib.hid hbr
        clear hall hbr
        by_cases hlt : k < zs.length
        · have hcl := (Hbr.out.cell (World.block_lt_of_cell? w _ (Hcell.out k hlt))).trans (Hcell.out k hlt)
          have hg : zs.getD k ByteArray.empty = zs[k] := by simp [List.getD, hlt]
          have hmem : zs[k] ∈ zs := List.getElem_mem _
          have hy : (zs.getD k ByteArray.empty).size ≤ maxLen := by rw [hg]; exact Hsz.out _ hmem
          have hkk : ∀ P : ByteArray → Prop, (∀ z ∈ zs, P z) → P (zs.getD k ByteArray.empty) := fun P h => by rw [hg]; exact h _ hmem
          clear hg hmem
          obtain ⟨y, hyz⟩ : ∃ y, y = zs.getD k ByteArray.empty := ⟨_, rfl⟩
          rw [← hyz] at hcl hy hkk
          have Hyz := Lib.hid hyz
          have Hy := Lib.hid hy
          have Hkk := Lib.hid hkk
          clear hyz hy hkk
          rcases fm_cases y with ⟨hb, hno⟩ | ⟨f, hb, hf, hs4, hl4⟩
          · have Hb := Lib.hid hb
            have Hno := Lib.hid hno
            clear hb hno
            go_wp2_with (go_at_call 33; refine (parseFormula_no y _ Hno.out).mono ?_; rintro e w2 ⟨rfl, hb2⟩)
            go_ret2
            exact ⟨by rw [HV.out, joinV_no (fun h => Hno.out (Hkk.out (fun z => IsFm z.data.toList) h.2.1))]; rfl, (Hbr.out.trans (hb2.mono Hbr.out.size))⟩
          · have Hb := Lib.hid hb
            have Hf := Lib.hid hf
            have Hs4 := Lib.hid hs4
            have Hl4 := Lib.hid hl4
            clear hb hf hs4 hl4
            go_wp2_with (go_at_call 33; refine (parseFormula_yes y f _ Hs4.out Hf.out).mono ?_; rintro e w2 ⟨b, rfl, htr, hb2⟩; clear htr)
            go_roundg (gk - 1)
            case rel =>
              refine ⟨k + 1, by omega, by go_num, fun j hj => ?_, (Hbr.out.trans (hb2.mono Hbr.out.size))⟩
              by_cases hjk : j = k
              · subst hjk; rw [← Hyz.out]; exact ⟨by rw [← Lib.size_eq]; exact Hs4.out, f, Hf.out⟩
              · exact Hall.out j (by omega)
            case measure => omega
        · obtain rfl : k = zs.length := by omega
          have hall2 : ∀ z ∈ zs, IsFm z.data.toList := fun z hz => by
            obtain ⟨j, hj, rfl⟩ := List.getElem_of_mem hz
            have := Hall.out j hj
            simpa [List.getD, hj] using this
          have hjoin := Hjoin0.out hall2
          have Hjoin := Lib.hid hjoin
          have Hall2 := Lib.hid hall2
          clear hjoin hall2
          by_cases hlen : J.length ≤ 4000
          · have hz4 := hlen
            rw [← bs_size] at hz4
            have Hlen := Lib.hid hlen
            clear hlen
            go_wp2_with (first | (go_at_call 53; refine (Hjoin.out _ Hbr.out).mono ?_; rintro e w2 ⟨rfl, hb2⟩) | (go_at_call 34; refine (shortFormula_yes _ _ hz4).mono ?_; rintro e w3 ⟨rfl, rfl⟩))
            go_ret2
            exact ⟨by rw [HV.out, joinV_yes ⟨by first | exact .inl rfl | exact .inr rfl, Hall2.out, by rw [HJ.out]; exact Hlen.out⟩, HJ.out]; rfl, (Hbr.out.trans (hb2.mono Hbr.out.size))⟩
          · have hz4 : 4000 < (bs J).size := by rw [bs_size]; exact Nat.lt_of_not_le hlen
            have Hlen := Lib.hid hlen
            clear hlen
            go_wp2_with (first | (go_at_call 53; refine (Hjoin.out _ Hbr.out).mono ?_; rintro e w2 ⟨rfl, hb2⟩) | (go_at_call 34; refine (shortFormula_no _ _ _ (fun _ => hz4)).mono ?_; rintro e w3 ⟨rfl, rfl⟩))
            go_ret2
            exact ⟨by rw [HV.out, joinV_no (fun h => Hlen.out (by have := h.2.2; rw [HJ.out] at this; exact this))]; rfl, (Hbr.out.trans (hb2.mono Hbr.out.size))⟩
  · have h1 : ¬ op = ⟨#[38]⟩ := by rintro rfl; exact hc ⟨38, rfl, .inl ⟨rfl, rfl⟩⟩
    have h2 : ¬ op = ⟨#[124]⟩ := by rintro rfl; exact hc ⟨124, rfl, .inr ⟨rfl, rfl⟩⟩
    have hV : joinV op zs = (bs [], false) := joinV_no (by rintro ⟨rfl | rfl, _⟩; exact hc ⟨38, rfl, .inl ⟨rfl, rfl⟩⟩; exact hc ⟨124, rfl, .inr ⟨rfl, rfl⟩⟩)
    rw [hV]
    have g1 : ¬ op.toList = [38] := by rw [ByteArray.toList_eq]; intro e; exact h1 (by rw [← bs_of op, e]; rfl)
    have g2 : ¬ op.toList = [124] := by rw [ByteArray.toList_eq]; intro e; exact h2 (by rw [← bs_of op, e]; rfl)
    have b1 : (op.toList == [38]) = false := beq_eq_false_iff_ne.2 g1
    have b2 : (op.toList == [124]) = false := beq_eq_false_iff_ne.2 g2
    clear hV hc hv h1 h2
    go_enter Tryd.func21, Tryd.ntmps21
    go_wp2_with fail
    go_ret2
    exact ⟨rfl, Below.refl _ _⟩

end Go.Proofs.YteonanaihklgmaaDoor
