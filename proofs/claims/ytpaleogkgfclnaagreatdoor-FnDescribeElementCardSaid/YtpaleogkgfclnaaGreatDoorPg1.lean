/-
  Laws of the functions that the claim reaches, one after the other (packed by a program of the prover's: Draw3, Draw4, Reg2, Draw5, TurnS, Fmt, Draw6, DrawDs, Plain). Conditions: texts below the reach.
-/
import Derived.Test.YtpaleogkgfclnaaGreatDoorPg0
import Derived.Deep.RegionWith
import Derived.StillTailTactics
import Derived.Deep.CutBlock
import Derived.KernelRfl
set_option linter.unusedSimpArgs false
set_option linter.unusedVariables false

namespace Go.Proofs.YtpaleogkgfclnaaGreatDoor
open Go.RowKit
open Pl
set_option linter.unusedSimpArgs false
set_option linter.unusedVariables false

/-- a drawn structure -/
def DrawS (rb : Nat) (A : Option Addr) (n cap p sz : Nat) (e : Ending) (w' : World) : Prop := ∃ (a : St) (p' : Nat), e = .returned (stA a) ∧ a.ok ∧ a.n = sz ∧ p' ≤ p + 100 ∧ Rd w' rb A n cap p'

/-- so many bits -/
def SzB (s : ByteArray) (k : Nat) : Prop := s.size = k ∧ bitsL s.data.toList = true
theorem szB0 : SzB (bs []) 0 := ⟨rfl, rfl⟩
theorem SzB.app {s : ByteArray} {k m : Nat} (h : SzB s k) (b : Bool) (hm : k + 1 = m) : SzB (s ++ bs [bitB b]) m := by
  refine ⟨by rw [ByteArray.size_append, h.1, ← hm]; rfl, ?_⟩
  have h2 := h.2
  rw [append_bs, bs_data, bs_data]
  unfold bitsL at *
  rw [List.all_append, h2]
  cases b <;> rfl
theorem szB_st {s r : ByteArray} {sz : Nat} (h1 : 1 ≤ sz) (h8 : sz ≤ 8) (hs : SzB s sz) (hr : SzB r (sz * sz)) : ∃ a : St, a.ok ∧ a.n = sz ∧ stV (sz : Nat) s r = stA a := by
  have hok : okB (sz : Nat) s r = true := by
    unfold okB bitsB
    rw [hs.2, hr.2, hs.1, hr.1]
    simp
    omega
  rcases ok_cases (sz : Nat) s r with h | ⟨a, ha, hn, rfl, rfl⟩
  · rw [hok] at h; cases h
  · exact ⟨a, ha, by omega, by rw [hn]⟩

/-- what lies in memory while it is drawn -/
structure DrF (w : World) (rb : Nat) (A : Option Addr) (n cap p sz : Nat) (S R : ByteArray) (V : World) : Prop where
  res : Bx V w.heap.size 24 #[.int .i64 0, .string (bs []), .string (bs [])]
  box : Bx V (w.heap.size + 1) 24 #[.int .i64 (sz : Nat), .string S, .string R]
  rd : Rd V rb A n cap p
  gr : w.grownBy V (some rb)
  rlt : rb < w.heap.size

theorem DrF.pick {w V V' : World} {rb n cap p p' sz : Nat} {A : Option Addr} {S R : ByteArray} (h : DrF w rb A n cap p sz S R V) (hr : Rd V' rb A n cap p') (hg : V.grownBy V' (some rb)) : DrF w rb A n cap p' sz S R V' := by
  have hl := h.rlt
  exact ⟨h.res.grown' hg (by simp; omega), h.box.grown' hg (by simp; omega), hr, World.grownBy.trans h.gr hg, hl⟩
theorem DrF.drew {w V : World} {rb n cap p sz : Nat} {A : Option Addr} {S R : ByteArray} (h : DrF w rb A n cap p sz S R V) : DrF w rb A n cap p sz S R V.drew :=
  ⟨h.res, h.box, ⟨h.rd.box, h.rd.row, h.rd.small, h.rd.sep⟩, ⟨h.gr.os, h.gr.tape, h.gr.output, h.gr.size, h.gr.block⟩, h.rlt⟩
theorem DrF.put {w V : World} {rb n cap p sz : Nat} {A : Option Addr} {S R S' R' : ByteArray} (h : DrF w rb A n cap p sz S R V) (j : Nat) (v : Value) (hj : (#[.int .i64 (sz : Nat), .string S, .string R] : Array Value).setIfInBounds j v = #[.int .i64 (sz : Nat), .string S', .string R']) :
    DrF w rb A n cap p sz S' R' (V.setCell ⟨w.heap.size + 1, j, none⟩ v) := by
  have hl := h.rlt
  have hw : w.heap.size + 1 < V.heap.size := h.box.lt
  have hgv : V.grownBy (V.setCell ⟨w.heap.size + 1, j, none⟩ v) (some (w.heap.size + 1)) := ⟨rfl, rfl, rfl, by simp, fun k _ hk => Below.heap_setCell V _ _ k (fun e => hk (by rw [e]))⟩
  refine ⟨h.res.far (by simp) _, by rw [← hj]; exact h.box.set j v, ⟨h.rd.box.far (by simp; omega) _, ?_, h.rd.small, h.rd.sep⟩, ⟨h.gr.os, h.gr.tape, h.gr.output, by simpa using h.gr.size, fun k hk hne => (Below.heap_setCell V ⟨w.heap.size + 1, j, none⟩ _ k (by simp; omega)).trans (h.gr.block k hk hne)⟩, hl⟩
  intro h0
  obtain ⟨x, rfl, hc⟩ := h.rd.row h0
  have hx := h.rd.sep h0 x rfl
  refine ⟨x, rfl, fun i hi => ?_⟩
  obtain ⟨b, hb, hcell⟩ := hc i hi
  refine ⟨b, hb, ?_⟩
  rw [← hcell]
  have hbl : (x.add i).block = x.block := by unfold Addr.add; split <;> rfl
  exact World.cell?_of_block (by rw [hbl]; exact Below.heap_setCell V _ _ _ (by simp; omega))

theorem rg_set {w V : World} {rb n cap p g : Nat} {A : Option Addr} (hr : Rd V rb A n cap p) (hgr : w.grownBy V (some rb)) (hl : rb < w.heap.size) (hgg : w.heap.size ≤ g) (i : Nat) (v : Value) :
    Rd (V.setCell ⟨g, i, none⟩ v) rb A n cap p ∧ w.grownBy (V.setCell ⟨g, i, none⟩ v) (some rb) := by
  refine ⟨⟨hr.box.far (by simp; omega) _, ?_, hr.small, hr.sep⟩, ⟨hgr.os, hgr.tape, hgr.output, by simpa using hgr.size, fun k hk hne => (Below.heap_setCell V ⟨g, i, none⟩ _ k (by simp; omega)).trans (hgr.block k hk hne)⟩⟩
  intro h0
  obtain ⟨x, rfl, hc⟩ := hr.row h0
  have hx := hr.sep h0 x rfl
  refine ⟨x, rfl, fun i hi => ?_⟩
  obtain ⟨b, hb, hcell⟩ := hc i hi
  refine ⟨b, hb, ?_⟩
  rw [← hcell]
  have hbl : (x.add i).block = x.block := by unfold Addr.add; split <;> rfl
  exact World.cell?_of_block (by rw [hbl]; exact Below.heap_setCell V _ _ _ (by simp; omega))

set_option maxHeartbeats 8000000 in
set_option maxRecDepth 100000 in
theorem l1Draw_calls (rb : Nat) (A : Option Addr) (n cap p sz : Nat) (w : World) (h : Rd w rb A n cap p) (hp : p ≤ 549755813888) (h1 : 1 ≤ sz) (h5 : sz ≤ 5) :
    Calls Tryz.prog 26 #[.pointer (some ⟨rb, 0, none⟩), .int .i64 (sz : Nat)] w fun e w' => DrawS rb A n cap p sz e w' ∧ w.grownBy w' (some rb) := by
  have hpk : ∀ (k : Int) (q : Nat) (V : World), k ≤ 100 → q ≤ p + 200 → Rd V rb A n cap q → Calls Tryz.prog 23 #[.pointer (some ⟨rb, 0, none⟩), .int .i64 k] V fun e w' => PickP k e ∧ Rd w' rb A n cap (q + 1) ∧ V.grownBy w' (some rb) := fun k q V hk hq hr => pick_calls rb A n cap q k V hr (by omega) (by omega)
  have hrl : rb < w.heap.size := h.box.lt
  have hf0 : DrF w rb A n cap p sz (bs []) (bs []) ((w.alloc (.cells #[.int .i64 0, .string (bs []), .string (bs [])] 24)).alloc (.cells #[.int .i64 (sz : Nat), .string (bs []), .string (bs [])] 24)) := by
    have hg : w.grownBy ((w.alloc (.cells #[.int .i64 0, .string (bs []), .string (bs [])] 24)).alloc (.cells #[.int .i64 (sz : Nat), .string (bs []), .string (bs [])] 24)) (some rb) := World.grownBy.trans (World.grownBy_alloc w _ _) (World.grownBy_alloc _ _ _)
    exact ⟨(Bx.new w _ _).alloc _, bx_two w _ _, ⟨(h.box.alloc _).alloc _, h.row.grown h.sep hrl hg, h.small, h.sep⟩, hg, hrl⟩
  have F0 := Lib.hid hf0
  have Hpk := Lib.hid hpk
  clear hpk hf0 h
  go_enter Tryz.func26, Tryz.ntmps26
  go_wp2_with fail
  refine (Hpk.out 8 p _ (by omega) (by omega) F0.out.rd).mono ?_
  rintro e w1 ⟨⟨kd, rfl, hk0, hk1, _⟩, hr, hg⟩
  have hk8 := hk1 (by omega)
  have F1 := Lib.hid (F0.out.pick hr hg)
  clear hr hg hk1
  go_wp2_with fail
  go_loopg [7] sz (fun c i wr => ∃ (k : Nat) (S R : ByteArray) (q : Nat), k + c = sz ∧ i = .int .i64 k ∧ DrF w rb A n cap q sz S R wr ∧ SzB S k ∧ SzB R (k * sz) ∧ q ≤ p + 1 + k * 6)
  case atStart => exact ⟨0, _, _, p + 1, by omega, rfl, F1.out, szB0, by rw [Nat.zero_mul]; exact szB0, by omega⟩
  case round =>
    clear F0 F1
    obtain ⟨k, S, R, q, hk, rfl, hf, hS, hR, hq⟩ := hrel
    have F0 := Lib.hid hf
    by_cases hlt : k < sz
    · have hki : (k : Int) < (sz : Int) := by omega
      have c1 := hf.box.cell 1
      have f1 := hf.box.free 1
      simp at c1
      have hS8 : S.size ≤ 8 := by have := hS.1; omega
      have HR := Lib.hid hR
      have HS := Lib.hid hS
      clear hf hR hS
      go_upto_region 6 with (fail)
      go_cut [] (fun wx => ∃ (S2 : ByteArray) (q2 : Nat), DrF w rb A n cap q2 sz S2 R wx ∧ SzB S2 (k + 1) ∧ q2 ≤ q + 1)
      case first =>
        by_cases hkd : 2 < kd
        · have hd : decide (2 < kd) = true := decide_eq_true hkd
          have s2 : ∀ b : Bool, (bs [bitB b]).size = 1 := fun b => by rw [bs_size]; rfl
          have Hs2 := Lib.hid s2
          clear s2
          go_region_with (first | (go_at_call 23; refine (Hpk.out 3 q _ (by omega) (by omega) F0.out.drew.rd).mono ?_; rintro e w2 ⟨⟨m, rfl, hm0, hm1, _⟩, hr, hg⟩; have F2 := Lib.hid (F0.out.drew.pick hr hg); clear hr hg hm1; have c2 := F2.out.box.cell 1; have f2 := F2.out.box.free 1; simp at c2; have g2 := Hs2.out (m == 0)) | (go_at_call 53; refine (l1Bit_calls _ _).mono ?_; rintro e w3 ⟨rfl, rfl⟩))
          all_goals
            go_wp2_with fail
            go_meet
            case rel => exact ⟨_, q + 1, F2.out.put 1 (.string (S ++ bs [bitB (m == 0)])) rfl, HS.out.app _ rfl, by omega⟩
        · have hd : decide (2 < kd) = false := decide_eq_false hkd
          have g2 : (bs [bitB false]).size = 1 := by rw [bs_size]; rfl
          have g3 : (bs [bitB false]).size ≤ 1 := by omega
          go_still_tail 12, (by kernel_rfl)
          still_call ((l1Bit_calls false _).mono fun _ _ ⟨h1, h2⟩ => ⟨h1, h2.symm⟩)
          refine wpStill_step (fun K hK => ?_)
          go_simp
          rw [if_neg (by omega)]
          refine ⟨rfl, hK _ ?_⟩
          clear hK K
          repeat still_step
          refine wpStill_nil ?_
          change wpList _ _ _ _ _ wr.drew
          have c2 : wr.drew.cell? ⟨w.heap.size + 1, 1, none⟩ = some (.string S) := c1
          have f2 : wr.drew.frozen? ⟨w.heap.size + 1, 1, none⟩ = false := f1
          all_goals
            go_wp2_with fail
            go_meet
            case rel => exact ⟨_, q, F0.out.drew.put 1 (.string (S ++ bs [bitB false])) rfl, HS.out.app _ rfl, by omega⟩
      case rest =>
        obtain ⟨S2, q2, hf2, hS2, hq2⟩ := hcut
        have F2 := Lib.hid hf2
        have HS2 := Lib.hid hS2
        clear hf2 hS2 c1 f1 hS8 HS F0
        go_wp2_with fail
        go_loopg [8] sz (fun c i wr => ∃ (j : Nat) (R3 : ByteArray) (q3 : Nat), j + c = sz ∧ i = .int .i64 j ∧ DrF w rb A n cap q3 sz S2 R3 wr ∧ SzB R3 (k * sz + j) ∧ q3 ≤ q2 + j)
        case atStart => exact ⟨0, R, q2, by omega, rfl, F2.out, HR.out, by omega⟩
        case round =>
          clear F2
          obtain ⟨j, R3, q3, hj, rfl, hf3, hR3, hq3⟩ := hrel
          have F3 := Lib.hid hf3
          clear hf3
          by_cases hlj : j < sz
          · have hji : (j : Int) < (sz : Int) := by omega
            have HR3 := Lib.hid hR3
            have hR8 : R3.size ≤ 100 := by
              have h1 : k * sz ≤ 5 * 5 := Nat.mul_le_mul (by omega) h5
              have h2 := hR3.1
              omega
            clear hR3
            go_wp2_with fail
            refine (Hpk.out 3 q3 _ (by omega) (by omega) F3.out.rd).mono ?_
            rintro e w4 ⟨⟨m, rfl, hm0, hm1, _⟩, hr, hg⟩
            have F4 := Lib.hid (F3.out.pick hr hg)
            clear hr hg hm1
            have c1 := F4.out.box.cell 2
            have f1 := F4.out.box.free 2
            simp at c1
            by_cases hkj : k = j
            · have hkj' : j = k := hkj.symm
              subst hkj'
              clear hkj
              go_upto_block 4 with (fail)
              go_cut [9] (fun v wx => (∃ b : Bool, v = .bool b) ∧ w4 = wx)
              case first =>
                go_wp2_with fail
                all_goals
                  go_meet
                  case rel => exact ⟨⟨_, rfl⟩, rfl⟩
              case rest =>
                obtain ⟨⟨b, rfl⟩, hwx⟩ := hcut
                subst hwx
                have g2 : (bs [bitB b]).size = 1 := by rw [bs_size]; rfl
                have g3 : (bs [bitB b]).size ≤ 1 := by omega
                go_upto_region 24 with (fail)
                go_still_tail 6, (by kernel_rfl)
                still_call ((l1Bit_calls b _).mono fun _ _ ⟨h1, h2⟩ => ⟨h1, h2.symm⟩)
                refine wpStill_step (fun K hK => ?_)
                go_simp
                rw [if_neg (by omega)]
                refine ⟨rfl, hK _ ?_⟩
                clear hK K
                repeat still_step
                refine wpStill_nil ?_
                have c2 : w4.drew.cell? ⟨w.heap.size + 1, 2, none⟩ = some (.string R3) := c1
                have f2 : w4.drew.frozen? ⟨w.heap.size + 1, 2, none⟩ = false := f1
                change wpList _ _ _ _ _ w4.drew
                go_wp2_with fail
                go_roundg (sz - j - 1)
                case rel => exact ⟨j + 1, _, q3 + 1, by omega, by go_num, F4.out.drew.put 2 (.string (R3 ++ bs [bitB b])) rfl, HR3.out.app _ (by omega), by omega⟩
                case measure => omega
            · by_cases hj1 : j = k + 1
              · subst hj1
                clear hkj
                go_upto_block 4 with (fail)
                go_cut [9] (fun v wx => (∃ b : Bool, v = .bool b) ∧ w4 = wx)
                case first =>
                  go_wp2_with fail
                  all_goals
                    go_meet
                    case rel => exact ⟨⟨_, rfl⟩, rfl⟩
                case rest =>
                  obtain ⟨⟨b, rfl⟩, hwx⟩ := hcut
                  subst hwx
                  have g2 : (bs [bitB b]).size = 1 := by rw [bs_size]; rfl
                  have g3 : (bs [bitB b]).size ≤ 1 := by omega
                  go_upto_region 24 with (fail)
                  go_still_tail 6, (by kernel_rfl)
                  still_call ((l1Bit_calls b _).mono fun _ _ ⟨h1, h2⟩ => ⟨h1, h2.symm⟩)
                  refine wpStill_step (fun K hK => ?_)
                  go_simp
                  rw [if_neg (by omega)]
                  refine ⟨rfl, hK _ ?_⟩
                  clear hK K
                  repeat still_step
                  refine wpStill_nil ?_
                  have c2 : w4.drew.cell? ⟨w.heap.size + 1, 2, none⟩ = some (.string R3) := c1
                  have f2 : w4.drew.frozen? ⟨w.heap.size + 1, 2, none⟩ = false := f1
                  change wpList _ _ _ _ _ w4.drew
                  go_wp2_with fail
                  go_roundg (sz - (k + 1) - 1)
                  case rel => exact ⟨k + 1 + 1, _, q3 + 1, by omega, by go_num, F4.out.drew.put 2 (.string (R3 ++ bs [bitB b])) rfl, HR3.out.app _ (by omega), by omega⟩
                  case measure => omega
              · by_cases hk1' : k = j + 1
                · subst hk1'
                  clear hkj hj1
                  go_upto_block 4 with (fail)
                  go_cut [9] (fun v wx => (∃ b : Bool, v = .bool b) ∧ w4 = wx)
                  case first =>
                    go_wp2_with fail
                    all_goals
                      go_meet
                      case rel => exact ⟨⟨_, rfl⟩, rfl⟩
                  case rest =>
                    obtain ⟨⟨b, rfl⟩, hwx⟩ := hcut
                    subst hwx
                    have g2 : (bs [bitB b]).size = 1 := by rw [bs_size]; rfl
                    have g3 : (bs [bitB b]).size ≤ 1 := by omega
                    go_upto_region 24 with (fail)
                    go_still_tail 6, (by kernel_rfl)
                    still_call ((l1Bit_calls b _).mono fun _ _ ⟨h1, h2⟩ => ⟨h1, h2.symm⟩)
                    refine wpStill_step (fun K hK => ?_)
                    go_simp
                    rw [if_neg (by omega)]
                    refine ⟨rfl, hK _ ?_⟩
                    clear hK K
                    repeat still_step
                    refine wpStill_nil ?_
                    have c2 : w4.drew.cell? ⟨w.heap.size + 1, 2, none⟩ = some (.string R3) := c1
                    have f2 : w4.drew.frozen? ⟨w.heap.size + 1, 2, none⟩ = false := f1
                    change wpList _ _ _ _ _ w4.drew
                    go_wp2_with fail
                    go_roundg (sz - j - 1)
                    case rel => exact ⟨j + 1, _, q3 + 1, by omega, by go_num, F4.out.drew.put 2 (.string (R3 ++ bs [bitB b])) rfl, HR3.out.app _ (by omega), by omega⟩
                    case measure => omega
                · have e1 : ((k : Int) == (j : Int)) = false := by simp; omega
                  have e2 : ((k : Int) != (j : Int)) = true := by simp; omega
                  have e3 : ¬ (k : Int) = (j : Int) := by omega
                  have e4 : ((j : Int) == (k : Int) + 1) = false := by simp; omega
                  have e5 : ((k : Int) == (j : Int) + 1) = false := by simp; omega
                  have Hkj := Lib.hid hkj
                  have Hj1 := Lib.hid hj1
                  have Hk1 := Lib.hid hk1'
                  clear hkj hj1 hk1'
                  go_upto_block 4 with (fail)
                  go_cut [9] (fun v wx => (∃ b : Bool, v = .bool b) ∧ w4 = wx)
                  case first =>
                    go_wp2_with fail
                    all_goals
                      go_meet
                      case rel => exact ⟨⟨_, rfl⟩, rfl⟩
                  case rest =>
                    obtain ⟨⟨b, rfl⟩, hwx⟩ := hcut
                    subst hwx
                    have g2 : (bs [bitB b]).size = 1 := by rw [bs_size]; rfl
                    have g3 : (bs [bitB b]).size ≤ 1 := by omega
                    go_upto_region 24 with (fail)
                    go_still_tail 6, (by kernel_rfl)
                    still_call ((l1Bit_calls b _).mono fun _ _ ⟨h1, h2⟩ => ⟨h1, h2.symm⟩)
                    refine wpStill_step (fun K hK => ?_)
                    go_simp
                    rw [if_neg (by omega)]
                    refine ⟨rfl, hK _ ?_⟩
                    clear hK K
                    repeat still_step
                    refine wpStill_nil ?_
                    have c2 : w4.drew.cell? ⟨w.heap.size + 1, 2, none⟩ = some (.string R3) := c1
                    have f2 : w4.drew.frozen? ⟨w.heap.size + 1, 2, none⟩ = false := f1
                    change wpList _ _ _ _ _ w4.drew
                    go_wp2_with fail
                    go_roundg (sz - j - 1)
                    case rel => exact ⟨j + 1, _, q3 + 1, by omega, by go_num, F4.out.drew.put 2 (.string (R3 ++ bs [bitB b])) rfl, HR3.out.app _ (by omega), by omega⟩
                    case measure => omega
          · have hji : ¬ (j : Int) < (sz : Int) := by omega
            obtain rfl : sz = j := by omega
            have HR3 := Lib.hid hR3
            clear hR3
            go_wp2_with fail
            go_roundg (sz - k - 1)
            case rel => exact ⟨k + 1, S2, R3, q3, by omega, by go_num, F3.out, HS2.out, by rw [Nat.succ_mul]; exact HR3.out, by omega⟩
            case measure => omega
    · have hki : ¬ (k : Int) < (sz : Int) := by omega
      obtain rfl : sz = k := by omega
      have f0 := hf.res.free 0
      have f1 := hf.res.free 1
      have f2 := hf.res.free 2
      obtain ⟨c0, c1, c2⟩ := box_load hf.res
      obtain ⟨d0, d1, d2⟩ := box_load hf.box
      have y1 := ((hf.res.set 0 (.int .i64 (sz : Nat))).set 1 (.string S)).set 2 (.string R)
      obtain ⟨q0, q1, q2⟩ := box_load (a := .int .i64 (sz : Nat)) (b := .string S) (c := .string R) y1
      have HR := Lib.hid hR
      have HS := Lib.hid hS
      have Hq := Lib.hid hq
      have F9 := Lib.hid hf
      clear y1 hR hS hf
      go_wp2_with fail
      have g0 := rg_set F9.out.rd F9.out.gr F9.out.rlt (Nat.le_refl _) 0 (.int .i64 (sz : Nat))
      have g1 := rg_set g0.1 g0.2 F9.out.rlt (Nat.le_refl _) 1 (.string S)
      have g2 := rg_set g1.1 g1.2 F9.out.rlt (Nat.le_refl _) 2 (.string R)
      obtain ⟨a, ha, han, hae⟩ := szB_st h1 (by omega) HS.out HR.out
      refine bodyPost_ret (v := stV (sz : Nat) S R) ?_ rfl ⟨⟨a, q, by rw [hae], ha, han, by have := Hq.out; omega, g2.1⟩, g2.2⟩
      simp [results, Tryz.results26, go_sem, q0, q1, q2]

end Go.Proofs.YtpaleogkgfclnaaGreatDoor

namespace Go.Proofs.YtpaleogkgfclnaaGreatDoor
open Go.RowKit
open Pl
set_option linter.unusedSimpArgs false
set_option linter.unusedVariables false

theorem ncells_new (w : World) (zs : List Int) (t : TypeId) : NCells (w.alloc (.cells (zs.map (Value.int .i64)).toArray t)) w.heap.size zs := fun i hi => by
  rw [(Bx.new w t _).cell i]
  simp [List.getD, hi]
theorem scells_new (w : World) (ss : List ByteArray) (t : TypeId) : SCells (w.alloc (.cells (ss.map Value.string).toArray t)) w.heap.size ss := fun i hi => by
  rw [(Bx.new w t _).cell i]
  simp [List.getD, hi]

/-- behind a block that is made -/
theorem Rd.alloc {w : World} {rb n cap p : Nat} {A : Option Addr} (h : Rd w rb A n cap p) (o : Obj) : Rd (w.alloc o) rb A n cap p :=
  ⟨h.box.alloc o, h.row.grown h.sep h.box.lt (World.grownBy_alloc w o _), h.small, h.sep⟩
theorem Rd.drew {w : World} {rb n cap p : Nat} {A : Option Addr} (h : Rd w rb A n cap p) : Rd w.drew rb A n cap p := ⟨h.box, h.row, h.small, h.sep⟩
theorem gr_refl (w : World) (r : Option Nat) : w.grownBy w r := ⟨rfl, rfl, rfl, Nat.le_refl _, fun _ _ _ => rfl⟩
theorem gr_alloc {w V : World} {r : Option Nat} (h : w.grownBy V r) (o : Obj) : w.grownBy (V.alloc o) r := World.grownBy.trans h (World.grownBy_alloc V o r)
theorem gr_drew {w V : World} {r : Option Nat} (h : w.grownBy V r) : w.grownBy V.drew r := ⟨h.os, h.tape, h.output, h.size, h.block⟩
theorem gr_below {w V : World} {r : Option Nat} (h : Below w.heap.size w V) : w.grownBy V r := ⟨h.os, h.tape, h.output, h.size, fun k hk _ => h.block k hk⟩
theorem Rd.call {w w' : World} {rb n cap p : Nat} {A : Option Addr} (h : Rd w rb A n cap p) (hb : Below w.heap.size w w') : Rd w' rb A n cap p :=
  ⟨h.box.call hb, h.row.grown h.sep h.box.lt (gr_below hb), h.small, h.sep⟩

/-- what is known of the memory while something is drawn: the reader, the frame -/
structure Dw (w : World) (rb : Nat) (A : Option Addr) (n cap p : Nat) (V : World) : Prop where
  rd : Rd V rb A n cap p
  gr : w.grownBy V (some rb)
  rlt : rb < w.heap.size

theorem Dw.new {w : World} {rb n cap p : Nat} {A : Option Addr} (h : Rd w rb A n cap p) : Dw w rb A n cap p w := ⟨h, gr_refl _ _, h.box.lt⟩
theorem Dw.alloc {w V : World} {rb n cap p : Nat} {A : Option Addr} (h : Dw w rb A n cap p V) (o : Obj) : Dw w rb A n cap p (V.alloc o) := ⟨h.rd.alloc o, gr_alloc h.gr o, h.rlt⟩
theorem Dw.drew {w V : World} {rb n cap p : Nat} {A : Option Addr} (h : Dw w rb A n cap p V) : Dw w rb A n cap p V.drew := ⟨h.rd.drew, gr_drew h.gr, h.rlt⟩
theorem Dw.step {w V V' : World} {rb n cap p p' : Nat} {A : Option Addr} (h : Dw w rb A n cap p V) (hr : Rd V' rb A n cap p') (hg : V.grownBy V' (some rb)) : Dw w rb A n cap p' V' := ⟨hr, World.grownBy.trans h.gr hg, h.rlt⟩
theorem Dw.call {w V V' : World} {rb n cap p : Nat} {A : Option Addr} (h : Dw w rb A n cap p V) (hb : Below V.heap.size V V') : Dw w rb A n cap p V' := ⟨h.rd.call hb, World.grownBy.trans h.gr (gr_below hb), h.rlt⟩
/-- a block of one's own is written -/
theorem Dw.put {w V : World} {rb n cap p : Nat} {A : Option Addr} (h : Dw w rb A n cap p V) {g : Nat} (hg : w.heap.size ≤ g) (i : Nat) (v : Value) : Dw w rb A n cap p (V.setCell ⟨g, i, none⟩ v) := by
  obtain ⟨h1, h2⟩ := rg_set h.rd h.gr h.rlt hg i v
  exact ⟨h1, h2, h.rlt⟩
theorem Dw.puts {w V : World} {rb n cap p : Nat} {A : Option Addr} (h : Dw w rb A n cap p V) {g : Nat} (hg : w.heap.size ≤ g) (s0 s1 s2 : Value) :
    Dw w rb A n cap p (((V.setCell ⟨g, 0, none⟩ s0).setCell ⟨g, 1, none⟩ s1).setCell ⟨g, 2, none⟩ s2) := ((h.put hg 0 s0).put hg 1 s1).put hg 2 s2
/-- a block of one's own behind a call that draws -/
theorem Bx.dw {V V' : World} {g rb : Nat} {t : TypeId} {cs : Array Value} (h : Bx V g t cs) (hg : V.grownBy V' (some rb)) (hne : rb < g) : Bx V' g t cs := h.grown' hg (by simp; omega)
theorem Bx.puts {V : World} {g : Nat} {t : TypeId} {r0 r1 r2 : Value} (h : Bx V g t #[r0, r1, r2]) (s0 s1 s2 : Value) : Bx (((V.setCell ⟨g, 0, none⟩ s0).setCell ⟨g, 1, none⟩ s1).setCell ⟨g, 2, none⟩ s2) g t #[s0, s1, s2] :=
  ((h.set 0 s0).set 1 s1).set 2 s2

/-! ### a text many times -/
theorem many_odd {x y c : Nat} (hc : c % 2 = 1) (h : x + y * c ≤ 81) : x + y + (y + y) * (c / 2) ≤ 81 ∧ y ≤ 81 ∧ x ≤ 81 := by
  obtain ⟨q, rfl⟩ : ∃ q, c = 2 * q + 1 := ⟨c / 2, by omega⟩
  have e : (2 * q + 1) / 2 = q := by omega
  rw [e]
  have e2 : y * (2 * q + 1) = y + (y + y) * q := by rw [Nat.mul_add, Nat.add_mul, Nat.mul_one, ← Nat.mul_assoc, Nat.mul_comm y 2, Nat.two_mul, Nat.add_mul, Nat.add_comm]
  rw [e2] at h
  refine ⟨by omega, by omega, by omega⟩
theorem many_even {x y c : Nat} (hc : c % 2 = 0) (h1 : 0 < c) (h : x + y * c ≤ 81) : x + (y + y) * (c / 2) ≤ 81 ∧ y ≤ 81 ∧ x ≤ 81 := by
  obtain ⟨q, rfl⟩ : ∃ q, c = 2 * q := ⟨c / 2, by omega⟩
  have e : (2 * q) / 2 = q := by omega
  rw [e]
  have e2 : y * (2 * q) = (y + y) * q := by rw [← Nat.mul_assoc, Nat.mul_comm y 2, Nat.two_mul]
  rw [e2] at h
  have h2 : (y + y) * 1 ≤ (y + y) * q := Nat.mul_le_mul_left _ (by omega)
  refine ⟨by omega, by omega, by omega⟩

set_option maxHeartbeats 1000000 in
theorem l15Many_calls (s : ByteArray) (n : Nat) (w : World) (h : s.size * n ≤ 81) (hn : n ≤ 81) :
    Calls Tryz.prog 52 #[.string s, .int .i64 (n : Nat)] w fun e w' => (∃ t : ByteArray, e = .returned (.string t) ∧ t.size ≤ 81) ∧ w = w' := by
  have H := Lib.hid h
  clear h
  go_enter Tryz.func52, Tryz.ntmps52
  go_wp2_with fail
  go_loopg [0, 1, 5] n (fun c' s' n' o wr => ∃ (c : Nat) (S O : ByteArray), c = c' ∧ s' = .string S ∧ n' = .int .i64 (c : Nat) ∧ o = .string O ∧ O.size + S.size * c ≤ 81 ∧ c ≤ 81 ∧ w = wr)
  case atStart => exact ⟨n, _, bs [], rfl, rfl, rfl, rfl, by have := H.out; have h0 : (bs []).size = 0 := rfl; omega, hn, rfl⟩
  case round =>
    obtain ⟨c, S, O, rfl, rfl, rfl, rfl, hO, hc, rfl⟩ := hrel
    by_cases h0 : 0 < c
    · have hi : (0 : Int) < (c : Int) := by omega
      have hi2 : (c : Int) ≤ 81 := by omega
      have hdiv : (c : Int) / 2 = ((c / 2 : Nat) : Int) := rfl
      by_cases hp : c % 2 = 1
      · obtain ⟨h1, h2, h3⟩ := many_odd hp hO
        have hpi : (c : Int) % 2 = 1 := by omega
        have hpb : ((c : Int) % 2 == 1) = true := by rw [hpi]; rfl
        have H1 := Lib.hid h1
        have Hd := Lib.hid hdiv
        clear hO h1 hdiv hp hpi
        go_wp2_with fail
        go_roundg (c / 2)
        case rel => exact ⟨_, _, _, rfl, rfl, (by first | rfl | rw [← Hd.out]), rfl, by rw [ByteArray.size_append, ByteArray.size_append]; exact H1.out, by omega, rfl⟩
        case measure => omega
      · have hp0 : c % 2 = 0 := by omega
        obtain ⟨h1, h2, h3⟩ := many_even hp0 h0 hO
        have hpb : ((c : Int) % 2 == 1) = false := by
          have : (c : Int) % 2 = 0 := by omega
          rw [this]; rfl
        have hpi : ¬ (c : Int) % 2 = 1 := by omega
        have H1 := Lib.hid h1
        have Hd := Lib.hid hdiv
        clear hO h1 hdiv hp hp0
        go_wp2_with fail
        go_roundg (c / 2)
        case rel => exact ⟨_, _, _, rfl, rfl, (by first | rfl | rw [← Hd.out]), rfl, by rw [ByteArray.size_append]; exact H1.out, by omega, rfl⟩
        case measure => omega
    · obtain rfl : c = 0 := by omega
      have hO2 : O.size ≤ 81 := by simpa using hO
      have HO := Lib.hid hO2
      clear hO hO2
      go_wp2_with fail
      go_ret
      exact ⟨⟨_, rfl, HO.out⟩, rfl⟩

/-! ### a small structure -/
def SomeS (rb : Nat) (A : Option Addr) (n cap p : Nat) (e : Ending) (w' : World) : Prop := ∃ (a : St) (p' : Nat), e = .returned (stA a) ∧ a.ok ∧ a.n ≤ 5 ∧ p' ≤ p + 101 ∧ Rd w' rb A n cap p'

set_option maxHeartbeats 1000000 in
theorem l1Some_calls (rb : Nat) (A : Option Addr) (n cap p : Nat) (w : World) (h : Rd w rb A n cap p) (hp : p ≤ 549755800000) :
    Calls Tryz.prog 49 #[.pointer (some ⟨rb, 0, none⟩)] w fun e w' => SomeS rb A n cap p e w' ∧ w.grownBy w' (some rb) := by
  have hnum : ∀ (g : Nat) (W : World), NCells W g [3, 4, 2, 1, 5, 3] → g ≠ rb → Rd W rb A n cap p → Calls Tryz.prog 50 #[.pointer (some ⟨rb, 0, none⟩), .slice (some ⟨g, 0, none⟩) 6 6] W fun e w' => (∃ k : Nat, e = .returned (.int .i64 k) ∧ 1 ≤ k ∧ k ≤ 5) ∧ Rd w' rb A n cap (p + 1) ∧ W.grownBy w' (some rb) :=
    fun g W h1 h2 h3 => (num_calls rb A n cap p g 6 [3, 4, 2, 1, 5, 3] W h3 (by omega) (by simp) (by simp) h1 h2).mono fun e w' ⟨⟨m, h4, h5⟩, h6⟩ => by
      simp only [List.mem_cons, List.not_mem_nil, or_false] at h5
      exact ⟨⟨m.toNat, by rw [h4]; congr 2; omega, by omega, by omega⟩, h6⟩
  have hdr : ∀ (k : Nat) (W : World), 1 ≤ k → k ≤ 5 → Rd W rb A n cap (p + 1) → Calls Tryz.prog 26 #[.pointer (some ⟨rb, 0, none⟩), .int .i64 (k : Nat)] W fun e w' => DrawS rb A n cap (p + 1) k e w' ∧ W.grownBy w' (some rb) :=
    fun k W h1 h2 h3 => l1Draw_calls rb A n cap (p + 1) k W h3 (by omega) h1 h2
  have D0 := Lib.hid (((Dw.new h).alloc (.cells #[.int .i64 0, .string (bs []), .string (bs [])] 24)).alloc (.cells #[.int .i64 3, .int .i64 4, .int .i64 2, .int .i64 1, .int .i64 5, .int .i64 3] 3))
  have X0 := Lib.hid ((Bx.new w 24 #[.int .i64 0, .string (bs []), .string (bs [])]).alloc (.cells #[.int .i64 3, .int .i64 4, .int .i64 2, .int .i64 1, .int .i64 5, .int .i64 3] 3))
  have N0 := Lib.hid (ncells_new (w.alloc (.cells #[.int .i64 0, .string (bs []), .string (bs [])] 24)) [3, 4, 2, 1, 5, 3] 3)
  have Hnum := Lib.hid hnum
  have Hdr := Lib.hid hdr
  have hrl := h.box.lt
  clear hnum hdr h
  go_enter Tryz.func49, Tryz.ntmps49
  go_wp2_with fail
  refine (Hnum.out _ _ (by have := N0.out; simpa using this) (by omega) D0.out.rd).mono ?_
  rintro e w1 ⟨⟨k, rfl, hk1, hk5⟩, hr, hg⟩
  have D1 := Lib.hid (D0.out.step hr hg)
  have X1 := Lib.hid (X0.out.dw hg hrl)
  clear hr hg
  go_wp2_with fail
  refine (Hdr.out k _ hk1 hk5 D1.out.rd).mono ?_
  rintro e w2 ⟨⟨a, p', rfl, ha, han, hp', hr⟩, hg⟩
  have D2 := Lib.hid (D1.out.step hr hg)
  have hax := X1.out.dw hg hrl
  obtain ⟨c0, c1, c2⟩ := box_load hax
  have f0 := hax.free 0
  have f1 := hax.free 1
  have f2 := hax.free 2
  have D3 := Lib.hid (D2.out.puts (Nat.le_refl _) (.int .i64 (a.n : Int)) (.string (bs a.set)) (.string (bs a.rel)))
  obtain ⟨q0, q1, q2⟩ := box_load (hax.puts (.int .i64 (a.n : Int)) (.string (bs a.set)) (.string (bs a.rel)))
  have hn5 : a.n ≤ 5 := by omega
  clear hr hg hax han
  go_wp2_with fail
  refine bodyPost_ret (v := stA a) ?_ rfl ⟨⟨a, p', rfl, ha, hn5, by omega, D3.out.rd⟩, D3.out.gr⟩
  simp [results, Tryz.results49, go_sem, q0, q1, q2]

end Go.Proofs.YtpaleogkgfclnaaGreatDoor

namespace Go.Proofs.YtpaleogkgfclnaaGreatDoor
namespace R2
open Go.RowKit
set_option linter.unusedVariables false

section
variable {P : Program} {ops : Array Oper} {Q : Exit → Act → World → Prop} {md : Region.Mode} {S : World → Prop} {L : Nat}

/-- whatever order: what the loads ask holds behind each operation but number L -/
def AnyT (P : Program) (md : Region.Mode) (ops : Array Oper) (Q : Exit → Act → World → Prop) (S : World → Prop) (L : Nat) : Nat → Array Bool → Act → World → Prop
  | 0, listed, a, w => Region.ready md ops listed = [] ∧ Q .normal a w
  | n + 1, listed, a, w => (Region.ready md ops listed = [] → Q .normal a w) ∧
      ∀ i ∈ Region.ready md ops listed, wpOp P ops Q i (fun a' w' => (i ≠ L → S w') ∧ AnyT P md ops Q S L n (listed.setIfInBounds i true) a' w') a w

theorem AnyT.any : ∀ (n : Nat) (listed : Array Bool) (a : Act) (w : World), AnyT P md ops Q S L n listed a w → wpAny P md ops Q n listed a w := by
  intro n
  induction n with
  | zero => exact fun _ _ _ h => h
  | succ n ih =>
    intro listed a w h
    exact ⟨h.1, fun i hi => wpOp_mono (fun a' w' h' => ih _ a' w' h'.2) (h.2 i hi)⟩

/-- number L waits for number i -/
def waits (md : Region.Mode) (ops : Array Oper) (L i : Nat) : Bool := match ops[L]? with | some o => o.after.any fun e => Region.binds md e && e.on == i | none => false

theorem not_unlisted {listed : Array Bool} {i : Nat} (hiu : listed.getD i true = false) (h : listed.getD i false = true) : False := by
  rcases Nat.lt_or_ge i listed.size with h' | h'
  · simp [h'] at hiu h; rw [hiu] at h; cases h
  · simp [Array.getElem?_eq_none h'] at hiu

theorem waits_not {listed : Array Bool} {i : Nat} (hw : waits md ops L i = true) (hiu : listed.getD i true = false) : L ∉ Region.ready md ops listed := fun hr => by
  obtain ⟨_, o, ho, hall⟩ := mem_ready.1 hr
  unfold waits at hw
  rw [ho] at hw
  simp only [Array.any_eq_true', Bool.and_eq_true, beq_iff_eq] at hw
  obtain ⟨e, he, hb, rfl⟩ := hw
  exact not_unlisted hiu (by simpa using hall e he hb)

/-- an operation that yields under S, and for which number L waits, may be taken first -/
theorem AnyT.first {i : Nat} {oi : Oper} {v : Value} (hi : ops[i]? = some oi) (hwt : waits md ops L i = true) (hsel : ∀ (j : Nat) (o : Oper) cs b, ops[j]? = some o → o.op ≠ .select cs b)
    (hQ : ∀ c a w, Q (.panic c) (a.put oi.dst v) w → Q (.panic c) a w) : ∀ (n : Nat) (listed : Array Bool) (a : Act) (w : World),
      (∀ j oj, ops[j]? = some oj → j ≠ i → listed.getD j true = false → (∀ e ∈ oj.after, Region.binds md e = true → e.on ≠ i) → oi.apart ops oj = true) →
      i ∈ Region.ready md ops listed → YieldsIf P ops S oi v a → S w → AnyT P md ops Q S L n (listed.setIfInBounds i true) (a.put oi.dst v) w → AnyT P md ops Q S L (n + 1) listed a w := by
  intro n
  induction n with
  | zero =>
    intro listed a w _ hr hy hS H
    refine ⟨fun h => absurd hr (by simp [h]), fun j hj => ?_⟩
    by_cases hne : j = i
    · subst hne
      exact hy.wpOp hi hS ⟨fun _ => hS, H⟩
    · have h0 := ready_mono hj hne
      rw [H.1] at h0
      cases h0
  | succ n ih =>
    intro listed a w hfree hr hy hS H
    refine ⟨fun h => absurd hr (by simp [h]), fun j hj => ?_⟩
    by_cases hne : j = i
    · subst hne
      exact hy.wpOp hi hS ⟨fun _ => hS, H⟩
    · obtain ⟨hju, oj, hoj, hall⟩ := mem_ready.1 hj
      have hiu := (mem_ready.1 hr).1
      have hjL : j ≠ L := fun e => waits_not hwt hiu (e ▸ hj)
      have hno : ∀ e ∈ oj.after, Region.binds md e = true → e.on ≠ i := fun e he hb heq => not_unlisted hiu (by have := hall e he hb; rw [heq] at this; simpa using this)
      have h2 := wpOp_putIf hoj (hfree j oj hoj hne hju hno) (fun cs b => hsel i oi cs b hi) (fun cs b => hsel j oj cs b hoj) hQ hy (H.2 j (ready_mono hj hne))
      refine wpOp_mono (fun a' w' h3 => ⟨fun _ => h3.2.1 hjL, ih _ a' w' (fun k ok hk hki hun hnk => hfree k ok hk hki ?_ hnk) (ready_mono hr (Ne.symm hne)) h3.1 (h3.2.1 hjL) ?_⟩) h2
      · by_cases hjk : j = k
        · subst hjk; exact hju
        · rwa [getD_set_ne true hjk] at hun
      · rw [Array.setIfInBounds_comm _ _ hne]
        exact h3.2.2

/-- the order laid -/
def okT (md : Region.Mode) (ops : Array Oper) (L : Nat) : List (Nat × Bool) → Array Bool → Bool
  | [], listed => (Region.ready md ops listed).isEmpty
  | (i, true) :: is, listed => waits md ops L i && (Region.free md ops listed i && ((Region.ready md ops listed).contains i && okT md ops L is (listed.setIfInBounds i true)))
  | (i, false) :: is, listed => (Region.ready md ops listed == [i]) && ((is.isEmpty || i != L) && okT md ops L is (listed.setIfInBounds i true))

def wpT (P : Program) (ops : Array Oper) (Q : Exit → Act → World → Prop) (S : World → Prop) : List (Nat × Bool) → Act → World → Prop
  | [], a, w => Q .normal a w
  | (i, true) :: is, a, w => ∃ o v, ops[i]? = some o ∧ YieldsIf P ops S o v a ∧ wpT P ops Q S is (a.put o.dst v) w
  | (i, false) :: is, a, w => wpOp P ops Q i (fun a' w' => (is.isEmpty = true ∨ S w') ∧ wpT P ops Q S is a' w') a w

theorem anyT_of (hs : Region.noSelect ops = true) (hQ : ∀ t c a w, Q (.panic c) { a with tmps := t } w → Q (.panic c) a w) :
    ∀ (is : List (Nat × Bool)) (listed : Array Bool) (a : Act) (w : World), okT md ops L is listed = true → (is.isEmpty = true ∨ S w) → (∀ p ∈ is.getLast?, p = (L, false)) → wpT P ops Q S is a w → AnyT P md ops Q S L is.length listed a w := by
  intro is
  induction is with
  | nil => intro listed a w h _ _ hw; exact ⟨by simpa [okT] using h, hw⟩
  | cons p is ih =>
    obtain ⟨i, b⟩ := p
    intro listed a w h hS hl hw
    have hSw : S w := hS.resolve_left (by simp)
    have hl2 : ∀ p ∈ is.getLast?, p = (L, false) := fun p hp => hl p (by
      cases is with
      | nil => simp at hp
      | cons q t => simpa [List.getLast?_cons_cons] using hp)
    cases b with
    | true =>
      simp only [okT, Bool.and_eq_true] at h
      obtain ⟨o, v, ho, hy, hr⟩ := hw
      refine AnyT.first ho h.1 (Region.noSelect_spec hs) (fun c a w h => by cases hd : o.dst with | none => rw [hd] at h; exact h | some d => rw [hd] at h; exact hQ _ c a w h) _ _ _ _ (Region.free_spec ho h.2.1) (by simpa using h.2.2.1) hy hSw (ih _ _ _ h.2.2.2 (.inr hSw) hl2 hr)
    | false =>
      simp only [okT, Bool.and_eq_true, beq_iff_eq] at h
      obtain ⟨h1, h2, h3⟩ := h
      refine ⟨fun h0 => absurd (h1 ▸ h0) (by simp), fun j hj => ?_⟩
      obtain rfl : j = i := by rw [h1] at hj; simpa using hj
      refine wpOp_mono (fun a' w' hk => ⟨fun hne => ?_, ih _ _ _ h3 hk.1 hl2 hk.2⟩) hw
      rcases hk.1 with he | hSw'
      · rw [List.isEmpty_iff] at he
        subst he
        have := hl (j, false) (by simp)
        exact absurd (Prod.mk.inj this).1 hne
      · exact hSw'

/-- the same, behind a name that nothing unfolds -/
structure Sd (P : Program) (ops : Array Oper) (Q : Exit → Act → World → Prop) (S : World → Prop) (is : List (Nat × Bool)) (a : Act) (w : World) : Prop where
  out : wpT P ops Q S is a w

/-- a region that draws, by an order that is laid; number L, the last one, may break what the loads ask -/
theorem region_sched {id : Nat} {a : Act} {w : World} (is : List (Nat × Bool)) (L : Nat) (S : World → Prop) (hm : P.follows .mixedOrders = true) (hs : Region.noSelect ops = true) (hl : is.length = ops.size)
    (hk : okT .any ops L is (Array.replicate ops.size false) = true) (hlast : is.getLast? = some (L, false)) (hQ : ∀ t c a w, Q (.panic c) { a with tmps := t } w → Q (.panic c) a w) (hS : S w.drew)
    (h : ∀ Q' : Exit → Act → World → Prop, Hid (∀ a' w', Q .normal a' w' → Q' .normal a' w') → Sd P ops Q' S is a w.drew) : (Code.region id ops true).wp P Q a w := by
  refine wp_region_any hm ?_
  have h2 := anyT_of (md := .any) (S := S) (L := L) hs hQ is (Array.replicate ops.size false) a w.drew hk (.inr hS) (fun p hp => by rw [hlast] at hp; exact (Option.some.inj hp).symm) (h Q (Lib.hid fun _ _ h => h)).out
  rw [hl] at h2
  exact AnyT.any _ _ _ _ h2

theorem sched_call {i : Nat} {is : List (Nat × Bool)} {a : Act} {w : World} {o : Oper} (ho : ops[i]? = some o) (hw : Region.wanted o (yielded ops a.tmps) = true)
    (h : ∀ K : Act → World → Prop, Hid (∀ a' w', S w' → Sd P ops Q S is a' w' → K a' w') → o.wp P a w K Q) : Sd P ops Q S ((i, false) :: is) a w := by
  refine ⟨?_⟩
  show wpOp P ops Q i _ a w
  unfold wpOp
  simp only [ho, hw, if_true]
  exact .inl (h _ (Lib.hid fun _ _ h1 h2 => ⟨.inr h1, h2.out⟩))
theorem sched_last {i : Nat} {a : Act} {w : World} {o : Oper} (ho : ops[i]? = some o) (hw : Region.wanted o (yielded ops a.tmps) = true)
    (h : ∀ K : Act → World → Prop, Hid (∀ a' w', Sd P ops Q S [] a' w' → K a' w') → o.wp P a w K Q) : Sd P ops Q S [(i, false)] a w := by
  refine ⟨?_⟩
  show wpOp P ops Q i _ a w
  unfold wpOp
  simp only [ho, hw, if_true]
  exact .inl (h _ (Lib.hid fun _ _ h2 => ⟨.inl rfl, h2.out⟩))
theorem sched_take' {i : Nat} {is : List (Nat × Bool)} {a : Act} {w : World} {o : Oper} {v : Value} {a' : Act} (ho : ops[i]? = some o) (hw : Region.wanted o (yielded ops a.tmps) = true) (hy : ∀ w, S w → (execOp a.eval o).run P w = .ok (.value v) w)
    {d : Tmp} (hd : o.dst = some d) (ha : a.put (some d) v = a') (h : Sd P ops Q S is a' w) : Sd P ops Q S ((i, true) :: is) a w := ⟨⟨o, v, ho, .inl ⟨hw, hy⟩, by rw [hd, ha]; exact h.out⟩⟩
theorem sched_lay {is : List (Nat × Bool)} {a a' : Act} {w : World} (ha : a = a') (h : Sd P ops Q S is a' w) : Sd P ops Q S is a w := by rw [ha]; exact h
theorem sched_done {a : Act} {w : World} (h : Q .normal a w) : Sd P ops Q S [] a w := ⟨h⟩
end
end R2
end Go.Proofs.YtpaleogkgfclnaaGreatDoor

namespace Go.Proofs.YtpaleogkgfclnaaGreatDoor
open Go.RowKit
open Pl
set_option linter.unusedSimpArgs false
set_option linter.unusedVariables false

/-- a number that a machine holds -/
def IOk (i : Int) : Prop := (Lit.int .i64 i).wf = true
theorem iok_of {i : Int} (h0 : -1000 ≤ i) (h1 : i ≤ 1000) : IOk i := by
  have h2 : IntKind.i64.min = -9223372036854775808 := by decide
  have h3 : IntKind.i64.max = 9223372036854775807 := by decide
  show (decide (IntKind.i64.min ≤ i) && decide (i ≤ IntKind.i64.max)) = true
  rw [h2, h3]
  simp
  omega

/-- a drawn structure, perhaps not valid -/
def BadS (rb : Nat) (A : Option Addr) (n cap p : Nat) (an : Int) (e : Ending) (w' : World) : Prop := ∃ (i : Int) (s r : ByteArray) (p' : Nat), e = .returned (stV i s r) ∧ IOk i ∧ s.size ≤ 100 ∧ r.size ≤ 100 ∧ p' ≤ p + 300 ∧ Rd w' rb A n cap p' ∧ (i = an ∨ i ≤ 0 ∨ an < i)
/-- a drawn number -/
def ElS (rb : Nat) (A : Option Addr) (n cap p : Nat) (e : Ending) (w' : World) : Prop := ∃ (x : Int) (p' : Nat), e = .returned (.int .i64 x) ∧ IOk x ∧ p' ≤ p + 2 ∧ Rd w' rb A n cap p'

set_option maxRecDepth 100000 in
theorem el_list {m : Int} (h : m ∈ [-1, 8, 7, 9223372036854775807]) : IOk m := by
  simp only [List.mem_cons, List.not_mem_nil, or_false] at h
  rcases h with rfl | rfl | rfl | rfl <;> (unfold IOk; decide)
set_option maxRecDepth 100000 in
theorem bad_list {m k : Int} (hk : IOk k) (h : m ∈ [0, -1, k, 9, 9223372036854775807]) : IOk m := by
  simp only [List.mem_cons, List.not_mem_nil, or_false] at h
  rcases h with rfl | rfl | rfl | rfl | rfl
  · unfold IOk; decide
  · unfold IOk; decide
  · exact hk
  · unfold IOk; decide
  · unfold IOk; decide

theorem bad_far {m : Int} {k : Nat} (hk : k ≤ 5) (h : m ∈ [0, -1, (k : Int) + 1, 9, 9223372036854775807]) : m ≤ 0 ∨ (k : Int) < m := by
  simp only [List.mem_cons, List.not_mem_nil, or_false] at h
  rcases h with rfl | rfl | rfl | rfl | rfl
  · exact .inl (by omega)
  · exact .inl (by omega)
  · exact .inr (by omega)
  · exact .inr (by omega)
  · exact .inr (by omega)

set_option maxHeartbeats 1000000 in
theorem l1Element_calls (rb : Nat) (A : Option Addr) (n cap p : Nat) (w : World) (h : Rd w rb A n cap p) (hp : p ≤ 549755800000) :
    Calls Tryz.prog 41 #[.pointer (some ⟨rb, 0, none⟩)] w fun e w' => ElS rb A n cap p e w' ∧ w.grownBy w' (some rb) := by
  have hpk : ∀ (k : Int) (q : Nat) (V : World), k ≤ 100 → q ≤ p + 200 → Rd V rb A n cap q → Calls Tryz.prog 23 #[.pointer (some ⟨rb, 0, none⟩), .int .i64 k] V fun e w' => PickP k e ∧ Rd w' rb A n cap (q + 1) ∧ V.grownBy w' (some rb) := fun k q V hk hq hr => pick_calls rb A n cap q k V hr (by omega) (by omega)
  have hnum : ∀ (g : Nat) (W : World), NCells W g [-1, 8, 7, 9223372036854775807] → g ≠ rb → Rd W rb A n cap (p + 1) → Calls Tryz.prog 50 #[.pointer (some ⟨rb, 0, none⟩), .slice (some ⟨g, 0, none⟩) 4 4] W fun e w' => (∃ k : Int, e = .returned (.int .i64 k) ∧ IOk k) ∧ Rd w' rb A n cap (p + 1 + 1) ∧ W.grownBy w' (some rb) :=
    fun g W h1 h2 h3 => (num_calls rb A n cap (p + 1) g 4 [-1, 8, 7, 9223372036854775807] W h3 (by omega) (by simp) (by simp) h1 h2).mono fun e w' ⟨⟨m, h4, h5⟩, h6⟩ => ⟨⟨m, h4, el_list h5⟩, h6⟩
  have D0 := Lib.hid (Dw.new h)
  have Hnum := Lib.hid hnum
  have Hpk := Lib.hid hpk
  have hrl := h.box.lt
  clear hnum hpk h
  go_enter Tryz.func41, Tryz.ntmps41
  go_wp2_with fail
  refine (Hpk.out 20 p _ (by omega) (by omega) D0.out.rd).mono ?_
  rintro e w1 ⟨⟨m, rfl, hm0, hm1, _⟩, hr, hg⟩
  have D1 := Lib.hid (D0.out.step hr hg)
  have hs1 := hg.size
  clear hr hg hm1
  by_cases h0 : m = 0
  · subst h0
    have D2 := Lib.hid (D1.out.alloc (.cells #[.int .i64 (-1), .int .i64 8, .int .i64 7, .int .i64 9223372036854775807] 3))
    have N2 := Lib.hid (ncells_new w1 [-1, 8, 7, 9223372036854775807] 3)
    go_wp2_with fail
    refine (Hnum.out _ _ (by have := N2.out; simpa using this) (by omega) D2.out.rd).mono ?_
    rintro e w2 ⟨⟨k, rfl, hk⟩, hr, hg⟩
    have D3 := Lib.hid (D2.out.step hr hg)
    have HK := Lib.hid hk
    clear hr hg hk
    go_wp2_with fail
    go_ret
    exact ⟨⟨k, p + 1 + 1, rfl, HK.out, by omega, D3.out.rd⟩, D3.out.gr⟩
  · have hb : (m == 0) = false := by simp; omega
    go_wp2_with fail
    refine (Hpk.out 4 (p + 1) _ (by omega) (by omega) D1.out.rd).mono ?_
    rintro e w2 ⟨⟨k, rfl, hk0, hk1, _⟩, hr, hg⟩
    have hk4 := hk1 (by omega)
    have D3 := Lib.hid (D1.out.step hr hg)
    clear hr hg hk1
    go_wp2_with fail
    go_ret
    exact ⟨⟨k, p + 1 + 1, rfl, iok_of (by omega) (by omega), by omega, D3.out.rd⟩, D3.out.gr⟩

set_option maxHeartbeats 2000000 in
set_option maxRecDepth 100000 in
theorem l1Bad_calls (rb : Nat) (A : Option Addr) (n cap p : Nat) (a : St) (ha : a.ok) (han : a.n ≤ 5) (w : World) (h : Rd w rb A n cap p) (hp : p ≤ 549755800000) :
    Calls Tryz.prog 25 #[.pointer (some ⟨rb, 0, none⟩), stA a] w fun e w' => BadS rb A n cap p (a.n : Int) e w' ∧ w.grownBy w' (some rb) := by
  have hpk : ∀ (k : Int) (q : Nat) (V : World), k ≤ 100 → q ≤ p + 200 → Rd V rb A n cap q → Calls Tryz.prog 23 #[.pointer (some ⟨rb, 0, none⟩), .int .i64 k] V fun e w' => PickP k e ∧ Rd w' rb A n cap (q + 1) ∧ V.grownBy w' (some rb) := fun k q V hk hq hr => pick_calls rb A n cap q k V hr (by omega) (by omega)
  have hnum : ∀ (g : Nat) (W : World), NCells W g [0, -1, (a.n : Int) + 1, 9, 9223372036854775807] → g ≠ rb → Rd W rb A n cap (p + 1) → Calls Tryz.prog 50 #[.pointer (some ⟨rb, 0, none⟩), .slice (some ⟨g, 0, none⟩) 5 5] W fun e w' => (∃ k : Int, e = .returned (.int .i64 k) ∧ IOk k ∧ (k ≤ 0 ∨ (a.n : Int) < k)) ∧ Rd w' rb A n cap (p + 1 + 1) ∧ W.grownBy w' (some rb) :=
    fun g W h1 h2 h3 => (num_calls rb A n cap (p + 1) g 5 [0, -1, (a.n : Int) + 1, 9, 9223372036854775807] W h3 (by omega) (by simp) (by simp) h1 h2).mono fun e w' ⟨⟨m, h4, h5⟩, h6⟩ => ⟨⟨m, h4, bad_list (iok_of (by omega) (by omega)) h5, bad_far han h5⟩, h6⟩
  have hof : ∀ (g : Nat) (W : World), SCells W g [bs [], bs [50], bs [48, 49]] → g ≠ rb → Rd W rb A n cap (p + 1) → Calls Tryz.prog 51 #[.pointer (some ⟨rb, 0, none⟩), .slice (some ⟨g, 0, none⟩) 3 3] W fun e w' => (∃ t : ByteArray, e = .returned (.string t) ∧ t.size ≤ 2) ∧ Rd w' rb A n cap (p + 1 + 1) ∧ W.grownBy w' (some rb) :=
    fun g W h1 h2 h3 => (of_calls rb A n cap (p + 1) g 3 [bs [], bs [50], bs [48, 49]] W h3 (by omega) (by simp) (by simp) h1 h2).mono fun e w' ⟨⟨m, h4, h5⟩, h6⟩ => ⟨⟨m, h4, by
      simp only [List.mem_cons, List.not_mem_nil, or_false] at h5
      rcases h5 with rfl | rfl | rfl <;> decide⟩, h6⟩
  have hm1 : ∀ W, Calls Tryz.prog 52 #[.string (bs [48]), .int .i64 9] W fun e w' => (∃ t : ByteArray, e = .returned (.string t) ∧ t.size ≤ 81) ∧ W = w' := fun W => l15Many_calls (bs [48]) 9 W (by decide) (by omega)
  have hm2 : ∀ W, Calls Tryz.prog 52 #[.string (bs [49]), .int .i64 81] W fun e w' => (∃ t : ByteArray, e = .returned (.string t) ∧ t.size ≤ 81) ∧ W = w' := fun W => l15Many_calls (bs [49]) 81 W (by decide) (by omega)
  have hss : (bs a.set).size ≤ 5 ∧ (bs a.rel).size ≤ 25 ∧ 0 < (bs a.rel).size := by
    have h1 := ha.sl; have h2 := ha.rl; have h3 := ha.lo
    have h4 : a.n * a.n ≤ 5 * 5 := Nat.mul_le_mul han han
    have h5 : 1 * 1 ≤ a.n * a.n := Nat.mul_le_mul h3 h3
    rw [bs_size, bs_size]
    omega
  obtain ⟨hs5, hr5, hr0⟩ := hss
  have hn1 := ha.lo
  have D0 := Lib.hid (((Dw.new h).alloc (.cells #[.int .i64 (a.n : Int), .string (bs a.set), .string (bs a.rel)] 24)).alloc (.cells #[.int .i64 0, .string (bs []), .string (bs [])] 24))
  have X0 := Lib.hid ((Bx.new w 24 #[.int .i64 (a.n : Int), .string (bs a.set), .string (bs a.rel)]).alloc (.cells #[.int .i64 0, .string (bs []), .string (bs [])] 24))
  have Y0 := Lib.hid (bx_two w (.cells #[.int .i64 (a.n : Int), .string (bs a.set), .string (bs a.rel)] 24) #[.int .i64 0, .string (bs []), .string (bs [])] (t := 24))
  have hb : ∀ (i : Int) (s r : ByteArray) (q : Nat) (V : World), IOk i → (i = (a.n : Int) ∨ i ≤ 0 ∨ (a.n : Int) < i) → s.size ≤ 100 → r.size ≤ 100 → q ≤ p + 300 → Dw w rb A n cap q V → BadS rb A n cap p (a.n : Int) (.returned (stV i s r)) V ∧ w.grownBy V (some rb) := fun i s r q V h1 h0 h2 h3 h4 h5 => ⟨⟨i, s, r, q, rfl, h1, h2, h3, h4, h5.rd, h0⟩, h5.gr⟩
  have HB := Lib.hid hb
  have Hnum := Lib.hid hnum
  have Hpk := Lib.hid hpk
  have Hof := Lib.hid hof
  have Hm1 := Lib.hid hm1
  have Hm2 := Lib.hid hm2
  have hrl := h.box.lt
  clear hnum hpk hof hm1 hm2 h ha hb
  generalize hS : bs a.set = S at *
  generalize hR : bs a.rel = R at *
  have hni : (1 : Int) ≤ (a.n : Int) := by omega
  have hni5 : (a.n : Int) ≤ 5 := by omega
  show Calls Tryz.prog 25 #[.pointer (some ⟨rb, 0, none⟩), stV (a.n : Int) (bs a.set) (bs a.rel)] w _
  rw [hS, hR]
  clear hS hR
  go_enter Tryz.func25, Tryz.ntmps25
  go_wp2_with fail
  refine (Hpk.out 40 p _ (by omega) (by omega) D0.out.rd).mono ?_
  rintro e w1 ⟨⟨m, rfl, hm0, hm1, _⟩, hr, hg⟩
  have D1 := Lib.hid (D0.out.step hr hg)
  have X1 := Lib.hid (X0.out.dw hg hrl)
  have Y1 := Lib.hid (Y0.out.dw hg (by omega))
  have hs1 : w.heap.size + 2 ≤ w1.heap.size := by have := hg.size; simpa using this
  obtain ⟨c0, c1, c2⟩ := box_load X1.out
  have e0 := X1.out.free 0
  have e1 := X1.out.free 1
  have e2 := X1.out.free 2
  obtain ⟨d0, d1, d2⟩ := box_load Y1.out
  have f0 := Y1.out.free 0
  have f1 := Y1.out.free 1
  have f2 := Y1.out.free 2
  clear hr hg hm1
  have tl : ∀ (V : World) (i : Int) (s r : ByteArray) (q : Nat), Bx V w.heap.size 24 #[.int .i64 i, .string s, .string r] → Bx V (w.heap.size + 1) 24 #[.int .i64 0, .string (bs []), .string (bs [])] → Dw w rb A n cap q V → True := fun _ _ _ _ _ _ _ _ => trivial
  clear tl
  by_cases h0 : m = 0
  · subst h0
    have D2 := Lib.hid (D1.out.alloc (.cells #[.int .i64 0, .int .i64 (-1), .int .i64 ((a.n : Int) + 1), .int .i64 9, .int .i64 9223372036854775807] 3))
    have X2 := Lib.hid (X1.out.alloc (.cells #[.int .i64 0, .int .i64 (-1), .int .i64 ((a.n : Int) + 1), .int .i64 9, .int .i64 9223372036854775807] 3))
    have Y2 := Lib.hid (Y1.out.alloc (.cells #[.int .i64 0, .int .i64 (-1), .int .i64 ((a.n : Int) + 1), .int .i64 9, .int .i64 9223372036854775807] 3))
    have N2 := Lib.hid (ncells_new w1 [0, -1, (a.n : Int) + 1, 9, 9223372036854775807] 3)
    clear d0 d1 d2 f0 f1 f2
    go_wp2_with fail
    refine (Hnum.out _ _ (by have := N2.out; simpa using this) (by omega) D2.out.rd).mono ?_
    clear c0 c1 c2 e0 e1 e2
    rintro e w2 ⟨⟨k, rfl, hk, hkf⟩, hr, hg⟩
    have HKF := Lib.hid hkf
    clear hkf
    have D3 := Lib.hid (((D2.out.step hr hg).put (Nat.le_refl _) 0 (.int .i64 k)).puts (Nat.le_succ _) (.int .i64 k) (.string S) (.string R))
    have x3 := X2.out.dw hg hrl
    have y3 := Y2.out.dw hg (by omega)
    obtain ⟨c0, c1, c2⟩ := box_load x3
    have e0 := x3.free 0
    obtain ⟨d0, d1, d2⟩ := box_load y3
    have f0 := y3.free 0
    have f1 := y3.free 1
    have f2 := y3.free 2
    obtain ⟨q0, q1, q2⟩ := box_load ((y3.far (p := ⟨w.heap.size, 0, none⟩) (by simp) (.int .i64 k)).puts (.int .i64 k) (.string S) (.string R))
    have HK := Lib.hid hk
    clear hr hg hk x3 y3
    go_wp2_with fail
    refine bodyPost_ret (v := stV k S R) ?_ rfl (HB.out _ _ _ _ _ HK.out (.inr HKF.out) (by omega) (by omega) (by omega) D3.out)
    simp [results, Tryz.results25, go_sem, q0, q1, q2]
  by_cases h1 : m = 1
  · subst h1
    have D2 := Lib.hid ((D1.out.put (Nat.le_refl _) 1 (.string (S ++ ⟨#[48]⟩))).puts (Nat.le_succ _) (.int .i64 (a.n : Int)) (.string (S ++ ⟨#[48]⟩)) (.string R))
    obtain ⟨q0, q1, q2⟩ := box_load ((Y1.out.far (p := ⟨w.heap.size, 1, none⟩) (by simp) (.string (S ++ ⟨#[48]⟩))).puts (.int .i64 (a.n : Int)) (.string (S ++ ⟨#[48]⟩)) (.string R))
    have hz : (S ++ ⟨#[48]⟩).size ≤ 6 := by rw [ByteArray.size_append]; have : (ByteArray.mk #[48]).size = 1 := rfl; omega
    have Hz := Lib.hid hz
    clear hz
    go_wp2_with fail
    refine bodyPost_ret (v := stV (a.n : Int) (S ++ ⟨#[48]⟩) R) ?_ rfl (HB.out _ _ _ _ _ (iok_of (by omega) (by omega)) (.inl rfl) (by have := Hz.out; omega) (by omega) (by omega) D2.out)
    simp [results, Tryz.results25, go_sem, q0, q1, q2]
  by_cases h2 : m = 2
  · subst h2
    have hrs : (R.size : Int) - 1 ≤ R.size := by omega
    have hr1 : (1 : Int) ≤ (R.size : Int) := by omega
    have hr2 : (R.size : Int) ≤ 25 := by omega
    have hr3 : IntKind.i64.wrap ((R.size : Int) - 1) = (R.size : Int) - 1 := IntWalk.i64_in _ (by omega)
    have D2 := Lib.hid (D1.out.drew.alloc (.cells #[.string (bs []), .string (bs [50]), .string (bs [48, 49])] 9))
    have X2 := Lib.hid (X1.out.drew.alloc (.cells #[.string (bs []), .string (bs [50]), .string (bs [48, 49])] 9))
    have Y2 := Lib.hid (Y1.out.drew.alloc (.cells #[.string (bs []), .string (bs [50]), .string (bs [48, 49])] 9))
    have N2 := Lib.hid (scells_new w1.drew [bs [], bs [50], bs [48, 49]] 9)
    go_upto_region 7 with (fail)
    refine R2.region_sched [(0, true), (1, true), (2, true), (3, true), (4, true), (5, true), (6, true), (7, true), (8, false), (9, false), (10, true), (11, true), (12, false)] 12 (fun w' : World => w'.cell? ⟨w.heap.size, 2, none⟩ = some (.string R)) (by kernel_rfl) (by kernel_rfl) (by kernel_rfl) (by kernel_rfl) (by kernel_rfl) (fun _ _ _ _ h => h) ?_ (fun Q1 hQ1 => ?_)
    · exact c2
    try simp only [List.append]
    refine R2.sched_take' (v := ?_) (a' := ?_) rfl (by kernel_rfl) ?_ rfl ?_ ?_
    rotate_left 2
    · intro w hSw
      (try dsimp only at hSw)
      go_simp
      try with_reducible rfl
    · (try simp only [Act.put, List.setIfInBounds_toArray, List.set_cons_zero, List.set_cons_succ])
      try rfl
    refine R2.sched_take' (v := ?_) (a' := ?_) rfl (by kernel_rfl) ?_ rfl ?_ ?_
    rotate_left 2
    · intro w hSw
      (try dsimp only at hSw)
      go_simp
      try with_reducible rfl
    · (try simp only [Act.put, List.setIfInBounds_toArray, List.set_cons_zero, List.set_cons_succ])
      try rfl
    refine R2.sched_take' (v := ?_) (a' := ?_) rfl (by kernel_rfl) ?_ rfl ?_ ?_
    rotate_left 2
    · intro w hSw
      (try dsimp only at hSw)
      go_simp
      try with_reducible rfl
    · (try simp only [Act.put, List.setIfInBounds_toArray, List.set_cons_zero, List.set_cons_succ])
      try rfl
    refine R2.sched_take' (v := ?_) (a' := ?_) rfl (by kernel_rfl) ?_ rfl ?_ ?_
    rotate_left 2
    · intro w hSw
      (try dsimp only at hSw)
      go_simp
      try with_reducible rfl
    · (try simp only [Act.put, List.setIfInBounds_toArray, List.set_cons_zero, List.set_cons_succ])
      try rfl
    refine R2.sched_take' (v := ?_) (a' := ?_) rfl (by kernel_rfl) ?_ rfl ?_ ?_
    rotate_left 2
    · intro w hSw
      (try dsimp only at hSw)
      go_simp
      try with_reducible rfl
    · (try simp only [Act.put, List.setIfInBounds_toArray, List.set_cons_zero, List.set_cons_succ])
      try rfl
    refine R2.sched_take' (v := ?_) (a' := ?_) rfl (by kernel_rfl) ?_ rfl ?_ ?_
    rotate_left 2
    · intro w hSw
      (try dsimp only at hSw)
      go_simp
      try with_reducible rfl
    · (try simp only [Act.put, List.setIfInBounds_toArray, List.set_cons_zero, List.set_cons_succ])
      try rfl
    refine R2.sched_take' (v := ?_) (a' := ?_) rfl (by kernel_rfl) ?_ rfl ?_ ?_
    rotate_left 2
    · intro w hSw
      (try dsimp only at hSw)
      go_simp
      try with_reducible rfl
    · (try simp only [Act.put, List.setIfInBounds_toArray, List.set_cons_zero, List.set_cons_succ])
      try rfl
    refine R2.sched_take' (v := ?_) (a' := ?_) rfl (by kernel_rfl) ?_ rfl ?_ ?_
    rotate_left 2
    · intro w hSw
      (try dsimp only at hSw)
      go_simp
      try with_reducible rfl
    · (try simp only [Act.put, List.setIfInBounds_toArray, List.set_cons_zero, List.set_cons_succ])
      try rfl
    refine R2.sched_call rfl (by kernel_rfl) (fun K1 hK1 => ?_)
    go_simp
    refine hK1.out _ _ ?_ (R2.sched_lay (a' := ?_) ?_ ?_)
    · exact X2.out.cell 2
    rotate_left 1
    · (try simp only [Act.put, List.getElem_toArray, List.getElem_cons_succ, List.getElem_cons_zero, List.setIfInBounds_toArray, List.set_cons_zero, List.set_cons_succ])
      try rfl
    clear hK1 K1
    refine R2.sched_call rfl (by kernel_rfl) (fun K1 hK1 => ?_)
    go_simp
    refine (Hof.out _ _ (by have := N2.out; simpa using this) (by omega) D2.out.rd).mono ?_
    rintro e w2 ⟨⟨t, rfl, ht⟩, hr, hg⟩
    have D3 := Lib.hid (D2.out.step hr hg)
    have X3 := Lib.hid (X2.out.dw hg hrl)
    have Y3 := Lib.hid (Y2.out.dw hg (by omega))
    clear hr hg
    go_wp2_with fail
    refine hK1.out _ _ ?_ (R2.sched_lay (a' := ?_) ?_ ?_)
    · exact X3.out.cell 2
    rotate_left 1
    · (try simp only [Act.put, List.getElem_toArray, List.getElem_cons_succ, List.getElem_cons_zero, List.setIfInBounds_toArray, List.set_cons_zero, List.set_cons_succ])
      try rfl
    clear hK1 K1
    refine R2.sched_take' (v := .string (R.extract 0 (R.size - 1) ++ t)) (a' := ?_) rfl (by kernel_rfl) ?_ rfl ?_ ?_
    rotate_left 1
    · intro w hSw
      (try dsimp only at hSw)
      go_simp
      first | omega | (rw [if_neg (by omega)])
    · (try simp only [Act.put, List.setIfInBounds_toArray, List.set_cons_zero, List.set_cons_succ])
      try rfl
    refine R2.sched_take' (v := ?_) (a' := ?_) rfl (by kernel_rfl) ?_ rfl ?_ ?_
    rotate_left 2
    · intro w hSw
      (try dsimp only at hSw)
      go_simp
      try with_reducible rfl
    · (try simp only [Act.put, List.setIfInBounds_toArray, List.set_cons_zero, List.set_cons_succ])
      try rfl
    have hU : (R.extract 0 (R.size - 1) ++ t).size ≤ 30 := by rw [ByteArray.size_append, ByteArray.size_extract]; omega
    generalize hUe : R.extract 0 (R.size - 1) ++ t = U at *
    clear hUe
    clear c0 c1 c2 e0 e1 e2 d0 d1 d2 f0 f1 f2
    have e2 := X3.out.free 2
    obtain ⟨c0, c1, c2⟩ := box_load X3.out
    refine R2.sched_last rfl (by kernel_rfl) (fun K1 hK1 => ?_)
    go_simp
    refine hK1.out _ _ (R2.sched_lay (a' := ?_) ?_ ?_)
    rotate_left 1
    · (try simp only [Act.put, List.getElem_toArray, List.getElem_cons_succ, List.getElem_cons_zero, List.setIfInBounds_toArray, List.set_cons_zero, List.set_cons_succ])
      try rfl
    clear hK1 K1
    refine R2.sched_done (hQ1.out _ _ ?_)
    clear c0 c1 c2 e2
    have x4 := X3.out.set 2 (.string U)
    obtain ⟨c0, c1, c2⟩ := box_load (a := .int .i64 (a.n : Int)) (b := .string S) (c := .string U) x4
    have y4 := Y3.out.far (p := ⟨w.heap.size, 2, none⟩) (by simp) (.string U)
    obtain ⟨d0, d1, d2⟩ := box_load y4
    have f0 := y4.free 0
    have f1 := y4.free 1
    have f2 := y4.free 2
    have D4 := Lib.hid ((D3.out.put (Nat.le_refl _) 2 (.string U)).puts (Nat.le_succ _) (.int .i64 (a.n : Int)) (.string S) (.string U))
    obtain ⟨q0, q1, q2⟩ := box_load (y4.puts (.int .i64 (a.n : Int)) (.string S) (.string U))
    clear x4 y4
    go_wp2_with fail
    refine bodyPost_ret (v := stV (a.n : Int) S U) ?_ rfl (HB.out _ _ _ _ _ (iok_of (by omega) (by omega)) (.inl rfl) (by omega) (by omega) (by omega) D4.out)
    simp [results, Tryz.results25, go_sem, q0, q1, q2]
  by_cases h3 : m = 3
  · subst h3
    go_wp2_with fail
    refine (Hm1.out _).mono ?_
    rintro e w2 ⟨⟨t, rfl, ht⟩, rfl⟩
    go_wp2_with fail
    refine (Hm2.out _).mono ?_
    rintro e w2 ⟨⟨u, rfl, hu⟩, rfl⟩
    have D2 := Lib.hid (D1.out.puts (Nat.le_succ _) (.int .i64 9) (.string t) (.string u))
    obtain ⟨q0, q1, q2⟩ := box_load (Y1.out.puts (.int .i64 9) (.string t) (.string u))
    go_wp2_with fail
    refine bodyPost_ret (v := stV 9 t u) ?_ rfl (HB.out _ _ _ _ _ (iok_of (by omega) (by omega)) (.inr (.inr (by omega))) (by omega) (by omega) (by omega) D2.out)
    simp [results, Tryz.results25, go_sem, q0, q1, q2]
  have b0 : (m == 0) = false := by simp; omega
  have b1 : (m == 1) = false := by simp; omega
  have b2 : (m == 2) = false := by simp; omega
  have b3 : (m == 3) = false := by simp; omega
  have D2 := Lib.hid (D1.out.puts (Nat.le_succ _) (.int .i64 (a.n : Int)) (.string S) (.string R))
  obtain ⟨q0, q1, q2⟩ := box_load (Y1.out.puts (.int .i64 (a.n : Int)) (.string S) (.string R))
  go_wp2_with fail
  refine bodyPost_ret (v := stV (a.n : Int) S R) ?_ rfl (HB.out _ _ _ _ _ (iok_of (by omega) (by omega)) (.inl rfl) (by omega) (by omega) (by omega) D2.out)
  simp [results, Tryz.results25, go_sem, q0, q1, q2]

set_option maxHeartbeats 1000000 in
theorem l1Open_calls (rb : Nat) (A : Option Addr) (n cap p : Nat) (w : World) (h : Rd w rb A n cap p) (hp : p ≤ 500000000000) :
    Calls Tryz.prog 24 #[.pointer (some ⟨rb, 0, none⟩)] w fun e w' => (∃ (i : Int) (s r : ByteArray) (p' : Nat), e = .returned (stV i s r) ∧ IOk i ∧ s.size ≤ 100 ∧ r.size ≤ 100 ∧ p' ≤ p + 500 ∧ Rd w' rb A n cap p') ∧ w.grownBy w' (some rb) := by
  have hs := fun W h => l1Some_calls rb A n cap p W h (by omega)
  have hb := fun a ha h5 p' (hp' : p' ≤ p + 101) W h => l1Bad_calls rb A n cap p' a ha h5 W h (by omega)
  have D0 := Lib.hid ((Dw.new h).alloc (.cells #[.int .i64 0, .string (bs []), .string (bs [])] 24))
  have X0 := Lib.hid (Bx.new w 24 #[.int .i64 0, .string (bs []), .string (bs [])])
  have Hs := Lib.hid hs
  have Hb := Lib.hid hb
  have hrl := h.box.lt
  clear hs hb h
  go_enter Tryz.func24, Tryz.ntmps24
  go_wp2_with fail
  refine (Hs.out _ D0.out.rd).mono ?_
  rintro e w1 ⟨⟨a, p1, rfl, ha, han, hp1, hr⟩, hg⟩
  have D1 := Lib.hid (D0.out.step hr hg)
  have X1 := Lib.hid (X0.out.dw hg hrl)
  have Ha := Lib.hid ha
  clear hr hg ha
  go_wp2_with fail
  refine (Hb.out a Ha.out han p1 hp1 _ D1.out.rd).mono ?_
  rintro e w2 ⟨⟨i, s, r, p2, rfl, hi, hsz, hrz, hp2, hr, _⟩, hg⟩
  have D2 := Lib.hid (D1.out.step hr hg)
  have hax := X1.out.dw hg hrl
  obtain ⟨c0, c1, c2⟩ := box_load hax
  have f0 := hax.free 0
  have f1 := hax.free 1
  have f2 := hax.free 2
  have D3 := Lib.hid (D2.out.puts (Nat.le_refl _) (.int .i64 i) (.string s) (.string r))
  obtain ⟨q0, q1, q2⟩ := box_load (hax.puts (.int .i64 i) (.string s) (.string r))
  have HI := Lib.hid hi
  clear hr hg hax hi
  go_wp2_with fail
  refine bodyPost_ret (v := stV i s r) ?_ rfl ⟨⟨i, s, r, p2, rfl, HI.out, hsz, hrz, by omega, D3.out.rd⟩, D3.out.gr⟩
  simp [results, Tryz.results24, go_sem, q0, q1, q2]

end Go.Proofs.YtpaleogkgfclnaaGreatDoor

namespace Go.Proofs.YtpaleogkgfclnaaGreatDoor
open Go.RowKit
open Pl
set_option linter.unusedSimpArgs false
set_option linter.unusedVariables false

end Go.Proofs.YtpaleogkgfclnaaGreatDoor

namespace Go.Proofs.YtpaleogkgfclnaaGreatDoor
open Go.RowKit
open Pl
set_option linter.unusedSimpArgs false
set_option linter.unusedVariables false

theorem fmt_no {i : Int} {s r : ByteArray} (h : okB i s r = false) : fmtV i s r = bs [] := by unfold fmtV; rw [h]; rfl
theorem fmt_yes {i : Int} {s r : ByteArray} (h : okB i s r = true) : fmtV i s r = s ++ ⟨#[58]⟩ ++ r := by unfold fmtV; rw [h]; rfl

theorem resV_form (o : Option St) : ∃ (j : Int) (S R : ByteArray) (b : Bool), resV o = .tuple #[stV j S R, .bool b] := by
  cases o with
  | none => exact ⟨_, _, _, _, rfl⟩
  | some a => exact ⟨_, _, _, _, rfl⟩

end Go.Proofs.YtpaleogkgfclnaaGreatDoor

namespace Go.Proofs.YtpaleogkgfclnaaGreatDoor
open Go.RowKit
open Pl
set_option linter.unusedSimpArgs false
set_option linter.unusedVariables false

theorem byte_of {z : Int} (h : (Lit.int .u8 z).wf = true) : ∃ b : Nat, b < 256 ∧ z = b := by
  have h2 : IntKind.u8.min = 0 := by decide
  have h3 : IntKind.u8.max = 255 := by decide
  have h4 : (decide (IntKind.u8.min ≤ z) && decide (z ≤ IntKind.u8.max)) = true := h
  rw [h2, h3] at h4
  simp at h4
  exact ⟨z.toNat, by omega, by omega⟩

theorem ByRow.call {w w' : World} {A : Option Addr} {n : Nat} (h : ByRow w A n) (hb : Below w.heap.size w w') : ByRow w' A n := fun hn => by
  obtain ⟨x, rfl, hc⟩ := h hn
  refine ⟨x, rfl, fun i hi => ?_⟩
  obtain ⟨b, hb2, hcell⟩ := hc i hi
  exact ⟨b, hb2, (hb.cell (World.block_lt_of_cell? w _ hcell)).trans hcell⟩

/-- what is known while something is drawn from bytes: the reader, new; all that was before is as it was -/
structure Fr (w : World) (rb : Nat) (A : Option Addr) (n cap p : Nat) (V : World) : Prop where
  rd : Rd V rb A n cap p
  bel : Below w.heap.size w V
  rge : w.heap.size ≤ rb

theorem Fr.step {w V V' : World} {rb n cap p p' : Nat} {A : Option Addr} (h : Fr w rb A n cap p V) (hr : Rd V' rb A n cap p') (hg : V.grownBy V' (some rb)) : Fr w rb A n cap p' V' :=
  ⟨hr, h.bel.grown hg h.bel.size (fun j hj => by have := h.rge; have e : rb = j := Option.some.inj hj; omega), h.rge⟩
theorem Fr.call {w V V' : World} {rb n cap p : Nat} {A : Option Addr} (h : Fr w rb A n cap p V) (hb : Below V.heap.size V V') : Fr w rb A n cap p V' := ⟨h.rd.call hb, h.bel.trans (hb.mono h.bel.size), h.rge⟩
theorem Fr.alloc {w V : World} {rb n cap p : Nat} {A : Option Addr} (h : Fr w rb A n cap p V) (o : Obj) : Fr w rb A n cap p (V.alloc o) := ⟨h.rd.alloc o, h.bel.alloc h.bel.size o, h.rge⟩
theorem Fr.drew {w V : World} {rb n cap p : Nat} {A : Option Addr} (h : Fr w rb A n cap p V) : Fr w rb A n cap p V.drew := ⟨h.rd.drew, h.bel.drew, h.rge⟩
theorem Rd.put {V : World} {rb n cap p g : Nat} {A : Option Addr} (hr : Rd V rb A n cap p) (hg : rb < g) (i : Nat) (v : Value) : Rd (V.setCell ⟨g, i, none⟩ v) rb A n cap p := by
  refine ⟨hr.box.far (by simp; omega) _, ?_, hr.small, hr.sep⟩
  intro h0
  obtain ⟨x, rfl, hc⟩ := hr.row h0
  have hx := hr.sep h0 x rfl
  refine ⟨x, rfl, fun i hi => ?_⟩
  obtain ⟨b, hb, hcell⟩ := hc i hi
  refine ⟨b, hb, ?_⟩
  rw [← hcell]
  have hbl : (x.add i).block = x.block := by unfold Addr.add; split <;> rfl
  exact World.cell?_of_block (by rw [hbl]; exact Below.heap_setCell V _ _ _ (by simp; omega))
theorem Fr.put {w V : World} {rb n cap p g : Nat} {A : Option Addr} (h : Fr w rb A n cap p V) (hg : rb < g) (i : Nat) (v : Value) : Fr w rb A n cap p (V.setCell ⟨g, i, none⟩ v) :=
  ⟨h.rd.put hg i v, h.bel.setCell (by have := h.rge; simp; omega) v, h.rge⟩
theorem Fr.puts {w V : World} {rb n cap p g : Nat} {A : Option Addr} (h : Fr w rb A n cap p V) (hg : rb < g) (a b c : Value) : Fr w rb A n cap p (((V.setCell ⟨g, 0, none⟩ a).setCell ⟨g, 1, none⟩ b).setCell ⟨g, 2, none⟩ c) :=
  ((h.put hg 0 a).put hg 1 b).put hg 2 c
theorem below_puts {w V : World} {g : Nat} (h : Below w.heap.size w V) (hg : w.heap.size ≤ g) (a b c : Value) : Below w.heap.size w (((V.setCell ⟨g, 0, none⟩ a).setCell ⟨g, 1, none⟩ b).setCell ⟨g, 2, none⟩ c) :=
  ((h.setCell (by simpa using hg) a).setCell (by simpa using hg) b).setCell (by simpa using hg) c
/-- the reader that is new -/
theorem Fr.new {w V V' : World} {A : Option Addr} {n cap p rb : Nat} (h : Below w.heap.size w V) (hr : Rd V' V.heap.size A n cap p) (hb : Below V.heap.size V V') (hrb : V.heap.size = rb) : Fr w rb A n cap p V' :=
  hrb ▸ ⟨hr, h.trans (hb.mono h.size), h.size⟩

def StS (e : Ending) : Prop := ∃ (i : Int) (s r : ByteArray), e = .returned (stV i s r) ∧ IOk i ∧ s.size ≤ 100 ∧ r.size ≤ 100
def StX (e : Ending) : Prop := ∃ (i : Int) (s r : ByteArray) (x : Int), e = .returned (.tuple #[stV i s r, .int .i64 x]) ∧ IOk i ∧ s.size ≤ 100 ∧ r.size ≤ 100 ∧ IOk x


end Go.Proofs.YtpaleogkgfclnaaGreatDoor

namespace Go.Proofs.YtpaleogkgfclnaaGreatDoor
open Go.RowKit
open Pl
set_option linter.unusedSimpArgs false
set_option linter.unusedVariables false

theorem l1Draw_at (rb : Nat) (A : Option Addr) (n cap p sz : Nat) (z : Int) (hz : z = (sz : Nat)) (w : World) (h : Rd w rb A n cap p) (hp : p ≤ 549755813888) (h1 : 1 ≤ sz) (h5 : sz ≤ 5) :
    Calls Tryz.prog 26 #[.pointer (some ⟨rb, 0, none⟩), .int .i64 z] w fun e w' => DrawS rb A n cap p sz e w' ∧ w.grownBy w' (some rb) := by
  subst hz
  exact l1Draw_calls rb A n cap p sz w h hp h1 h5

set_option maxHeartbeats 4000000 in
set_option maxRecDepth 100000 in
theorem DrawDescribeStructure_calls (A : Option Addr) (n cap : Nat) (w : World) (h : ByRow w A n) (hn : n ≤ 1048576) (hc : n ≤ cap) (hm : cap ≤ maxLen) :
    Calls Tryz.prog 5 #[.slice A n cap] w fun e w' => StS e ∧ Below w.heap.size w w' := by
  have ho := fun W h => l15Open_calls A n cap W h hn hc hm
  have Ho := Lib.hid ho
  have H0 := Lib.hid (h.call ((Below.refl w.heap.size w).alloc (Nat.le_refl _) (.cells #[.int .i64 0, .string (bs []), .string (bs [])] 24)))
  have Hpk := Lib.hid (fun (rb n cap : Nat) (A : Option Addr) (q : Nat) (k : Int) (V : World) (hk : k ≤ 100) (hq : q ≤ 10000) (hr : Rd V rb A n cap q) => pick_calls rb A n cap q k V hr (by omega) (by omega))
  have Hop := Lib.hid (fun (rb n cap q : Nat) (A : Option Addr) (hq : q ≤ 10000) (W : World) (h : Rd W rb A n cap q) => l1Open_calls rb A n cap q W h (by omega))
  have Hdr := Lib.hid (fun (rb n cap q sz : Nat) (z : Int) (hz : z = (sz : Nat)) (A : Option Addr) (hq : q ≤ 10000) (h1 : 1 ≤ sz) (h5 : sz ≤ 5) (W : World) (h : Rd W rb A n cap q) => l1Draw_at rb A n cap q sz z hz W h (by omega) h1 h5)
  have Hbd := Lib.hid (fun (rb n cap q : Nat) (A : Option Addr) (a : St) (ha : a.ok) (h5 : a.n ≤ 5) (hq : q ≤ 10000) (W : World) (h : Rd W rb A n cap q) => l1Bad_calls rb A n cap q a ha h5 W h (by omega))
  have Hel := Lib.hid (fun (rb n cap q : Nat) (A : Option Addr) (hq : q ≤ 10000) (W : World) (h : Rd W rb A n cap q) => l1Element_calls rb A n cap q W h (by omega))
  have X0 := Lib.hid (Bx.new w 24 #[.int .i64 0, .string (bs []), .string (bs [])])
  have B0 := Lib.hid ((Below.refl w.heap.size w).alloc (Nat.le_refl _) (.cells #[.int .i64 0, .string (bs []), .string (bs [])] 24))
  clear ho h hn hc hm
  go_enter Tryz.func5, Tryz.ntmps5
  go_wp2_with fail
  refine (Ho.out _ H0.out).mono ?_
  rintro e w1 ⟨⟨A', n', cap', rfl, hr⟩, hb⟩
  have F1 := Lib.hid (Fr.new (rb := w.heap.size + 1) B0.out hr hb (by simp))
  have X1 := Lib.hid (X0.out.call hb)
  clear hr hb
  go_wp2_with fail
  refine (Hpk.out _ _ _ _ 0 6 _ (by omega) (by omega) F1.out.rd).mono ?_
  rintro e w2 ⟨⟨m, rfl, hm0, hm1, _⟩, hrd, hg⟩
  have F2 := Lib.hid (F1.out.step hrd hg)
  have X2 := Lib.hid (X1.out.grown' hg (by simp))
  clear hrd hg hm1
  by_cases e0 : m = 0
  · subst e0
    go_wp2_with fail
    refine (Hop.out _ _ _ _ _ (by omega) _ F2.out.rd).mono ?_
    rintro e w3 ⟨⟨i, s, r, p', rfl, hi, hs, hr, hp', hrd⟩, hg⟩
    have F3 := Lib.hid (F2.out.step hrd hg)
    have X3 := Lib.hid (X2.out.grown' hg (by simp))
    have HI := Lib.hid hi
    clear hrd hg hi
    obtain ⟨c0, c1, c2⟩ := box_load X3.out
    have f0 := X3.out.free 0
    have f1 := X3.out.free 1
    have f2 := X3.out.free 2
    obtain ⟨q0, q1, q2⟩ := box_load (X3.out.puts (.int .i64 i) (.string s) (.string r))
    go_wp2_with fail
    refine bodyPost_ret (v := stV i s r) ?_ rfl ⟨⟨i, s, r, rfl, HI.out, hs, hr⟩, below_puts F3.out.bel (Nat.le_refl _) _ _ _⟩
    simp [results, Tryz.results5, go_sem, q0, q1, q2]
  · have f0 : (m == 0) = false := by rw [beq_eq_false_iff_ne]; exact e0
    go_wp2_with fail
    refine (Hpk.out _ _ _ _ 1 3 _ (by omega) (by omega) F2.out.rd).mono ?_
    rintro e w3 ⟨⟨m2, rfl, hm20, hm21, _⟩, hrd, hg⟩
    have F3 := Lib.hid (F2.out.step hrd hg)
    have X3 := Lib.hid (X2.out.grown' hg (by simp))
    have hm22 := hm21 (by omega)
    clear hrd hg hm21
    obtain ⟨M, rfl⟩ : ∃ M : Nat, m2 = (M : Nat) := ⟨m2.toNat, by omega⟩
    have hM : M ≤ 3 := by omega
    go_wp2_with fail
    refine (Hdr.out _ _ _ _ (M + 1) _ (by omega) _ (by omega) (by omega) (by omega) _ F3.out.rd).mono ?_
    rintro e w4 ⟨⟨a, p4, rfl, ha, han, hp4, hrd⟩, hg⟩
    have F4 := Lib.hid (F3.out.step hrd hg)
    have X4 := Lib.hid (X3.out.grown' hg (by simp))
    have HAO := Lib.hid ha
    have ha5 : a.n ≤ 5 := by omega
    clear hrd hg ha han
    go_wp2_with fail
    refine (Hbd.out _ _ _ _ _ a HAO.out ha5 (by omega) _ F4.out.rd).mono ?_
    rintro e w5 ⟨⟨i, s, r, p5, rfl, hi, hs, hr, hp5, hrd, _⟩, hg⟩
    have F5 := Lib.hid (F4.out.step hrd hg)
    have X5 := Lib.hid (X4.out.grown' hg (by simp))
    have HI := Lib.hid hi
    clear hrd hg hi
    obtain ⟨c0, c1, c2⟩ := box_load X5.out
    have f0 := X5.out.free 0
    have f1 := X5.out.free 1
    have f2 := X5.out.free 2
    obtain ⟨q0, q1, q2⟩ := box_load (X5.out.puts (.int .i64 i) (.string s) (.string r))
    go_wp2_with fail
    refine bodyPost_ret (v := stV i s r) ?_ rfl ⟨⟨i, s, r, rfl, HI.out, hs, hr⟩, below_puts F5.out.bel (Nat.le_refl _) _ _ _⟩
    simp [results, Tryz.results5, go_sem, q0, q1, q2]

set_option maxHeartbeats 4000000 in
set_option maxRecDepth 100000 in
theorem DrawDescribeElement_calls (A : Option Addr) (n cap : Nat) (w : World) (h : ByRow w A n) (hn : n ≤ 1048576) (hc : n ≤ cap) (hm : cap ≤ maxLen) :
    Calls Tryz.prog 15 #[.slice A n cap] w fun e w' => StX e ∧ Below w.heap.size w w' := by
  have ho := fun W h => l15Open_calls A n cap W h hn hc hm
  have Ho := Lib.hid ho
  have H0 := Lib.hid (h.call ((Below.refl w.heap.size w).alloc (Nat.le_refl _) (.cells #[.int .i64 0, .string (bs []), .string (bs [])] 24)))
  have Hpk := Lib.hid (fun (rb n cap : Nat) (A : Option Addr) (q : Nat) (k : Int) (V : World) (hk : k ≤ 100) (hq : q ≤ 10000) (hr : Rd V rb A n cap q) => pick_calls rb A n cap q k V hr (by omega) (by omega))
  have Hop := Lib.hid (fun (rb n cap q : Nat) (A : Option Addr) (hq : q ≤ 10000) (W : World) (h : Rd W rb A n cap q) => l1Open_calls rb A n cap q W h (by omega))
  have Hdr := Lib.hid (fun (rb n cap q sz : Nat) (z : Int) (hz : z = (sz : Nat)) (A : Option Addr) (hq : q ≤ 10000) (h1 : 1 ≤ sz) (h5 : sz ≤ 5) (W : World) (h : Rd W rb A n cap q) => l1Draw_at rb A n cap q sz z hz W h (by omega) h1 h5)
  have Hbd := Lib.hid (fun (rb n cap q : Nat) (A : Option Addr) (a : St) (ha : a.ok) (h5 : a.n ≤ 5) (hq : q ≤ 10000) (W : World) (h : Rd W rb A n cap q) => l1Bad_calls rb A n cap q a ha h5 W h (by omega))
  have Hel := Lib.hid (fun (rb n cap q : Nat) (A : Option Addr) (hq : q ≤ 10000) (W : World) (h : Rd W rb A n cap q) => l1Element_calls rb A n cap q W h (by omega))
  have X0 := Lib.hid (Bx.new w 24 #[.int .i64 0, .string (bs []), .string (bs [])])
  have B0 := Lib.hid ((Below.refl w.heap.size w).alloc (Nat.le_refl _) (.cells #[.int .i64 0, .string (bs []), .string (bs [])] 24))
  clear ho h hn hc hm
  go_enter Tryz.func15, Tryz.ntmps15
  go_wp2_with fail
  refine (Ho.out _ H0.out).mono ?_
  rintro e w1 ⟨⟨A', n', cap', rfl, hr⟩, hb⟩
  have F1 := Lib.hid (Fr.new (rb := w.heap.size + 1) B0.out hr hb (by simp))
  have X1 := Lib.hid (X0.out.call hb)
  clear hr hb
  go_wp2_with fail
  refine (Hpk.out _ _ _ _ 0 6 _ (by omega) (by omega) F1.out.rd).mono ?_
  rintro e w2 ⟨⟨m, rfl, hm0, hm1, _⟩, hrd, hg⟩
  have F2 := Lib.hid (F1.out.step hrd hg)
  have X2 := Lib.hid (X1.out.grown' hg (by simp))
  clear hrd hg hm1
  by_cases e0 : m = 0
  · subst e0
    go_wp2_with fail
    refine (Hop.out _ _ _ _ _ (by omega) _ F2.out.rd).mono ?_
    rintro e w3 ⟨⟨i, s, r, p', rfl, hi, hs, hr, hp', hrd⟩, hg⟩
    have F3 := Lib.hid (F2.out.step hrd hg)
    have X3 := Lib.hid (X2.out.grown' hg (by simp))
    have HI := Lib.hid hi
    clear hrd hg hi
    go_wp2_with fail
    refine (Hel.out _ _ _ _ _ (by omega) _ F3.out.rd).mono ?_
    rintro e w4 ⟨⟨x, px, rfl, hx, hpx, hrd⟩, hg⟩
    have F4 := Lib.hid (F3.out.step hrd hg)
    have X4 := Lib.hid (X3.out.grown' hg (by simp))
    have HX := Lib.hid hx
    clear hrd hg hx
    obtain ⟨c0, c1, c2⟩ := box_load X4.out
    have f0 := X4.out.free 0
    have f1 := X4.out.free 1
    have f2 := X4.out.free 2
    obtain ⟨q0, q1, q2⟩ := box_load (X4.out.puts (.int .i64 i) (.string s) (.string r))
    go_wp2_with fail
    refine bodyPost_ret (v := .tuple #[stV i s r, .int .i64 x]) ?_ rfl ⟨⟨i, s, r, x, rfl, HI.out, hs, hr, HX.out⟩, below_puts F4.out.bel (Nat.le_refl _) _ _ _⟩
    simp [results, Tryz.results15, go_sem, q0, q1, q2]
  · have f0 : (m == 0) = false := by rw [beq_eq_false_iff_ne]; exact e0
    go_wp2_with fail
    refine (Hpk.out _ _ _ _ 1 4 _ (by omega) (by omega) F2.out.rd).mono ?_
    rintro e w3 ⟨⟨m2, rfl, hm20, hm21, _⟩, hrd, hg⟩
    have F3 := Lib.hid (F2.out.step hrd hg)
    have X3 := Lib.hid (X2.out.grown' hg (by simp))
    have hm22 := hm21 (by omega)
    clear hrd hg hm21
    obtain ⟨M, rfl⟩ : ∃ M : Nat, m2 = (M : Nat) := ⟨m2.toNat, by omega⟩
    have hM : M ≤ 3 := by omega
    go_wp2_with fail
    refine (Hdr.out _ _ _ _ (M + 1) _ (by omega) _ (by omega) (by omega) (by omega) _ F3.out.rd).mono ?_
    rintro e w4 ⟨⟨a, p4, rfl, ha, han, hp4, hrd⟩, hg⟩
    have F4 := Lib.hid (F3.out.step hrd hg)
    have X4 := Lib.hid (X3.out.grown' hg (by simp))
    have HAO := Lib.hid ha
    have ha5 : a.n ≤ 5 := by omega
    clear hrd hg ha han
    go_wp2_with fail
    refine (Hbd.out _ _ _ _ _ a HAO.out ha5 (by omega) _ F4.out.rd).mono ?_
    rintro e w5 ⟨⟨i, s, r, p5, rfl, hi, hs, hr, hp5, hrd, _⟩, hg⟩
    have F5 := Lib.hid (F4.out.step hrd hg)
    have X5 := Lib.hid (X4.out.grown' hg (by simp))
    have HI := Lib.hid hi
    clear hrd hg hi
    go_wp2_with fail
    refine (Hel.out _ _ _ _ _ (by omega) _ F5.out.rd).mono ?_
    rintro e w6 ⟨⟨x, px, rfl, hx, hpx, hrd⟩, hg⟩
    have F6 := Lib.hid (F5.out.step hrd hg)
    have X6 := Lib.hid (X5.out.grown' hg (by simp))
    have HX := Lib.hid hx
    clear hrd hg hx
    obtain ⟨c0, c1, c2⟩ := box_load X6.out
    have f0 := X6.out.free 0
    have f1 := X6.out.free 1
    have f2 := X6.out.free 2
    obtain ⟨q0, q1, q2⟩ := box_load (X6.out.puts (.int .i64 i) (.string s) (.string r))
    go_wp2_with fail
    refine bodyPost_ret (v := .tuple #[stV i s r, .int .i64 x]) ?_ rfl ⟨⟨i, s, r, x, rfl, HI.out, hs, hr, HX.out⟩, below_puts F6.out.bel (Nat.le_refl _) _ _ _⟩
    simp [results, Tryz.results15, go_sem, q0, q1, q2]

end Go.Proofs.YtpaleogkgfclnaaGreatDoor

namespace Go.Proofs.YtpaleogkgfclnaaGreatDoor
namespace Pl

/-- the quantifiers: all, some, at least two, three, four -/
inductive Qn where
  | A | S | c2 | c3 | c4

/-- formulas -/
inductive Fm where
  | tru | fls
  | pr (v : Fin 4) | eq (v w : Fin 4) | rel (v w : Fin 4)
  | neg (p : Fm) | con (p q : Fm) | dis (p q : Fm) | qu (k : Qn) (v : Fin 4) (p : Fm)

def Qn.b : Qn → UInt8
  | .A => 65 | .S => 83 | .c2 => 50 | .c3 => 51 | .c4 => 52

/-- how often a quantifier counts -/
def Qn.n : Qn → Nat
  | .A => 1 | .S => 1 | .c2 => 2 | .c3 => 3 | .c4 => 4

/-- the byte of a variable -/
def vb (v : Fin 4) : UInt8 := UInt8.ofNat (97 + v.val)

/-- the operator -/
def Fm.op : Fm → UInt8
  | .tru => 116 | .fls => 102 | .pr _ => 80 | .eq _ _ => 61 | .rel _ _ => 69 | .neg _ => 33 | .con _ _ => 38 | .dis _ _ => 124 | .qu k _ _ => k.b

def Fm.vars : Fm → List (Fin 4)
  | .pr v => [v] | .eq v w => [v, w] | .rel v w => [v, w] | .qu _ v _ => [v] | _ => []

def Fm.parts : Fm → List Fm
  | .neg p => [p] | .con p q => [p, q] | .dis p q => [p, q] | .qu _ _ p => [p] | _ => []

def Fm.text : Fm → List UInt8
  | .tru => [116] | .fls => [102] | .pr v => [80, vb v] | .eq v w => [61, vb v, vb w] | .rel v w => [69, vb v, vb w]
  | .neg p => 33 :: p.text | .con p q => 38 :: (p.text ++ q.text) | .dis p q => 124 :: (p.text ++ q.text) | .qu k v p => k.b :: vb v :: p.text

def Fm.size : Fm → Nat
  | .neg p => p.size + 1 | .con p q => p.size + q.size + 1 | .dis p q => p.size + q.size + 1 | .qu _ _ p => p.size + 1 | _ => 1

theorem Fm.size_parts {f p : Fm} (h : p ∈ f.parts) : p.size < f.size := by
  cases f <;> simp [Fm.parts] at h
  case neg => subst h; simp [Fm.size]
  case con => rcases h with h | h <;> subst h <;> simp [Fm.size] <;> omega
  case dis => rcases h with h | h <;> subst h <;> simp [Fm.size] <;> omega
  case qu => subst h; simp [Fm.size]

theorem Fm.text_eq (f : Fm) : f.text = f.op :: (f.vars.map vb ++ (f.parts.map Fm.text).flatten) := by
  cases f <;> simp [Fm.text, Fm.op, Fm.vars, Fm.parts]

theorem vb_inj {v w : Fin 4} (h : vb v = vb w) : v = w := by
  revert v w; decide

theorem qb_inj {v w : Qn} (h : v.b = w.b) : v = w := by
  cases v <;> cases w <;> first | rfl | (exact absurd h (by decide))

theorem Fm.text_inj : ∀ (f g : Fm) (r s : List UInt8), f.text ++ r = g.text ++ s → f = g ∧ r = s := by
  intro f
  induction f with
  | tru =>
    intro g r s h
    cases g <;> simp [Fm.text] at h ⊢
    · exact h
    · rename_i k _ _; cases k <;> simp [Qn.b] at h
  | fls =>
    intro g r s h
    cases g <;> simp [Fm.text] at h ⊢
    · exact h
    · rename_i k _ _; cases k <;> simp [Qn.b] at h
  | pr v =>
    intro g r s h
    cases g <;> simp [Fm.text] at h ⊢
    · exact ⟨vb_inj h.1, h.2⟩
    · rename_i k _ _; cases k <;> simp [Qn.b] at h
  | eq v w =>
    intro g r s h
    cases g <;> simp [Fm.text] at h ⊢
    · exact ⟨⟨vb_inj h.1, vb_inj h.2.1⟩, h.2.2⟩
    · rename_i k _ _; cases k <;> simp [Qn.b] at h
  | rel v w =>
    intro g r s h
    cases g <;> simp [Fm.text] at h ⊢
    · exact ⟨⟨vb_inj h.1, vb_inj h.2.1⟩, h.2.2⟩
    · rename_i k _ _; cases k <;> simp [Qn.b] at h
  | neg p ih =>
    intro g r s h
    cases g <;> simp [Fm.text] at h ⊢
    · exact ih _ _ _ h
    · rename_i k _ _; cases k <;> simp [Qn.b] at h
  | con p q ihp ihq =>
    intro g r s h
    cases g <;> simp [Fm.text] at h ⊢
    · obtain ⟨h1, h2⟩ := ihp _ _ _ h
      obtain ⟨h3, h4⟩ := ihq _ _ _ h2
      exact ⟨⟨h1, h3⟩, h4⟩
    · rename_i k _ _; cases k <;> simp [Qn.b] at h
  | dis p q ihp ihq =>
    intro g r s h
    cases g <;> simp [Fm.text] at h ⊢
    · obtain ⟨h1, h2⟩ := ihp _ _ _ h
      obtain ⟨h3, h4⟩ := ihq _ _ _ h2
      exact ⟨⟨h1, h3⟩, h4⟩
    · rename_i k _ _; cases k <;> simp [Qn.b] at h
  | qu k v p ih =>
    intro g r s h
    cases g <;> simp [Fm.text] at h ⊢
    case qu =>
      obtain ⟨h1, h2, h3⟩ := h
      obtain ⟨h4, h5⟩ := ih _ _ _ h3
      exact ⟨⟨qb_inj h1, vb_inj h2, h4⟩, h5⟩
    all_goals (cases k <;> simp [Qn.b] at h)

/-- how many variables and how many parts follow an operator -/
def arity (b : UInt8) : Option (Nat × Nat) :=
  if b = 116 then some (0, 0) else if b = 102 then some (0, 0) else if b = 80 then some (1, 0) else if b = 61 then some (2, 0) else if b = 69 then some (2, 0)
  else if b = 33 then some (0, 1) else if b = 38 then some (0, 2) else if b = 124 then some (0, 2)
  else if b = 65 then some (1, 1) else if b = 83 then some (1, 1) else if b = 50 then some (1, 1) else if b = 51 then some (1, 1) else if b = 52 then some (1, 1) else none

theorem arity_op (f : Fm) : arity f.op = some (f.vars.length, f.parts.length) := by
  cases f <;> first | rfl | (rename_i k _ _; cases k <;> rfl)

theorem arity_mk {b : UInt8} {nv np : Nat} (h : arity b = some (nv, np)) (vs : List (Fin 4)) (ps : List Fm) (hv : vs.length = nv) (hp : ps.length = np) :
    ∃ f : Fm, f.op = b ∧ f.vars = vs ∧ f.parts = ps := by
  unfold arity at h
  by_cases hb : b = 116
  · subst hb
    have e : some (0, 0) = some (nv, np) := h
    injection e with e
    injection e with e1 e2
    subst e1 e2
    match vs, hv, ps, hp with
    | [], _, [], _ => exact ⟨.tru, rfl, rfl, rfl⟩
  rw [if_neg hb] at h
  clear hb
  by_cases hb : b = 102
  · subst hb
    have e : some (0, 0) = some (nv, np) := h
    injection e with e
    injection e with e1 e2
    subst e1 e2
    match vs, hv, ps, hp with
    | [], _, [], _ => exact ⟨.fls, rfl, rfl, rfl⟩
  rw [if_neg hb] at h
  clear hb
  by_cases hb : b = 80
  · subst hb
    have e : some (1, 0) = some (nv, np) := h
    injection e with e
    injection e with e1 e2
    subst e1 e2
    match vs, hv, ps, hp with
    | [v], _, [], _ => exact ⟨.pr v, rfl, rfl, rfl⟩
  rw [if_neg hb] at h
  clear hb
  by_cases hb : b = 61
  · subst hb
    have e : some (2, 0) = some (nv, np) := h
    injection e with e
    injection e with e1 e2
    subst e1 e2
    match vs, hv, ps, hp with
    | [v, w], _, [], _ => exact ⟨.eq v w, rfl, rfl, rfl⟩
  rw [if_neg hb] at h
  clear hb
  by_cases hb : b = 69
  · subst hb
    have e : some (2, 0) = some (nv, np) := h
    injection e with e
    injection e with e1 e2
    subst e1 e2
    match vs, hv, ps, hp with
    | [v, w], _, [], _ => exact ⟨.rel v w, rfl, rfl, rfl⟩
  rw [if_neg hb] at h
  clear hb
  by_cases hb : b = 33
  · subst hb
    have e : some (0, 1) = some (nv, np) := h
    injection e with e
    injection e with e1 e2
    subst e1 e2
    match vs, hv, ps, hp with
    | [], _, [p], _ => exact ⟨.neg p, rfl, rfl, rfl⟩
  rw [if_neg hb] at h
  clear hb
  by_cases hb : b = 38
  · subst hb
    have e : some (0, 2) = some (nv, np) := h
    injection e with e
    injection e with e1 e2
    subst e1 e2
    match vs, hv, ps, hp with
    | [], _, [p, q], _ => exact ⟨.con p q, rfl, rfl, rfl⟩
  rw [if_neg hb] at h
  clear hb
  by_cases hb : b = 124
  · subst hb
    have e : some (0, 2) = some (nv, np) := h
    injection e with e
    injection e with e1 e2
    subst e1 e2
    match vs, hv, ps, hp with
    | [], _, [p, q], _ => exact ⟨.dis p q, rfl, rfl, rfl⟩
  rw [if_neg hb] at h
  clear hb
  by_cases hb : b = 65
  · subst hb
    have e : some (1, 1) = some (nv, np) := h
    injection e with e
    injection e with e1 e2
    subst e1 e2
    match vs, hv, ps, hp with
    | [v], _, [p], _ => exact ⟨.qu .A v p, rfl, rfl, rfl⟩
  rw [if_neg hb] at h
  clear hb
  by_cases hb : b = 83
  · subst hb
    have e : some (1, 1) = some (nv, np) := h
    injection e with e
    injection e with e1 e2
    subst e1 e2
    match vs, hv, ps, hp with
    | [v], _, [p], _ => exact ⟨.qu .S v p, rfl, rfl, rfl⟩
  rw [if_neg hb] at h
  clear hb
  by_cases hb : b = 50
  · subst hb
    have e : some (1, 1) = some (nv, np) := h
    injection e with e
    injection e with e1 e2
    subst e1 e2
    match vs, hv, ps, hp with
    | [v], _, [p], _ => exact ⟨.qu .c2 v p, rfl, rfl, rfl⟩
  rw [if_neg hb] at h
  clear hb
  by_cases hb : b = 51
  · subst hb
    have e : some (1, 1) = some (nv, np) := h
    injection e with e
    injection e with e1 e2
    subst e1 e2
    match vs, hv, ps, hp with
    | [v], _, [p], _ => exact ⟨.qu .c3 v p, rfl, rfl, rfl⟩
  rw [if_neg hb] at h
  clear hb
  by_cases hb : b = 52
  · subst hb
    have e : some (1, 1) = some (nv, np) := h
    injection e with e
    injection e with e1 e2
    subst e1 e2
    match vs, hv, ps, hp with
    | [v], _, [p], _ => exact ⟨.qu .c4 v p, rfl, rfl, rfl⟩
  rw [if_neg hb] at h
  clear hb
  cases h

open Classical in
/-- the formula with which a text begins, and the rest of the text -/
noncomputable def parse (l : List UInt8) : Option (Fm × List UInt8) :=
  if h : ∃ x : Fm × List UInt8, l = x.1.text ++ x.2 then some (Classical.choose h) else none

theorem parse_some {l : List UInt8} {f : Fm} {r : List UInt8} : parse l = some (f, r) ↔ l = f.text ++ r := by
  unfold parse
  constructor
  · intro h
    split at h
    · rename_i hx
      have := Classical.choose_spec hx
      injection h with h
      rw [h] at this
      exact this
    · cases h
  · intro h
    have hx : ∃ x : Fm × List UInt8, l = x.1.text ++ x.2 := ⟨(f, r), h⟩
    rw [dif_pos hx]
    have hc := Classical.choose_spec hx
    obtain ⟨h1, h2⟩ := Fm.text_inj _ _ _ _ (hc.symm.trans h)
    congr 1
    exact Prod.ext h1 h2

theorem parse_none {l : List UInt8} : parse l = none ↔ ∀ (f : Fm) (r : List UInt8), l ≠ f.text ++ r := by
  constructor
  · intro h f r e
    rw [parse_some.2 e] at h
    cases h
  · intro h
    cases hp : parse l with
    | none => rfl
    | some x => exact absurd (parse_some.1 hp) (h _ _)

theorem parse_nil : parse [] = none := parse_none.2 fun f r h => by cases f <;> simp [Fm.text] at h

theorem parse_bad {b : UInt8} {l : List UInt8} (h : arity b = none) : parse (b :: l) = none := parse_none.2 fun f r e => by
  rw [Fm.text_eq] at e
  simp at e
  rw [e.1, arity_op] at h
  cases h

/-- the byte of a variable, or none -/
def varOf (b : UInt8) : Option (Fin 4) := if b = 97 then some 0 else if b = 98 then some 1 else if b = 99 then some 2 else if b = 100 then some 3 else none

theorem varOf_vb (v : Fin 4) : varOf (vb v) = some v := by revert v; decide

theorem varOf_some {b : UInt8} {v : Fin 4} : varOf b = some v ↔ b = vb v := by
  constructor
  · intro h
    unfold varOf at h
    split at h; · injection h with h; subst h; assumption
    split at h; · injection h with h; subst h; assumption
    split at h; · injection h with h; subst h; assumption
    split at h; · injection h with h; subst h; assumption
    cases h
  · intro h; subst h; exact varOf_vb v

/-- failing at a variable -/
theorem parse_no_var {b : UInt8} {nv np : Nat} (ha : arity b = some (nv, np)) (vs : List (Fin 4)) (cur : List UInt8) (hk : vs.length < nv)
    (hno : ∀ v r, cur ≠ vb v :: r) : parse (b :: (vs.map vb ++ cur)) = none := parse_none.2 fun f r e => by
  rw [Fm.text_eq] at e
  simp only [List.cons_append, List.cons.injEq, List.append_assoc] at e
  obtain ⟨rfl, e⟩ := e
  rw [arity_op] at ha
  simp at ha
  rcases List.append_eq_append_iff.1 e with ⟨t, h1, h2⟩ | ⟨t, h1, h2⟩
  · have hl : vs.length + t.length = f.vars.length := by have := congrArg List.length h1; simpa using this.symm
    match t, h1, h2, hl with
    | [], _, _, hl => simp at hl; omega
    | x :: t, h1, h2, _ =>
      have : x ∈ f.vars.map vb := by rw [h1]; simp
      obtain ⟨v, _, rfl⟩ := List.mem_map.1 this
      exact hno v _ (by rw [h2]; rfl)
  · have hl : f.vars.length + t.length = vs.length := by have := congrArg List.length h1; simpa using this.symm
    omega

theorem flat_prefix : ∀ (ps qs : List Fm) (cur r : List UInt8), (ps.map Fm.text).flatten ++ cur = (qs.map Fm.text).flatten ++ r → ps.length < qs.length →
    ∃ (f : Fm) (s : List UInt8), cur = f.text ++ s := by
  intro ps
  induction ps with
  | nil =>
    intro qs cur r h hl
    match qs, hl with
    | q :: qs, _ => exact ⟨q, (qs.map Fm.text).flatten ++ r, by simpa using h⟩
  | cons p ps ih =>
    intro qs cur r h hl
    match qs, hl with
    | q :: qs, hl =>
      simp at h hl
      obtain ⟨_, h2⟩ := Fm.text_inj _ _ _ _ h
      exact ih qs cur r (by simpa using h2) hl

/-- failing at a part -/
theorem parse_no_part {b : UInt8} {nv np : Nat} (ha : arity b = some (nv, np)) (vs : List (Fin 4)) (hv : vs.length = nv) (ps : List Fm) (cur : List UInt8) (hk : ps.length < np)
    (hno : parse cur = none) : parse (b :: (vs.map vb ++ ((ps.map Fm.text).flatten ++ cur))) = none := parse_none.2 fun f r e => by
  rw [Fm.text_eq] at e
  simp only [List.cons_append, List.cons.injEq, List.append_assoc] at e
  obtain ⟨rfl, e⟩ := e
  rw [arity_op] at ha
  simp at ha
  have hl : (vs.map vb).length = (f.vars.map vb).length := by simp; omega
  obtain ⟨_, e2⟩ := List.append_inj e hl
  obtain ⟨g, s, hg⟩ := flat_prefix _ _ _ _ e2 (by omega)
  exact parse_none.1 hno g s hg

/-- succeeding -/
theorem parse_all {b : UInt8} {nv np : Nat} (ha : arity b = some (nv, np)) (vs : List (Fin 4)) (hv : vs.length = nv) (ps : List Fm) (hp : ps.length = np) (cur : List UInt8) :
    ∃ f : Fm, f.op = b ∧ f.vars = vs ∧ f.parts = ps ∧ parse (b :: (vs.map vb ++ ((ps.map Fm.text).flatten ++ cur))) = some (f, cur) := by
  obtain ⟨f, rfl, rfl, rfl⟩ := arity_mk ha vs ps hv hp
  exact ⟨f, rfl, rfl, rfl, parse_some.2 (by rw [Fm.text_eq]; simp)⟩

theorem Fm.text_pos (f : Fm) : 0 < f.text.length := by rw [Fm.text_eq]; simp

/-! ### where a formula ends -/

noncomputable def endI (l : List UInt8) (k : Nat) : Int := match parse (l.drop k) with | some (f, _) => ((k + f.text.length : Nat) : Int) | none => -1

theorem endI_some {l : List UInt8} {k : Nat} {f : Fm} {r : List UInt8} (h : l.drop k = f.text ++ r) : endI l k = ((k + f.text.length : Nat) : Int) := by
  unfold endI; rw [parse_some.2 h]

theorem endI_none {l : List UInt8} {k : Nat} (h : parse (l.drop k) = none) : endI l k = -1 := by
  unfold endI; rw [h]

theorem endI_cases (l : List UInt8) (k : Nat) : (parse (l.drop k) = none ∧ endI l k = -1) ∨ ∃ (f : Fm) (r : List UInt8), l.drop k = f.text ++ r ∧ endI l k = ((k + f.text.length : Nat) : Int) := by
  cases h : parse (l.drop k) with
  | none => exact .inl ⟨rfl, endI_none h⟩
  | some x => exact .inr ⟨x.1, x.2, parse_some.1 h, endI_some (parse_some.1 h)⟩

theorem drop_add_of {l : List UInt8} {k : Nat} {p r : List UInt8} (h : l.drop k = p ++ r) : l.drop (k + p.length) = r := by
  rw [← List.drop_drop, h]; simp

theorem endI_le {l : List UInt8} {k : Nat} (hk : k ≤ l.length) : -1 ≤ endI l k ∧ endI l k ≤ l.length := by
  rcases endI_cases l k with ⟨_, h⟩ | ⟨f, r, h1, h⟩
  · rw [h]; omega
  · rw [h]
    have := congrArg List.length h1
    simp at this
    omega

theorem endI_end {l : List UInt8} {k : Nat} (h : l.length ≤ k) : endI l k = -1 := endI_none (by rw [List.drop_eq_nil_of_le h]; exact parse_nil)

theorem endI_bad {l : List UInt8} {k : Nat} {b : UInt8} {r : List UInt8} (h : l.drop k = b :: r) (ha : arity b = none) : endI l k = -1 := endI_none (by rw [h]; exact parse_bad ha)

theorem endI_leaf {l : List UInt8} {k : Nat} {b : UInt8} {r : List UInt8} (h : l.drop k = b :: r) (ha : arity b = some (0, 0)) : endI l k = (k + 1 : Nat) := by
  obtain ⟨f, rfl, h1, h2, h3⟩ := parse_all ha [] rfl [] rfl r
  rw [endI_some (f := f) (r := r) (parse_some.1 (by rw [h]; simpa using h3)), Fm.text_eq, h1, h2]
  simp

/-- the variable at an index, or -1 -/
def varI (l : List UInt8) (k : Nat) : Int := match l[k]? with | some b => (match varOf b with | some v => (v.val : Int) | none => -1) | none => -1

theorem varI_le (l : List UInt8) (k : Nat) : -1 ≤ varI l k ∧ varI l k ≤ 3 := by
  unfold varI
  split
  · split
    · rename_i v _; have := v.isLt; omega
    · omega
  · omega

theorem varI_neg {l : List UInt8} {k : Nat} (h : varI l k < 0) : ∀ v r, l.drop k ≠ vb v :: r := by
  intro v r e
  have : l[k]? = some (vb v) := by
    have h2 : (l.drop k)[0]? = some (vb v) := by rw [e]; rfl
    simpa using h2
  unfold varI at h
  rw [this] at h
  simp only [varOf_vb] at h
  omega

theorem varI_pos {l : List UInt8} {k : Nat} (h : 0 ≤ varI l k) : ∃ v : Fin 4, varI l k = v.val ∧ l.drop k = vb v :: l.drop (k + 1) := by
  unfold varI at h ⊢
  cases hl : l[k]? with
  | none => rw [hl] at h; simp at h
  | some b =>
    rw [hl] at h
    simp only at h ⊢
    cases hv : varOf b with
    | none => rw [hv] at h; simp at h
    | some v =>
      refine ⟨v, rfl, ?_⟩
      obtain ⟨hlt, hb⟩ := List.getElem?_eq_some_iff.1 hl
      rw [List.drop_eq_getElem_cons hlt, hb, varOf_some.1 hv]

theorem endI_var_no {l : List UInt8} {k : Nat} {b : UInt8} {r : List UInt8} {nv np : Nat} (h : l.drop k = b :: r) (ha : arity b = some (nv, np)) (hnv : 0 < nv) (hv : varI l (k + 1) < 0) : endI l k = -1 := by
  have hr : l.drop (k + 1) = r := drop_add_of (p := [b]) (by simpa using h)
  have := parse_no_var ha [] r (by simpa using hnv) (fun v s e => varI_neg hv v s (by rw [hr, e]))
  exact endI_none (by rw [h]; simpa using this)

theorem endI_var2_no {l : List UInt8} {k : Nat} {b : UInt8} {r : List UInt8} {np : Nat} (h : l.drop k = b :: r) (ha : arity b = some (2, np)) (hv : 0 ≤ varI l (k + 1)) (hw : varI l (k + 2) < 0) : endI l k = -1 := by
  have hr : l.drop (k + 1) = r := drop_add_of (p := [b]) (by simpa using h)
  obtain ⟨v, _, h1⟩ := varI_pos hv
  have := parse_no_var ha [v] (l.drop (k + 2)) (by simp) (fun v s e => varI_neg hw v s e)
  exact endI_none (by rw [h, ← hr, h1]; simpa using this)

theorem endI_var1 {l : List UInt8} {k : Nat} {b : UInt8} {r : List UInt8} (h : l.drop k = b :: r) (ha : arity b = some (1, 0)) (hv : 0 ≤ varI l (k + 1)) : endI l k = (k + 2 : Nat) := by
  have hr : l.drop (k + 1) = r := drop_add_of (p := [b]) (by simpa using h)
  obtain ⟨v, _, h1⟩ := varI_pos hv
  obtain ⟨f, rfl, e1, e2, h3⟩ := parse_all ha [v] rfl [] rfl (l.drop (k + 2))
  rw [endI_some (f := f) (r := l.drop (k + 2)) (parse_some.1 (by rw [h, ← hr, h1]; simpa using h3)), Fm.text_eq, e1, e2]
  simp

theorem endI_var2 {l : List UInt8} {k : Nat} {b : UInt8} {r : List UInt8} (h : l.drop k = b :: r) (ha : arity b = some (2, 0)) (hv : 0 ≤ varI l (k + 1)) (hw : 0 ≤ varI l (k + 2)) : endI l k = (k + 3 : Nat) := by
  have hr : l.drop (k + 1) = r := drop_add_of (p := [b]) (by simpa using h)
  obtain ⟨v, _, h1⟩ := varI_pos hv
  obtain ⟨v2, _, h2⟩ := varI_pos hw
  obtain ⟨f, rfl, e1, e2, h3⟩ := parse_all ha [v, v2] rfl [] rfl (l.drop (k + 3))
  rw [endI_some (f := f) (r := l.drop (k + 3)) (parse_some.1 (by rw [h, ← hr, h1, h2]; simpa using h3)), Fm.text_eq, e1, e2]
  simp

theorem endI_neg {l : List UInt8} {k : Nat} {b : UInt8} {r : List UInt8} (h : l.drop k = b :: r) (ha : arity b = some (0, 1)) : endI l k = endI l (k + 1) := by
  have hr : l.drop (k + 1) = r := drop_add_of (p := [b]) (by simpa using h)
  rcases endI_cases l (k + 1) with ⟨h1, h2⟩ | ⟨p, s, h1, h2⟩
  · rw [h2]
    have := parse_no_part ha [] rfl [] r (by simp) (by rw [← hr]; exact h1)
    exact endI_none (by rw [h]; simpa using this)
  · rw [h2]
    obtain ⟨f, rfl, e1, e2, h3⟩ := parse_all ha [] rfl [p] rfl s
    rw [endI_some (f := f) (r := s) (parse_some.1 (by rw [h, ← hr, h1]; simpa using h3)), Fm.text_eq, e1, e2]
    simp; omega

theorem endI_qu {l : List UInt8} {k : Nat} {b : UInt8} {r : List UInt8} (h : l.drop k = b :: r) (ha : arity b = some (1, 1)) (hv : 0 ≤ varI l (k + 1)) : endI l k = endI l (k + 2) := by
  have hr : l.drop (k + 1) = r := drop_add_of (p := [b]) (by simpa using h)
  obtain ⟨v, _, hv1⟩ := varI_pos hv
  rcases endI_cases l (k + 2) with ⟨h1, h2⟩ | ⟨p, s, h1, h2⟩
  · rw [h2]
    have := parse_no_part ha [v] rfl [] (l.drop (k + 2)) (by simp) h1
    exact endI_none (by rw [h, ← hr, hv1]; simpa using this)
  · rw [h2]
    obtain ⟨f, rfl, e1, e2, h3⟩ := parse_all ha [v] rfl [p] rfl s
    rw [endI_some (f := f) (r := s) (parse_some.1 (by rw [h, ← hr, hv1, h1]; simpa using h3)), Fm.text_eq, e1, e2]
    simp; omega

theorem endI_two_no {l : List UInt8} {k : Nat} {b : UInt8} {r : List UInt8} (h : l.drop k = b :: r) (ha : arity b = some (0, 2)) (h1 : endI l (k + 1) < 0) : endI l k = -1 := by
  have hr : l.drop (k + 1) = r := drop_add_of (p := [b]) (by simpa using h)
  rcases endI_cases l (k + 1) with ⟨h2, _⟩ | ⟨p, s, _, h2⟩
  · have := parse_no_part ha [] rfl [] r (by simp) (by rw [← hr]; exact h2)
    exact endI_none (by rw [h]; simpa using this)
  · rw [h2] at h1; omega

theorem endI_two {l : List UInt8} {k : Nat} {b : UInt8} {r : List UInt8} {m : Nat} (h : l.drop k = b :: r) (ha : arity b = some (0, 2)) (h1 : endI l (k + 1) = (m : Int)) : endI l k = endI l m := by
  have hr : l.drop (k + 1) = r := drop_add_of (p := [b]) (by simpa using h)
  rcases endI_cases l (k + 1) with ⟨_, h2⟩ | ⟨p, s, hp, h2⟩
  · rw [h2] at h1; omega
  · have hm : m = k + 1 + p.text.length := by rw [h2] at h1; omega
    have hs : l.drop m = s := by rw [hm]; exact drop_add_of hp
    rcases endI_cases l m with ⟨g1, g2⟩ | ⟨q, s2, g1, g2⟩
    · rw [g2]
      have := parse_no_part ha [] rfl [p] s (by simp) (by rw [← hs]; exact g1)
      exact endI_none (by rw [h, ← hr, hp]; simpa using this)
    · rw [g2]
      obtain ⟨f, rfl, e1, e2, h3⟩ := parse_all ha [] rfl [p, q] rfl s2
      rw [endI_some (f := f) (r := s2) (parse_some.1 (by rw [h, ← hr, hp, ← hs, g1]; simpa using h3)), Fm.text_eq, e1, e2]
      simp; omega

/-! ### formulas of at most 4000 bytes -/

/-- a text is a formula -/
def IsFm (l : List UInt8) : Prop := l.length ≤ 4000 ∧ ∃ f : Fm, l = f.text

theorem isFm_iff {l : List UInt8} : IsFm l ↔ l.length ≤ 4000 ∧ endI l 0 = l.length := by
  unfold IsFm
  constructor
  · rintro ⟨h, f, rfl⟩
    exact ⟨h, by rw [endI_some (f := f) (r := []) (by simp)]; simp⟩
  · rintro ⟨h, e⟩
    refine ⟨h, ?_⟩
    rcases endI_cases l 0 with ⟨_, h2⟩ | ⟨f, r, h1, h2⟩
    · rw [h2] at e; omega
    · refine ⟨f, ?_⟩
      have h3 : f.text.length = l.length := by rw [h2] at e; omega
      have h4 := congrArg List.length h1
      simp only [List.drop_zero, List.length_append] at h4
      have h5 : r = [] := List.eq_nil_of_length_eq_zero (by omega)
      simpa [h5] using h1

end Pl
end Go.Proofs.YtpaleogkgfclnaaGreatDoor
