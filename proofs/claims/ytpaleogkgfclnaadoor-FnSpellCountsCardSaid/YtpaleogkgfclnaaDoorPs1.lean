/-
  Laws of the functions that the claim reaches, one after the other (packed by a program of the prover's: Draw3, Draw4, Reg2, FmDraw). Conditions: texts below the reach.
-/
import Derived.Test.YtpaleogkgfclnaaDoorPs0
import Derived.Deep.RegionWith
import Derived.StillTailTactics
import Derived.Deep.CutBlock
set_option linter.unusedSimpArgs false
set_option linter.unusedVariables false

namespace Go.Proofs.YtpaleogkgfclnaaDoor
open Go.RowKit
open Pl
set_option linter.unusedSimpArgs false
set_option linter.unusedVariables false

/-- a drawn structure -/
def DrawS (rb : Nat) (A : Option Addr) (n cap p sz : Nat) (e : Ending) (w' : World) : Prop := ∃ (a : St) (p' : Nat), e = .returned (stA a) ∧ a.ok ∧ a.n = sz ∧ p' ≤ p + 100 ∧ Rd w' rb A n cap p'

/-- so many bits -/
def SzB (s : ByteArray) (k : Nat) : Prop := s.size = k ∧ bitsL s.data.toList = true
theorem szB0 : SzB (bs []) 0 := ⟨rfl, rfl⟩
theorem SzB.app {s : ByteArray} {k m : Nat} (h : SzB s k) (b : Bool) (hm : k + 1 = m) : SzB (s ++ bs [bitB b]) m := by
  refine ⟨by rw [ByteArray.size_append, h.1, ← hm]; rfl, ?_⟩
  have h2 := h.2
  rw [append_bs, bs_data, bs_data]
  unfold bitsL at *
  rw [List.all_append, h2]
  cases b <;> rfl
theorem szB_st {s r : ByteArray} {sz : Nat} (h1 : 1 ≤ sz) (h8 : sz ≤ 8) (hs : SzB s sz) (hr : SzB r (sz * sz)) : ∃ a : St, a.ok ∧ a.n = sz ∧ stV (sz : Nat) s r = stA a := by
  have hok : okB (sz : Nat) s r = true := by
    unfold okB bitsB
    rw [hs.2, hr.2, hs.1, hr.1]
    simp
    omega
  rcases ok_cases (sz : Nat) s r with h | ⟨a, ha, hn, rfl, rfl⟩
  · rw [hok] at h; cases h
  · exact ⟨a, ha, by omega, by rw [hn]⟩

/-- what lies in memory while it is drawn -/
structure DrF (w : World) (rb : Nat) (A : Option Addr) (n cap p sz : Nat) (S R : ByteArray) (V : World) : Prop where
  res : Bx V w.heap.size 27 #[.int .i64 0, .string (bs []), .string (bs [])]
  box : Bx V (w.heap.size + 1) 27 #[.int .i64 (sz : Nat), .string S, .string R]
  rd : Rd V rb A n cap p
  gr : w.grownBy V (some rb)
  rlt : rb < w.heap.size

theorem DrF.pick {w V V' : World} {rb n cap p p' sz : Nat} {A : Option Addr} {S R : ByteArray} (h : DrF w rb A n cap p sz S R V) (hr : Rd V' rb A n cap p') (hg : V.grownBy V' (some rb)) : DrF w rb A n cap p' sz S R V' := by
  have hl := h.rlt
  exact ⟨h.res.grown' hg (by simp; omega), h.box.grown' hg (by simp; omega), hr, World.grownBy.trans h.gr hg, hl⟩
theorem DrF.drew {w V : World} {rb n cap p sz : Nat} {A : Option Addr} {S R : ByteArray} (h : DrF w rb A n cap p sz S R V) : DrF w rb A n cap p sz S R V.drew :=
  ⟨h.res, h.box, ⟨h.rd.box, h.rd.row, h.rd.small, h.rd.sep⟩, ⟨h.gr.os, h.gr.tape, h.gr.output, h.gr.size, h.gr.block⟩, h.rlt⟩
theorem DrF.put {w V : World} {rb n cap p sz : Nat} {A : Option Addr} {S R S' R' : ByteArray} (h : DrF w rb A n cap p sz S R V) (j : Nat) (v : Value) (hj : (#[.int .i64 (sz : Nat), .string S, .string R] : Array Value).setIfInBounds j v = #[.int .i64 (sz : Nat), .string S', .string R']) :
    DrF w rb A n cap p sz S' R' (V.setCell ⟨w.heap.size + 1, j, none⟩ v) := by
  have hl := h.rlt
  have hw : w.heap.size + 1 < V.heap.size := h.box.lt
  have hgv : V.grownBy (V.setCell ⟨w.heap.size + 1, j, none⟩ v) (some (w.heap.size + 1)) := ⟨rfl, rfl, rfl, by simp, fun k _ hk => Below.heap_setCell V _ _ k (fun e => hk (by rw [e]))⟩
  refine ⟨h.res.far (by simp) _, by rw [← hj]; exact h.box.set j v, ⟨h.rd.box.far (by simp; omega) _, ?_, h.rd.small, h.rd.sep⟩, ⟨h.gr.os, h.gr.tape, h.gr.output, by simpa using h.gr.size, fun k hk hne => (Below.heap_setCell V ⟨w.heap.size + 1, j, none⟩ _ k (by simp; omega)).trans (h.gr.block k hk hne)⟩, hl⟩
  intro h0
  obtain ⟨x, rfl, hc⟩ := h.rd.row h0
  have hx := h.rd.sep h0 x rfl
  refine ⟨x, rfl, fun i hi => ?_⟩
  obtain ⟨b, hb, hcell⟩ := hc i hi
  refine ⟨b, hb, ?_⟩
  rw [← hcell]
  have hbl : (x.add i).block = x.block := by unfold Addr.add; split <;> rfl
  exact World.cell?_of_block (by rw [hbl]; exact Below.heap_setCell V _ _ _ (by simp; omega))

theorem rg_set {w V : World} {rb n cap p g : Nat} {A : Option Addr} (hr : Rd V rb A n cap p) (hgr : w.grownBy V (some rb)) (hl : rb < w.heap.size) (hgg : w.heap.size ≤ g) (i : Nat) (v : Value) :
    Rd (V.setCell ⟨g, i, none⟩ v) rb A n cap p ∧ w.grownBy (V.setCell ⟨g, i, none⟩ v) (some rb) := by
  refine ⟨⟨hr.box.far (by simp; omega) _, ?_, hr.small, hr.sep⟩, ⟨hgr.os, hgr.tape, hgr.output, by simpa using hgr.size, fun k hk hne => (Below.heap_setCell V ⟨g, i, none⟩ _ k (by simp; omega)).trans (hgr.block k hk hne)⟩⟩
  intro h0
  obtain ⟨x, rfl, hc⟩ := hr.row h0
  have hx := hr.sep h0 x rfl
  refine ⟨x, rfl, fun i hi => ?_⟩
  obtain ⟨b, hb, hcell⟩ := hc i hi
  refine ⟨b, hb, ?_⟩
  rw [← hcell]
  have hbl : (x.add i).block = x.block := by unfold Addr.add; split <;> rfl
  exact World.cell?_of_block (by rw [hbl]; exact Below.heap_setCell V _ _ _ (by simp; omega))

set_option maxHeartbeats 8000000 in
set_option maxRecDepth 100000 in
theorem l1Draw_calls (rb : Nat) (A : Option Addr) (n cap p sz : Nat) (w : World) (h : Rd w rb A n cap p) (hp : p ≤ 549755813888) (h1 : 1 ≤ sz) (h5 : sz ≤ 5) :
    Calls Tryd.prog 81 #[.pointer (some ⟨rb, 0, none⟩), .int .i64 (sz : Nat)] w fun e w' => DrawS rb A n cap p sz e w' ∧ w.grownBy w' (some rb) := by
  have hpk : ∀ (k : Int) (q : Nat) (V : World), k ≤ 100 → q ≤ p + 200 → Rd V rb A n cap q → Calls Tryd.prog 24 #[.pointer (some ⟨rb, 0, none⟩), .int .i64 k] V fun e w' => PickP k e ∧ Rd w' rb A n cap (q + 1) ∧ V.grownBy w' (some rb) := fun k q V hk hq hr => pick_calls rb A n cap q k V hr (by omega) (by omega)
  have hrl : rb < w.heap.size := h.box.lt
  have hf0 : DrF w rb A n cap p sz (bs []) (bs []) ((w.alloc (.cells #[.int .i64 0, .string (bs []), .string (bs [])] 27)).alloc (.cells #[.int .i64 (sz : Nat), .string (bs []), .string (bs [])] 27)) := by
    have hg : w.grownBy ((w.alloc (.cells #[.int .i64 0, .string (bs []), .string (bs [])] 27)).alloc (.cells #[.int .i64 (sz : Nat), .string (bs []), .string (bs [])] 27)) (some rb) := World.grownBy.trans (World.grownBy_alloc w _ _) (World.grownBy_alloc _ _ _)
    exact ⟨(Bx.new w _ _).alloc _, bx_two w _ _, ⟨(h.box.alloc _).alloc _, h.row.grown h.sep hrl hg, h.small, h.sep⟩, hg, hrl⟩
  have F0 := Lib.hid hf0
  have Hpk := Lib.hid hpk
  clear hpk hf0 h
  go_enter Tryd.func81, Tryd.ntmps81
  go_wp2_with fail
  refine (Hpk.out 8 p _ (by omega) (by omega) F0.out.rd).mono ?_
  rintro e w1 ⟨⟨kd, rfl, hk0, hk1, _⟩, hr, hg⟩
  have hk8 := hk1 (by omega)
  have F1 := Lib.hid (F0.out.pick hr hg)
  clear hr hg hk1
  go_wp2_with fail
  go_loopg [7] sz (fun c i wr => ∃ (k : Nat) (S R : ByteArray) (q : Nat), k + c = sz ∧ i = .int .i64 k ∧ DrF w rb A n cap q sz S R wr ∧ SzB S k ∧ SzB R (k * sz) ∧ q ≤ p + 1 + k * 6)
  case atStart => exact ⟨0, _, _, p + 1, by omega, rfl, F1.out, szB0, by rw [Nat.zero_mul]; exact szB0, by omega⟩
  case round =>
    clear F0 F1
    obtain ⟨k, S, R, q, hk, rfl, hf, hS, hR, hq⟩ := hrel
    have F0 := Lib.hid hf
    by_cases hlt : k < sz
    · have hki : (k : Int) < (sz : Int) := by omega
      have c1 := hf.box.cell 1
      have f1 := hf.box.free 1
      simp at c1
      have hS8 : S.size ≤ 8 := by have := hS.1; omega
      have HR := Lib.hid hR
      have HS := Lib.hid hS
      clear hf hR hS
      go_upto_region 6 with (fail)
      go_cut [] (fun wx => ∃ (S2 : ByteArray) (q2 : Nat), DrF w rb A n cap q2 sz S2 R wx ∧ SzB S2 (k + 1) ∧ q2 ≤ q + 1)
      case first =>
        by_cases hkd : 2 < kd
        · have hd : decide (2 < kd) = true := decide_eq_true hkd
          have s2 : ∀ b : Bool, (bs [bitB b]).size = 1 := fun b => by rw [bs_size]; rfl
          have Hs2 := Lib.hid s2
          clear s2
          go_region_with (first | (go_at_call 24; refine (Hpk.out 3 q _ (by omega) (by omega) F0.out.drew.rd).mono ?_; rintro e w2 ⟨⟨m, rfl, hm0, hm1, _⟩, hr, hg⟩; have F2 := Lib.hid (F0.out.drew.pick hr hg); clear hr hg hm1; have c2 := F2.out.box.cell 1; have f2 := F2.out.box.free 1; simp at c2; have g2 := Hs2.out (m == 0)) | (go_at_call 94; refine (l1Bit_calls _ _).mono ?_; rintro e w3 ⟨rfl, rfl⟩))
          all_goals
            go_wp2_with fail
            go_meet
            case rel => exact ⟨_, q + 1, F2.out.put 1 (.string (S ++ bs [bitB (m == 0)])) rfl, HS.out.app _ rfl, by omega⟩
        · have hd : decide (2 < kd) = false := decide_eq_false hkd
          have g2 : (bs [bitB false]).size = 1 := by rw [bs_size]; rfl
          have g3 : (bs [bitB false]).size ≤ 1 := by omega
          go_still_tail 12, (by kernel_rfl)
          still_call ((l1Bit_calls false _).mono fun _ _ ⟨h1, h2⟩ => ⟨h1, h2.symm⟩)
          refine wpStill_step (fun K hK => ?_)
          go_simp
          rw [if_neg (by omega)]
          refine ⟨rfl, hK _ ?_⟩
          clear hK K
          repeat still_step
          refine wpStill_nil ?_
          change wpList _ _ _ _ _ wr.drew
          have c2 : wr.drew.cell? ⟨w.heap.size + 1, 1, none⟩ = some (.string S) := c1
          have f2 : wr.drew.frozen? ⟨w.heap.size + 1, 1, none⟩ = false := f1
          all_goals
            go_wp2_with fail
            go_meet
            case rel => exact ⟨_, q, F0.out.drew.put 1 (.string (S ++ bs [bitB false])) rfl, HS.out.app _ rfl, by omega⟩
      case rest =>
        obtain ⟨S2, q2, hf2, hS2, hq2⟩ := hcut
        have F2 := Lib.hid hf2
        have HS2 := Lib.hid hS2
        clear hf2 hS2 c1 f1 hS8 HS F0
        go_wp2_with fail
        go_loopg [8] sz (fun c i wr => ∃ (j : Nat) (R3 : ByteArray) (q3 : Nat), j + c = sz ∧ i = .int .i64 j ∧ DrF w rb A n cap q3 sz S2 R3 wr ∧ SzB R3 (k * sz + j) ∧ q3 ≤ q2 + j)
        case atStart => exact ⟨0, R, q2, by omega, rfl, F2.out, HR.out, by omega⟩
        case round =>
          clear F2
          obtain ⟨j, R3, q3, hj, rfl, hf3, hR3, hq3⟩ := hrel
          have F3 := Lib.hid hf3
          clear hf3
          by_cases hlj : j < sz
          · have hji : (j : Int) < (sz : Int) := by omega
            have HR3 := Lib.hid hR3
            have hR8 : R3.size ≤ 100 := by
              have h1 : k * sz ≤ 5 * 5 := Nat.mul_le_mul (by omega) h5
              have h2 := hR3.1
              omega
            clear hR3
            go_wp2_with fail
            refine (Hpk.out 3 q3 _ (by omega) (by omega) F3.out.rd).mono ?_
            rintro e w4 ⟨⟨m, rfl, hm0, hm1, _⟩, hr, hg⟩
            have F4 := Lib.hid (F3.out.pick hr hg)
            clear hr hg hm1
            have c1 := F4.out.box.cell 2
            have f1 := F4.out.box.free 2
            simp at c1
            by_cases hkj : k = j
            · have hkj' : j = k := hkj.symm
              subst hkj'
              clear hkj
              go_upto_block 4 with (fail)
              go_cut [9] (fun v wx => (∃ b : Bool, v = .bool b) ∧ w4 = wx)
              case first =>
                go_wp2_with fail
                all_goals
                  go_meet
                  case rel => exact ⟨⟨_, rfl⟩, rfl⟩
              case rest =>
                obtain ⟨⟨b, rfl⟩, hwx⟩ := hcut
                subst hwx
                have g2 : (bs [bitB b]).size = 1 := by rw [bs_size]; rfl
                have g3 : (bs [bitB b]).size ≤ 1 := by omega
                go_upto_region 24 with (fail)
                go_still_tail 6, (by kernel_rfl)
                still_call ((l1Bit_calls b _).mono fun _ _ ⟨h1, h2⟩ => ⟨h1, h2.symm⟩)
                refine wpStill_step (fun K hK => ?_)
                go_simp
                rw [if_neg (by omega)]
                refine ⟨rfl, hK _ ?_⟩
                clear hK K
                repeat still_step
                refine wpStill_nil ?_
                have c2 : w4.drew.cell? ⟨w.heap.size + 1, 2, none⟩ = some (.string R3) := c1
                have f2 : w4.drew.frozen? ⟨w.heap.size + 1, 2, none⟩ = false := f1
                change wpList _ _ _ _ _ w4.drew
                go_wp2_with fail
                go_roundg (sz - j - 1)
                case rel => exact ⟨j + 1, _, q3 + 1, by omega, by go_num, F4.out.drew.put 2 (.string (R3 ++ bs [bitB b])) rfl, HR3.out.app _ (by omega), by omega⟩
                case measure => omega
            · by_cases hj1 : j = k + 1
              · subst hj1
                clear hkj
                go_upto_block 4 with (fail)
                go_cut [9] (fun v wx => (∃ b : Bool, v = .bool b) ∧ w4 = wx)
                case first =>
                  go_wp2_with fail
                  all_goals
                    go_meet
                    case rel => exact ⟨⟨_, rfl⟩, rfl⟩
                case rest =>
                  obtain ⟨⟨b, rfl⟩, hwx⟩ := hcut
                  subst hwx
                  have g2 : (bs [bitB b]).size = 1 := by rw [bs_size]; rfl
                  have g3 : (bs [bitB b]).size ≤ 1 := by omega
                  go_upto_region 24 with (fail)
                  go_still_tail 6, (by kernel_rfl)
                  still_call ((l1Bit_calls b _).mono fun _ _ ⟨h1, h2⟩ => ⟨h1, h2.symm⟩)
                  refine wpStill_step (fun K hK => ?_)
                  go_simp
                  rw [if_neg (by omega)]
                  refine ⟨rfl, hK _ ?_⟩
                  clear hK K
                  repeat still_step
                  refine wpStill_nil ?_
                  have c2 : w4.drew.cell? ⟨w.heap.size + 1, 2, none⟩ = some (.string R3) := c1
                  have f2 : w4.drew.frozen? ⟨w.heap.size + 1, 2, none⟩ = false := f1
                  change wpList _ _ _ _ _ w4.drew
                  go_wp2_with fail
                  go_roundg (sz - (k + 1) - 1)
                  case rel => exact ⟨k + 1 + 1, _, q3 + 1, by omega, by go_num, F4.out.drew.put 2 (.string (R3 ++ bs [bitB b])) rfl, HR3.out.app _ (by omega), by omega⟩
                  case measure => omega
              · by_cases hk1' : k = j + 1
                · subst hk1'
                  clear hkj hj1
                  go_upto_block 4 with (fail)
                  go_cut [9] (fun v wx => (∃ b : Bool, v = .bool b) ∧ w4 = wx)
                  case first =>
                    go_wp2_with fail
                    all_goals
                      go_meet
                      case rel => exact ⟨⟨_, rfl⟩, rfl⟩
                  case rest =>
                    obtain ⟨⟨b, rfl⟩, hwx⟩ := hcut
                    subst hwx
                    have g2 : (bs [bitB b]).size = 1 := by rw [bs_size]; rfl
                    have g3 : (bs [bitB b]).size ≤ 1 := by omega
                    go_upto_region 24 with (fail)
                    go_still_tail 6, (by kernel_rfl)
                    still_call ((l1Bit_calls b _).mono fun _ _ ⟨h1, h2⟩ => ⟨h1, h2.symm⟩)
                    refine wpStill_step (fun K hK => ?_)
                    go_simp
                    rw [if_neg (by omega)]
                    refine ⟨rfl, hK _ ?_⟩
                    clear hK K
                    repeat still_step
                    refine wpStill_nil ?_
                    have c2 : w4.drew.cell? ⟨w.heap.size + 1, 2, none⟩ = some (.string R3) := c1
                    have f2 : w4.drew.frozen? ⟨w.heap.size + 1, 2, none⟩ = false := f1
                    change wpList _ _ _ _ _ w4.drew
                    go_wp2_with fail
                    go_roundg (sz - j - 1)
                    case rel => exact ⟨j + 1, _, q3 + 1, by omega, by go_num, F4.out.drew.put 2 (.string (R3 ++ bs [bitB b])) rfl, HR3.out.app _ (by omega), by omega⟩
                    case measure => omega
                · have e1 : ((k : Int) == (j : Int)) = false := by simp; omega
                  have e2 : ((k : Int) != (j : Int)) = true := by simp; omega
                  have e3 : ¬ (k : Int) = (j : Int) := by omega
                  have e4 : ((j : Int) == (k : Int) + 1) = false := by simp; omega
                  have e5 : ((k : Int) == (j : Int) + 1) = false := by simp; omega
                  have Hkj := Lib.hid hkj
                  have Hj1 := Lib.hid hj1
                  have Hk1 := Lib.hid hk1'
                  clear hkj hj1 hk1'
                  go_upto_block 4 with (fail)
                  go_cut [9] (fun v wx => (∃ b : Bool, v = .bool b) ∧ w4 = wx)
                  case first =>
                    go_wp2_with fail
                    all_goals
                      go_meet
                      case rel => exact ⟨⟨_, rfl⟩, rfl⟩
                  case rest =>
                    obtain ⟨⟨b, rfl⟩, hwx⟩ := hcut
                    subst hwx
                    have g2 : (bs [bitB b]).size = 1 := by rw [bs_size]; rfl
                    have g3 : (bs [bitB b]).size ≤ 1 := by omega
                    go_upto_region 24 with (fail)
                    go_still_tail 6, (by kernel_rfl)
                    still_call ((l1Bit_calls b _).mono fun _ _ ⟨h1, h2⟩ => ⟨h1, h2.symm⟩)
                    refine wpStill_step (fun K hK => ?_)
                    go_simp
                    rw [if_neg (by omega)]
                    refine ⟨rfl, hK _ ?_⟩
                    clear hK K
                    repeat still_step
                    refine wpStill_nil ?_
                    have c2 : w4.drew.cell? ⟨w.heap.size + 1, 2, none⟩ = some (.string R3) := c1
                    have f2 : w4.drew.frozen? ⟨w.heap.size + 1, 2, none⟩ = false := f1
                    change wpList _ _ _ _ _ w4.drew
                    go_wp2_with fail
                    go_roundg (sz - j - 1)
                    case rel => exact ⟨j + 1, _, q3 + 1, by omega, by go_num, F4.out.drew.put 2 (.string (R3 ++ bs [bitB b])) rfl, HR3.out.app _ (by omega), by omega⟩
                    case measure => omega
          · have hji : ¬ (j : Int) < (sz : Int) := by omega
            obtain rfl : sz = j := by omega
            have HR3 := Lib.hid hR3
            clear hR3
            go_wp2_with fail
            go_roundg (sz - k - 1)
            case rel => exact ⟨k + 1, S2, R3, q3, by omega, by go_num, F3.out, HS2.out, by rw [Nat.succ_mul]; exact HR3.out, by omega⟩
            case measure => omega
    · have hki : ¬ (k : Int) < (sz : Int) := by omega
      obtain rfl : sz = k := by omega
      have f0 := hf.res.free 0
      have f1 := hf.res.free 1
      have f2 := hf.res.free 2
      obtain ⟨c0, c1, c2⟩ := box_load hf.res
      obtain ⟨d0, d1, d2⟩ := box_load hf.box
      have y1 := ((hf.res.set 0 (.int .i64 (sz : Nat))).set 1 (.string S)).set 2 (.string R)
      obtain ⟨q0, q1, q2⟩ := box_load (a := .int .i64 (sz : Nat)) (b := .string S) (c := .string R) y1
      have HR := Lib.hid hR
      have HS := Lib.hid hS
      have Hq := Lib.hid hq
      have F9 := Lib.hid hf
      clear y1 hR hS hf
      go_wp2_with fail
      have g0 := rg_set F9.out.rd F9.out.gr F9.out.rlt (Nat.le_refl _) 0 (.int .i64 (sz : Nat))
      have g1 := rg_set g0.1 g0.2 F9.out.rlt (Nat.le_refl _) 1 (.string S)
      have g2 := rg_set g1.1 g1.2 F9.out.rlt (Nat.le_refl _) 2 (.string R)
      obtain ⟨a, ha, han, hae⟩ := szB_st h1 (by omega) HS.out HR.out
      refine bodyPost_ret (v := stV (sz : Nat) S R) ?_ rfl ⟨⟨a, q, by rw [hae], ha, han, by have := Hq.out; omega, g2.1⟩, g2.2⟩
      simp [results, Tryd.results81, go_sem, q0, q1, q2]

end Go.Proofs.YtpaleogkgfclnaaDoor

namespace Go.Proofs.YtpaleogkgfclnaaDoor
open Go.RowKit
open Pl
set_option linter.unusedSimpArgs false
set_option linter.unusedVariables false

theorem ncells_new (w : World) (zs : List Int) (t : TypeId) : NCells (w.alloc (.cells (zs.map (Value.int .i64)).toArray t)) w.heap.size zs := fun i hi => by
  rw [(Bx.new w t _).cell i]
  simp [List.getD, hi]
theorem scells_new (w : World) (ss : List ByteArray) (t : TypeId) : SCells (w.alloc (.cells (ss.map Value.string).toArray t)) w.heap.size ss := fun i hi => by
  rw [(Bx.new w t _).cell i]
  simp [List.getD, hi]

/-- behind a block that is made -/
theorem Rd.alloc {w : World} {rb n cap p : Nat} {A : Option Addr} (h : Rd w rb A n cap p) (o : Obj) : Rd (w.alloc o) rb A n cap p :=
  ⟨h.box.alloc o, h.row.grown h.sep h.box.lt (World.grownBy_alloc w o _), h.small, h.sep⟩
theorem Rd.drew {w : World} {rb n cap p : Nat} {A : Option Addr} (h : Rd w rb A n cap p) : Rd w.drew rb A n cap p := ⟨h.box, h.row, h.small, h.sep⟩
theorem gr_refl (w : World) (r : Option Nat) : w.grownBy w r := ⟨rfl, rfl, rfl, Nat.le_refl _, fun _ _ _ => rfl⟩
theorem gr_alloc {w V : World} {r : Option Nat} (h : w.grownBy V r) (o : Obj) : w.grownBy (V.alloc o) r := World.grownBy.trans h (World.grownBy_alloc V o r)
theorem gr_drew {w V : World} {r : Option Nat} (h : w.grownBy V r) : w.grownBy V.drew r := ⟨h.os, h.tape, h.output, h.size, h.block⟩
theorem gr_below {w V : World} {r : Option Nat} (h : Below w.heap.size w V) : w.grownBy V r := ⟨h.os, h.tape, h.output, h.size, fun k hk _ => h.block k hk⟩
theorem Rd.call {w w' : World} {rb n cap p : Nat} {A : Option Addr} (h : Rd w rb A n cap p) (hb : Below w.heap.size w w') : Rd w' rb A n cap p :=
  ⟨h.box.call hb, h.row.grown h.sep h.box.lt (gr_below hb), h.small, h.sep⟩

/-- what is known of the memory while something is drawn: the reader, the frame -/
structure Dw (w : World) (rb : Nat) (A : Option Addr) (n cap p : Nat) (V : World) : Prop where
  rd : Rd V rb A n cap p
  gr : w.grownBy V (some rb)
  rlt : rb < w.heap.size

theorem Dw.new {w : World} {rb n cap p : Nat} {A : Option Addr} (h : Rd w rb A n cap p) : Dw w rb A n cap p w := ⟨h, gr_refl _ _, h.box.lt⟩
theorem Dw.alloc {w V : World} {rb n cap p : Nat} {A : Option Addr} (h : Dw w rb A n cap p V) (o : Obj) : Dw w rb A n cap p (V.alloc o) := ⟨h.rd.alloc o, gr_alloc h.gr o, h.rlt⟩
theorem Dw.drew {w V : World} {rb n cap p : Nat} {A : Option Addr} (h : Dw w rb A n cap p V) : Dw w rb A n cap p V.drew := ⟨h.rd.drew, gr_drew h.gr, h.rlt⟩
theorem Dw.step {w V V' : World} {rb n cap p p' : Nat} {A : Option Addr} (h : Dw w rb A n cap p V) (hr : Rd V' rb A n cap p') (hg : V.grownBy V' (some rb)) : Dw w rb A n cap p' V' := ⟨hr, World.grownBy.trans h.gr hg, h.rlt⟩
theorem Dw.call {w V V' : World} {rb n cap p : Nat} {A : Option Addr} (h : Dw w rb A n cap p V) (hb : Below V.heap.size V V') : Dw w rb A n cap p V' := ⟨h.rd.call hb, World.grownBy.trans h.gr (gr_below hb), h.rlt⟩
/-- a block of one's own is written -/
theorem Dw.put {w V : World} {rb n cap p : Nat} {A : Option Addr} (h : Dw w rb A n cap p V) {g : Nat} (hg : w.heap.size ≤ g) (i : Nat) (v : Value) : Dw w rb A n cap p (V.setCell ⟨g, i, none⟩ v) := by
  obtain ⟨h1, h2⟩ := rg_set h.rd h.gr h.rlt hg i v
  exact ⟨h1, h2, h.rlt⟩
theorem Dw.puts {w V : World} {rb n cap p : Nat} {A : Option Addr} (h : Dw w rb A n cap p V) {g : Nat} (hg : w.heap.size ≤ g) (s0 s1 s2 : Value) :
    Dw w rb A n cap p (((V.setCell ⟨g, 0, none⟩ s0).setCell ⟨g, 1, none⟩ s1).setCell ⟨g, 2, none⟩ s2) := ((h.put hg 0 s0).put hg 1 s1).put hg 2 s2
/-- a block of one's own behind a call that draws -/
theorem Bx.dw {V V' : World} {g rb : Nat} {t : TypeId} {cs : Array Value} (h : Bx V g t cs) (hg : V.grownBy V' (some rb)) (hne : rb < g) : Bx V' g t cs := h.grown' hg (by simp; omega)
theorem Bx.puts {V : World} {g : Nat} {t : TypeId} {r0 r1 r2 : Value} (h : Bx V g t #[r0, r1, r2]) (s0 s1 s2 : Value) : Bx (((V.setCell ⟨g, 0, none⟩ s0).setCell ⟨g, 1, none⟩ s1).setCell ⟨g, 2, none⟩ s2) g t #[s0, s1, s2] :=
  ((h.set 0 s0).set 1 s1).set 2 s2

/-! ### a text many times -/
theorem many_odd {x y c : Nat} (hc : c % 2 = 1) (h : x + y * c ≤ 81) : x + y + (y + y) * (c / 2) ≤ 81 ∧ y ≤ 81 ∧ x ≤ 81 := by
  obtain ⟨q, rfl⟩ : ∃ q, c = 2 * q + 1 := ⟨c / 2, by omega⟩
  have e : (2 * q + 1) / 2 = q := by omega
  rw [e]
  have e2 : y * (2 * q + 1) = y + (y + y) * q := by rw [Nat.mul_add, Nat.add_mul, Nat.mul_one, ← Nat.mul_assoc, Nat.mul_comm y 2, Nat.two_mul, Nat.add_mul, Nat.add_comm]
  rw [e2] at h
  refine ⟨by omega, by omega, by omega⟩
theorem many_even {x y c : Nat} (hc : c % 2 = 0) (h1 : 0 < c) (h : x + y * c ≤ 81) : x + (y + y) * (c / 2) ≤ 81 ∧ y ≤ 81 ∧ x ≤ 81 := by
  obtain ⟨q, rfl⟩ : ∃ q, c = 2 * q := ⟨c / 2, by omega⟩
  have e : (2 * q) / 2 = q := by omega
  rw [e]
  have e2 : y * (2 * q) = (y + y) * q := by rw [← Nat.mul_assoc, Nat.mul_comm y 2, Nat.two_mul]
  rw [e2] at h
  have h2 : (y + y) * 1 ≤ (y + y) * q := Nat.mul_le_mul_left _ (by omega)
  refine ⟨by omega, by omega, by omega⟩

set_option maxHeartbeats 1000000 in
theorem l15Many_calls (s : ByteArray) (n : Nat) (w : World) (h : s.size * n ≤ 81) (hn : n ≤ 81) :
    Calls Tryd.prog 80 #[.string s, .int .i64 (n : Nat)] w fun e w' => (∃ t : ByteArray, e = .returned (.string t) ∧ t.size ≤ 81) ∧ w = w' := by
  have H := Lib.hid h
  clear h
  go_enter Tryd.func80, Tryd.ntmps80
  go_wp2_with fail
  go_loopg [0, 1, 5] n (fun c' s' n' o wr => ∃ (c : Nat) (S O : ByteArray), c = c' ∧ s' = .string S ∧ n' = .int .i64 (c : Nat) ∧ o = .string O ∧ O.size + S.size * c ≤ 81 ∧ c ≤ 81 ∧ w = wr)
  case atStart => exact ⟨n, _, bs [], rfl, rfl, rfl, rfl, by have := H.out; have h0 : (bs []).size = 0 := rfl; omega, hn, rfl⟩
  case round =>
    obtain ⟨c, S, O, rfl, rfl, rfl, rfl, hO, hc, rfl⟩ := hrel
    by_cases h0 : 0 < c
    · have hi : (0 : Int) < (c : Int) := by omega
      have hi2 : (c : Int) ≤ 81 := by omega
      have hdiv : (c : Int) / 2 = ((c / 2 : Nat) : Int) := rfl
      by_cases hp : c % 2 = 1
      · obtain ⟨h1, h2, h3⟩ := many_odd hp hO
        have hpi : (c : Int) % 2 = 1 := by omega
        have hpb : ((c : Int) % 2 == 1) = true := by rw [hpi]; rfl
        have H1 := Lib.hid h1
        have Hd := Lib.hid hdiv
        clear hO h1 hdiv hp hpi
        go_wp2_with fail
        go_roundg (c / 2)
        case rel => exact ⟨_, _, _, rfl, rfl, (by first | rfl | rw [← Hd.out]), rfl, by rw [ByteArray.size_append, ByteArray.size_append]; exact H1.out, by omega, rfl⟩
        case measure => omega
      · have hp0 : c % 2 = 0 := by omega
        obtain ⟨h1, h2, h3⟩ := many_even hp0 h0 hO
        have hpb : ((c : Int) % 2 == 1) = false := by
          have : (c : Int) % 2 = 0 := by omega
          rw [this]; rfl
        have hpi : ¬ (c : Int) % 2 = 1 := by omega
        have H1 := Lib.hid h1
        have Hd := Lib.hid hdiv
        clear hO h1 hdiv hp hp0
        go_wp2_with fail
        go_roundg (c / 2)
        case rel => exact ⟨_, _, _, rfl, rfl, (by first | rfl | rw [← Hd.out]), rfl, by rw [ByteArray.size_append]; exact H1.out, by omega, rfl⟩
        case measure => omega
    · obtain rfl : c = 0 := by omega
      have hO2 : O.size ≤ 81 := by simpa using hO
      have HO := Lib.hid hO2
      clear hO hO2
      go_wp2_with fail
      go_ret
      exact ⟨⟨_, rfl, HO.out⟩, rfl⟩

/-! ### a small structure -/
def SomeS (rb : Nat) (A : Option Addr) (n cap p : Nat) (e : Ending) (w' : World) : Prop := ∃ (a : St) (p' : Nat), e = .returned (stA a) ∧ a.ok ∧ a.n ≤ 5 ∧ p' ≤ p + 101 ∧ Rd w' rb A n cap p'

set_option maxHeartbeats 1000000 in
theorem l1Some_calls (rb : Nat) (A : Option Addr) (n cap p : Nat) (w : World) (h : Rd w rb A n cap p) (hp : p ≤ 549755800000) :
    Calls Tryd.prog 55 #[.pointer (some ⟨rb, 0, none⟩)] w fun e w' => SomeS rb A n cap p e w' ∧ w.grownBy w' (some rb) := by
  have hnum : ∀ (g : Nat) (W : World), NCells W g [3, 4, 2, 1, 5, 3] → g ≠ rb → Rd W rb A n cap p → Calls Tryd.prog 79 #[.pointer (some ⟨rb, 0, none⟩), .slice (some ⟨g, 0, none⟩) 6 6] W fun e w' => (∃ k : Nat, e = .returned (.int .i64 k) ∧ 1 ≤ k ∧ k ≤ 5) ∧ Rd w' rb A n cap (p + 1) ∧ W.grownBy w' (some rb) :=
    fun g W h1 h2 h3 => (num_calls rb A n cap p g 6 [3, 4, 2, 1, 5, 3] W h3 (by omega) (by simp) (by simp) h1 h2).mono fun e w' ⟨⟨m, h4, h5⟩, h6⟩ => by
      simp only [List.mem_cons, List.not_mem_nil, or_false] at h5
      exact ⟨⟨m.toNat, by rw [h4]; congr 2; omega, by omega, by omega⟩, h6⟩
  have hdr : ∀ (k : Nat) (W : World), 1 ≤ k → k ≤ 5 → Rd W rb A n cap (p + 1) → Calls Tryd.prog 81 #[.pointer (some ⟨rb, 0, none⟩), .int .i64 (k : Nat)] W fun e w' => DrawS rb A n cap (p + 1) k e w' ∧ W.grownBy w' (some rb) :=
    fun k W h1 h2 h3 => l1Draw_calls rb A n cap (p + 1) k W h3 (by omega) h1 h2
  have D0 := Lib.hid (((Dw.new h).alloc (.cells #[.int .i64 0, .string (bs []), .string (bs [])] 27)).alloc (.cells #[.int .i64 3, .int .i64 4, .int .i64 2, .int .i64 1, .int .i64 5, .int .i64 3] 3))
  have X0 := Lib.hid ((Bx.new w 27 #[.int .i64 0, .string (bs []), .string (bs [])]).alloc (.cells #[.int .i64 3, .int .i64 4, .int .i64 2, .int .i64 1, .int .i64 5, .int .i64 3] 3))
  have N0 := Lib.hid (ncells_new (w.alloc (.cells #[.int .i64 0, .string (bs []), .string (bs [])] 27)) [3, 4, 2, 1, 5, 3] 3)
  have Hnum := Lib.hid hnum
  have Hdr := Lib.hid hdr
  have hrl := h.box.lt
  clear hnum hdr h
  go_enter Tryd.func55, Tryd.ntmps55
  go_wp2_with fail
  refine (Hnum.out _ _ (by have := N0.out; simpa using this) (by omega) D0.out.rd).mono ?_
  rintro e w1 ⟨⟨k, rfl, hk1, hk5⟩, hr, hg⟩
  have D1 := Lib.hid (D0.out.step hr hg)
  have X1 := Lib.hid (X0.out.dw hg hrl)
  clear hr hg
  go_wp2_with fail
  refine (Hdr.out k _ hk1 hk5 D1.out.rd).mono ?_
  rintro e w2 ⟨⟨a, p', rfl, ha, han, hp', hr⟩, hg⟩
  have D2 := Lib.hid (D1.out.step hr hg)
  have hax := X1.out.dw hg hrl
  obtain ⟨c0, c1, c2⟩ := box_load hax
  have f0 := hax.free 0
  have f1 := hax.free 1
  have f2 := hax.free 2
  have D3 := Lib.hid (D2.out.puts (Nat.le_refl _) (.int .i64 (a.n : Int)) (.string (bs a.set)) (.string (bs a.rel)))
  obtain ⟨q0, q1, q2⟩ := box_load (hax.puts (.int .i64 (a.n : Int)) (.string (bs a.set)) (.string (bs a.rel)))
  have hn5 : a.n ≤ 5 := by omega
  clear hr hg hax han
  go_wp2_with fail
  refine bodyPost_ret (v := stA a) ?_ rfl ⟨⟨a, p', rfl, ha, hn5, by omega, D3.out.rd⟩, D3.out.gr⟩
  simp [results, Tryd.results55, go_sem, q0, q1, q2]

end Go.Proofs.YtpaleogkgfclnaaDoor

namespace Go.Proofs.YtpaleogkgfclnaaDoor
namespace R2
open Go.RowKit
set_option linter.unusedVariables false

section
variable {P : Program} {ops : Array Oper} {Q : Exit → Act → World → Prop} {md : Region.Mode} {S : World → Prop} {L : Nat}

/-- whatever order: what the loads ask holds behind each operation but number L -/
def AnyT (P : Program) (md : Region.Mode) (ops : Array Oper) (Q : Exit → Act → World → Prop) (S : World → Prop) (L : Nat) : Nat → Array Bool → Act → World → Prop
  | 0, listed, a, w => Region.ready md ops listed = [] ∧ Q .normal a w
  | n + 1, listed, a, w => (Region.ready md ops listed = [] → Q .normal a w) ∧
      ∀ i ∈ Region.ready md ops listed, wpOp P ops Q i (fun a' w' => (i ≠ L → S w') ∧ AnyT P md ops Q S L n (listed.setIfInBounds i true) a' w') a w

theorem AnyT.any : ∀ (n : Nat) (listed : Array Bool) (a : Act) (w : World), AnyT P md ops Q S L n listed a w → wpAny P md ops Q n listed a w := by
  intro n
  induction n with
  | zero => exact fun _ _ _ h => h
  | succ n ih =>
    intro listed a w h
    exact ⟨h.1, fun i hi => wpOp_mono (fun a' w' h' => ih _ a' w' h'.2) (h.2 i hi)⟩

/-- number L waits for number i -/
def waits (md : Region.Mode) (ops : Array Oper) (L i : Nat) : Bool := match ops[L]? with | some o => o.after.any fun e => Region.binds md e && e.on == i | none => false

theorem not_unlisted {listed : Array Bool} {i : Nat} (hiu : listed.getD i true = false) (h : listed.getD i false = true) : False := by
  rcases Nat.lt_or_ge i listed.size with h' | h'
  · simp [h'] at hiu h; rw [hiu] at h; cases h
  · simp [Array.getElem?_eq_none h'] at hiu

theorem waits_not {listed : Array Bool} {i : Nat} (hw : waits md ops L i = true) (hiu : listed.getD i true = false) : L ∉ Region.ready md ops listed := fun hr => by
  obtain ⟨_, o, ho, hall⟩ := mem_ready.1 hr
  unfold waits at hw
  rw [ho] at hw
  simp only [Array.any_eq_true', Bool.and_eq_true, beq_iff_eq] at hw
  obtain ⟨e, he, hb, rfl⟩ := hw
  exact not_unlisted hiu (by simpa using hall e he hb)

/-- an operation that yields under S, and for which number L waits, may be taken first -/
theorem AnyT.first {i : Nat} {oi : Oper} {v : Value} (hi : ops[i]? = some oi) (hwt : waits md ops L i = true) (hsel : ∀ (j : Nat) (o : Oper) cs b, ops[j]? = some o → o.op ≠ .select cs b)
    (hQ : ∀ c a w, Q (.panic c) (a.put oi.dst v) w → Q (.panic c) a w) : ∀ (n : Nat) (listed : Array Bool) (a : Act) (w : World),
      (∀ j oj, ops[j]? = some oj → j ≠ i → listed.getD j true = false → (∀ e ∈ oj.after, Region.binds md e = true → e.on ≠ i) → oi.apart ops oj = true) →
      i ∈ Region.ready md ops listed → YieldsIf P ops S oi v a → S w → AnyT P md ops Q S L n (listed.setIfInBounds i true) (a.put oi.dst v) w → AnyT P md ops Q S L (n + 1) listed a w := by
  intro n
  induction n with
  | zero =>
    intro listed a w _ hr hy hS H
    refine ⟨fun h => absurd hr (by simp [h]), fun j hj => ?_⟩
    by_cases hne : j = i
    · subst hne
      exact hy.wpOp hi hS ⟨fun _ => hS, H⟩
    · have h0 := ready_mono hj hne
      rw [H.1] at h0
      cases h0
  | succ n ih =>
    intro listed a w hfree hr hy hS H
    refine ⟨fun h => absurd hr (by simp [h]), fun j hj => ?_⟩
    by_cases hne : j = i
    · subst hne
      exact hy.wpOp hi hS ⟨fun _ => hS, H⟩
    · obtain ⟨hju, oj, hoj, hall⟩ := mem_ready.1 hj
      have hiu := (mem_ready.1 hr).1
      have hjL : j ≠ L := fun e => waits_not hwt hiu (e ▸ hj)
      have hno : ∀ e ∈ oj.after, Region.binds md e = true → e.on ≠ i := fun e he hb heq => not_unlisted hiu (by have := hall e he hb; rw [heq] at this; simpa using this)
      have h2 := wpOp_putIf hoj (hfree j oj hoj hne hju hno) (fun cs b => hsel i oi cs b hi) (fun cs b => hsel j oj cs b hoj) hQ hy (H.2 j (ready_mono hj hne))
      refine wpOp_mono (fun a' w' h3 => ⟨fun _ => h3.2.1 hjL, ih _ a' w' (fun k ok hk hki hun hnk => hfree k ok hk hki ?_ hnk) (ready_mono hr (Ne.symm hne)) h3.1 (h3.2.1 hjL) ?_⟩) h2
      · by_cases hjk : j = k
        · subst hjk; exact hju
        · rwa [getD_set_ne true hjk] at hun
      · rw [Array.setIfInBounds_comm _ _ hne]
        exact h3.2.2

/-- the order laid -/
def okT (md : Region.Mode) (ops : Array Oper) (L : Nat) : List (Nat × Bool) → Array Bool → Bool
  | [], listed => (Region.ready md ops listed).isEmpty
  | (i, true) :: is, listed => waits md ops L i && (Region.free md ops listed i && ((Region.ready md ops listed).contains i && okT md ops L is (listed.setIfInBounds i true)))
  | (i, false) :: is, listed => (Region.ready md ops listed == [i]) && ((is.isEmpty || i != L) && okT md ops L is (listed.setIfInBounds i true))

def wpT (P : Program) (ops : Array Oper) (Q : Exit → Act → World → Prop) (S : World → Prop) : List (Nat × Bool) → Act → World → Prop
  | [], a, w => Q .normal a w
  | (i, true) :: is, a, w => ∃ o v, ops[i]? = some o ∧ YieldsIf P ops S o v a ∧ wpT P ops Q S is (a.put o.dst v) w
  | (i, false) :: is, a, w => wpOp P ops Q i (fun a' w' => (is.isEmpty = true ∨ S w') ∧ wpT P ops Q S is a' w') a w

theorem anyT_of (hs : Region.noSelect ops = true) (hQ : ∀ t c a w, Q (.panic c) { a with tmps := t } w → Q (.panic c) a w) :
    ∀ (is : List (Nat × Bool)) (listed : Array Bool) (a : Act) (w : World), okT md ops L is listed = true → (is.isEmpty = true ∨ S w) → (∀ p ∈ is.getLast?, p = (L, false)) → wpT P ops Q S is a w → AnyT P md ops Q S L is.length listed a w := by
  intro is
  induction is with
  | nil => intro listed a w h _ _ hw; exact ⟨by simpa [okT] using h, hw⟩
  | cons p is ih =>
    obtain ⟨i, b⟩ := p
    intro listed a w h hS hl hw
    have hSw : S w := hS.resolve_left (by simp)
    have hl2 : ∀ p ∈ is.getLast?, p = (L, false) := fun p hp => hl p (by
      cases is with
      | nil => simp at hp
      | cons q t => simpa [List.getLast?_cons_cons] using hp)
    cases b with
    | true =>
      simp only [okT, Bool.and_eq_true] at h
      obtain ⟨o, v, ho, hy, hr⟩ := hw
      refine AnyT.first ho h.1 (Region.noSelect_spec hs) (fun c a w h => by cases hd : o.dst with | none => rw [hd] at h; exact h | some d => rw [hd] at h; exact hQ _ c a w h) _ _ _ _ (Region.free_spec ho h.2.1) (by simpa using h.2.2.1) hy hSw (ih _ _ _ h.2.2.2 (.inr hSw) hl2 hr)
    | false =>
      simp only [okT, Bool.and_eq_true, beq_iff_eq] at h
      obtain ⟨h1, h2, h3⟩ := h
      refine ⟨fun h0 => absurd (h1 ▸ h0) (by simp), fun j hj => ?_⟩
      obtain rfl : j = i := by rw [h1] at hj; simpa using hj
      refine wpOp_mono (fun a' w' hk => ⟨fun hne => ?_, ih _ _ _ h3 hk.1 hl2 hk.2⟩) hw
      rcases hk.1 with he | hSw'
      · rw [List.isEmpty_iff] at he
        subst he
        have := hl (j, false) (by simp)
        exact absurd (Prod.mk.inj this).1 hne
      · exact hSw'

/-- the same, behind a name that nothing unfolds -/
structure Sd (P : Program) (ops : Array Oper) (Q : Exit → Act → World → Prop) (S : World → Prop) (is : List (Nat × Bool)) (a : Act) (w : World) : Prop where
  out : wpT P ops Q S is a w

/-- a region that draws, by an order that is laid; number L, the last one, may break what the loads ask -/
theorem region_sched {id : Nat} {a : Act} {w : World} (is : List (Nat × Bool)) (L : Nat) (S : World → Prop) (hm : P.follows .mixedOrders = true) (hs : Region.noSelect ops = true) (hl : is.length = ops.size)
    (hk : okT .any ops L is (Array.replicate ops.size false) = true) (hlast : is.getLast? = some (L, false)) (hQ : ∀ t c a w, Q (.panic c) { a with tmps := t } w → Q (.panic c) a w) (hS : S w.drew)
    (h : ∀ Q' : Exit → Act → World → Prop, Hid (∀ a' w', Q .normal a' w' → Q' .normal a' w') → Sd P ops Q' S is a w.drew) : (Code.region id ops true).wp P Q a w := by
  refine wp_region_any hm ?_
  have h2 := anyT_of (md := .any) (S := S) (L := L) hs hQ is (Array.replicate ops.size false) a w.drew hk (.inr hS) (fun p hp => by rw [hlast] at hp; exact (Option.some.inj hp).symm) (h Q (Lib.hid fun _ _ h => h)).out
  rw [hl] at h2
  exact AnyT.any _ _ _ _ h2

theorem sched_call {i : Nat} {is : List (Nat × Bool)} {a : Act} {w : World} {o : Oper} (ho : ops[i]? = some o) (hw : Region.wanted o (yielded ops a.tmps) = true)
    (h : ∀ K : Act → World → Prop, Hid (∀ a' w', S w' → Sd P ops Q S is a' w' → K a' w') → o.wp P a w K Q) : Sd P ops Q S ((i, false) :: is) a w := by
  refine ⟨?_⟩
  show wpOp P ops Q i _ a w
  unfold wpOp
  simp only [ho, hw, if_true]
  exact .inl (h _ (Lib.hid fun _ _ h1 h2 => ⟨.inr h1, h2.out⟩))
theorem sched_last {i : Nat} {a : Act} {w : World} {o : Oper} (ho : ops[i]? = some o) (hw : Region.wanted o (yielded ops a.tmps) = true)
    (h : ∀ K : Act → World → Prop, Hid (∀ a' w', Sd P ops Q S [] a' w' → K a' w') → o.wp P a w K Q) : Sd P ops Q S [(i, false)] a w := by
  refine ⟨?_⟩
  show wpOp P ops Q i _ a w
  unfold wpOp
  simp only [ho, hw, if_true]
  exact .inl (h _ (Lib.hid fun _ _ h2 => ⟨.inl rfl, h2.out⟩))
theorem sched_take' {i : Nat} {is : List (Nat × Bool)} {a : Act} {w : World} {o : Oper} {v : Value} {a' : Act} (ho : ops[i]? = some o) (hw : Region.wanted o (yielded ops a.tmps) = true) (hy : ∀ w, S w → (execOp a.eval o).run P w = .ok (.value v) w)
    {d : Tmp} (hd : o.dst = some d) (ha : a.put (some d) v = a') (h : Sd P ops Q S is a' w) : Sd P ops Q S ((i, true) :: is) a w := ⟨⟨o, v, ho, .inl ⟨hw, hy⟩, by rw [hd, ha]; exact h.out⟩⟩
theorem sched_lay {is : List (Nat × Bool)} {a a' : Act} {w : World} (ha : a = a') (h : Sd P ops Q S is a' w) : Sd P ops Q S is a w := by rw [ha]; exact h
theorem sched_done {a : Act} {w : World} (h : Q .normal a w) : Sd P ops Q S [] a w := ⟨h⟩
end
end R2
end Go.Proofs.YtpaleogkgfclnaaDoor

namespace Go.Proofs.YtpaleogkgfclnaaDoor
open Go.RowKit
open Pl
set_option linter.unusedSimpArgs false
set_option linter.unusedVariables false

/-- a drawn text -/
def FmD (rb : Nat) (A : Option Addr) (n cap p B D : Nat) (e : Ending) (w' : World) : Prop := ∃ (t : ByteArray) (p' : Nat), e = .returned (.string t) ∧ 0 < t.size ∧ t.size ≤ B ∧ p' ≤ p + D ∧ Rd w' rb A n cap p'
theorem FmD.mono {rb n cap p B D p2 B2 D2 : Nat} {A : Option Addr} {e : Ending} {w' : World} (h : FmD rb A n cap p B D e w') (hB : B ≤ B2) (hD : p + D ≤ p2 + D2) : FmD rb A n cap p2 B2 D2 e w' := by
  obtain ⟨t, p', h1, h2, h3, h4, h5⟩ := h
  exact ⟨t, p', h1, h2, by omega, by omega, h5⟩

set_option maxHeartbeats 8000000 in
set_option maxRecDepth 100000 in
theorem l2Draw_calls (rb : Nat) (A : Option Addr) (n cap : Nat) (vs : ByteArray) (hv0 : 0 < vs.size) (hv4 : vs.size ≤ 4) (c : Bool) : ∀ (d : Nat), d ≤ 4 → ∀ (p : Nat) (w : World), Rd w rb A n cap p → p + (12 * 2 ^ d - 6) ≤ 500000000000 →
    Calls Tryd.prog 28 #[.pointer (some ⟨rb, 0, none⟩), .int .i64 (d : Nat), .string vs, .bool c] w fun e w' => FmD rb A n cap p (4 * 2 ^ d - 1) (12 * 2 ^ d - 6) e w' ∧ w.grownBy w' (some rb) := by
  intro d
  induction d with
  | zero =>
    intro _ p w h hp
    have hvi : (vs.size : Int) ≤ 4 := by omega
    have Hpk := Lib.hid (show ∀ (k : Int) (q : Nat) (V : World), k ≤ 1000 → q ≤ 1000000000000 → Rd V rb A n cap q → Calls Tryd.prog 24 #[.pointer (some ⟨rb, 0, none⟩), .int .i64 k] V fun e w' => PickP k e ∧ Rd w' rb A n cap (q + 1) ∧ V.grownBy w' (some rb) from fun k q V hk hq hr => pick_calls rb A n cap q k V hr (by omega) (by omega))
    have Hof1 := Lib.hid (show ∀ (g q : Nat) (W : World), SCells W g [bs [116], bs [102]] → g ≠ rb → q ≤ 1000000000000 → Rd W rb A n cap q → Calls Tryd.prog 27 #[.pointer (some ⟨rb, 0, none⟩), .slice (some ⟨g, 0, none⟩) 2 2] W fun e w' => (∃ t : ByteArray, e = .returned (.string t) ∧ 1 ≤ t.size ∧ t.size ≤ 1) ∧ Rd w' rb A n cap (q + 1) ∧ W.grownBy w' (some rb) from
      fun g q W h1 h2 h4 h3 => (of_calls rb A n cap q g 2 [bs [116], bs [102]] W h3 (by omega) (by simp) (by simp) h1 h2).mono fun e w' ⟨⟨m, h4, h5⟩, h6⟩ => ⟨⟨m, h4, by
        simp only [List.mem_cons, List.not_mem_nil, or_false] at h5
        rcases h5 with rfl | rfl <;> decide⟩, h6⟩)
    have D0 := Lib.hid (Dw.new h)
    have hrl := h.box.lt
    clear h
    go_enter Tryd.func28, Tryd.ntmps28
    go_wp2_with fail
    refine (Hpk.out 12 (p) _ (by omega) (by omega) D0.out.rd).mono ?_
    rintro e w1 ⟨⟨k, rfl, k0, k1, _⟩, hr, hg⟩
    have D1 := Lib.hid (D0.out.step hr hg)
    clear hr hg
    have k12 := k1 (by omega)
    clear k1
    go_wp2_with fail
    refine (Hpk.out (vs.size : Int) (p + 1) _ (by omega) (by omega) D1.out.rd).mono ?_
    rintro e w2 ⟨⟨v, rfl, v0, v1, _⟩, hr, hg⟩
    have D2 := Lib.hid (D1.out.step hr hg)
    clear hr hg
    have vlt := v1 (by omega)
    clear v1
    go_wp2_with fail
    refine (Hpk.out (vs.size : Int) (p + 1 + 1) _ (by omega) (by omega) D2.out.rd).mono ?_
    rintro e w3 ⟨⟨u, rfl, u0, u1, _⟩, hr, hg⟩
    have D3 := Lib.hid (D2.out.step hr hg)
    clear hr hg
    have ult := u1 (by omega)
    clear u1
    obtain ⟨vn, rfl⟩ : ∃ x : Nat, v = (x : Nat) := ⟨v.toNat, by omega⟩
    obtain ⟨un, rfl⟩ : ∃ x : Nat, u = (x : Nat) := ⟨u.toNat, by omega⟩
    have hwv : IntKind.i64.wrap ((vn : Int) + 1) = (vn : Int) + 1 := IntWalk.i64_in _ (by omega)
    have hwu : IntKind.i64.wrap ((un : Int) + 1) = (un : Int) + 1 := IntWalk.i64_in _ (by omega)
    have hev : (vs.extract vn (vn + 1)).size = 1 := by rw [ByteArray.size_extract]; omega
    have heu : (vs.extract un (un + 1)).size = 1 := by rw [ByteArray.size_extract]; omega
    go_wp2_with fail
    refine (Hpk.out 8 (p + 1 + 1 + 1) _ (by omega) (by omega) D3.out.rd).mono ?_
    rintro e w6 ⟨⟨m, rfl, m0, m1, _⟩, hr, hg⟩
    have D3L := Lib.hid (D3.out.step hr hg)
    clear hr hg
    have m8 := m1 (by omega)
    clear m1
    by_cases e0 : m = 0
    · subst e0
      have D3a := Lib.hid (D3L.out.alloc (.cells #[.string ⟨#[116]⟩, .string ⟨#[102]⟩] 9))
      have ND3a := Lib.hid (scells_new w6 [bs [116], bs [102]] 9)
      have hszw7 := D3L.out.rd.box.lt
      go_wp2_with fail
      refine (Hof1.out _ (p + 1 + 1 + 1 + 1) _ (by exact ND3a.out) (by omega) (by omega) D3a.out.rd).mono ?_
      rintro e w7 ⟨⟨t, rfl, t0, t1⟩, hr, hg⟩
      have D3b := Lib.hid (D3a.out.step hr hg)
      clear hr hg
      go_wp2_with fail
      go_ret
      exact ⟨⟨_, p + 1 + 1 + 1 + 1 + 1, rfl, by
          have e1 : ∀ x : UInt8, (ByteArray.mk #[x]).size = 1 := fun _ => rfl
          first | omega | (simp only [ByteArray.size_append, ByteArray.size_extract, e1]; omega),
        by
          have e1 : ∀ x : UInt8, (ByteArray.mk #[x]).size = 1 := fun _ => rfl
          first | omega | (simp only [ByteArray.size_append, ByteArray.size_extract, e1]; omega), by omega, (D3b.out).rd⟩, (D3b.out).gr⟩
    · have f0 : (m == 0) = false := by rw [beq_eq_false_iff_ne]; exact e0
      by_cases e1 : m = 1 ∨ m = 2
      · rcases e1 with e1 | e1
        · subst e1
          go_wp2_with fail
          go_ret
          exact ⟨⟨_, p + 1 + 1 + 1 + 1, rfl, by
              have e1 : ∀ x : UInt8, (ByteArray.mk #[x]).size = 1 := fun _ => rfl
              first | omega | (simp only [ByteArray.size_append, ByteArray.size_extract, e1]; omega),
            by
              have e1 : ∀ x : UInt8, (ByteArray.mk #[x]).size = 1 := fun _ => rfl
              first | omega | (simp only [ByteArray.size_append, ByteArray.size_extract, e1]; omega), by omega, (D3L.out).rd⟩, (D3L.out).gr⟩
        · subst e1
          go_wp2_with fail
          go_ret
          exact ⟨⟨_, p + 1 + 1 + 1 + 1, rfl, by
              have e1 : ∀ x : UInt8, (ByteArray.mk #[x]).size = 1 := fun _ => rfl
              first | omega | (simp only [ByteArray.size_append, ByteArray.size_extract, e1]; omega),
            by
              have e1 : ∀ x : UInt8, (ByteArray.mk #[x]).size = 1 := fun _ => rfl
              first | omega | (simp only [ByteArray.size_append, ByteArray.size_extract, e1]; omega), by omega, (D3L.out).rd⟩, (D3L.out).gr⟩
      · have f1 : (m == 1) = false := by rw [beq_eq_false_iff_ne]; omega
        have f2 : (m == 2) = false := by rw [beq_eq_false_iff_ne]; omega
        by_cases e3 : m = 3
        · subst e3
          go_upto_region 12 with (fail)
          refine region_sched [(0, true), (1, true), (2, true), (3, true), (4, true), (5, true), (6, true), (7, true), (8, true), (9, true), (10, true), (11, true), (12, true)] (fun _ : World => True) (by kernel_rfl) (by kernel_rfl) (by kernel_rfl) (by kernel_rfl) (fun _ _ _ _ h => h) ?_ (fun Q1 hQ1 => ?_)
          · exact True.intro
          try simp only [List.append]
          refine sched_take' (v := ?_) (a' := ?_) rfl (by kernel_rfl) ?_ rfl ?_ ?_
          rotate_left 2
          · intro w hSw
            (try dsimp only at hSw)
            go_simp
            try with_reducible rfl
          · (try simp only [Act.put, List.setIfInBounds_toArray, List.set_cons_zero, List.set_cons_succ])
            try rfl
          refine sched_take' (v := ?_) (a' := ?_) rfl (by kernel_rfl) ?_ rfl ?_ ?_
          rotate_left 2
          · intro w hSw
            (try dsimp only at hSw)
            go_simp
            try with_reducible rfl
          · (try simp only [Act.put, List.setIfInBounds_toArray, List.set_cons_zero, List.set_cons_succ])
            try rfl
          refine sched_take' (v := ?_) (a' := ?_) rfl (by kernel_rfl) ?_ rfl ?_ ?_
          rotate_left 2
          · intro w hSw
            (try dsimp only at hSw)
            go_simp
            try with_reducible rfl
          · (try simp only [Act.put, List.setIfInBounds_toArray, List.set_cons_zero, List.set_cons_succ])
            try rfl
          refine sched_take' (v := .int .i64 ((vn : Int) + 1)) (a' := ?_) rfl (by kernel_rfl) ?_ rfl ?_ ?_
          rotate_left 1
          · intro w hSw
            (try dsimp only at hSw)
            go_simp
            first | done | (simp [hwv]; done) | rw [hwv]
          · (try simp only [Act.put, List.setIfInBounds_toArray, List.set_cons_zero, List.set_cons_succ])
            try rfl
          refine sched_take' (v := .string (vs.extract vn (vn + 1))) (a' := ?_) rfl (by kernel_rfl) ?_ rfl ?_ ?_
          rotate_left 1
          · intro w hSw
            (try dsimp only at hSw)
            go_simp
            first | done | (rw [if_pos ⟨by omega, by omega⟩, if_pos (by omega)] <;> first | rfl | (congr 3; omega) | (congr 4; omega))
          · (try simp only [Act.put, List.setIfInBounds_toArray, List.set_cons_zero, List.set_cons_succ])
            try rfl
          refine sched_take' (v := ?_) (a' := ?_) rfl (by kernel_rfl) ?_ rfl ?_ ?_
          rotate_left 2
          · intro w hSw
            (try dsimp only at hSw)
            go_simp
            try with_reducible rfl
          · (try simp only [Act.put, List.setIfInBounds_toArray, List.set_cons_zero, List.set_cons_succ])
            try rfl
          refine sched_take' (v := ?_) (a' := ?_) rfl (by kernel_rfl) ?_ rfl ?_ ?_
          rotate_left 2
          · intro w hSw
            (try dsimp only at hSw)
            go_simp
            try with_reducible rfl
          · (try simp only [Act.put, List.setIfInBounds_toArray, List.set_cons_zero, List.set_cons_succ])
            try rfl
          refine sched_take' (v := ?_) (a' := ?_) rfl (by kernel_rfl) ?_ rfl ?_ ?_
          rotate_left 2
          · intro w hSw
            (try dsimp only at hSw)
            go_simp
            try with_reducible rfl
          · (try simp only [Act.put, List.setIfInBounds_toArray, List.set_cons_zero, List.set_cons_succ])
            try rfl
          refine sched_take' (v := ?_) (a' := ?_) rfl (by kernel_rfl) ?_ rfl ?_ ?_
          rotate_left 2
          · intro w hSw
            (try dsimp only at hSw)
            go_simp
            try with_reducible rfl
          · (try simp only [Act.put, List.setIfInBounds_toArray, List.set_cons_zero, List.set_cons_succ])
            try rfl
          refine sched_take' (v := .int .i64 ((un : Int) + 1)) (a' := ?_) rfl (by kernel_rfl) ?_ rfl ?_ ?_
          rotate_left 1
          · intro w hSw
            (try dsimp only at hSw)
            go_simp
            first | done | (simp [hwu]; done) | rw [hwu]
          · (try simp only [Act.put, List.setIfInBounds_toArray, List.set_cons_zero, List.set_cons_succ])
            try rfl
          refine sched_take' (v := .string (vs.extract un (un + 1))) (a' := ?_) rfl (by kernel_rfl) ?_ rfl ?_ ?_
          rotate_left 1
          · intro w hSw
            (try dsimp only at hSw)
            go_simp
            first | done | (rw [if_pos ⟨by omega, by omega⟩, if_pos (by omega)] <;> first | rfl | (congr 3; omega) | (congr 4; omega))
          · (try simp only [Act.put, List.setIfInBounds_toArray, List.set_cons_zero, List.set_cons_succ])
            try rfl
          refine sched_take' (v := ?_) (a' := ?_) rfl (by kernel_rfl) ?_ rfl ?_ ?_
          rotate_left 2
          · intro w hSw
            (try dsimp only at hSw)
            go_simp
            try with_reducible rfl
          · (try simp only [Act.put, List.setIfInBounds_toArray, List.set_cons_zero, List.set_cons_succ])
            try rfl
          refine sched_take' (v := ?_) (a' := ?_) rfl (by kernel_rfl) ?_ rfl ?_ ?_
          rotate_left 2
          · intro w hSw
            (try dsimp only at hSw)
            go_simp
            try with_reducible rfl
          · (try simp only [Act.put, List.setIfInBounds_toArray, List.set_cons_zero, List.set_cons_succ])
            try rfl
          refine sched_done (hQ1.out _ _ ?_)
          go_wp2_with fail
          go_ret
          exact ⟨⟨_, p + 1 + 1 + 1 + 1, rfl, by
              have e1 : ∀ x : UInt8, (ByteArray.mk #[x]).size = 1 := fun _ => rfl
              first | omega | (simp only [ByteArray.size_append, ByteArray.size_extract, e1]; omega),
            by
              have e1 : ∀ x : UInt8, (ByteArray.mk #[x]).size = 1 := fun _ => rfl
              first | omega | (simp only [ByteArray.size_append, ByteArray.size_extract, e1]; omega), by omega, (D3L.out.drew).rd⟩, (D3L.out.drew).gr⟩
        · have f3 : (m == 3) = false := by rw [beq_eq_false_iff_ne]; exact e3
          go_upto_region 13 with (fail)
          refine region_sched [(0, true), (1, true), (2, true), (3, true), (4, true), (5, true), (6, true), (7, true), (8, true), (9, true), (10, true), (11, true), (12, true)] (fun _ : World => True) (by kernel_rfl) (by kernel_rfl) (by kernel_rfl) (by kernel_rfl) (fun _ _ _ _ h => h) ?_ (fun Q1 hQ1 => ?_)
          · exact True.intro
          try simp only [List.append]
          refine sched_take' (v := ?_) (a' := ?_) rfl (by kernel_rfl) ?_ rfl ?_ ?_
          rotate_left 2
          · intro w hSw
            (try dsimp only at hSw)
            go_simp
            try with_reducible rfl
          · (try simp only [Act.put, List.setIfInBounds_toArray, List.set_cons_zero, List.set_cons_succ])
            try rfl
          refine sched_take' (v := ?_) (a' := ?_) rfl (by kernel_rfl) ?_ rfl ?_ ?_
          rotate_left 2
          · intro w hSw
            (try dsimp only at hSw)
            go_simp
            try with_reducible rfl
          · (try simp only [Act.put, List.setIfInBounds_toArray, List.set_cons_zero, List.set_cons_succ])
            try rfl
          refine sched_take' (v := ?_) (a' := ?_) rfl (by kernel_rfl) ?_ rfl ?_ ?_
          rotate_left 2
          · intro w hSw
            (try dsimp only at hSw)
            go_simp
            try with_reducible rfl
          · (try simp only [Act.put, List.setIfInBounds_toArray, List.set_cons_zero, List.set_cons_succ])
            try rfl
          refine sched_take' (v := .int .i64 ((vn : Int) + 1)) (a' := ?_) rfl (by kernel_rfl) ?_ rfl ?_ ?_
          rotate_left 1
          · intro w hSw
            (try dsimp only at hSw)
            go_simp
            first | done | (simp [hwv]; done) | rw [hwv]
          · (try simp only [Act.put, List.setIfInBounds_toArray, List.set_cons_zero, List.set_cons_succ])
            try rfl
          refine sched_take' (v := .string (vs.extract vn (vn + 1))) (a' := ?_) rfl (by kernel_rfl) ?_ rfl ?_ ?_
          rotate_left 1
          · intro w hSw
            (try dsimp only at hSw)
            go_simp
            first | done | (rw [if_pos ⟨by omega, by omega⟩, if_pos (by omega)] <;> first | rfl | (congr 3; omega) | (congr 4; omega))
          · (try simp only [Act.put, List.setIfInBounds_toArray, List.set_cons_zero, List.set_cons_succ])
            try rfl
          refine sched_take' (v := ?_) (a' := ?_) rfl (by kernel_rfl) ?_ rfl ?_ ?_
          rotate_left 2
          · intro w hSw
            (try dsimp only at hSw)
            go_simp
            try with_reducible rfl
          · (try simp only [Act.put, List.setIfInBounds_toArray, List.set_cons_zero, List.set_cons_succ])
            try rfl
          refine sched_take' (v := ?_) (a' := ?_) rfl (by kernel_rfl) ?_ rfl ?_ ?_
          rotate_left 2
          · intro w hSw
            (try dsimp only at hSw)
            go_simp
            try with_reducible rfl
          · (try simp only [Act.put, List.setIfInBounds_toArray, List.set_cons_zero, List.set_cons_succ])
            try rfl
          refine sched_take' (v := ?_) (a' := ?_) rfl (by kernel_rfl) ?_ rfl ?_ ?_
          rotate_left 2
          · intro w hSw
            (try dsimp only at hSw)
            go_simp
            try with_reducible rfl
          · (try simp only [Act.put, List.setIfInBounds_toArray, List.set_cons_zero, List.set_cons_succ])
            try rfl
          refine sched_take' (v := ?_) (a' := ?_) rfl (by kernel_rfl) ?_ rfl ?_ ?_
          rotate_left 2
          · intro w hSw
            (try dsimp only at hSw)
            go_simp
            try with_reducible rfl
          · (try simp only [Act.put, List.setIfInBounds_toArray, List.set_cons_zero, List.set_cons_succ])
            try rfl
          refine sched_take' (v := .int .i64 ((un : Int) + 1)) (a' := ?_) rfl (by kernel_rfl) ?_ rfl ?_ ?_
          rotate_left 1
          · intro w hSw
            (try dsimp only at hSw)
            go_simp
            first | done | (simp [hwu]; done) | rw [hwu]
          · (try simp only [Act.put, List.setIfInBounds_toArray, List.set_cons_zero, List.set_cons_succ])
            try rfl
          refine sched_take' (v := .string (vs.extract un (un + 1))) (a' := ?_) rfl (by kernel_rfl) ?_ rfl ?_ ?_
          rotate_left 1
          · intro w hSw
            (try dsimp only at hSw)
            go_simp
            first | done | (rw [if_pos ⟨by omega, by omega⟩, if_pos (by omega)] <;> first | rfl | (congr 3; omega) | (congr 4; omega))
          · (try simp only [Act.put, List.setIfInBounds_toArray, List.set_cons_zero, List.set_cons_succ])
            try rfl
          refine sched_take' (v := ?_) (a' := ?_) rfl (by kernel_rfl) ?_ rfl ?_ ?_
          rotate_left 2
          · intro w hSw
            (try dsimp only at hSw)
            go_simp
            try with_reducible rfl
          · (try simp only [Act.put, List.setIfInBounds_toArray, List.set_cons_zero, List.set_cons_succ])
            try rfl
          refine sched_take' (v := ?_) (a' := ?_) rfl (by kernel_rfl) ?_ rfl ?_ ?_
          rotate_left 2
          · intro w hSw
            (try dsimp only at hSw)
            go_simp
            try with_reducible rfl
          · (try simp only [Act.put, List.setIfInBounds_toArray, List.set_cons_zero, List.set_cons_succ])
            try rfl
          refine sched_done (hQ1.out _ _ ?_)
          go_wp2_with fail
          go_ret
          exact ⟨⟨_, p + 1 + 1 + 1 + 1, rfl, by
              have e1 : ∀ x : UInt8, (ByteArray.mk #[x]).size = 1 := fun _ => rfl
              first | omega | (simp only [ByteArray.size_append, ByteArray.size_extract, e1]; omega),
            by
              have e1 : ∀ x : UInt8, (ByteArray.mk #[x]).size = 1 := fun _ => rfl
              first | omega | (simp only [ByteArray.size_append, ByteArray.size_extract, e1]; omega), by omega, (D3L.out.drew).rd⟩, (D3L.out.drew).gr⟩
  | succ d ih =>
    intro hd p w h hp
    have hvi : (vs.size : Int) ≤ 4 := by omega
    have ih2 := ih (by omega)
    have hpow : 2 ^ (d + 1) = 2 * 2 ^ d := by rw [Nat.pow_succ, Nat.mul_comm]
    have hpw16 : 2 ^ d ≤ 8 := by
      have : d = 0 ∨ d = 1 ∨ d = 2 ∨ d = 3 := by omega
      rcases this with rfl | rfl | rfl | rfl <;> decide
    have hpw1 : 1 ≤ 2 ^ d := Nat.one_le_two_pow
    rw [hpow] at hp ⊢
    generalize 2 ^ d = M at *
    have hdi : ((d + 1 : Nat) : Int) - 1 = (d : Nat) := by omega
    have hdw : IntKind.i64.wrap ((d : Nat) : Int) = ((d : Nat) : Int) := IntWalk.i64_in _ (by omega)
    have IH := Lib.hid ih2
    clear ih ih2 hpow
    have Hpk := Lib.hid (show ∀ (k : Int) (q : Nat) (V : World), k ≤ 1000 → q ≤ 1000000000000 → Rd V rb A n cap q → Calls Tryd.prog 24 #[.pointer (some ⟨rb, 0, none⟩), .int .i64 k] V fun e w' => PickP k e ∧ Rd w' rb A n cap (q + 1) ∧ V.grownBy w' (some rb) from fun k q V hk hq hr => pick_calls rb A n cap q k V hr (by omega) (by omega))
    have Hof1 := Lib.hid (show ∀ (g q : Nat) (W : World), SCells W g [bs [116], bs [102]] → g ≠ rb → q ≤ 1000000000000 → Rd W rb A n cap q → Calls Tryd.prog 27 #[.pointer (some ⟨rb, 0, none⟩), .slice (some ⟨g, 0, none⟩) 2 2] W fun e w' => (∃ t : ByteArray, e = .returned (.string t) ∧ 1 ≤ t.size ∧ t.size ≤ 1) ∧ Rd w' rb A n cap (q + 1) ∧ W.grownBy w' (some rb) from
      fun g q W h1 h2 h4 h3 => (of_calls rb A n cap q g 2 [bs [116], bs [102]] W h3 (by omega) (by simp) (by simp) h1 h2).mono fun e w' ⟨⟨m, h4, h5⟩, h6⟩ => ⟨⟨m, h4, by
        simp only [List.mem_cons, List.not_mem_nil, or_false] at h5
        rcases h5 with rfl | rfl <;> decide⟩, h6⟩)
    have Hof2 := Lib.hid (show ∀ (g q : Nat) (W : World), SCells W g [bs [38], bs [124]] → g ≠ rb → q ≤ 1000000000000 → Rd W rb A n cap q → Calls Tryd.prog 27 #[.pointer (some ⟨rb, 0, none⟩), .slice (some ⟨g, 0, none⟩) 2 2] W fun e w' => (∃ t : ByteArray, e = .returned (.string t) ∧ 1 ≤ t.size ∧ t.size ≤ 1) ∧ Rd w' rb A n cap (q + 1) ∧ W.grownBy w' (some rb) from
      fun g q W h1 h2 h4 h3 => (of_calls rb A n cap q g 2 [bs [38], bs [124]] W h3 (by omega) (by simp) (by simp) h1 h2).mono fun e w' ⟨⟨m, h4, h5⟩, h6⟩ => ⟨⟨m, h4, by
        simp only [List.mem_cons, List.not_mem_nil, or_false] at h5
        rcases h5 with rfl | rfl <;> decide⟩, h6⟩)
    have Hof3 := Lib.hid (show ∀ (g q : Nat) (W : World), SCells W g [bs [65], bs [83], bs [83]] → g ≠ rb → q ≤ 1000000000000 → Rd W rb A n cap q → Calls Tryd.prog 27 #[.pointer (some ⟨rb, 0, none⟩), .slice (some ⟨g, 0, none⟩) 3 3] W fun e w' => (∃ t : ByteArray, e = .returned (.string t) ∧ 1 ≤ t.size ∧ t.size ≤ 1) ∧ Rd w' rb A n cap (q + 1) ∧ W.grownBy w' (some rb) from
      fun g q W h1 h2 h4 h3 => (of_calls rb A n cap q g 3 [bs [65], bs [83], bs [83]] W h3 (by omega) (by simp) (by simp) h1 h2).mono fun e w' ⟨⟨m, h4, h5⟩, h6⟩ => ⟨⟨m, h4, by
        simp only [List.mem_cons, List.not_mem_nil, or_false] at h5
        rcases h5 with rfl | rfl | rfl <;> decide⟩, h6⟩)
    have Hof4 := Lib.hid (show ∀ (g q : Nat) (W : World), SCells W g [bs [50], bs [51], bs [50], bs [52]] → g ≠ rb → q ≤ 1000000000000 → Rd W rb A n cap q → Calls Tryd.prog 27 #[.pointer (some ⟨rb, 0, none⟩), .slice (some ⟨g, 0, none⟩) 4 4] W fun e w' => (∃ t : ByteArray, e = .returned (.string t) ∧ 1 ≤ t.size ∧ t.size ≤ 1) ∧ Rd w' rb A n cap (q + 1) ∧ W.grownBy w' (some rb) from
      fun g q W h1 h2 h4 h3 => (of_calls rb A n cap q g 4 [bs [50], bs [51], bs [50], bs [52]] W h3 (by omega) (by simp) (by simp) h1 h2).mono fun e w' ⟨⟨m, h4, h5⟩, h6⟩ => ⟨⟨m, h4, by
        simp only [List.mem_cons, List.not_mem_nil, or_false] at h5
        rcases h5 with rfl | rfl | rfl | rfl <;> decide⟩, h6⟩)
    have D0 := Lib.hid (Dw.new h)
    have hrl := h.box.lt
    have hdn : ¬ ((d + 1 : Nat) : Int) ≤ 0 := by omega
    clear h
    obtain ⟨dd, hdd⟩ : ∃ dd : Int, dd = ((d + 1 : Nat) : Int) := ⟨_, rfl⟩
    rw [← hdd] at hdi hdn ⊢
    have hd0 : 1 ≤ dd := by omega
    have hd4 : dd ≤ 4 := by omega
    clear hdd
    go_enter Tryd.func28, Tryd.ntmps28
    go_wp2_with fail
    refine (Hpk.out 12 (p) _ (by omega) (by omega) D0.out.rd).mono ?_
    rintro e w1 ⟨⟨k, rfl, k0, k1, _⟩, hr, hg⟩
    have D1 := Lib.hid (D0.out.step hr hg)
    clear hr hg
    have k12 := k1 (by omega)
    clear k1
    go_wp2_with fail
    refine (Hpk.out (vs.size : Int) (p + 1) _ (by omega) (by omega) D1.out.rd).mono ?_
    rintro e w2 ⟨⟨v, rfl, v0, v1, _⟩, hr, hg⟩
    have D2 := Lib.hid (D1.out.step hr hg)
    clear hr hg
    have vlt := v1 (by omega)
    clear v1
    go_wp2_with fail
    refine (Hpk.out (vs.size : Int) (p + 1 + 1) _ (by omega) (by omega) D2.out.rd).mono ?_
    rintro e w3 ⟨⟨u, rfl, u0, u1, _⟩, hr, hg⟩
    have D3 := Lib.hid (D2.out.step hr hg)
    clear hr hg
    have ult := u1 (by omega)
    clear u1
    obtain ⟨vn, rfl⟩ : ∃ x : Nat, v = (x : Nat) := ⟨v.toNat, by omega⟩
    obtain ⟨un, rfl⟩ : ∃ x : Nat, u = (x : Nat) := ⟨u.toNat, by omega⟩
    have hwv : IntKind.i64.wrap ((vn : Int) + 1) = (vn : Int) + 1 := IntWalk.i64_in _ (by omega)
    have hwu : IntKind.i64.wrap ((un : Int) + 1) = (un : Int) + 1 := IntWalk.i64_in _ (by omega)
    have hev : (vs.extract vn (vn + 1)).size = 1 := by rw [ByteArray.size_extract]; omega
    have heu : (vs.extract un (un + 1)).size = 1 := by rw [ByteArray.size_extract]; omega
    by_cases hk2 : k < 2
    · 
      go_wp2_with fail
      refine (Hpk.out 8 (p + 1 + 1 + 1) _ (by omega) (by omega) D3.out.rd).mono ?_
      rintro e w6 ⟨⟨m, rfl, m0, m1, _⟩, hr, hg⟩
      have D3L := Lib.hid (D3.out.step hr hg)
      clear hr hg
      have m8 := m1 (by omega)
      clear m1
      by_cases e0 : m = 0
      · subst e0
        have D3a := Lib.hid (D3L.out.alloc (.cells #[.string ⟨#[116]⟩, .string ⟨#[102]⟩] 9))
        have ND3a := Lib.hid (scells_new w6 [bs [116], bs [102]] 9)
        have hszw7 := D3L.out.rd.box.lt
        go_wp2_with fail
        refine (Hof1.out _ (p + 1 + 1 + 1 + 1) _ (by exact ND3a.out) (by omega) (by omega) D3a.out.rd).mono ?_
        rintro e w7 ⟨⟨t, rfl, t0, t1⟩, hr, hg⟩
        have D3b := Lib.hid (D3a.out.step hr hg)
        clear hr hg
        go_wp2_with fail
        go_ret
        exact ⟨⟨_, p + 1 + 1 + 1 + 1 + 1, rfl, by
            have e1 : ∀ x : UInt8, (ByteArray.mk #[x]).size = 1 := fun _ => rfl
            first | omega | (simp only [ByteArray.size_append, ByteArray.size_extract, e1]; omega),
          by
            have e1 : ∀ x : UInt8, (ByteArray.mk #[x]).size = 1 := fun _ => rfl
            first | omega | (simp only [ByteArray.size_append, ByteArray.size_extract, e1]; omega), by omega, (D3b.out).rd⟩, (D3b.out).gr⟩
      · have f0 : (m == 0) = false := by rw [beq_eq_false_iff_ne]; exact e0
        by_cases e1 : m = 1 ∨ m = 2
        · rcases e1 with e1 | e1
          · subst e1
            go_wp2_with fail
            go_ret
            exact ⟨⟨_, p + 1 + 1 + 1 + 1, rfl, by
                have e1 : ∀ x : UInt8, (ByteArray.mk #[x]).size = 1 := fun _ => rfl
                first | omega | (simp only [ByteArray.size_append, ByteArray.size_extract, e1]; omega),
              by
                have e1 : ∀ x : UInt8, (ByteArray.mk #[x]).size = 1 := fun _ => rfl
                first | omega | (simp only [ByteArray.size_append, ByteArray.size_extract, e1]; omega), by omega, (D3L.out).rd⟩, (D3L.out).gr⟩
          · subst e1
            go_wp2_with fail
            go_ret
            exact ⟨⟨_, p + 1 + 1 + 1 + 1, rfl, by
                have e1 : ∀ x : UInt8, (ByteArray.mk #[x]).size = 1 := fun _ => rfl
                first | omega | (simp only [ByteArray.size_append, ByteArray.size_extract, e1]; omega),
              by
                have e1 : ∀ x : UInt8, (ByteArray.mk #[x]).size = 1 := fun _ => rfl
                first | omega | (simp only [ByteArray.size_append, ByteArray.size_extract, e1]; omega), by omega, (D3L.out).rd⟩, (D3L.out).gr⟩
        · have f1 : (m == 1) = false := by rw [beq_eq_false_iff_ne]; omega
          have f2 : (m == 2) = false := by rw [beq_eq_false_iff_ne]; omega
          by_cases e3 : m = 3
          · subst e3
            go_upto_region 12 with (fail)
            refine region_sched [(0, true), (1, true), (2, true), (3, true), (4, true), (5, true), (6, true), (7, true), (8, true), (9, true), (10, true), (11, true), (12, true)] (fun _ : World => True) (by kernel_rfl) (by kernel_rfl) (by kernel_rfl) (by kernel_rfl) (fun _ _ _ _ h => h) ?_ (fun Q1 hQ1 => ?_)
            · exact True.intro
            try simp only [List.append]
            refine sched_take' (v := ?_) (a' := ?_) rfl (by kernel_rfl) ?_ rfl ?_ ?_
            rotate_left 2
            · intro w hSw
              (try dsimp only at hSw)
              go_simp
              try with_reducible rfl
            · (try simp only [Act.put, List.setIfInBounds_toArray, List.set_cons_zero, List.set_cons_succ])
              try rfl
            refine sched_take' (v := ?_) (a' := ?_) rfl (by kernel_rfl) ?_ rfl ?_ ?_
            rotate_left 2
            · intro w hSw
              (try dsimp only at hSw)
              go_simp
              try with_reducible rfl
            · (try simp only [Act.put, List.setIfInBounds_toArray, List.set_cons_zero, List.set_cons_succ])
              try rfl
            refine sched_take' (v := ?_) (a' := ?_) rfl (by kernel_rfl) ?_ rfl ?_ ?_
            rotate_left 2
            · intro w hSw
              (try dsimp only at hSw)
              go_simp
              try with_reducible rfl
            · (try simp only [Act.put, List.setIfInBounds_toArray, List.set_cons_zero, List.set_cons_succ])
              try rfl
            refine sched_take' (v := .int .i64 ((vn : Int) + 1)) (a' := ?_) rfl (by kernel_rfl) ?_ rfl ?_ ?_
            rotate_left 1
            · intro w hSw
              (try dsimp only at hSw)
              go_simp
              first | done | (simp [hwv]; done) | rw [hwv]
            · (try simp only [Act.put, List.setIfInBounds_toArray, List.set_cons_zero, List.set_cons_succ])
              try rfl
            refine sched_take' (v := .string (vs.extract vn (vn + 1))) (a' := ?_) rfl (by kernel_rfl) ?_ rfl ?_ ?_
            rotate_left 1
            · intro w hSw
              (try dsimp only at hSw)
              go_simp
              first | done | (rw [if_pos ⟨by omega, by omega⟩, if_pos (by omega)] <;> first | rfl | (congr 3; omega) | (congr 4; omega))
            · (try simp only [Act.put, List.setIfInBounds_toArray, List.set_cons_zero, List.set_cons_succ])
              try rfl
            refine sched_take' (v := ?_) (a' := ?_) rfl (by kernel_rfl) ?_ rfl ?_ ?_
            rotate_left 2
            · intro w hSw
              (try dsimp only at hSw)
              go_simp
              try with_reducible rfl
            · (try simp only [Act.put, List.setIfInBounds_toArray, List.set_cons_zero, List.set_cons_succ])
              try rfl
            refine sched_take' (v := ?_) (a' := ?_) rfl (by kernel_rfl) ?_ rfl ?_ ?_
            rotate_left 2
            · intro w hSw
              (try dsimp only at hSw)
              go_simp
              try with_reducible rfl
            · (try simp only [Act.put, List.setIfInBounds_toArray, List.set_cons_zero, List.set_cons_succ])
              try rfl
            refine sched_take' (v := ?_) (a' := ?_) rfl (by kernel_rfl) ?_ rfl ?_ ?_
            rotate_left 2
            · intro w hSw
              (try dsimp only at hSw)
              go_simp
              try with_reducible rfl
            · (try simp only [Act.put, List.setIfInBounds_toArray, List.set_cons_zero, List.set_cons_succ])
              try rfl
            refine sched_take' (v := ?_) (a' := ?_) rfl (by kernel_rfl) ?_ rfl ?_ ?_
            rotate_left 2
            · intro w hSw
              (try dsimp only at hSw)
              go_simp
              try with_reducible rfl
            · (try simp only [Act.put, List.setIfInBounds_toArray, List.set_cons_zero, List.set_cons_succ])
              try rfl
            refine sched_take' (v := .int .i64 ((un : Int) + 1)) (a' := ?_) rfl (by kernel_rfl) ?_ rfl ?_ ?_
            rotate_left 1
            · intro w hSw
              (try dsimp only at hSw)
              go_simp
              first | done | (simp [hwu]; done) | rw [hwu]
            · (try simp only [Act.put, List.setIfInBounds_toArray, List.set_cons_zero, List.set_cons_succ])
              try rfl
            refine sched_take' (v := .string (vs.extract un (un + 1))) (a' := ?_) rfl (by kernel_rfl) ?_ rfl ?_ ?_
            rotate_left 1
            · intro w hSw
              (try dsimp only at hSw)
              go_simp
              first | done | (rw [if_pos ⟨by omega, by omega⟩, if_pos (by omega)] <;> first | rfl | (congr 3; omega) | (congr 4; omega))
            · (try simp only [Act.put, List.setIfInBounds_toArray, List.set_cons_zero, List.set_cons_succ])
              try rfl
            refine sched_take' (v := ?_) (a' := ?_) rfl (by kernel_rfl) ?_ rfl ?_ ?_
            rotate_left 2
            · intro w hSw
              (try dsimp only at hSw)
              go_simp
              try with_reducible rfl
            · (try simp only [Act.put, List.setIfInBounds_toArray, List.set_cons_zero, List.set_cons_succ])
              try rfl
            refine sched_take' (v := ?_) (a' := ?_) rfl (by kernel_rfl) ?_ rfl ?_ ?_
            rotate_left 2
            · intro w hSw
              (try dsimp only at hSw)
              go_simp
              try with_reducible rfl
            · (try simp only [Act.put, List.setIfInBounds_toArray, List.set_cons_zero, List.set_cons_succ])
              try rfl
            refine sched_done (hQ1.out _ _ ?_)
            go_wp2_with fail
            go_ret
            exact ⟨⟨_, p + 1 + 1 + 1 + 1, rfl, by
                have e1 : ∀ x : UInt8, (ByteArray.mk #[x]).size = 1 := fun _ => rfl
                first | omega | (simp only [ByteArray.size_append, ByteArray.size_extract, e1]; omega),
              by
                have e1 : ∀ x : UInt8, (ByteArray.mk #[x]).size = 1 := fun _ => rfl
                first | omega | (simp only [ByteArray.size_append, ByteArray.size_extract, e1]; omega), by omega, (D3L.out.drew).rd⟩, (D3L.out.drew).gr⟩
          · have f3 : (m == 3) = false := by rw [beq_eq_false_iff_ne]; exact e3
            go_upto_region 13 with (fail)
            refine region_sched [(0, true), (1, true), (2, true), (3, true), (4, true), (5, true), (6, true), (7, true), (8, true), (9, true), (10, true), (11, true), (12, true)] (fun _ : World => True) (by kernel_rfl) (by kernel_rfl) (by kernel_rfl) (by kernel_rfl) (fun _ _ _ _ h => h) ?_ (fun Q1 hQ1 => ?_)
            · exact True.intro
            try simp only [List.append]
            refine sched_take' (v := ?_) (a' := ?_) rfl (by kernel_rfl) ?_ rfl ?_ ?_
            rotate_left 2
            · intro w hSw
              (try dsimp only at hSw)
              go_simp
              try with_reducible rfl
            · (try simp only [Act.put, List.setIfInBounds_toArray, List.set_cons_zero, List.set_cons_succ])
              try rfl
            refine sched_take' (v := ?_) (a' := ?_) rfl (by kernel_rfl) ?_ rfl ?_ ?_
            rotate_left 2
            · intro w hSw
              (try dsimp only at hSw)
              go_simp
              try with_reducible rfl
            · (try simp only [Act.put, List.setIfInBounds_toArray, List.set_cons_zero, List.set_cons_succ])
              try rfl
            refine sched_take' (v := ?_) (a' := ?_) rfl (by kernel_rfl) ?_ rfl ?_ ?_
            rotate_left 2
            · intro w hSw
              (try dsimp only at hSw)
              go_simp
              try with_reducible rfl
            · (try simp only [Act.put, List.setIfInBounds_toArray, List.set_cons_zero, List.set_cons_succ])
              try rfl
            refine sched_take' (v := .int .i64 ((vn : Int) + 1)) (a' := ?_) rfl (by kernel_rfl) ?_ rfl ?_ ?_
            rotate_left 1
            · intro w hSw
              (try dsimp only at hSw)
              go_simp
              first | done | (simp [hwv]; done) | rw [hwv]
            · (try simp only [Act.put, List.setIfInBounds_toArray, List.set_cons_zero, List.set_cons_succ])
              try rfl
            refine sched_take' (v := .string (vs.extract vn (vn + 1))) (a' := ?_) rfl (by kernel_rfl) ?_ rfl ?_ ?_
            rotate_left 1
            · intro w hSw
              (try dsimp only at hSw)
              go_simp
              first | done | (rw [if_pos ⟨by omega, by omega⟩, if_pos (by omega)] <;> first | rfl | (congr 3; omega) | (congr 4; omega))
            · (try simp only [Act.put, List.setIfInBounds_toArray, List.set_cons_zero, List.set_cons_succ])
              try rfl
            refine sched_take' (v := ?_) (a' := ?_) rfl (by kernel_rfl) ?_ rfl ?_ ?_
            rotate_left 2
            · intro w hSw
              (try dsimp only at hSw)
              go_simp
              try with_reducible rfl
            · (try simp only [Act.put, List.setIfInBounds_toArray, List.set_cons_zero, List.set_cons_succ])
              try rfl
            refine sched_take' (v := ?_) (a' := ?_) rfl (by kernel_rfl) ?_ rfl ?_ ?_
            rotate_left 2
            · intro w hSw
              (try dsimp only at hSw)
              go_simp
              try with_reducible rfl
            · (try simp only [Act.put, List.setIfInBounds_toArray, List.set_cons_zero, List.set_cons_succ])
              try rfl
            refine sched_take' (v := ?_) (a' := ?_) rfl (by kernel_rfl) ?_ rfl ?_ ?_
            rotate_left 2
            · intro w hSw
              (try dsimp only at hSw)
              go_simp
              try with_reducible rfl
            · (try simp only [Act.put, List.setIfInBounds_toArray, List.set_cons_zero, List.set_cons_succ])
              try rfl
            refine sched_take' (v := ?_) (a' := ?_) rfl (by kernel_rfl) ?_ rfl ?_ ?_
            rotate_left 2
            · intro w hSw
              (try dsimp only at hSw)
              go_simp
              try with_reducible rfl
            · (try simp only [Act.put, List.setIfInBounds_toArray, List.set_cons_zero, List.set_cons_succ])
              try rfl
            refine sched_take' (v := .int .i64 ((un : Int) + 1)) (a' := ?_) rfl (by kernel_rfl) ?_ rfl ?_ ?_
            rotate_left 1
            · intro w hSw
              (try dsimp only at hSw)
              go_simp
              first | done | (simp [hwu]; done) | rw [hwu]
            · (try simp only [Act.put, List.setIfInBounds_toArray, List.set_cons_zero, List.set_cons_succ])
              try rfl
            refine sched_take' (v := .string (vs.extract un (un + 1))) (a' := ?_) rfl (by kernel_rfl) ?_ rfl ?_ ?_
            rotate_left 1
            · intro w hSw
              (try dsimp only at hSw)
              go_simp
              first | done | (rw [if_pos ⟨by omega, by omega⟩, if_pos (by omega)] <;> first | rfl | (congr 3; omega) | (congr 4; omega))
            · (try simp only [Act.put, List.setIfInBounds_toArray, List.set_cons_zero, List.set_cons_succ])
              try rfl
            refine sched_take' (v := ?_) (a' := ?_) rfl (by kernel_rfl) ?_ rfl ?_ ?_
            rotate_left 2
            · intro w hSw
              (try dsimp only at hSw)
              go_simp
              try with_reducible rfl
            · (try simp only [Act.put, List.setIfInBounds_toArray, List.set_cons_zero, List.set_cons_succ])
              try rfl
            refine sched_take' (v := ?_) (a' := ?_) rfl (by kernel_rfl) ?_ rfl ?_ ?_
            rotate_left 2
            · intro w hSw
              (try dsimp only at hSw)
              go_simp
              try with_reducible rfl
            · (try simp only [Act.put, List.setIfInBounds_toArray, List.set_cons_zero, List.set_cons_succ])
              try rfl
            refine sched_done (hQ1.out _ _ ?_)
            go_wp2_with fail
            go_ret
            exact ⟨⟨_, p + 1 + 1 + 1 + 1, rfl, by
                have e1 : ∀ x : UInt8, (ByteArray.mk #[x]).size = 1 := fun _ => rfl
                first | omega | (simp only [ByteArray.size_append, ByteArray.size_extract, e1]; omega),
              by
                have e1 : ∀ x : UInt8, (ByteArray.mk #[x]).size = 1 := fun _ => rfl
                first | omega | (simp only [ByteArray.size_append, ByteArray.size_extract, e1]; omega), by omega, (D3L.out.drew).rd⟩, (D3L.out.drew).gr⟩
    · by_cases hk4 : k < 4
      · go_wp2_with fail
        refine (IH.out (p + 1 + 1 + 1) _ D3.out.rd (by omega)).mono ?_
        rintro e w4 ⟨⟨t, p4, rfl, t0, t1, hp4, hr⟩, hg⟩
        have D4 := Lib.hid (D3.out.step hr hg)
        clear hr hg
        go_wp2_with fail
        go_ret
        exact ⟨⟨_, p4, rfl, by
            have e1 : ∀ x : UInt8, (ByteArray.mk #[x]).size = 1 := fun _ => rfl
            first | omega | (simp only [ByteArray.size_append, ByteArray.size_extract, e1]; omega),
          by
            have e1 : ∀ x : UInt8, (ByteArray.mk #[x]).size = 1 := fun _ => rfl
            first | omega | (simp only [ByteArray.size_append, ByteArray.size_extract, e1]; omega), by omega, (D4.out).rd⟩, (D4.out).gr⟩
      · by_cases hk7 : k < 7
        · 
          have D4 := Lib.hid (D3.out.alloc (.cells #[.string ⟨#[38]⟩, .string ⟨#[124]⟩] 9))
          have ND4 := Lib.hid (scells_new w3 [bs [38], bs [124]] 9)
          have hszw5 := D3.out.rd.box.lt
          go_wp2_with fail
          refine (Hof2.out _ (p + 1 + 1 + 1) _ (by exact ND4.out) (by omega) (by omega) D4.out.rd).mono ?_
          rintro e w5 ⟨⟨o1, rfl, o10, o11⟩, hr, hg⟩
          have D5 := Lib.hid (D4.out.step hr hg)
          clear hr hg
          go_wp2_with fail
          refine (IH.out (p + 1 + 1 + 1 + 1) _ D5.out.rd (by omega)).mono ?_
          rintro e w6 ⟨⟨t, p6, rfl, t0, t1, hp6, hr⟩, hg⟩
          have D6 := Lib.hid (D5.out.step hr hg)
          clear hr hg
          go_wp2_with fail
          refine (IH.out p6 _ D6.out.rd (by omega)).mono ?_
          rintro e w7 ⟨⟨t2, p7, rfl, t20, t21, hp7, hr⟩, hg⟩
          have D7 := Lib.hid (D6.out.step hr hg)
          clear hr hg
          go_wp2_with fail
          go_ret
          exact ⟨⟨_, p7, rfl, by
              have e1 : ∀ x : UInt8, (ByteArray.mk #[x]).size = 1 := fun _ => rfl
              first | omega | (simp only [ByteArray.size_append, ByteArray.size_extract, e1]; omega),
            by
              have e1 : ∀ x : UInt8, (ByteArray.mk #[x]).size = 1 := fun _ => rfl
              first | omega | (simp only [ByteArray.size_append, ByteArray.size_extract, e1]; omega), by omega, (D7.out).rd⟩, (D7.out).gr⟩
        · 
          have D4 := Lib.hid (D3.out.alloc (.cells #[.string ⟨#[65]⟩, .string ⟨#[83]⟩, .string ⟨#[83]⟩] 9))
          have ND4 := Lib.hid (scells_new w3 [bs [65], bs [83], bs [83]] 9)
          have hszw5 := D3.out.rd.box.lt
          go_wp2_with fail
          refine (Hof3.out _ (p + 1 + 1 + 1) _ (by exact ND4.out) (by omega) (by omega) D4.out.rd).mono ?_
          rintro e w5 ⟨⟨o1, rfl, o10, o11⟩, hr, hg⟩
          have D5 := Lib.hid (D4.out.step hr hg)
          clear hr hg
          cases c with
          | false =>
            go_upto_region 23 with (fail)
            refine region_sched [(0, true), (1, true), (2, true), (3, true), (4, true), (5, true), (6, true), (7, true), (8, true), (9, true), (10, true), (11, true), (12, false), (13, true), (14, true)] (fun _ : World => True) (by kernel_rfl) (by kernel_rfl) (by kernel_rfl) (by kernel_rfl) (fun _ _ _ _ h => h) ?_ (fun Q1 hQ1 => ?_)
            · exact True.intro
            try simp only [List.append]
            refine sched_take' (v := ?_) (a' := ?_) rfl (by kernel_rfl) ?_ rfl ?_ ?_
            rotate_left 2
            · intro w hSw
              (try dsimp only at hSw)
              go_simp
              try with_reducible rfl
            · (try simp only [Act.put, List.setIfInBounds_toArray, List.set_cons_zero, List.set_cons_succ])
              try rfl
            refine sched_take' (v := ?_) (a' := ?_) rfl (by kernel_rfl) ?_ rfl ?_ ?_
            rotate_left 2
            · intro w hSw
              (try dsimp only at hSw)
              go_simp
              try with_reducible rfl
            · (try simp only [Act.put, List.setIfInBounds_toArray, List.set_cons_zero, List.set_cons_succ])
              try rfl
            refine sched_take' (v := ?_) (a' := ?_) rfl (by kernel_rfl) ?_ rfl ?_ ?_
            rotate_left 2
            · intro w hSw
              (try dsimp only at hSw)
              go_simp
              try with_reducible rfl
            · (try simp only [Act.put, List.setIfInBounds_toArray, List.set_cons_zero, List.set_cons_succ])
              try rfl
            refine sched_take' (v := ?_) (a' := ?_) rfl (by kernel_rfl) ?_ rfl ?_ ?_
            rotate_left 2
            · intro w hSw
              (try dsimp only at hSw)
              go_simp
              try with_reducible rfl
            · (try simp only [Act.put, List.setIfInBounds_toArray, List.set_cons_zero, List.set_cons_succ])
              try rfl
            refine sched_take' (v := .int .i64 ((vn : Int) + 1)) (a' := ?_) rfl (by kernel_rfl) ?_ rfl ?_ ?_
            rotate_left 1
            · intro w hSw
              (try dsimp only at hSw)
              go_simp
              first | done | (simp [hwv]; done) | rw [hwv]
            · (try simp only [Act.put, List.setIfInBounds_toArray, List.set_cons_zero, List.set_cons_succ])
              try rfl
            refine sched_take' (v := .string (vs.extract vn (vn + 1))) (a' := ?_) rfl (by kernel_rfl) ?_ rfl ?_ ?_
            rotate_left 1
            · intro w hSw
              (try dsimp only at hSw)
              go_simp
              first | done | (rw [if_pos ⟨by omega, by omega⟩, if_pos (by omega)] <;> first | rfl | (congr 3; omega) | (congr 4; omega))
            · (try simp only [Act.put, List.setIfInBounds_toArray, List.set_cons_zero, List.set_cons_succ])
              try rfl
            refine sched_take' (v := .string (o1 ++ vs.extract vn (vn + 1))) (a' := ?_) rfl (by kernel_rfl) ?_ rfl ?_ ?_
            rotate_left 1
            · intro w hSw
              (try dsimp only at hSw)
              go_simp
              first | done | omega | rw [if_neg (by omega)]
            · (try simp only [Act.put, List.setIfInBounds_toArray, List.set_cons_zero, List.set_cons_succ])
              try rfl
            refine sched_take' (v := ?_) (a' := ?_) rfl (by kernel_rfl) ?_ rfl ?_ ?_
            rotate_left 2
            · intro w hSw
              (try dsimp only at hSw)
              go_simp
              try with_reducible rfl
            · (try simp only [Act.put, List.setIfInBounds_toArray, List.set_cons_zero, List.set_cons_succ])
              try rfl
            refine sched_take' (v := ?_) (a' := ?_) rfl (by kernel_rfl) ?_ rfl ?_ ?_
            rotate_left 2
            · intro w hSw
              (try dsimp only at hSw)
              go_simp
              try with_reducible rfl
            · (try simp only [Act.put, List.setIfInBounds_toArray, List.set_cons_zero, List.set_cons_succ])
              try rfl
            refine sched_take' (v := ?_) (a' := ?_) rfl (by kernel_rfl) ?_ rfl ?_ ?_
            rotate_left 2
            · intro w hSw
              (try dsimp only at hSw)
              go_simp
              try with_reducible rfl
            · (try simp only [Act.put, List.setIfInBounds_toArray, List.set_cons_zero, List.set_cons_succ])
              try rfl
            refine sched_take' (v := ?_) (a' := ?_) rfl (by kernel_rfl) ?_ rfl ?_ ?_
            rotate_left 2
            · intro w hSw
              (try dsimp only at hSw)
              go_simp
              try with_reducible rfl
            · (try simp only [Act.put, List.setIfInBounds_toArray, List.set_cons_zero, List.set_cons_succ])
              try rfl
            refine sched_take' (v := ?_) (a' := ?_) rfl (by kernel_rfl) ?_ rfl ?_ ?_
            rotate_left 2
            · intro w hSw
              (try dsimp only at hSw)
              go_simp
              try with_reducible rfl
            · (try simp only [Act.put, List.setIfInBounds_toArray, List.set_cons_zero, List.set_cons_succ])
              try rfl
            refine sched_call rfl (by kernel_rfl) (fun K1 hK1 => ?_)
            go_simp
            try rw [hdw]
            refine (IH.out (p + 1 + 1 + 1 + 1) _ D5.out.drew.rd (by omega)).mono ?_
            rintro e w9 ⟨⟨t9, p9, rfl, t90, t91, hp9, hr⟩, hg⟩
            have D9 := Lib.hid (D5.out.drew.step hr hg)
            clear hr hg
            go_wp2_with fail
            refine hK1.out _ _ ?_ (sched_lay (a' := ?_) ?_ ?_)
            · exact True.intro
            rotate_left 1
            · (try simp only [Act.put, List.getElem_toArray, List.getElem_cons_succ, List.getElem_cons_zero, List.setIfInBounds_toArray, List.set_cons_zero, List.set_cons_succ])
              try rfl
            clear hK1 K1
            refine sched_take' (v := .string (o1 ++ vs.extract vn (vn + 1) ++ t9)) (a' := ?_) rfl (by kernel_rfl) ?_ rfl ?_ ?_
            rotate_left 1
            · intro w hSw
              (try dsimp only at hSw)
              go_simp
              first | done | omega | (simp only [ByteArray.size_append, hev]; omega) | rw [if_neg (by simp only [ByteArray.size_append, hev]; omega)]
            · (try simp only [Act.put, List.setIfInBounds_toArray, List.set_cons_zero, List.set_cons_succ])
              try rfl
            refine sched_take' (v := ?_) (a' := ?_) rfl (by kernel_rfl) ?_ rfl ?_ ?_
            rotate_left 2
            · intro w hSw
              (try dsimp only at hSw)
              go_simp
              try with_reducible rfl
            · (try simp only [Act.put, List.setIfInBounds_toArray, List.set_cons_zero, List.set_cons_succ])
              try rfl
            refine sched_done (hQ1.out _ _ ?_)
            go_wp2_with fail
            go_ret
            exact ⟨⟨_, p9, rfl, by
                have e1 : ∀ x : UInt8, (ByteArray.mk #[x]).size = 1 := fun _ => rfl
                first | omega | (simp only [ByteArray.size_append, ByteArray.size_extract, e1]; omega),
              by
                have e1 : ∀ x : UInt8, (ByteArray.mk #[x]).size = 1 := fun _ => rfl
                first | omega | (simp only [ByteArray.size_append, ByteArray.size_extract, e1]; omega), by omega, (D9.out).rd⟩, (D9.out).gr⟩
          | true =>
            go_wp2_with fail
            refine (Hpk.out 3 (p + 1 + 1 + 1 + 1) _ (by omega) (by omega) D5.out.rd).mono ?_
            rintro e w6 ⟨⟨m, rfl, m0, m1, _⟩, hr, hg⟩
            have D6 := Lib.hid (D5.out.step hr hg)
            clear hr hg
            by_cases e0 : m = 0
            · subst e0
              have D7 := Lib.hid (D6.out.alloc (.cells #[.string ⟨#[50]⟩, .string ⟨#[51]⟩, .string ⟨#[50]⟩, .string ⟨#[52]⟩] 9))
              have ND7 := Lib.hid (scells_new w6 [bs [50], bs [51], bs [50], bs [52]] 9)
              have hszw8 := D6.out.rd.box.lt
              go_wp2_with fail
              refine (Hof4.out _ (p + 1 + 1 + 1 + 1 + 1) _ (by exact ND7.out) (by omega) (by omega) D7.out.rd).mono ?_
              rintro e w8 ⟨⟨o2, rfl, o20, o21⟩, hr, hg⟩
              have D8 := Lib.hid (D7.out.step hr hg)
              clear hr hg
              go_upto_region 23 with (fail)
              refine region_sched [(0, true), (1, true), (2, true), (3, true), (4, true), (5, true), (6, true), (7, true), (8, true), (9, true), (10, true), (11, true), (12, false), (13, true), (14, true)] (fun _ : World => True) (by kernel_rfl) (by kernel_rfl) (by kernel_rfl) (by kernel_rfl) (fun _ _ _ _ h => h) ?_ (fun Q1 hQ1 => ?_)
              · exact True.intro
              try simp only [List.append]
              refine sched_take' (v := ?_) (a' := ?_) rfl (by kernel_rfl) ?_ rfl ?_ ?_
              rotate_left 2
              · intro w hSw
                (try dsimp only at hSw)
                go_simp
                try with_reducible rfl
              · (try simp only [Act.put, List.setIfInBounds_toArray, List.set_cons_zero, List.set_cons_succ])
                try rfl
              refine sched_take' (v := ?_) (a' := ?_) rfl (by kernel_rfl) ?_ rfl ?_ ?_
              rotate_left 2
              · intro w hSw
                (try dsimp only at hSw)
                go_simp
                try with_reducible rfl
              · (try simp only [Act.put, List.setIfInBounds_toArray, List.set_cons_zero, List.set_cons_succ])
                try rfl
              refine sched_take' (v := ?_) (a' := ?_) rfl (by kernel_rfl) ?_ rfl ?_ ?_
              rotate_left 2
              · intro w hSw
                (try dsimp only at hSw)
                go_simp
                try with_reducible rfl
              · (try simp only [Act.put, List.setIfInBounds_toArray, List.set_cons_zero, List.set_cons_succ])
                try rfl
              refine sched_take' (v := ?_) (a' := ?_) rfl (by kernel_rfl) ?_ rfl ?_ ?_
              rotate_left 2
              · intro w hSw
                (try dsimp only at hSw)
                go_simp
                try with_reducible rfl
              · (try simp only [Act.put, List.setIfInBounds_toArray, List.set_cons_zero, List.set_cons_succ])
                try rfl
              refine sched_take' (v := .int .i64 ((vn : Int) + 1)) (a' := ?_) rfl (by kernel_rfl) ?_ rfl ?_ ?_
              rotate_left 1
              · intro w hSw
                (try dsimp only at hSw)
                go_simp
                first | done | (simp [hwv]; done) | rw [hwv]
              · (try simp only [Act.put, List.setIfInBounds_toArray, List.set_cons_zero, List.set_cons_succ])
                try rfl
              refine sched_take' (v := .string (vs.extract vn (vn + 1))) (a' := ?_) rfl (by kernel_rfl) ?_ rfl ?_ ?_
              rotate_left 1
              · intro w hSw
                (try dsimp only at hSw)
                go_simp
                first | done | (rw [if_pos ⟨by omega, by omega⟩, if_pos (by omega)] <;> first | rfl | (congr 3; omega) | (congr 4; omega))
              · (try simp only [Act.put, List.setIfInBounds_toArray, List.set_cons_zero, List.set_cons_succ])
                try rfl
              refine sched_take' (v := .string (o2 ++ vs.extract vn (vn + 1))) (a' := ?_) rfl (by kernel_rfl) ?_ rfl ?_ ?_
              rotate_left 1
              · intro w hSw
                (try dsimp only at hSw)
                go_simp
                first | done | omega | rw [if_neg (by omega)]
              · (try simp only [Act.put, List.setIfInBounds_toArray, List.set_cons_zero, List.set_cons_succ])
                try rfl
              refine sched_take' (v := ?_) (a' := ?_) rfl (by kernel_rfl) ?_ rfl ?_ ?_
              rotate_left 2
              · intro w hSw
                (try dsimp only at hSw)
                go_simp
                try with_reducible rfl
              · (try simp only [Act.put, List.setIfInBounds_toArray, List.set_cons_zero, List.set_cons_succ])
                try rfl
              refine sched_take' (v := ?_) (a' := ?_) rfl (by kernel_rfl) ?_ rfl ?_ ?_
              rotate_left 2
              · intro w hSw
                (try dsimp only at hSw)
                go_simp
                try with_reducible rfl
              · (try simp only [Act.put, List.setIfInBounds_toArray, List.set_cons_zero, List.set_cons_succ])
                try rfl
              refine sched_take' (v := ?_) (a' := ?_) rfl (by kernel_rfl) ?_ rfl ?_ ?_
              rotate_left 2
              · intro w hSw
                (try dsimp only at hSw)
                go_simp
                try with_reducible rfl
              · (try simp only [Act.put, List.setIfInBounds_toArray, List.set_cons_zero, List.set_cons_succ])
                try rfl
              refine sched_take' (v := ?_) (a' := ?_) rfl (by kernel_rfl) ?_ rfl ?_ ?_
              rotate_left 2
              · intro w hSw
                (try dsimp only at hSw)
                go_simp
                try with_reducible rfl
              · (try simp only [Act.put, List.setIfInBounds_toArray, List.set_cons_zero, List.set_cons_succ])
                try rfl
              refine sched_take' (v := ?_) (a' := ?_) rfl (by kernel_rfl) ?_ rfl ?_ ?_
              rotate_left 2
              · intro w hSw
                (try dsimp only at hSw)
                go_simp
                try with_reducible rfl
              · (try simp only [Act.put, List.setIfInBounds_toArray, List.set_cons_zero, List.set_cons_succ])
                try rfl
              refine sched_call rfl (by kernel_rfl) (fun K1 hK1 => ?_)
              go_simp
              try rw [hdw]
              refine (IH.out (p + 1 + 1 + 1 + 1 + 1 + 1) _ D8.out.drew.rd (by omega)).mono ?_
              rintro e w9 ⟨⟨t9, p9, rfl, t90, t91, hp9, hr⟩, hg⟩
              have D9 := Lib.hid (D8.out.drew.step hr hg)
              clear hr hg
              go_wp2_with fail
              refine hK1.out _ _ ?_ (sched_lay (a' := ?_) ?_ ?_)
              · exact True.intro
              rotate_left 1
              · (try simp only [Act.put, List.getElem_toArray, List.getElem_cons_succ, List.getElem_cons_zero, List.setIfInBounds_toArray, List.set_cons_zero, List.set_cons_succ])
                try rfl
              clear hK1 K1
              refine sched_take' (v := .string (o2 ++ vs.extract vn (vn + 1) ++ t9)) (a' := ?_) rfl (by kernel_rfl) ?_ rfl ?_ ?_
              rotate_left 1
              · intro w hSw
                (try dsimp only at hSw)
                go_simp
                first | done | omega | (simp only [ByteArray.size_append, hev]; omega) | rw [if_neg (by simp only [ByteArray.size_append, hev]; omega)]
              · (try simp only [Act.put, List.setIfInBounds_toArray, List.set_cons_zero, List.set_cons_succ])
                try rfl
              refine sched_take' (v := ?_) (a' := ?_) rfl (by kernel_rfl) ?_ rfl ?_ ?_
              rotate_left 2
              · intro w hSw
                (try dsimp only at hSw)
                go_simp
                try with_reducible rfl
              · (try simp only [Act.put, List.setIfInBounds_toArray, List.set_cons_zero, List.set_cons_succ])
                try rfl
              refine sched_done (hQ1.out _ _ ?_)
              go_wp2_with fail
              go_ret
              exact ⟨⟨_, p9, rfl, by
                  have e1 : ∀ x : UInt8, (ByteArray.mk #[x]).size = 1 := fun _ => rfl
                  first | omega | (simp only [ByteArray.size_append, ByteArray.size_extract, e1]; omega),
                by
                  have e1 : ∀ x : UInt8, (ByteArray.mk #[x]).size = 1 := fun _ => rfl
                  first | omega | (simp only [ByteArray.size_append, ByteArray.size_extract, e1]; omega), by omega, (D9.out).rd⟩, (D9.out).gr⟩
            · have f0 : (m == 0) = false := by rw [beq_eq_false_iff_ne]; exact e0
              go_upto_region 23 with (fail)
              refine region_sched [(0, true), (1, true), (2, true), (3, true), (4, true), (5, true), (6, true), (7, true), (8, true), (9, true), (10, true), (11, true), (12, false), (13, true), (14, true)] (fun _ : World => True) (by kernel_rfl) (by kernel_rfl) (by kernel_rfl) (by kernel_rfl) (fun _ _ _ _ h => h) ?_ (fun Q1 hQ1 => ?_)
              · exact True.intro
              try simp only [List.append]
              refine sched_take' (v := ?_) (a' := ?_) rfl (by kernel_rfl) ?_ rfl ?_ ?_
              rotate_left 2
              · intro w hSw
                (try dsimp only at hSw)
                go_simp
                try with_reducible rfl
              · (try simp only [Act.put, List.setIfInBounds_toArray, List.set_cons_zero, List.set_cons_succ])
                try rfl
              refine sched_take' (v := ?_) (a' := ?_) rfl (by kernel_rfl) ?_ rfl ?_ ?_
              rotate_left 2
              · intro w hSw
                (try dsimp only at hSw)
                go_simp
                try with_reducible rfl
              · (try simp only [Act.put, List.setIfInBounds_toArray, List.set_cons_zero, List.set_cons_succ])
                try rfl
              refine sched_take' (v := ?_) (a' := ?_) rfl (by kernel_rfl) ?_ rfl ?_ ?_
              rotate_left 2
              · intro w hSw
                (try dsimp only at hSw)
                go_simp
                try with_reducible rfl
              · (try simp only [Act.put, List.setIfInBounds_toArray, List.set_cons_zero, List.set_cons_succ])
                try rfl
              refine sched_take' (v := ?_) (a' := ?_) rfl (by kernel_rfl) ?_ rfl ?_ ?_
              rotate_left 2
              · intro w hSw
                (try dsimp only at hSw)
                go_simp
                try with_reducible rfl
              · (try simp only [Act.put, List.setIfInBounds_toArray, List.set_cons_zero, List.set_cons_succ])
                try rfl
              refine sched_take' (v := .int .i64 ((vn : Int) + 1)) (a' := ?_) rfl (by kernel_rfl) ?_ rfl ?_ ?_
              rotate_left 1
              · intro w hSw
                (try dsimp only at hSw)
                go_simp
                first | done | (simp [hwv]; done) | rw [hwv]
              · (try simp only [Act.put, List.setIfInBounds_toArray, List.set_cons_zero, List.set_cons_succ])
                try rfl
              refine sched_take' (v := .string (vs.extract vn (vn + 1))) (a' := ?_) rfl (by kernel_rfl) ?_ rfl ?_ ?_
              rotate_left 1
              · intro w hSw
                (try dsimp only at hSw)
                go_simp
                first | done | (rw [if_pos ⟨by omega, by omega⟩, if_pos (by omega)] <;> first | rfl | (congr 3; omega) | (congr 4; omega))
              · (try simp only [Act.put, List.setIfInBounds_toArray, List.set_cons_zero, List.set_cons_succ])
                try rfl
              refine sched_take' (v := .string (o1 ++ vs.extract vn (vn + 1))) (a' := ?_) rfl (by kernel_rfl) ?_ rfl ?_ ?_
              rotate_left 1
              · intro w hSw
                (try dsimp only at hSw)
                go_simp
                first | done | omega | rw [if_neg (by omega)]
              · (try simp only [Act.put, List.setIfInBounds_toArray, List.set_cons_zero, List.set_cons_succ])
                try rfl
              refine sched_take' (v := ?_) (a' := ?_) rfl (by kernel_rfl) ?_ rfl ?_ ?_
              rotate_left 2
              · intro w hSw
                (try dsimp only at hSw)
                go_simp
                try with_reducible rfl
              · (try simp only [Act.put, List.setIfInBounds_toArray, List.set_cons_zero, List.set_cons_succ])
                try rfl
              refine sched_take' (v := ?_) (a' := ?_) rfl (by kernel_rfl) ?_ rfl ?_ ?_
              rotate_left 2
              · intro w hSw
                (try dsimp only at hSw)
                go_simp
                try with_reducible rfl
              · (try simp only [Act.put, List.setIfInBounds_toArray, List.set_cons_zero, List.set_cons_succ])
                try rfl
              refine sched_take' (v := ?_) (a' := ?_) rfl (by kernel_rfl) ?_ rfl ?_ ?_
              rotate_left 2
              · intro w hSw
                (try dsimp only at hSw)
                go_simp
                try with_reducible rfl
              · (try simp only [Act.put, List.setIfInBounds_toArray, List.set_cons_zero, List.set_cons_succ])
                try rfl
              refine sched_take' (v := ?_) (a' := ?_) rfl (by kernel_rfl) ?_ rfl ?_ ?_
              rotate_left 2
              · intro w hSw
                (try dsimp only at hSw)
                go_simp
                try with_reducible rfl
              · (try simp only [Act.put, List.setIfInBounds_toArray, List.set_cons_zero, List.set_cons_succ])
                try rfl
              refine sched_take' (v := ?_) (a' := ?_) rfl (by kernel_rfl) ?_ rfl ?_ ?_
              rotate_left 2
              · intro w hSw
                (try dsimp only at hSw)
                go_simp
                try with_reducible rfl
              · (try simp only [Act.put, List.setIfInBounds_toArray, List.set_cons_zero, List.set_cons_succ])
                try rfl
              refine sched_call rfl (by kernel_rfl) (fun K1 hK1 => ?_)
              go_simp
              try rw [hdw]
              refine (IH.out (p + 1 + 1 + 1 + 1 + 1) _ D6.out.drew.rd (by omega)).mono ?_
              rintro e w9 ⟨⟨t9, p9, rfl, t90, t91, hp9, hr⟩, hg⟩
              have D9 := Lib.hid (D6.out.drew.step hr hg)
              clear hr hg
              go_wp2_with fail
              refine hK1.out _ _ ?_ (sched_lay (a' := ?_) ?_ ?_)
              · exact True.intro
              rotate_left 1
              · (try simp only [Act.put, List.getElem_toArray, List.getElem_cons_succ, List.getElem_cons_zero, List.setIfInBounds_toArray, List.set_cons_zero, List.set_cons_succ])
                try rfl
              clear hK1 K1
              refine sched_take' (v := .string (o1 ++ vs.extract vn (vn + 1) ++ t9)) (a' := ?_) rfl (by kernel_rfl) ?_ rfl ?_ ?_
              rotate_left 1
              · intro w hSw
                (try dsimp only at hSw)
                go_simp
                first | done | omega | (simp only [ByteArray.size_append, hev]; omega) | rw [if_neg (by simp only [ByteArray.size_append, hev]; omega)]
              · (try simp only [Act.put, List.setIfInBounds_toArray, List.set_cons_zero, List.set_cons_succ])
                try rfl
              refine sched_take' (v := ?_) (a' := ?_) rfl (by kernel_rfl) ?_ rfl ?_ ?_
              rotate_left 2
              · intro w hSw
                (try dsimp only at hSw)
                go_simp
                try with_reducible rfl
              · (try simp only [Act.put, List.setIfInBounds_toArray, List.set_cons_zero, List.set_cons_succ])
                try rfl
              refine sched_done (hQ1.out _ _ ?_)
              go_wp2_with fail
              go_ret
              exact ⟨⟨_, p9, rfl, by
                  have e1 : ∀ x : UInt8, (ByteArray.mk #[x]).size = 1 := fun _ => rfl
                  first | omega | (simp only [ByteArray.size_append, ByteArray.size_extract, e1]; omega),
                by
                  have e1 : ∀ x : UInt8, (ByteArray.mk #[x]).size = 1 := fun _ => rfl
                  first | omega | (simp only [ByteArray.size_append, ByteArray.size_extract, e1]; omega), by omega, (D9.out).rd⟩, (D9.out).gr⟩


end Go.Proofs.YtpaleogkgfclnaaDoor
