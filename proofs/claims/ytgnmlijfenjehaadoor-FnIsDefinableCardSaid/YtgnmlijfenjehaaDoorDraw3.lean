/-
  l1Draw: a structure of a size is drawn. Condition: at most 2^39 numbers were drawn before.
-/
import Derived.Test.YtgnmlijfenjehaaDoorDraw2
import Derived.Deep.RegionWith
import Derived.StillTailTactics
import Derived.Deep.CutBlock
import Derived.Test.YtgnmlijfenjehaaDoorOther
namespace Go.Proofs.YtgnmlijfenjehaaDoor
open Go.RowKit
open Pl
set_option linter.unusedSimpArgs false
set_option linter.unusedVariables false

/-- a drawn structure -/
def DrawS (rb : Nat) (A : Option Addr) (n cap p sz : Nat) (e : Ending) (w' : World) : Prop := ∃ (a : St) (p' : Nat), e = .returned (stA a) ∧ a.ok ∧ a.n = sz ∧ p' ≤ p + 100 ∧ Rd w' rb A n cap p'

/-- so many bits -/
def SzB (s : ByteArray) (k : Nat) : Prop := s.size = k ∧ bitsL s.data.toList = true
theorem szB0 : SzB (bs []) 0 := ⟨rfl, rfl⟩
theorem SzB.app {s : ByteArray} {k m : Nat} (h : SzB s k) (b : Bool) (hm : k + 1 = m) : SzB (s ++ bs [bitB b]) m := by
  refine ⟨by rw [ByteArray.size_append, h.1, ← hm]; rfl, ?_⟩
  have h2 := h.2
  rw [append_bs, bs_data, bs_data]
  unfold bitsL at *
  rw [List.all_append, h2]
  cases b <;> rfl
theorem szB_st {s r : ByteArray} {sz : Nat} (h1 : 1 ≤ sz) (h8 : sz ≤ 8) (hs : SzB s sz) (hr : SzB r (sz * sz)) : ∃ a : St, a.ok ∧ a.n = sz ∧ stV (sz : Nat) s r = stA a := by
  have hok : okB (sz : Nat) s r = true := by
    unfold okB bitsB
    rw [hs.2, hr.2, hs.1, hr.1]
    simp
    omega
  rcases ok_cases (sz : Nat) s r with h | ⟨a, ha, hn, rfl, rfl⟩
  · rw [hok] at h; cases h
  · exact ⟨a, ha, by omega, by rw [hn]⟩

/-- what lies in memory while it is drawn -/
structure DrF (w : World) (rb : Nat) (A : Option Addr) (n cap p sz : Nat) (S R : ByteArray) (V : World) : Prop where
  res : Bx V w.heap.size 27 #[.int .i64 0, .string (bs []), .string (bs [])]
  box : Bx V (w.heap.size + 1) 27 #[.int .i64 (sz : Nat), .string S, .string R]
  rd : Rd V rb A n cap p
  gr : w.grownBy V (some rb)
  rlt : rb < w.heap.size

theorem DrF.pick {w V V' : World} {rb n cap p p' sz : Nat} {A : Option Addr} {S R : ByteArray} (h : DrF w rb A n cap p sz S R V) (hr : Rd V' rb A n cap p') (hg : V.grownBy V' (some rb)) : DrF w rb A n cap p' sz S R V' := by
  have hl := h.rlt
  exact ⟨h.res.grown' hg (by simp; omega), h.box.grown' hg (by simp; omega), hr, World.grownBy.trans h.gr hg, hl⟩
theorem DrF.drew {w V : World} {rb n cap p sz : Nat} {A : Option Addr} {S R : ByteArray} (h : DrF w rb A n cap p sz S R V) : DrF w rb A n cap p sz S R V.drew :=
  ⟨h.res, h.box, ⟨h.rd.box, h.rd.row, h.rd.small, h.rd.sep⟩, ⟨h.gr.os, h.gr.tape, h.gr.output, h.gr.size, h.gr.block⟩, h.rlt⟩
theorem DrF.put {w V : World} {rb n cap p sz : Nat} {A : Option Addr} {S R S' R' : ByteArray} (h : DrF w rb A n cap p sz S R V) (j : Nat) (v : Value) (hj : (#[.int .i64 (sz : Nat), .string S, .string R] : Array Value).setIfInBounds j v = #[.int .i64 (sz : Nat), .string S', .string R']) :
    DrF w rb A n cap p sz S' R' (V.setCell ⟨w.heap.size + 1, j, none⟩ v) := by
  have hl := h.rlt
  have hw : w.heap.size + 1 < V.heap.size := h.box.lt
  have hgv : V.grownBy (V.setCell ⟨w.heap.size + 1, j, none⟩ v) (some (w.heap.size + 1)) := ⟨rfl, rfl, rfl, by simp, fun k _ hk => Below.heap_setCell V _ _ k (fun e => hk (by rw [e]))⟩
  refine ⟨h.res.far (by simp) _, by rw [← hj]; exact h.box.set j v, ⟨h.rd.box.far (by simp; omega) _, ?_, h.rd.small, h.rd.sep⟩, ⟨h.gr.os, h.gr.tape, h.gr.output, by simpa using h.gr.size, fun k hk hne => (Below.heap_setCell V ⟨w.heap.size + 1, j, none⟩ _ k (by simp; omega)).trans (h.gr.block k hk hne)⟩, hl⟩
  intro h0
  obtain ⟨x, rfl, hc⟩ := h.rd.row h0
  have hx := h.rd.sep h0 x rfl
  refine ⟨x, rfl, fun i hi => ?_⟩
  obtain ⟨b, hb, hcell⟩ := hc i hi
  refine ⟨b, hb, ?_⟩
  rw [← hcell]
  have hbl : (x.add i).block = x.block := by unfold Addr.add; split <;> rfl
  exact World.cell?_of_block (by rw [hbl]; exact Below.heap_setCell V _ _ _ (by simp; omega))

theorem rg_set {w V : World} {rb n cap p g : Nat} {A : Option Addr} (hr : Rd V rb A n cap p) (hgr : w.grownBy V (some rb)) (hl : rb < w.heap.size) (hgg : w.heap.size ≤ g) (i : Nat) (v : Value) :
    Rd (V.setCell ⟨g, i, none⟩ v) rb A n cap p ∧ w.grownBy (V.setCell ⟨g, i, none⟩ v) (some rb) := by
  refine ⟨⟨hr.box.far (by simp; omega) _, ?_, hr.small, hr.sep⟩, ⟨hgr.os, hgr.tape, hgr.output, by simpa using hgr.size, fun k hk hne => (Below.heap_setCell V ⟨g, i, none⟩ _ k (by simp; omega)).trans (hgr.block k hk hne)⟩⟩
  intro h0
  obtain ⟨x, rfl, hc⟩ := hr.row h0
  have hx := hr.sep h0 x rfl
  refine ⟨x, rfl, fun i hi => ?_⟩
  obtain ⟨b, hb, hcell⟩ := hc i hi
  refine ⟨b, hb, ?_⟩
  rw [← hcell]
  have hbl : (x.add i).block = x.block := by unfold Addr.add; split <;> rfl
  exact World.cell?_of_block (by rw [hbl]; exact Below.heap_setCell V _ _ _ (by simp; omega))

set_option maxHeartbeats 8000000 in
set_option maxRecDepth 100000 in
theorem l1Draw_calls (rb : Nat) (A : Option Addr) (n cap p sz : Nat) (w : World) (h : Rd w rb A n cap p) (hp : p ≤ 549755813888) (h1 : 1 ≤ sz) (h5 : sz ≤ 5) :
    Calls Tryd.prog 67 #[.pointer (some ⟨rb, 0, none⟩), .int .i64 (sz : Nat)] w fun e w' => DrawS rb A n cap p sz e w' ∧ w.grownBy w' (some rb) := by
  have hpk : ∀ (k : Int) (q : Nat) (V : World), k ≤ 100 → q ≤ p + 200 → Rd V rb A n cap q → Calls Tryd.prog 39 #[.pointer (some ⟨rb, 0, none⟩), .int .i64 k] V fun e w' => PickP k e ∧ Rd w' rb A n cap (q + 1) ∧ V.grownBy w' (some rb) := fun k q V hk hq hr => pick_calls rb A n cap q k V hr (by omega) (by omega)
  have hrl : rb < w.heap.size := h.box.lt
  have hf0 : DrF w rb A n cap p sz (bs []) (bs []) ((w.alloc (.cells #[.int .i64 0, .string (bs []), .string (bs [])] 27)).alloc (.cells #[.int .i64 (sz : Nat), .string (bs []), .string (bs [])] 27)) := by
    have hg : w.grownBy ((w.alloc (.cells #[.int .i64 0, .string (bs []), .string (bs [])] 27)).alloc (.cells #[.int .i64 (sz : Nat), .string (bs []), .string (bs [])] 27)) (some rb) := World.grownBy.trans (World.grownBy_alloc w _ _) (World.grownBy_alloc _ _ _)
    exact ⟨(Bx.new w _ _).alloc _, bx_two w _ _, ⟨(h.box.alloc _).alloc _, h.row.grown h.sep hrl hg, h.small, h.sep⟩, hg, hrl⟩
  have F0 := Lib.hid hf0
  have Hpk := Lib.hid hpk
  clear hpk hf0 h
  go_enter Tryd.func67, Tryd.ntmps67
  go_wp2_with fail
  refine (Hpk.out 8 p _ (by omega) (by omega) F0.out.rd).mono ?_
  rintro e w1 ⟨⟨kd, rfl, hk0, hk1, _⟩, hr, hg⟩
  have hk8 := hk1 (by omega)
  have F1 := Lib.hid (F0.out.pick hr hg)
  clear hr hg hk1
  go_wp2_with fail
  go_loopg [7] sz (fun c i wr => ∃ (k : Nat) (S R : ByteArray) (q : Nat), k + c = sz ∧ i = .int .i64 k ∧ DrF w rb A n cap q sz S R wr ∧ SzB S k ∧ SzB R (k * sz) ∧ q ≤ p + 1 + k * 6)
  case atStart => exact ⟨0, _, _, p + 1, by omega, rfl, F1.out, szB0, by rw [Nat.zero_mul]; exact szB0, by omega⟩
  case round =>
    clear F0 F1
    obtain ⟨k, S, R, q, hk, rfl, hf, hS, hR, hq⟩ := hrel
    have F0 := Lib.hid hf
    by_cases hlt : k < sz
    · have hki : (k : Int) < (sz : Int) := by omega
      have c1 := hf.box.cell 1
      have f1 := hf.box.free 1
      simp at c1
      have hS8 : S.size ≤ 8 := by have := hS.1; omega
      have HR := Lib.hid hR
      have HS := Lib.hid hS
      clear hf hR hS
      go_upto_region 6 with (fail)
      go_cut [] (fun wx => ∃ (S2 : ByteArray) (q2 : Nat), DrF w rb A n cap q2 sz S2 R wx ∧ SzB S2 (k + 1) ∧ q2 ≤ q + 1)
      case first =>
        by_cases hkd : 2 < kd
        · have hd : decide (2 < kd) = true := decide_eq_true hkd
          have s2 : ∀ b : Bool, (bs [bitB b]).size = 1 := fun b => by rw [bs_size]; rfl
          have Hs2 := Lib.hid s2
          clear s2
          go_region_with (first | (go_at_call 39; refine (Hpk.out 3 q _ (by omega) (by omega) F0.out.drew.rd).mono ?_; rintro e w2 ⟨⟨m, rfl, hm0, hm1, _⟩, hr, hg⟩; have F2 := Lib.hid (F0.out.drew.pick hr hg); clear hr hg hm1; have c2 := F2.out.box.cell 1; have f2 := F2.out.box.free 1; simp at c2; have g2 := Hs2.out (m == 0)) | (go_at_call 86; refine (l1Bit_calls _ _).mono ?_; rintro e w3 ⟨rfl, rfl⟩))
          all_goals
            go_wp2_with fail
            go_meet
            case rel => exact ⟨_, q + 1, F2.out.put 1 (.string (S ++ bs [bitB (m == 0)])) rfl, HS.out.app _ rfl, by omega⟩
        · have hd : decide (2 < kd) = false := decide_eq_false hkd
          have g2 : (bs [bitB false]).size = 1 := by rw [bs_size]; rfl
          have g3 : (bs [bitB false]).size ≤ 1 := by omega
          go_still_tail 12, (by kernel_rfl)
          still_call ((l1Bit_calls false _).mono fun _ _ ⟨h1, h2⟩ => ⟨h1, h2.symm⟩)
          refine wpStill_step (fun K hK => ?_)
          go_simp
          rw [if_neg (by omega)]
          refine ⟨rfl, hK _ ?_⟩
          clear hK K
          repeat still_step
          refine wpStill_nil ?_
          change wpList _ _ _ _ _ wr.drew
          have c2 : wr.drew.cell? ⟨w.heap.size + 1, 1, none⟩ = some (.string S) := c1
          have f2 : wr.drew.frozen? ⟨w.heap.size + 1, 1, none⟩ = false := f1
          all_goals
            go_wp2_with fail
            go_meet
            case rel => exact ⟨_, q, F0.out.drew.put 1 (.string (S ++ bs [bitB false])) rfl, HS.out.app _ rfl, by omega⟩
      case rest =>
        obtain ⟨S2, q2, hf2, hS2, hq2⟩ := hcut
        have F2 := Lib.hid hf2
        have HS2 := Lib.hid hS2
        clear hf2 hS2 c1 f1 hS8 HS F0
        go_wp2_with fail
        go_loopg [8] sz (fun c i wr => ∃ (j : Nat) (R3 : ByteArray) (q3 : Nat), j + c = sz ∧ i = .int .i64 j ∧ DrF w rb A n cap q3 sz S2 R3 wr ∧ SzB R3 (k * sz + j) ∧ q3 ≤ q2 + j)
        case atStart => exact ⟨0, R, q2, by omega, rfl, F2.out, HR.out, by omega⟩
        case round =>
          clear F2
          obtain ⟨j, R3, q3, hj, rfl, hf3, hR3, hq3⟩ := hrel
          have F3 := Lib.hid hf3
          clear hf3
          by_cases hlj : j < sz
          · have hji : (j : Int) < (sz : Int) := by omega
            have HR3 := Lib.hid hR3
            have hR8 : R3.size ≤ 100 := by
              have h1 : k * sz ≤ 5 * 5 := Nat.mul_le_mul (by omega) h5
              have h2 := hR3.1
              omega
            clear hR3
            go_wp2_with fail
            refine (Hpk.out 3 q3 _ (by omega) (by omega) F3.out.rd).mono ?_
            rintro e w4 ⟨⟨m, rfl, hm0, hm1, _⟩, hr, hg⟩
            have F4 := Lib.hid (F3.out.pick hr hg)
            clear hr hg hm1
            have c1 := F4.out.box.cell 2
            have f1 := F4.out.box.free 2
            simp at c1
            by_cases hkj : k = j
            · have hkj' : j = k := hkj.symm
              subst hkj'
              clear hkj
              go_upto_block 4 with (fail)
              go_cut [9] (fun v wx => (∃ b : Bool, v = .bool b) ∧ w4 = wx)
              case first =>
                go_wp2_with fail
                all_goals
                  go_meet
                  case rel => exact ⟨⟨_, rfl⟩, rfl⟩
              case rest =>
                obtain ⟨⟨b, rfl⟩, hwx⟩ := hcut
                subst hwx
                have g2 : (bs [bitB b]).size = 1 := by rw [bs_size]; rfl
                have g3 : (bs [bitB b]).size ≤ 1 := by omega
                go_upto_region 24 with (fail)
                go_still_tail 6, (by kernel_rfl)
                still_call ((l1Bit_calls b _).mono fun _ _ ⟨h1, h2⟩ => ⟨h1, h2.symm⟩)
                refine wpStill_step (fun K hK => ?_)
                go_simp
                rw [if_neg (by omega)]
                refine ⟨rfl, hK _ ?_⟩
                clear hK K
                repeat still_step
                refine wpStill_nil ?_
                have c2 : w4.drew.cell? ⟨w.heap.size + 1, 2, none⟩ = some (.string R3) := c1
                have f2 : w4.drew.frozen? ⟨w.heap.size + 1, 2, none⟩ = false := f1
                change wpList _ _ _ _ _ w4.drew
                go_wp2_with fail
                go_roundg (sz - j - 1)
                case rel => exact ⟨j + 1, _, q3 + 1, by omega, by go_num, F4.out.drew.put 2 (.string (R3 ++ bs [bitB b])) rfl, HR3.out.app _ (by omega), by omega⟩
                case measure => omega
            · by_cases hj1 : j = k + 1
              · subst hj1
                clear hkj
                go_upto_block 4 with (fail)
                go_cut [9] (fun v wx => (∃ b : Bool, v = .bool b) ∧ w4 = wx)
                case first =>
                  go_wp2_with fail
                  all_goals
                    go_meet
                    case rel => exact ⟨⟨_, rfl⟩, rfl⟩
                case rest =>
                  obtain ⟨⟨b, rfl⟩, hwx⟩ := hcut
                  subst hwx
                  have g2 : (bs [bitB b]).size = 1 := by rw [bs_size]; rfl
                  have g3 : (bs [bitB b]).size ≤ 1 := by omega
                  go_upto_region 24 with (fail)
                  go_still_tail 6, (by kernel_rfl)
                  still_call ((l1Bit_calls b _).mono fun _ _ ⟨h1, h2⟩ => ⟨h1, h2.symm⟩)
                  refine wpStill_step (fun K hK => ?_)
                  go_simp
                  rw [if_neg (by omega)]
                  refine ⟨rfl, hK _ ?_⟩
                  clear hK K
                  repeat still_step
                  refine wpStill_nil ?_
                  have c2 : w4.drew.cell? ⟨w.heap.size + 1, 2, none⟩ = some (.string R3) := c1
                  have f2 : w4.drew.frozen? ⟨w.heap.size + 1, 2, none⟩ = false := f1
                  change wpList _ _ _ _ _ w4.drew
                  go_wp2_with fail
                  go_roundg (sz - (k + 1) - 1)
                  case rel => exact ⟨k + 1 + 1, _, q3 + 1, by omega, by go_num, F4.out.drew.put 2 (.string (R3 ++ bs [bitB b])) rfl, HR3.out.app _ (by omega), by omega⟩
                  case measure => omega
              · by_cases hk1' : k = j + 1
                · subst hk1'
                  clear hkj hj1
                  go_upto_block 4 with (fail)
                  go_cut [9] (fun v wx => (∃ b : Bool, v = .bool b) ∧ w4 = wx)
                  case first =>
                    go_wp2_with fail
                    all_goals
                      go_meet
                      case rel => exact ⟨⟨_, rfl⟩, rfl⟩
                  case rest =>
                    obtain ⟨⟨b, rfl⟩, hwx⟩ := hcut
                    subst hwx
                    have g2 : (bs [bitB b]).size = 1 := by rw [bs_size]; rfl
                    have g3 : (bs [bitB b]).size ≤ 1 := by omega
                    go_upto_region 24 with (fail)
                    go_still_tail 6, (by kernel_rfl)
                    still_call ((l1Bit_calls b _).mono fun _ _ ⟨h1, h2⟩ => ⟨h1, h2.symm⟩)
                    refine wpStill_step (fun K hK => ?_)
                    go_simp
                    rw [if_neg (by omega)]
                    refine ⟨rfl, hK _ ?_⟩
                    clear hK K
                    repeat still_step
                    refine wpStill_nil ?_
                    have c2 : w4.drew.cell? ⟨w.heap.size + 1, 2, none⟩ = some (.string R3) := c1
                    have f2 : w4.drew.frozen? ⟨w.heap.size + 1, 2, none⟩ = false := f1
                    change wpList _ _ _ _ _ w4.drew
                    go_wp2_with fail
                    go_roundg (sz - j - 1)
                    case rel => exact ⟨j + 1, _, q3 + 1, by omega, by go_num, F4.out.drew.put 2 (.string (R3 ++ bs [bitB b])) rfl, HR3.out.app _ (by omega), by omega⟩
                    case measure => omega
                · have e1 : ((k : Int) == (j : Int)) = false := by simp; omega
                  have e2 : ((k : Int) != (j : Int)) = true := by simp; omega
                  have e3 : ¬ (k : Int) = (j : Int) := by omega
                  have e4 : ((j : Int) == (k : Int) + 1) = false := by simp; omega
                  have e5 : ((k : Int) == (j : Int) + 1) = false := by simp; omega
                  have Hkj := Lib.hid hkj
                  have Hj1 := Lib.hid hj1
                  have Hk1 := Lib.hid hk1'
                  clear hkj hj1 hk1'
                  go_upto_block 4 with (fail)
                  go_cut [9] (fun v wx => (∃ b : Bool, v = .bool b) ∧ w4 = wx)
                  case first =>
                    go_wp2_with fail
                    all_goals
                      go_meet
                      case rel => exact ⟨⟨_, rfl⟩, rfl⟩
                  case rest =>
                    obtain ⟨⟨b, rfl⟩, hwx⟩ := hcut
                    subst hwx
                    have g2 : (bs [bitB b]).size = 1 := by rw [bs_size]; rfl
                    have g3 : (bs [bitB b]).size ≤ 1 := by omega
                    go_upto_region 24 with (fail)
                    go_still_tail 6, (by kernel_rfl)
                    still_call ((l1Bit_calls b _).mono fun _ _ ⟨h1, h2⟩ => ⟨h1, h2.symm⟩)
                    refine wpStill_step (fun K hK => ?_)
                    go_simp
                    rw [if_neg (by omega)]
                    refine ⟨rfl, hK _ ?_⟩
                    clear hK K
                    repeat still_step
                    refine wpStill_nil ?_
                    have c2 : w4.drew.cell? ⟨w.heap.size + 1, 2, none⟩ = some (.string R3) := c1
                    have f2 : w4.drew.frozen? ⟨w.heap.size + 1, 2, none⟩ = false := f1
                    change wpList _ _ _ _ _ w4.drew
                    go_wp2_with fail
                    go_roundg (sz - j - 1)
                    case rel => exact ⟨j + 1, _, q3 + 1, by omega, by go_num, F4.out.drew.put 2 (.string (R3 ++ bs [bitB b])) rfl, HR3.out.app _ (by omega), by omega⟩
                    case measure => omega
          · have hji : ¬ (j : Int) < (sz : Int) := by omega
            obtain rfl : sz = j := by omega
            have HR3 := Lib.hid hR3
            clear hR3
            go_wp2_with fail
            go_roundg (sz - k - 1)
            case rel => exact ⟨k + 1, S2, R3, q3, by omega, by go_num, F3.out, HS2.out, by rw [Nat.succ_mul]; exact HR3.out, by omega⟩
            case measure => omega
    · have hki : ¬ (k : Int) < (sz : Int) := by omega
      obtain rfl : sz = k := by omega
      have f0 := hf.res.free 0
      have f1 := hf.res.free 1
      have f2 := hf.res.free 2
      obtain ⟨c0, c1, c2⟩ := box_load hf.res
      obtain ⟨d0, d1, d2⟩ := box_load hf.box
      have y1 := ((hf.res.set 0 (.int .i64 (sz : Nat))).set 1 (.string S)).set 2 (.string R)
      obtain ⟨q0, q1, q2⟩ := box_load (a := .int .i64 (sz : Nat)) (b := .string S) (c := .string R) y1
      have HR := Lib.hid hR
      have HS := Lib.hid hS
      have Hq := Lib.hid hq
      have F9 := Lib.hid hf
      clear y1 hR hS hf
      go_wp2_with fail
      have g0 := rg_set F9.out.rd F9.out.gr F9.out.rlt (Nat.le_refl _) 0 (.int .i64 (sz : Nat))
      have g1 := rg_set g0.1 g0.2 F9.out.rlt (Nat.le_refl _) 1 (.string S)
      have g2 := rg_set g1.1 g1.2 F9.out.rlt (Nat.le_refl _) 2 (.string R)
      obtain ⟨a, ha, han, hae⟩ := szB_st h1 (by omega) HS.out HR.out
      refine bodyPost_ret (v := stV (sz : Nat) S R) ?_ rfl ⟨⟨a, q, by rw [hae], ha, han, by have := Hq.out; omega, g2.1⟩, g2.2⟩
      simp [results, Tryd.results67, go_sem, q0, q1, q2]

end Go.Proofs.YtgnmlijfenjehaaDoor
