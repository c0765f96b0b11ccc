/-
  Laws of the functions that the claim reaches, one after the other (packed by a program of the prover's: WConnect). Conditions: texts below the reach.
-/
import Derived.Test.YtjdnjhoddlalaaaDoorPm12
import Derived.Test.YtjdnjhoddlalaaaDoorPm11
set_option linter.unusedSimpArgs false
set_option linter.unusedVariables false

namespace Go.Proofs.YtjdnjhoddlalaaaDoor
open Go.RowKit
open Pl
set_option linter.unusedSimpArgs false
set_option linter.unusedVariables false

attribute [local go_sem ↓] Go.wp_at_zero Go.wp_at_succ

theorem upd_one (n0 n1 n2 n3 x : Nat) : envL [n0, x, n2, n3] = upd (envL [n0, n1, n2, n3]) 1 x := by
  funext u
  have : u = 0 ∨ u = 1 ∨ u = 2 ∨ u = 3 := by revert u; decide
  rcases this with rfl | rfl | rfl | rfl <;> rfl

set_option maxHeartbeats 16000000 in
set_option maxRecDepth 100000 in
theorem FnConnect_walk (A : Option Addr) (n cap : Nat) (w : World) (h : ByRow w A n) (hc : n ≤ cap) (hm : cap ≤ maxLen) :
    Calls Tryd.prog 3 #[.slice A n cap] w fun e w' => e = .returned (.bool true) ∧ Below w.heap.size w w' := by
  by_cases hn : n ≤ 1048576
  case neg =>
    have hni : (1048576 : Int) < (n : Int) := by omega
    clear h hc hm
    go_enter Tryd.func3, Tryd.ntmps3
    go_wp2_with fail
    go_ret
    exact ⟨rfl, Below.refl _ _⟩
  case pos =>
  have hni : (n : Int) ≤ 1048576 := by omega
  have HD := Lib.hid (DrawHoldsAt_calls A n cap w h hn hc hm)
  clear h hc hm
  go_enter Tryd.func3, Tryd.ntmps3
  go_wp2_with fail
  refine (HD.out).mono ?_
  rintro e w1 ⟨⟨i, s, r, t, zs, A', c, rfl, hs, hr, ht, hzl, hzc, hL⟩, hz⟩
  have B1 := Lib.hid (hz.alloc hz.size (.cells #[.int .i64 i, .string s, .string r] 24))
  have X1 := Lib.hid (Bx.new w1 24 #[.int .i64 i, .string s, .string r])
  have L1 := Lib.hid (hL.alloc (.cells #[.int .i64 i, .string s, .string r] 24))
  have ci := fun W (hW : LRow W A' zs) => HoldsAt_impl i s r t A' zs c W (by unfold maxLen; omega) (by unfold maxLen; omega) (by omega) hzc hW
  have cs := fun W (hW : LRow W A' zs) => HoldsAt_spec i s r t A' zs c W (by unfold maxLen; omega) (by unfold maxLen; omega) (by unfold maxLen; omega) (by omega) hzc hW
  clear hz hL
  rcases hold_cases i s r t zs with ⟨hb, hv⟩ | ⟨a, g, ns, ha, rfl, rfl, rfl, rfl, hgl, rfl, hns, hnl, hfr, hb, hv⟩
  · simp only [hb, hv] at ci cs
    have CI := Lib.hid ci
    have CS := Lib.hid cs
    clear ci cs hb hv
    obtain ⟨x0, x1, x2⟩ := box_load X1.out
    go_wp2_with fail
    refine (CI.out _ L1.out).mono ?_
    rintro e w2 ⟨rfl, hz⟩
    have B2 := Lib.hid (B1.out.trans (hz.mono B1.out.size))
    have X2 := Lib.hid (X1.out.call hz)
    have L2 := Lib.hid (L1.out.call hz)
    clear hz x0 x1 x2
    obtain ⟨x0, x1, x2⟩ := box_load X2.out
    go_wp2_with fail
    refine (CS.out _ L2.out).mono ?_
    rintro e w3 ⟨rfl, hz⟩
    have B3 := Lib.hid (B2.out.trans (hz.mono B2.out.size))
    have X3 := Lib.hid (X2.out.call hz)
    have L3 := Lib.hid (L2.out.call hz)
    clear hz x0 x1 x2
    go_wp2_with fail
    go_ret
    exact ⟨rfl, B3.out⟩
  simp only [hb, hv] at ci cs
  clear hb hv hfr
  have hgs : g.text.length ≤ 64 := by rw [bs_size] at ht; exact ht
  have hti : ((bs g.text).size : Int) ≤ 64 := by omega
  rw [natsI_len] at hzl hzc
  by_cases h4 : ns.length = 4
  case neg =>
    have hl4 : ((natsI ns).length : Int) < 4 := by rw [natsI_len]; omega
    have hVV : (g.holds a (envL ns) != g.holds a (envL ns)) = false := by cases g.holds a (envL ns) <;> rfl
    have hVV2 : (g.holds a (envL ns) == g.holds a (envL ns)) = true := by cases g.holds a (envL ns) <;> rfl
    have CI := Lib.hid ci
    have CS := Lib.hid cs
    clear ci cs
    generalize g.holds a (envL ns) = V at *
    obtain ⟨x0, x1, x2⟩ := box_load X1.out
    go_wp2_with fail
    refine (CI.out _ L1.out).mono ?_
    rintro e w2 ⟨rfl, hz⟩
    have B2 := Lib.hid (B1.out.trans (hz.mono B1.out.size))
    have X2 := Lib.hid (X1.out.call hz)
    have L2 := Lib.hid (L1.out.call hz)
    clear hz x0 x1 x2
    obtain ⟨x0, x1, x2⟩ := box_load X2.out
    go_wp2_with fail
    refine (CS.out _ L2.out).mono ?_
    rintro e w3 ⟨rfl, hz⟩
    have B3 := Lib.hid (B2.out.trans (hz.mono B2.out.size))
    have X3 := Lib.hid (X2.out.call hz)
    have L3 := Lib.hid (L2.out.call hz)
    clear hz x0 x1 x2
    go_wp2_with fail
    go_ret
    exact ⟨rfl, B3.out⟩
  case pos =>
  obtain ⟨n0, n1, n2, n3, rfl⟩ := len4 h4
  obtain ⟨gA, rfl, _⟩ := L1.out (by simp [natsI])
  have hc4 : 4 ≤ c := hzc
  have g0 : n0 < a.n := hns _ (by simp)
  have g1 : n1 < a.n := hns _ (by simp)
  have g2 : n2 < a.n := hns _ (by simp)
  have g3 : n3 < a.n := hns _ (by simp)
  have h8 := ha.hi
  obtain ⟨t, htt⟩ : ∃ t, t = bs g.text := ⟨_, rfl⟩
  have hts : t.size ≤ 64 := by rw [htt]; exact ht
  have htl : ∀ x : Array UInt8, ByteArray.mk x ++ t = bs (x.toList ++ g.text) := fun x => by rw [htt, append_bs, bs_list]
  have htl2 : ∀ x y : Array UInt8, ByteArray.mk x ++ t ++ ByteArray.mk y = bs (x.toList ++ g.text ++ y.toList) := fun x y => by rw [htl, append_bs, bs_list]
  obtain ⟨e, he⟩ : ∃ e, e = envL [n0, n1, n2, n3] := ⟨_, rfl⟩
  obtain ⟨CC, hCC⟩ : ∃ CC, CC = fun k => cnt k (fun x => g.holds a (upd e 1 x)) := ⟨_, rfl⟩
  have four := fun (q : Fm) (f : ByteArray) (hq : q.text.length ≤ 4000) (hf : f = bs q.text) (b : Bool) (hb : q.holds a e = b) (W : World) (hW : LRow W (some ⟨gA, 0, none⟩) (natsI [n0, n1, n2, n3])) => gs_four a ha q hq f hf [n0, n1, n2, n3] hns rfl (some ⟨gA, 0, none⟩) c hc4 b (by rw [← he]; exact hb) W hW
  have cx := fun (x : Nat) (hx : x < a.n) (A2 : Option Addr) (W : World) (hW : LRow W A2 (natsI [n0, x, n2, n3])) => gs_four a ha g (by omega) t htt [n0, x, n2, n3] (fun y hy => by simp at hy; rcases hy with rfl | rfl | rfl | rfl <;> assumption) rfl A2 4 (Nat.le_refl _) (g.holds a (upd e 1 x)) (by rw [he, upd_one n0 n1 n2 n3 x]) W hW
  have hcs := fun k => cnt_succ k (fun x => g.holds a (upd e 1 x))
  have hCa : CC a.n = cnt a.n (fun x => g.holds a (upd e 1 x)) := by rw [hCC]
  have c1 := four (.neg g) (⟨#[33]⟩ ++ t) (by simp [Fm.text]; omega) (by rw [htl]; rfl) (!(g.holds a e)) rfl
  have c2 := four (.con g (.pr 0)) (⟨#[38]⟩ ++ t ++ ⟨#[80, 97]⟩) (by simp [Fm.text]; omega) (by rw [htl2]; rfl) (g.holds a e && a.inS n0) (by rw [he]; rfl)
  have c3 := four (.dis g (.rel 0 1)) (⟨#[124]⟩ ++ t ++ ⟨#[69, 97, 98]⟩) (by simp [Fm.text]; omega) (by rw [htl2]; rfl) (g.holds a e || a.inR n0 n1) (by rw [he]; rfl)
  have c4 := four (.qu .A 1 g) (⟨#[65, 98]⟩ ++ t) (by simp [Fm.text]; omega) (by rw [htl]; rfl) ((CC a.n : Int) == (a.n : Int)) (by rw [hCa]; show (cnt a.n (fun x => g.holds a (upd e 1 x)) == a.n) = _; rw [Bool.eq_iff_iff, beq_iff_eq, beq_iff_eq]; omega)
  have c5 := four (.qu .S 1 g) (⟨#[83, 98]⟩ ++ t) (by simp [Fm.text]; omega) (by rw [htl]; rfl) (decide ((0 : Int) < (CC a.n : Int))) (by rw [hCa]; show decide (0 < cnt a.n (fun x => g.holds a (upd e 1 x))) = _; rw [decide_eq_decide]; omega)
  have c6 := four (.qu .c2 1 g) (⟨#[50, 98]⟩ ++ t) (by simp [Fm.text]; omega) (by rw [htl]; rfl) (decide ((2 : Int) ≤ (CC a.n : Int))) (by rw [hCa]; show decide (2 ≤ cnt a.n (fun x => g.holds a (upd e 1 x))) = _; rw [decide_eq_decide]; omega)
  have c7 := four (.qu .c3 1 g) (⟨#[51, 98]⟩ ++ t) (by simp [Fm.text]; omega) (by rw [htl]; rfl) (decide ((3 : Int) ≤ (CC a.n : Int))) (by rw [hCa]; show decide (3 ≤ cnt a.n (fun x => g.holds a (upd e 1 x))) = _; rw [decide_eq_decide]; omega)
  have c8 := four (.qu .c4 1 g) (⟨#[52, 98]⟩ ++ t) (by simp [Fm.text]; omega) (by rw [htl]; rfl) (decide ((4 : Int) ≤ (CC a.n : Int))) (by rw [hCa]; show decide (4 ≤ cnt a.n (fun x => g.holds a (upd e 1 x))) = _; rw [decide_eq_decide]; omega)
  have ks := fun W => inSet_at a ha n0 g0 W
  have kr := fun W => inRel_at a ha n0 n1 g0 g1 W
  have hC0 : CC 0 = 0 := by rw [hCC]; rfl
  have hCs : ∀ k, CC (k + 1) = CC k + if g.holds a (upd e 1 k) then 1 else 0 := fun k => by rw [hCC]; exact hcs k
  have hCl : ∀ k, CC k ≤ k := fun k => by rw [hCC]; exact cnt_le _ _
  have hs1 : (ByteArray.mk #[38] ++ t).size ≤ 70 := by rw [ByteArray.size_append]; have : (ByteArray.mk #[38]).size = 1 := rfl; omega
  have hs2 : (ByteArray.mk #[124] ++ t).size ≤ 70 := by rw [ByteArray.size_append]; have : (ByteArray.mk #[124]).size = 1 := rfl; omega
  have hSS : (a.inS n0 == a.inS n0) = true := by cases a.inS n0 <;> rfl
  have hRR : (a.inR n0 n1 == a.inR n0 n1) = true := by cases a.inR n0 n1 <;> rfl
  rw [← htt] at ci cs hti
  rw [← he] at ci cs
  have hln : (natsI [n0, n1, n2, n3]).length = 4 := rfl
  rw [hln] at ci cs ⊢
  rw [← htt]
  have CI := Lib.hid ci
  have CS := Lib.hid cs
  have CX := Lib.hid cx
  have HC0 := Lib.hid hC0
  have HCs := Lib.hid hCs
  have HCl := Lib.hid hCl
  have KS := Lib.hid ks
  have KR := Lib.hid kr
  have KK1 := Lib.hid c1
  have KK2 := Lib.hid c2
  have KK3 := Lib.hid c3
  have KK4 := Lib.hid c4
  have KK5 := Lib.hid c5
  have KK6 := Lib.hid c6
  have KK7 := Lib.hid c7
  have KK8 := Lib.hid c8
  clear hCa ci cs cx four hC0 hCs hCl ks kr hcs c1 c2 c3 c4 c5 c6 c7 c8 htl htl2 hCC he htt hzl hzc h4 hns g0 g1 g2 g3 hgs hgl hnl ht
  have hRng : True := trivial
  obtain ⟨NS, hNS⟩ : ∃ NS, NS = a.inS n0 := ⟨_, rfl⟩
  obtain ⟨NR, hNR⟩ : ∃ NR, NR = a.inR n0 n1 := ⟨_, rfl⟩
  rw [← hNS] at hSS KK2 KS
  rw [← hNR] at hRR KK3 KR
  clear hNS hNR
  cases hV : g.holds a e with
  | false =>
    as_aux_lemma =>
      rw [hV] at CI CS KK1 KK2 KK3
      simp only [Bool.not_false, Bool.not_true, Bool.false_and, Bool.true_and, Bool.false_or, Bool.true_or] at KK1 KK2 KK3
      obtain ⟨x0, x1, x2⟩ := box_load X1.out
      go_wp2_with fail
      refine (CI.out _ L1.out).mono ?_
      rintro e w2 ⟨rfl, hz⟩
      have B2 := Lib.hid (B1.out.trans (hz.mono B1.out.size))
      have X2 := Lib.hid (X1.out.call hz)
      have L2 := Lib.hid (L1.out.call hz)
      clear hz x0 x1 x2
      obtain ⟨x0, x1, x2⟩ := box_load X2.out
      go_wp2_with fail
      refine (CS.out _ L2.out).mono ?_
      rintro e w3 ⟨rfl, hz⟩
      have B3 := Lib.hid (B2.out.trans (hz.mono B2.out.size))
      have X3 := Lib.hid (X2.out.call hz)
      have L3 := Lib.hid (L2.out.call hz)
      clear hz x0 x1 x2
      go_wp2_with fail
      go_loopg [10, 11] a.n (fun c cn xi wr => ∃ k : Nat, k + c = a.n ∧ xi = .int .i64 (k : Nat) ∧ cn = .int .i64 (CC k : Nat) ∧ Bx wr w1.heap.size 24 #[.int .i64 (a.n : Int), .string (bs a.set), .string (bs a.rel)] ∧ LRow wr (some ⟨gA, 0, none⟩) (natsI [n0, n1, n2, n3]) ∧ Below w.heap.size w wr)
      case atStart => exact ⟨0, by omega, rfl, by rw [HC0.out]; rfl, X3.out, L3.out, B3.out⟩
      case round =>
        clear X1 X2 X3 L1 L2 L3 B1 B2 B3 CI CS
        obtain ⟨k, hk, rfl, rfl, hxs, hll, hbl⟩ := hrel
        have HX := Lib.hid hxs
        have HL := Lib.hid hll
        have HB := Lib.hid hbl
        clear hxs hll hbl
        have hcl := HCl.out k
        have hcs := HCs.out k
        by_cases hlt : k < a.n
        · have cxk := fun A2 W hW => CX.out k hlt A2 W hW
          obtain ⟨Z, hZ⟩ : ∃ Z, Z = CC k := ⟨_, rfl⟩
          rw [← hZ] at hcl hcs ⊢
          have HZ := Lib.hid hZ
          clear hZ
          have hki : (k : Int) < (a.n : Int) := by omega
          cases hq : g.holds a (upd e 1 k) with
          | false =>
            simp only [hq] at cxk hcs
            have CXk := Lib.hid cxk
            have Hcs := Lib.hid hcs
            clear cxk hcs hq
            obtain ⟨x0, x1, x2⟩ := box_load HX.out
            have B5 := Lib.hid HB.out.drew
            have X5 := Lib.hid HX.out.drew
            have L5 := Lib.hid (show LRow wr.drew (some ⟨gA, 0, none⟩) (natsI [n0, n1, n2, n3]) from HL.out)
            have B6 := Lib.hid (B5.out.alloc B5.out.size (.cells #[.int .i64 (n0 : Nat), .int .i64 (k : Nat), .int .i64 (n2 : Nat), .int .i64 (n3 : Nat)] 3))
            have X6 := Lib.hid (X5.out.alloc (.cells #[.int .i64 (n0 : Nat), .int .i64 (k : Nat), .int .i64 (n2 : Nat), .int .i64 (n3 : Nat)] 3))
            have L6 := Lib.hid (L5.out.alloc (.cells #[.int .i64 (n0 : Nat), .int .i64 (k : Nat), .int .i64 (n2 : Nat), .int .i64 (n3 : Nat)] 3))
            have M6 := Lib.hid (LRow_four wr.drew n0 k n2 n3)
            obtain ⟨y0, y1, y2⟩ := box_load X5.out
            obtain ⟨y3, y4, y5, y6⟩ := four_cells L5.out
            obtain ⟨q0, q1, q2⟩ := box_load X6.out
            obtain ⟨q3, q4, q5, q6⟩ := four_cells L6.out
            go_upto_region 12 with (fail)
            refine region_sched [(0, true), (1, true), (2, true), (3, true), (4, true), (5, true), (6, true), (7, true), (8, true), (9, true), (10, true), (11, true), (12, false), (13, false)] (fun w' : World => w'.cell? ⟨w1.heap.size, 0, none⟩ = some (.int .i64 (a.n : Int)) ∧ w'.cell? ⟨w1.heap.size, 1, none⟩ = some (.string (bs a.set)) ∧ w'.cell? ⟨w1.heap.size, 2, none⟩ = some (.string (bs a.rel)) ∧ w'.cell? ⟨gA, 0, none⟩ = some (.int .i64 (n0 : Nat)) ∧ w'.cell? ⟨gA, 1, none⟩ = some (.int .i64 (n1 : Nat)) ∧ w'.cell? ⟨gA, 2, none⟩ = some (.int .i64 (n2 : Nat)) ∧ w'.cell? ⟨gA, 3, none⟩ = some (.int .i64 (n3 : Nat))) (by kernel_rfl) (by kernel_rfl) (by kernel_rfl) (by kernel_rfl) (fun _ _ _ _ h => h) ?_ (fun Q1 hQ1 => ?_)
            · exact ⟨y0, y1, y2, y3, y4, y5, y6⟩
            try simp only [List.append]
            refine sched_take' (v := .agg #[.int .i64 (a.n : Int), .string (bs a.set), .string (bs a.rel)]) (a' := ?_) rfl (by kernel_rfl) ?_ rfl ?_ ?_
            rotate_left 1
            · intro w hSw
              (try dsimp only at hSw)
              go_simp
              first | done | (obtain ⟨u0, u1, u2, u3, u4, u5, u6⟩ := hSw; simp [*])
            · (try simp only [Act.put, List.setIfInBounds_toArray, List.set_cons_zero, List.set_cons_succ])
              try rfl
            refine sched_take' (v := ?_) (a' := ?_) rfl (by kernel_rfl) ?_ rfl ?_ ?_
            rotate_left 2
            · intro w hSw
              (try dsimp only at hSw)
              go_simp
              try with_reducible rfl
            · (try simp only [Act.put, List.setIfInBounds_toArray, List.set_cons_zero, List.set_cons_succ])
              try rfl
            refine sched_take' (v := ?_) (a' := ?_) rfl (by kernel_rfl) ?_ rfl ?_ ?_
            rotate_left 2
            · intro w hSw
              (try dsimp only at hSw)
              go_simp
              try with_reducible rfl
            · (try simp only [Act.put, List.setIfInBounds_toArray, List.set_cons_zero, List.set_cons_succ])
              try rfl
            refine sched_take' (v := ?_) (a' := ?_) rfl (by kernel_rfl) ?_ rfl ?_ ?_
            rotate_left 2
            · intro w hSw
              (try dsimp only at hSw)
              go_simp
              try with_reducible rfl
            · (try simp only [Act.put, List.setIfInBounds_toArray, List.set_cons_zero, List.set_cons_succ])
              try rfl
            refine sched_take' (v := .int .i64 (n0 : Nat)) (a' := ?_) rfl (by kernel_rfl) ?_ rfl ?_ ?_
            rotate_left 1
            · intro w hSw
              (try dsimp only at hSw)
              go_simp
              first | done | (obtain ⟨u0, u1, u2, u3, u4, u5, u6⟩ := hSw; simp [*])
            · (try simp only [Act.put, List.setIfInBounds_toArray, List.set_cons_zero, List.set_cons_succ])
              try rfl
            refine sched_take' (v := ?_) (a' := ?_) rfl (by kernel_rfl) ?_ rfl ?_ ?_
            rotate_left 2
            · intro w hSw
              (try dsimp only at hSw)
              go_simp
              try with_reducible rfl
            · (try simp only [Act.put, List.setIfInBounds_toArray, List.set_cons_zero, List.set_cons_succ])
              try rfl
            refine sched_take' (v := ?_) (a' := ?_) rfl (by kernel_rfl) ?_ rfl ?_ ?_
            rotate_left 2
            · intro w hSw
              (try dsimp only at hSw)
              go_simp
              try with_reducible rfl
            · (try simp only [Act.put, List.setIfInBounds_toArray, List.set_cons_zero, List.set_cons_succ])
              try rfl
            refine sched_take' (v := ?_) (a' := ?_) rfl (by kernel_rfl) ?_ rfl ?_ ?_
            rotate_left 2
            · intro w hSw
              (try dsimp only at hSw)
              go_simp
              try with_reducible rfl
            · (try simp only [Act.put, List.setIfInBounds_toArray, List.set_cons_zero, List.set_cons_succ])
              try rfl
            refine sched_take' (v := .int .i64 (n2 : Nat)) (a' := ?_) rfl (by kernel_rfl) ?_ rfl ?_ ?_
            rotate_left 1
            · intro w hSw
              (try dsimp only at hSw)
              go_simp
              first | done | (obtain ⟨u0, u1, u2, u3, u4, u5, u6⟩ := hSw; simp [*])
            · (try simp only [Act.put, List.setIfInBounds_toArray, List.set_cons_zero, List.set_cons_succ])
              try rfl
            refine sched_take' (v := ?_) (a' := ?_) rfl (by kernel_rfl) ?_ rfl ?_ ?_
            rotate_left 2
            · intro w hSw
              (try dsimp only at hSw)
              go_simp
              try with_reducible rfl
            · (try simp only [Act.put, List.setIfInBounds_toArray, List.set_cons_zero, List.set_cons_succ])
              try rfl
            refine sched_take' (v := ?_) (a' := ?_) rfl (by kernel_rfl) ?_ rfl ?_ ?_
            rotate_left 2
            · intro w hSw
              (try dsimp only at hSw)
              go_simp
              try with_reducible rfl
            · (try simp only [Act.put, List.setIfInBounds_toArray, List.set_cons_zero, List.set_cons_succ])
              try rfl
            refine sched_take' (v := .int .i64 (n3 : Nat)) (a' := ?_) rfl (by kernel_rfl) ?_ rfl ?_ ?_
            rotate_left 1
            · intro w hSw
              (try dsimp only at hSw)
              go_simp
              first | done | (obtain ⟨u0, u1, u2, u3, u4, u5, u6⟩ := hSw; simp [*])
            · (try simp only [Act.put, List.setIfInBounds_toArray, List.set_cons_zero, List.set_cons_succ])
              try rfl
            refine sched_call rfl (by kernel_rfl) (fun K1 hK1 => ?_)
            go_simp
            refine hK1.out _ _ ?_ (sched_lay (a' := ?_) ?_ ?_)
            · exact ⟨q0, q1, q2, q3, q4, q5, q6⟩
            rotate_left 1
            · (try simp only [Act.put, List.getElem_toArray, List.getElem_cons_succ, List.getElem_cons_zero, List.setIfInBounds_toArray, List.set_cons_zero, List.set_cons_succ])
              try rfl
            clear hK1 K1
            refine sched_call rfl (by kernel_rfl) (fun K1 hK1 => ?_)
            go_simp
            refine (CXk.out _ _ M6.out).mono ?_
            rintro e w7 ⟨rfl, hz⟩
            have B7 := Lib.hid (B6.out.trans (hz.mono B6.out.size))
            have X7 := Lib.hid (X6.out.call hz)
            have L7 := Lib.hid (L6.out.call hz)
            clear hz
            obtain ⟨z0, z1, z2⟩ := box_load X7.out
            obtain ⟨z3, z4, z5, z6⟩ := four_cells L7.out
            go_wp2_with fail
            refine hK1.out _ _ ?_ (sched_lay (a' := ?_) ?_ ?_)
            · exact ⟨z0, z1, z2, z3, z4, z5, z6⟩
            rotate_left 1
            · (try simp only [Act.put, List.getElem_toArray, List.getElem_cons_succ, List.getElem_cons_zero, List.setIfInBounds_toArray, List.set_cons_zero, List.set_cons_succ])
              try rfl
            clear hK1 K1
            refine sched_done (hQ1.out _ _ ?_)
            go_wp2_with fail
            go_roundg (a.n - k - 1)
            case rel => exact ⟨k + 1, by omega, by go_num, by rw [Hcs.out]; rfl, X7.out, L7.out, B7.out⟩
            case measure => omega
          | true =>
            simp only [hq] at cxk hcs
            have CXk := Lib.hid cxk
            have Hcs := Lib.hid hcs
            clear cxk hcs hq
            obtain ⟨x0, x1, x2⟩ := box_load HX.out
            have B5 := Lib.hid HB.out.drew
            have X5 := Lib.hid HX.out.drew
            have L5 := Lib.hid (show LRow wr.drew (some ⟨gA, 0, none⟩) (natsI [n0, n1, n2, n3]) from HL.out)
            have B6 := Lib.hid (B5.out.alloc B5.out.size (.cells #[.int .i64 (n0 : Nat), .int .i64 (k : Nat), .int .i64 (n2 : Nat), .int .i64 (n3 : Nat)] 3))
            have X6 := Lib.hid (X5.out.alloc (.cells #[.int .i64 (n0 : Nat), .int .i64 (k : Nat), .int .i64 (n2 : Nat), .int .i64 (n3 : Nat)] 3))
            have L6 := Lib.hid (L5.out.alloc (.cells #[.int .i64 (n0 : Nat), .int .i64 (k : Nat), .int .i64 (n2 : Nat), .int .i64 (n3 : Nat)] 3))
            have M6 := Lib.hid (LRow_four wr.drew n0 k n2 n3)
            obtain ⟨y0, y1, y2⟩ := box_load X5.out
            obtain ⟨y3, y4, y5, y6⟩ := four_cells L5.out
            obtain ⟨q0, q1, q2⟩ := box_load X6.out
            obtain ⟨q3, q4, q5, q6⟩ := four_cells L6.out
            go_upto_region 12 with (fail)
            refine region_sched [(0, true), (1, true), (2, true), (3, true), (4, true), (5, true), (6, true), (7, true), (8, true), (9, true), (10, true), (11, true), (12, false), (13, false)] (fun w' : World => w'.cell? ⟨w1.heap.size, 0, none⟩ = some (.int .i64 (a.n : Int)) ∧ w'.cell? ⟨w1.heap.size, 1, none⟩ = some (.string (bs a.set)) ∧ w'.cell? ⟨w1.heap.size, 2, none⟩ = some (.string (bs a.rel)) ∧ w'.cell? ⟨gA, 0, none⟩ = some (.int .i64 (n0 : Nat)) ∧ w'.cell? ⟨gA, 1, none⟩ = some (.int .i64 (n1 : Nat)) ∧ w'.cell? ⟨gA, 2, none⟩ = some (.int .i64 (n2 : Nat)) ∧ w'.cell? ⟨gA, 3, none⟩ = some (.int .i64 (n3 : Nat))) (by kernel_rfl) (by kernel_rfl) (by kernel_rfl) (by kernel_rfl) (fun _ _ _ _ h => h) ?_ (fun Q1 hQ1 => ?_)
            · exact ⟨y0, y1, y2, y3, y4, y5, y6⟩
            try simp only [List.append]
            refine sched_take' (v := .agg #[.int .i64 (a.n : Int), .string (bs a.set), .string (bs a.rel)]) (a' := ?_) rfl (by kernel_rfl) ?_ rfl ?_ ?_
            rotate_left 1
            · intro w hSw
              (try dsimp only at hSw)
              go_simp
              first | done | (obtain ⟨u0, u1, u2, u3, u4, u5, u6⟩ := hSw; simp [*])
            · (try simp only [Act.put, List.setIfInBounds_toArray, List.set_cons_zero, List.set_cons_succ])
              try rfl
            refine sched_take' (v := ?_) (a' := ?_) rfl (by kernel_rfl) ?_ rfl ?_ ?_
            rotate_left 2
            · intro w hSw
              (try dsimp only at hSw)
              go_simp
              try with_reducible rfl
            · (try simp only [Act.put, List.setIfInBounds_toArray, List.set_cons_zero, List.set_cons_succ])
              try rfl
            refine sched_take' (v := ?_) (a' := ?_) rfl (by kernel_rfl) ?_ rfl ?_ ?_
            rotate_left 2
            · intro w hSw
              (try dsimp only at hSw)
              go_simp
              try with_reducible rfl
            · (try simp only [Act.put, List.setIfInBounds_toArray, List.set_cons_zero, List.set_cons_succ])
              try rfl
            refine sched_take' (v := ?_) (a' := ?_) rfl (by kernel_rfl) ?_ rfl ?_ ?_
            rotate_left 2
            · intro w hSw
              (try dsimp only at hSw)
              go_simp
              try with_reducible rfl
            · (try simp only [Act.put, List.setIfInBounds_toArray, List.set_cons_zero, List.set_cons_succ])
              try rfl
            refine sched_take' (v := .int .i64 (n0 : Nat)) (a' := ?_) rfl (by kernel_rfl) ?_ rfl ?_ ?_
            rotate_left 1
            · intro w hSw
              (try dsimp only at hSw)
              go_simp
              first | done | (obtain ⟨u0, u1, u2, u3, u4, u5, u6⟩ := hSw; simp [*])
            · (try simp only [Act.put, List.setIfInBounds_toArray, List.set_cons_zero, List.set_cons_succ])
              try rfl
            refine sched_take' (v := ?_) (a' := ?_) rfl (by kernel_rfl) ?_ rfl ?_ ?_
            rotate_left 2
            · intro w hSw
              (try dsimp only at hSw)
              go_simp
              try with_reducible rfl
            · (try simp only [Act.put, List.setIfInBounds_toArray, List.set_cons_zero, List.set_cons_succ])
              try rfl
            refine sched_take' (v := ?_) (a' := ?_) rfl (by kernel_rfl) ?_ rfl ?_ ?_
            rotate_left 2
            · intro w hSw
              (try dsimp only at hSw)
              go_simp
              try with_reducible rfl
            · (try simp only [Act.put, List.setIfInBounds_toArray, List.set_cons_zero, List.set_cons_succ])
              try rfl
            refine sched_take' (v := ?_) (a' := ?_) rfl (by kernel_rfl) ?_ rfl ?_ ?_
            rotate_left 2
            · intro w hSw
              (try dsimp only at hSw)
              go_simp
              try with_reducible rfl
            · (try simp only [Act.put, List.setIfInBounds_toArray, List.set_cons_zero, List.set_cons_succ])
              try rfl
            refine sched_take' (v := .int .i64 (n2 : Nat)) (a' := ?_) rfl (by kernel_rfl) ?_ rfl ?_ ?_
            rotate_left 1
            · intro w hSw
              (try dsimp only at hSw)
              go_simp
              first | done | (obtain ⟨u0, u1, u2, u3, u4, u5, u6⟩ := hSw; simp [*])
            · (try simp only [Act.put, List.setIfInBounds_toArray, List.set_cons_zero, List.set_cons_succ])
              try rfl
            refine sched_take' (v := ?_) (a' := ?_) rfl (by kernel_rfl) ?_ rfl ?_ ?_
            rotate_left 2
            · intro w hSw
              (try dsimp only at hSw)
              go_simp
              try with_reducible rfl
            · (try simp only [Act.put, List.setIfInBounds_toArray, List.set_cons_zero, List.set_cons_succ])
              try rfl
            refine sched_take' (v := ?_) (a' := ?_) rfl (by kernel_rfl) ?_ rfl ?_ ?_
            rotate_left 2
            · intro w hSw
              (try dsimp only at hSw)
              go_simp
              try with_reducible rfl
            · (try simp only [Act.put, List.setIfInBounds_toArray, List.set_cons_zero, List.set_cons_succ])
              try rfl
            refine sched_take' (v := .int .i64 (n3 : Nat)) (a' := ?_) rfl (by kernel_rfl) ?_ rfl ?_ ?_
            rotate_left 1
            · intro w hSw
              (try dsimp only at hSw)
              go_simp
              first | done | (obtain ⟨u0, u1, u2, u3, u4, u5, u6⟩ := hSw; simp [*])
            · (try simp only [Act.put, List.setIfInBounds_toArray, List.set_cons_zero, List.set_cons_succ])
              try rfl
            refine sched_call rfl (by kernel_rfl) (fun K1 hK1 => ?_)
            go_simp
            refine hK1.out _ _ ?_ (sched_lay (a' := ?_) ?_ ?_)
            · exact ⟨q0, q1, q2, q3, q4, q5, q6⟩
            rotate_left 1
            · (try simp only [Act.put, List.getElem_toArray, List.getElem_cons_succ, List.getElem_cons_zero, List.setIfInBounds_toArray, List.set_cons_zero, List.set_cons_succ])
              try rfl
            clear hK1 K1
            refine sched_call rfl (by kernel_rfl) (fun K1 hK1 => ?_)
            go_simp
            refine (CXk.out _ _ M6.out).mono ?_
            rintro e w7 ⟨rfl, hz⟩
            have B7 := Lib.hid (B6.out.trans (hz.mono B6.out.size))
            have X7 := Lib.hid (X6.out.call hz)
            have L7 := Lib.hid (L6.out.call hz)
            clear hz
            obtain ⟨z0, z1, z2⟩ := box_load X7.out
            obtain ⟨z3, z4, z5, z6⟩ := four_cells L7.out
            go_wp2_with fail
            refine hK1.out _ _ ?_ (sched_lay (a' := ?_) ?_ ?_)
            · exact ⟨z0, z1, z2, z3, z4, z5, z6⟩
            rotate_left 1
            · (try simp only [Act.put, List.getElem_toArray, List.getElem_cons_succ, List.getElem_cons_zero, List.setIfInBounds_toArray, List.set_cons_zero, List.set_cons_succ])
              try rfl
            clear hK1 K1
            refine sched_done (hQ1.out _ _ ?_)
            go_wp2_with fail
            go_roundg (a.n - k - 1)
            case rel => exact ⟨k + 1, by omega, by go_num, by rw [Hcs.out]; rfl, X7.out, L7.out, B7.out⟩
            case measure => omega
        · obtain rfl : k = a.n := by omega
          obtain ⟨x0, x1, x2⟩ := box_load HX.out
          clear hcs
          obtain ⟨Z, hZ⟩ : ∃ Z, Z = CC a.n := ⟨_, rfl⟩
          rw [← hZ] at KK4 KK5 KK6 KK7 KK8 hcl ⊢
          have e4 : (((Z : Int) == (a.n : Int)) == ((Z : Int) == (a.n : Int))) = true := by cases ((Z : Int) == (a.n : Int)) <;> rfl
          clear hZ HC0 HCs HCl
          as_aux_lemma =>
            have B5 := Lib.hid HB.out.drew
            have X5 := Lib.hid HX.out.drew
            have L5 := Lib.hid (show LRow wr.drew (some ⟨gA, 0, none⟩) (natsI [n0, n1, n2, n3]) from HL.out)
            obtain ⟨y0, y1, y2⟩ := box_load X5.out
            obtain ⟨y3, y4, y5, y6⟩ := four_cells L5.out
            go_upto_region 14 with (fail)
            refine region_sched [(0, true), (1, true), (2, true), (3, true), (5, true), (6, true), (4, false), (7, true), (8, true), (9, true), (10, true), (11, true), (12, true), (13, true), (15, true), (14, false), (16, true), (17, true), (18, true), (19, true), (20, true), (21, false), (22, true), (23, true), (24, true), (25, true), (26, true), (27, true), (28, true), (29, true), (30, true), (32, true), (31, false), (33, true), (34, true), (35, true), (36, true), (37, true), (38, true), (39, true), (40, true), (41, false), (42, true), (43, true), (44, true), (45, true), (46, true), (47, true), (48, true), (49, true), (51, true), (52, true), (53, true), (54, true), (50, false), (55, true), (56, true), (57, true), (58, true), (59, true), (60, true), (61, true), (63, true), (64, true), (62, false), (65, true), (66, true), (67, true), (68, true), (69, true), (70, true), (71, true), (73, true), (74, true), (72, false), (75, true), (76, true), (77, true), (78, true), (79, true), (80, true), (81, true), (83, true), (84, true), (82, false), (85, true), (86, true), (87, true), (88, true), (89, true), (90, true), (91, true), (93, true), (94, true), (92, false), (95, true), (96, true), (97, true)] (fun w' : World => w'.cell? ⟨w1.heap.size, 0, none⟩ = some (.int .i64 (a.n : Int)) ∧ w'.cell? ⟨w1.heap.size, 1, none⟩ = some (.string (bs a.set)) ∧ w'.cell? ⟨w1.heap.size, 2, none⟩ = some (.string (bs a.rel)) ∧ w'.cell? ⟨gA, 0, none⟩ = some (.int .i64 (n0 : Nat)) ∧ w'.cell? ⟨gA, 1, none⟩ = some (.int .i64 (n1 : Nat)) ∧ w'.cell? ⟨gA, 2, none⟩ = some (.int .i64 (n2 : Nat)) ∧ w'.cell? ⟨gA, 3, none⟩ = some (.int .i64 (n3 : Nat))) (by kernel_rfl) (by as_aux_lemma => kernel_rfl) (by as_aux_lemma => kernel_rfl) ?ordr (fun _ _ _ _ h => h) ?_ (fun Q1 hQ1 => ?_)
            case ordr =>
              as_aux_lemma =>
                show schedOk _ _ _ #[false, false, false, false, false, false, false, false, false, false, false, false, false, false, false, false, false, false, false, false, false, false, false, false, false, false, false, false, false, false, false, false, false, false, false, false, false, false, false, false, false, false, false, false, false, false, false, false, false, false, false, false, false, false, false, false, false, false, false, false, false, false, false, false, false, false, false, false, false, false, false, false, false, false, false, false, false, false, false, false, false, false, false, false, false, false, false, false, false, false, false, false, false, false, false, false, false, false] = true
                refine schedOk_cut [(0, true), (1, true), (2, true), (3, true), (5, true), (6, true)] [(4, false), (7, true), (8, true), (9, true), (10, true), (11, true), (12, true), (13, true), (15, true), (14, false), (16, true), (17, true), (18, true), (19, true), (20, true), (21, false), (22, true), (23, true), (24, true), (25, true), (26, true), (27, true), (28, true), (29, true), (30, true), (32, true), (31, false), (33, true), (34, true), (35, true), (36, true), (37, true), (38, true), (39, true), (40, true), (41, false), (42, true), (43, true), (44, true), (45, true), (46, true), (47, true), (48, true), (49, true), (51, true), (52, true), (53, true), (54, true), (50, false), (55, true), (56, true), (57, true), (58, true), (59, true), (60, true), (61, true), (63, true), (64, true), (62, false), (65, true), (66, true), (67, true), (68, true), (69, true), (70, true), (71, true), (73, true), (74, true), (72, false), (75, true), (76, true), (77, true), (78, true), (79, true), (80, true), (81, true), (83, true), (84, true), (82, false), (85, true), (86, true), (87, true), (88, true), (89, true), (90, true), (91, true), (93, true), (94, true), (92, false), (95, true), (96, true), (97, true)] _ #[true, true, true, true, false, true, true, false, false, false, false, false, false, false, false, false, false, false, false, false, false, false, false, false, false, false, false, false, false, false, false, false, false, false, false, false, false, false, false, false, false, false, false, false, false, false, false, false, false, false, false, false, false, false, false, false, false, false, false, false, false, false, false, false, false, false, false, false, false, false, false, false, false, false, false, false, false, false, false, false, false, false, false, false, false, false, false, false, false, false, false, false, false, false, false, false, false, false] (by as_aux_lemma => kernel_rfl) (by as_aux_lemma => kernel_rfl) ?_
                refine schedOk_cut [(4, false), (7, true), (8, true), (9, true), (10, true), (11, true)] [(12, true), (13, true), (15, true), (14, false), (16, true), (17, true), (18, true), (19, true), (20, true), (21, false), (22, true), (23, true), (24, true), (25, true), (26, true), (27, true), (28, true), (29, true), (30, true), (32, true), (31, false), (33, true), (34, true), (35, true), (36, true), (37, true), (38, true), (39, true), (40, true), (41, false), (42, true), (43, true), (44, true), (45, true), (46, true), (47, true), (48, true), (49, true), (51, true), (52, true), (53, true), (54, true), (50, false), (55, true), (56, true), (57, true), (58, true), (59, true), (60, true), (61, true), (63, true), (64, true), (62, false), (65, true), (66, true), (67, true), (68, true), (69, true), (70, true), (71, true), (73, true), (74, true), (72, false), (75, true), (76, true), (77, true), (78, true), (79, true), (80, true), (81, true), (83, true), (84, true), (82, false), (85, true), (86, true), (87, true), (88, true), (89, true), (90, true), (91, true), (93, true), (94, true), (92, false), (95, true), (96, true), (97, true)] _ #[true, true, true, true, true, true, true, true, true, true, true, true, false, false, false, false, false, false, false, false, false, false, false, false, false, false, false, false, false, false, false, false, false, false, false, false, false, false, false, false, false, false, false, false, false, false, false, false, false, false, false, false, false, false, false, false, false, false, false, false, false, false, false, false, false, false, false, false, false, false, false, false, false, false, false, false, false, false, false, false, false, false, false, false, false, false, false, false, false, false, false, false, false, false, false, false, false, false] (by as_aux_lemma => kernel_rfl) (by as_aux_lemma => kernel_rfl) ?_
                refine schedOk_cut [(12, true), (13, true), (15, true), (14, false), (16, true), (17, true)] [(18, true), (19, true), (20, true), (21, false), (22, true), (23, true), (24, true), (25, true), (26, true), (27, true), (28, true), (29, true), (30, true), (32, true), (31, false), (33, true), (34, true), (35, true), (36, true), (37, true), (38, true), (39, true), (40, true), (41, false), (42, true), (43, true), (44, true), (45, true), (46, true), (47, true), (48, true), (49, true), (51, true), (52, true), (53, true), (54, true), (50, false), (55, true), (56, true), (57, true), (58, true), (59, true), (60, true), (61, true), (63, true), (64, true), (62, false), (65, true), (66, true), (67, true), (68, true), (69, true), (70, true), (71, true), (73, true), (74, true), (72, false), (75, true), (76, true), (77, true), (78, true), (79, true), (80, true), (81, true), (83, true), (84, true), (82, false), (85, true), (86, true), (87, true), (88, true), (89, true), (90, true), (91, true), (93, true), (94, true), (92, false), (95, true), (96, true), (97, true)] _ #[true, true, true, true, true, true, true, true, true, true, true, true, true, true, true, true, true, true, false, false, false, false, false, false, false, false, false, false, false, false, false, false, false, false, false, false, false, false, false, false, false, false, false, false, false, false, false, false, false, false, false, false, false, false, false, false, false, false, false, false, false, false, false, false, false, false, false, false, false, false, false, false, false, false, false, false, false, false, false, false, false, false, false, false, false, false, false, false, false, false, false, false, false, false, false, false, false, false] (by as_aux_lemma => kernel_rfl) (by as_aux_lemma => kernel_rfl) ?_
                refine schedOk_cut [(18, true), (19, true), (20, true), (21, false), (22, true), (23, true)] [(24, true), (25, true), (26, true), (27, true), (28, true), (29, true), (30, true), (32, true), (31, false), (33, true), (34, true), (35, true), (36, true), (37, true), (38, true), (39, true), (40, true), (41, false), (42, true), (43, true), (44, true), (45, true), (46, true), (47, true), (48, true), (49, true), (51, true), (52, true), (53, true), (54, true), (50, false), (55, true), (56, true), (57, true), (58, true), (59, true), (60, true), (61, true), (63, true), (64, true), (62, false), (65, true), (66, true), (67, true), (68, true), (69, true), (70, true), (71, true), (73, true), (74, true), (72, false), (75, true), (76, true), (77, true), (78, true), (79, true), (80, true), (81, true), (83, true), (84, true), (82, false), (85, true), (86, true), (87, true), (88, true), (89, true), (90, true), (91, true), (93, true), (94, true), (92, false), (95, true), (96, true), (97, true)] _ #[true, true, true, true, true, true, true, true, true, true, true, true, true, true, true, true, true, true, true, true, true, true, true, true, false, false, false, false, false, false, false, false, false, false, false, false, false, false, false, false, false, false, false, false, false, false, false, false, false, false, false, false, false, false, false, false, false, false, false, false, false, false, false, false, false, false, false, false, false, false, false, false, false, false, false, false, false, false, false, false, false, false, false, false, false, false, false, false, false, false, false, false, false, false, false, false, false, false] (by as_aux_lemma => kernel_rfl) (by as_aux_lemma => kernel_rfl) ?_
                refine schedOk_cut [(24, true), (25, true), (26, true), (27, true), (28, true), (29, true)] [(30, true), (32, true), (31, false), (33, true), (34, true), (35, true), (36, true), (37, true), (38, true), (39, true), (40, true), (41, false), (42, true), (43, true), (44, true), (45, true), (46, true), (47, true), (48, true), (49, true), (51, true), (52, true), (53, true), (54, true), (50, false), (55, true), (56, true), (57, true), (58, true), (59, true), (60, true), (61, true), (63, true), (64, true), (62, false), (65, true), (66, true), (67, true), (68, true), (69, true), (70, true), (71, true), (73, true), (74, true), (72, false), (75, true), (76, true), (77, true), (78, true), (79, true), (80, true), (81, true), (83, true), (84, true), (82, false), (85, true), (86, true), (87, true), (88, true), (89, true), (90, true), (91, true), (93, true), (94, true), (92, false), (95, true), (96, true), (97, true)] _ #[true, true, true, true, true, true, true, true, true, true, true, true, true, true, true, true, true, true, true, true, true, true, true, true, true, true, true, true, true, true, false, false, false, false, false, false, false, false, false, false, false, false, false, false, false, false, false, false, false, false, false, false, false, false, false, false, false, false, false, false, false, false, false, false, false, false, false, false, false, false, false, false, false, false, false, false, false, false, false, false, false, false, false, false, false, false, false, false, false, false, false, false, false, false, false, false, false, false] (by as_aux_lemma => kernel_rfl) (by as_aux_lemma => kernel_rfl) ?_
                refine schedOk_cut [(30, true), (32, true), (31, false), (33, true), (34, true), (35, true)] [(36, true), (37, true), (38, true), (39, true), (40, true), (41, false), (42, true), (43, true), (44, true), (45, true), (46, true), (47, true), (48, true), (49, true), (51, true), (52, true), (53, true), (54, true), (50, false), (55, true), (56, true), (57, true), (58, true), (59, true), (60, true), (61, true), (63, true), (64, true), (62, false), (65, true), (66, true), (67, true), (68, true), (69, true), (70, true), (71, true), (73, true), (74, true), (72, false), (75, true), (76, true), (77, true), (78, true), (79, true), (80, true), (81, true), (83, true), (84, true), (82, false), (85, true), (86, true), (87, true), (88, true), (89, true), (90, true), (91, true), (93, true), (94, true), (92, false), (95, true), (96, true), (97, true)] _ #[true, true, true, true, true, true, true, true, true, true, true, true, true, true, true, true, true, true, true, true, true, true, true, true, true, true, true, true, true, true, true, true, true, true, true, true, false, false, false, false, false, false, false, false, false, false, false, false, false, false, false, false, false, false, false, false, false, false, false, false, false, false, false, false, false, false, false, false, false, false, false, false, false, false, false, false, false, false, false, false, false, false, false, false, false, false, false, false, false, false, false, false, false, false, false, false, false, false] (by as_aux_lemma => kernel_rfl) (by as_aux_lemma => kernel_rfl) ?_
                refine schedOk_cut [(36, true), (37, true), (38, true), (39, true), (40, true), (41, false)] [(42, true), (43, true), (44, true), (45, true), (46, true), (47, true), (48, true), (49, true), (51, true), (52, true), (53, true), (54, true), (50, false), (55, true), (56, true), (57, true), (58, true), (59, true), (60, true), (61, true), (63, true), (64, true), (62, false), (65, true), (66, true), (67, true), (68, true), (69, true), (70, true), (71, true), (73, true), (74, true), (72, false), (75, true), (76, true), (77, true), (78, true), (79, true), (80, true), (81, true), (83, true), (84, true), (82, false), (85, true), (86, true), (87, true), (88, true), (89, true), (90, true), (91, true), (93, true), (94, true), (92, false), (95, true), (96, true), (97, true)] _ #[true, true, true, true, true, true, true, true, true, true, true, true, true, true, true, true, true, true, true, true, true, true, true, true, true, true, true, true, true, true, true, true, true, true, true, true, true, true, true, true, true, true, false, false, false, false, false, false, false, false, false, false, false, false, false, false, false, false, false, false, false, false, false, false, false, false, false, false, false, false, false, false, false, false, false, false, false, false, false, false, false, false, false, false, false, false, false, false, false, false, false, false, false, false, false, false, false, false] (by as_aux_lemma => kernel_rfl) (by as_aux_lemma => kernel_rfl) ?_
                refine schedOk_cut [(42, true), (43, true), (44, true), (45, true), (46, true), (47, true)] [(48, true), (49, true), (51, true), (52, true), (53, true), (54, true), (50, false), (55, true), (56, true), (57, true), (58, true), (59, true), (60, true), (61, true), (63, true), (64, true), (62, false), (65, true), (66, true), (67, true), (68, true), (69, true), (70, true), (71, true), (73, true), (74, true), (72, false), (75, true), (76, true), (77, true), (78, true), (79, true), (80, true), (81, true), (83, true), (84, true), (82, false), (85, true), (86, true), (87, true), (88, true), (89, true), (90, true), (91, true), (93, true), (94, true), (92, false), (95, true), (96, true), (97, true)] _ #[true, true, true, true, true, true, true, true, true, true, true, true, true, true, true, true, true, true, true, true, true, true, true, true, true, true, true, true, true, true, true, true, true, true, true, true, true, true, true, true, true, true, true, true, true, true, true, true, false, false, false, false, false, false, false, false, false, false, false, false, false, false, false, false, false, false, false, false, false, false, false, false, false, false, false, false, false, false, false, false, false, false, false, false, false, false, false, false, false, false, false, false, false, false, false, false, false, false] (by as_aux_lemma => kernel_rfl) (by as_aux_lemma => kernel_rfl) ?_
                refine schedOk_cut [(48, true), (49, true), (51, true), (52, true), (53, true), (54, true)] [(50, false), (55, true), (56, true), (57, true), (58, true), (59, true), (60, true), (61, true), (63, true), (64, true), (62, false), (65, true), (66, true), (67, true), (68, true), (69, true), (70, true), (71, true), (73, true), (74, true), (72, false), (75, true), (76, true), (77, true), (78, true), (79, true), (80, true), (81, true), (83, true), (84, true), (82, false), (85, true), (86, true), (87, true), (88, true), (89, true), (90, true), (91, true), (93, true), (94, true), (92, false), (95, true), (96, true), (97, true)] _ #[true, true, true, true, true, true, true, true, true, true, true, true, true, true, true, true, true, true, true, true, true, true, true, true, true, true, true, true, true, true, true, true, true, true, true, true, true, true, true, true, true, true, true, true, true, true, true, true, true, true, false, true, true, true, true, false, false, false, false, false, false, false, false, false, false, false, false, false, false, false, false, false, false, false, false, false, false, false, false, false, false, false, false, false, false, false, false, false, false, false, false, false, false, false, false, false, false, false] (by as_aux_lemma => kernel_rfl) (by as_aux_lemma => kernel_rfl) ?_
                refine schedOk_cut [(50, false), (55, true), (56, true), (57, true), (58, true), (59, true)] [(60, true), (61, true), (63, true), (64, true), (62, false), (65, true), (66, true), (67, true), (68, true), (69, true), (70, true), (71, true), (73, true), (74, true), (72, false), (75, true), (76, true), (77, true), (78, true), (79, true), (80, true), (81, true), (83, true), (84, true), (82, false), (85, true), (86, true), (87, true), (88, true), (89, true), (90, true), (91, true), (93, true), (94, true), (92, false), (95, true), (96, true), (97, true)] _ #[true, true, true, true, true, true, true, true, true, true, true, true, true, true, true, true, true, true, true, true, true, true, true, true, true, true, true, true, true, true, true, true, true, true, true, true, true, true, true, true, true, true, true, true, true, true, true, true, true, true, true, true, true, true, true, true, true, true, true, true, false, false, false, false, false, false, false, false, false, false, false, false, false, false, false, false, false, false, false, false, false, false, false, false, false, false, false, false, false, false, false, false, false, false, false, false, false, false] (by as_aux_lemma => kernel_rfl) (by as_aux_lemma => kernel_rfl) ?_
                refine schedOk_cut [(60, true), (61, true), (63, true), (64, true), (62, false), (65, true)] [(66, true), (67, true), (68, true), (69, true), (70, true), (71, true), (73, true), (74, true), (72, false), (75, true), (76, true), (77, true), (78, true), (79, true), (80, true), (81, true), (83, true), (84, true), (82, false), (85, true), (86, true), (87, true), (88, true), (89, true), (90, true), (91, true), (93, true), (94, true), (92, false), (95, true), (96, true), (97, true)] _ #[true, true, true, true, true, true, true, true, true, true, true, true, true, true, true, true, true, true, true, true, true, true, true, true, true, true, true, true, true, true, true, true, true, true, true, true, true, true, true, true, true, true, true, true, true, true, true, true, true, true, true, true, true, true, true, true, true, true, true, true, true, true, true, true, true, true, false, false, false, false, false, false, false, false, false, false, false, false, false, false, false, false, false, false, false, false, false, false, false, false, false, false, false, false, false, false, false, false] (by as_aux_lemma => kernel_rfl) (by as_aux_lemma => kernel_rfl) ?_
                refine schedOk_cut [(66, true), (67, true), (68, true), (69, true), (70, true), (71, true)] [(73, true), (74, true), (72, false), (75, true), (76, true), (77, true), (78, true), (79, true), (80, true), (81, true), (83, true), (84, true), (82, false), (85, true), (86, true), (87, true), (88, true), (89, true), (90, true), (91, true), (93, true), (94, true), (92, false), (95, true), (96, true), (97, true)] _ #[true, true, true, true, true, true, true, true, true, true, true, true, true, true, true, true, true, true, true, true, true, true, true, true, true, true, true, true, true, true, true, true, true, true, true, true, true, true, true, true, true, true, true, true, true, true, true, true, true, true, true, true, true, true, true, true, true, true, true, true, true, true, true, true, true, true, true, true, true, true, true, true, false, false, false, false, false, false, false, false, false, false, false, false, false, false, false, false, false, false, false, false, false, false, false, false, false, false] (by as_aux_lemma => kernel_rfl) (by as_aux_lemma => kernel_rfl) ?_
                refine schedOk_cut [(73, true), (74, true), (72, false), (75, true), (76, true), (77, true)] [(78, true), (79, true), (80, true), (81, true), (83, true), (84, true), (82, false), (85, true), (86, true), (87, true), (88, true), (89, true), (90, true), (91, true), (93, true), (94, true), (92, false), (95, true), (96, true), (97, true)] _ #[true, true, true, true, true, true, true, true, true, true, true, true, true, true, true, true, true, true, true, true, true, true, true, true, true, true, true, true, true, true, true, true, true, true, true, true, true, true, true, true, true, true, true, true, true, true, true, true, true, true, true, true, true, true, true, true, true, true, true, true, true, true, true, true, true, true, true, true, true, true, true, true, true, true, true, true, true, true, false, false, false, false, false, false, false, false, false, false, false, false, false, false, false, false, false, false, false, false] (by as_aux_lemma => kernel_rfl) (by as_aux_lemma => kernel_rfl) ?_
                refine schedOk_cut [(78, true), (79, true), (80, true), (81, true), (83, true), (84, true)] [(82, false), (85, true), (86, true), (87, true), (88, true), (89, true), (90, true), (91, true), (93, true), (94, true), (92, false), (95, true), (96, true), (97, true)] _ #[true, true, true, true, true, true, true, true, true, true, true, true, true, true, true, true, true, true, true, true, true, true, true, true, true, true, true, true, true, true, true, true, true, true, true, true, true, true, true, true, true, true, true, true, true, true, true, true, true, true, true, true, true, true, true, true, true, true, true, true, true, true, true, true, true, true, true, true, true, true, true, true, true, true, true, true, true, true, true, true, true, true, false, true, true, false, false, false, false, false, false, false, false, false, false, false, false, false] (by as_aux_lemma => kernel_rfl) (by as_aux_lemma => kernel_rfl) ?_
                refine schedOk_cut [(82, false), (85, true), (86, true), (87, true), (88, true), (89, true)] [(90, true), (91, true), (93, true), (94, true), (92, false), (95, true), (96, true), (97, true)] _ #[true, true, true, true, true, true, true, true, true, true, true, true, true, true, true, true, true, true, true, true, true, true, true, true, true, true, true, true, true, true, true, true, true, true, true, true, true, true, true, true, true, true, true, true, true, true, true, true, true, true, true, true, true, true, true, true, true, true, true, true, true, true, true, true, true, true, true, true, true, true, true, true, true, true, true, true, true, true, true, true, true, true, true, true, true, true, true, true, true, true, false, false, false, false, false, false, false, false] (by as_aux_lemma => kernel_rfl) (by as_aux_lemma => kernel_rfl) ?_
                refine schedOk_cut [(90, true), (91, true), (93, true), (94, true), (92, false), (95, true)] [(96, true), (97, true)] _ #[true, true, true, true, true, true, true, true, true, true, true, true, true, true, true, true, true, true, true, true, true, true, true, true, true, true, true, true, true, true, true, true, true, true, true, true, true, true, true, true, true, true, true, true, true, true, true, true, true, true, true, true, true, true, true, true, true, true, true, true, true, true, true, true, true, true, true, true, true, true, true, true, true, true, true, true, true, true, true, true, true, true, true, true, true, true, true, true, true, true, true, true, true, true, true, true, false, false] (by as_aux_lemma => kernel_rfl) (by as_aux_lemma => kernel_rfl) ?_
                as_aux_lemma => kernel_rfl
            · exact ⟨y0, y1, y2, y3, y4, y5, y6⟩
            try simp only [List.append]
            refine sched_take' (v := .agg #[.int .i64 (a.n : Int), .string (bs a.set), .string (bs a.rel)]) (a' := ?_) rfl (by kernel_rfl) ?_ rfl ?_ ?_
            rotate_left 1
            · intro w hSw
              (try dsimp only at hSw)
              go_simp
              first | done | (obtain ⟨u0, u1, u2, u3, u4, u5, u6⟩ := hSw; simp [*])
            · (try simp only [Act.put, List.setIfInBounds_toArray, List.set_cons_zero, List.set_cons_succ])
              try rfl
            refine sched_take' (v := ?_) (a' := ?_) rfl (by kernel_rfl) ?_ rfl ?_ ?_
            rotate_left 2
            · intro w hSw
              (try dsimp only at hSw)
              go_simp
              try with_reducible rfl
            · (try simp only [Act.put, List.setIfInBounds_toArray, List.set_cons_zero, List.set_cons_succ])
              try rfl
            refine sched_take' (v := .string (⟨#[33]⟩ ++ t)) (a' := ?_) rfl (by kernel_rfl) ?_ rfl ?_ ?_
            rotate_left 1
            · intro w hSw
              (try dsimp only at hSw)
              go_simp
              first | done | omega
            · (try simp only [Act.put, List.setIfInBounds_toArray, List.set_cons_zero, List.set_cons_succ])
              try rfl
            refine sched_take' (v := ?_) (a' := ?_) rfl (by kernel_rfl) ?_ rfl ?_ ?_
            rotate_left 2
            · intro w hSw
              (try dsimp only at hSw)
              go_simp
              try with_reducible rfl
            · (try simp only [Act.put, List.setIfInBounds_toArray, List.set_cons_zero, List.set_cons_succ])
              try rfl
            refine sched_take' (v := ?_) (a' := ?_) rfl (by kernel_rfl) ?_ rfl ?_ ?_
            rotate_left 2
            · intro w hSw
              (try dsimp only at hSw)
              go_simp
              try with_reducible rfl
            · (try simp only [Act.put, List.setIfInBounds_toArray, List.set_cons_zero, List.set_cons_succ])
              try rfl
            refine sched_take' (v := ?_) (a' := ?_) rfl (by kernel_rfl) ?_ rfl ?_ ?_
            rotate_left 2
            · intro w hSw
              (try dsimp only at hSw)
              go_simp
              try with_reducible rfl
            · (try simp only [Act.put, List.setIfInBounds_toArray, List.set_cons_zero, List.set_cons_succ])
              try rfl
            refine sched_call rfl (by kernel_rfl) (fun K1 hK1 => ?_)
            go_simp
            refine (KK1.out _ L5.out).mono ?_
            rintro e w10 ⟨rfl, hz⟩
            have B10 := Lib.hid (B5.out.trans (hz.mono B5.out.size))
            have X10 := Lib.hid (X5.out.call hz)
            have L10 := Lib.hid (L5.out.call hz)
            clear hz
            obtain ⟨ra0, ra1, ra2⟩ := box_load X10.out
            obtain ⟨ra3, ra4, ra5, ra6⟩ := four_cells L10.out
            go_wp2_with fail
            refine hK1.out _ _ ?_ (sched_lay (a' := ?_) ?_ ?_)
            · exact ⟨ra0, ra1, ra2, ra3, ra4, ra5, ra6⟩
            rotate_left 1
            · (try simp only [Act.put, List.getElem_toArray, List.getElem_cons_succ, List.getElem_cons_zero, List.setIfInBounds_toArray, List.set_cons_zero, List.set_cons_succ])
              try rfl
            clear hK1 K1
            as_aux_lemma =>
              refine sched_take' (v := ?_) (a' := ?_) rfl (by kernel_rfl) ?_ rfl ?_ ?_
              rotate_left 2
              · intro w hSw
                (try dsimp only at hSw)
                go_simp
                try with_reducible rfl
              · (try simp only [Act.put, List.setIfInBounds_toArray, List.set_cons_zero, List.set_cons_succ])
                try rfl
              refine sched_take' (v := ?_) (a' := ?_) rfl (by kernel_rfl) ?_ rfl ?_ ?_
              rotate_left 2
              · intro w hSw
                (try dsimp only at hSw)
                go_simp
                try with_reducible rfl
              · (try simp only [Act.put, List.setIfInBounds_toArray, List.set_cons_zero, List.set_cons_succ])
                try rfl
              refine sched_take' (v := .agg #[.int .i64 (a.n : Int), .string (bs a.set), .string (bs a.rel)]) (a' := ?_) rfl (by kernel_rfl) ?_ rfl ?_ ?_
              rotate_left 1
              · intro w hSw
                (try dsimp only at hSw)
                go_simp
                first | done | (obtain ⟨u0, u1, u2, u3, u4, u5, u6⟩ := hSw; simp [*])
              · (try simp only [Act.put, List.setIfInBounds_toArray, List.set_cons_zero, List.set_cons_succ])
                try rfl
              refine sched_take' (v := ?_) (a' := ?_) rfl (by kernel_rfl) ?_ rfl ?_ ?_
              rotate_left 2
              · intro w hSw
                (try dsimp only at hSw)
                go_simp
                try with_reducible rfl
              · (try simp only [Act.put, List.setIfInBounds_toArray, List.set_cons_zero, List.set_cons_succ])
                try rfl
              refine sched_take' (v := .string (⟨#[38]⟩ ++ t)) (a' := ?_) rfl (by kernel_rfl) ?_ rfl ?_ ?_
              rotate_left 1
              · intro w hSw
                (try dsimp only at hSw)
                go_simp
                first | done | omega
              · (try simp only [Act.put, List.setIfInBounds_toArray, List.set_cons_zero, List.set_cons_succ])
                try rfl
              refine sched_take' (v := .string (⟨#[38]⟩ ++ t ++ ⟨#[80, 97]⟩)) (a' := ?_) rfl (by kernel_rfl) ?_ rfl ?_ ?_
              rotate_left 1
              · intro w hSw
                (try dsimp only at hSw)
                go_simp
                first | done | omega
              · (try simp only [Act.put, List.setIfInBounds_toArray, List.set_cons_zero, List.set_cons_succ])
                try rfl
              refine sched_take' (v := ?_) (a' := ?_) rfl (by kernel_rfl) ?_ rfl ?_ ?_
              rotate_left 2
              · intro w hSw
                (try dsimp only at hSw)
                go_simp
                try with_reducible rfl
              · (try simp only [Act.put, List.setIfInBounds_toArray, List.set_cons_zero, List.set_cons_succ])
                try rfl
              refine sched_take' (v := ?_) (a' := ?_) rfl (by kernel_rfl) ?_ rfl ?_ ?_
              rotate_left 2
              · intro w hSw
                (try dsimp only at hSw)
                go_simp
                try with_reducible rfl
              · (try simp only [Act.put, List.setIfInBounds_toArray, List.set_cons_zero, List.set_cons_succ])
                try rfl
              refine sched_call rfl (by kernel_rfl) (fun K1 hK1 => ?_)
              go_simp
              refine (KK2.out _ L10.out).mono ?_
              rintro e w11 ⟨rfl, hz⟩
              have B11 := Lib.hid (B10.out.trans (hz.mono B10.out.size))
              have X11 := Lib.hid (X10.out.call hz)
              have L11 := Lib.hid (L10.out.call hz)
              clear hz
              obtain ⟨rb0, rb1, rb2⟩ := box_load X11.out
              obtain ⟨rb3, rb4, rb5, rb6⟩ := four_cells L11.out
              go_wp2_with fail
              refine hK1.out _ _ ?_ (sched_lay (a' := ?_) ?_ ?_)
              · exact ⟨rb0, rb1, rb2, rb3, rb4, rb5, rb6⟩
              rotate_left 1
              · (try simp only [Act.put, List.getElem_toArray, List.getElem_cons_succ, List.getElem_cons_zero, List.setIfInBounds_toArray, List.set_cons_zero, List.set_cons_succ])
                try rfl
              clear hK1 K1
              as_aux_lemma =>
                refine sched_take' (v := ?_) (a' := ?_) rfl (by kernel_rfl) ?_ rfl ?_ ?_
                rotate_left 2
                · intro w hSw
                  (try dsimp only at hSw)
                  go_simp
                  try with_reducible rfl
                · (try simp only [Act.put, List.setIfInBounds_toArray, List.set_cons_zero, List.set_cons_succ])
                  try rfl
                refine sched_skip' (a' := ?_) rfl (by kernel_rfl) rfl ?_ ?_
                rotate_left 1
                · (try simp only [Act.put, List.setIfInBounds_toArray, List.set_cons_zero, List.set_cons_succ])
                  try rfl
                refine sched_skip' (a' := ?_) rfl (by kernel_rfl) rfl ?_ ?_
                rotate_left 1
                · (try simp only [Act.put, List.setIfInBounds_toArray, List.set_cons_zero, List.set_cons_succ])
                  try rfl
                refine sched_skip' (a' := ?_) rfl (by kernel_rfl) rfl ?_ ?_
                rotate_left 1
                · (try simp only [Act.put, List.setIfInBounds_toArray, List.set_cons_zero, List.set_cons_succ])
                  try rfl
                refine sched_skip' (a' := ?_) rfl (by kernel_rfl) rfl ?_ ?_
                rotate_left 1
                · (try simp only [Act.put, List.setIfInBounds_toArray, List.set_cons_zero, List.set_cons_succ])
                  try rfl
                refine sched_skipC' (a' := ?_) rfl (by kernel_rfl) ?_ rfl ?_ ?_
                rotate_left 1
                · exact ⟨rb0, rb1, rb2, rb3, rb4, rb5, rb6⟩
                · (try simp only [Act.put, List.setIfInBounds_toArray, List.set_cons_zero, List.set_cons_succ])
                  try rfl
                refine sched_take' (v := ?_) (a' := ?_) rfl (by kernel_rfl) ?_ rfl ?_ ?_
                rotate_left 2
                · intro w hSw
                  (try dsimp only at hSw)
                  go_simp
                  try with_reducible rfl
                · (try simp only [Act.put, List.setIfInBounds_toArray, List.set_cons_zero, List.set_cons_succ])
                  try rfl
                refine sched_take' (v := ?_) (a' := ?_) rfl (by kernel_rfl) ?_ rfl ?_ ?_
                rotate_left 2
                · intro w hSw
                  (try dsimp only at hSw)
                  go_simp
                  try with_reducible rfl
                · (try simp only [Act.put, List.setIfInBounds_toArray, List.set_cons_zero, List.set_cons_succ])
                  try rfl
                refine sched_take' (v := ?_) (a' := ?_) rfl (by kernel_rfl) ?_ rfl ?_ ?_
                rotate_left 2
                · intro w hSw
                  (try dsimp only at hSw)
                  go_simp
                  try with_reducible rfl
                · (try simp only [Act.put, List.setIfInBounds_toArray, List.set_cons_zero, List.set_cons_succ])
                  try rfl
                refine sched_take' (v := ?_) (a' := ?_) rfl (by kernel_rfl) ?_ rfl ?_ ?_
                rotate_left 2
                · intro w hSw
                  (try dsimp only at hSw)
                  go_simp
                  try with_reducible rfl
                · (try simp only [Act.put, List.setIfInBounds_toArray, List.set_cons_zero, List.set_cons_succ])
                  try rfl
                refine sched_take' (v := .agg #[.int .i64 (a.n : Int), .string (bs a.set), .string (bs a.rel)]) (a' := ?_) rfl (by kernel_rfl) ?_ rfl ?_ ?_
                rotate_left 1
                · intro w hSw
                  (try dsimp only at hSw)
                  go_simp
                  first | done | (obtain ⟨u0, u1, u2, u3, u4, u5, u6⟩ := hSw; simp [*])
                · (try simp only [Act.put, List.setIfInBounds_toArray, List.set_cons_zero, List.set_cons_succ])
                  try rfl
                refine sched_take' (v := ?_) (a' := ?_) rfl (by kernel_rfl) ?_ rfl ?_ ?_
                rotate_left 2
                · intro w hSw
                  (try dsimp only at hSw)
                  go_simp
                  try with_reducible rfl
                · (try simp only [Act.put, List.setIfInBounds_toArray, List.set_cons_zero, List.set_cons_succ])
                  try rfl
                refine sched_take' (v := .string (⟨#[124]⟩ ++ t)) (a' := ?_) rfl (by kernel_rfl) ?_ rfl ?_ ?_
                rotate_left 1
                · intro w hSw
                  (try dsimp only at hSw)
                  go_simp
                  first | done | omega
                · (try simp only [Act.put, List.setIfInBounds_toArray, List.set_cons_zero, List.set_cons_succ])
                  try rfl
                refine sched_take' (v := .string (⟨#[124]⟩ ++ t ++ ⟨#[69, 97, 98]⟩)) (a' := ?_) rfl (by kernel_rfl) ?_ rfl ?_ ?_
                rotate_left 1
                · intro w hSw
                  (try dsimp only at hSw)
                  go_simp
                  first | done | omega
                · (try simp only [Act.put, List.setIfInBounds_toArray, List.set_cons_zero, List.set_cons_succ])
                  try rfl
                refine sched_take' (v := ?_) (a' := ?_) rfl (by kernel_rfl) ?_ rfl ?_ ?_
                rotate_left 2
                · intro w hSw
                  (try dsimp only at hSw)
                  go_simp
                  try with_reducible rfl
                · (try simp only [Act.put, List.setIfInBounds_toArray, List.set_cons_zero, List.set_cons_succ])
                  try rfl
                refine sched_take' (v := ?_) (a' := ?_) rfl (by kernel_rfl) ?_ rfl ?_ ?_
                rotate_left 2
                · intro w hSw
                  (try dsimp only at hSw)
                  go_simp
                  try with_reducible rfl
                · (try simp only [Act.put, List.setIfInBounds_toArray, List.set_cons_zero, List.set_cons_succ])
                  try rfl
                refine sched_call rfl (by kernel_rfl) (fun K1 hK1 => ?_)
                go_simp
                refine (KK3.out _ L11.out).mono ?_
                rintro e w12 ⟨rfl, hz⟩
                have B12 := Lib.hid (B11.out.trans (hz.mono B11.out.size))
                have X12 := Lib.hid (X11.out.call hz)
                have L12 := Lib.hid (L11.out.call hz)
                clear hz
                obtain ⟨rc0, rc1, rc2⟩ := box_load X12.out
                obtain ⟨rc3, rc4, rc5, rc6⟩ := four_cells L12.out
                go_wp2_with fail
                refine hK1.out _ _ ?_ (sched_lay (a' := ?_) ?_ ?_)
                · exact ⟨rc0, rc1, rc2, rc3, rc4, rc5, rc6⟩
                rotate_left 1
                · (try simp only [Act.put, List.getElem_toArray, List.getElem_cons_succ, List.getElem_cons_zero, List.setIfInBounds_toArray, List.set_cons_zero, List.set_cons_succ])
                  try rfl
                clear hK1 K1
                as_aux_lemma =>
                  refine sched_take' (v := ?_) (a' := ?_) rfl (by kernel_rfl) ?_ rfl ?_ ?_
                  rotate_left 2
                  · intro w hSw
                    (try dsimp only at hSw)
                    go_simp
                    try with_reducible rfl
                  · (try simp only [Act.put, List.setIfInBounds_toArray, List.set_cons_zero, List.set_cons_succ])
                    try rfl
                  refine sched_take' (v := .agg #[.int .i64 (a.n : Int), .string (bs a.set), .string (bs a.rel)]) (a' := ?_) rfl (by kernel_rfl) ?_ rfl ?_ ?_
                  rotate_left 1
                  · intro w hSw
                    (try dsimp only at hSw)
                    go_simp
                    first | done | (obtain ⟨u0, u1, u2, u3, u4, u5, u6⟩ := hSw; simp [*])
                  · (try simp only [Act.put, List.setIfInBounds_toArray, List.set_cons_zero, List.set_cons_succ])
                    try rfl
                  refine sched_take' (v := ?_) (a' := ?_) rfl (by kernel_rfl) ?_ rfl ?_ ?_
                  rotate_left 2
                  · intro w hSw
                    (try dsimp only at hSw)
                    go_simp
                    try with_reducible rfl
                  · (try simp only [Act.put, List.setIfInBounds_toArray, List.set_cons_zero, List.set_cons_succ])
                    try rfl
                  refine sched_take' (v := ?_) (a' := ?_) rfl (by kernel_rfl) ?_ rfl ?_ ?_
                  rotate_left 2
                  · intro w hSw
                    (try dsimp only at hSw)
                    go_simp
                    try with_reducible rfl
                  · (try simp only [Act.put, List.setIfInBounds_toArray, List.set_cons_zero, List.set_cons_succ])
                    try rfl
                  refine sched_take' (v := .int .i64 (n0 : Nat)) (a' := ?_) rfl (by kernel_rfl) ?_ rfl ?_ ?_
                  rotate_left 1
                  · intro w hSw
                    (try dsimp only at hSw)
                    go_simp
                    first | done | (obtain ⟨u0, u1, u2, u3, u4, u5, u6⟩ := hSw; simp [*])
                  · (try simp only [Act.put, List.setIfInBounds_toArray, List.set_cons_zero, List.set_cons_succ])
                    try rfl
                  refine sched_take' (v := ?_) (a' := ?_) rfl (by kernel_rfl) ?_ rfl ?_ ?_
                  rotate_left 2
                  · intro w hSw
                    (try dsimp only at hSw)
                    go_simp
                    try with_reducible rfl
                  · (try simp only [Act.put, List.setIfInBounds_toArray, List.set_cons_zero, List.set_cons_succ])
                    try rfl
                  refine sched_take' (v := ?_) (a' := ?_) rfl (by kernel_rfl) ?_ rfl ?_ ?_
                  rotate_left 2
                  · intro w hSw
                    (try dsimp only at hSw)
                    go_simp
                    try with_reducible rfl
                  · (try simp only [Act.put, List.setIfInBounds_toArray, List.set_cons_zero, List.set_cons_succ])
                    try rfl
                  refine sched_take' (v := .int .i64 (n1 : Nat)) (a' := ?_) rfl (by kernel_rfl) ?_ rfl ?_ ?_
                  rotate_left 1
                  · intro w hSw
                    (try dsimp only at hSw)
                    go_simp
                    first | done | (obtain ⟨u0, u1, u2, u3, u4, u5, u6⟩ := hSw; simp [*])
                  · (try simp only [Act.put, List.setIfInBounds_toArray, List.set_cons_zero, List.set_cons_succ])
                    try rfl
                  refine sched_call rfl (by kernel_rfl) (fun K1 hK1 => ?_)
                  go_simp
                  refine (KR.out _).mono ?_
                  rintro e w13 ⟨rfl, hz⟩
                  have B13 := Lib.hid (B12.out.trans (hz.mono B12.out.size))
                  have X13 := Lib.hid (X12.out.call hz)
                  have L13 := Lib.hid (L12.out.call hz)
                  clear hz
                  obtain ⟨rd0, rd1, rd2⟩ := box_load X13.out
                  obtain ⟨rd3, rd4, rd5, rd6⟩ := four_cells L13.out
                  go_wp2_with fail
                  refine hK1.out _ _ ?_ (sched_lay (a' := ?_) ?_ ?_)
                  · exact ⟨rd0, rd1, rd2, rd3, rd4, rd5, rd6⟩
                  rotate_left 1
                  · (try simp only [Act.put, List.getElem_toArray, List.getElem_cons_succ, List.getElem_cons_zero, List.setIfInBounds_toArray, List.set_cons_zero, List.set_cons_succ])
                    try rfl
                  clear hK1 K1
                  as_aux_lemma =>
                    refine sched_take' (v := ?_) (a' := ?_) rfl (by kernel_rfl) ?_ rfl ?_ ?_
                    rotate_left 2
                    · intro w hSw
                      (try dsimp only at hSw)
                      go_simp
                      try with_reducible rfl
                    · (try simp only [Act.put, List.setIfInBounds_toArray, List.set_cons_zero, List.set_cons_succ])
                      try rfl
                    refine sched_take' (v := ?_) (a' := ?_) rfl (by kernel_rfl) ?_ rfl ?_ ?_
                    rotate_left 2
                    · intro w hSw
                      (try dsimp only at hSw)
                      go_simp
                      try with_reducible rfl
                    · (try simp only [Act.put, List.setIfInBounds_toArray, List.set_cons_zero, List.set_cons_succ])
                      try rfl
                    refine sched_take' (v := ?_) (a' := ?_) rfl (by kernel_rfl) ?_ rfl ?_ ?_
                    rotate_left 2
                    · intro w hSw
                      (try dsimp only at hSw)
                      go_simp
                      try with_reducible rfl
                    · (try simp only [Act.put, List.setIfInBounds_toArray, List.set_cons_zero, List.set_cons_succ])
                      try rfl
                    refine sched_take' (v := ?_) (a' := ?_) rfl (by kernel_rfl) ?_ rfl ?_ ?_
                    rotate_left 2
                    · intro w hSw
                      (try dsimp only at hSw)
                      go_simp
                      try with_reducible rfl
                    · (try simp only [Act.put, List.setIfInBounds_toArray, List.set_cons_zero, List.set_cons_succ])
                      try rfl
                    refine sched_take' (v := .agg #[.int .i64 (a.n : Int), .string (bs a.set), .string (bs a.rel)]) (a' := ?_) rfl (by kernel_rfl) ?_ rfl ?_ ?_
                    rotate_left 1
                    · intro w hSw
                      (try dsimp only at hSw)
                      go_simp
                      first | done | (obtain ⟨u0, u1, u2, u3, u4, u5, u6⟩ := hSw; simp [*])
                    · (try simp only [Act.put, List.setIfInBounds_toArray, List.set_cons_zero, List.set_cons_succ])
                      try rfl
                    refine sched_take' (v := ?_) (a' := ?_) rfl (by kernel_rfl) ?_ rfl ?_ ?_
                    rotate_left 2
                    · intro w hSw
                      (try dsimp only at hSw)
                      go_simp
                      try with_reducible rfl
                    · (try simp only [Act.put, List.setIfInBounds_toArray, List.set_cons_zero, List.set_cons_succ])
                      try rfl
                    refine sched_take' (v := .string (⟨#[65, 98]⟩ ++ t)) (a' := ?_) rfl (by kernel_rfl) ?_ rfl ?_ ?_
                    rotate_left 1
                    · intro w hSw
                      (try dsimp only at hSw)
                      go_simp
                      first | done | omega
                    · (try simp only [Act.put, List.setIfInBounds_toArray, List.set_cons_zero, List.set_cons_succ])
                      try rfl
                    refine sched_take' (v := ?_) (a' := ?_) rfl (by kernel_rfl) ?_ rfl ?_ ?_
                    rotate_left 2
                    · intro w hSw
                      (try dsimp only at hSw)
                      go_simp
                      try with_reducible rfl
                    · (try simp only [Act.put, List.setIfInBounds_toArray, List.set_cons_zero, List.set_cons_succ])
                      try rfl
                    refine sched_take' (v := ?_) (a' := ?_) rfl (by kernel_rfl) ?_ rfl ?_ ?_
                    rotate_left 2
                    · intro w hSw
                      (try dsimp only at hSw)
                      go_simp
                      try with_reducible rfl
                    · (try simp only [Act.put, List.setIfInBounds_toArray, List.set_cons_zero, List.set_cons_succ])
                      try rfl
                    refine sched_take' (v := ?_) (a' := ?_) rfl (by kernel_rfl) ?_ rfl ?_ ?_
                    rotate_left 2
                    · intro w hSw
                      (try dsimp only at hSw)
                      go_simp
                      try with_reducible rfl
                    · (try simp only [Act.put, List.setIfInBounds_toArray, List.set_cons_zero, List.set_cons_succ])
                      try rfl
                    refine sched_take' (v := .int .i64 (a.n : Int)) (a' := ?_) rfl (by kernel_rfl) ?_ rfl ?_ ?_
                    rotate_left 1
                    · intro w hSw
                      (try dsimp only at hSw)
                      go_simp
                      first | done | (obtain ⟨u0, u1, u2, u3, u4, u5, u6⟩ := hSw; simp [*])
                    · (try simp only [Act.put, List.setIfInBounds_toArray, List.set_cons_zero, List.set_cons_succ])
                      try rfl
                    refine sched_take' (v := ?_) (a' := ?_) rfl (by kernel_rfl) ?_ rfl ?_ ?_
                    rotate_left 2
                    · intro w hSw
                      (try dsimp only at hSw)
                      go_simp
                      try with_reducible rfl
                    · (try simp only [Act.put, List.setIfInBounds_toArray, List.set_cons_zero, List.set_cons_succ])
                      try rfl
                    refine sched_call rfl (by kernel_rfl) (fun K1 hK1 => ?_)
                    go_simp
                    refine (KK4.out _ L13.out).mono ?_
                    rintro e w14 ⟨rfl, hz⟩
                    have B14 := Lib.hid (B13.out.trans (hz.mono B13.out.size))
                    have X14 := Lib.hid (X13.out.call hz)
                    have L14 := Lib.hid (L13.out.call hz)
                    clear hz
                    obtain ⟨rf0, rf1, rf2⟩ := box_load X14.out
                    obtain ⟨rf3, rf4, rf5, rf6⟩ := four_cells L14.out
                    go_wp2_with fail
                    refine hK1.out _ _ ?_ (sched_lay (a' := ?_) ?_ ?_)
                    · exact ⟨rf0, rf1, rf2, rf3, rf4, rf5, rf6⟩
                    rotate_left 1
                    · (try simp only [Act.put, List.getElem_toArray, List.getElem_cons_succ, List.getElem_cons_zero, List.setIfInBounds_toArray, List.set_cons_zero, List.set_cons_succ])
                      try rfl
                    clear hK1 K1
                    as_aux_lemma =>
                      refine sched_take' (v := ?_) (a' := ?_) rfl (by kernel_rfl) ?_ rfl ?_ ?_
                      rotate_left 2
                      · intro w hSw
                        (try dsimp only at hSw)
                        go_simp
                        try with_reducible rfl
                      · (try simp only [Act.put, List.setIfInBounds_toArray, List.set_cons_zero, List.set_cons_succ])
                        try rfl
                      refine sched_take' (v := ?_) (a' := ?_) rfl (by kernel_rfl) ?_ rfl ?_ ?_
                      rotate_left 2
                      · intro w hSw
                        (try dsimp only at hSw)
                        go_simp
                        try with_reducible rfl
                      · (try simp only [Act.put, List.setIfInBounds_toArray, List.set_cons_zero, List.set_cons_succ])
                        try rfl
                      refine sched_take' (v := ?_) (a' := ?_) rfl (by kernel_rfl) ?_ rfl ?_ ?_
                      rotate_left 2
                      · intro w hSw
                        (try dsimp only at hSw)
                        go_simp
                        try with_reducible rfl
                      · (try simp only [Act.put, List.setIfInBounds_toArray, List.set_cons_zero, List.set_cons_succ])
                        try rfl
                      refine sched_take' (v := .agg #[.int .i64 (a.n : Int), .string (bs a.set), .string (bs a.rel)]) (a' := ?_) rfl (by kernel_rfl) ?_ rfl ?_ ?_
                      rotate_left 1
                      · intro w hSw
                        (try dsimp only at hSw)
                        go_simp
                        first | done | (obtain ⟨u0, u1, u2, u3, u4, u5, u6⟩ := hSw; simp [*])
                      · (try simp only [Act.put, List.setIfInBounds_toArray, List.set_cons_zero, List.set_cons_succ])
                        try rfl
                      refine sched_take' (v := ?_) (a' := ?_) rfl (by kernel_rfl) ?_ rfl ?_ ?_
                      rotate_left 2
                      · intro w hSw
                        (try dsimp only at hSw)
                        go_simp
                        try with_reducible rfl
                      · (try simp only [Act.put, List.setIfInBounds_toArray, List.set_cons_zero, List.set_cons_succ])
                        try rfl
                      refine sched_take' (v := .string (⟨#[83, 98]⟩ ++ t)) (a' := ?_) rfl (by kernel_rfl) ?_ rfl ?_ ?_
                      rotate_left 1
                      · intro w hSw
                        (try dsimp only at hSw)
                        go_simp
                        first | done | omega
                      · (try simp only [Act.put, List.setIfInBounds_toArray, List.set_cons_zero, List.set_cons_succ])
                        try rfl
                      refine sched_take' (v := ?_) (a' := ?_) rfl (by kernel_rfl) ?_ rfl ?_ ?_
                      rotate_left 2
                      · intro w hSw
                        (try dsimp only at hSw)
                        go_simp
                        try with_reducible rfl
                      · (try simp only [Act.put, List.setIfInBounds_toArray, List.set_cons_zero, List.set_cons_succ])
                        try rfl
                      refine sched_take' (v := ?_) (a' := ?_) rfl (by kernel_rfl) ?_ rfl ?_ ?_
                      rotate_left 2
                      · intro w hSw
                        (try dsimp only at hSw)
                        go_simp
                        try with_reducible rfl
                      · (try simp only [Act.put, List.setIfInBounds_toArray, List.set_cons_zero, List.set_cons_succ])
                        try rfl
                      refine sched_take' (v := ?_) (a' := ?_) rfl (by kernel_rfl) ?_ rfl ?_ ?_
                      rotate_left 2
                      · intro w hSw
                        (try dsimp only at hSw)
                        go_simp
                        try with_reducible rfl
                      · (try simp only [Act.put, List.setIfInBounds_toArray, List.set_cons_zero, List.set_cons_succ])
                        try rfl
                      refine sched_call rfl (by kernel_rfl) (fun K1 hK1 => ?_)
                      go_simp
                      refine (KK5.out _ L14.out).mono ?_
                      rintro e w15 ⟨rfl, hz⟩
                      have B15 := Lib.hid (B14.out.trans (hz.mono B14.out.size))
                      have X15 := Lib.hid (X14.out.call hz)
                      have L15 := Lib.hid (L14.out.call hz)
                      clear hz
                      obtain ⟨rg0, rg1, rg2⟩ := box_load X15.out
                      obtain ⟨rg3, rg4, rg5, rg6⟩ := four_cells L15.out
                      go_wp2_with fail
                      refine hK1.out _ _ ?_ (sched_lay (a' := ?_) ?_ ?_)
                      · exact ⟨rg0, rg1, rg2, rg3, rg4, rg5, rg6⟩
                      rotate_left 1
                      · (try simp only [Act.put, List.getElem_toArray, List.getElem_cons_succ, List.getElem_cons_zero, List.setIfInBounds_toArray, List.set_cons_zero, List.set_cons_succ])
                        try rfl
                      clear hK1 K1
                      as_aux_lemma =>
                        refine sched_take' (v := ?_) (a' := ?_) rfl (by kernel_rfl) ?_ rfl ?_ ?_
                        rotate_left 2
                        · intro w hSw
                          (try dsimp only at hSw)
                          go_simp
                          try with_reducible rfl
                        · (try simp only [Act.put, List.setIfInBounds_toArray, List.set_cons_zero, List.set_cons_succ])
                          try rfl
                        refine sched_take' (v := ?_) (a' := ?_) rfl (by kernel_rfl) ?_ rfl ?_ ?_
                        rotate_left 2
                        · intro w hSw
                          (try dsimp only at hSw)
                          go_simp
                          try with_reducible rfl
                        · (try simp only [Act.put, List.setIfInBounds_toArray, List.set_cons_zero, List.set_cons_succ])
                          try rfl
                        refine sched_take' (v := ?_) (a' := ?_) rfl (by kernel_rfl) ?_ rfl ?_ ?_
                        rotate_left 2
                        · intro w hSw
                          (try dsimp only at hSw)
                          go_simp
                          try with_reducible rfl
                        · (try simp only [Act.put, List.setIfInBounds_toArray, List.set_cons_zero, List.set_cons_succ])
                          try rfl
                        refine sched_take' (v := .agg #[.int .i64 (a.n : Int), .string (bs a.set), .string (bs a.rel)]) (a' := ?_) rfl (by kernel_rfl) ?_ rfl ?_ ?_
                        rotate_left 1
                        · intro w hSw
                          (try dsimp only at hSw)
                          go_simp
                          first | done | (obtain ⟨u0, u1, u2, u3, u4, u5, u6⟩ := hSw; simp [*])
                        · (try simp only [Act.put, List.setIfInBounds_toArray, List.set_cons_zero, List.set_cons_succ])
                          try rfl
                        refine sched_take' (v := ?_) (a' := ?_) rfl (by kernel_rfl) ?_ rfl ?_ ?_
                        rotate_left 2
                        · intro w hSw
                          (try dsimp only at hSw)
                          go_simp
                          try with_reducible rfl
                        · (try simp only [Act.put, List.setIfInBounds_toArray, List.set_cons_zero, List.set_cons_succ])
                          try rfl
                        refine sched_take' (v := .string (⟨#[50, 98]⟩ ++ t)) (a' := ?_) rfl (by kernel_rfl) ?_ rfl ?_ ?_
                        rotate_left 1
                        · intro w hSw
                          (try dsimp only at hSw)
                          go_simp
                          first | done | omega
                        · (try simp only [Act.put, List.setIfInBounds_toArray, List.set_cons_zero, List.set_cons_succ])
                          try rfl
                        refine sched_take' (v := ?_) (a' := ?_) rfl (by kernel_rfl) ?_ rfl ?_ ?_
                        rotate_left 2
                        · intro w hSw
                          (try dsimp only at hSw)
                          go_simp
                          try with_reducible rfl
                        · (try simp only [Act.put, List.setIfInBounds_toArray, List.set_cons_zero, List.set_cons_succ])
                          try rfl
                        refine sched_take' (v := ?_) (a' := ?_) rfl (by kernel_rfl) ?_ rfl ?_ ?_
                        rotate_left 2
                        · intro w hSw
                          (try dsimp only at hSw)
                          go_simp
                          try with_reducible rfl
                        · (try simp only [Act.put, List.setIfInBounds_toArray, List.set_cons_zero, List.set_cons_succ])
                          try rfl
                        refine sched_take' (v := ?_) (a' := ?_) rfl (by kernel_rfl) ?_ rfl ?_ ?_
                        rotate_left 2
                        · intro w hSw
                          (try dsimp only at hSw)
                          go_simp
                          try with_reducible rfl
                        · (try simp only [Act.put, List.setIfInBounds_toArray, List.set_cons_zero, List.set_cons_succ])
                          try rfl
                        refine sched_call rfl (by kernel_rfl) (fun K1 hK1 => ?_)
                        go_simp
                        refine (KK6.out _ L15.out).mono ?_
                        rintro e w16 ⟨rfl, hz⟩
                        have B16 := Lib.hid (B15.out.trans (hz.mono B15.out.size))
                        have X16 := Lib.hid (X15.out.call hz)
                        have L16 := Lib.hid (L15.out.call hz)
                        clear hz
                        obtain ⟨rh0, rh1, rh2⟩ := box_load X16.out
                        obtain ⟨rh3, rh4, rh5, rh6⟩ := four_cells L16.out
                        go_wp2_with fail
                        refine hK1.out _ _ ?_ (sched_lay (a' := ?_) ?_ ?_)
                        · exact ⟨rh0, rh1, rh2, rh3, rh4, rh5, rh6⟩
                        rotate_left 1
                        · (try simp only [Act.put, List.getElem_toArray, List.getElem_cons_succ, List.getElem_cons_zero, List.setIfInBounds_toArray, List.set_cons_zero, List.set_cons_succ])
                          try rfl
                        clear hK1 K1
                        as_aux_lemma =>
                          refine sched_take' (v := ?_) (a' := ?_) rfl (by kernel_rfl) ?_ rfl ?_ ?_
                          rotate_left 2
                          · intro w hSw
                            (try dsimp only at hSw)
                            go_simp
                            try with_reducible rfl
                          · (try simp only [Act.put, List.setIfInBounds_toArray, List.set_cons_zero, List.set_cons_succ])
                            try rfl
                          refine sched_take' (v := ?_) (a' := ?_) rfl (by kernel_rfl) ?_ rfl ?_ ?_
                          rotate_left 2
                          · intro w hSw
                            (try dsimp only at hSw)
                            go_simp
                            try with_reducible rfl
                          · (try simp only [Act.put, List.setIfInBounds_toArray, List.set_cons_zero, List.set_cons_succ])
                            try rfl
                          refine sched_take' (v := ?_) (a' := ?_) rfl (by kernel_rfl) ?_ rfl ?_ ?_
                          rotate_left 2
                          · intro w hSw
                            (try dsimp only at hSw)
                            go_simp
                            try with_reducible rfl
                          · (try simp only [Act.put, List.setIfInBounds_toArray, List.set_cons_zero, List.set_cons_succ])
                            try rfl
                          refine sched_take' (v := .agg #[.int .i64 (a.n : Int), .string (bs a.set), .string (bs a.rel)]) (a' := ?_) rfl (by kernel_rfl) ?_ rfl ?_ ?_
                          rotate_left 1
                          · intro w hSw
                            (try dsimp only at hSw)
                            go_simp
                            first | done | (obtain ⟨u0, u1, u2, u3, u4, u5, u6⟩ := hSw; simp [*])
                          · (try simp only [Act.put, List.setIfInBounds_toArray, List.set_cons_zero, List.set_cons_succ])
                            try rfl
                          refine sched_take' (v := ?_) (a' := ?_) rfl (by kernel_rfl) ?_ rfl ?_ ?_
                          rotate_left 2
                          · intro w hSw
                            (try dsimp only at hSw)
                            go_simp
                            try with_reducible rfl
                          · (try simp only [Act.put, List.setIfInBounds_toArray, List.set_cons_zero, List.set_cons_succ])
                            try rfl
                          refine sched_take' (v := .string (⟨#[51, 98]⟩ ++ t)) (a' := ?_) rfl (by kernel_rfl) ?_ rfl ?_ ?_
                          rotate_left 1
                          · intro w hSw
                            (try dsimp only at hSw)
                            go_simp
                            first | done | omega
                          · (try simp only [Act.put, List.setIfInBounds_toArray, List.set_cons_zero, List.set_cons_succ])
                            try rfl
                          refine sched_take' (v := ?_) (a' := ?_) rfl (by kernel_rfl) ?_ rfl ?_ ?_
                          rotate_left 2
                          · intro w hSw
                            (try dsimp only at hSw)
                            go_simp
                            try with_reducible rfl
                          · (try simp only [Act.put, List.setIfInBounds_toArray, List.set_cons_zero, List.set_cons_succ])
                            try rfl
                          refine sched_take' (v := ?_) (a' := ?_) rfl (by kernel_rfl) ?_ rfl ?_ ?_
                          rotate_left 2
                          · intro w hSw
                            (try dsimp only at hSw)
                            go_simp
                            try with_reducible rfl
                          · (try simp only [Act.put, List.setIfInBounds_toArray, List.set_cons_zero, List.set_cons_succ])
                            try rfl
                          refine sched_take' (v := ?_) (a' := ?_) rfl (by kernel_rfl) ?_ rfl ?_ ?_
                          rotate_left 2
                          · intro w hSw
                            (try dsimp only at hSw)
                            go_simp
                            try with_reducible rfl
                          · (try simp only [Act.put, List.setIfInBounds_toArray, List.set_cons_zero, List.set_cons_succ])
                            try rfl
                          refine sched_call rfl (by kernel_rfl) (fun K1 hK1 => ?_)
                          go_simp
                          refine (KK7.out _ L16.out).mono ?_
                          rintro e w17 ⟨rfl, hz⟩
                          have B17 := Lib.hid (B16.out.trans (hz.mono B16.out.size))
                          have X17 := Lib.hid (X16.out.call hz)
                          have L17 := Lib.hid (L16.out.call hz)
                          clear hz
                          obtain ⟨ri0, ri1, ri2⟩ := box_load X17.out
                          obtain ⟨ri3, ri4, ri5, ri6⟩ := four_cells L17.out
                          go_wp2_with fail
                          refine hK1.out _ _ ?_ (sched_lay (a' := ?_) ?_ ?_)
                          · exact ⟨ri0, ri1, ri2, ri3, ri4, ri5, ri6⟩
                          rotate_left 1
                          · (try simp only [Act.put, List.getElem_toArray, List.getElem_cons_succ, List.getElem_cons_zero, List.setIfInBounds_toArray, List.set_cons_zero, List.set_cons_succ])
                            try rfl
                          clear hK1 K1
                          as_aux_lemma =>
                            refine sched_take' (v := ?_) (a' := ?_) rfl (by kernel_rfl) ?_ rfl ?_ ?_
                            rotate_left 2
                            · intro w hSw
                              (try dsimp only at hSw)
                              go_simp
                              try with_reducible rfl
                            · (try simp only [Act.put, List.setIfInBounds_toArray, List.set_cons_zero, List.set_cons_succ])
                              try rfl
                            refine sched_take' (v := ?_) (a' := ?_) rfl (by kernel_rfl) ?_ rfl ?_ ?_
                            rotate_left 2
                            · intro w hSw
                              (try dsimp only at hSw)
                              go_simp
                              try with_reducible rfl
                            · (try simp only [Act.put, List.setIfInBounds_toArray, List.set_cons_zero, List.set_cons_succ])
                              try rfl
                            refine sched_take' (v := ?_) (a' := ?_) rfl (by kernel_rfl) ?_ rfl ?_ ?_
                            rotate_left 2
                            · intro w hSw
                              (try dsimp only at hSw)
                              go_simp
                              try with_reducible rfl
                            · (try simp only [Act.put, List.setIfInBounds_toArray, List.set_cons_zero, List.set_cons_succ])
                              try rfl
                            refine sched_take' (v := .agg #[.int .i64 (a.n : Int), .string (bs a.set), .string (bs a.rel)]) (a' := ?_) rfl (by kernel_rfl) ?_ rfl ?_ ?_
                            rotate_left 1
                            · intro w hSw
                              (try dsimp only at hSw)
                              go_simp
                              first | done | (obtain ⟨u0, u1, u2, u3, u4, u5, u6⟩ := hSw; simp [*])
                            · (try simp only [Act.put, List.setIfInBounds_toArray, List.set_cons_zero, List.set_cons_succ])
                              try rfl
                            refine sched_take' (v := ?_) (a' := ?_) rfl (by kernel_rfl) ?_ rfl ?_ ?_
                            rotate_left 2
                            · intro w hSw
                              (try dsimp only at hSw)
                              go_simp
                              try with_reducible rfl
                            · (try simp only [Act.put, List.setIfInBounds_toArray, List.set_cons_zero, List.set_cons_succ])
                              try rfl
                            refine sched_take' (v := .string (⟨#[52, 98]⟩ ++ t)) (a' := ?_) rfl (by kernel_rfl) ?_ rfl ?_ ?_
                            rotate_left 1
                            · intro w hSw
                              (try dsimp only at hSw)
                              go_simp
                              first | done | omega
                            · (try simp only [Act.put, List.setIfInBounds_toArray, List.set_cons_zero, List.set_cons_succ])
                              try rfl
                            refine sched_take' (v := ?_) (a' := ?_) rfl (by kernel_rfl) ?_ rfl ?_ ?_
                            rotate_left 2
                            · intro w hSw
                              (try dsimp only at hSw)
                              go_simp
                              try with_reducible rfl
                            · (try simp only [Act.put, List.setIfInBounds_toArray, List.set_cons_zero, List.set_cons_succ])
                              try rfl
                            refine sched_take' (v := ?_) (a' := ?_) rfl (by kernel_rfl) ?_ rfl ?_ ?_
                            rotate_left 2
                            · intro w hSw
                              (try dsimp only at hSw)
                              go_simp
                              try with_reducible rfl
                            · (try simp only [Act.put, List.setIfInBounds_toArray, List.set_cons_zero, List.set_cons_succ])
                              try rfl
                            refine sched_take' (v := ?_) (a' := ?_) rfl (by kernel_rfl) ?_ rfl ?_ ?_
                            rotate_left 2
                            · intro w hSw
                              (try dsimp only at hSw)
                              go_simp
                              try with_reducible rfl
                            · (try simp only [Act.put, List.setIfInBounds_toArray, List.set_cons_zero, List.set_cons_succ])
                              try rfl
                            refine sched_call rfl (by kernel_rfl) (fun K1 hK1 => ?_)
                            go_simp
                            refine (KK8.out _ L17.out).mono ?_
                            rintro e w18 ⟨rfl, hz⟩
                            have B18 := Lib.hid (B17.out.trans (hz.mono B17.out.size))
                            have X18 := Lib.hid (X17.out.call hz)
                            have L18 := Lib.hid (L17.out.call hz)
                            clear hz
                            obtain ⟨rj0, rj1, rj2⟩ := box_load X18.out
                            obtain ⟨rj3, rj4, rj5, rj6⟩ := four_cells L18.out
                            go_wp2_with fail
                            refine hK1.out _ _ ?_ (sched_lay (a' := ?_) ?_ ?_)
                            · exact ⟨rj0, rj1, rj2, rj3, rj4, rj5, rj6⟩
                            rotate_left 1
                            · (try simp only [Act.put, List.getElem_toArray, List.getElem_cons_succ, List.getElem_cons_zero, List.setIfInBounds_toArray, List.set_cons_zero, List.set_cons_succ])
                              try rfl
                            clear hK1 K1
                            as_aux_lemma =>
                              refine sched_take' (v := ?_) (a' := ?_) rfl (by kernel_rfl) ?_ rfl ?_ ?_
                              rotate_left 2
                              · intro w hSw
                                (try dsimp only at hSw)
                                go_simp
                                try with_reducible rfl
                              · (try simp only [Act.put, List.setIfInBounds_toArray, List.set_cons_zero, List.set_cons_succ])
                                try rfl
                              refine sched_take' (v := ?_) (a' := ?_) rfl (by kernel_rfl) ?_ rfl ?_ ?_
                              rotate_left 2
                              · intro w hSw
                                (try dsimp only at hSw)
                                go_simp
                                try with_reducible rfl
                              · (try simp only [Act.put, List.setIfInBounds_toArray, List.set_cons_zero, List.set_cons_succ])
                                try rfl
                              refine sched_take' (v := ?_) (a' := ?_) rfl (by kernel_rfl) ?_ rfl ?_ ?_
                              rotate_left 2
                              · intro w hSw
                                (try dsimp only at hSw)
                                go_simp
                                try with_reducible rfl
                              · (try simp only [Act.put, List.setIfInBounds_toArray, List.set_cons_zero, List.set_cons_succ])
                                try rfl
                              refine sched_done (hQ1.out _ _ ?_)
                              go_wp2_with fail
                              go_ret
                              exact ⟨rfl, B18.out⟩
  | true =>
    as_aux_lemma =>
      rw [hV] at CI CS KK1 KK2 KK3
      simp only [Bool.not_false, Bool.not_true, Bool.false_and, Bool.true_and, Bool.false_or, Bool.true_or] at KK1 KK2 KK3
      obtain ⟨x0, x1, x2⟩ := box_load X1.out
      go_wp2_with fail
      refine (CI.out _ L1.out).mono ?_
      rintro e w2 ⟨rfl, hz⟩
      have B2 := Lib.hid (B1.out.trans (hz.mono B1.out.size))
      have X2 := Lib.hid (X1.out.call hz)
      have L2 := Lib.hid (L1.out.call hz)
      clear hz x0 x1 x2
      obtain ⟨x0, x1, x2⟩ := box_load X2.out
      go_wp2_with fail
      refine (CS.out _ L2.out).mono ?_
      rintro e w3 ⟨rfl, hz⟩
      have B3 := Lib.hid (B2.out.trans (hz.mono B2.out.size))
      have X3 := Lib.hid (X2.out.call hz)
      have L3 := Lib.hid (L2.out.call hz)
      clear hz x0 x1 x2
      go_wp2_with fail
      go_loopg [10, 11] a.n (fun c cn xi wr => ∃ k : Nat, k + c = a.n ∧ xi = .int .i64 (k : Nat) ∧ cn = .int .i64 (CC k : Nat) ∧ Bx wr w1.heap.size 24 #[.int .i64 (a.n : Int), .string (bs a.set), .string (bs a.rel)] ∧ LRow wr (some ⟨gA, 0, none⟩) (natsI [n0, n1, n2, n3]) ∧ Below w.heap.size w wr)
      case atStart => exact ⟨0, by omega, rfl, by rw [HC0.out]; rfl, X3.out, L3.out, B3.out⟩
      case round =>
        clear X1 X2 X3 L1 L2 L3 B1 B2 B3 CI CS
        obtain ⟨k, hk, rfl, rfl, hxs, hll, hbl⟩ := hrel
        have HX := Lib.hid hxs
        have HL := Lib.hid hll
        have HB := Lib.hid hbl
        clear hxs hll hbl
        have hcl := HCl.out k
        have hcs := HCs.out k
        by_cases hlt : k < a.n
        · have cxk := fun A2 W hW => CX.out k hlt A2 W hW
          obtain ⟨Z, hZ⟩ : ∃ Z, Z = CC k := ⟨_, rfl⟩
          rw [← hZ] at hcl hcs ⊢
          have HZ := Lib.hid hZ
          clear hZ
          have hki : (k : Int) < (a.n : Int) := by omega
          cases hq : g.holds a (upd e 1 k) with
          | false =>
            simp only [hq] at cxk hcs
            have CXk := Lib.hid cxk
            have Hcs := Lib.hid hcs
            clear cxk hcs hq
            obtain ⟨x0, x1, x2⟩ := box_load HX.out
            have B5 := Lib.hid HB.out.drew
            have X5 := Lib.hid HX.out.drew
            have L5 := Lib.hid (show LRow wr.drew (some ⟨gA, 0, none⟩) (natsI [n0, n1, n2, n3]) from HL.out)
            have B6 := Lib.hid (B5.out.alloc B5.out.size (.cells #[.int .i64 (n0 : Nat), .int .i64 (k : Nat), .int .i64 (n2 : Nat), .int .i64 (n3 : Nat)] 3))
            have X6 := Lib.hid (X5.out.alloc (.cells #[.int .i64 (n0 : Nat), .int .i64 (k : Nat), .int .i64 (n2 : Nat), .int .i64 (n3 : Nat)] 3))
            have L6 := Lib.hid (L5.out.alloc (.cells #[.int .i64 (n0 : Nat), .int .i64 (k : Nat), .int .i64 (n2 : Nat), .int .i64 (n3 : Nat)] 3))
            have M6 := Lib.hid (LRow_four wr.drew n0 k n2 n3)
            obtain ⟨y0, y1, y2⟩ := box_load X5.out
            obtain ⟨y3, y4, y5, y6⟩ := four_cells L5.out
            obtain ⟨q0, q1, q2⟩ := box_load X6.out
            obtain ⟨q3, q4, q5, q6⟩ := four_cells L6.out
            go_upto_region 12 with (fail)
            refine region_sched [(0, true), (1, true), (2, true), (3, true), (4, true), (5, true), (6, true), (7, true), (8, true), (9, true), (10, true), (11, true), (12, false), (13, false)] (fun w' : World => w'.cell? ⟨w1.heap.size, 0, none⟩ = some (.int .i64 (a.n : Int)) ∧ w'.cell? ⟨w1.heap.size, 1, none⟩ = some (.string (bs a.set)) ∧ w'.cell? ⟨w1.heap.size, 2, none⟩ = some (.string (bs a.rel)) ∧ w'.cell? ⟨gA, 0, none⟩ = some (.int .i64 (n0 : Nat)) ∧ w'.cell? ⟨gA, 1, none⟩ = some (.int .i64 (n1 : Nat)) ∧ w'.cell? ⟨gA, 2, none⟩ = some (.int .i64 (n2 : Nat)) ∧ w'.cell? ⟨gA, 3, none⟩ = some (.int .i64 (n3 : Nat))) (by kernel_rfl) (by kernel_rfl) (by kernel_rfl) (by kernel_rfl) (fun _ _ _ _ h => h) ?_ (fun Q1 hQ1 => ?_)
            · exact ⟨y0, y1, y2, y3, y4, y5, y6⟩
            try simp only [List.append]
            refine sched_take' (v := .agg #[.int .i64 (a.n : Int), .string (bs a.set), .string (bs a.rel)]) (a' := ?_) rfl (by kernel_rfl) ?_ rfl ?_ ?_
            rotate_left 1
            · intro w hSw
              (try dsimp only at hSw)
              go_simp
              first | done | (obtain ⟨u0, u1, u2, u3, u4, u5, u6⟩ := hSw; simp [*])
            · (try simp only [Act.put, List.setIfInBounds_toArray, List.set_cons_zero, List.set_cons_succ])
              try rfl
            refine sched_take' (v := ?_) (a' := ?_) rfl (by kernel_rfl) ?_ rfl ?_ ?_
            rotate_left 2
            · intro w hSw
              (try dsimp only at hSw)
              go_simp
              try with_reducible rfl
            · (try simp only [Act.put, List.setIfInBounds_toArray, List.set_cons_zero, List.set_cons_succ])
              try rfl
            refine sched_take' (v := ?_) (a' := ?_) rfl (by kernel_rfl) ?_ rfl ?_ ?_
            rotate_left 2
            · intro w hSw
              (try dsimp only at hSw)
              go_simp
              try with_reducible rfl
            · (try simp only [Act.put, List.setIfInBounds_toArray, List.set_cons_zero, List.set_cons_succ])
              try rfl
            refine sched_take' (v := ?_) (a' := ?_) rfl (by kernel_rfl) ?_ rfl ?_ ?_
            rotate_left 2
            · intro w hSw
              (try dsimp only at hSw)
              go_simp
              try with_reducible rfl
            · (try simp only [Act.put, List.setIfInBounds_toArray, List.set_cons_zero, List.set_cons_succ])
              try rfl
            refine sched_take' (v := .int .i64 (n0 : Nat)) (a' := ?_) rfl (by kernel_rfl) ?_ rfl ?_ ?_
            rotate_left 1
            · intro w hSw
              (try dsimp only at hSw)
              go_simp
              first | done | (obtain ⟨u0, u1, u2, u3, u4, u5, u6⟩ := hSw; simp [*])
            · (try simp only [Act.put, List.setIfInBounds_toArray, List.set_cons_zero, List.set_cons_succ])
              try rfl
            refine sched_take' (v := ?_) (a' := ?_) rfl (by kernel_rfl) ?_ rfl ?_ ?_
            rotate_left 2
            · intro w hSw
              (try dsimp only at hSw)
              go_simp
              try with_reducible rfl
            · (try simp only [Act.put, List.setIfInBounds_toArray, List.set_cons_zero, List.set_cons_succ])
              try rfl
            refine sched_take' (v := ?_) (a' := ?_) rfl (by kernel_rfl) ?_ rfl ?_ ?_
            rotate_left 2
            · intro w hSw
              (try dsimp only at hSw)
              go_simp
              try with_reducible rfl
            · (try simp only [Act.put, List.setIfInBounds_toArray, List.set_cons_zero, List.set_cons_succ])
              try rfl
            refine sched_take' (v := ?_) (a' := ?_) rfl (by kernel_rfl) ?_ rfl ?_ ?_
            rotate_left 2
            · intro w hSw
              (try dsimp only at hSw)
              go_simp
              try with_reducible rfl
            · (try simp only [Act.put, List.setIfInBounds_toArray, List.set_cons_zero, List.set_cons_succ])
              try rfl
            refine sched_take' (v := .int .i64 (n2 : Nat)) (a' := ?_) rfl (by kernel_rfl) ?_ rfl ?_ ?_
            rotate_left 1
            · intro w hSw
              (try dsimp only at hSw)
              go_simp
              first | done | (obtain ⟨u0, u1, u2, u3, u4, u5, u6⟩ := hSw; simp [*])
            · (try simp only [Act.put, List.setIfInBounds_toArray, List.set_cons_zero, List.set_cons_succ])
              try rfl
            refine sched_take' (v := ?_) (a' := ?_) rfl (by kernel_rfl) ?_ rfl ?_ ?_
            rotate_left 2
            · intro w hSw
              (try dsimp only at hSw)
              go_simp
              try with_reducible rfl
            · (try simp only [Act.put, List.setIfInBounds_toArray, List.set_cons_zero, List.set_cons_succ])
              try rfl
            refine sched_take' (v := ?_) (a' := ?_) rfl (by kernel_rfl) ?_ rfl ?_ ?_
            rotate_left 2
            · intro w hSw
              (try dsimp only at hSw)
              go_simp
              try with_reducible rfl
            · (try simp only [Act.put, List.setIfInBounds_toArray, List.set_cons_zero, List.set_cons_succ])
              try rfl
            refine sched_take' (v := .int .i64 (n3 : Nat)) (a' := ?_) rfl (by kernel_rfl) ?_ rfl ?_ ?_
            rotate_left 1
            · intro w hSw
              (try dsimp only at hSw)
              go_simp
              first | done | (obtain ⟨u0, u1, u2, u3, u4, u5, u6⟩ := hSw; simp [*])
            · (try simp only [Act.put, List.setIfInBounds_toArray, List.set_cons_zero, List.set_cons_succ])
              try rfl
            refine sched_call rfl (by kernel_rfl) (fun K1 hK1 => ?_)
            go_simp
            refine hK1.out _ _ ?_ (sched_lay (a' := ?_) ?_ ?_)
            · exact ⟨q0, q1, q2, q3, q4, q5, q6⟩
            rotate_left 1
            · (try simp only [Act.put, List.getElem_toArray, List.getElem_cons_succ, List.getElem_cons_zero, List.setIfInBounds_toArray, List.set_cons_zero, List.set_cons_succ])
              try rfl
            clear hK1 K1
            refine sched_call rfl (by kernel_rfl) (fun K1 hK1 => ?_)
            go_simp
            refine (CXk.out _ _ M6.out).mono ?_
            rintro e w7 ⟨rfl, hz⟩
            have B7 := Lib.hid (B6.out.trans (hz.mono B6.out.size))
            have X7 := Lib.hid (X6.out.call hz)
            have L7 := Lib.hid (L6.out.call hz)
            clear hz
            obtain ⟨z0, z1, z2⟩ := box_load X7.out
            obtain ⟨z3, z4, z5, z6⟩ := four_cells L7.out
            go_wp2_with fail
            refine hK1.out _ _ ?_ (sched_lay (a' := ?_) ?_ ?_)
            · exact ⟨z0, z1, z2, z3, z4, z5, z6⟩
            rotate_left 1
            · (try simp only [Act.put, List.getElem_toArray, List.getElem_cons_succ, List.getElem_cons_zero, List.setIfInBounds_toArray, List.set_cons_zero, List.set_cons_succ])
              try rfl
            clear hK1 K1
            refine sched_done (hQ1.out _ _ ?_)
            go_wp2_with fail
            go_roundg (a.n - k - 1)
            case rel => exact ⟨k + 1, by omega, by go_num, by rw [Hcs.out]; rfl, X7.out, L7.out, B7.out⟩
            case measure => omega
          | true =>
            simp only [hq] at cxk hcs
            have CXk := Lib.hid cxk
            have Hcs := Lib.hid hcs
            clear cxk hcs hq
            obtain ⟨x0, x1, x2⟩ := box_load HX.out
            have B5 := Lib.hid HB.out.drew
            have X5 := Lib.hid HX.out.drew
            have L5 := Lib.hid (show LRow wr.drew (some ⟨gA, 0, none⟩) (natsI [n0, n1, n2, n3]) from HL.out)
            have B6 := Lib.hid (B5.out.alloc B5.out.size (.cells #[.int .i64 (n0 : Nat), .int .i64 (k : Nat), .int .i64 (n2 : Nat), .int .i64 (n3 : Nat)] 3))
            have X6 := Lib.hid (X5.out.alloc (.cells #[.int .i64 (n0 : Nat), .int .i64 (k : Nat), .int .i64 (n2 : Nat), .int .i64 (n3 : Nat)] 3))
            have L6 := Lib.hid (L5.out.alloc (.cells #[.int .i64 (n0 : Nat), .int .i64 (k : Nat), .int .i64 (n2 : Nat), .int .i64 (n3 : Nat)] 3))
            have M6 := Lib.hid (LRow_four wr.drew n0 k n2 n3)
            obtain ⟨y0, y1, y2⟩ := box_load X5.out
            obtain ⟨y3, y4, y5, y6⟩ := four_cells L5.out
            obtain ⟨q0, q1, q2⟩ := box_load X6.out
            obtain ⟨q3, q4, q5, q6⟩ := four_cells L6.out
            go_upto_region 12 with (fail)
            refine region_sched [(0, true), (1, true), (2, true), (3, true), (4, true), (5, true), (6, true), (7, true), (8, true), (9, true), (10, true), (11, true), (12, false), (13, false)] (fun w' : World => w'.cell? ⟨w1.heap.size, 0, none⟩ = some (.int .i64 (a.n : Int)) ∧ w'.cell? ⟨w1.heap.size, 1, none⟩ = some (.string (bs a.set)) ∧ w'.cell? ⟨w1.heap.size, 2, none⟩ = some (.string (bs a.rel)) ∧ w'.cell? ⟨gA, 0, none⟩ = some (.int .i64 (n0 : Nat)) ∧ w'.cell? ⟨gA, 1, none⟩ = some (.int .i64 (n1 : Nat)) ∧ w'.cell? ⟨gA, 2, none⟩ = some (.int .i64 (n2 : Nat)) ∧ w'.cell? ⟨gA, 3, none⟩ = some (.int .i64 (n3 : Nat))) (by kernel_rfl) (by kernel_rfl) (by kernel_rfl) (by kernel_rfl) (fun _ _ _ _ h => h) ?_ (fun Q1 hQ1 => ?_)
            · exact ⟨y0, y1, y2, y3, y4, y5, y6⟩
            try simp only [List.append]
            refine sched_take' (v := .agg #[.int .i64 (a.n : Int), .string (bs a.set), .string (bs a.rel)]) (a' := ?_) rfl (by kernel_rfl) ?_ rfl ?_ ?_
            rotate_left 1
            · intro w hSw
              (try dsimp only at hSw)
              go_simp
              first | done | (obtain ⟨u0, u1, u2, u3, u4, u5, u6⟩ := hSw; simp [*])
            · (try simp only [Act.put, List.setIfInBounds_toArray, List.set_cons_zero, List.set_cons_succ])
              try rfl
            refine sched_take' (v := ?_) (a' := ?_) rfl (by kernel_rfl) ?_ rfl ?_ ?_
            rotate_left 2
            · intro w hSw
              (try dsimp only at hSw)
              go_simp
              try with_reducible rfl
            · (try simp only [Act.put, List.setIfInBounds_toArray, List.set_cons_zero, List.set_cons_succ])
              try rfl
            refine sched_take' (v := ?_) (a' := ?_) rfl (by kernel_rfl) ?_ rfl ?_ ?_
            rotate_left 2
            · intro w hSw
              (try dsimp only at hSw)
              go_simp
              try with_reducible rfl
            · (try simp only [Act.put, List.setIfInBounds_toArray, List.set_cons_zero, List.set_cons_succ])
              try rfl
            refine sched_take' (v := ?_) (a' := ?_) rfl (by kernel_rfl) ?_ rfl ?_ ?_
            rotate_left 2
            · intro w hSw
              (try dsimp only at hSw)
              go_simp
              try with_reducible rfl
            · (try simp only [Act.put, List.setIfInBounds_toArray, List.set_cons_zero, List.set_cons_succ])
              try rfl
            refine sched_take' (v := .int .i64 (n0 : Nat)) (a' := ?_) rfl (by kernel_rfl) ?_ rfl ?_ ?_
            rotate_left 1
            · intro w hSw
              (try dsimp only at hSw)
              go_simp
              first | done | (obtain ⟨u0, u1, u2, u3, u4, u5, u6⟩ := hSw; simp [*])
            · (try simp only [Act.put, List.setIfInBounds_toArray, List.set_cons_zero, List.set_cons_succ])
              try rfl
            refine sched_take' (v := ?_) (a' := ?_) rfl (by kernel_rfl) ?_ rfl ?_ ?_
            rotate_left 2
            · intro w hSw
              (try dsimp only at hSw)
              go_simp
              try with_reducible rfl
            · (try simp only [Act.put, List.setIfInBounds_toArray, List.set_cons_zero, List.set_cons_succ])
              try rfl
            refine sched_take' (v := ?_) (a' := ?_) rfl (by kernel_rfl) ?_ rfl ?_ ?_
            rotate_left 2
            · intro w hSw
              (try dsimp only at hSw)
              go_simp
              try with_reducible rfl
            · (try simp only [Act.put, List.setIfInBounds_toArray, List.set_cons_zero, List.set_cons_succ])
              try rfl
            refine sched_take' (v := ?_) (a' := ?_) rfl (by kernel_rfl) ?_ rfl ?_ ?_
            rotate_left 2
            · intro w hSw
              (try dsimp only at hSw)
              go_simp
              try with_reducible rfl
            · (try simp only [Act.put, List.setIfInBounds_toArray, List.set_cons_zero, List.set_cons_succ])
              try rfl
            refine sched_take' (v := .int .i64 (n2 : Nat)) (a' := ?_) rfl (by kernel_rfl) ?_ rfl ?_ ?_
            rotate_left 1
            · intro w hSw
              (try dsimp only at hSw)
              go_simp
              first | done | (obtain ⟨u0, u1, u2, u3, u4, u5, u6⟩ := hSw; simp [*])
            · (try simp only [Act.put, List.setIfInBounds_toArray, List.set_cons_zero, List.set_cons_succ])
              try rfl
            refine sched_take' (v := ?_) (a' := ?_) rfl (by kernel_rfl) ?_ rfl ?_ ?_
            rotate_left 2
            · intro w hSw
              (try dsimp only at hSw)
              go_simp
              try with_reducible rfl
            · (try simp only [Act.put, List.setIfInBounds_toArray, List.set_cons_zero, List.set_cons_succ])
              try rfl
            refine sched_take' (v := ?_) (a' := ?_) rfl (by kernel_rfl) ?_ rfl ?_ ?_
            rotate_left 2
            · intro w hSw
              (try dsimp only at hSw)
              go_simp
              try with_reducible rfl
            · (try simp only [Act.put, List.setIfInBounds_toArray, List.set_cons_zero, List.set_cons_succ])
              try rfl
            refine sched_take' (v := .int .i64 (n3 : Nat)) (a' := ?_) rfl (by kernel_rfl) ?_ rfl ?_ ?_
            rotate_left 1
            · intro w hSw
              (try dsimp only at hSw)
              go_simp
              first | done | (obtain ⟨u0, u1, u2, u3, u4, u5, u6⟩ := hSw; simp [*])
            · (try simp only [Act.put, List.setIfInBounds_toArray, List.set_cons_zero, List.set_cons_succ])
              try rfl
            refine sched_call rfl (by kernel_rfl) (fun K1 hK1 => ?_)
            go_simp
            refine hK1.out _ _ ?_ (sched_lay (a' := ?_) ?_ ?_)
            · exact ⟨q0, q1, q2, q3, q4, q5, q6⟩
            rotate_left 1
            · (try simp only [Act.put, List.getElem_toArray, List.getElem_cons_succ, List.getElem_cons_zero, List.setIfInBounds_toArray, List.set_cons_zero, List.set_cons_succ])
              try rfl
            clear hK1 K1
            refine sched_call rfl (by kernel_rfl) (fun K1 hK1 => ?_)
            go_simp
            refine (CXk.out _ _ M6.out).mono ?_
            rintro e w7 ⟨rfl, hz⟩
            have B7 := Lib.hid (B6.out.trans (hz.mono B6.out.size))
            have X7 := Lib.hid (X6.out.call hz)
            have L7 := Lib.hid (L6.out.call hz)
            clear hz
            obtain ⟨z0, z1, z2⟩ := box_load X7.out
            obtain ⟨z3, z4, z5, z6⟩ := four_cells L7.out
            go_wp2_with fail
            refine hK1.out _ _ ?_ (sched_lay (a' := ?_) ?_ ?_)
            · exact ⟨z0, z1, z2, z3, z4, z5, z6⟩
            rotate_left 1
            · (try simp only [Act.put, List.getElem_toArray, List.getElem_cons_succ, List.getElem_cons_zero, List.setIfInBounds_toArray, List.set_cons_zero, List.set_cons_succ])
              try rfl
            clear hK1 K1
            refine sched_done (hQ1.out _ _ ?_)
            go_wp2_with fail
            go_roundg (a.n - k - 1)
            case rel => exact ⟨k + 1, by omega, by go_num, by rw [Hcs.out]; rfl, X7.out, L7.out, B7.out⟩
            case measure => omega
        · obtain rfl : k = a.n := by omega
          obtain ⟨x0, x1, x2⟩ := box_load HX.out
          clear hcs
          obtain ⟨Z, hZ⟩ : ∃ Z, Z = CC a.n := ⟨_, rfl⟩
          rw [← hZ] at KK4 KK5 KK6 KK7 KK8 hcl ⊢
          have e4 : (((Z : Int) == (a.n : Int)) == ((Z : Int) == (a.n : Int))) = true := by cases ((Z : Int) == (a.n : Int)) <;> rfl
          clear hZ HC0 HCs HCl
          as_aux_lemma =>
            have B5 := Lib.hid HB.out.drew
            have X5 := Lib.hid HX.out.drew
            have L5 := Lib.hid (show LRow wr.drew (some ⟨gA, 0, none⟩) (natsI [n0, n1, n2, n3]) from HL.out)
            obtain ⟨y0, y1, y2⟩ := box_load X5.out
            obtain ⟨y3, y4, y5, y6⟩ := four_cells L5.out
            go_upto_region 14 with (fail)
            refine region_sched [(0, true), (1, true), (2, true), (3, true), (5, true), (6, true), (4, false), (7, true), (8, true), (9, true), (10, true), (11, true), (12, true), (13, true), (15, true), (14, false), (16, true), (17, true), (18, true), (19, true), (20, true), (21, false), (22, true), (23, true), (24, true), (25, true), (26, true), (27, true), (28, true), (29, true), (30, true), (32, true), (31, false), (33, true), (34, true), (35, true), (36, true), (37, true), (38, true), (39, true), (40, true), (41, false), (42, true), (43, true), (44, true), (45, true), (46, true), (47, true), (48, true), (49, true), (51, true), (52, true), (53, true), (54, true), (50, false), (55, true), (56, true), (57, true), (58, true), (59, true), (60, true), (61, true), (63, true), (64, true), (62, false), (65, true), (66, true), (67, true), (68, true), (69, true), (70, true), (71, true), (73, true), (74, true), (72, false), (75, true), (76, true), (77, true), (78, true), (79, true), (80, true), (81, true), (83, true), (84, true), (82, false), (85, true), (86, true), (87, true), (88, true), (89, true), (90, true), (91, true), (93, true), (94, true), (92, false), (95, true), (96, true), (97, true)] (fun w' : World => w'.cell? ⟨w1.heap.size, 0, none⟩ = some (.int .i64 (a.n : Int)) ∧ w'.cell? ⟨w1.heap.size, 1, none⟩ = some (.string (bs a.set)) ∧ w'.cell? ⟨w1.heap.size, 2, none⟩ = some (.string (bs a.rel)) ∧ w'.cell? ⟨gA, 0, none⟩ = some (.int .i64 (n0 : Nat)) ∧ w'.cell? ⟨gA, 1, none⟩ = some (.int .i64 (n1 : Nat)) ∧ w'.cell? ⟨gA, 2, none⟩ = some (.int .i64 (n2 : Nat)) ∧ w'.cell? ⟨gA, 3, none⟩ = some (.int .i64 (n3 : Nat))) (by kernel_rfl) (by as_aux_lemma => kernel_rfl) (by as_aux_lemma => kernel_rfl) ?ordr (fun _ _ _ _ h => h) ?_ (fun Q1 hQ1 => ?_)
            case ordr =>
              as_aux_lemma =>
                show schedOk _ _ _ #[false, false, false, false, false, false, false, false, false, false, false, false, false, false, false, false, false, false, false, false, false, false, false, false, false, false, false, false, false, false, false, false, false, false, false, false, false, false, false, false, false, false, false, false, false, false, false, false, false, false, false, false, false, false, false, false, false, false, false, false, false, false, false, false, false, false, false, false, false, false, false, false, false, false, false, false, false, false, false, false, false, false, false, false, false, false, false, false, false, false, false, false, false, false, false, false, false, false] = true
                refine schedOk_cut [(0, true), (1, true), (2, true), (3, true), (5, true), (6, true)] [(4, false), (7, true), (8, true), (9, true), (10, true), (11, true), (12, true), (13, true), (15, true), (14, false), (16, true), (17, true), (18, true), (19, true), (20, true), (21, false), (22, true), (23, true), (24, true), (25, true), (26, true), (27, true), (28, true), (29, true), (30, true), (32, true), (31, false), (33, true), (34, true), (35, true), (36, true), (37, true), (38, true), (39, true), (40, true), (41, false), (42, true), (43, true), (44, true), (45, true), (46, true), (47, true), (48, true), (49, true), (51, true), (52, true), (53, true), (54, true), (50, false), (55, true), (56, true), (57, true), (58, true), (59, true), (60, true), (61, true), (63, true), (64, true), (62, false), (65, true), (66, true), (67, true), (68, true), (69, true), (70, true), (71, true), (73, true), (74, true), (72, false), (75, true), (76, true), (77, true), (78, true), (79, true), (80, true), (81, true), (83, true), (84, true), (82, false), (85, true), (86, true), (87, true), (88, true), (89, true), (90, true), (91, true), (93, true), (94, true), (92, false), (95, true), (96, true), (97, true)] _ #[true, true, true, true, false, true, true, false, false, false, false, false, false, false, false, false, false, false, false, false, false, false, false, false, false, false, false, false, false, false, false, false, false, false, false, false, false, false, false, false, false, false, false, false, false, false, false, false, false, false, false, false, false, false, false, false, false, false, false, false, false, false, false, false, false, false, false, false, false, false, false, false, false, false, false, false, false, false, false, false, false, false, false, false, false, false, false, false, false, false, false, false, false, false, false, false, false, false] (by as_aux_lemma => kernel_rfl) (by as_aux_lemma => kernel_rfl) ?_
                refine schedOk_cut [(4, false), (7, true), (8, true), (9, true), (10, true), (11, true)] [(12, true), (13, true), (15, true), (14, false), (16, true), (17, true), (18, true), (19, true), (20, true), (21, false), (22, true), (23, true), (24, true), (25, true), (26, true), (27, true), (28, true), (29, true), (30, true), (32, true), (31, false), (33, true), (34, true), (35, true), (36, true), (37, true), (38, true), (39, true), (40, true), (41, false), (42, true), (43, true), (44, true), (45, true), (46, true), (47, true), (48, true), (49, true), (51, true), (52, true), (53, true), (54, true), (50, false), (55, true), (56, true), (57, true), (58, true), (59, true), (60, true), (61, true), (63, true), (64, true), (62, false), (65, true), (66, true), (67, true), (68, true), (69, true), (70, true), (71, true), (73, true), (74, true), (72, false), (75, true), (76, true), (77, true), (78, true), (79, true), (80, true), (81, true), (83, true), (84, true), (82, false), (85, true), (86, true), (87, true), (88, true), (89, true), (90, true), (91, true), (93, true), (94, true), (92, false), (95, true), (96, true), (97, true)] _ #[true, true, true, true, true, true, true, true, true, true, true, true, false, false, false, false, false, false, false, false, false, false, false, false, false, false, false, false, false, false, false, false, false, false, false, false, false, false, false, false, false, false, false, false, false, false, false, false, false, false, false, false, false, false, false, false, false, false, false, false, false, false, false, false, false, false, false, false, false, false, false, false, false, false, false, false, false, false, false, false, false, false, false, false, false, false, false, false, false, false, false, false, false, false, false, false, false, false] (by as_aux_lemma => kernel_rfl) (by as_aux_lemma => kernel_rfl) ?_
                refine schedOk_cut [(12, true), (13, true), (15, true), (14, false), (16, true), (17, true)] [(18, true), (19, true), (20, true), (21, false), (22, true), (23, true), (24, true), (25, true), (26, true), (27, true), (28, true), (29, true), (30, true), (32, true), (31, false), (33, true), (34, true), (35, true), (36, true), (37, true), (38, true), (39, true), (40, true), (41, false), (42, true), (43, true), (44, true), (45, true), (46, true), (47, true), (48, true), (49, true), (51, true), (52, true), (53, true), (54, true), (50, false), (55, true), (56, true), (57, true), (58, true), (59, true), (60, true), (61, true), (63, true), (64, true), (62, false), (65, true), (66, true), (67, true), (68, true), (69, true), (70, true), (71, true), (73, true), (74, true), (72, false), (75, true), (76, true), (77, true), (78, true), (79, true), (80, true), (81, true), (83, true), (84, true), (82, false), (85, true), (86, true), (87, true), (88, true), (89, true), (90, true), (91, true), (93, true), (94, true), (92, false), (95, true), (96, true), (97, true)] _ #[true, true, true, true, true, true, true, true, true, true, true, true, true, true, true, true, true, true, false, false, false, false, false, false, false, false, false, false, false, false, false, false, false, false, false, false, false, false, false, false, false, false, false, false, false, false, false, false, false, false, false, false, false, false, false, false, false, false, false, false, false, false, false, false, false, false, false, false, false, false, false, false, false, false, false, false, false, false, false, false, false, false, false, false, false, false, false, false, false, false, false, false, false, false, false, false, false, false] (by as_aux_lemma => kernel_rfl) (by as_aux_lemma => kernel_rfl) ?_
                refine schedOk_cut [(18, true), (19, true), (20, true), (21, false), (22, true), (23, true)] [(24, true), (25, true), (26, true), (27, true), (28, true), (29, true), (30, true), (32, true), (31, false), (33, true), (34, true), (35, true), (36, true), (37, true), (38, true), (39, true), (40, true), (41, false), (42, true), (43, true), (44, true), (45, true), (46, true), (47, true), (48, true), (49, true), (51, true), (52, true), (53, true), (54, true), (50, false), (55, true), (56, true), (57, true), (58, true), (59, true), (60, true), (61, true), (63, true), (64, true), (62, false), (65, true), (66, true), (67, true), (68, true), (69, true), (70, true), (71, true), (73, true), (74, true), (72, false), (75, true), (76, true), (77, true), (78, true), (79, true), (80, true), (81, true), (83, true), (84, true), (82, false), (85, true), (86, true), (87, true), (88, true), (89, true), (90, true), (91, true), (93, true), (94, true), (92, false), (95, true), (96, true), (97, true)] _ #[true, true, true, true, true, true, true, true, true, true, true, true, true, true, true, true, true, true, true, true, true, true, true, true, false, false, false, false, false, false, false, false, false, false, false, false, false, false, false, false, false, false, false, false, false, false, false, false, false, false, false, false, false, false, false, false, false, false, false, false, false, false, false, false, false, false, false, false, false, false, false, false, false, false, false, false, false, false, false, false, false, false, false, false, false, false, false, false, false, false, false, false, false, false, false, false, false, false] (by as_aux_lemma => kernel_rfl) (by as_aux_lemma => kernel_rfl) ?_
                refine schedOk_cut [(24, true), (25, true), (26, true), (27, true), (28, true), (29, true)] [(30, true), (32, true), (31, false), (33, true), (34, true), (35, true), (36, true), (37, true), (38, true), (39, true), (40, true), (41, false), (42, true), (43, true), (44, true), (45, true), (46, true), (47, true), (48, true), (49, true), (51, true), (52, true), (53, true), (54, true), (50, false), (55, true), (56, true), (57, true), (58, true), (59, true), (60, true), (61, true), (63, true), (64, true), (62, false), (65, true), (66, true), (67, true), (68, true), (69, true), (70, true), (71, true), (73, true), (74, true), (72, false), (75, true), (76, true), (77, true), (78, true), (79, true), (80, true), (81, true), (83, true), (84, true), (82, false), (85, true), (86, true), (87, true), (88, true), (89, true), (90, true), (91, true), (93, true), (94, true), (92, false), (95, true), (96, true), (97, true)] _ #[true, true, true, true, true, true, true, true, true, true, true, true, true, true, true, true, true, true, true, true, true, true, true, true, true, true, true, true, true, true, false, false, false, false, false, false, false, false, false, false, false, false, false, false, false, false, false, false, false, false, false, false, false, false, false, false, false, false, false, false, false, false, false, false, false, false, false, false, false, false, false, false, false, false, false, false, false, false, false, false, false, false, false, false, false, false, false, false, false, false, false, false, false, false, false, false, false, false] (by as_aux_lemma => kernel_rfl) (by as_aux_lemma => kernel_rfl) ?_
                refine schedOk_cut [(30, true), (32, true), (31, false), (33, true), (34, true), (35, true)] [(36, true), (37, true), (38, true), (39, true), (40, true), (41, false), (42, true), (43, true), (44, true), (45, true), (46, true), (47, true), (48, true), (49, true), (51, true), (52, true), (53, true), (54, true), (50, false), (55, true), (56, true), (57, true), (58, true), (59, true), (60, true), (61, true), (63, true), (64, true), (62, false), (65, true), (66, true), (67, true), (68, true), (69, true), (70, true), (71, true), (73, true), (74, true), (72, false), (75, true), (76, true), (77, true), (78, true), (79, true), (80, true), (81, true), (83, true), (84, true), (82, false), (85, true), (86, true), (87, true), (88, true), (89, true), (90, true), (91, true), (93, true), (94, true), (92, false), (95, true), (96, true), (97, true)] _ #[true, true, true, true, true, true, true, true, true, true, true, true, true, true, true, true, true, true, true, true, true, true, true, true, true, true, true, true, true, true, true, true, true, true, true, true, false, false, false, false, false, false, false, false, false, false, false, false, false, false, false, false, false, false, false, false, false, false, false, false, false, false, false, false, false, false, false, false, false, false, false, false, false, false, false, false, false, false, false, false, false, false, false, false, false, false, false, false, false, false, false, false, false, false, false, false, false, false] (by as_aux_lemma => kernel_rfl) (by as_aux_lemma => kernel_rfl) ?_
                refine schedOk_cut [(36, true), (37, true), (38, true), (39, true), (40, true), (41, false)] [(42, true), (43, true), (44, true), (45, true), (46, true), (47, true), (48, true), (49, true), (51, true), (52, true), (53, true), (54, true), (50, false), (55, true), (56, true), (57, true), (58, true), (59, true), (60, true), (61, true), (63, true), (64, true), (62, false), (65, true), (66, true), (67, true), (68, true), (69, true), (70, true), (71, true), (73, true), (74, true), (72, false), (75, true), (76, true), (77, true), (78, true), (79, true), (80, true), (81, true), (83, true), (84, true), (82, false), (85, true), (86, true), (87, true), (88, true), (89, true), (90, true), (91, true), (93, true), (94, true), (92, false), (95, true), (96, true), (97, true)] _ #[true, true, true, true, true, true, true, true, true, true, true, true, true, true, true, true, true, true, true, true, true, true, true, true, true, true, true, true, true, true, true, true, true, true, true, true, true, true, true, true, true, true, false, false, false, false, false, false, false, false, false, false, false, false, false, false, false, false, false, false, false, false, false, false, false, false, false, false, false, false, false, false, false, false, false, false, false, false, false, false, false, false, false, false, false, false, false, false, false, false, false, false, false, false, false, false, false, false] (by as_aux_lemma => kernel_rfl) (by as_aux_lemma => kernel_rfl) ?_
                refine schedOk_cut [(42, true), (43, true), (44, true), (45, true), (46, true), (47, true)] [(48, true), (49, true), (51, true), (52, true), (53, true), (54, true), (50, false), (55, true), (56, true), (57, true), (58, true), (59, true), (60, true), (61, true), (63, true), (64, true), (62, false), (65, true), (66, true), (67, true), (68, true), (69, true), (70, true), (71, true), (73, true), (74, true), (72, false), (75, true), (76, true), (77, true), (78, true), (79, true), (80, true), (81, true), (83, true), (84, true), (82, false), (85, true), (86, true), (87, true), (88, true), (89, true), (90, true), (91, true), (93, true), (94, true), (92, false), (95, true), (96, true), (97, true)] _ #[true, true, true, true, true, true, true, true, true, true, true, true, true, true, true, true, true, true, true, true, true, true, true, true, true, true, true, true, true, true, true, true, true, true, true, true, true, true, true, true, true, true, true, true, true, true, true, true, false, false, false, false, false, false, false, false, false, false, false, false, false, false, false, false, false, false, false, false, false, false, false, false, false, false, false, false, false, false, false, false, false, false, false, false, false, false, false, false, false, false, false, false, false, false, false, false, false, false] (by as_aux_lemma => kernel_rfl) (by as_aux_lemma => kernel_rfl) ?_
                refine schedOk_cut [(48, true), (49, true), (51, true), (52, true), (53, true), (54, true)] [(50, false), (55, true), (56, true), (57, true), (58, true), (59, true), (60, true), (61, true), (63, true), (64, true), (62, false), (65, true), (66, true), (67, true), (68, true), (69, true), (70, true), (71, true), (73, true), (74, true), (72, false), (75, true), (76, true), (77, true), (78, true), (79, true), (80, true), (81, true), (83, true), (84, true), (82, false), (85, true), (86, true), (87, true), (88, true), (89, true), (90, true), (91, true), (93, true), (94, true), (92, false), (95, true), (96, true), (97, true)] _ #[true, true, true, true, true, true, true, true, true, true, true, true, true, true, true, true, true, true, true, true, true, true, true, true, true, true, true, true, true, true, true, true, true, true, true, true, true, true, true, true, true, true, true, true, true, true, true, true, true, true, false, true, true, true, true, false, false, false, false, false, false, false, false, false, false, false, false, false, false, false, false, false, false, false, false, false, false, false, false, false, false, false, false, false, false, false, false, false, false, false, false, false, false, false, false, false, false, false] (by as_aux_lemma => kernel_rfl) (by as_aux_lemma => kernel_rfl) ?_
                refine schedOk_cut [(50, false), (55, true), (56, true), (57, true), (58, true), (59, true)] [(60, true), (61, true), (63, true), (64, true), (62, false), (65, true), (66, true), (67, true), (68, true), (69, true), (70, true), (71, true), (73, true), (74, true), (72, false), (75, true), (76, true), (77, true), (78, true), (79, true), (80, true), (81, true), (83, true), (84, true), (82, false), (85, true), (86, true), (87, true), (88, true), (89, true), (90, true), (91, true), (93, true), (94, true), (92, false), (95, true), (96, true), (97, true)] _ #[true, true, true, true, true, true, true, true, true, true, true, true, true, true, true, true, true, true, true, true, true, true, true, true, true, true, true, true, true, true, true, true, true, true, true, true, true, true, true, true, true, true, true, true, true, true, true, true, true, true, true, true, true, true, true, true, true, true, true, true, false, false, false, false, false, false, false, false, false, false, false, false, false, false, false, false, false, false, false, false, false, false, false, false, false, false, false, false, false, false, false, false, false, false, false, false, false, false] (by as_aux_lemma => kernel_rfl) (by as_aux_lemma => kernel_rfl) ?_
                refine schedOk_cut [(60, true), (61, true), (63, true), (64, true), (62, false), (65, true)] [(66, true), (67, true), (68, true), (69, true), (70, true), (71, true), (73, true), (74, true), (72, false), (75, true), (76, true), (77, true), (78, true), (79, true), (80, true), (81, true), (83, true), (84, true), (82, false), (85, true), (86, true), (87, true), (88, true), (89, true), (90, true), (91, true), (93, true), (94, true), (92, false), (95, true), (96, true), (97, true)] _ #[true, true, true, true, true, true, true, true, true, true, true, true, true, true, true, true, true, true, true, true, true, true, true, true, true, true, true, true, true, true, true, true, true, true, true, true, true, true, true, true, true, true, true, true, true, true, true, true, true, true, true, true, true, true, true, true, true, true, true, true, true, true, true, true, true, true, false, false, false, false, false, false, false, false, false, false, false, false, false, false, false, false, false, false, false, false, false, false, false, false, false, false, false, false, false, false, false, false] (by as_aux_lemma => kernel_rfl) (by as_aux_lemma => kernel_rfl) ?_
                refine schedOk_cut [(66, true), (67, true), (68, true), (69, true), (70, true), (71, true)] [(73, true), (74, true), (72, false), (75, true), (76, true), (77, true), (78, true), (79, true), (80, true), (81, true), (83, true), (84, true), (82, false), (85, true), (86, true), (87, true), (88, true), (89, true), (90, true), (91, true), (93, true), (94, true), (92, false), (95, true), (96, true), (97, true)] _ #[true, true, true, true, true, true, true, true, true, true, true, true, true, true, true, true, true, true, true, true, true, true, true, true, true, true, true, true, true, true, true, true, true, true, true, true, true, true, true, true, true, true, true, true, true, true, true, true, true, true, true, true, true, true, true, true, true, true, true, true, true, true, true, true, true, true, true, true, true, true, true, true, false, false, false, false, false, false, false, false, false, false, false, false, false, false, false, false, false, false, false, false, false, false, false, false, false, false] (by as_aux_lemma => kernel_rfl) (by as_aux_lemma => kernel_rfl) ?_
                refine schedOk_cut [(73, true), (74, true), (72, false), (75, true), (76, true), (77, true)] [(78, true), (79, true), (80, true), (81, true), (83, true), (84, true), (82, false), (85, true), (86, true), (87, true), (88, true), (89, true), (90, true), (91, true), (93, true), (94, true), (92, false), (95, true), (96, true), (97, true)] _ #[true, true, true, true, true, true, true, true, true, true, true, true, true, true, true, true, true, true, true, true, true, true, true, true, true, true, true, true, true, true, true, true, true, true, true, true, true, true, true, true, true, true, true, true, true, true, true, true, true, true, true, true, true, true, true, true, true, true, true, true, true, true, true, true, true, true, true, true, true, true, true, true, true, true, true, true, true, true, false, false, false, false, false, false, false, false, false, false, false, false, false, false, false, false, false, false, false, false] (by as_aux_lemma => kernel_rfl) (by as_aux_lemma => kernel_rfl) ?_
                refine schedOk_cut [(78, true), (79, true), (80, true), (81, true), (83, true), (84, true)] [(82, false), (85, true), (86, true), (87, true), (88, true), (89, true), (90, true), (91, true), (93, true), (94, true), (92, false), (95, true), (96, true), (97, true)] _ #[true, true, true, true, true, true, true, true, true, true, true, true, true, true, true, true, true, true, true, true, true, true, true, true, true, true, true, true, true, true, true, true, true, true, true, true, true, true, true, true, true, true, true, true, true, true, true, true, true, true, true, true, true, true, true, true, true, true, true, true, true, true, true, true, true, true, true, true, true, true, true, true, true, true, true, true, true, true, true, true, true, true, false, true, true, false, false, false, false, false, false, false, false, false, false, false, false, false] (by as_aux_lemma => kernel_rfl) (by as_aux_lemma => kernel_rfl) ?_
                refine schedOk_cut [(82, false), (85, true), (86, true), (87, true), (88, true), (89, true)] [(90, true), (91, true), (93, true), (94, true), (92, false), (95, true), (96, true), (97, true)] _ #[true, true, true, true, true, true, true, true, true, true, true, true, true, true, true, true, true, true, true, true, true, true, true, true, true, true, true, true, true, true, true, true, true, true, true, true, true, true, true, true, true, true, true, true, true, true, true, true, true, true, true, true, true, true, true, true, true, true, true, true, true, true, true, true, true, true, true, true, true, true, true, true, true, true, true, true, true, true, true, true, true, true, true, true, true, true, true, true, true, true, false, false, false, false, false, false, false, false] (by as_aux_lemma => kernel_rfl) (by as_aux_lemma => kernel_rfl) ?_
                refine schedOk_cut [(90, true), (91, true), (93, true), (94, true), (92, false), (95, true)] [(96, true), (97, true)] _ #[true, true, true, true, true, true, true, true, true, true, true, true, true, true, true, true, true, true, true, true, true, true, true, true, true, true, true, true, true, true, true, true, true, true, true, true, true, true, true, true, true, true, true, true, true, true, true, true, true, true, true, true, true, true, true, true, true, true, true, true, true, true, true, true, true, true, true, true, true, true, true, true, true, true, true, true, true, true, true, true, true, true, true, true, true, true, true, true, true, true, true, true, true, true, true, true, false, false] (by as_aux_lemma => kernel_rfl) (by as_aux_lemma => kernel_rfl) ?_
                as_aux_lemma => kernel_rfl
            · exact ⟨y0, y1, y2, y3, y4, y5, y6⟩
            try simp only [List.append]
            refine sched_take' (v := .agg #[.int .i64 (a.n : Int), .string (bs a.set), .string (bs a.rel)]) (a' := ?_) rfl (by kernel_rfl) ?_ rfl ?_ ?_
            rotate_left 1
            · intro w hSw
              (try dsimp only at hSw)
              go_simp
              first | done | (obtain ⟨u0, u1, u2, u3, u4, u5, u6⟩ := hSw; simp [*])
            · (try simp only [Act.put, List.setIfInBounds_toArray, List.set_cons_zero, List.set_cons_succ])
              try rfl
            refine sched_take' (v := ?_) (a' := ?_) rfl (by kernel_rfl) ?_ rfl ?_ ?_
            rotate_left 2
            · intro w hSw
              (try dsimp only at hSw)
              go_simp
              try with_reducible rfl
            · (try simp only [Act.put, List.setIfInBounds_toArray, List.set_cons_zero, List.set_cons_succ])
              try rfl
            refine sched_take' (v := .string (⟨#[33]⟩ ++ t)) (a' := ?_) rfl (by kernel_rfl) ?_ rfl ?_ ?_
            rotate_left 1
            · intro w hSw
              (try dsimp only at hSw)
              go_simp
              first | done | omega
            · (try simp only [Act.put, List.setIfInBounds_toArray, List.set_cons_zero, List.set_cons_succ])
              try rfl
            refine sched_take' (v := ?_) (a' := ?_) rfl (by kernel_rfl) ?_ rfl ?_ ?_
            rotate_left 2
            · intro w hSw
              (try dsimp only at hSw)
              go_simp
              try with_reducible rfl
            · (try simp only [Act.put, List.setIfInBounds_toArray, List.set_cons_zero, List.set_cons_succ])
              try rfl
            refine sched_take' (v := ?_) (a' := ?_) rfl (by kernel_rfl) ?_ rfl ?_ ?_
            rotate_left 2
            · intro w hSw
              (try dsimp only at hSw)
              go_simp
              try with_reducible rfl
            · (try simp only [Act.put, List.setIfInBounds_toArray, List.set_cons_zero, List.set_cons_succ])
              try rfl
            refine sched_take' (v := ?_) (a' := ?_) rfl (by kernel_rfl) ?_ rfl ?_ ?_
            rotate_left 2
            · intro w hSw
              (try dsimp only at hSw)
              go_simp
              try with_reducible rfl
            · (try simp only [Act.put, List.setIfInBounds_toArray, List.set_cons_zero, List.set_cons_succ])
              try rfl
            refine sched_call rfl (by kernel_rfl) (fun K1 hK1 => ?_)
            go_simp
            refine (KK1.out _ L5.out).mono ?_
            rintro e w10 ⟨rfl, hz⟩
            have B10 := Lib.hid (B5.out.trans (hz.mono B5.out.size))
            have X10 := Lib.hid (X5.out.call hz)
            have L10 := Lib.hid (L5.out.call hz)
            clear hz
            obtain ⟨ra0, ra1, ra2⟩ := box_load X10.out
            obtain ⟨ra3, ra4, ra5, ra6⟩ := four_cells L10.out
            go_wp2_with fail
            refine hK1.out _ _ ?_ (sched_lay (a' := ?_) ?_ ?_)
            · exact ⟨ra0, ra1, ra2, ra3, ra4, ra5, ra6⟩
            rotate_left 1
            · (try simp only [Act.put, List.getElem_toArray, List.getElem_cons_succ, List.getElem_cons_zero, List.setIfInBounds_toArray, List.set_cons_zero, List.set_cons_succ])
              try rfl
            clear hK1 K1
            as_aux_lemma =>
              refine sched_take' (v := ?_) (a' := ?_) rfl (by kernel_rfl) ?_ rfl ?_ ?_
              rotate_left 2
              · intro w hSw
                (try dsimp only at hSw)
                go_simp
                try with_reducible rfl
              · (try simp only [Act.put, List.setIfInBounds_toArray, List.set_cons_zero, List.set_cons_succ])
                try rfl
              refine sched_take' (v := ?_) (a' := ?_) rfl (by kernel_rfl) ?_ rfl ?_ ?_
              rotate_left 2
              · intro w hSw
                (try dsimp only at hSw)
                go_simp
                try with_reducible rfl
              · (try simp only [Act.put, List.setIfInBounds_toArray, List.set_cons_zero, List.set_cons_succ])
                try rfl
              refine sched_take' (v := .agg #[.int .i64 (a.n : Int), .string (bs a.set), .string (bs a.rel)]) (a' := ?_) rfl (by kernel_rfl) ?_ rfl ?_ ?_
              rotate_left 1
              · intro w hSw
                (try dsimp only at hSw)
                go_simp
                first | done | (obtain ⟨u0, u1, u2, u3, u4, u5, u6⟩ := hSw; simp [*])
              · (try simp only [Act.put, List.setIfInBounds_toArray, List.set_cons_zero, List.set_cons_succ])
                try rfl
              refine sched_take' (v := ?_) (a' := ?_) rfl (by kernel_rfl) ?_ rfl ?_ ?_
              rotate_left 2
              · intro w hSw
                (try dsimp only at hSw)
                go_simp
                try with_reducible rfl
              · (try simp only [Act.put, List.setIfInBounds_toArray, List.set_cons_zero, List.set_cons_succ])
                try rfl
              refine sched_take' (v := .string (⟨#[38]⟩ ++ t)) (a' := ?_) rfl (by kernel_rfl) ?_ rfl ?_ ?_
              rotate_left 1
              · intro w hSw
                (try dsimp only at hSw)
                go_simp
                first | done | omega
              · (try simp only [Act.put, List.setIfInBounds_toArray, List.set_cons_zero, List.set_cons_succ])
                try rfl
              refine sched_take' (v := .string (⟨#[38]⟩ ++ t ++ ⟨#[80, 97]⟩)) (a' := ?_) rfl (by kernel_rfl) ?_ rfl ?_ ?_
              rotate_left 1
              · intro w hSw
                (try dsimp only at hSw)
                go_simp
                first | done | omega
              · (try simp only [Act.put, List.setIfInBounds_toArray, List.set_cons_zero, List.set_cons_succ])
                try rfl
              refine sched_take' (v := ?_) (a' := ?_) rfl (by kernel_rfl) ?_ rfl ?_ ?_
              rotate_left 2
              · intro w hSw
                (try dsimp only at hSw)
                go_simp
                try with_reducible rfl
              · (try simp only [Act.put, List.setIfInBounds_toArray, List.set_cons_zero, List.set_cons_succ])
                try rfl
              refine sched_take' (v := ?_) (a' := ?_) rfl (by kernel_rfl) ?_ rfl ?_ ?_
              rotate_left 2
              · intro w hSw
                (try dsimp only at hSw)
                go_simp
                try with_reducible rfl
              · (try simp only [Act.put, List.setIfInBounds_toArray, List.set_cons_zero, List.set_cons_succ])
                try rfl
              refine sched_call rfl (by kernel_rfl) (fun K1 hK1 => ?_)
              go_simp
              refine (KK2.out _ L10.out).mono ?_
              rintro e w11 ⟨rfl, hz⟩
              have B11 := Lib.hid (B10.out.trans (hz.mono B10.out.size))
              have X11 := Lib.hid (X10.out.call hz)
              have L11 := Lib.hid (L10.out.call hz)
              clear hz
              obtain ⟨rb0, rb1, rb2⟩ := box_load X11.out
              obtain ⟨rb3, rb4, rb5, rb6⟩ := four_cells L11.out
              go_wp2_with fail
              refine hK1.out _ _ ?_ (sched_lay (a' := ?_) ?_ ?_)
              · exact ⟨rb0, rb1, rb2, rb3, rb4, rb5, rb6⟩
              rotate_left 1
              · (try simp only [Act.put, List.getElem_toArray, List.getElem_cons_succ, List.getElem_cons_zero, List.setIfInBounds_toArray, List.set_cons_zero, List.set_cons_succ])
                try rfl
              clear hK1 K1
              as_aux_lemma =>
                refine sched_take' (v := ?_) (a' := ?_) rfl (by kernel_rfl) ?_ rfl ?_ ?_
                rotate_left 2
                · intro w hSw
                  (try dsimp only at hSw)
                  go_simp
                  try with_reducible rfl
                · (try simp only [Act.put, List.setIfInBounds_toArray, List.set_cons_zero, List.set_cons_succ])
                  try rfl
                refine sched_take' (v := .agg #[.int .i64 (a.n : Int), .string (bs a.set), .string (bs a.rel)]) (a' := ?_) rfl (by kernel_rfl) ?_ rfl ?_ ?_
                rotate_left 1
                · intro w hSw
                  (try dsimp only at hSw)
                  go_simp
                  first | done | (obtain ⟨u0, u1, u2, u3, u4, u5, u6⟩ := hSw; simp [*])
                · (try simp only [Act.put, List.setIfInBounds_toArray, List.set_cons_zero, List.set_cons_succ])
                  try rfl
                refine sched_take' (v := ?_) (a' := ?_) rfl (by kernel_rfl) ?_ rfl ?_ ?_
                rotate_left 2
                · intro w hSw
                  (try dsimp only at hSw)
                  go_simp
                  try with_reducible rfl
                · (try simp only [Act.put, List.setIfInBounds_toArray, List.set_cons_zero, List.set_cons_succ])
                  try rfl
                refine sched_take' (v := ?_) (a' := ?_) rfl (by kernel_rfl) ?_ rfl ?_ ?_
                rotate_left 2
                · intro w hSw
                  (try dsimp only at hSw)
                  go_simp
                  try with_reducible rfl
                · (try simp only [Act.put, List.setIfInBounds_toArray, List.set_cons_zero, List.set_cons_succ])
                  try rfl
                refine sched_take' (v := .int .i64 (n0 : Nat)) (a' := ?_) rfl (by kernel_rfl) ?_ rfl ?_ ?_
                rotate_left 1
                · intro w hSw
                  (try dsimp only at hSw)
                  go_simp
                  first | done | (obtain ⟨u0, u1, u2, u3, u4, u5, u6⟩ := hSw; simp [*])
                · (try simp only [Act.put, List.setIfInBounds_toArray, List.set_cons_zero, List.set_cons_succ])
                  try rfl
                refine sched_call rfl (by kernel_rfl) (fun K1 hK1 => ?_)
                go_simp
                refine (KS.out _).mono ?_
                rintro e w12 ⟨rfl, hz⟩
                have B12 := Lib.hid (B11.out.trans (hz.mono B11.out.size))
                have X12 := Lib.hid (X11.out.call hz)
                have L12 := Lib.hid (L11.out.call hz)
                clear hz
                obtain ⟨rc0, rc1, rc2⟩ := box_load X12.out
                obtain ⟨rc3, rc4, rc5, rc6⟩ := four_cells L12.out
                go_wp2_with fail
                refine hK1.out _ _ ?_ (sched_lay (a' := ?_) ?_ ?_)
                · exact ⟨rc0, rc1, rc2, rc3, rc4, rc5, rc6⟩
                rotate_left 1
                · (try simp only [Act.put, List.getElem_toArray, List.getElem_cons_succ, List.getElem_cons_zero, List.setIfInBounds_toArray, List.set_cons_zero, List.set_cons_succ])
                  try rfl
                clear hK1 K1
                as_aux_lemma =>
                  refine sched_take' (v := ?_) (a' := ?_) rfl (by kernel_rfl) ?_ rfl ?_ ?_
                  rotate_left 2
                  · intro w hSw
                    (try dsimp only at hSw)
                    go_simp
                    try with_reducible rfl
                  · (try simp only [Act.put, List.setIfInBounds_toArray, List.set_cons_zero, List.set_cons_succ])
                    try rfl
                  refine sched_take' (v := ?_) (a' := ?_) rfl (by kernel_rfl) ?_ rfl ?_ ?_
                  rotate_left 2
                  · intro w hSw
                    (try dsimp only at hSw)
                    go_simp
                    try with_reducible rfl
                  · (try simp only [Act.put, List.setIfInBounds_toArray, List.set_cons_zero, List.set_cons_succ])
                    try rfl
                  refine sched_take' (v := ?_) (a' := ?_) rfl (by kernel_rfl) ?_ rfl ?_ ?_
                  rotate_left 2
                  · intro w hSw
                    (try dsimp only at hSw)
                    go_simp
                    try with_reducible rfl
                  · (try simp only [Act.put, List.setIfInBounds_toArray, List.set_cons_zero, List.set_cons_succ])
                    try rfl
                  refine sched_take' (v := ?_) (a' := ?_) rfl (by kernel_rfl) ?_ rfl ?_ ?_
                  rotate_left 2
                  · intro w hSw
                    (try dsimp only at hSw)
                    go_simp
                    try with_reducible rfl
                  · (try simp only [Act.put, List.setIfInBounds_toArray, List.set_cons_zero, List.set_cons_succ])
                    try rfl
                  refine sched_take' (v := .agg #[.int .i64 (a.n : Int), .string (bs a.set), .string (bs a.rel)]) (a' := ?_) rfl (by kernel_rfl) ?_ rfl ?_ ?_
                  rotate_left 1
                  · intro w hSw
                    (try dsimp only at hSw)
                    go_simp
                    first | done | (obtain ⟨u0, u1, u2, u3, u4, u5, u6⟩ := hSw; simp [*])
                  · (try simp only [Act.put, List.setIfInBounds_toArray, List.set_cons_zero, List.set_cons_succ])
                    try rfl
                  refine sched_take' (v := ?_) (a' := ?_) rfl (by kernel_rfl) ?_ rfl ?_ ?_
                  rotate_left 2
                  · intro w hSw
                    (try dsimp only at hSw)
                    go_simp
                    try with_reducible rfl
                  · (try simp only [Act.put, List.setIfInBounds_toArray, List.set_cons_zero, List.set_cons_succ])
                    try rfl
                  refine sched_take' (v := .string (⟨#[124]⟩ ++ t)) (a' := ?_) rfl (by kernel_rfl) ?_ rfl ?_ ?_
                  rotate_left 1
                  · intro w hSw
                    (try dsimp only at hSw)
                    go_simp
                    first | done | omega
                  · (try simp only [Act.put, List.setIfInBounds_toArray, List.set_cons_zero, List.set_cons_succ])
                    try rfl
                  refine sched_take' (v := .string (⟨#[124]⟩ ++ t ++ ⟨#[69, 97, 98]⟩)) (a' := ?_) rfl (by kernel_rfl) ?_ rfl ?_ ?_
                  rotate_left 1
                  · intro w hSw
                    (try dsimp only at hSw)
                    go_simp
                    first | done | omega
                  · (try simp only [Act.put, List.setIfInBounds_toArray, List.set_cons_zero, List.set_cons_succ])
                    try rfl
                  refine sched_take' (v := ?_) (a' := ?_) rfl (by kernel_rfl) ?_ rfl ?_ ?_
                  rotate_left 2
                  · intro w hSw
                    (try dsimp only at hSw)
                    go_simp
                    try with_reducible rfl
                  · (try simp only [Act.put, List.setIfInBounds_toArray, List.set_cons_zero, List.set_cons_succ])
                    try rfl
                  refine sched_take' (v := ?_) (a' := ?_) rfl (by kernel_rfl) ?_ rfl ?_ ?_
                  rotate_left 2
                  · intro w hSw
                    (try dsimp only at hSw)
                    go_simp
                    try with_reducible rfl
                  · (try simp only [Act.put, List.setIfInBounds_toArray, List.set_cons_zero, List.set_cons_succ])
                    try rfl
                  refine sched_call rfl (by kernel_rfl) (fun K1 hK1 => ?_)
                  go_simp
                  refine (KK3.out _ L12.out).mono ?_
                  rintro e w13 ⟨rfl, hz⟩
                  have B13 := Lib.hid (B12.out.trans (hz.mono B12.out.size))
                  have X13 := Lib.hid (X12.out.call hz)
                  have L13 := Lib.hid (L12.out.call hz)
                  clear hz
                  obtain ⟨rd0, rd1, rd2⟩ := box_load X13.out
                  obtain ⟨rd3, rd4, rd5, rd6⟩ := four_cells L13.out
                  go_wp2_with fail
                  refine hK1.out _ _ ?_ (sched_lay (a' := ?_) ?_ ?_)
                  · exact ⟨rd0, rd1, rd2, rd3, rd4, rd5, rd6⟩
                  rotate_left 1
                  · (try simp only [Act.put, List.getElem_toArray, List.getElem_cons_succ, List.getElem_cons_zero, List.setIfInBounds_toArray, List.set_cons_zero, List.set_cons_succ])
                    try rfl
                  clear hK1 K1
                  as_aux_lemma =>
                    refine sched_take' (v := ?_) (a' := ?_) rfl (by kernel_rfl) ?_ rfl ?_ ?_
                    rotate_left 2
                    · intro w hSw
                      (try dsimp only at hSw)
                      go_simp
                      try with_reducible rfl
                    · (try simp only [Act.put, List.setIfInBounds_toArray, List.set_cons_zero, List.set_cons_succ])
                      try rfl
                    refine sched_skip' (a' := ?_) rfl (by kernel_rfl) rfl ?_ ?_
                    rotate_left 1
                    · (try simp only [Act.put, List.setIfInBounds_toArray, List.set_cons_zero, List.set_cons_succ])
                      try rfl
                    refine sched_skip' (a' := ?_) rfl (by kernel_rfl) rfl ?_ ?_
                    rotate_left 1
                    · (try simp only [Act.put, List.setIfInBounds_toArray, List.set_cons_zero, List.set_cons_succ])
                      try rfl
                    refine sched_skip' (a' := ?_) rfl (by kernel_rfl) rfl ?_ ?_
                    rotate_left 1
                    · (try simp only [Act.put, List.setIfInBounds_toArray, List.set_cons_zero, List.set_cons_succ])
                      try rfl
                    refine sched_skip' (a' := ?_) rfl (by kernel_rfl) rfl ?_ ?_
                    rotate_left 1
                    · (try simp only [Act.put, List.setIfInBounds_toArray, List.set_cons_zero, List.set_cons_succ])
                      try rfl
                    refine sched_skip' (a' := ?_) rfl (by kernel_rfl) rfl ?_ ?_
                    rotate_left 1
                    · (try simp only [Act.put, List.setIfInBounds_toArray, List.set_cons_zero, List.set_cons_succ])
                      try rfl
                    refine sched_skip' (a' := ?_) rfl (by kernel_rfl) rfl ?_ ?_
                    rotate_left 1
                    · (try simp only [Act.put, List.setIfInBounds_toArray, List.set_cons_zero, List.set_cons_succ])
                      try rfl
                    refine sched_skip' (a' := ?_) rfl (by kernel_rfl) rfl ?_ ?_
                    rotate_left 1
                    · (try simp only [Act.put, List.setIfInBounds_toArray, List.set_cons_zero, List.set_cons_succ])
                      try rfl
                    refine sched_skipC' (a' := ?_) rfl (by kernel_rfl) ?_ rfl ?_ ?_
                    rotate_left 1
                    · exact ⟨rd0, rd1, rd2, rd3, rd4, rd5, rd6⟩
                    · (try simp only [Act.put, List.setIfInBounds_toArray, List.set_cons_zero, List.set_cons_succ])
                      try rfl
                    refine sched_take' (v := ?_) (a' := ?_) rfl (by kernel_rfl) ?_ rfl ?_ ?_
                    rotate_left 2
                    · intro w hSw
                      (try dsimp only at hSw)
                      go_simp
                      try with_reducible rfl
                    · (try simp only [Act.put, List.setIfInBounds_toArray, List.set_cons_zero, List.set_cons_succ])
                      try rfl
                    refine sched_take' (v := ?_) (a' := ?_) rfl (by kernel_rfl) ?_ rfl ?_ ?_
                    rotate_left 2
                    · intro w hSw
                      (try dsimp only at hSw)
                      go_simp
                      try with_reducible rfl
                    · (try simp only [Act.put, List.setIfInBounds_toArray, List.set_cons_zero, List.set_cons_succ])
                      try rfl
                    refine sched_take' (v := ?_) (a' := ?_) rfl (by kernel_rfl) ?_ rfl ?_ ?_
                    rotate_left 2
                    · intro w hSw
                      (try dsimp only at hSw)
                      go_simp
                      try with_reducible rfl
                    · (try simp only [Act.put, List.setIfInBounds_toArray, List.set_cons_zero, List.set_cons_succ])
                      try rfl
                    refine sched_take' (v := ?_) (a' := ?_) rfl (by kernel_rfl) ?_ rfl ?_ ?_
                    rotate_left 2
                    · intro w hSw
                      (try dsimp only at hSw)
                      go_simp
                      try with_reducible rfl
                    · (try simp only [Act.put, List.setIfInBounds_toArray, List.set_cons_zero, List.set_cons_succ])
                      try rfl
                    refine sched_take' (v := .agg #[.int .i64 (a.n : Int), .string (bs a.set), .string (bs a.rel)]) (a' := ?_) rfl (by kernel_rfl) ?_ rfl ?_ ?_
                    rotate_left 1
                    · intro w hSw
                      (try dsimp only at hSw)
                      go_simp
                      first | done | (obtain ⟨u0, u1, u2, u3, u4, u5, u6⟩ := hSw; simp [*])
                    · (try simp only [Act.put, List.setIfInBounds_toArray, List.set_cons_zero, List.set_cons_succ])
                      try rfl
                    refine sched_take' (v := ?_) (a' := ?_) rfl (by kernel_rfl) ?_ rfl ?_ ?_
                    rotate_left 2
                    · intro w hSw
                      (try dsimp only at hSw)
                      go_simp
                      try with_reducible rfl
                    · (try simp only [Act.put, List.setIfInBounds_toArray, List.set_cons_zero, List.set_cons_succ])
                      try rfl
                    refine sched_take' (v := .string (⟨#[65, 98]⟩ ++ t)) (a' := ?_) rfl (by kernel_rfl) ?_ rfl ?_ ?_
                    rotate_left 1
                    · intro w hSw
                      (try dsimp only at hSw)
                      go_simp
                      first | done | omega
                    · (try simp only [Act.put, List.setIfInBounds_toArray, List.set_cons_zero, List.set_cons_succ])
                      try rfl
                    refine sched_take' (v := ?_) (a' := ?_) rfl (by kernel_rfl) ?_ rfl ?_ ?_
                    rotate_left 2
                    · intro w hSw
                      (try dsimp only at hSw)
                      go_simp
                      try with_reducible rfl
                    · (try simp only [Act.put, List.setIfInBounds_toArray, List.set_cons_zero, List.set_cons_succ])
                      try rfl
                    refine sched_take' (v := ?_) (a' := ?_) rfl (by kernel_rfl) ?_ rfl ?_ ?_
                    rotate_left 2
                    · intro w hSw
                      (try dsimp only at hSw)
                      go_simp
                      try with_reducible rfl
                    · (try simp only [Act.put, List.setIfInBounds_toArray, List.set_cons_zero, List.set_cons_succ])
                      try rfl
                    refine sched_take' (v := ?_) (a' := ?_) rfl (by kernel_rfl) ?_ rfl ?_ ?_
                    rotate_left 2
                    · intro w hSw
                      (try dsimp only at hSw)
                      go_simp
                      try with_reducible rfl
                    · (try simp only [Act.put, List.setIfInBounds_toArray, List.set_cons_zero, List.set_cons_succ])
                      try rfl
                    refine sched_take' (v := .int .i64 (a.n : Int)) (a' := ?_) rfl (by kernel_rfl) ?_ rfl ?_ ?_
                    rotate_left 1
                    · intro w hSw
                      (try dsimp only at hSw)
                      go_simp
                      first | done | (obtain ⟨u0, u1, u2, u3, u4, u5, u6⟩ := hSw; simp [*])
                    · (try simp only [Act.put, List.setIfInBounds_toArray, List.set_cons_zero, List.set_cons_succ])
                      try rfl
                    refine sched_take' (v := ?_) (a' := ?_) rfl (by kernel_rfl) ?_ rfl ?_ ?_
                    rotate_left 2
                    · intro w hSw
                      (try dsimp only at hSw)
                      go_simp
                      try with_reducible rfl
                    · (try simp only [Act.put, List.setIfInBounds_toArray, List.set_cons_zero, List.set_cons_succ])
                      try rfl
                    refine sched_call rfl (by kernel_rfl) (fun K1 hK1 => ?_)
                    go_simp
                    refine (KK4.out _ L13.out).mono ?_
                    rintro e w14 ⟨rfl, hz⟩
                    have B14 := Lib.hid (B13.out.trans (hz.mono B13.out.size))
                    have X14 := Lib.hid (X13.out.call hz)
                    have L14 := Lib.hid (L13.out.call hz)
                    clear hz
                    obtain ⟨rf0, rf1, rf2⟩ := box_load X14.out
                    obtain ⟨rf3, rf4, rf5, rf6⟩ := four_cells L14.out
                    go_wp2_with fail
                    refine hK1.out _ _ ?_ (sched_lay (a' := ?_) ?_ ?_)
                    · exact ⟨rf0, rf1, rf2, rf3, rf4, rf5, rf6⟩
                    rotate_left 1
                    · (try simp only [Act.put, List.getElem_toArray, List.getElem_cons_succ, List.getElem_cons_zero, List.setIfInBounds_toArray, List.set_cons_zero, List.set_cons_succ])
                      try rfl
                    clear hK1 K1
                    as_aux_lemma =>
                      refine sched_take' (v := ?_) (a' := ?_) rfl (by kernel_rfl) ?_ rfl ?_ ?_
                      rotate_left 2
                      · intro w hSw
                        (try dsimp only at hSw)
                        go_simp
                        try with_reducible rfl
                      · (try simp only [Act.put, List.setIfInBounds_toArray, List.set_cons_zero, List.set_cons_succ])
                        try rfl
                      refine sched_take' (v := ?_) (a' := ?_) rfl (by kernel_rfl) ?_ rfl ?_ ?_
                      rotate_left 2
                      · intro w hSw
                        (try dsimp only at hSw)
                        go_simp
                        try with_reducible rfl
                      · (try simp only [Act.put, List.setIfInBounds_toArray, List.set_cons_zero, List.set_cons_succ])
                        try rfl
                      refine sched_take' (v := ?_) (a' := ?_) rfl (by kernel_rfl) ?_ rfl ?_ ?_
                      rotate_left 2
                      · intro w hSw
                        (try dsimp only at hSw)
                        go_simp
                        try with_reducible rfl
                      · (try simp only [Act.put, List.setIfInBounds_toArray, List.set_cons_zero, List.set_cons_succ])
                        try rfl
                      refine sched_take' (v := .agg #[.int .i64 (a.n : Int), .string (bs a.set), .string (bs a.rel)]) (a' := ?_) rfl (by kernel_rfl) ?_ rfl ?_ ?_
                      rotate_left 1
                      · intro w hSw
                        (try dsimp only at hSw)
                        go_simp
                        first | done | (obtain ⟨u0, u1, u2, u3, u4, u5, u6⟩ := hSw; simp [*])
                      · (try simp only [Act.put, List.setIfInBounds_toArray, List.set_cons_zero, List.set_cons_succ])
                        try rfl
                      refine sched_take' (v := ?_) (a' := ?_) rfl (by kernel_rfl) ?_ rfl ?_ ?_
                      rotate_left 2
                      · intro w hSw
                        (try dsimp only at hSw)
                        go_simp
                        try with_reducible rfl
                      · (try simp only [Act.put, List.setIfInBounds_toArray, List.set_cons_zero, List.set_cons_succ])
                        try rfl
                      refine sched_take' (v := .string (⟨#[83, 98]⟩ ++ t)) (a' := ?_) rfl (by kernel_rfl) ?_ rfl ?_ ?_
                      rotate_left 1
                      · intro w hSw
                        (try dsimp only at hSw)
                        go_simp
                        first | done | omega
                      · (try simp only [Act.put, List.setIfInBounds_toArray, List.set_cons_zero, List.set_cons_succ])
                        try rfl
                      refine sched_take' (v := ?_) (a' := ?_) rfl (by kernel_rfl) ?_ rfl ?_ ?_
                      rotate_left 2
                      · intro w hSw
                        (try dsimp only at hSw)
                        go_simp
                        try with_reducible rfl
                      · (try simp only [Act.put, List.setIfInBounds_toArray, List.set_cons_zero, List.set_cons_succ])
                        try rfl
                      refine sched_take' (v := ?_) (a' := ?_) rfl (by kernel_rfl) ?_ rfl ?_ ?_
                      rotate_left 2
                      · intro w hSw
                        (try dsimp only at hSw)
                        go_simp
                        try with_reducible rfl
                      · (try simp only [Act.put, List.setIfInBounds_toArray, List.set_cons_zero, List.set_cons_succ])
                        try rfl
                      refine sched_take' (v := ?_) (a' := ?_) rfl (by kernel_rfl) ?_ rfl ?_ ?_
                      rotate_left 2
                      · intro w hSw
                        (try dsimp only at hSw)
                        go_simp
                        try with_reducible rfl
                      · (try simp only [Act.put, List.setIfInBounds_toArray, List.set_cons_zero, List.set_cons_succ])
                        try rfl
                      refine sched_call rfl (by kernel_rfl) (fun K1 hK1 => ?_)
                      go_simp
                      refine (KK5.out _ L14.out).mono ?_
                      rintro e w15 ⟨rfl, hz⟩
                      have B15 := Lib.hid (B14.out.trans (hz.mono B14.out.size))
                      have X15 := Lib.hid (X14.out.call hz)
                      have L15 := Lib.hid (L14.out.call hz)
                      clear hz
                      obtain ⟨rg0, rg1, rg2⟩ := box_load X15.out
                      obtain ⟨rg3, rg4, rg5, rg6⟩ := four_cells L15.out
                      go_wp2_with fail
                      refine hK1.out _ _ ?_ (sched_lay (a' := ?_) ?_ ?_)
                      · exact ⟨rg0, rg1, rg2, rg3, rg4, rg5, rg6⟩
                      rotate_left 1
                      · (try simp only [Act.put, List.getElem_toArray, List.getElem_cons_succ, List.getElem_cons_zero, List.setIfInBounds_toArray, List.set_cons_zero, List.set_cons_succ])
                        try rfl
                      clear hK1 K1
                      as_aux_lemma =>
                        refine sched_take' (v := ?_) (a' := ?_) rfl (by kernel_rfl) ?_ rfl ?_ ?_
                        rotate_left 2
                        · intro w hSw
                          (try dsimp only at hSw)
                          go_simp
                          try with_reducible rfl
                        · (try simp only [Act.put, List.setIfInBounds_toArray, List.set_cons_zero, List.set_cons_succ])
                          try rfl
                        refine sched_take' (v := ?_) (a' := ?_) rfl (by kernel_rfl) ?_ rfl ?_ ?_
                        rotate_left 2
                        · intro w hSw
                          (try dsimp only at hSw)
                          go_simp
                          try with_reducible rfl
                        · (try simp only [Act.put, List.setIfInBounds_toArray, List.set_cons_zero, List.set_cons_succ])
                          try rfl
                        refine sched_take' (v := ?_) (a' := ?_) rfl (by kernel_rfl) ?_ rfl ?_ ?_
                        rotate_left 2
                        · intro w hSw
                          (try dsimp only at hSw)
                          go_simp
                          try with_reducible rfl
                        · (try simp only [Act.put, List.setIfInBounds_toArray, List.set_cons_zero, List.set_cons_succ])
                          try rfl
                        refine sched_take' (v := .agg #[.int .i64 (a.n : Int), .string (bs a.set), .string (bs a.rel)]) (a' := ?_) rfl (by kernel_rfl) ?_ rfl ?_ ?_
                        rotate_left 1
                        · intro w hSw
                          (try dsimp only at hSw)
                          go_simp
                          first | done | (obtain ⟨u0, u1, u2, u3, u4, u5, u6⟩ := hSw; simp [*])
                        · (try simp only [Act.put, List.setIfInBounds_toArray, List.set_cons_zero, List.set_cons_succ])
                          try rfl
                        refine sched_take' (v := ?_) (a' := ?_) rfl (by kernel_rfl) ?_ rfl ?_ ?_
                        rotate_left 2
                        · intro w hSw
                          (try dsimp only at hSw)
                          go_simp
                          try with_reducible rfl
                        · (try simp only [Act.put, List.setIfInBounds_toArray, List.set_cons_zero, List.set_cons_succ])
                          try rfl
                        refine sched_take' (v := .string (⟨#[50, 98]⟩ ++ t)) (a' := ?_) rfl (by kernel_rfl) ?_ rfl ?_ ?_
                        rotate_left 1
                        · intro w hSw
                          (try dsimp only at hSw)
                          go_simp
                          first | done | omega
                        · (try simp only [Act.put, List.setIfInBounds_toArray, List.set_cons_zero, List.set_cons_succ])
                          try rfl
                        refine sched_take' (v := ?_) (a' := ?_) rfl (by kernel_rfl) ?_ rfl ?_ ?_
                        rotate_left 2
                        · intro w hSw
                          (try dsimp only at hSw)
                          go_simp
                          try with_reducible rfl
                        · (try simp only [Act.put, List.setIfInBounds_toArray, List.set_cons_zero, List.set_cons_succ])
                          try rfl
                        refine sched_take' (v := ?_) (a' := ?_) rfl (by kernel_rfl) ?_ rfl ?_ ?_
                        rotate_left 2
                        · intro w hSw
                          (try dsimp only at hSw)
                          go_simp
                          try with_reducible rfl
                        · (try simp only [Act.put, List.setIfInBounds_toArray, List.set_cons_zero, List.set_cons_succ])
                          try rfl
                        refine sched_take' (v := ?_) (a' := ?_) rfl (by kernel_rfl) ?_ rfl ?_ ?_
                        rotate_left 2
                        · intro w hSw
                          (try dsimp only at hSw)
                          go_simp
                          try with_reducible rfl
                        · (try simp only [Act.put, List.setIfInBounds_toArray, List.set_cons_zero, List.set_cons_succ])
                          try rfl
                        refine sched_call rfl (by kernel_rfl) (fun K1 hK1 => ?_)
                        go_simp
                        refine (KK6.out _ L15.out).mono ?_
                        rintro e w16 ⟨rfl, hz⟩
                        have B16 := Lib.hid (B15.out.trans (hz.mono B15.out.size))
                        have X16 := Lib.hid (X15.out.call hz)
                        have L16 := Lib.hid (L15.out.call hz)
                        clear hz
                        obtain ⟨rh0, rh1, rh2⟩ := box_load X16.out
                        obtain ⟨rh3, rh4, rh5, rh6⟩ := four_cells L16.out
                        go_wp2_with fail
                        refine hK1.out _ _ ?_ (sched_lay (a' := ?_) ?_ ?_)
                        · exact ⟨rh0, rh1, rh2, rh3, rh4, rh5, rh6⟩
                        rotate_left 1
                        · (try simp only [Act.put, List.getElem_toArray, List.getElem_cons_succ, List.getElem_cons_zero, List.setIfInBounds_toArray, List.set_cons_zero, List.set_cons_succ])
                          try rfl
                        clear hK1 K1
                        as_aux_lemma =>
                          refine sched_take' (v := ?_) (a' := ?_) rfl (by kernel_rfl) ?_ rfl ?_ ?_
                          rotate_left 2
                          · intro w hSw
                            (try dsimp only at hSw)
                            go_simp
                            try with_reducible rfl
                          · (try simp only [Act.put, List.setIfInBounds_toArray, List.set_cons_zero, List.set_cons_succ])
                            try rfl
                          refine sched_take' (v := ?_) (a' := ?_) rfl (by kernel_rfl) ?_ rfl ?_ ?_
                          rotate_left 2
                          · intro w hSw
                            (try dsimp only at hSw)
                            go_simp
                            try with_reducible rfl
                          · (try simp only [Act.put, List.setIfInBounds_toArray, List.set_cons_zero, List.set_cons_succ])
                            try rfl
                          refine sched_take' (v := ?_) (a' := ?_) rfl (by kernel_rfl) ?_ rfl ?_ ?_
                          rotate_left 2
                          · intro w hSw
                            (try dsimp only at hSw)
                            go_simp
                            try with_reducible rfl
                          · (try simp only [Act.put, List.setIfInBounds_toArray, List.set_cons_zero, List.set_cons_succ])
                            try rfl
                          refine sched_take' (v := .agg #[.int .i64 (a.n : Int), .string (bs a.set), .string (bs a.rel)]) (a' := ?_) rfl (by kernel_rfl) ?_ rfl ?_ ?_
                          rotate_left 1
                          · intro w hSw
                            (try dsimp only at hSw)
                            go_simp
                            first | done | (obtain ⟨u0, u1, u2, u3, u4, u5, u6⟩ := hSw; simp [*])
                          · (try simp only [Act.put, List.setIfInBounds_toArray, List.set_cons_zero, List.set_cons_succ])
                            try rfl
                          refine sched_take' (v := ?_) (a' := ?_) rfl (by kernel_rfl) ?_ rfl ?_ ?_
                          rotate_left 2
                          · intro w hSw
                            (try dsimp only at hSw)
                            go_simp
                            try with_reducible rfl
                          · (try simp only [Act.put, List.setIfInBounds_toArray, List.set_cons_zero, List.set_cons_succ])
                            try rfl
                          refine sched_take' (v := .string (⟨#[51, 98]⟩ ++ t)) (a' := ?_) rfl (by kernel_rfl) ?_ rfl ?_ ?_
                          rotate_left 1
                          · intro w hSw
                            (try dsimp only at hSw)
                            go_simp
                            first | done | omega
                          · (try simp only [Act.put, List.setIfInBounds_toArray, List.set_cons_zero, List.set_cons_succ])
                            try rfl
                          refine sched_take' (v := ?_) (a' := ?_) rfl (by kernel_rfl) ?_ rfl ?_ ?_
                          rotate_left 2
                          · intro w hSw
                            (try dsimp only at hSw)
                            go_simp
                            try with_reducible rfl
                          · (try simp only [Act.put, List.setIfInBounds_toArray, List.set_cons_zero, List.set_cons_succ])
                            try rfl
                          refine sched_take' (v := ?_) (a' := ?_) rfl (by kernel_rfl) ?_ rfl ?_ ?_
                          rotate_left 2
                          · intro w hSw
                            (try dsimp only at hSw)
                            go_simp
                            try with_reducible rfl
                          · (try simp only [Act.put, List.setIfInBounds_toArray, List.set_cons_zero, List.set_cons_succ])
                            try rfl
                          refine sched_take' (v := ?_) (a' := ?_) rfl (by kernel_rfl) ?_ rfl ?_ ?_
                          rotate_left 2
                          · intro w hSw
                            (try dsimp only at hSw)
                            go_simp
                            try with_reducible rfl
                          · (try simp only [Act.put, List.setIfInBounds_toArray, List.set_cons_zero, List.set_cons_succ])
                            try rfl
                          refine sched_call rfl (by kernel_rfl) (fun K1 hK1 => ?_)
                          go_simp
                          refine (KK7.out _ L16.out).mono ?_
                          rintro e w17 ⟨rfl, hz⟩
                          have B17 := Lib.hid (B16.out.trans (hz.mono B16.out.size))
                          have X17 := Lib.hid (X16.out.call hz)
                          have L17 := Lib.hid (L16.out.call hz)
                          clear hz
                          obtain ⟨ri0, ri1, ri2⟩ := box_load X17.out
                          obtain ⟨ri3, ri4, ri5, ri6⟩ := four_cells L17.out
                          go_wp2_with fail
                          refine hK1.out _ _ ?_ (sched_lay (a' := ?_) ?_ ?_)
                          · exact ⟨ri0, ri1, ri2, ri3, ri4, ri5, ri6⟩
                          rotate_left 1
                          · (try simp only [Act.put, List.getElem_toArray, List.getElem_cons_succ, List.getElem_cons_zero, List.setIfInBounds_toArray, List.set_cons_zero, List.set_cons_succ])
                            try rfl
                          clear hK1 K1
                          as_aux_lemma =>
                            refine sched_take' (v := ?_) (a' := ?_) rfl (by kernel_rfl) ?_ rfl ?_ ?_
                            rotate_left 2
                            · intro w hSw
                              (try dsimp only at hSw)
                              go_simp
                              try with_reducible rfl
                            · (try simp only [Act.put, List.setIfInBounds_toArray, List.set_cons_zero, List.set_cons_succ])
                              try rfl
                            refine sched_take' (v := ?_) (a' := ?_) rfl (by kernel_rfl) ?_ rfl ?_ ?_
                            rotate_left 2
                            · intro w hSw
                              (try dsimp only at hSw)
                              go_simp
                              try with_reducible rfl
                            · (try simp only [Act.put, List.setIfInBounds_toArray, List.set_cons_zero, List.set_cons_succ])
                              try rfl
                            refine sched_take' (v := ?_) (a' := ?_) rfl (by kernel_rfl) ?_ rfl ?_ ?_
                            rotate_left 2
                            · intro w hSw
                              (try dsimp only at hSw)
                              go_simp
                              try with_reducible rfl
                            · (try simp only [Act.put, List.setIfInBounds_toArray, List.set_cons_zero, List.set_cons_succ])
                              try rfl
                            refine sched_take' (v := .agg #[.int .i64 (a.n : Int), .string (bs a.set), .string (bs a.rel)]) (a' := ?_) rfl (by kernel_rfl) ?_ rfl ?_ ?_
                            rotate_left 1
                            · intro w hSw
                              (try dsimp only at hSw)
                              go_simp
                              first | done | (obtain ⟨u0, u1, u2, u3, u4, u5, u6⟩ := hSw; simp [*])
                            · (try simp only [Act.put, List.setIfInBounds_toArray, List.set_cons_zero, List.set_cons_succ])
                              try rfl
                            refine sched_take' (v := ?_) (a' := ?_) rfl (by kernel_rfl) ?_ rfl ?_ ?_
                            rotate_left 2
                            · intro w hSw
                              (try dsimp only at hSw)
                              go_simp
                              try with_reducible rfl
                            · (try simp only [Act.put, List.setIfInBounds_toArray, List.set_cons_zero, List.set_cons_succ])
                              try rfl
                            refine sched_take' (v := .string (⟨#[52, 98]⟩ ++ t)) (a' := ?_) rfl (by kernel_rfl) ?_ rfl ?_ ?_
                            rotate_left 1
                            · intro w hSw
                              (try dsimp only at hSw)
                              go_simp
                              first | done | omega
                            · (try simp only [Act.put, List.setIfInBounds_toArray, List.set_cons_zero, List.set_cons_succ])
                              try rfl
                            refine sched_take' (v := ?_) (a' := ?_) rfl (by kernel_rfl) ?_ rfl ?_ ?_
                            rotate_left 2
                            · intro w hSw
                              (try dsimp only at hSw)
                              go_simp
                              try with_reducible rfl
                            · (try simp only [Act.put, List.setIfInBounds_toArray, List.set_cons_zero, List.set_cons_succ])
                              try rfl
                            refine sched_take' (v := ?_) (a' := ?_) rfl (by kernel_rfl) ?_ rfl ?_ ?_
                            rotate_left 2
                            · intro w hSw
                              (try dsimp only at hSw)
                              go_simp
                              try with_reducible rfl
                            · (try simp only [Act.put, List.setIfInBounds_toArray, List.set_cons_zero, List.set_cons_succ])
                              try rfl
                            refine sched_take' (v := ?_) (a' := ?_) rfl (by kernel_rfl) ?_ rfl ?_ ?_
                            rotate_left 2
                            · intro w hSw
                              (try dsimp only at hSw)
                              go_simp
                              try with_reducible rfl
                            · (try simp only [Act.put, List.setIfInBounds_toArray, List.set_cons_zero, List.set_cons_succ])
                              try rfl
                            refine sched_call rfl (by kernel_rfl) (fun K1 hK1 => ?_)
                            go_simp
                            refine (KK8.out _ L17.out).mono ?_
                            rintro e w18 ⟨rfl, hz⟩
                            have B18 := Lib.hid (B17.out.trans (hz.mono B17.out.size))
                            have X18 := Lib.hid (X17.out.call hz)
                            have L18 := Lib.hid (L17.out.call hz)
                            clear hz
                            obtain ⟨rj0, rj1, rj2⟩ := box_load X18.out
                            obtain ⟨rj3, rj4, rj5, rj6⟩ := four_cells L18.out
                            go_wp2_with fail
                            refine hK1.out _ _ ?_ (sched_lay (a' := ?_) ?_ ?_)
                            · exact ⟨rj0, rj1, rj2, rj3, rj4, rj5, rj6⟩
                            rotate_left 1
                            · (try simp only [Act.put, List.getElem_toArray, List.getElem_cons_succ, List.getElem_cons_zero, List.setIfInBounds_toArray, List.set_cons_zero, List.set_cons_succ])
                              try rfl
                            clear hK1 K1
                            as_aux_lemma =>
                              refine sched_take' (v := ?_) (a' := ?_) rfl (by kernel_rfl) ?_ rfl ?_ ?_
                              rotate_left 2
                              · intro w hSw
                                (try dsimp only at hSw)
                                go_simp
                                try with_reducible rfl
                              · (try simp only [Act.put, List.setIfInBounds_toArray, List.set_cons_zero, List.set_cons_succ])
                                try rfl
                              refine sched_take' (v := ?_) (a' := ?_) rfl (by kernel_rfl) ?_ rfl ?_ ?_
                              rotate_left 2
                              · intro w hSw
                                (try dsimp only at hSw)
                                go_simp
                                try with_reducible rfl
                              · (try simp only [Act.put, List.setIfInBounds_toArray, List.set_cons_zero, List.set_cons_succ])
                                try rfl
                              refine sched_take' (v := ?_) (a' := ?_) rfl (by kernel_rfl) ?_ rfl ?_ ?_
                              rotate_left 2
                              · intro w hSw
                                (try dsimp only at hSw)
                                go_simp
                                try with_reducible rfl
                              · (try simp only [Act.put, List.setIfInBounds_toArray, List.set_cons_zero, List.set_cons_succ])
                                try rfl
                              refine sched_done (hQ1.out _ _ ?_)
                              go_wp2_with fail
                              go_ret
                              exact ⟨rfl, B18.out⟩

end Go.Proofs.YtjdnjhoddlalaaaDoor
