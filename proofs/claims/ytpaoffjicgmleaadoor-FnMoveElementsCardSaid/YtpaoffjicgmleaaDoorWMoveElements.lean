/-
  The walk of FnMoveElements. Condition: texts below the reach.
-/
import Derived.Test.YtpaoffjicgmleaaDoorDraw11
import Derived.Test.YtpaoffjicgmleaaDoorLawAny2
import Derived.Test.YtpaoffjicgmleaaDoorSym
namespace Go.Proofs.YtpaoffjicgmleaaDoor
open Go.RowKit
open Pl
set_option linter.unusedSimpArgs false
set_option linter.unusedVariables false

attribute [local go_sem ↓] Go.wp_at_zero Go.wp_at_succ

theorem sym_stm (a : St) (ha : a.ok) (W : World) : Calls Tryd.prog 21 #[stA a] W fun e w' => e = .returned (.int .i64 (((isos a a).length : Nat) : Int)) ∧ Below W.heap.size W w' := by
  have h := CountSymmetries_impl (a.n : Int) (bs a.set) (bs a.rel) W (st_100' ha).1 (st_100' ha).2
  have e : symV (a.n : Int) (bs a.set) (bs a.rel) = (((isos a a).length : Nat) : Int) := by unfold symV; rw [okB_true ha, ofSt_eq]; rfl
  rwa [e] at h
theorem row_natm {w : World} {A : Option Addr} {l : List Nat} (h : LRow w A (natsI l)) {k : Nat} (hk : k < l.length) : ∃ g, A = some ⟨g, 0, none⟩ ∧ w.cell? ⟨g, k, none⟩ = some (.int .i64 ((app l k : Nat) : Int)) := by
  obtain ⟨g, rfl, hc⟩ := h (by rw [natsI_len]; omega)
  refine ⟨g, rfl, ?_⟩
  rw [hc k (by rw [natsI_len]; exact hk)]
  simp [natsI, app, List.getD, hk]
theorem gl_eqm {g g' : Nat} (h : (some (⟨g, 0, none⟩ : Addr)) = some ⟨g', 0, none⟩) : g = g' := by
  injection h with h
  injection h
theorem back_all {xs : List Value} {l : List Nat} {n : Nat} (hp : IsPerm n l) (hx : xs.length = n) (h : ∀ j, j < n → xs[app l j]? = some (.int .i64 (j : Nat))) : xs = intsV (natsI (inv l)) := by
  apply List.ext_getElem?
  intro y
  by_cases hy : y < n
  · obtain ⟨h1, h2⟩ := app_inv hp hy
    have h3 := h _ h1
    rw [h2] at h3
    rw [h3]
    have hl : y < (inv l).length := by rw [len_inv, hp.len]; exact hy
    simp [intsV, natsI, hl, app, List.getD]
  · rw [List.getElem?_eq_none (by omega), List.getElem?_eq_none (by rw [intsV_len, natsI_len, len_inv, hp.len]; omega)]


set_option maxHeartbeats 4000000 in
set_option maxRecDepth 100000 in
theorem FnMoveElements_walk (A : Option Addr) (n cap : Nat) (w : World) (h : ByRow w A n) (hc : n ≤ cap) (hm : cap ≤ maxLen) :
    Calls Tryd.prog 7 #[.slice A n cap] w fun e w' => e = .returned (.bool true) ∧ Below w.heap.size w w' := by
  obtain ⟨i0, hi, hz0, hz1, hz2⟩ := info_parts (P := Tryd.prog) (e := 3) (z := .int .i64 0) (size := 1) (bytes := 8) (by kernel_rfl)
  by_cases hn : n ≤ 1048576
  · have hd := DrawMoveElements_calls A n cap w h hn hc hm
    have HD := Lib.hid hd
    have hni : ¬ (1048576 : Int) < (n : Int) := by omega
    clear hd h hc hm
    go_enter Tryd.func7, Tryd.ntmps7
    go_wp2_with fail
    refine (HD.out).mono ?_
    rintro e w1 ⟨⟨i, s, r, zs, A1, c1, rfl, hs, hr, hzl, hzc, hrow⟩, hz⟩
    have B0 := Lib.hid hz
    clear hz
    rcases hrow with hrow | ⟨hrow, hne⟩
    · have cp0 := fun W hA => MoveElements_impl i s r A1 zs c1 W (by unfold maxLen; omega) (by unfold maxLen; omega) (by omega) hzc hA
      have cq0 := fun W hA => MoveElements_spec i s r A1 zs c1 W (by unfold maxLen; omega) (by unfold maxLen; omega) (by omega) hzc hA
      by_cases hmo : moveO i s r zs = none
      · rw [hmo] at cp0 cq0
        have cp : ∀ W, LRow W A1 zs → Calls Tryd.prog 34 #[stV i s r, .slice A1 zs.length c1] W fun e w' => e = .returned (.tuple #[stV 0 (bs []) (bs []), .bool false]) ∧ Below W.heap.size W w' := cp0
        have cq : ∀ W, LRow W A1 zs → Calls Tryd.prog 35 #[stV i s r, .slice A1 zs.length c1] W fun e w' => e = .returned (.tuple #[stV 0 (bs []) (bs []), .bool false]) ∧ Below W.heap.size W w' := cq0
        have CP := Lib.hid cp
        have CQ := Lib.hid cq
        have LZ0 := Lib.hid hrow
        clear cp cq cp0 cq0 hrow
        have B1 := Lib.hid (B0.out.alloc B0.out.size (.cells #[.int .i64 i, .string s, .string r] 24))
        have Xa1 := Lib.hid (Bx.new w1 24 #[.int .i64 i, .string s, .string r])
        have LZ := Lib.hid (LZ0.out.alloc (.cells #[.int .i64 i, .string s, .string r] 24))
        obtain ⟨a0, a1, a2⟩ := box_load Xa1.out
        go_wp2_with fail
        refine (CP.out _ LZ.out).mono ?_
        clear a0 a1 a2
        rintro e w2 ⟨rfl, hz⟩
        have B2 := Lib.hid (B1.out.trans (hz.mono B1.out.size))
        have Xa2 := Lib.hid (Xa1.out.call hz)
        have Lz2 := Lib.hid (LZ.out.call hz)
        clear hz
        obtain ⟨a0, a1, a2⟩ := box_load Xa2.out
        clear a0 a1 a2
        have B3 := Lib.hid (B2.out.alloc B2.out.size (.cells #[.int .i64 0, .string (bs []), .string (bs [])] 24))
        have Xa3 := Lib.hid (Xa2.out.alloc (.cells #[.int .i64 0, .string (bs []), .string (bs [])] 24))
        have Lz3 := Lib.hid (Lz2.out.alloc (.cells #[.int .i64 0, .string (bs []), .string (bs [])] 24))
        have Xb3 := Lib.hid (Bx.new w2 24 #[.int .i64 0, .string (bs []), .string (bs [])])
        obtain ⟨a0, a1, a2⟩ := box_load Xa3.out
        obtain ⟨b0, b1, b2⟩ := box_load Xb3.out
        go_wp2_with fail
        refine (CQ.out _ Lz3.out).mono ?_
        clear a0 a1 a2 b0 b1 b2
        rintro e w3 ⟨rfl, hz⟩
        have B4 := Lib.hid (B3.out.trans (hz.mono B3.out.size))
        have Xa4 := Lib.hid (Xa3.out.call hz)
        have Xb4 := Lib.hid (Xb3.out.call hz)
        have Lz4 := Lib.hid (Lz3.out.call hz)
        clear hz
        obtain ⟨a0, a1, a2⟩ := box_load Xa4.out
        obtain ⟨b0, b1, b2⟩ := box_load Xb4.out
        clear a0 a1 a2 b0 b1 b2
        have B5 := Lib.hid (B4.out.alloc B4.out.size (.cells #[.int .i64 0, .string (bs []), .string (bs [])] 24))
        have Xa5 := Lib.hid (Xa4.out.alloc (.cells #[.int .i64 0, .string (bs []), .string (bs [])] 24))
        have Xb5 := Lib.hid (Xb4.out.alloc (.cells #[.int .i64 0, .string (bs []), .string (bs [])] 24))
        have Lz5 := Lib.hid (Lz4.out.alloc (.cells #[.int .i64 0, .string (bs []), .string (bs [])] 24))
        have XB5 := Lib.hid (Bx.new w3 24 #[.int .i64 0, .string (bs []), .string (bs [])])
        obtain ⟨a0, a1, a2⟩ := box_load Xa5.out
        obtain ⟨b0, b1, b2⟩ := box_load Xb5.out
        obtain ⟨B0, B1, B2⟩ := box_load XB5.out
        go_wp2_with fail
        go_ret
        exact ⟨rfl, B5.out⟩
      · have hl : (zs.length : Int) = i := by
          apply Classical.byContradiction
          intro h
          exact hmo (by unfold moveO; rw [if_neg h])
        have hpo : partB i s r zs = true := by
          cases h : partB i s r zs with
          | true => rfl
          | false => exact absurd (by unfold moveO; rw [if_pos hl, part_no h]) hmo
        have hok : okB i s r = true := by
          unfold partB at hpo
          cases h : okB i s r with
          | true => rfl
          | false => rw [h] at hpo; cases hpo
        rcases ok_cases i s r with h | ⟨a, ha, rfl, rfl, rfl⟩
        · rw [h] at hok; cases hok
        · have hpo2 := hpo
          unfold partB at hpo2
          simp only [Bool.and_eq_true, decide_eq_true_eq] at hpo2
          obtain ⟨_, hpos, hel, hnod⟩ := hpo2
          obtain ⟨ns, rfl, hlt, hnd, hle, _⟩ := nats_of hel hnod
          rw [natsI_len] at hpos hzl hzc hl
          have hperm : IsPerm a.n ns := ⟨by omega, hnd, hlt⟩
          obtain ⟨gl, rfl, _⟩ := hrow (by rw [natsI_len]; exact hpos)
          have LZ0 := Lib.hid hrow
          have hn8 := ha.hi
          have hn1 := ha.lo
          have hbok : (a.part ns).ok := part_ok hpos (by omega)
          have hO := moveO_nats ha hperm
          rw [hO] at cq0
          have cp : ∀ W, LRow W (some ⟨gl, 0, none⟩) (natsI ns) → Calls Tryd.prog 34 #[stA a, .slice (some ⟨gl, 0, none⟩) ns.length c1] W fun e w' => e = .returned (.tuple #[stA (a.part ns), .bool true]) ∧ Below W.heap.size W w' := fun W hA => move_st ha hperm _ c1 hzc W hA
          have cq : ∀ W, LRow W (some ⟨gl, 0, none⟩) (natsI ns) → Calls Tryd.prog 35 #[stA a, .slice (some ⟨gl, 0, none⟩) ns.length c1] W fun e w' => e = .returned (.tuple #[stA (a.part ns), .bool true]) ∧ Below W.heap.size W w' := fun W hA => by
            have h := cq0 W hA
            rw [natsI_len] at h
            exact h
          have hbp : IsPerm (a.part ns).n (inv ns) := by rw [part_n, hperm.len]; exact hperm.inv
          have cb : ∀ (A : Option Addr) (c : Nat), a.n ≤ c → ∀ W, LRow W A (natsI (inv ns)) → Calls Tryd.prog 34 #[stA (a.part ns), .slice A a.n c] W fun e w' => e = .returned (.tuple #[stA a, .bool true]) ∧ Below W.heap.size W w' := fun A c hc W hA => by
            have h := move_st hbok hbp A c (by rw [len_inv, hperm.len]; exact hc) W hA
            rwa [len_inv, hperm.len, part_inv ha hperm] at h
          obtain ⟨K, hK⟩ : ∃ K, shpL a.n (bs a.set) (bs a.rel) (a.part ns).n (bs (a.part ns).set) (bs (a.part ns).rel) = K := ⟨_, rfl⟩
          have hbn : a.n = (a.part ns).n := by rw [part_n, hperm.len]
          have hiso := part_iso hperm
          have hKe : K.isEmpty = false := by
            rw [← hK, shp_st ha hbok hbn]
            cases hq : isos a (a.part ns) with
            | nil => rw [hq] at hiso; cases hiso
            | cons => rfl
          have so := st_small hbok
          have ck : ∀ W, Calls Tryd.prog 36 #[stA a, stA (a.part ns)] W fun e w' => (∃ A cap, e = .returned (.tuple #[.slice A (K.headD []).length cap, .bool true]) ∧ (K.headD []).length ≤ cap ∧ LRow w' A (natsI (K.headD []))) ∧ Below W.heap.size W w' := fun W => by
            have h := shpI_any a.n (bs a.set) (bs a.rel) (a.part ns).n (bs (a.part ns).set) (bs (a.part ns).rel) hs hr (by omega) (by omega) _ hK W
            rwa [hKe] at h
          obtain ⟨N, hN⟩ : ∃ N : Int, N = (((isos a a).length : Nat) : Int) := ⟨_, rfl⟩
          have n1 : ∀ W, Calls Tryd.prog 21 #[stA a] W fun e w' => e = .returned (.int .i64 N) ∧ Below W.heap.size W w' := fun W => by rw [hN]; exact sym_stm a ha W
          have n2 : ∀ W, Calls Tryd.prog 21 #[stA (a.part ns)] W fun e w' => e = .returned (.int .i64 N) ∧ Below W.heap.size W w' := fun W => by rw [hN, isos_count hbn hiso]; exact sym_stm (a.part ns) hbok W
          have hback : ∀ xs : List Value, xs.length = a.n → (∀ j, j < a.n → xs[app ns j]? = some (.int .i64 (j : Nat))) → xs = intsV (natsI (inv ns)) := fun xs h1 h2 => back_all hperm h1 h2
          have hlt2 : ∀ k, k < a.n → app ns k < a.n := fun k hk => hperm.app_lt hk
          have hinj : ∀ j k, j < a.n → k < a.n → j ≠ k → app ns j ≠ app ns k := fun j k hj hk hne e => hne (hperm.inj hj hk e)
          have hnl : ns.length = a.n := hperm.len
          have kb : (a.part ns).n = a.n := hbn.symm
          unfold stA at cp cq cb ck n1 n2
          rw [kb] at cp cq cb ck n2
          rw [hnl] at cp cq
          clear cp0 cq0 hO hbp hK hKe hbn hiso so hN kb hbok hmo hl hpo hok hel hnod hlt hnd hle hperm hrow
          generalize bs (a.part ns).set = s2 at *
          generalize bs (a.part ns).rel = r2 at *
          generalize bs a.set = s at *
          generalize bs a.rel = r at *
          clear ha
          rw [natsI_len, hnl]
          generalize a.n = m at *
          generalize (K.headD []) = k3 at *
          have CP := Lib.hid cp
          have CQ := Lib.hid cq
          have CB := Lib.hid cb
          have CK := Lib.hid ck
          have N1 := Lib.hid n1
          have N2 := Lib.hid n2
          have HBack := Lib.hid hback
          have HLt := Lib.hid hlt2
          have HInj := Lib.hid hinj
          have HNL := Lib.hid hnl
          clear cp cq cb ck n1 n2 hback hlt2 hinj hnl
          have B1 := Lib.hid (B0.out.alloc B0.out.size (.cells #[.int .i64 (m : Int), .string s, .string r] 24))
          have Xa1 := Lib.hid (Bx.new w1 24 #[.int .i64 (m : Int), .string s, .string r])
          have LZ := Lib.hid (LZ0.out.alloc (.cells #[.int .i64 (m : Int), .string s, .string r] 24))
          obtain ⟨a0, a1, a2⟩ := box_load Xa1.out
          go_wp2_with fail
          refine (CP.out _ LZ.out).mono ?_
          clear a0 a1 a2
          rintro e w2 ⟨rfl, hz⟩
          have B2 := Lib.hid (B1.out.trans (hz.mono B1.out.size))
          have Xa2 := Lib.hid (Xa1.out.call hz)
          have Lz2 := Lib.hid (LZ.out.call hz)
          clear hz
          obtain ⟨a0, a1, a2⟩ := box_load Xa2.out
          clear a0 a1 a2
          have B3 := Lib.hid (B2.out.alloc B2.out.size (.cells #[.int .i64 (m : Int), .string s2, .string r2] 24))
          have Xa3 := Lib.hid (Xa2.out.alloc (.cells #[.int .i64 (m : Int), .string s2, .string r2] 24))
          have Lz3 := Lib.hid (Lz2.out.alloc (.cells #[.int .i64 (m : Int), .string s2, .string r2] 24))
          have Xb3 := Lib.hid (Bx.new w2 24 #[.int .i64 (m : Int), .string s2, .string r2])
          obtain ⟨a0, a1, a2⟩ := box_load Xa3.out
          obtain ⟨b0, b1, b2⟩ := box_load Xb3.out
          go_wp2_with fail
          refine (CQ.out _ Lz3.out).mono ?_
          clear a0 a1 a2 b0 b1 b2
          rintro e w3 ⟨rfl, hz⟩
          have B4 := Lib.hid (B3.out.trans (hz.mono B3.out.size))
          have Xa4 := Lib.hid (Xa3.out.call hz)
          have Xb4 := Lib.hid (Xb3.out.call hz)
          have Lz4 := Lib.hid (Lz3.out.call hz)
          clear hz
          obtain ⟨a0, a1, a2⟩ := box_load Xa4.out
          obtain ⟨b0, b1, b2⟩ := box_load Xb4.out
          clear a0 a1 a2 b0 b1 b2
          have B5 := Lib.hid (B4.out.alloc B4.out.size (.cells #[.int .i64 (m : Int), .string s2, .string r2] 24))
          have Xa5 := Lib.hid (Xa4.out.alloc (.cells #[.int .i64 (m : Int), .string s2, .string r2] 24))
          have Xb5 := Lib.hid (Xb4.out.alloc (.cells #[.int .i64 (m : Int), .string s2, .string r2] 24))
          have Lz5 := Lib.hid (Lz4.out.alloc (.cells #[.int .i64 (m : Int), .string s2, .string r2] 24))
          have XB5 := Lib.hid (Bx.new w3 24 #[.int .i64 (m : Int), .string s2, .string r2])
          obtain ⟨a0, a1, a2⟩ := box_load Xa5.out
          obtain ⟨b0, b1, b2⟩ := box_load Xb5.out
          obtain ⟨B0, B1, B2⟩ := box_load XB5.out
          go_upto_region 8 with (fail)
          clear B0 B1 B2 a0 a1 a2 b0 b1 b2
          generalize ((w3.alloc (.cells #[.int .i64 (m : Int), .string s2, .string r2] 24))) = V at *
          obtain ⟨wv, hrun, hown, hgr⟩ := run_make_full (P := Tryd.prog) V V.heap.size 25 3 i0 (.int .i64 0) 1 Tryd.underlying25 hi hz0 hz1 .i64 .i64 m (by rw [hz2]; omega) (by unfold maxLen; omega) (Nat.le_refl _)
          have hbv : Below V.heap.size V wv := (Below.refl _ _).grown hgr (Nat.le_refl _) (by simp)
          have HV := Lib.hid hown
          have BV := Lib.hid hbv
          clear hown hgr hbv
          go_wp2_with fail
          clear hrun
          go_loopg [10] m (fun c i wr => ∃ (k : Nat) (xs : List Value), k + c = m ∧ i = .int .i64 (k : Nat) ∧ wr.ownsRow V.heap.size 3 1 (.slice (some ⟨V.heap.size, 0, none⟩) m m) m xs ∧ (∀ j, j < k → xs[app ns j]? = some (.int .i64 (j : Nat))) ∧ Below V.heap.size V wr)
          case atStart => exact ⟨0, _, by omega, rfl, HV.out, fun j hj => absurd hj (Nat.not_lt_zero _), BV.out⟩
          case round =>
            obtain ⟨k, xs, hk, rfl, ho, hx, hbr⟩ := hrel
            have Ho := Lib.hid ho
            have Hx := Lib.hid hx
            have Hbr := Lib.hid hbr
            clear ho hx hbr
            by_cases hlt : k < m
            · have hki : (k : Int) < (m : Int) := by omega
              have hki0 : (0 : Int) ≤ (k : Int) := by omega
              have LL := Lib.hid (Lz5.out.call Hbr.out)
              obtain ⟨gl', hgl', d1⟩ := row_natm LL.out (k := k) (by rw [HNL.out]; exact hlt)
              obtain rfl : gl = gl' := gl_eqm hgl'
              have hy := HLt.out k hlt
              have Hinj := Lib.hid (fun j (hj : j < k) => HInj.out j k (by omega) hlt (by omega))
              generalize hyy : app ns k = y at *
              have hyi : (y : Int) < (m : Int) := by omega
              have hyi0 : (0 : Int) ≤ (y : Int) := by omega
              have hxl : y < xs.length := by have := Ho.out.1; omega
              have hco := (Ho.out.cellAt y (by omega)).trans (List.getElem?_eq_getElem hxl)
              have hfo := Ho.out.frozenAt y
              have HY := Lib.hid hyy
              clear hgl' hyy
              go_wp2_with fail
              go_roundg (m - k - 1)
              case rel =>
                obtain ⟨h1, h2⟩ := Ho.out.stored y (.int .i64 (k : Nat))
                refine ⟨k + 1, _, by omega, by go_num, h1, fun j hj => ?_, Hbr.out.grown h2 Hbr.out.size (fun _ e => by cases e; exact Nat.le_refl _)⟩
                by_cases hjk : j = k
                · subst hjk; rw [HY.out, List.getElem?_set_self hxl]
                · have hjk2 : j < k := by omega
                  rw [List.getElem?_set_ne (fun e => Hinj.out j hjk2 e.symm)]; exact Hx.out j hjk2
              case measure => omega
            · have hki : ¬ (k : Int) < (m : Int) := by omega
              obtain rfl : m = k := by omega
              have hxs := HBack.out xs (by have := Ho.out.1; omega) Hx.out
              have ho2 := Ho.out
              rw [hxs] at ho2
              have LB := Lib.hid (LRow_of ho2)
              clear hxs ho2
              have B300 := Lib.hid (B5.out.trans (Hbr.out.mono B5.out.size))
              have Xa300 := Lib.hid (Xa5.out.call Hbr.out)
              have Xb300 := Lib.hid (Xb5.out.call Hbr.out)
              obtain ⟨a0, a1, a2⟩ := box_load Xa300.out
              obtain ⟨b0, b1, b2⟩ := box_load Xb300.out
              go_wp2_with fail
              refine (CB.out _ _ (Nat.le_refl _) _ LB.out).mono ?_
              clear a0 a1 a2 b0 b1 b2
              rintro e w301 ⟨rfl, hz⟩
              have B301 := Lib.hid (B300.out.trans (hz.mono B300.out.size))
              have Xa301 := Lib.hid (Xa300.out.call hz)
              have Xb301 := Lib.hid (Xb300.out.call hz)
              have Lk301 := Lib.hid (LB.out.call hz)
              clear hz
              obtain ⟨a0, a1, a2⟩ := box_load Xa301.out
              obtain ⟨b0, b1, b2⟩ := box_load Xb301.out
              clear a0 a1 a2 b0 b1 b2
              have B302 := Lib.hid (B301.out.alloc B301.out.size (.cells #[.int .i64 (m : Int), .string s, .string r] 24))
              have Xa302 := Lib.hid (Xa301.out.alloc (.cells #[.int .i64 (m : Int), .string s, .string r] 24))
              have Xb302 := Lib.hid (Xb301.out.alloc (.cells #[.int .i64 (m : Int), .string s, .string r] 24))
              have Lk302 := Lib.hid (Lk301.out.alloc (.cells #[.int .i64 (m : Int), .string s, .string r] 24))
              have Xc302 := Lib.hid (Bx.new w301 24 #[.int .i64 (m : Int), .string s, .string r])
              obtain ⟨a0, a1, a2⟩ := box_load Xa302.out
              obtain ⟨b0, b1, b2⟩ := box_load Xb302.out
              obtain ⟨c0, c1, c2⟩ := box_load Xc302.out
              go_wp2_with fail
              refine (CK.out _).mono ?_
              clear a0 a1 a2 b0 b1 b2 c0 c1 c2
              rintro e w302 ⟨⟨A4, cap4, rfl, _, hl⟩, hz⟩
              have B303 := Lib.hid (B302.out.trans (hz.mono B302.out.size))
              have Xa303 := Lib.hid (Xa302.out.call hz)
              have Xb303 := Lib.hid (Xb302.out.call hz)
              have Xc303 := Lib.hid (Xc302.out.call hz)
              have Lk303 := Lib.hid (Lk302.out.call hz)
              clear hl
              clear hz
              obtain ⟨a0, a1, a2⟩ := box_load Xa303.out
              obtain ⟨b0, b1, b2⟩ := box_load Xb303.out
              obtain ⟨c0, c1, c2⟩ := box_load Xc303.out
              go_upto_region 15 with (fail)
              have B400 := Lib.hid B303.out.drew
              have Xa400 := Lib.hid Xa303.out.drew
              have Xb400 := Lib.hid Xb303.out.drew
              have Xc400 := Lib.hid Xc303.out.drew
              clear a0 a1 a2 b0 b1 b2 c0 c1 c2
              obtain ⟨a0, a1, a2⟩ := box_load Xa400.out
              obtain ⟨b0, b1, b2⟩ := box_load Xb400.out
              obtain ⟨c0, c1, c2⟩ := box_load Xc400.out
              refine region_sched [(0, true), (1, true), (2, true), (3, true), (4, true), (5, true), (6, true), (7, true), (8, true), (9, true), (10, true), (12, true), (11, false), (13, false), (14, true), (15, true), (16, true)] (fun w' : World => w'.cell? ⟨w1.heap.size, 0, none⟩ = some (.int .i64 (m : Int)) ∧ w'.cell? ⟨w1.heap.size, 1, none⟩ = some (.string s) ∧ w'.cell? ⟨w1.heap.size, 2, none⟩ = some (.string r) ∧ w'.cell? ⟨w2.heap.size, 0, none⟩ = some (.int .i64 (m : Int)) ∧ w'.cell? ⟨w2.heap.size, 1, none⟩ = some (.string s2) ∧ w'.cell? ⟨w2.heap.size, 2, none⟩ = some (.string r2) ∧ w'.cell? ⟨w301.heap.size, 0, none⟩ = some (.int .i64 (m : Int)) ∧ w'.cell? ⟨w301.heap.size, 1, none⟩ = some (.string s) ∧ w'.cell? ⟨w301.heap.size, 2, none⟩ = some (.string r)) (by kernel_rfl) (by kernel_rfl) (by kernel_rfl) (by kernel_rfl) (fun _ _ _ _ h => h) ?_ (fun Q1 hQ1 => ?_)
              · exact ⟨a0, a1, a2, b0, b1, b2, c0, c1, c2⟩
              try simp only [List.append]
              refine sched_take' (v := ?_) (a' := ?_) rfl (by kernel_rfl) ?_ rfl ?_ ?_
              rotate_left 2
              · intro w hSw
                (try dsimp only at hSw)
                go_simp
                try with_reducible rfl
              · (try simp only [Act.put, List.setIfInBounds_toArray, List.set_cons_zero, List.set_cons_succ])
                try rfl
              refine sched_take' (v := ?_) (a' := ?_) rfl (by kernel_rfl) ?_ rfl ?_ ?_
              rotate_left 2
              · intro w hSw
                (try dsimp only at hSw)
                go_simp
                try with_reducible rfl
              · (try simp only [Act.put, List.setIfInBounds_toArray, List.set_cons_zero, List.set_cons_succ])
                try rfl
              refine sched_take' (v := .agg #[.int .i64 (m : Int), .string s, .string r]) (a' := ?_) rfl (by kernel_rfl) ?_ rfl ?_ ?_
              rotate_left 1
              · intro w hSw
                (try dsimp only at hSw)
                go_simp
                first | done | (obtain ⟨ua0, ua1, ua2, ub0, ub1, ub2, uc0, uc1, uc2⟩ := hSw; simp [*])
              · (try simp only [Act.put, List.setIfInBounds_toArray, List.set_cons_zero, List.set_cons_succ])
                try rfl
              refine sched_take' (v := .agg #[.int .i64 (m : Int), .string s, .string r]) (a' := ?_) rfl (by kernel_rfl) ?_ rfl ?_ ?_
              rotate_left 1
              · intro w hSw
                (try dsimp only at hSw)
                go_simp
                first | done | (obtain ⟨ua0, ua1, ua2, ub0, ub1, ub2, uc0, uc1, uc2⟩ := hSw; simp [*])
              · (try simp only [Act.put, List.setIfInBounds_toArray, List.set_cons_zero, List.set_cons_succ])
                try rfl
              refine sched_take' (v := ?_) (a' := ?_) rfl (by kernel_rfl) ?_ rfl ?_ ?_
              rotate_left 2
              · intro w hSw
                (try dsimp only at hSw)
                go_simp
                try with_reducible rfl
              · (try simp only [Act.put, List.setIfInBounds_toArray, List.set_cons_zero, List.set_cons_succ])
                try rfl
              refine sched_take' (v := ?_) (a' := ?_) rfl (by kernel_rfl) ?_ rfl ?_ ?_
              rotate_left 2
              · intro w hSw
                (try dsimp only at hSw)
                go_simp
                try with_reducible rfl
              · (try simp only [Act.put, List.setIfInBounds_toArray, List.set_cons_zero, List.set_cons_succ])
                try rfl
              refine sched_take' (v := ?_) (a' := ?_) rfl (by kernel_rfl) ?_ rfl ?_ ?_
              rotate_left 2
              · intro w hSw
                (try dsimp only at hSw)
                go_simp
                try with_reducible rfl
              · (try simp only [Act.put, List.setIfInBounds_toArray, List.set_cons_zero, List.set_cons_succ])
                try rfl
              refine sched_take' (v := ?_) (a' := ?_) rfl (by kernel_rfl) ?_ rfl ?_ ?_
              rotate_left 2
              · intro w hSw
                (try dsimp only at hSw)
                go_simp
                try with_reducible rfl
              · (try simp only [Act.put, List.setIfInBounds_toArray, List.set_cons_zero, List.set_cons_succ])
                try rfl
              refine sched_take' (v := ?_) (a' := ?_) rfl (by kernel_rfl) ?_ rfl ?_ ?_
              rotate_left 2
              · intro w hSw
                (try dsimp only at hSw)
                go_simp
                try with_reducible rfl
              · (try simp only [Act.put, List.setIfInBounds_toArray, List.set_cons_zero, List.set_cons_succ])
                try rfl
              refine sched_take' (v := ?_) (a' := ?_) rfl (by kernel_rfl) ?_ rfl ?_ ?_
              rotate_left 2
              · intro w hSw
                (try dsimp only at hSw)
                go_simp
                try with_reducible rfl
              · (try simp only [Act.put, List.setIfInBounds_toArray, List.set_cons_zero, List.set_cons_succ])
                try rfl
              refine sched_take' (v := .agg #[.int .i64 (m : Int), .string s, .string r]) (a' := ?_) rfl (by kernel_rfl) ?_ rfl ?_ ?_
              rotate_left 1
              · intro w hSw
                (try dsimp only at hSw)
                go_simp
                first | done | (obtain ⟨ua0, ua1, ua2, ub0, ub1, ub2, uc0, uc1, uc2⟩ := hSw; simp [*])
              · (try simp only [Act.put, List.setIfInBounds_toArray, List.set_cons_zero, List.set_cons_succ])
                try rfl
              refine sched_take' (v := .agg #[.int .i64 (m : Int), .string s2, .string r2]) (a' := ?_) rfl (by kernel_rfl) ?_ rfl ?_ ?_
              rotate_left 1
              · intro w hSw
                (try dsimp only at hSw)
                go_simp
                first | done | (obtain ⟨ua0, ua1, ua2, ub0, ub1, ub2, uc0, uc1, uc2⟩ := hSw; simp [*])
              · (try simp only [Act.put, List.setIfInBounds_toArray, List.set_cons_zero, List.set_cons_succ])
                try rfl
              refine sched_call rfl (by kernel_rfl) (fun K1 hK1 => ?_)
              go_simp
              refine (N1.out _).mono ?_
              rintro e wg ⟨rfl, hz⟩
              have B401 := Lib.hid (B400.out.trans (hz.mono B400.out.size))
              have Xa401 := Lib.hid (Xa400.out.call hz)
              have Xb401 := Lib.hid (Xb400.out.call hz)
              have Xc401 := Lib.hid (Xc400.out.call hz)
              clear hz
              clear a0 a1 a2 b0 b1 b2 c0 c1 c2
              obtain ⟨a0, a1, a2⟩ := box_load Xa401.out
              obtain ⟨b0, b1, b2⟩ := box_load Xb401.out
              obtain ⟨c0, c1, c2⟩ := box_load Xc401.out
              go_wp2_with fail
              refine hK1.out _ _ ?_ (sched_lay (a' := ?_) ?_ ?_)
              · exact ⟨a0, a1, a2, b0, b1, b2, c0, c1, c2⟩
              rotate_left 1
              · (try simp only [Act.put, List.getElem_toArray, List.getElem_cons_succ, List.getElem_cons_zero, List.setIfInBounds_toArray, List.set_cons_zero, List.set_cons_succ])
                try rfl
              clear hK1 K1
              refine sched_call rfl (by kernel_rfl) (fun K1 hK1 => ?_)
              go_simp
              refine (N2.out _).mono ?_
              rintro e wh ⟨rfl, hz⟩
              have B402 := Lib.hid (B401.out.trans (hz.mono B401.out.size))
              have Xa402 := Lib.hid (Xa401.out.call hz)
              have Xb402 := Lib.hid (Xb401.out.call hz)
              have Xc402 := Lib.hid (Xc401.out.call hz)
              clear hz
              clear a0 a1 a2 b0 b1 b2 c0 c1 c2
              obtain ⟨a0, a1, a2⟩ := box_load Xa402.out
              obtain ⟨b0, b1, b2⟩ := box_load Xb402.out
              obtain ⟨c0, c1, c2⟩ := box_load Xc402.out
              go_wp2_with fail
              refine hK1.out _ _ ?_ (sched_lay (a' := ?_) ?_ ?_)
              · exact ⟨a0, a1, a2, b0, b1, b2, c0, c1, c2⟩
              rotate_left 1
              · (try simp only [Act.put, List.getElem_toArray, List.getElem_cons_succ, List.getElem_cons_zero, List.setIfInBounds_toArray, List.set_cons_zero, List.set_cons_succ])
                try rfl
              clear hK1 K1
              refine sched_take' (v := ?_) (a' := ?_) rfl (by kernel_rfl) ?_ rfl ?_ ?_
              rotate_left 2
              · intro w hSw
                (try dsimp only at hSw)
                go_simp
                try with_reducible rfl
              · (try simp only [Act.put, List.setIfInBounds_toArray, List.set_cons_zero, List.set_cons_succ])
                try rfl
              refine sched_take' (v := ?_) (a' := ?_) rfl (by kernel_rfl) ?_ rfl ?_ ?_
              rotate_left 2
              · intro w hSw
                (try dsimp only at hSw)
                go_simp
                try with_reducible rfl
              · (try simp only [Act.put, List.setIfInBounds_toArray, List.set_cons_zero, List.set_cons_succ])
                try rfl
              refine sched_take' (v := ?_) (a' := ?_) rfl (by kernel_rfl) ?_ rfl ?_ ?_
              rotate_left 2
              · intro w hSw
                (try dsimp only at hSw)
                go_simp
                try with_reducible rfl
              · (try simp only [Act.put, List.setIfInBounds_toArray, List.set_cons_zero, List.set_cons_succ])
                try rfl
              refine sched_done (hQ1.out _ _ ?_)
              go_wp2_with fail
              go_ret
              exact ⟨rfl, B402.out⟩

    · have cp0 : ∀ W, ORow W A1 zs → _ := fun W (hA : ORow W A1 zs) => MoveElements_impl_ne i s r A1 zs.length c1 W hne
      have cq0 := fun W hA => MoveElements_spec_ne i s r A1 zs c1 W (by unfold maxLen; omega) (by unfold maxLen; omega) (by omega) hzc hA hne
      have cp : ∀ W, ORow W A1 zs → Calls Tryd.prog 34 #[stV i s r, .slice A1 zs.length c1] W fun e w' => e = .returned (.tuple #[stV 0 (bs []) (bs []), .bool false]) ∧ Below W.heap.size W w' := cp0
      have cq : ∀ W, ORow W A1 zs → Calls Tryd.prog 35 #[stV i s r, .slice A1 zs.length c1] W fun e w' => e = .returned (.tuple #[stV 0 (bs []) (bs []), .bool false]) ∧ Below W.heap.size W w' := cq0
      have CP := Lib.hid cp
      have CQ := Lib.hid cq
      have LZ0 := Lib.hid hrow
      clear cp cq cp0 cq0 hrow
      have B1 := Lib.hid (B0.out.alloc B0.out.size (.cells #[.int .i64 i, .string s, .string r] 24))
      have Xa1 := Lib.hid (Bx.new w1 24 #[.int .i64 i, .string s, .string r])
      have LZ := Lib.hid (LZ0.out.alloc (.cells #[.int .i64 i, .string s, .string r] 24))
      obtain ⟨a0, a1, a2⟩ := box_load Xa1.out
      go_wp2_with fail
      refine (CP.out _ LZ.out).mono ?_
      clear a0 a1 a2
      rintro e w2 ⟨rfl, hz⟩
      have B2 := Lib.hid (B1.out.trans (hz.mono B1.out.size))
      have Xa2 := Lib.hid (Xa1.out.call hz)
      have Lz2 := Lib.hid (LZ.out.call hz)
      clear hz
      obtain ⟨a0, a1, a2⟩ := box_load Xa2.out
      clear a0 a1 a2
      have B3 := Lib.hid (B2.out.alloc B2.out.size (.cells #[.int .i64 0, .string (bs []), .string (bs [])] 24))
      have Xa3 := Lib.hid (Xa2.out.alloc (.cells #[.int .i64 0, .string (bs []), .string (bs [])] 24))
      have Lz3 := Lib.hid (Lz2.out.alloc (.cells #[.int .i64 0, .string (bs []), .string (bs [])] 24))
      have Xb3 := Lib.hid (Bx.new w2 24 #[.int .i64 0, .string (bs []), .string (bs [])])
      obtain ⟨a0, a1, a2⟩ := box_load Xa3.out
      obtain ⟨b0, b1, b2⟩ := box_load Xb3.out
      go_wp2_with fail
      refine (CQ.out _ Lz3.out).mono ?_
      clear a0 a1 a2 b0 b1 b2
      rintro e w3 ⟨rfl, hz⟩
      have B4 := Lib.hid (B3.out.trans (hz.mono B3.out.size))
      have Xa4 := Lib.hid (Xa3.out.call hz)
      have Xb4 := Lib.hid (Xb3.out.call hz)
      have Lz4 := Lib.hid (Lz3.out.call hz)
      clear hz
      obtain ⟨a0, a1, a2⟩ := box_load Xa4.out
      obtain ⟨b0, b1, b2⟩ := box_load Xb4.out
      clear a0 a1 a2 b0 b1 b2
      have B5 := Lib.hid (B4.out.alloc B4.out.size (.cells #[.int .i64 0, .string (bs []), .string (bs [])] 24))
      have Xa5 := Lib.hid (Xa4.out.alloc (.cells #[.int .i64 0, .string (bs []), .string (bs [])] 24))
      have Xb5 := Lib.hid (Xb4.out.alloc (.cells #[.int .i64 0, .string (bs []), .string (bs [])] 24))
      have Lz5 := Lib.hid (Lz4.out.alloc (.cells #[.int .i64 0, .string (bs []), .string (bs [])] 24))
      have XB5 := Lib.hid (Bx.new w3 24 #[.int .i64 0, .string (bs []), .string (bs [])])
      obtain ⟨a0, a1, a2⟩ := box_load Xa5.out
      obtain ⟨b0, b1, b2⟩ := box_load Xb5.out
      obtain ⟨B0, B1, B2⟩ := box_load XB5.out
      go_wp2_with fail
      go_ret
      exact ⟨rfl, B5.out⟩

  · have hni : (1048576 : Int) < (n : Int) := by omega
    go_enter Tryd.func7, Tryd.ntmps7
    go_wp2_with fail
    go_ret
    exact ⟨rfl, Below.refl _ _⟩

end Go.Proofs.YtpaoffjicgmleaaDoor
