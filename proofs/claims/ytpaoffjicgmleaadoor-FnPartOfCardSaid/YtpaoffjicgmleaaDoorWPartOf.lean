/-
  The walk of FnPartOf. Condition: texts below the reach.
-/
import Derived.Test.YtpaoffjicgmleaaDoorDraw10
import Derived.Test.YtpaoffjicgmleaaDoorLawAny2
import Derived.Test.YtpaoffjicgmleaaDoorIn
namespace Go.Proofs.YtpaoffjicgmleaaDoor
open Go.RowKit
open Pl
set_option linter.unusedSimpArgs false
set_option linter.unusedVariables false

attribute [local go_sem ↓] Go.wp_at_zero Go.wp_at_succ

theorem elB_ltp {n j : Nat} (h : j < n) : elB n (j : Nat) = true := by
  unfold elB
  simp
  omega
theorem inSet_stp (a : St) (ha : a.ok) (x : Nat) (hx : x < a.n) (W : World) :
    Calls Tryd.prog 13 #[stA a, .int .i64 (x : Nat)] W fun e w' => e = .returned (.bool (a.inS x)) ∧ Below W.heap.size W w' := by
  have h := InSet_impl (a.n : Int) (bs a.set) (bs a.rel) (x : Nat) W (st_100' ha).1 (st_100' ha).2
  have e : inSetV (a.n : Int) (bs a.set) (bs a.rel) (x : Nat) = a.inS x := by unfold inSetV; rw [okB_true ha, elB_ltp hx, ofSt_eq]; rfl
  rwa [e] at h
theorem inRel_stp (a : St) (ha : a.ok) (x y : Nat) (hx : x < a.n) (hy : y < a.n) (W : World) :
    Calls Tryd.prog 14 #[stA a, .int .i64 (x : Nat), .int .i64 (y : Nat)] W fun e w' => e = .returned (.bool (a.inR x y)) ∧ Below W.heap.size W w' := by
  have h := InRel_impl (a.n : Int) (bs a.set) (bs a.rel) (x : Nat) (y : Nat) W (st_100' ha).1 (st_100' ha).2
  have e : inRelV (a.n : Int) (bs a.set) (bs a.rel) (x : Nat) (y : Nat) = a.inR x y := by unfold inRelV; rw [okB_true ha, elB_ltp hx, elB_ltp hy, ofSt_eq]; rfl
  rwa [e] at h
theorem row_nat {w : World} {A : Option Addr} {l : List Nat} (h : LRow w A (natsI l)) {k : Nat} (hk : k < l.length) : ∃ g, A = some ⟨g, 0, none⟩ ∧ w.cell? ⟨g, k, none⟩ = some (.int .i64 ((app l k : Nat) : Int)) := by
  obtain ⟨g, rfl, hc⟩ := h (by rw [natsI_len]; omega)
  refine ⟨g, rfl, ?_⟩
  rw [hc k (by rw [natsI_len]; exact hk)]
  simp [natsI, app, List.getD, hk]
theorem part_inS {a : St} {l : List Nat} {x : Nat} (h : x < l.length) : (a.part l).inS x = a.inS (app l x) := mkSt_inS h
theorem part_inR {a : St} {l : List Nat} {x y : Nat} (h : x < l.length) (h2 : y < l.length) : (a.part l).inR x y = a.inR (app l x) (app l y) := mkSt_inR h h2
theorem own_ne2 {g1 g1' g2 n k n' k' H : Nat} (hat : Value.ownBlock (.slice (some ⟨g1', 0, none⟩) n' k') = Value.ownBlock (.slice (some ⟨g1, 0, none⟩) n k) ∨ Value.ownBlock (.slice (some ⟨g1', 0, none⟩) n' k') = some H) (hne : g1 ≠ g2) (h2 : g2 < H) : g1' ≠ g2 := by
  rcases hat with h | h
  · have : g1' = g1 := Option.some.inj h
    omega
  · have : g1' = H := Option.some.inj h
    omega
theorem gl_eq {g g' : Nat} (h : (some (⟨g, 0, none⟩ : Addr)) = some ⟨g', 0, none⟩) : g = g' := by
  injection h with h
  injection h
theorem app_lt' {l : List Nat} {n k : Nat} (h : ∀ x ∈ l, x < n) (hk : k < l.length) : app l k < n := h _ (app_mem hk)


theorem own_other {W W' : World} {base n : Nat} {e : TypeId} {v : Value} {xs : List Value} {row : Option Nat} (h : W.ownsRow base e 1 v n xs) (hg : W.grownBy W' row) (hne : v.ownBlock ≠ row ∨ v.ownBlock = none) : W'.ownsRow base e 1 v n xs := by
  obtain ⟨h1, h2⟩ := h
  refine ⟨h1, ?_⟩
  rcases h2 with h2 | ⟨g, c, cur, hv, hb, hh, hr⟩
  · exact .inl h2
  · refine .inr ⟨g, c, cur, hv, hb, (hg.block g (Array.getElem?_eq_some_iff.1 hh).1 (fun e => ?_)).trans hh, hr⟩
    rcases hne with hne | hne
    · exact hne (by rw [hv]; exact e)
    · rw [hv] at hne; cases hne

set_option maxHeartbeats 4000000 in
set_option maxRecDepth 100000 in
theorem FnPartOf_walk (A : Option Addr) (n cap : Nat) (w : World) (h : ByRow w A n) (hc : n ≤ cap) (hm : cap ≤ maxLen) :
    Calls Tryd.prog 3 #[.slice A n cap] w fun e w' => e = .returned (.bool true) ∧ Below w.heap.size w w' := by
  obtain ⟨i0, hi, hz0, hz1, hz2⟩ := info_parts (P := Tryd.prog) (e := 3) (z := .int .i64 0) (size := 1) (bytes := 8) (by kernel_rfl)
  by_cases hn : n ≤ 1048576
  · have hd := DrawPartOf_calls A n cap w h hn hc hm
    have HD := Lib.hid hd
    have hni : ¬ (1048576 : Int) < (n : Int) := by omega
    clear hd h hc hm
    go_enter Tryd.func3, Tryd.ntmps3
    go_wp2_with fail
    refine (HD.out).mono ?_
    rintro e w1 ⟨⟨i, s, r, zs, A1, c1, rfl, hs, hr, hzl, hzc, hrow⟩, hz⟩
    have B0 := Lib.hid hz
    have LZ0 := Lib.hid hrow
    have cp0 := fun W hA => PartOf_impl i s r A1 zs c1 W (by unfold maxLen; omega) (by unfold maxLen; omega) (by omega) hzc hA
    have cq0 := fun W hA => PartOf_spec i s r A1 zs c1 W (by unfold maxLen; omega) (by unfold maxLen; omega) (by omega) hzc hA
    clear hz hrow
    cases hpo : partB i s r zs with
    | false =>
      have hO := part_no hpo
      have cp : ∀ W, LRow W A1 zs → Calls Tryd.prog 11 #[stV i s r, .slice A1 zs.length c1] W fun e w' => e = .returned (.tuple #[stV 0 (bs []) (bs []), .bool false]) ∧ Below W.heap.size W w' := fun W hA => by
        have h := cp0 W hA
        rwa [hO] at h
      have cq : ∀ W, LRow W A1 zs → Calls Tryd.prog 12 #[stV i s r, .slice A1 zs.length c1] W fun e w' => e = .returned (.tuple #[stV 0 (bs []) (bs []), .bool false]) ∧ Below W.heap.size W w' := fun W hA => by
        have h := cq0 W hA
        rwa [hO] at h
      have CP := Lib.hid cp
      have CQ := Lib.hid cq
      clear cp cq cp0 cq0 hO hpo
      have B1 := Lib.hid (B0.out.alloc B0.out.size (.cells #[.int .i64 i, .string s, .string r] 24))
      have Xa1 := Lib.hid (Bx.new w1 24 #[.int .i64 i, .string s, .string r])
      have LZ := Lib.hid (LZ0.out.alloc (.cells #[.int .i64 i, .string s, .string r] 24))
      obtain ⟨a0, a1, a2⟩ := box_load Xa1.out
      go_wp2_with fail
      refine (CP.out _ LZ.out).mono ?_
      clear a0 a1 a2
      rintro e w2 ⟨rfl, hz⟩
      have B2 := Lib.hid (B1.out.trans (hz.mono B1.out.size))
      have Xa2 := Lib.hid (Xa1.out.call hz)
      have Lz2 := Lib.hid (LZ.out.call hz)
      clear hz
      obtain ⟨a0, a1, a2⟩ := box_load Xa2.out
      clear a0 a1 a2
      have B3 := Lib.hid (B2.out.alloc B2.out.size (.cells #[.int .i64 0, .string (bs []), .string (bs [])] 24))
      have Xa3 := Lib.hid (Xa2.out.alloc (.cells #[.int .i64 0, .string (bs []), .string (bs [])] 24))
      have Lz3 := Lib.hid (Lz2.out.alloc (.cells #[.int .i64 0, .string (bs []), .string (bs [])] 24))
      have Xb3 := Lib.hid (Bx.new w2 24 #[.int .i64 0, .string (bs []), .string (bs [])])
      obtain ⟨a0, a1, a2⟩ := box_load Xa3.out
      obtain ⟨b0, b1, b2⟩ := box_load Xb3.out
      go_wp2_with fail
      refine (CQ.out _ Lz3.out).mono ?_
      clear a0 a1 a2 b0 b1 b2
      rintro e w3 ⟨rfl, hz⟩
      have B4 := Lib.hid (B3.out.trans (hz.mono B3.out.size))
      have Xa4 := Lib.hid (Xa3.out.call hz)
      have Xb4 := Lib.hid (Xb3.out.call hz)
      have Lz4 := Lib.hid (Lz3.out.call hz)
      clear hz
      obtain ⟨a0, a1, a2⟩ := box_load Xa4.out
      obtain ⟨b0, b1, b2⟩ := box_load Xb4.out
      clear a0 a1 a2 b0 b1 b2
      have B5 := Lib.hid (B4.out.alloc B4.out.size (.cells #[.int .i64 0, .string (bs []), .string (bs [])] 24))
      have Xa5 := Lib.hid (Xa4.out.alloc (.cells #[.int .i64 0, .string (bs []), .string (bs [])] 24))
      have Xb5 := Lib.hid (Xb4.out.alloc (.cells #[.int .i64 0, .string (bs []), .string (bs [])] 24))
      have Lz5 := Lib.hid (Lz4.out.alloc (.cells #[.int .i64 0, .string (bs []), .string (bs [])] 24))
      have XB5 := Lib.hid (Bx.new w3 24 #[.int .i64 0, .string (bs []), .string (bs [])])
      obtain ⟨a0, a1, a2⟩ := box_load Xa5.out
      obtain ⟨b0, b1, b2⟩ := box_load Xb5.out
      obtain ⟨B0, B1, B2⟩ := box_load XB5.out
      go_wp2_with fail
      go_ret
      exact ⟨rfl, B5.out⟩

    | true =>
      have hok : okB i s r = true := by
        unfold partB at hpo
        cases h : okB i s r with
        | true => rfl
        | false => rw [h] at hpo; cases hpo
      rcases ok_cases i s r with h | ⟨a, ha, rfl, rfl, rfl⟩
      · rw [h] at hok; cases hok
      · have hpo2 := hpo
        unfold partB at hpo2
        simp only [Bool.and_eq_true, decide_eq_true_eq] at hpo2
        obtain ⟨_, hpos, hel, hnod⟩ := hpo2
        obtain ⟨ns, rfl, hlt, hnd, hle, _⟩ := nats_of hel hnod
        rw [natsI_len] at hpos hzl hzc
        obtain ⟨gl, rfl, _⟩ := LZ0.out (by rw [natsI_len]; exact hpos)
        have hn8 := ha.hi
        have hbok : (a.part ns).ok := part_ok hpos (by omega)
        have hO := part_yes hpo
        rw [natsI_toNat] at hO
        have cp : ∀ W, LRow W (some ⟨gl, 0, none⟩) (natsI ns) → Calls Tryd.prog 11 #[stA a, .slice (some ⟨gl, 0, none⟩) ns.length c1] W fun e w' => e = .returned (.tuple #[stA (a.part ns), .bool true]) ∧ Below W.heap.size W w' := fun W hA => part_st ha hlt hnd hpos (by omega) (some ⟨gl, 0, none⟩) c1 hzc W hA
        have cq : ∀ W, LRow W (some ⟨gl, 0, none⟩) (natsI ns) → Calls Tryd.prog 12 #[stA a, .slice (some ⟨gl, 0, none⟩) ns.length c1] W fun e w' => e = .returned (.tuple #[stA (a.part ns), .bool true]) ∧ Below W.heap.size W w' := fun W hA => by
          have h := cq0 W hA
          rw [hO, natsI_len] at h
          exact h
        obtain ⟨K, hK⟩ : ∃ K, K = (ns.length + 1) / 2 := ⟨_, rfl⟩
        have hhlt : ∀ x ∈ halfTo K, x < ns.length := halfTo_lt (by omega)
        have hK1 : 0 < (halfTo K).length := by rw [halfTo_len]; omega
        have hK8 : (halfTo K).length ≤ 8 := by rw [halfTo_len]; omega
        have hpp : (a.part ns).part (halfTo K) = a.part (comp ns (halfTo K)) := part_part hhlt
        have cc : ∀ (A : Option Addr) (c : Nat), K ≤ c → ∀ W, LRow W A (natsI (halfTo K)) → Calls Tryd.prog 11 #[stA (a.part ns), .slice A K c] W fun e w' => e = .returned (.tuple #[stA ((a.part ns).part (halfTo K)), .bool true]) ∧ Below W.heap.size W w' := fun A c hc W hA => by
          have h := part_st hbok hhlt (halfTo_nodup K) hK1 hK8 A c (by rw [halfTo_len]; exact hc) W hA
          rwa [halfTo_len] at h
        have dd : ∀ (A : Option Addr) (c : Nat), K ≤ c → ∀ W, LRow W A (natsI (comp ns (halfTo K))) → Calls Tryd.prog 11 #[stA a, .slice A K c] W fun e w' => e = .returned (.tuple #[stA ((a.part ns).part (halfTo K)), .bool true]) ∧ Below W.heap.size W w' := fun A c hc W hA => by
          have h := part_st ha (comp_lt hlt hhlt) (comp_nodup hnd (halfTo_nodup K) hhlt) (by rw [len_comp]; exact hK1) (by rw [len_comp]; exact hK8) A c (by rw [len_comp, halfTo_len]; exact hc) W hA
          rw [len_comp, halfTo_len] at h
          rwa [hpp]
        have vv : ∀ W, Calls Tryd.prog 15 #[stA (a.part ns)] W fun e w' => e = .returned (.bool true) ∧ Below W.heap.size W w' := fun W => by
          have h := StructureValid_impl (a.part ns).n (bs (a.part ns).set) (bs (a.part ns).rel) W (st_100' hbok).1 (st_100' hbok).2
          rwa [okB_true hbok] at h
        have hs1 : ∀ j, j < ns.length → ∃ p : Bool, (∀ W, Calls Tryd.prog 13 #[stA (a.part ns), .int .i64 (j : Nat)] W fun e w' => e = .returned (.bool p) ∧ Below W.heap.size W w') ∧ (∀ W, Calls Tryd.prog 13 #[stA a, .int .i64 (app ns j : Nat)] W fun e w' => e = .returned (.bool p) ∧ Below W.heap.size W w') := fun j hj =>
          ⟨a.inS (app ns j), fun W => by have h := inSet_stp (a.part ns) hbok j hj W; rwa [part_inS hj] at h, fun W => inSet_stp a ha _ (app_lt' hlt hj) W⟩
        have hr1 : ∀ j l, j < ns.length → l < ns.length → ∃ p : Bool, (∀ W, Calls Tryd.prog 14 #[stA (a.part ns), .int .i64 (j : Nat), .int .i64 (l : Nat)] W fun e w' => e = .returned (.bool p) ∧ Below W.heap.size W w') ∧ (∀ W, Calls Tryd.prog 14 #[stA a, .int .i64 (app ns j : Nat), .int .i64 (app ns l : Nat)] W fun e w' => e = .returned (.bool p) ∧ Below W.heap.size W w') := fun j l hj hl =>
          ⟨a.inR (app ns j) (app ns l), fun W => by have h := inRel_stp (a.part ns) hbok j l hj hl W; rwa [part_inR hj hl] at h, fun W => inRel_stp a ha _ _ (app_lt' hlt hj) (app_lt' hlt hl) W⟩
        have k1 : (a.part ns).n = ns.length := rfl
        have k2 : ((a.part ns).part (halfTo K)).n = K := halfTo_len K
        unfold stA at cp cq cc dd vv hs1 hr1
        rw [k1] at cp cq cc vv hs1 hr1
        rw [k2] at cc dd
        clear hO hpp hhlt hK1 hK8 k1 k2 hbok hpo hok hel hnod cp0 cq0 hlt hnd hle
        generalize bs ((a.part ns).part (halfTo K)).set = s3 at *
        generalize bs ((a.part ns).part (halfTo K)).rel = r3 at *
        generalize bs (a.part ns).set = s2 at *
        generalize bs (a.part ns).rel = r2 at *
        generalize bs a.set = s at *
        generalize bs a.rel = r at *
        clear ha
        generalize a.n = m at *
        obtain ⟨nl, hnl⟩ : ∃ nl, ns.length = nl := ⟨_, rfl⟩
        rw [hnl] at cp cq cc vv hs1 hr1 hpos hzl hzc hK
        have hnl8 : nl ≤ 10 := hzl
        have CP := Lib.hid cp
        have CQ := Lib.hid cq
        have CC := Lib.hid cc
        have DD := Lib.hid dd
        have VV := Lib.hid vv
        have HS1 := Lib.hid hs1
        have HR1 := Lib.hid hr1
        have HNL := Lib.hid hnl
        have HK := Lib.hid hK
        rw [natsI_len, hnl]
        clear cp cq cc dd vv hs1 hr1
        clear hnl hK
        have B1 := Lib.hid (B0.out.alloc B0.out.size (.cells #[.int .i64 (m : Int), .string s, .string r] 24))
        have Xa1 := Lib.hid (Bx.new w1 24 #[.int .i64 (m : Int), .string s, .string r])
        have LZ := Lib.hid (LZ0.out.alloc (.cells #[.int .i64 (m : Int), .string s, .string r] 24))
        obtain ⟨a0, a1, a2⟩ := box_load Xa1.out
        go_wp2_with fail
        refine (CP.out _ LZ.out).mono ?_
        clear a0 a1 a2
        rintro e w2 ⟨rfl, hz⟩
        have B2 := Lib.hid (B1.out.trans (hz.mono B1.out.size))
        have Xa2 := Lib.hid (Xa1.out.call hz)
        have Lz2 := Lib.hid (LZ.out.call hz)
        clear hz
        obtain ⟨a0, a1, a2⟩ := box_load Xa2.out
        clear a0 a1 a2
        have B3 := Lib.hid (B2.out.alloc B2.out.size (.cells #[.int .i64 (nl : Int), .string s2, .string r2] 24))
        have Xa3 := Lib.hid (Xa2.out.alloc (.cells #[.int .i64 (nl : Int), .string s2, .string r2] 24))
        have Lz3 := Lib.hid (Lz2.out.alloc (.cells #[.int .i64 (nl : Int), .string s2, .string r2] 24))
        have Xb3 := Lib.hid (Bx.new w2 24 #[.int .i64 (nl : Int), .string s2, .string r2])
        obtain ⟨a0, a1, a2⟩ := box_load Xa3.out
        obtain ⟨b0, b1, b2⟩ := box_load Xb3.out
        go_wp2_with fail
        refine (CQ.out _ Lz3.out).mono ?_
        clear a0 a1 a2 b0 b1 b2
        rintro e w3 ⟨rfl, hz⟩
        have B4 := Lib.hid (B3.out.trans (hz.mono B3.out.size))
        have Xa4 := Lib.hid (Xa3.out.call hz)
        have Xb4 := Lib.hid (Xb3.out.call hz)
        have Lz4 := Lib.hid (Lz3.out.call hz)
        clear hz
        obtain ⟨a0, a1, a2⟩ := box_load Xa4.out
        obtain ⟨b0, b1, b2⟩ := box_load Xb4.out
        clear a0 a1 a2 b0 b1 b2
        have B5 := Lib.hid (B4.out.alloc B4.out.size (.cells #[.int .i64 (nl : Int), .string s2, .string r2] 24))
        have Xa5 := Lib.hid (Xa4.out.alloc (.cells #[.int .i64 (nl : Int), .string s2, .string r2] 24))
        have Xb5 := Lib.hid (Xb4.out.alloc (.cells #[.int .i64 (nl : Int), .string s2, .string r2] 24))
        have Lz5 := Lib.hid (Lz4.out.alloc (.cells #[.int .i64 (nl : Int), .string s2, .string r2] 24))
        have XB5 := Lib.hid (Bx.new w3 24 #[.int .i64 (nl : Int), .string s2, .string r2])
        obtain ⟨a0, a1, a2⟩ := box_load Xa5.out
        obtain ⟨b0, b1, b2⟩ := box_load Xb5.out
        obtain ⟨B0, B1, B2⟩ := box_load XB5.out
        go_wp2_with fail
        go_loopg [9] nl (fun c x wr => ∃ jx : Nat, jx + c = nl ∧ x = .int .i64 (jx : Nat) ∧ Below w.heap.size w wr ∧ Bx wr w1.heap.size 24 #[.int .i64 (m : Int), .string s, .string r] ∧ Bx wr w2.heap.size 24 #[.int .i64 (nl : Int), .string s2, .string r2] ∧ LRow wr (some ⟨gl, 0, none⟩) (natsI ns))
        case atStart => exact ⟨0, by omega, rfl, B5.out, Xa5.out, Xb5.out, Lz5.out⟩
        case round =>
          clear B0 B1 B2 a0 a1 a2 b0 b1 b2
          obtain ⟨jx, hjx, rfl, hb, hxa, hxb, hll⟩ := hrel
          have B100 := Lib.hid hb
          have Xa100 := Lib.hid hxa
          have Xb100 := Lib.hid hxb
          have L100 := Lib.hid hll
          clear hb hxa hxb hll
          obtain ⟨a0, a1, a2⟩ := box_load Xa100.out
          obtain ⟨b0, b1, b2⟩ := box_load Xb100.out
          by_cases hlx : jx < nl
          · have hxi : (jx : Int) < (nl : Int) := by omega
            have hxi0 : (0 : Int) ≤ (jx : Int) := by omega
            obtain ⟨p, z1, z2⟩ := HS1.out jx hlx
            have Z1 := Lib.hid z1
            have Z2 := Lib.hid z2
            obtain ⟨gl', hgl', d1⟩ := row_nat L100.out (k := jx) (by rw [HNL.out]; exact hlx)
            obtain rfl : gl = gl' := gl_eq hgl'
            clear hgl'
            clear z1 z2
            generalize hx1 : app ns jx = x1 at *
            go_upto_region 11 with (fail)
            have B101 := Lib.hid B100.out.drew
            have Xa101 := Lib.hid Xa100.out.drew
            have Xb101 := Lib.hid Xb100.out.drew
            have L101 := Lib.hid L100.out.drew
            clear a0 a1 a2 b0 b1 b2
            obtain ⟨a0, a1, a2⟩ := box_load Xa101.out
            obtain ⟨b0, b1, b2⟩ := box_load Xb101.out
            refine region_sched [(0, true), (1, true), (3, true), (4, true), (5, true), (6, true), (7, true), (2, false), (8, false), (9, true)] (fun w' : World => w'.cell? ⟨w1.heap.size, 0, none⟩ = some (.int .i64 (m : Int)) ∧ w'.cell? ⟨w1.heap.size, 1, none⟩ = some (.string s) ∧ w'.cell? ⟨w1.heap.size, 2, none⟩ = some (.string r) ∧ w'.cell? ⟨w2.heap.size, 0, none⟩ = some (.int .i64 (nl : Int)) ∧ w'.cell? ⟨w2.heap.size, 1, none⟩ = some (.string s2) ∧ w'.cell? ⟨w2.heap.size, 2, none⟩ = some (.string r2) ∧ w'.cell? ⟨gl, jx, none⟩ = some (.int .i64 (x1 : Nat))) (by kernel_rfl) (by kernel_rfl) (by kernel_rfl) (by kernel_rfl) (fun _ _ _ _ h => h) ?_ (fun Q1 hQ1 => ?_)
            · exact ⟨a0, a1, a2, b0, b1, b2, d1⟩
            try simp only [List.append]
            refine sched_take' (v := .agg #[.int .i64 (nl : Int), .string s2, .string r2]) (a' := ?_) rfl (by kernel_rfl) ?_ rfl ?_ ?_
            rotate_left 1
            · intro w hSw
              (try dsimp only at hSw)
              go_simp
              first | done | (obtain ⟨ua0, ua1, ua2, ub0, ub1, ub2, ud⟩ := hSw; simp [*])
            · (try simp only [Act.put, List.setIfInBounds_toArray, List.set_cons_zero, List.set_cons_succ])
              try rfl
            refine sched_take' (v := ?_) (a' := ?_) rfl (by kernel_rfl) ?_ rfl ?_ ?_
            rotate_left 2
            · intro w hSw
              (try dsimp only at hSw)
              go_simp
              try with_reducible rfl
            · (try simp only [Act.put, List.setIfInBounds_toArray, List.set_cons_zero, List.set_cons_succ])
              try rfl
            refine sched_take' (v := .agg #[.int .i64 (m : Int), .string s, .string r]) (a' := ?_) rfl (by kernel_rfl) ?_ rfl ?_ ?_
            rotate_left 1
            · intro w hSw
              (try dsimp only at hSw)
              go_simp
              first | done | (obtain ⟨ua0, ua1, ua2, ub0, ub1, ub2, ud⟩ := hSw; simp [*])
            · (try simp only [Act.put, List.setIfInBounds_toArray, List.set_cons_zero, List.set_cons_succ])
              try rfl
            refine sched_take' (v := ?_) (a' := ?_) rfl (by kernel_rfl) ?_ rfl ?_ ?_
            rotate_left 2
            · intro w hSw
              (try dsimp only at hSw)
              go_simp
              try with_reducible rfl
            · (try simp only [Act.put, List.setIfInBounds_toArray, List.set_cons_zero, List.set_cons_succ])
              try rfl
            refine sched_take' (v := ?_) (a' := ?_) rfl (by kernel_rfl) ?_ rfl ?_ ?_
            rotate_left 2
            · intro w hSw
              (try dsimp only at hSw)
              go_simp
              try with_reducible rfl
            · (try simp only [Act.put, List.setIfInBounds_toArray, List.set_cons_zero, List.set_cons_succ])
              try rfl
            refine sched_take' (v := ?_) (a' := ?_) rfl (by kernel_rfl) ?_ rfl ?_ ?_
            rotate_left 2
            · intro w hSw
              (try dsimp only at hSw)
              go_simp
              try with_reducible rfl
            · (try simp only [Act.put, List.setIfInBounds_toArray, List.set_cons_zero, List.set_cons_succ])
              try rfl
            refine sched_take' (v := .int .i64 (x1 : Nat)) (a' := ?_) rfl (by kernel_rfl) ?_ rfl ?_ ?_
            rotate_left 1
            · intro w hSw
              (try dsimp only at hSw)
              go_simp
              first | done | (obtain ⟨ua0, ua1, ua2, ub0, ub1, ub2, ud⟩ := hSw; simp [*])
            · (try simp only [Act.put, List.setIfInBounds_toArray, List.set_cons_zero, List.set_cons_succ])
              try rfl
            refine sched_call rfl (by kernel_rfl) (fun K1 hK1 => ?_)
            go_simp
            refine (Z1.out _).mono ?_
            rintro e wa ⟨rfl, hz⟩
            have B102 := Lib.hid (B101.out.trans (hz.mono B101.out.size))
            have Xa102 := Lib.hid (Xa101.out.call hz)
            have Xb102 := Lib.hid (Xb101.out.call hz)
            have L102 := Lib.hid (L101.out.call hz)
            have d2 := (hz.cell (World.block_lt_of_cell? _ _ d1)).trans d1
            clear hz
            clear a0 a1 a2 b0 b1 b2
            obtain ⟨a0, a1, a2⟩ := box_load Xa102.out
            obtain ⟨b0, b1, b2⟩ := box_load Xb102.out
            go_wp2_with fail
            refine hK1.out _ _ ?_ (sched_lay (a' := ?_) ?_ ?_)
            · exact ⟨a0, a1, a2, b0, b1, b2, d2⟩
            rotate_left 1
            · (try simp only [Act.put, List.getElem_toArray, List.getElem_cons_succ, List.getElem_cons_zero, List.setIfInBounds_toArray, List.set_cons_zero, List.set_cons_succ])
              try rfl
            clear hK1 K1
            refine sched_call rfl (by kernel_rfl) (fun K1 hK1 => ?_)
            go_simp
            refine (Z2.out _).mono ?_
            rintro e wb ⟨rfl, hz⟩
            have B103 := Lib.hid (B102.out.trans (hz.mono B102.out.size))
            have Xa103 := Lib.hid (Xa102.out.call hz)
            have Xb103 := Lib.hid (Xb102.out.call hz)
            have L103 := Lib.hid (L102.out.call hz)
            have d3 := (hz.cell (World.block_lt_of_cell? _ _ d2)).trans d2
            clear hz
            clear a0 a1 a2 b0 b1 b2
            obtain ⟨a0, a1, a2⟩ := box_load Xa103.out
            obtain ⟨b0, b1, b2⟩ := box_load Xb103.out
            go_wp2_with fail
            refine hK1.out _ _ ?_ (sched_lay (a' := ?_) ?_ ?_)
            · exact ⟨a0, a1, a2, b0, b1, b2, d3⟩
            rotate_left 1
            · (try simp only [Act.put, List.getElem_toArray, List.getElem_cons_succ, List.getElem_cons_zero, List.setIfInBounds_toArray, List.set_cons_zero, List.set_cons_succ])
              try rfl
            clear hK1 K1
            refine sched_take' (v := ?_) (a' := ?_) rfl (by kernel_rfl) ?_ rfl ?_ ?_
            rotate_left 2
            · intro w hSw
              (try dsimp only at hSw)
              go_simp
              try with_reducible rfl
            · (try simp only [Act.put, List.setIfInBounds_toArray, List.set_cons_zero, List.set_cons_succ])
              try rfl
            refine sched_done (hQ1.out _ _ ?_)
            clear Z1 Z2 hx1
            clear d1 d2 d3
            go_wp2_with fail
            go_loopg [10] nl (fun c y wr => ∃ jy : Nat, jy + c = nl ∧ y = .int .i64 (jy : Nat) ∧ Below w.heap.size w wr ∧ Bx wr w1.heap.size 24 #[.int .i64 (m : Int), .string s, .string r] ∧ Bx wr w2.heap.size 24 #[.int .i64 (nl : Int), .string s2, .string r2] ∧ LRow wr (some ⟨gl, 0, none⟩) (natsI ns))
            case atStart => exact ⟨0, by omega, rfl, B103.out, Xa103.out, Xb103.out, L103.out⟩
            case round =>
              clear a0 a1 a2 b0 b1 b2
              obtain ⟨jy, hjy, rfl, hb, hxa, hxb, hll⟩ := hrel
              have B200 := Lib.hid hb
              have Xa200 := Lib.hid hxa
              have Xb200 := Lib.hid hxb
              have L200 := Lib.hid hll
              clear hb hxa hxb hll
              obtain ⟨a0, a1, a2⟩ := box_load Xa200.out
              obtain ⟨b0, b1, b2⟩ := box_load Xb200.out
              by_cases hly : jy < nl
              · have hyi : (jy : Int) < (nl : Int) := by omega
                have hyi0 : (0 : Int) ≤ (jy : Int) := by omega
                obtain ⟨p, z1, z2⟩ := HR1.out jx jy hlx hly
                have Z1 := Lib.hid z1
                have Z2 := Lib.hid z2
                obtain ⟨gl', hgl', d1⟩ := row_nat L200.out (k := jx) (by rw [HNL.out]; exact hlx)
                obtain rfl : gl = gl' := gl_eq hgl'
                obtain ⟨gl', hgl'', d5⟩ := row_nat L200.out (k := jy) (by rw [HNL.out]; exact hly)
                obtain rfl : gl = gl' := gl_eq hgl''
                clear z1 z2 hgl' hgl''
                generalize hx1 : app ns jx = x1 at *
                generalize hx2 : app ns jy = x2 at *
                go_upto_region 16 with (fail)
                have B201 := Lib.hid B200.out.drew
                have Xa201 := Lib.hid Xa200.out.drew
                have Xb201 := Lib.hid Xb200.out.drew
                have L201 := Lib.hid L200.out.drew
                clear a0 a1 a2 b0 b1 b2
                obtain ⟨a0, a1, a2⟩ := box_load Xa201.out
                obtain ⟨b0, b1, b2⟩ := box_load Xb201.out
                refine region_sched [(0, true), (1, true), (2, true), (4, true), (5, true), (6, true), (7, true), (8, true), (9, true), (10, true), (11, true), (12, true), (3, false), (13, false), (14, true)] (fun w' : World => w'.cell? ⟨w1.heap.size, 0, none⟩ = some (.int .i64 (m : Int)) ∧ w'.cell? ⟨w1.heap.size, 1, none⟩ = some (.string s) ∧ w'.cell? ⟨w1.heap.size, 2, none⟩ = some (.string r) ∧ w'.cell? ⟨w2.heap.size, 0, none⟩ = some (.int .i64 (nl : Int)) ∧ w'.cell? ⟨w2.heap.size, 1, none⟩ = some (.string s2) ∧ w'.cell? ⟨w2.heap.size, 2, none⟩ = some (.string r2) ∧ w'.cell? ⟨gl, jx, none⟩ = some (.int .i64 (x1 : Nat)) ∧ w'.cell? ⟨gl, jy, none⟩ = some (.int .i64 (x2 : Nat))) (by kernel_rfl) (by kernel_rfl) (by kernel_rfl) (by kernel_rfl) (fun _ _ _ _ h => h) ?_ (fun Q1 hQ1 => ?_)
                · exact ⟨a0, a1, a2, b0, b1, b2, d1, d5⟩
                try simp only [List.append]
                refine sched_take' (v := .agg #[.int .i64 (nl : Int), .string s2, .string r2]) (a' := ?_) rfl (by kernel_rfl) ?_ rfl ?_ ?_
                rotate_left 1
                · intro w hSw
                  (try dsimp only at hSw)
                  go_simp
                  first | done | (obtain ⟨ua0, ua1, ua2, ub0, ub1, ub2, ud, ue⟩ := hSw; simp [*])
                · (try simp only [Act.put, List.setIfInBounds_toArray, List.set_cons_zero, List.set_cons_succ])
                  try rfl
                refine sched_take' (v := ?_) (a' := ?_) rfl (by kernel_rfl) ?_ rfl ?_ ?_
                rotate_left 2
                · intro w hSw
                  (try dsimp only at hSw)
                  go_simp
                  try with_reducible rfl
                · (try simp only [Act.put, List.setIfInBounds_toArray, List.set_cons_zero, List.set_cons_succ])
                  try rfl
                refine sched_take' (v := ?_) (a' := ?_) rfl (by kernel_rfl) ?_ rfl ?_ ?_
                rotate_left 2
                · intro w hSw
                  (try dsimp only at hSw)
                  go_simp
                  try with_reducible rfl
                · (try simp only [Act.put, List.setIfInBounds_toArray, List.set_cons_zero, List.set_cons_succ])
                  try rfl
                refine sched_take' (v := .agg #[.int .i64 (m : Int), .string s, .string r]) (a' := ?_) rfl (by kernel_rfl) ?_ rfl ?_ ?_
                rotate_left 1
                · intro w hSw
                  (try dsimp only at hSw)
                  go_simp
                  first | done | (obtain ⟨ua0, ua1, ua2, ub0, ub1, ub2, ud, ue⟩ := hSw; simp [*])
                · (try simp only [Act.put, List.setIfInBounds_toArray, List.set_cons_zero, List.set_cons_succ])
                  try rfl
                refine sched_take' (v := ?_) (a' := ?_) rfl (by kernel_rfl) ?_ rfl ?_ ?_
                rotate_left 2
                · intro w hSw
                  (try dsimp only at hSw)
                  go_simp
                  try with_reducible rfl
                · (try simp only [Act.put, List.setIfInBounds_toArray, List.set_cons_zero, List.set_cons_succ])
                  try rfl
                refine sched_take' (v := ?_) (a' := ?_) rfl (by kernel_rfl) ?_ rfl ?_ ?_
                rotate_left 2
                · intro w hSw
                  (try dsimp only at hSw)
                  go_simp
                  try with_reducible rfl
                · (try simp only [Act.put, List.setIfInBounds_toArray, List.set_cons_zero, List.set_cons_succ])
                  try rfl
                refine sched_take' (v := ?_) (a' := ?_) rfl (by kernel_rfl) ?_ rfl ?_ ?_
                rotate_left 2
                · intro w hSw
                  (try dsimp only at hSw)
                  go_simp
                  try with_reducible rfl
                · (try simp only [Act.put, List.setIfInBounds_toArray, List.set_cons_zero, List.set_cons_succ])
                  try rfl
                refine sched_take' (v := .int .i64 (x1 : Nat)) (a' := ?_) rfl (by kernel_rfl) ?_ rfl ?_ ?_
                rotate_left 1
                · intro w hSw
                  (try dsimp only at hSw)
                  go_simp
                  first | done | (obtain ⟨ua0, ua1, ua2, ub0, ub1, ub2, ud, ue⟩ := hSw; simp [*])
                · (try simp only [Act.put, List.setIfInBounds_toArray, List.set_cons_zero, List.set_cons_succ])
                  try rfl
                refine sched_take' (v := ?_) (a' := ?_) rfl (by kernel_rfl) ?_ rfl ?_ ?_
                rotate_left 2
                · intro w hSw
                  (try dsimp only at hSw)
                  go_simp
                  try with_reducible rfl
                · (try simp only [Act.put, List.setIfInBounds_toArray, List.set_cons_zero, List.set_cons_succ])
                  try rfl
                refine sched_take' (v := ?_) (a' := ?_) rfl (by kernel_rfl) ?_ rfl ?_ ?_
                rotate_left 2
                · intro w hSw
                  (try dsimp only at hSw)
                  go_simp
                  try with_reducible rfl
                · (try simp only [Act.put, List.setIfInBounds_toArray, List.set_cons_zero, List.set_cons_succ])
                  try rfl
                refine sched_take' (v := ?_) (a' := ?_) rfl (by kernel_rfl) ?_ rfl ?_ ?_
                rotate_left 2
                · intro w hSw
                  (try dsimp only at hSw)
                  go_simp
                  try with_reducible rfl
                · (try simp only [Act.put, List.setIfInBounds_toArray, List.set_cons_zero, List.set_cons_succ])
                  try rfl
                refine sched_take' (v := .int .i64 (x2 : Nat)) (a' := ?_) rfl (by kernel_rfl) ?_ rfl ?_ ?_
                rotate_left 1
                · intro w hSw
                  (try dsimp only at hSw)
                  go_simp
                  first | done | (obtain ⟨ua0, ua1, ua2, ub0, ub1, ub2, ud, ue⟩ := hSw; simp [*])
                · (try simp only [Act.put, List.setIfInBounds_toArray, List.set_cons_zero, List.set_cons_succ])
                  try rfl
                refine sched_call rfl (by kernel_rfl) (fun K1 hK1 => ?_)
                go_simp
                refine (Z1.out _).mono ?_
                rintro e wa ⟨rfl, hz⟩
                have B202 := Lib.hid (B201.out.trans (hz.mono B201.out.size))
                have Xa202 := Lib.hid (Xa201.out.call hz)
                have Xb202 := Lib.hid (Xb201.out.call hz)
                have L202 := Lib.hid (L201.out.call hz)
                have d2 := (hz.cell (World.block_lt_of_cell? _ _ d1)).trans d1
                have d6 := (hz.cell (World.block_lt_of_cell? _ _ d5)).trans d5
                clear hz
                clear a0 a1 a2 b0 b1 b2
                obtain ⟨a0, a1, a2⟩ := box_load Xa202.out
                obtain ⟨b0, b1, b2⟩ := box_load Xb202.out
                go_wp2_with fail
                refine hK1.out _ _ ?_ (sched_lay (a' := ?_) ?_ ?_)
                · exact ⟨a0, a1, a2, b0, b1, b2, d2, d6⟩
                rotate_left 1
                · (try simp only [Act.put, List.getElem_toArray, List.getElem_cons_succ, List.getElem_cons_zero, List.setIfInBounds_toArray, List.set_cons_zero, List.set_cons_succ])
                  try rfl
                clear hK1 K1
                refine sched_call rfl (by kernel_rfl) (fun K1 hK1 => ?_)
                go_simp
                refine (Z2.out _).mono ?_
                rintro e wb ⟨rfl, hz⟩
                have B203 := Lib.hid (B202.out.trans (hz.mono B202.out.size))
                have Xa203 := Lib.hid (Xa202.out.call hz)
                have Xb203 := Lib.hid (Xb202.out.call hz)
                have L203 := Lib.hid (L202.out.call hz)
                have d3 := (hz.cell (World.block_lt_of_cell? _ _ d2)).trans d2
                have d7 := (hz.cell (World.block_lt_of_cell? _ _ d6)).trans d6
                clear hz
                clear a0 a1 a2 b0 b1 b2
                obtain ⟨a0, a1, a2⟩ := box_load Xa203.out
                obtain ⟨b0, b1, b2⟩ := box_load Xb203.out
                go_wp2_with fail
                refine hK1.out _ _ ?_ (sched_lay (a' := ?_) ?_ ?_)
                · exact ⟨a0, a1, a2, b0, b1, b2, d3, d7⟩
                rotate_left 1
                · (try simp only [Act.put, List.getElem_toArray, List.getElem_cons_succ, List.getElem_cons_zero, List.setIfInBounds_toArray, List.set_cons_zero, List.set_cons_succ])
                  try rfl
                clear hK1 K1
                refine sched_take' (v := ?_) (a' := ?_) rfl (by kernel_rfl) ?_ rfl ?_ ?_
                rotate_left 2
                · intro w hSw
                  (try dsimp only at hSw)
                  go_simp
                  try with_reducible rfl
                · (try simp only [Act.put, List.setIfInBounds_toArray, List.set_cons_zero, List.set_cons_succ])
                  try rfl
                refine sched_done (hQ1.out _ _ ?_)
                clear Z1 Z2 hx1 hx2
                go_wp2_with fail
                go_roundg (nl - jy - 1)
                case rel => exact ⟨jy + 1, by omega, by go_num, B203.out, Xa203.out, Xb203.out, L203.out⟩
                case measure => omega
              · have hyi : ¬ (jy : Int) < (nl : Int) := by omega
                go_wp2_with fail
                go_roundg (nl - jx - 1)
                case rel => exact ⟨jx + 1, by omega, by go_num, B200.out, Xa200.out, Xb200.out, L200.out⟩
                case measure => omega
          · have hxi : ¬ (jx : Int) < (nl : Int) := by omega
            obtain ⟨wS, rfl⟩ : ∃ wS, wS = wr := ⟨_, rfl⟩
            have LS := Lib.hid L100.out
            have O10 := Lib.hid ((own_zero wS).alloc (.cells #[] 3))
            have O20 := Lib.hid (own_zero2 wS (.cells #[] 3))
            have BS0 := Lib.hid (((Below.refl wS.heap.size wS).alloc (Nat.le_refl _) (.cells #[] 3)).alloc (by simp) (.cells #[] 3))
            clear a0 a1 a2 b0 b1 b2
            go_wp2_with fail
            go_loopg [11, 12, 13] (nl + 1) (fun c h t i wr => ∃ (j x g1 k1 g2 k2 : Nat), x + c = nl + 1 ∧ x = 2 * j ∧ i = .int .i64 (x : Nat) ∧ h = .slice (some ⟨g1, 0, none⟩) j k1 ∧ t = .slice (some ⟨g2, 0, none⟩) j k2 ∧ g1 ≠ g2 ∧
              wr.ownsRow wS.heap.size 3 1 (.slice (some ⟨g1, 0, none⟩) j k1) j (intsV (natsI (halfTo j))) ∧ wr.ownsRow wS.heap.size 3 1 (.slice (some ⟨g2, 0, none⟩) j k2) j (intsV (natsI (comp ns (halfTo j)))) ∧ Below wS.heap.size wS wr)
            case atStart => exact ⟨0, 0, _, _, _, _, by omega, rfl, rfl, rfl, rfl, (by omega), O10.out, O20.out, BS0.out⟩
            case round =>
              obtain ⟨j, x, g1, k1, g2, k2, hxc, hx2j, rfl, rfl, rfl, hne, ho1, ho2, hbs⟩ := hrel
              have O1 := Lib.hid ho1
              have O2 := Lib.hid ho2
              have BS := Lib.hid hbs
              have HX := Lib.hid hx2j
              have hj9 : j ≤ 9 := by omega
              clear ho1 ho2 hbs O10 O20 BS0
              by_cases hxn : x < nl
              · have hxi2 : (x : Int) < (nl : Int) := by omega
                have hxi0 : (0 : Int) ≤ (x : Int) := by omega
                have hxl : x < ns.length := by rw [HNL.out]; exact hxn
                have LL := Lib.hid (LS.out.call BS.out)
                obtain ⟨gl', hgl', d1⟩ := row_nat LL.out hxl
                obtain rfl : gl = gl' := gl_eq hgl'
                clear hx2j hgl' 
                go_wp2_with (first | (at_builtin; (refine wpList_append_own_at _ rfl (.tmp 103) (.tmp 105) 25 rfl wS.heap.size 3 i0 (.int .i64 0) 1 8 Tryd.underlying25 hi hz0 hz1 hz2 rfl (by decide) _ j (intsV (natsI (halfTo j))) rfl (O1.out.alloc _) ⟨wr.heap.size, 0, none⟩ 1 1 [.int .i64 (x : Nat)] rfl rfl (cell_one_new _ _ _) (ints_oneCell .i64 [((x : Nat) : Int)]) (by unfold maxLen; omega) (by omega) (by have := BS.out.size; simp; omega) ?_; intro v1 w21 ho1 hg1 hnn hat1; clear hnn; obtain ⟨g1', c1', rfl⟩ := own_shape ho1 (by omega); have BS1 := Lib.hid ((BS.out.alloc BS.out.size (.cells #[.int .i64 (x : Nat)] 3)).grown hg1 (by have := BS.out.size; simp; omega) (fun j hj => (O1.out.lt j hj).1)); have O2b := Lib.hid (own_other (O2.out.alloc (.cells #[.int .i64 (x : Nat)] 3)) hg1 (.inl (fun e => hne (Option.some.inj e).symm))); have hs21 := hg1.size; have hne1 : g1' ≠ g2 := own_ne2 hat1 hne (by have := (O2.out.lt g2 rfl).2; simp; omega); have O1b := Lib.hid ho1; have LLb := Lib.hid (LS.out.call BS1.out); obtain ⟨gl', hgl', d1'⟩ := row_nat LLb.out hxl; have hgle : gl = gl' := gl_eq hgl'; subst hgle; clear ho1 hg1 hat1 hgl' d1)) | (at_builtin; refine wpList_append_own_at _ rfl (.tmp 107) (.tmp 112) 25 rfl wS.heap.size 3 i0 (.int .i64 0) 1 8 Tryd.underlying25 hi hz0 hz1 hz2 rfl (by decide) _ j (intsV (natsI (comp ns (halfTo j)))) rfl (O2b.out.alloc _) ⟨w21.heap.size, 0, none⟩ 1 1 [.int .i64 ((app ns x : Nat) : Int)] rfl rfl (cell_one_new _ _ _) (ints_oneCell .i64 [((app ns x : Nat) : Int)]) (by unfold maxLen; omega) (by omega) (by have := BS1.out.size; simp; omega) ?_; intro v2 w22 ho2 hg2 hnn hat2; clear hnn; obtain ⟨g2', c2', rfl⟩ := own_shape ho2 (by omega); have BS2 := Lib.hid ((BS1.out.alloc BS1.out.size (.cells #[.int .i64 ((app ns x : Nat) : Int)] 3)).grown hg2 (by have := BS1.out.size; simp; omega) (fun j hj => (O2b.out.lt j hj).1)); have O1c := Lib.hid (own_other (O1b.out.alloc (.cells #[.int .i64 ((app ns x : Nat) : Int)] 3)) hg2 (.inl (fun e => hne1 (Option.some.inj e)))); have hne2 : g1' ≠ g2' := (own_ne2 hat2 (Ne.symm hne1) (by have := (O1b.out.lt g1' rfl).2; simp; omega)).symm; have O2c := Lib.hid ho2; clear ho2 hg2 hat2))
                go_roundg (nl - x - 1)
                case rel =>
                  refine ⟨j + 1, x + 2, g1', c1', g2', c2', by omega, by have := HX.out; omega, by go_num, rfl, rfl, hne2, ?_, ?_, BS2.out⟩
                  · rw [show intsV (natsI (halfTo (j + 1))) = intsV (natsI (halfTo j)) ++ [.int .i64 (x : Nat)] by rw [halfTo_succ, HX.out]; simp [intsV, natsI]]
                    exact O1c.out
                  · rw [show intsV (natsI (comp ns (halfTo (j + 1)))) = intsV (natsI (comp ns (halfTo j))) ++ [.int .i64 ((app ns x : Nat) : Int)] by rw [comp_halfTo_succ, HX.out]; simp [intsV, natsI]]
                    exact O2c.out
                case measure => omega
              · have hxi2 : ¬ (x : Int) < (nl : Int) := by omega
                have hjk : j = K := by have := HK.out; omega
                subst hjk
                clear hx2j hxc
                have B300 := Lib.hid (B100.out.trans (BS.out.mono B100.out.size))
                have Xa300 := Lib.hid (Xa100.out.call BS.out)
                have Xb300 := Lib.hid (Xb100.out.call BS.out)
                have Lh300 := Lib.hid (LRow_of O1.out)
                have Lt300 := Lib.hid (LRow_of O2.out)
                have hk1 := (own_cap O1.out).1
                have hk2 := (own_cap O2.out).1
                obtain ⟨a0, a1, a2⟩ := box_load Xa300.out
                obtain ⟨b0, b1, b2⟩ := box_load Xb300.out
                go_wp2_with fail
                refine (CC.out _ k1 hk1 _ Lh300.out).mono ?_
                clear a0 a1 a2 b0 b1 b2
                rintro e w301 ⟨rfl, hz⟩
                have B301 := Lib.hid (B300.out.trans (hz.mono B300.out.size))
                have Xa301 := Lib.hid (Xa300.out.call hz)
                have Xb301 := Lib.hid (Xb300.out.call hz)
                have Lh301 := Lib.hid (Lh300.out.call hz)
                have Lt301 := Lib.hid (Lt300.out.call hz)
                clear hz
                obtain ⟨a0, a1, a2⟩ := box_load Xa301.out
                obtain ⟨b0, b1, b2⟩ := box_load Xb301.out
                clear a0 a1 a2 b0 b1 b2
                have B302 := Lib.hid (B301.out.alloc B301.out.size (.cells #[.int .i64 (j : Int), .string s3, .string r3] 24))
                have Xa302 := Lib.hid (Xa301.out.alloc (.cells #[.int .i64 (j : Int), .string s3, .string r3] 24))
                have Xb302 := Lib.hid (Xb301.out.alloc (.cells #[.int .i64 (j : Int), .string s3, .string r3] 24))
                have Lh302 := Lib.hid (Lh301.out.alloc (.cells #[.int .i64 (j : Int), .string s3, .string r3] 24))
                have Lt302 := Lib.hid (Lt301.out.alloc (.cells #[.int .i64 (j : Int), .string s3, .string r3] 24))
                have Xc302 := Lib.hid (Bx.new w301 24 #[.int .i64 (j : Int), .string s3, .string r3])
                obtain ⟨a0, a1, a2⟩ := box_load Xa302.out
                obtain ⟨b0, b1, b2⟩ := box_load Xb302.out
                obtain ⟨c0, c1, c2⟩ := box_load Xc302.out
                go_wp2_with fail
                refine (DD.out _ k2 hk2 _ Lt302.out).mono ?_
                clear a0 a1 a2 b0 b1 b2 c0 c1 c2
                rintro e w302 ⟨rfl, hz⟩
                have B303 := Lib.hid (B302.out.trans (hz.mono B302.out.size))
                have Xa303 := Lib.hid (Xa302.out.call hz)
                have Xb303 := Lib.hid (Xb302.out.call hz)
                have Xc303 := Lib.hid (Xc302.out.call hz)
                have Lh303 := Lib.hid (Lh302.out.call hz)
                have Lt303 := Lib.hid (Lt302.out.call hz)
                clear hz
                obtain ⟨a0, a1, a2⟩ := box_load Xa303.out
                obtain ⟨b0, b1, b2⟩ := box_load Xb303.out
                obtain ⟨c0, c1, c2⟩ := box_load Xc303.out
                clear a0 a1 a2 b0 b1 b2 c0 c1 c2
                have B304 := Lib.hid (B303.out.alloc B303.out.size (.cells #[.int .i64 (j : Int), .string s3, .string r3] 24))
                have Xa304 := Lib.hid (Xa303.out.alloc (.cells #[.int .i64 (j : Int), .string s3, .string r3] 24))
                have Xb304 := Lib.hid (Xb303.out.alloc (.cells #[.int .i64 (j : Int), .string s3, .string r3] 24))
                have Xc304 := Lib.hid (Xc303.out.alloc (.cells #[.int .i64 (j : Int), .string s3, .string r3] 24))
                have Lh304 := Lib.hid (Lh303.out.alloc (.cells #[.int .i64 (j : Int), .string s3, .string r3] 24))
                have Lt304 := Lib.hid (Lt303.out.alloc (.cells #[.int .i64 (j : Int), .string s3, .string r3] 24))
                have Xd304 := Lib.hid (Bx.new w302 24 #[.int .i64 (j : Int), .string s3, .string r3])
                obtain ⟨a0, a1, a2⟩ := box_load Xa304.out
                obtain ⟨b0, b1, b2⟩ := box_load Xb304.out
                obtain ⟨c0, c1, c2⟩ := box_load Xc304.out
                obtain ⟨d0, d1, d2⟩ := box_load Xd304.out
                go_wp2_with fail
                refine (VV.out _).mono ?_
                clear a0 a1 a2 b0 b1 b2 c0 c1 c2 d0 d1 d2
                rintro e w303 ⟨rfl, hz⟩
                have B305 := Lib.hid (B304.out.trans (hz.mono B304.out.size))
                have Xa305 := Lib.hid (Xa304.out.call hz)
                have Xb305 := Lib.hid (Xb304.out.call hz)
                have Xc305 := Lib.hid (Xc304.out.call hz)
                have Xd305 := Lib.hid (Xd304.out.call hz)
                have Lh305 := Lib.hid (Lh304.out.call hz)
                have Lt305 := Lib.hid (Lt304.out.call hz)
                clear hz
                obtain ⟨a0, a1, a2⟩ := box_load Xa305.out
                obtain ⟨b0, b1, b2⟩ := box_load Xb305.out
                obtain ⟨c0, c1, c2⟩ := box_load Xc305.out
                obtain ⟨d0, d1, d2⟩ := box_load Xd305.out
                go_wp2_with fail
                go_ret
                exact ⟨rfl, B305.out⟩

  · have hni : (1048576 : Int) < (n : Int) := by omega
    go_enter Tryd.func3, Tryd.ntmps3
    go_wp2_with fail
    go_ret
    exact ⟨rfl, Below.refl _ _⟩

end Go.Proofs.YtpaoffjicgmleaaDoor
