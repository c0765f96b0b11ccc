/-
  The walk of FnIsDefinable. Condition: texts below the reach.
-/
import Derived.Test.YtgnmlijfenjehaaDoorDraw12
import Derived.Test.YtgnmlijfenjehaaDoorDefS
import Derived.Test.YtgnmlijfenjehaaDoorDefP
import Derived.Test.YtgnmlijfenjehaaDoorGs
namespace Go.Proofs.YtgnmlijfenjehaaDoor
open Go.RowKit
open Pl
set_option linter.unusedSimpArgs false
set_option linter.unusedVariables false

attribute [local go_sem ↓] Go.wp_at_zero Go.wp_at_succ

theorem own_openZ {W : World} {base : Nat} {v : Value} {zs : List Int} (h : W.ownsRow base 3 1 v zs.length (intsV zs)) : ∃ A cap, v = .slice A zs.length cap ∧ zs.length ≤ cap ∧ LRow W A zs := by
  have h0 := h
  rcases h.2 with ⟨rfl, hn⟩ | ⟨g, cap, cur, rfl, _, _, hc, _⟩
  · exact ⟨none, 0, by rw [hn], by omega, fun hl => by omega⟩
  · exact ⟨some ⟨g, 0, none⟩, cap, rfl, hc, LRow_of h0⟩
theorem own_call {W W' : World} {base n : Nat} {e : TypeId} {v : Value} {xs : List Value} (h : W.ownsRow base e 1 v n xs) (hb : Below W.heap.size W W') : W'.ownsRow base e 1 v n xs := by
  obtain ⟨h1, h2⟩ := h
  refine ⟨h1, ?_⟩
  rcases h2 with h2 | ⟨g, c, cur, hv, hg, hh, hr⟩
  · exact .inl h2
  · exact .inr ⟨g, c, cur, hv, hg, (hb.block g (Array.getElem?_eq_some_iff.1 hh).1).trans hh, hr⟩
theorem own_others {W W' : World} {base n : Nat} {e : TypeId} {v : Value} {xs : List Value} {row : Option Nat} (h : W.ownsRow base e 1 v n xs) (hg : W.grownBy W' row) (hne : v.ownBlock ≠ row ∨ v.ownBlock = none) : W'.ownsRow base e 1 v n xs := by
  obtain ⟨h1, h2⟩ := h
  refine ⟨h1, ?_⟩
  rcases h2 with h2 | ⟨g, c, cur, hv, hb, hh, hr⟩
  · exact .inl h2
  · refine .inr ⟨g, c, cur, hv, hb, (hg.block g (Array.getElem?_eq_some_iff.1 hh).1 (fun e => ?_)).trans hh, hr⟩
    rcases hne with hne | hne
    · exact hne (by rw [hv]; exact e)
    · rw [hv] at hne; cases hne
/-- two lists do not share a block -/
def Apart (v u : Value) : Prop := v.ownBlock ≠ u.ownBlock ∨ v.ownBlock = none
theorem Apart.next {W : World} {base n H : Nat} {e : TypeId} {v u u' : Value} {xs : List Value} (h : Apart v u) (ho : W.ownsRow base e 1 v n xs) (hH : W.heap.size ≤ H) (hat : u'.ownBlock = u.ownBlock ∨ u'.ownBlock = some H) : Apart v u' := by
  rcases h with h | h
  · rcases hat with hat | hat
    · exact .inl (by rw [hat]; exact h)
    · refine .inl fun e => ?_
      rw [hat] at e
      have := (ho.lt _ e).2
      omega
  · exact .inr h
theorem Apart.symm {v u : Value} (h : Apart v u) : Apart u v := by
  cases hu : u.ownBlock with
  | none => exact .inr hu
  | some g =>
    rcases h with h | h
    · exact .inl (Ne.symm h)
    · exact .inl (by rw [h, hu]; simp)
theorem Apart.new {W W' : World} {base base' n n' : Nat} {e : TypeId} {v u : Value} {xs ys : List Value} (hv : W.ownsRow base e 1 v n xs) (hu : W'.ownsRow base' e 1 u n' ys) (hb : W.heap.size ≤ base') : Apart v u := by
  cases h : v.ownBlock with
  | none => exact .inr h
  | some g =>
    refine .inl fun e => ?_
    have h1 := (hv.lt g h).2
    have h2 := (hu.lt g (by rw [← e, h])).1
    omega
theorem natsI_snoc (l : List Nat) (k : Nat) : intsV (natsI (l ++ [k])) = intsV (natsI l) ++ [.int .i64 (k : Nat)] := by simp [intsV, natsI]
theorem intsV_snoc (l : List Int) (k : Int) : intsV (l ++ [k]) = intsV l ++ [.int .i64 k] := by simp [intsV]
theorem mod_at {n m : Nat} : (n : Int).tmod (m : Int) = ((n % m : Nat) : Int) := by rw [Int.ofNat_tmod]


theorem def_any (i : Int) (s r : ByteArray) (L : List Int) (W : World) (b : Nat) (v : Value) (hs : s.size ≤ 100) (hr : r.size ≤ 100) (hL : L.length ≤ 100) (hd : defB i s r L = true) (ho : W.ownsRow b 3 1 v L.length (intsV L)) :
    Calls Tryd.prog 13 #[stV i s r, v] W fun e w' => e = .returned (.bool true) ∧ Below W.heap.size W w' := by
  obtain ⟨A, cap, rfl, hc, hrow⟩ := own_openZ ho
  have h := IsDefinable_impl i s r A L cap W (by unfold maxLen; omega) (by unfold maxLen; omega) (by omega) hc hrow
  rwa [hd] at h
theorem def_anyN (i : Int) (s r : ByteArray) (L : List Nat) (W : World) (b : Nat) (v : Value) (hs : s.size ≤ 100) (hr : r.size ≤ 100) (hL : L.length ≤ 100) (hd : defB i s r (natsI L) = true) (ho : W.ownsRow b 3 1 v L.length (intsV (natsI L))) :
    Calls Tryd.prog 13 #[stV i s r, v] W fun e w' => e = .returned (.bool true) ∧ Below W.heap.size W w' :=
  def_any i s r (natsI L) W b v hs hr (by rw [natsI_len]; exact hL) hd (by rw [natsI_len]; exact ho)
theorem has_anyZ (zs : List Int) (x : Int) (W : World) (b : Nat) (v : Value) (hL : zs.length ≤ 100) (ho : W.ownsRow b 3 1 v zs.length (intsV zs)) :
    Calls Tryd.prog 18 #[v, .int .i64 x] W fun e w' => e = .returned (.bool (decide (x ∈ zs))) ∧ W = w' := by
  obtain ⟨A, cap, rfl, hc, hrow⟩ := own_openZ ho
  exact gsHas_calls A zs cap x W (by omega) hrow

set_option maxHeartbeats 4000000 in
set_option maxRecDepth 100000 in
theorem FnIsDefinable_walk (A : Option Addr) (n cap : Nat) (A2 : Option Addr) (n2 cap2 : Nat) (w : World) (h : ByRow w A n) (hc : n ≤ cap) (hm : cap ≤ maxLen) (h2 : ByRow w A2 n2) (hc2 : n2 ≤ cap2) (hm2 : cap2 ≤ maxLen) :
    Calls Tryd.prog 4 #[.slice A n cap, .slice A2 n2 cap2] w fun e w' => e = .returned (.bool true) ∧ Below w.heap.size w w' := by
  obtain ⟨i0, hi, hz0, hz1, hz2⟩ := info_parts (P := Tryd.prog) (e := 3) (z := .int .i64 0) (size := 1) (bytes := 8) (by kernel_rfl)
  by_cases hn : n ≤ 1048576
  · by_cases hn2 : n2 ≤ 1048576
    · have hd := DrawIsDefinable_calls A n cap w h hn hc hm
      have HD := Lib.hid hd
      have hni : ¬ (1048576 : Int) < (n : Int) := by omega
      have hni2 : ¬ (1048576 : Int) < (n2 : Int) := by omega
      clear hd h h2 hc hm hc2 hm2
      go_enter Tryd.func4, Tryd.ntmps4
      go_wp2_with fail
      refine (HD.out).mono ?_
      rintro e w1 ⟨⟨i, s, r, zs, g1, c1, rfl, hs, hr, hzl, hzc, hrow⟩, hz⟩
      have B0 := Lib.hid hz
      have LZ0 := Lib.hid hrow
      have ci := fun (W : World) (hW : LRow W (some ⟨g1, 0, none⟩) zs) => IsDefinable_impl i s r (some ⟨g1, 0, none⟩) zs c1 W (by unfold maxLen; omega) (by unfold maxLen; omega) (by omega) hzc hW
      have cs := fun (W : World) (hW : LRow W (some ⟨g1, 0, none⟩) zs) => IsDefinable_spec i s r (some ⟨g1, 0, none⟩) zs c1 W (by unfold maxLen; omega) (by unfold maxLen; omega) (by omega) hzc hW
      have cv := fun (W : World) => StructureValid_impl i s r W (by unfold maxLen; omega) (by unfold maxLen; omega)
      clear hz hrow hzc
      rcases ok_cases i s r with hok | ⟨a, ha, rfl, rfl, rfl⟩
      · have hdef : defB i s r zs = false := by unfold defB; rw [hok]; rfl
        have CI := Lib.hid (show ∀ W, LRow W (some ⟨g1, 0, none⟩) zs → Calls Tryd.prog 13 #[stV i s r, .slice (some ⟨g1, 0, none⟩) zs.length c1] W fun e w' => e = .returned (.bool false) ∧ Below W.heap.size W w' from fun W hW => by
          have h := ci W hW
          rwa [hdef] at h)
        have CS := Lib.hid (show ∀ W, LRow W (some ⟨g1, 0, none⟩) zs → Calls Tryd.prog 10 #[stV i s r, .slice (some ⟨g1, 0, none⟩) zs.length c1] W fun e w' => e = .returned (.bool false) ∧ Below W.heap.size W w' from fun W hW => by
          have h := cs W hW
          rwa [hdef] at h)
        have VV := Lib.hid (show ∀ W, Calls Tryd.prog 16 #[stV i s r] W fun e w' => e = .returned (.bool false) ∧ Below W.heap.size W w' from fun W => by
          have h := cv W
          rwa [hok] at h)
        clear ci cs cv
        clear hok hdef hs hr
        have B1 := Lib.hid (B0.out.alloc B0.out.size (.cells #[.int .i64 i, .string s, .string r] 27))
        have Xa1 := Lib.hid (Bx.new w1 27 #[.int .i64 i, .string s, .string r])
        have LZ := Lib.hid (LZ0.out.alloc (.cells #[.int .i64 i, .string s, .string r] 27))
        obtain ⟨a0, a1, a2⟩ := box_load Xa1.out
        go_wp2_with fail
        refine (CI.out _ LZ.out).mono ?_
        clear a0 a1 a2
        rintro e w2 ⟨rfl, hz⟩
        have B2 := Lib.hid (B1.out.trans (hz.mono B1.out.size))
        have Xa2 := Lib.hid (Xa1.out.call hz)
        have Lz2 := Lib.hid (LZ.out.call hz)
        clear hz
        obtain ⟨a0, a1, a2⟩ := box_load Xa2.out
        go_wp2_with fail
        refine (CS.out _ Lz2.out).mono ?_
        clear a0 a1 a2
        rintro e w3 ⟨rfl, hz⟩
        have B3 := Lib.hid (B2.out.trans (hz.mono B2.out.size))
        have Xa3 := Lib.hid (Xa2.out.call hz)
        have Lz3 := Lib.hid (Lz2.out.call hz)
        clear hz
        obtain ⟨a0, a1, a2⟩ := box_load Xa3.out
        go_wp2_with fail
        refine (VV.out _).mono ?_
        clear a0 a1 a2
        rintro e w4 ⟨rfl, hz⟩
        have B4 := Lib.hid (B3.out.trans (hz.mono B3.out.size))
        have Xa4 := Lib.hid (Xa3.out.call hz)
        have Lz4 := Lib.hid (Lz3.out.call hz)
        clear hz
        obtain ⟨a0, a1, a2⟩ := box_load Xa4.out
        go_wp2_with fail
        refine (CS.out _ Lz4.out).mono ?_
        clear a0 a1 a2
        rintro e w5 ⟨rfl, hz⟩
        have B5 := Lib.hid (B4.out.trans (hz.mono B4.out.size))
        have Xa5 := Lib.hid (Xa4.out.call hz)
        have Lz5 := Lib.hid (Lz4.out.call hz)
        clear hz
        obtain ⟨a0, a1, a2⟩ := box_load Xa5.out
        go_wp2_with fail
        go_ret
        exact ⟨rfl, B5.out⟩
      · have hok := okB_true ha
        have hn1 := ha.lo
        have hn8 := ha.hi
        have hxm : n2 % a.n < a.n := Nat.mod_lt _ (by omega)
        have hq := defB_orbit ha hxm
        have hrest := fun h => @defB_rest a ha zs h
        have hboth := fun h => @defB_both a ha zs h _ hxm
        have hol := orbV_le (a.n : Int) (bs a.set) (bs a.rel) ((n2 % a.n : Nat) : Int)
        obtain ⟨R, hR⟩ : ∃ R, R = orbV (a.n : Int) (bs a.set) (bs a.rel) ((n2 % a.n : Nat) : Int) := ⟨_, rfl⟩
        have hrem : (n2 : Int).tmod (a.n : Int) = ((n2 % a.n : Nat) : Int) := mod_at
        have hm0 : ((a.n : Int) == 0) = false := beq_eq_false_iff_ne.2 (by omega)
        rw [← hR] at hq hboth hol
        clear ha
        generalize a.n = m at *
        generalize bs a.set = s at *
        generalize bs a.rel = r at *
        generalize n2 % m = x0 at *
        have co := fun (W : World) => OrbitOf_impl (m : Int) s r (x0 : Nat) W (by unfold maxLen; omega) (by unfold maxLen; omega)
        rw [← hR] at co
        have CO := Lib.hid co
        have CQ := Lib.hid (fun (W : World) (b : Nat) (v : Value) ho => def_anyN (m : Int) s r R W b v hs hr (by omega) hq ho)
        have CH := Lib.hid (fun (W : World) (c : Nat) (x : Int) (hW : LRow W (some ⟨g1, 0, none⟩) zs) => gsHas_calls (some ⟨g1, 0, none⟩) zs c x W (by omega) hW)
        have CG := Lib.hid (fun (W : World) (b : Nat) (v : Value) (x : Int) (j : Nat) (ho : W.ownsRow b 3 1 v (bothZ zs R j).length (intsV (bothZ zs R j))) hl => has_anyZ (bothZ zs R j) x W b v hl ho)
        clear hR co hq
        cases hdef : defB (m : Int) s r zs with
        | false =>
          have CI := Lib.hid (show ∀ W, LRow W (some ⟨g1, 0, none⟩) zs → Calls Tryd.prog 13 #[stV (m : Int) s r, .slice (some ⟨g1, 0, none⟩) zs.length c1] W fun e w' => e = .returned (.bool false) ∧ Below W.heap.size W w' from fun W hW => by
            have h := ci W hW
            rwa [hdef] at h)
          have CS := Lib.hid (show ∀ W, LRow W (some ⟨g1, 0, none⟩) zs → Calls Tryd.prog 10 #[stV (m : Int) s r, .slice (some ⟨g1, 0, none⟩) zs.length c1] W fun e w' => e = .returned (.bool false) ∧ Below W.heap.size W w' from fun W hW => by
            have h := cs W hW
            rwa [hdef] at h)
          have VV := Lib.hid (show ∀ W, Calls Tryd.prog 16 #[stV (m : Int) s r] W fun e w' => e = .returned (.bool true) ∧ Below W.heap.size W w' from fun W => by
            have h := cv W
            rwa [hok] at h)
          clear ci cs cv
          clear hok hdef hs hr hrest hboth
          have B1 := Lib.hid (B0.out.alloc B0.out.size (.cells #[.int .i64 (m : Int), .string s, .string r] 27))
          have Xa1 := Lib.hid (Bx.new w1 27 #[.int .i64 (m : Int), .string s, .string r])
          have LZ := Lib.hid (LZ0.out.alloc (.cells #[.int .i64 (m : Int), .string s, .string r] 27))
          obtain ⟨a0, a1, a2⟩ := box_load Xa1.out
          go_wp2_with fail
          refine (CI.out _ LZ.out).mono ?_
          clear a0 a1 a2
          rintro e w2 ⟨rfl, hz⟩
          have B2 := Lib.hid (B1.out.trans (hz.mono B1.out.size))
          have Xa2 := Lib.hid (Xa1.out.call hz)
          have Lz2 := Lib.hid (LZ.out.call hz)
          clear hz
          obtain ⟨a0, a1, a2⟩ := box_load Xa2.out
          go_wp2_with fail
          refine (CS.out _ Lz2.out).mono ?_
          clear a0 a1 a2
          rintro e w3 ⟨rfl, hz⟩
          have B3 := Lib.hid (B2.out.trans (hz.mono B2.out.size))
          have Xa3 := Lib.hid (Xa2.out.call hz)
          have Lz3 := Lib.hid (Lz2.out.call hz)
          clear hz
          obtain ⟨a0, a1, a2⟩ := box_load Xa3.out
          go_wp2_with fail
          refine (VV.out _).mono ?_
          clear a0 a1 a2
          rintro e w4 ⟨rfl, hz⟩
          have B4 := Lib.hid (B3.out.trans (hz.mono B3.out.size))
          have Xa4 := Lib.hid (Xa3.out.call hz)
          have Lz4 := Lib.hid (Lz3.out.call hz)
          clear hz
          obtain ⟨a0, a1, a2⟩ := box_load Xa4.out
          clear a0 a1 a2
          go_upto_region 9 with (at_builtin; refine wpList_append_own_at _ rfl (.tmp 45) (.tmp 46) 24 rfl w4.heap.size 3 i0 (.int .i64 0) 1 8 Tryd.underlying24 hi hz0 hz1 hz2 rfl (by decide) _ 0 [] rfl (own_zero2 w4 (.cells #[] 3)) ⟨g1, 0, none⟩ zs.length _ (intsV zs) rfl (by simp [intsV_len]) (LRow.news ((Lz4.out.alloc (.cells #[] 3)).alloc (.cells #[] 3))) (ints_oneCell .i64 _) (by unfold maxLen; omega) (by omega) (by simp; omega) ?_; intro vb w20 hob hg hnn hat; clear hnn; have BS0 := Lib.hid ((((Below.refl w4.heap.size w4).alloc (Nat.le_refl _) (.cells #[] 3)).alloc (by simp) (.cells #[] 3)).grown hg (by simp; omega) (fun j hj => ((own_zero2 w4 (.cells #[] 3)).lt j hj).1)); have hor := (own_zero w4).alloc (.cells #[] 3); have hap : Apart (.slice (some ⟨w4.heap.size, 0, none⟩) 0 0) (.slice (some ⟨w4.heap.size + 1, 0, none⟩) 0 0) := .inl (by simp [Value.ownBlock]); have Ap1 := Lib.hid (hap.next hor (Nat.le_refl _) hat); have Or0 := Lib.hid (own_others hor hg hap); have Ob0 := Lib.hid (show w20.ownsRow w4.heap.size 3 1 vb zs.length (intsV zs) from by simpa using hob); clear hob hg hat hap hor)
          generalize hvr : Value.slice (some ⟨w4.heap.size, 0, none⟩) 0 0 = vr at *
          have BS1 := Lib.hid BS0.out.drew
          have Or1 := Lib.hid (own_call Or0.out (Below.refl w20.heap.size w20).drew)
          have Ob1 := Lib.hid (own_call Ob0.out (Below.refl w20.heap.size w20).drew)
          have Xa40 := Lib.hid (Xa4.out.call BS1.out)
          obtain ⟨a0, a1, a2⟩ := box_load Xa40.out
          refine region_sched [(0, true), (1, true), (2, true), (3, true), (4, true), (5, true), (6, false), (7, true)] (fun w' : World => w'.cell? ⟨w1.heap.size, 0, none⟩ = some (.int .i64 (m : Int)) ∧ w'.cell? ⟨w1.heap.size, 1, none⟩ = some (.string s) ∧ w'.cell? ⟨w1.heap.size, 2, none⟩ = some (.string r)) (by kernel_rfl) (by kernel_rfl) (by kernel_rfl) (by kernel_rfl) (fun _ _ _ _ h => h) ?_ (fun Q1 hQ1 => ?_)
          · exact ⟨a0, a1, a2⟩
          try simp only [List.append]
          refine sched_take' (v := .agg #[.int .i64 (m : Int), .string s, .string r]) (a' := ?_) rfl (by kernel_rfl) ?_ rfl ?_ ?_
          rotate_left 1
          · intro w hSw
            (try dsimp only at hSw)
            go_simp
            first | done | (obtain ⟨u0, u1, u2⟩ := hSw; simp [*])
          · (try simp only [Act.put, List.setIfInBounds_toArray, List.set_cons_zero, List.set_cons_succ])
            try rfl
          refine sched_take' (v := ?_) (a' := ?_) rfl (by kernel_rfl) ?_ rfl ?_ ?_
          rotate_left 2
          · intro w hSw
            (try dsimp only at hSw)
            go_simp
            try with_reducible rfl
          · (try simp only [Act.put, List.setIfInBounds_toArray, List.set_cons_zero, List.set_cons_succ])
            try rfl
          refine sched_take' (v := ?_) (a' := ?_) rfl (by kernel_rfl) ?_ rfl ?_ ?_
          rotate_left 2
          · intro w hSw
            (try dsimp only at hSw)
            go_simp
            try with_reducible rfl
          · (try simp only [Act.put, List.setIfInBounds_toArray, List.set_cons_zero, List.set_cons_succ])
            try rfl
          refine sched_take' (v := ?_) (a' := ?_) rfl (by kernel_rfl) ?_ rfl ?_ ?_
          rotate_left 2
          · intro w hSw
            (try dsimp only at hSw)
            go_simp
            try with_reducible rfl
          · (try simp only [Act.put, List.setIfInBounds_toArray, List.set_cons_zero, List.set_cons_succ])
            try rfl
          refine sched_take' (v := .int .i64 (m : Int)) (a' := ?_) rfl (by kernel_rfl) ?_ rfl ?_ ?_
          rotate_left 1
          · intro w hSw
            (try dsimp only at hSw)
            go_simp
            first | done | (obtain ⟨u0, u1, u2⟩ := hSw; simp [*])
          · (try simp only [Act.put, List.setIfInBounds_toArray, List.set_cons_zero, List.set_cons_succ])
            try rfl
          refine sched_take' (v := .int .i64 ((x0 : Nat) : Int)) (a' := ?_) rfl (by kernel_rfl) ?_ rfl ?_ ?_
          rotate_left 1
          · intro w hSw
            (try dsimp only at hSw)
            go_simp
            first | done | omega | exact hrem | (simp [*]; done) | (simp [hrem, hm0]; done) | (rw [hrem])
          · (try simp only [Act.put, List.setIfInBounds_toArray, List.set_cons_zero, List.set_cons_succ])
            try rfl
          refine sched_call rfl (by kernel_rfl) (fun K1 hK1 => ?_)
          go_simp
          refine (CO.out _).mono ?_
          rintro e w21 ⟨⟨vo, rfl, ho⟩, hz⟩
          have BS2 := Lib.hid (BS1.out.trans (hz.mono BS1.out.size))
          have Ao1 := Lib.hid (Apart.symm (Apart.new Or1.out ho (Nat.le_refl _)))
          have Ao2 := Lib.hid (Apart.symm (Apart.new Ob1.out ho (Nat.le_refl _)))
          have Or2 := Lib.hid (own_call Or1.out hz)
          have Ob2 := Lib.hid (own_call Ob1.out hz)
          have Oo2 := Lib.hid (own_low ho BS1.out.size)
          obtain ⟨Ao, co, rfl, _⟩ := own_open ho
          have Xa41 := Lib.hid (Xa40.out.call hz)
          clear hz ho a0 a1 a2
          obtain ⟨a0, a1, a2⟩ := box_load Xa41.out
          go_wp2_with fail
          refine hK1.out _ _ ?_ (sched_lay (a' := ?_) ?_ ?_)
          · exact ⟨a0, a1, a2⟩
          rotate_left 1
          · (try simp only [Act.put, List.getElem_toArray, List.getElem_cons_succ, List.getElem_cons_zero, List.setIfInBounds_toArray, List.set_cons_zero, List.set_cons_succ])
            try rfl
          clear hK1 K1
          refine sched_take' (v := ?_) (a' := ?_) rfl (by kernel_rfl) ?_ rfl ?_ ?_
          rotate_left 2
          · intro w hSw
            (try dsimp only at hSw)
            go_simp
            try with_reducible rfl
          · (try simp only [Act.put, List.setIfInBounds_toArray, List.set_cons_zero, List.set_cons_succ])
            try rfl
          refine sched_done (hQ1.out _ _ ?_)
          clear a0 a1 a2 hrem
          go_wp2_with fail
          go_loopg [8, 11] m (fun c ro xi wr => ∃ k : Nat, k + c = m ∧ xi = .int .i64 (k : Nat) ∧ Apart vb ro ∧ Apart (.slice Ao R.length co) ro ∧ wr.ownsRow w4.heap.size 3 1 ro (restZ zs k).length (intsV (natsI (restZ zs k))) ∧ wr.ownsRow w4.heap.size 3 1 vb (zs).length (intsV (zs)) ∧ wr.ownsRow w4.heap.size 3 1 (.slice Ao R.length co) R.length (intsV (natsI R)) ∧ Below w4.heap.size w4 wr)
          case atStart => exact ⟨0, by omega, rfl, Apart.symm Ap1.out, Ao1.out, Or2.out, Ob2.out, Oo2.out, BS2.out⟩
          case round =>
            obtain ⟨k, hk, rfl, ha1, ha2, hr1, hr2, hr3, hbs⟩ := hrel
            have A1 := Lib.hid ha1
            have A2 := Lib.hid ha2
            have Or3 := Lib.hid hr1
            have Ob3 := Lib.hid hr2
            have Oo3 := Lib.hid hr3
            have BS3 := Lib.hid hbs
            have Xa3 := Lib.hid (Xa4.out.call hbs)
            have Lz3 := Lib.hid (Lz4.out.call hbs)
            clear ha1 ha2 hr1 hr2 hr3 hbs Or0 Ob0 Or1 Ob1 Or2 Ob2 Oo2 BS0 BS1 BS2 Xa40 Xa41 Ap1
            obtain ⟨a0, a1, a2⟩ := box_load Xa3.out
            by_cases hlt : k < m
            · have hki : (k : Int) < (m : Int) := by omega
              have hrl := restZ_len zs k
              by_cases hin : (k : Int) ∈ zs
              · have ch := CH.out wr c1 (k : Int) Lz3.out
                rw [decide_eq_true hin] at ch
                have Hch := Lib.hid ch
                have hsc := restZ_succ zs k
                rw [if_pos hin] at hsc
                have Hsc := Lib.hid hsc
                clear ch hin hsc
                go_wp2_with fail
                refine (Hch.out).mono ?_
                rintro e w30 ⟨rfl, rfl⟩
                go_wp2_with fail
                go_roundg (m - k - 1)
                case rel => exact ⟨k + 1, by omega, by go_num, A1.out, A2.out, by rw [Hsc.out]; exact Or3.out, Ob3.out, Oo3.out, BS3.out⟩
                case measure => omega
              · have ch := CH.out wr c1 (k : Int) Lz3.out
                rw [decide_eq_false hin] at ch
                have Hch := Lib.hid ch
                have hsc := restZ_succ zs k
                rw [if_neg hin] at hsc
                have Hsc := Lib.hid hsc
                clear ch hin hsc
                go_wp2_with fail
                refine (Hch.out).mono ?_
                rintro e w29 ⟨rfl, rfl⟩
                go_wp2_with (at_builtin; refine wpList_append_own_at _ rfl (.tmp 65) (.tmp 67) 24 rfl w4.heap.size 3 i0 (.int .i64 0) 1 8 Tryd.underlying24 hi hz0 hz1 hz2 rfl (by decide) _ (restZ zs k).length (intsV (natsI (restZ zs k))) rfl (Or3.out.alloc _) ⟨wr.heap.size, 0, none⟩ 1 1 [.int .i64 (k : Nat)] rfl rfl (cell_one_new _ _ _) (ints_oneCell .i64 [((k : Nat) : Int)]) (by unfold maxLen; omega) (by omega) (by have := BS3.out.size; simp; omega) ?_; intro v2 w30 ho hg hnn hat; clear hnn; have BS4 := Lib.hid ((BS3.out.alloc BS3.out.size (.cells #[.int .i64 (k : Nat)] 3)).grown hg (by have := BS3.out.size; simp; omega) (fun j hj => (Or3.out.lt j hj).1)); have Ob4 := Lib.hid (own_others (Ob3.out.alloc (.cells #[.int .i64 (k : Nat)] 3)) hg A1.out); have Oo4 := Lib.hid (own_others (Oo3.out.alloc (.cells #[.int .i64 (k : Nat)] 3)) hg A2.out); have A14 := Lib.hid (A1.out.next (Ob3.out.alloc (.cells #[.int .i64 (k : Nat)] 3)) (Nat.le_refl _) hat); have A24 := Lib.hid (A2.out.next (Oo3.out.alloc (.cells #[.int .i64 (k : Nat)] 3)) (Nat.le_refl _) hat); have Or4 := Lib.hid ho; clear ho hg hat)
                go_roundg (m - k - 1)
                case rel => exact ⟨k + 1, by omega, by go_num, A14.out, A24.out, by rw [Hsc.out, natsI_snoc, List.length_append, List.length_singleton]; exact Or4.out, Ob4.out, Oo4.out, BS4.out⟩
                case measure => omega
            · obtain rfl : k = m := by omega
              clear hlt
              go_wp2_with fail
              go_loopg [9, 12] R.length (fun c bo xi wq => ∃ j : Nat, j + c = R.length ∧ xi = .int .i64 (j : Nat) ∧ Apart u8 bo ∧ Apart (.slice Ao R.length co) bo ∧ wq.ownsRow w4.heap.size 3 1 u8 (restZ zs k).length (intsV (natsI (restZ zs k))) ∧ wq.ownsRow w4.heap.size 3 1 bo (bothZ zs R j).length (intsV (bothZ zs R j)) ∧ wq.ownsRow w4.heap.size 3 1 (.slice Ao R.length co) R.length (intsV (natsI R)) ∧ Below w4.heap.size w4 wq)
              case atStart => exact ⟨0, by omega, rfl, Apart.symm A1.out, Ao2.out, Or3.out, Ob3.out, Oo3.out, BS3.out⟩
              case round =>
                clear a0 a1 a2
                obtain ⟨j, hj, rfl, ha1, ha2, hr1, hr2, hr3, hbs⟩ := hrel
                have A3 := Lib.hid ha1
                have A4 := Lib.hid ha2
                have Or5 := Lib.hid hr1
                have Ob5 := Lib.hid hr2
                have Oo5 := Lib.hid hr3
                have BS5 := Lib.hid hbs
                have Xa5 := Lib.hid (Xa4.out.call hbs)
                have Lo5 := Lib.hid (LRow_of hr3)
                clear ha1 ha2 hr1 hr2 hr3 hbs A1 A2 Or3 Ob3 Oo3 BS3 Xa3 Lz3
                obtain ⟨a0, a1, a2⟩ := box_load Xa5.out
                by_cases hlt : j < R.length
                · have hji : (j : Int) < (R.length : Int) := by omega
                  have hj0 : (0 : Int) ≤ (j : Int) := by omega
                  have hbl := bothZ_len zs R j
                  obtain ⟨go, rfl, d1⟩ := Lo5.out.nats hlt
                  have hsc := bothZ_succ zs R j
                  have eapp : app R j = R.getD j 0 := rfl
                  rw [← eapp] at d1
                  generalize app R j = y at *
                  clear eapp
                  by_cases hin : ((y : Nat) : Int) ∈ bothZ zs R j
                  · have ch := CG.out wr _ _ (y : Int) j Ob5.out (by omega)
                    rw [decide_eq_true hin] at ch
                    have Hch := Lib.hid ch
                    rw [if_pos hin] at hsc
                    have Hsc := Lib.hid hsc
                    clear ch hin hsc
                    go_wp2_with fail
                    refine (Hch.out).mono ?_
                    rintro e w30 ⟨rfl, rfl⟩
                    go_wp2_with fail
                    go_roundg (gk - 1)
                    case rel => exact ⟨j + 1, by omega, by go_num, A3.out, A4.out, Or5.out, by rw [Hsc.out]; exact Ob5.out, Oo5.out, BS5.out⟩
                    case measure => omega
                  · have ch := CG.out wr _ _ (y : Int) j Ob5.out (by omega)
                    rw [decide_eq_false hin] at ch
                    have Hch := Lib.hid ch
                    rw [if_neg hin] at hsc
                    have Hsc := Lib.hid hsc
                    clear ch hin hsc
                    go_wp2_with fail
                    refine (Hch.out).mono ?_
                    rintro e w29 ⟨rfl, rfl⟩
                    go_wp2_with (at_builtin; refine wpList_append_own_at _ rfl (.tmp 82) (.tmp 87) 24 rfl w4.heap.size 3 i0 (.int .i64 0) 1 8 Tryd.underlying24 hi hz0 hz1 hz2 rfl (by decide) _ (bothZ zs R j).length (intsV (bothZ zs R j)) rfl (Ob5.out.alloc _) ⟨wr.heap.size, 0, none⟩ 1 1 [.int .i64 ((y : Nat) : Int)] rfl rfl (cell_one_new _ _ _) (ints_oneCell .i64 [((y : Nat) : Int)]) (by unfold maxLen; omega) (by omega) (by have := BS5.out.size; simp; omega) ?_; intro v2 w30 ho hg hnn hat; clear hnn; have BS6 := Lib.hid ((BS5.out.alloc BS5.out.size (.cells #[.int .i64 ((y : Nat) : Int)] 3)).grown hg (by have := BS5.out.size; simp; omega) (fun j hj => (Ob5.out.lt j hj).1)); have Or6 := Lib.hid (own_others (Or5.out.alloc (.cells #[.int .i64 ((y : Nat) : Int)] 3)) hg A3.out); have Oo6 := Lib.hid (own_others (Oo5.out.alloc (.cells #[.int .i64 ((y : Nat) : Int)] 3)) hg A4.out); have A36 := Lib.hid (A3.out.next (Or5.out.alloc (.cells #[.int .i64 ((y : Nat) : Int)] 3)) (Nat.le_refl _) hat); have A46 := Lib.hid (A4.out.next (Oo5.out.alloc (.cells #[.int .i64 ((y : Nat) : Int)] 3)) (Nat.le_refl _) hat); have Ob6 := Lib.hid ho; clear ho hg hat)
                    go_roundg (gk - 1)
                    case rel => exact ⟨j + 1, by omega, by go_num, A36.out, A46.out, Or6.out, by rw [Hsc.out, intsV_snoc, List.length_append, List.length_singleton]; exact Ob6.out, Oo6.out, BS6.out⟩
                    case measure => omega
                · obtain rfl : j = R.length := by omega
                  clear hlt
                  have BE := Lib.hid (B4.out.trans (BS5.out.mono B4.out.size))
                  go_wp2_with fail
                  refine (CQ.out _ _ _ Oo5.out).mono ?_
                  rintro e w40 ⟨rfl, hz⟩
                  have BE2 := Lib.hid (BE.out.trans (hz.mono BE.out.size))
                  have Or7 := Lib.hid (own_call Or5.out hz)
                  have Ob7 := Lib.hid (own_call Ob5.out hz)
                  have Xa7 := Lib.hid (Xa5.out.call hz)
                  clear hz a0 a1 a2
                  go_wp2_with fail
                  go_ret
                  exact ⟨rfl, BE2.out⟩
        | true =>
          have CR := Lib.hid (fun (W : World) (b : Nat) (v : Value) ho => def_anyN (m : Int) s r (restZ zs m) W b v hs hr (by have := restZ_len zs m; omega) (hrest hdef) ho)
          have CB := Lib.hid (fun (W : World) (b : Nat) (v : Value) ho => def_any (m : Int) s r (bothZ zs R R.length) W b v hs hr (by have := bothZ_len zs R R.length; omega) (hboth hdef) ho)
          have CI := Lib.hid (show ∀ W, LRow W (some ⟨g1, 0, none⟩) zs → Calls Tryd.prog 13 #[stV (m : Int) s r, .slice (some ⟨g1, 0, none⟩) zs.length c1] W fun e w' => e = .returned (.bool true) ∧ Below W.heap.size W w' from fun W hW => by
            have h := ci W hW
            rwa [hdef] at h)
          have CS := Lib.hid (show ∀ W, LRow W (some ⟨g1, 0, none⟩) zs → Calls Tryd.prog 10 #[stV (m : Int) s r, .slice (some ⟨g1, 0, none⟩) zs.length c1] W fun e w' => e = .returned (.bool true) ∧ Below W.heap.size W w' from fun W hW => by
            have h := cs W hW
            rwa [hdef] at h)
          have VV := Lib.hid (show ∀ W, Calls Tryd.prog 16 #[stV (m : Int) s r] W fun e w' => e = .returned (.bool true) ∧ Below W.heap.size W w' from fun W => by
            have h := cv W
            rwa [hok] at h)
          clear ci cs cv
          clear hok hdef hs hr hrest hboth
          have B1 := Lib.hid (B0.out.alloc B0.out.size (.cells #[.int .i64 (m : Int), .string s, .string r] 27))
          have Xa1 := Lib.hid (Bx.new w1 27 #[.int .i64 (m : Int), .string s, .string r])
          have LZ := Lib.hid (LZ0.out.alloc (.cells #[.int .i64 (m : Int), .string s, .string r] 27))
          obtain ⟨a0, a1, a2⟩ := box_load Xa1.out
          go_wp2_with fail
          refine (CI.out _ LZ.out).mono ?_
          clear a0 a1 a2
          rintro e w2 ⟨rfl, hz⟩
          have B2 := Lib.hid (B1.out.trans (hz.mono B1.out.size))
          have Xa2 := Lib.hid (Xa1.out.call hz)
          have Lz2 := Lib.hid (LZ.out.call hz)
          clear hz
          obtain ⟨a0, a1, a2⟩ := box_load Xa2.out
          go_wp2_with fail
          refine (CS.out _ Lz2.out).mono ?_
          clear a0 a1 a2
          rintro e w3 ⟨rfl, hz⟩
          have B3 := Lib.hid (B2.out.trans (hz.mono B2.out.size))
          have Xa3 := Lib.hid (Xa2.out.call hz)
          have Lz3 := Lib.hid (Lz2.out.call hz)
          clear hz
          obtain ⟨a0, a1, a2⟩ := box_load Xa3.out
          go_wp2_with fail
          refine (VV.out _).mono ?_
          clear a0 a1 a2
          rintro e w4 ⟨rfl, hz⟩
          have B4 := Lib.hid (B3.out.trans (hz.mono B3.out.size))
          have Xa4 := Lib.hid (Xa3.out.call hz)
          have Lz4 := Lib.hid (Lz3.out.call hz)
          clear hz
          obtain ⟨a0, a1, a2⟩ := box_load Xa4.out
          clear a0 a1 a2
          go_upto_region 9 with (at_builtin; refine wpList_append_own_at _ rfl (.tmp 45) (.tmp 46) 24 rfl w4.heap.size 3 i0 (.int .i64 0) 1 8 Tryd.underlying24 hi hz0 hz1 hz2 rfl (by decide) _ 0 [] rfl (own_zero2 w4 (.cells #[] 3)) ⟨g1, 0, none⟩ zs.length _ (intsV zs) rfl (by simp [intsV_len]) (LRow.news ((Lz4.out.alloc (.cells #[] 3)).alloc (.cells #[] 3))) (ints_oneCell .i64 _) (by unfold maxLen; omega) (by omega) (by simp; omega) ?_; intro vb w20 hob hg hnn hat; clear hnn; have BS0 := Lib.hid ((((Below.refl w4.heap.size w4).alloc (Nat.le_refl _) (.cells #[] 3)).alloc (by simp) (.cells #[] 3)).grown hg (by simp; omega) (fun j hj => ((own_zero2 w4 (.cells #[] 3)).lt j hj).1)); have hor := (own_zero w4).alloc (.cells #[] 3); have hap : Apart (.slice (some ⟨w4.heap.size, 0, none⟩) 0 0) (.slice (some ⟨w4.heap.size + 1, 0, none⟩) 0 0) := .inl (by simp [Value.ownBlock]); have Ap1 := Lib.hid (hap.next hor (Nat.le_refl _) hat); have Or0 := Lib.hid (own_others hor hg hap); have Ob0 := Lib.hid (show w20.ownsRow w4.heap.size 3 1 vb zs.length (intsV zs) from by simpa using hob); clear hob hg hat hap hor)
          generalize hvr : Value.slice (some ⟨w4.heap.size, 0, none⟩) 0 0 = vr at *
          have BS1 := Lib.hid BS0.out.drew
          have Or1 := Lib.hid (own_call Or0.out (Below.refl w20.heap.size w20).drew)
          have Ob1 := Lib.hid (own_call Ob0.out (Below.refl w20.heap.size w20).drew)
          have Xa40 := Lib.hid (Xa4.out.call BS1.out)
          obtain ⟨a0, a1, a2⟩ := box_load Xa40.out
          refine region_sched [(0, true), (1, true), (2, true), (3, true), (4, true), (5, true), (6, false), (7, true)] (fun w' : World => w'.cell? ⟨w1.heap.size, 0, none⟩ = some (.int .i64 (m : Int)) ∧ w'.cell? ⟨w1.heap.size, 1, none⟩ = some (.string s) ∧ w'.cell? ⟨w1.heap.size, 2, none⟩ = some (.string r)) (by kernel_rfl) (by kernel_rfl) (by kernel_rfl) (by kernel_rfl) (fun _ _ _ _ h => h) ?_ (fun Q1 hQ1 => ?_)
          · exact ⟨a0, a1, a2⟩
          try simp only [List.append]
          refine sched_take' (v := .agg #[.int .i64 (m : Int), .string s, .string r]) (a' := ?_) rfl (by kernel_rfl) ?_ rfl ?_ ?_
          rotate_left 1
          · intro w hSw
            (try dsimp only at hSw)
            go_simp
            first | done | (obtain ⟨u0, u1, u2⟩ := hSw; simp [*])
          · (try simp only [Act.put, List.setIfInBounds_toArray, List.set_cons_zero, List.set_cons_succ])
            try rfl
          refine sched_take' (v := ?_) (a' := ?_) rfl (by kernel_rfl) ?_ rfl ?_ ?_
          rotate_left 2
          · intro w hSw
            (try dsimp only at hSw)
            go_simp
            try with_reducible rfl
          · (try simp only [Act.put, List.setIfInBounds_toArray, List.set_cons_zero, List.set_cons_succ])
            try rfl
          refine sched_take' (v := ?_) (a' := ?_) rfl (by kernel_rfl) ?_ rfl ?_ ?_
          rotate_left 2
          · intro w hSw
            (try dsimp only at hSw)
            go_simp
            try with_reducible rfl
          · (try simp only [Act.put, List.setIfInBounds_toArray, List.set_cons_zero, List.set_cons_succ])
            try rfl
          refine sched_take' (v := ?_) (a' := ?_) rfl (by kernel_rfl) ?_ rfl ?_ ?_
          rotate_left 2
          · intro w hSw
            (try dsimp only at hSw)
            go_simp
            try with_reducible rfl
          · (try simp only [Act.put, List.setIfInBounds_toArray, List.set_cons_zero, List.set_cons_succ])
            try rfl
          refine sched_take' (v := .int .i64 (m : Int)) (a' := ?_) rfl (by kernel_rfl) ?_ rfl ?_ ?_
          rotate_left 1
          · intro w hSw
            (try dsimp only at hSw)
            go_simp
            first | done | (obtain ⟨u0, u1, u2⟩ := hSw; simp [*])
          · (try simp only [Act.put, List.setIfInBounds_toArray, List.set_cons_zero, List.set_cons_succ])
            try rfl
          refine sched_take' (v := .int .i64 ((x0 : Nat) : Int)) (a' := ?_) rfl (by kernel_rfl) ?_ rfl ?_ ?_
          rotate_left 1
          · intro w hSw
            (try dsimp only at hSw)
            go_simp
            first | done | omega | exact hrem | (simp [*]; done) | (simp [hrem, hm0]; done) | (rw [hrem])
          · (try simp only [Act.put, List.setIfInBounds_toArray, List.set_cons_zero, List.set_cons_succ])
            try rfl
          refine sched_call rfl (by kernel_rfl) (fun K1 hK1 => ?_)
          go_simp
          refine (CO.out _).mono ?_
          rintro e w21 ⟨⟨vo, rfl, ho⟩, hz⟩
          have BS2 := Lib.hid (BS1.out.trans (hz.mono BS1.out.size))
          have Ao1 := Lib.hid (Apart.symm (Apart.new Or1.out ho (Nat.le_refl _)))
          have Ao2 := Lib.hid (Apart.symm (Apart.new Ob1.out ho (Nat.le_refl _)))
          have Or2 := Lib.hid (own_call Or1.out hz)
          have Ob2 := Lib.hid (own_call Ob1.out hz)
          have Oo2 := Lib.hid (own_low ho BS1.out.size)
          obtain ⟨Ao, co, rfl, _⟩ := own_open ho
          have Xa41 := Lib.hid (Xa40.out.call hz)
          clear hz ho a0 a1 a2
          obtain ⟨a0, a1, a2⟩ := box_load Xa41.out
          go_wp2_with fail
          refine hK1.out _ _ ?_ (sched_lay (a' := ?_) ?_ ?_)
          · exact ⟨a0, a1, a2⟩
          rotate_left 1
          · (try simp only [Act.put, List.getElem_toArray, List.getElem_cons_succ, List.getElem_cons_zero, List.setIfInBounds_toArray, List.set_cons_zero, List.set_cons_succ])
            try rfl
          clear hK1 K1
          refine sched_take' (v := ?_) (a' := ?_) rfl (by kernel_rfl) ?_ rfl ?_ ?_
          rotate_left 2
          · intro w hSw
            (try dsimp only at hSw)
            go_simp
            try with_reducible rfl
          · (try simp only [Act.put, List.setIfInBounds_toArray, List.set_cons_zero, List.set_cons_succ])
            try rfl
          refine sched_done (hQ1.out _ _ ?_)
          clear a0 a1 a2 hrem
          go_wp2_with fail
          go_loopg [8, 11] m (fun c ro xi wr => ∃ k : Nat, k + c = m ∧ xi = .int .i64 (k : Nat) ∧ Apart vb ro ∧ Apart (.slice Ao R.length co) ro ∧ wr.ownsRow w4.heap.size 3 1 ro (restZ zs k).length (intsV (natsI (restZ zs k))) ∧ wr.ownsRow w4.heap.size 3 1 vb (zs).length (intsV (zs)) ∧ wr.ownsRow w4.heap.size 3 1 (.slice Ao R.length co) R.length (intsV (natsI R)) ∧ Below w4.heap.size w4 wr)
          case atStart => exact ⟨0, by omega, rfl, Apart.symm Ap1.out, Ao1.out, Or2.out, Ob2.out, Oo2.out, BS2.out⟩
          case round =>
            obtain ⟨k, hk, rfl, ha1, ha2, hr1, hr2, hr3, hbs⟩ := hrel
            have A1 := Lib.hid ha1
            have A2 := Lib.hid ha2
            have Or3 := Lib.hid hr1
            have Ob3 := Lib.hid hr2
            have Oo3 := Lib.hid hr3
            have BS3 := Lib.hid hbs
            have Xa3 := Lib.hid (Xa4.out.call hbs)
            have Lz3 := Lib.hid (Lz4.out.call hbs)
            clear ha1 ha2 hr1 hr2 hr3 hbs Or0 Ob0 Or1 Ob1 Or2 Ob2 Oo2 BS0 BS1 BS2 Xa40 Xa41 Ap1
            obtain ⟨a0, a1, a2⟩ := box_load Xa3.out
            by_cases hlt : k < m
            · have hki : (k : Int) < (m : Int) := by omega
              have hrl := restZ_len zs k
              by_cases hin : (k : Int) ∈ zs
              · have ch := CH.out wr c1 (k : Int) Lz3.out
                rw [decide_eq_true hin] at ch
                have Hch := Lib.hid ch
                have hsc := restZ_succ zs k
                rw [if_pos hin] at hsc
                have Hsc := Lib.hid hsc
                clear ch hin hsc
                go_wp2_with fail
                refine (Hch.out).mono ?_
                rintro e w30 ⟨rfl, rfl⟩
                go_wp2_with fail
                go_roundg (m - k - 1)
                case rel => exact ⟨k + 1, by omega, by go_num, A1.out, A2.out, by rw [Hsc.out]; exact Or3.out, Ob3.out, Oo3.out, BS3.out⟩
                case measure => omega
              · have ch := CH.out wr c1 (k : Int) Lz3.out
                rw [decide_eq_false hin] at ch
                have Hch := Lib.hid ch
                have hsc := restZ_succ zs k
                rw [if_neg hin] at hsc
                have Hsc := Lib.hid hsc
                clear ch hin hsc
                go_wp2_with fail
                refine (Hch.out).mono ?_
                rintro e w29 ⟨rfl, rfl⟩
                go_wp2_with (at_builtin; refine wpList_append_own_at _ rfl (.tmp 65) (.tmp 67) 24 rfl w4.heap.size 3 i0 (.int .i64 0) 1 8 Tryd.underlying24 hi hz0 hz1 hz2 rfl (by decide) _ (restZ zs k).length (intsV (natsI (restZ zs k))) rfl (Or3.out.alloc _) ⟨wr.heap.size, 0, none⟩ 1 1 [.int .i64 (k : Nat)] rfl rfl (cell_one_new _ _ _) (ints_oneCell .i64 [((k : Nat) : Int)]) (by unfold maxLen; omega) (by omega) (by have := BS3.out.size; simp; omega) ?_; intro v2 w30 ho hg hnn hat; clear hnn; have BS4 := Lib.hid ((BS3.out.alloc BS3.out.size (.cells #[.int .i64 (k : Nat)] 3)).grown hg (by have := BS3.out.size; simp; omega) (fun j hj => (Or3.out.lt j hj).1)); have Ob4 := Lib.hid (own_others (Ob3.out.alloc (.cells #[.int .i64 (k : Nat)] 3)) hg A1.out); have Oo4 := Lib.hid (own_others (Oo3.out.alloc (.cells #[.int .i64 (k : Nat)] 3)) hg A2.out); have A14 := Lib.hid (A1.out.next (Ob3.out.alloc (.cells #[.int .i64 (k : Nat)] 3)) (Nat.le_refl _) hat); have A24 := Lib.hid (A2.out.next (Oo3.out.alloc (.cells #[.int .i64 (k : Nat)] 3)) (Nat.le_refl _) hat); have Or4 := Lib.hid ho; clear ho hg hat)
                go_roundg (m - k - 1)
                case rel => exact ⟨k + 1, by omega, by go_num, A14.out, A24.out, by rw [Hsc.out, natsI_snoc, List.length_append, List.length_singleton]; exact Or4.out, Ob4.out, Oo4.out, BS4.out⟩
                case measure => omega
            · obtain rfl : k = m := by omega
              clear hlt
              go_wp2_with fail
              go_loopg [9, 12] R.length (fun c bo xi wq => ∃ j : Nat, j + c = R.length ∧ xi = .int .i64 (j : Nat) ∧ Apart u8 bo ∧ Apart (.slice Ao R.length co) bo ∧ wq.ownsRow w4.heap.size 3 1 u8 (restZ zs k).length (intsV (natsI (restZ zs k))) ∧ wq.ownsRow w4.heap.size 3 1 bo (bothZ zs R j).length (intsV (bothZ zs R j)) ∧ wq.ownsRow w4.heap.size 3 1 (.slice Ao R.length co) R.length (intsV (natsI R)) ∧ Below w4.heap.size w4 wq)
              case atStart => exact ⟨0, by omega, rfl, Apart.symm A1.out, Ao2.out, Or3.out, Ob3.out, Oo3.out, BS3.out⟩
              case round =>
                clear a0 a1 a2
                obtain ⟨j, hj, rfl, ha1, ha2, hr1, hr2, hr3, hbs⟩ := hrel
                have A3 := Lib.hid ha1
                have A4 := Lib.hid ha2
                have Or5 := Lib.hid hr1
                have Ob5 := Lib.hid hr2
                have Oo5 := Lib.hid hr3
                have BS5 := Lib.hid hbs
                have Xa5 := Lib.hid (Xa4.out.call hbs)
                have Lo5 := Lib.hid (LRow_of hr3)
                clear ha1 ha2 hr1 hr2 hr3 hbs A1 A2 Or3 Ob3 Oo3 BS3 Xa3 Lz3
                obtain ⟨a0, a1, a2⟩ := box_load Xa5.out
                by_cases hlt : j < R.length
                · have hji : (j : Int) < (R.length : Int) := by omega
                  have hj0 : (0 : Int) ≤ (j : Int) := by omega
                  have hbl := bothZ_len zs R j
                  obtain ⟨go, rfl, d1⟩ := Lo5.out.nats hlt
                  have hsc := bothZ_succ zs R j
                  have eapp : app R j = R.getD j 0 := rfl
                  rw [← eapp] at d1
                  generalize app R j = y at *
                  clear eapp
                  by_cases hin : ((y : Nat) : Int) ∈ bothZ zs R j
                  · have ch := CG.out wr _ _ (y : Int) j Ob5.out (by omega)
                    rw [decide_eq_true hin] at ch
                    have Hch := Lib.hid ch
                    rw [if_pos hin] at hsc
                    have Hsc := Lib.hid hsc
                    clear ch hin hsc
                    go_wp2_with fail
                    refine (Hch.out).mono ?_
                    rintro e w30 ⟨rfl, rfl⟩
                    go_wp2_with fail
                    go_roundg (gk - 1)
                    case rel => exact ⟨j + 1, by omega, by go_num, A3.out, A4.out, Or5.out, by rw [Hsc.out]; exact Ob5.out, Oo5.out, BS5.out⟩
                    case measure => omega
                  · have ch := CG.out wr _ _ (y : Int) j Ob5.out (by omega)
                    rw [decide_eq_false hin] at ch
                    have Hch := Lib.hid ch
                    rw [if_neg hin] at hsc
                    have Hsc := Lib.hid hsc
                    clear ch hin hsc
                    go_wp2_with fail
                    refine (Hch.out).mono ?_
                    rintro e w29 ⟨rfl, rfl⟩
                    go_wp2_with (at_builtin; refine wpList_append_own_at _ rfl (.tmp 82) (.tmp 87) 24 rfl w4.heap.size 3 i0 (.int .i64 0) 1 8 Tryd.underlying24 hi hz0 hz1 hz2 rfl (by decide) _ (bothZ zs R j).length (intsV (bothZ zs R j)) rfl (Ob5.out.alloc _) ⟨wr.heap.size, 0, none⟩ 1 1 [.int .i64 ((y : Nat) : Int)] rfl rfl (cell_one_new _ _ _) (ints_oneCell .i64 [((y : Nat) : Int)]) (by unfold maxLen; omega) (by omega) (by have := BS5.out.size; simp; omega) ?_; intro v2 w30 ho hg hnn hat; clear hnn; have BS6 := Lib.hid ((BS5.out.alloc BS5.out.size (.cells #[.int .i64 ((y : Nat) : Int)] 3)).grown hg (by have := BS5.out.size; simp; omega) (fun j hj => (Ob5.out.lt j hj).1)); have Or6 := Lib.hid (own_others (Or5.out.alloc (.cells #[.int .i64 ((y : Nat) : Int)] 3)) hg A3.out); have Oo6 := Lib.hid (own_others (Oo5.out.alloc (.cells #[.int .i64 ((y : Nat) : Int)] 3)) hg A4.out); have A36 := Lib.hid (A3.out.next (Or5.out.alloc (.cells #[.int .i64 ((y : Nat) : Int)] 3)) (Nat.le_refl _) hat); have A46 := Lib.hid (A4.out.next (Oo5.out.alloc (.cells #[.int .i64 ((y : Nat) : Int)] 3)) (Nat.le_refl _) hat); have Ob6 := Lib.hid ho; clear ho hg hat)
                    go_roundg (gk - 1)
                    case rel => exact ⟨j + 1, by omega, by go_num, A36.out, A46.out, Or6.out, by rw [Hsc.out, intsV_snoc, List.length_append, List.length_singleton]; exact Ob6.out, Oo6.out, BS6.out⟩
                    case measure => omega
                · obtain rfl : j = R.length := by omega
                  clear hlt
                  have BE := Lib.hid (B4.out.trans (BS5.out.mono B4.out.size))
                  go_wp2_with fail
                  refine (CQ.out _ _ _ Oo5.out).mono ?_
                  rintro e w40 ⟨rfl, hz⟩
                  have BE2 := Lib.hid (BE.out.trans (hz.mono BE.out.size))
                  have Or7 := Lib.hid (own_call Or5.out hz)
                  have Ob7 := Lib.hid (own_call Ob5.out hz)
                  have Xa7 := Lib.hid (Xa5.out.call hz)
                  clear hz a0 a1 a2
                  obtain ⟨a0, a1, a2⟩ := box_load Xa7.out
                  go_wp2_with fail
                  refine (CR.out _ _ _ Or7.out).mono ?_
                  rintro e w41 ⟨rfl, hz⟩
                  have BE3 := Lib.hid (BE2.out.trans (hz.mono BE2.out.size))
                  have Ob8 := Lib.hid (own_call Ob7.out hz)
                  have Xa8 := Lib.hid (Xa7.out.call hz)
                  clear hz a0 a1 a2
                  obtain ⟨a0, a1, a2⟩ := box_load Xa8.out
                  go_wp2_with fail
                  refine (CB.out _ _ _ Ob8.out).mono ?_
                  rintro e w42 ⟨rfl, hz⟩
                  have BE4 := Lib.hid (BE3.out.trans (hz.mono BE3.out.size))
                  clear hz a0 a1 a2
                  go_wp2_with fail
                  go_ret
                  exact ⟨rfl, BE4.out⟩
    · have hni : ¬ (1048576 : Int) < (n : Int) := by omega
      have hni2 : (1048576 : Int) < (n2 : Int) := by omega
      go_enter Tryd.func4, Tryd.ntmps4
      go_wp2_with fail
      go_ret
      exact ⟨rfl, Below.refl _ _⟩
  · have hni : (1048576 : Int) < (n : Int) := by omega
    go_enter Tryd.func4, Tryd.ntmps4
    go_wp2_with fail
    go_ret
    exact ⟨rfl, Below.refl _ _⟩

end Go.Proofs.YtgnmlijfenjehaaDoor
