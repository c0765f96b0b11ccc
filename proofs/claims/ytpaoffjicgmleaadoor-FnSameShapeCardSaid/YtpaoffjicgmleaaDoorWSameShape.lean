/-
  The walk of FnSameShape. Condition: texts below the reach.
-/
import Derived.Test.YtpaoffjicgmleaaDoorDraw9
import Derived.Test.YtpaoffjicgmleaaDoorLawAny2
import Derived.Test.YtpaoffjicgmleaaDoorGs
import Derived.Test.YtpaoffjicgmleaaDoorOther
namespace Go.Proofs.YtpaoffjicgmleaaDoor
open Go.RowKit
open Pl
set_option linter.unusedSimpArgs false
set_option linter.unusedVariables false

theorem natsI_inj2 {a b : List Nat} (h : natsI a = natsI b) : a = b := by rw [← natsI_toNat a, h, natsI_toNat]
theorem same_self (A C : Option Addr) (c1 c2 : Nat) (xs : List Nat) (W : World) (hx : xs.length ≤ 100) (h1 : LRow W A (natsI xs)) (h2 : LRow W C (natsI xs)) :
    Calls Tryd.prog 30 #[.slice A xs.length c1, .slice C xs.length c2] W fun e w' => e = .returned (.bool true) ∧ Below W.heap.size W w' := by
  have h := gsSame_calls A C c1 c2 (natsI xs) (natsI xs) W (by rw [natsI_len]; omega) (by rw [natsI_len]; omega) h1 h2
  rw [natsI_len, decide_eq_true rfl] at h
  exact h
theorem other_st9 (a : St) (ha : a.ok) (W : World) : Calls Tryd.prog 17 #[stA a] W fun e w' => e = .returned (.tuple #[stA a.other, .bool true]) ∧ Below W.heap.size W w' := by
  have h2 := st_small ha
  have h := OtherStructure_impl (a.n : Int) (bs a.set) (bs a.rel) W (by unfold maxLen; omega) (by unfold maxLen; omega)
  have e : otherO (a.n : Int) (bs a.set) (bs a.rel) = some a.other := by unfold otherO; rw [okB_true ha, ofSt_eq]; rfl
  rwa [e] at h


set_option maxHeartbeats 4000000 in
set_option maxRecDepth 100000 in
theorem FnSameShape_walk (A : Option Addr) (n cap : Nat) (w : World) (h : ByRow w A n) (hc : n ≤ cap) (hm : cap ≤ maxLen) :
    Calls Tryd.prog 9 #[.slice A n cap] w fun e w' => e = .returned (.bool true) ∧ Below w.heap.size w w' := by
  by_cases hn : n ≤ 1048576
  · have hd := DrawSameShape_calls A n cap w h hn hc hm
    have HD := Lib.hid hd
    have hni : ¬ (1048576 : Int) < (n : Int) := by omega
    clear hd h hc hm
    go_enter Tryd.func9, Tryd.ntmps9
    go_wp2_with fail
    refine (HD.out).mono ?_
    rintro e w1 ⟨⟨i, s, r, j, t, u, rfl, hs, hr, ht, hu⟩, hz⟩
    have B0 := Lib.hid hz
    clear hz
    by_cases hL : shpL i s r j t u = []
    · have ci := fun W => shpI_any i s r j t u hs hr ht hu _ hL W
      have cs := fun W => shpS_any i s r j t u hs hr ht hu _ hL W
      have cj := fun W => shpI_any j t u i s r ht hu hs hr _ (shp_sym hL) W
      have ce := fun (A C : Option Addr) (c1 c2 : Nat) (W : World) (h1 : LRow W A (natsI [])) (h2 : LRow W C (natsI [])) => same_self A C c1 c2 [] W (by simp) h1 h2
      have CI := Lib.hid ci
      have CS := Lib.hid cs
      have CJ := Lib.hid cj
      have CE := Lib.hid ce
      clear ci cs cj ce hL
      have B1 := Lib.hid ((B0.out.alloc B0.out.size (.cells #[.int .i64 i, .string s, .string r] 24)).alloc (by have := B0.out.size; simp; omega) (.cells #[.int .i64 j, .string t, .string u] 24))
      have Xa1 := Lib.hid ((Bx.new w1 24 #[.int .i64 i, .string s, .string r]).alloc (.cells #[.int .i64 j, .string t, .string u] 24))
      have Xb1 := Lib.hid (bx_two w1 (.cells #[.int .i64 i, .string s, .string r] 24) #[.int .i64 j, .string t, .string u] (t := 24))
      obtain ⟨a0, a1, a2⟩ := box_load Xa1.out
      obtain ⟨b0, b1, b2⟩ := box_load Xb1.out
      go_wp2_with fail
      refine (CI.out _).mono ?_
      clear a0 a1 a2 b0 b1 b2
      rintro e w2 ⟨⟨A1, cap1, rfl, hcap, hl⟩, hz⟩
      have B2 := Lib.hid (B1.out.trans (hz.mono B1.out.size))
      have Xa2 := Lib.hid (Xa1.out.call hz)
      have Xb2 := Lib.hid (Xb1.out.call hz)
      have La := Lib.hid hl
      have HC := Lib.hid hcap
      clear hl hcap
      clear hz
      obtain ⟨a0, a1, a2⟩ := box_load Xa2.out
      obtain ⟨b0, b1, b2⟩ := box_load Xb2.out
      go_wp2_with fail
      refine (CS.out _).mono ?_
      clear a0 a1 a2 b0 b1 b2
      rintro e w3 ⟨⟨A2, cap2, rfl, hl⟩, hz⟩
      have B3 := Lib.hid (B2.out.trans (hz.mono B2.out.size))
      have Xa3 := Lib.hid (Xa2.out.call hz)
      have Xb3 := Lib.hid (Xb2.out.call hz)
      have La3 := Lib.hid (La.out.call hz)
      have Lb := Lib.hid hl
      clear hl
      clear hz
      obtain ⟨a0, a1, a2⟩ := box_load Xa3.out
      obtain ⟨b0, b1, b2⟩ := box_load Xb3.out
      go_wp2_with fail
      refine (CE.out _ _ _ _ _ La3.out Lb.out).mono ?_
      clear a0 a1 a2 b0 b1 b2
      rintro e w4 ⟨rfl, hz⟩
      have B4 := Lib.hid (B3.out.trans (hz.mono B3.out.size))
      have Xa4 := Lib.hid (Xa3.out.call hz)
      have Xb4 := Lib.hid (Xb3.out.call hz)
      have La4 := Lib.hid (La3.out.call hz)
      have Lb4 := Lib.hid (Lb.out.call hz)
      clear hz
      obtain ⟨a0, a1, a2⟩ := box_load Xa4.out
      obtain ⟨b0, b1, b2⟩ := box_load Xb4.out
      go_wp2_with fail
      refine (CJ.out _).mono ?_
      clear a0 a1 a2 b0 b1 b2
      rintro e w5 ⟨⟨A3, cap3, rfl, _, hl⟩, hz⟩
      have B5 := Lib.hid (B4.out.trans (hz.mono B4.out.size))
      have Xa5 := Lib.hid (Xa4.out.call hz)
      have Xb5 := Lib.hid (Xb4.out.call hz)
      have La5 := Lib.hid (La4.out.call hz)
      have Lb5 := Lib.hid (Lb4.out.call hz)
      clear hl
      clear hz
      obtain ⟨a0, a1, a2⟩ := box_load Xa5.out
      obtain ⟨b0, b1, b2⟩ := box_load Xb5.out
      go_wp2_with fail
      go_ret
      exact ⟨rfl, B5.out⟩

    · rcases shp_cases i s r j t u with ⟨_, h1⟩ | ⟨_, _, h1⟩ | ⟨_, _, _, h1⟩ | ⟨a, b, ha, hb, hab, rfl, rfl, rfl, rfl, rfl, rfl, h1⟩
      · exact absurd h1 hL
      · exact absurd h1 hL
      · exact absurd h1 hL
      · rw [h1] at hL
        obtain ⟨l, L', hLL⟩ : ∃ l L', isos a b = l :: L' := by
          cases hq : isos a b with
          | nil => exact absurd hq hL
          | cons l L' => exact ⟨l, L', rfl⟩
        have hl : l ∈ isos a b := by rw [hLL]; simp
        have hp := iso_perm hl
        have hpart := iso_part ha hb hab hl
        have hn8 := ha.hi
        have hlen : l.length ≤ 100 := by rw [hp.len]; omega
        rw [hLL] at h1
        obtain ⟨K, hK⟩ : ∃ K, shpL b.n (bs b.set) (bs b.rel) a.n (bs a.set) (bs a.rel) = K := ⟨_, rfl⟩
        have hKe : K.isEmpty = false := by
          rw [← hK, shp_st hb ha hab.symm, isos_ne_sym hab, hLL]; rfl
        obtain ⟨M, hM⟩ : ∃ M, shpL a.other.n (bs a.other.set) (bs a.other.rel) b.other.n (bs b.other.set) (bs b.other.rel) = M := ⟨_, rfl⟩
        have hMe : M.isEmpty = false := by
          rw [← hM, shp_st (other_ok ha) (other_ok hb) hab, isos_ne_other hab, hLL]; rfl
        have so := st_small (other_ok ha)
        have so2 := st_small (other_ok hb)
        have ci : ∀ W, Calls Tryd.prog 36 #[stA a, stA b] W fun e w' => (∃ A cap, e = .returned (.tuple #[.slice A l.length cap, .bool true]) ∧ l.length ≤ cap ∧ LRow w' A (natsI l)) ∧ Below W.heap.size W w' := fun W => shpI_any a.n (bs a.set) (bs a.rel) b.n (bs b.set) (bs b.rel) hs hr ht hu _ h1 W
        have cs : ∀ W, Calls Tryd.prog 39 #[stA a, stA b] W fun e w' => (∃ A cap, e = .returned (.tuple #[.slice A l.length cap, .bool true]) ∧ LRow w' A (natsI l)) ∧ Below W.heap.size W w' := fun W => shpS_any a.n (bs a.set) (bs a.rel) b.n (bs b.set) (bs b.rel) hs hr ht hu _ h1 W
        have cj : ∀ W, Calls Tryd.prog 36 #[stA b, stA a] W fun e w' => (∃ A cap, e = .returned (.tuple #[.slice A (K.headD []).length cap, .bool true]) ∧ (K.headD []).length ≤ cap ∧ LRow w' A (natsI (K.headD []))) ∧ Below W.heap.size W w' := fun W => by
          have h := shpI_any b.n (bs b.set) (bs b.rel) a.n (bs a.set) (bs a.rel) ht hu hs hr _ hK W
          rwa [hKe] at h
        have ck : ∀ W, Calls Tryd.prog 36 #[stA a.other, stA b.other] W fun e w' => (∃ A cap, e = .returned (.tuple #[.slice A (M.headD []).length cap, .bool true]) ∧ (M.headD []).length ≤ cap ∧ LRow w' A (natsI (M.headD []))) ∧ Below W.heap.size W w' := fun W => by
          have h := shpI_any a.other.n (bs a.other.set) (bs a.other.rel) b.other.n (bs b.other.set) (bs b.other.rel) (by omega) (by omega) (by omega) (by omega) _ hM W
          rwa [hMe] at h
        have ce := fun (A C : Option Addr) (c1 c2 : Nat) (W : World) (h1 : LRow W A (natsI l)) (h2 : LRow W C (natsI l)) => same_self A C c1 c2 l W hlen h1 h2
        have cm : ∀ (A : Option Addr) (cap : Nat), l.length ≤ cap → ∀ W, LRow W A (natsI l) → Calls Tryd.prog 34 #[stA a, .slice A l.length cap] W fun e w' => e = .returned (.tuple #[stA b, .bool true]) ∧ Below W.heap.size W w' := fun A cap hc W hA => by
          have h := move_st ha hp A cap hc W hA
          rwa [hpart] at h
        have cd := fun W => other_st9 a ha W
        have cf := fun W => other_st9 b hb W
        have k1 : a.other.n = a.n := rfl
        have k2 : b.other.n = b.n := rfl
        unfold stA at ci cs cj ck cm cd cf
        rw [k1, k2] at ck
        rw [k1] at cd
        rw [k2] at cf
        rw [← hab] at ci cs cj ck cm cf
        clear h1 hK hM so so2 k1 k2 hl hp hpart hL hLL hKe hMe ha hb
        generalize bs a.other.set = s2 at *
        generalize bs a.other.rel = r2 at *
        generalize bs b.other.set = t2 at *
        generalize bs b.other.rel = u2 at *
        generalize bs a.set = s at *
        generalize bs a.rel = r at *
        generalize bs b.set = t at *
        generalize bs b.rel = u at *
        rw [← hab]
        clear hab
        generalize a.n = m at *
        generalize (K.headD []) = k3 at *
        generalize (M.headD []) = m3 at *
        have CI := Lib.hid ci
        have CS := Lib.hid cs
        have CJ := Lib.hid cj
        have CK := Lib.hid ck
        have CE := Lib.hid ce
        have CM := Lib.hid cm
        have CD := Lib.hid cd
        have CF := Lib.hid cf
        clear ci cs cj ck ce cm cd cf
        have B1 := Lib.hid ((B0.out.alloc B0.out.size (.cells #[.int .i64 (m : Int), .string s, .string r] 24)).alloc (by have := B0.out.size; simp; omega) (.cells #[.int .i64 (m : Int), .string t, .string u] 24))
        have Xa1 := Lib.hid ((Bx.new w1 24 #[.int .i64 (m : Int), .string s, .string r]).alloc (.cells #[.int .i64 (m : Int), .string t, .string u] 24))
        have Xb1 := Lib.hid (bx_two w1 (.cells #[.int .i64 (m : Int), .string s, .string r] 24) #[.int .i64 (m : Int), .string t, .string u] (t := 24))
        obtain ⟨a0, a1, a2⟩ := box_load Xa1.out
        obtain ⟨b0, b1, b2⟩ := box_load Xb1.out
        go_wp2_with fail
        refine (CI.out _).mono ?_
        clear a0 a1 a2 b0 b1 b2
        rintro e w2 ⟨⟨A1, cap1, rfl, hcap, hl⟩, hz⟩
        have B2 := Lib.hid (B1.out.trans (hz.mono B1.out.size))
        have Xa2 := Lib.hid (Xa1.out.call hz)
        have Xb2 := Lib.hid (Xb1.out.call hz)
        have La := Lib.hid hl
        have HC := Lib.hid hcap
        clear hl hcap
        clear hz
        obtain ⟨a0, a1, a2⟩ := box_load Xa2.out
        obtain ⟨b0, b1, b2⟩ := box_load Xb2.out
        go_wp2_with fail
        refine (CS.out _).mono ?_
        clear a0 a1 a2 b0 b1 b2
        rintro e w3 ⟨⟨A2, cap2, rfl, hl⟩, hz⟩
        have B3 := Lib.hid (B2.out.trans (hz.mono B2.out.size))
        have Xa3 := Lib.hid (Xa2.out.call hz)
        have Xb3 := Lib.hid (Xb2.out.call hz)
        have La3 := Lib.hid (La.out.call hz)
        have Lb := Lib.hid hl
        clear hl
        clear hz
        obtain ⟨a0, a1, a2⟩ := box_load Xa3.out
        obtain ⟨b0, b1, b2⟩ := box_load Xb3.out
        go_wp2_with fail
        refine (CE.out _ _ _ _ _ La3.out Lb.out).mono ?_
        clear a0 a1 a2 b0 b1 b2
        rintro e w4 ⟨rfl, hz⟩
        have B4 := Lib.hid (B3.out.trans (hz.mono B3.out.size))
        have Xa4 := Lib.hid (Xa3.out.call hz)
        have Xb4 := Lib.hid (Xb3.out.call hz)
        have La4 := Lib.hid (La3.out.call hz)
        have Lb4 := Lib.hid (Lb.out.call hz)
        clear hz
        obtain ⟨a0, a1, a2⟩ := box_load Xa4.out
        obtain ⟨b0, b1, b2⟩ := box_load Xb4.out
        go_wp2_with fail
        refine (CJ.out _).mono ?_
        clear a0 a1 a2 b0 b1 b2
        rintro e w5 ⟨⟨A3, cap3, rfl, _, hl⟩, hz⟩
        have B5 := Lib.hid (B4.out.trans (hz.mono B4.out.size))
        have Xa5 := Lib.hid (Xa4.out.call hz)
        have Xb5 := Lib.hid (Xb4.out.call hz)
        have La5 := Lib.hid (La4.out.call hz)
        have Lb5 := Lib.hid (Lb4.out.call hz)
        clear hl
        clear hz
        obtain ⟨a0, a1, a2⟩ := box_load Xa5.out
        obtain ⟨b0, b1, b2⟩ := box_load Xb5.out
        go_wp2_with fail
        refine (CM.out _ _ HC.out _ La5.out).mono ?_
        clear a0 a1 a2 b0 b1 b2
        rintro e w6 ⟨rfl, hz⟩
        have B6 := Lib.hid (B5.out.trans (hz.mono B5.out.size))
        have Xa6 := Lib.hid (Xa5.out.call hz)
        have Xb6 := Lib.hid (Xb5.out.call hz)
        have La6 := Lib.hid (La5.out.call hz)
        have Lb6 := Lib.hid (Lb5.out.call hz)
        clear hz
        obtain ⟨a0, a1, a2⟩ := box_load Xa6.out
        obtain ⟨b0, b1, b2⟩ := box_load Xb6.out
        clear a0 a1 a2 b0 b1 b2
        have B7 := Lib.hid (B6.out.alloc B6.out.size (.cells #[.int .i64 (m : Int), .string t, .string u] 24))
        have Xa7 := Lib.hid (Xa6.out.alloc (.cells #[.int .i64 (m : Int), .string t, .string u] 24))
        have Xb7 := Lib.hid (Xb6.out.alloc (.cells #[.int .i64 (m : Int), .string t, .string u] 24))
        have La7 := Lib.hid (La6.out.alloc (.cells #[.int .i64 (m : Int), .string t, .string u] 24))
        have Lb7 := Lib.hid (Lb6.out.alloc (.cells #[.int .i64 (m : Int), .string t, .string u] 24))
        have Xc7 := Lib.hid (Bx.new w6 24 #[.int .i64 (m : Int), .string t, .string u])
        obtain ⟨a0, a1, a2⟩ := box_load Xa7.out
        obtain ⟨b0, b1, b2⟩ := box_load Xb7.out
        obtain ⟨c0, c1, c2⟩ := box_load Xc7.out
        go_wp2_with fail
        refine (CD.out _).mono ?_
        clear a0 a1 a2 b0 b1 b2 c0 c1 c2
        rintro e w7 ⟨rfl, hz⟩
        have B8 := Lib.hid (B7.out.trans (hz.mono B7.out.size))
        have Xa8 := Lib.hid (Xa7.out.call hz)
        have Xb8 := Lib.hid (Xb7.out.call hz)
        have Xc8 := Lib.hid (Xc7.out.call hz)
        have La8 := Lib.hid (La7.out.call hz)
        have Lb8 := Lib.hid (Lb7.out.call hz)
        clear hz
        obtain ⟨a0, a1, a2⟩ := box_load Xa8.out
        obtain ⟨b0, b1, b2⟩ := box_load Xb8.out
        obtain ⟨c0, c1, c2⟩ := box_load Xc8.out
        clear a0 a1 a2 b0 b1 b2 c0 c1 c2
        have B9 := Lib.hid (B8.out.alloc B8.out.size (.cells #[.int .i64 (m : Int), .string s2, .string r2] 24))
        have Xa9 := Lib.hid (Xa8.out.alloc (.cells #[.int .i64 (m : Int), .string s2, .string r2] 24))
        have Xb9 := Lib.hid (Xb8.out.alloc (.cells #[.int .i64 (m : Int), .string s2, .string r2] 24))
        have Xc9 := Lib.hid (Xc8.out.alloc (.cells #[.int .i64 (m : Int), .string s2, .string r2] 24))
        have La9 := Lib.hid (La8.out.alloc (.cells #[.int .i64 (m : Int), .string s2, .string r2] 24))
        have Lb9 := Lib.hid (Lb8.out.alloc (.cells #[.int .i64 (m : Int), .string s2, .string r2] 24))
        have Xd9 := Lib.hid (Bx.new w7 24 #[.int .i64 (m : Int), .string s2, .string r2])
        obtain ⟨a0, a1, a2⟩ := box_load Xa9.out
        obtain ⟨b0, b1, b2⟩ := box_load Xb9.out
        obtain ⟨c0, c1, c2⟩ := box_load Xc9.out
        obtain ⟨d0, d1, d2⟩ := box_load Xd9.out
        go_wp2_with fail
        refine (CF.out _).mono ?_
        clear a0 a1 a2 b0 b1 b2 c0 c1 c2 d0 d1 d2
        rintro e w8 ⟨rfl, hz⟩
        have B10 := Lib.hid (B9.out.trans (hz.mono B9.out.size))
        have Xa10 := Lib.hid (Xa9.out.call hz)
        have Xb10 := Lib.hid (Xb9.out.call hz)
        have Xc10 := Lib.hid (Xc9.out.call hz)
        have Xd10 := Lib.hid (Xd9.out.call hz)
        have La10 := Lib.hid (La9.out.call hz)
        have Lb10 := Lib.hid (Lb9.out.call hz)
        clear hz
        obtain ⟨a0, a1, a2⟩ := box_load Xa10.out
        obtain ⟨b0, b1, b2⟩ := box_load Xb10.out
        obtain ⟨c0, c1, c2⟩ := box_load Xc10.out
        obtain ⟨d0, d1, d2⟩ := box_load Xd10.out
        clear a0 a1 a2 b0 b1 b2 c0 c1 c2 d0 d1 d2
        have B11 := Lib.hid (B10.out.alloc B10.out.size (.cells #[.int .i64 (m : Int), .string t2, .string u2] 24))
        have Xa11 := Lib.hid (Xa10.out.alloc (.cells #[.int .i64 (m : Int), .string t2, .string u2] 24))
        have Xb11 := Lib.hid (Xb10.out.alloc (.cells #[.int .i64 (m : Int), .string t2, .string u2] 24))
        have Xc11 := Lib.hid (Xc10.out.alloc (.cells #[.int .i64 (m : Int), .string t2, .string u2] 24))
        have Xd11 := Lib.hid (Xd10.out.alloc (.cells #[.int .i64 (m : Int), .string t2, .string u2] 24))
        have La11 := Lib.hid (La10.out.alloc (.cells #[.int .i64 (m : Int), .string t2, .string u2] 24))
        have Lb11 := Lib.hid (Lb10.out.alloc (.cells #[.int .i64 (m : Int), .string t2, .string u2] 24))
        have Xe11 := Lib.hid (Bx.new w8 24 #[.int .i64 (m : Int), .string t2, .string u2])
        obtain ⟨a0, a1, a2⟩ := box_load Xa11.out
        obtain ⟨b0, b1, b2⟩ := box_load Xb11.out
        obtain ⟨c0, c1, c2⟩ := box_load Xc11.out
        obtain ⟨d0, d1, d2⟩ := box_load Xd11.out
        obtain ⟨e0, e1, e2⟩ := box_load Xe11.out
        go_wp2_with fail
        refine (CK.out _).mono ?_
        clear a0 a1 a2 b0 b1 b2 c0 c1 c2 d0 d1 d2 e0 e1 e2
        rintro e w9 ⟨⟨A4, cap4, rfl, _, hl⟩, hz⟩
        have B12 := Lib.hid (B11.out.trans (hz.mono B11.out.size))
        have Xa12 := Lib.hid (Xa11.out.call hz)
        have Xb12 := Lib.hid (Xb11.out.call hz)
        have Xc12 := Lib.hid (Xc11.out.call hz)
        have Xd12 := Lib.hid (Xd11.out.call hz)
        have Xe12 := Lib.hid (Xe11.out.call hz)
        have La12 := Lib.hid (La11.out.call hz)
        have Lb12 := Lib.hid (Lb11.out.call hz)
        clear hl
        clear hz
        obtain ⟨a0, a1, a2⟩ := box_load Xa12.out
        obtain ⟨b0, b1, b2⟩ := box_load Xb12.out
        obtain ⟨c0, c1, c2⟩ := box_load Xc12.out
        obtain ⟨d0, d1, d2⟩ := box_load Xd12.out
        obtain ⟨e0, e1, e2⟩ := box_load Xe12.out
        go_wp2_with fail
        go_ret
        exact ⟨rfl, B12.out⟩

  · have hni : (1048576 : Int) < (n : Int) := by omega
    go_enter Tryd.func9, Tryd.ntmps9
    go_wp2_with fail
    go_ret
    exact ⟨rfl, Below.refl _ _⟩

end Go.Proofs.YtpaoffjicgmleaaDoor
