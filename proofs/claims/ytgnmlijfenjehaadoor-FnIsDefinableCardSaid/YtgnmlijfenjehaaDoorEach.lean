/-
  eachShape: it tells all orders that turn one structure into the other, or the first alone. Condition: valid structures of one size.
-/
import Derived.Test.YtgnmlijfenjehaaDoorEachA
namespace Go.Proofs.YtgnmlijfenjehaaDoor
open Go.RowKit
open Pl
set_option linter.unusedSimpArgs false
set_option linter.unusedVariables false

theorem enter_each1 : ∀ (args : Array Value) (w : World), (callFunc 90 args).run Tryd.prog w = .ok (.enter 90 args) w := enter_of Tryd.func90 (by kernel_rfl) (by kernel_rfl)

set_option maxHeartbeats 4000000 in
set_option maxRecDepth 100000 in
theorem each1_calls (B : Nat) (a b : St) (ha : a.ok) (hb : b.ok) (hab : a.n = b.n) (c : Bool) (tf : FuncId) (tF tC : Array Value)
    (eT : ∀ (args : Array Value) (W : World), (callFunc tf args).run Tryd.prog W = .ok (.enter tf args) W)
    (J : World → List (List Nat) → Prop) (hJ : ∀ W W' L, (c = true ∨ L = []) → J W L → Below B W W' → J W' L)
    (hT : ∀ W L (l : List Nat) A cap, (c = true ∨ L = []) → J W L → B + 6 ≤ W.heap.size → l.length = a.n → (∀ x ∈ l, x < a.n) → LRow W A (natsI l) → Calls Tryd.prog tf (tF.push (.slice A l.length cap) ++ tC) W fun e w' => (e = .returned (.bool c) ∧ J w' (L ++ [l])) ∧ Kp B W w') :
    ∀ (m : Nat) (o : List Nat) (L : List (List Nat)) (W : World), (c = true ∨ L = []) → o.length + m = a.n → (∀ x ∈ o, x < a.n) → eEnv W B a b (.func (.func tf) tF tC) → eRow W B o → J W L →
    Calls Tryd.prog 90 #[.pointer (some ⟨B + 4, 0, none⟩), .pointer (some ⟨B, 0, none⟩), .pointer (some ⟨B + 2, 0, none⟩), .pointer (some ⟨B + 1, 0, none⟩), .pointer (some ⟨B + 5, 0, none⟩)] W fun e w' => (∃ q : Bool, e = .returned (.bool q) ∧ q = (c || (shapes a b m o).isEmpty) ∧ J w' (L ++ told c (shapes a b m o)) ∧ (q = true → eRow w' B o)) ∧ eEnv w' B a b (.func (.func tf) tF tC) := by
  have hn8 := ha.hi
  intro m
  induction m with
  | zero =>
    intro o L W hcl hl ho he hr hj
    obtain ⟨v, hbx, hown, hne⟩ := hr
    obtain ⟨A, cap, rfl, hcap, hL⟩ := own_open hown
    have hl0 : o.length = a.n := by omega
    have ht := hT W L o A cap hcl hj he.lt hl0 ho hL
    have o0 := hbx.cell 0
    have a0 := he.1.cell 0
    have t0 := he.2.2.1.cell 0
    simp at o0 a0 t0
    rw [← hl0] at a0
    have Ht := Lib.hid ht
    have He := Lib.hid he
    have Hr := Lib.hid (show eRow W B o from ⟨_, hbx, hown, hne⟩)
    have hq : c = (c || (shapes a b 0 o).isEmpty) := by simp [shapes]
    have hs : told c (shapes a b 0 o) = [o] := by cases c <;> rfl
    rw [hs]
    have Hq := Lib.hid hq
    clear ht hbx hown hne hL he hj hT hJ ho hl hl0 hq hs hab ha hb hcl
    go_enter Tryd.func90, Tryd.ntmps90
    go_wp2_with fail
    refine (Ht.out).mono ?_
    rintro e w1 ⟨⟨rfl, hj⟩, hk⟩
    have Hj := Lib.hid hj
    have Hk := Lib.hid hk
    clear hj hk
    go_wp2_with fail
    go_ret
    exact ⟨⟨c, rfl, Hq.out, Hj.out, fun _ => Hr.out.kp Hk.out⟩, He.out.kp Hk.out⟩
  | succ m ih =>
    intro o L W hcl hl ho he hr hj
    have hmiss : o.length < a.n := by omega
    have hcn : ∀ k V A cap, LRow V A (natsI o) → Calls Tryd.prog 35 #[.slice A o.length cap, .int .i64 (k : Nat)] V fun e w' => e = .returned (.bool (o.contains k)) ∧ V = w' := fun k V A cap hL => by
      have h := Contains_calls A (natsI o) cap (k : Nat) V (by rw [natsI_len]; omega) hL
      rw [natsI_len] at h
      have hm : (((k : Nat) : Int) ∈ natsI o) ↔ k ∈ o := by
        simp only [natsI, List.mem_map]
        exact ⟨fun ⟨y, hy, e⟩ => by have : y = k := by omega
                                    exact this ▸ hy, fun h => ⟨k, h, rfl⟩⟩
      rwa [show decide (((k : Nat) : Int) ∈ natsI o) = o.contains k by rw [List.contains_eq_mem]; exact decide_eq_decide.2 hm] at h
    have hpl : ∀ (k : Nat) V A cap, k < a.n → LRow V A (natsI o) → Calls Tryd.prog 91 #[stV (a.n : Int) (bs a.set) (bs a.rel), stV (b.n : Int) (bs b.set) (bs b.rel), .slice A o.length cap, .int .i64 k] V fun e w' => e = .returned (.bool (fitsB a b o k)) ∧ Below V.heap.size V w' := fun k V A cap hk hL => placed_calls a b ha hb hab o ho hmiss k hk A cap V hL
    have hnx : ∀ k, nextB a b o k = (!o.contains k && fitsB a b o k) := fun k => rfl
    have hih : ∀ (k : Nat) L V, (c = true ∨ L = []) → k < a.n → eEnv V B a b (.func (.func tf) tF tC) → eRow V B (o ++ [k]) → J V L → Calls Tryd.prog 90 #[.pointer (some ⟨B + 4, 0, none⟩), .pointer (some ⟨B, 0, none⟩), .pointer (some ⟨B + 2, 0, none⟩), .pointer (some ⟨B + 1, 0, none⟩), .pointer (some ⟨B + 5, 0, none⟩)] V fun e w' => (∃ q : Bool, e = .returned (.bool q) ∧ q = (c || (shapes a b m (o ++ [k])).isEmpty) ∧ J w' (L ++ told c (shapes a b m (o ++ [k]))) ∧ (q = true → eRow w' B (o ++ [k]))) ∧ eEnv w' B a b (.func (.func tf) tF tC) :=
      fun k L V hcl hk he hr hj => ih (o ++ [k]) L V hcl (by simp; omega) (by intro x hx; rcases List.mem_append.1 hx with hx | hx; exact ho x hx; simp at hx; omega) he hr hj
    obtain ⟨v, hbx, hown, hne⟩ := hr
    obtain ⟨A, cap, rfl, hcap, hL⟩ := own_open hown
    have o0 := hbx.cell 0
    have a0 := he.1.cell 0
    simp at o0 a0
    have d0 : ((o.length : Int) == (a.n : Int)) = false := by simp; omega
    have d1 : decide ((o.length : Int) = (a.n : Int)) = false := by simp; omega
    have d2 : ¬ (o.length : Int) = (a.n : Int) := by omega
    have He0 := Lib.hid he
    have Hr0 := Lib.hid (show eRow W B o from ⟨_, hbx, hown, hne⟩)
    have Hj0 := Lib.hid hj
    have HJ := Lib.hid hJ
    have Hcl := Lib.hid hcl
    have Hcn := Lib.hid hcn
    have Hpl := Lib.hid hpl
    have Hnx := Lib.hid hnx
    have Hih := Lib.hid hih
    have Ho := Lib.hid ho
    have eE := enter_each1
    obtain ⟨i0, hi, hz0, hz1, hz2⟩ := info_parts (P := Tryd.prog) (e := 3) (z := .int .i64 0) (size := 1) (bytes := 8) (by kernel_rfl)
    clear hcl hbx hown hne hL he hj hT hJ hcn hpl hnx hih ih ho hab ha hb eT
    clear d2
    go_enter Tryd.func90, Tryd.ntmps90
    go_wp2_with fail
    go_loopg [19] a.n (fun cc i wr => ∃ k : Nat, k + cc = a.n ∧ i = .int .i64 k ∧ J wr (L ++ upTo a b m o k) ∧ (c = true ∨ upTo a b m o k = []) ∧ eEnv wr B a b (.func (.func tf) tF tC) ∧ eRow wr B o)
    case atStart => exact ⟨0, by omega, rfl, by rw [upTo_zero, List.append_nil]; exact Hj0.out, .inr rfl, He0.out, Hr0.out⟩
    case round =>
      clear He0 Hr0 Hj0 o0 a0
      obtain ⟨k, hk, rfl, hj, hcu, he, hr⟩ := hrel
      have Hr := Lib.hid hr
      obtain ⟨v, hbx, hown, hne⟩ := hr
      obtain ⟨A2, cap2, rfl, hcap2, hL⟩ := own_open hown
      have o0 := hbx.cell 0
      obtain ⟨a0, a1, a2⟩ := box_load he.1
      obtain ⟨b0, b1, b2⟩ := box_load he.2.1
      simp at o0
      have He := Lib.hid he
      have Hj := Lib.hid hj
      have Hcu := Lib.hid hcu
      have Hcc := Lib.hid (show c = true ∨ L ++ upTo a b m o k = [] from by rcases Hcl.out with h | h; exact .inl h; rcases hcu with h2 | h2; exact .inl h2; exact .inr (by rw [h, h2]; rfl))
      have Hb := Lib.hid hbx
      have Hw := Lib.hid hown
      have Hne := Lib.hid hne
      have HL := Lib.hid hL
      clear he hj hcu hbx hown hne hL
      by_cases hlt : k < a.n
      · have h1 := Hcn.out k wr A2 cap2 HL.out
        have h2 := fun V hV => Hpl.out k V A2 cap2 hlt (HL.out.call (w' := V) hV)
        cases hc : o.contains k with
        | true =>
          have hup : upTo a b m o (k + 1) = upTo a b m o k := by rw [upTo_succ, Hnx.out, hc]; simp
          have Hup := Lib.hid hup
          rw [hc] at h1
          have H1 := Lib.hid h1
          clear h1 h2 hc hup
          go_wp2_with fail
          refine (H1.out).mono ?_
          rintro e w1 ⟨rfl, rfl⟩
          go_wp2_with fail
          go_roundg (a.n - k - 1)
          case rel => exact ⟨k + 1, by omega, by go_num, by rw [Hup.out]; exact Hj.out, by rw [Hup.out]; exact Hcu.out, He.out, Hr.out⟩
          case measure => omega
        | false =>
          rw [hc] at h1
          have H1 := Lib.hid h1
          clear h1
          cases hf : fitsB a b o k with
          | false =>
            have hup : upTo a b m o (k + 1) = upTo a b m o k := by rw [upTo_succ, Hnx.out, hf]; simp
            have Hup := Lib.hid hup
            rw [hf] at h2
            have H2 := Lib.hid h2
            clear h2 hc hf hup
            go_wp2_with fail
            refine (H1.out).mono ?_
            rintro e w1 ⟨rfl, rfl⟩
            go_wp2_with fail
            refine (H2.out _ (Below.refl _ _)).mono ?_
            rintro e w1 ⟨rfl, hz⟩
            have Hz := Lib.hid hz
            clear hz
            go_wp2_with fail
            go_roundg (a.n - k - 1)
            case rel => exact ⟨k + 1, by omega, by go_num, by rw [Hup.out]; exact HJ.out _ _ _ Hcc.out Hj.out (Hz.out.mono (by have := He.out.lt; omega)), by rw [Hup.out]; exact Hcu.out, He.out.kp (.of_below Hz.out), Hr.out.kp (.of_below Hz.out)⟩
            case measure => omega
          | true =>
            have hup : upTo a b m o (k + 1) = upTo a b m o k ++ shapes a b m (o ++ [k]) := by rw [upTo_succ, Hnx.out, hc, hf]; simp
            have Hup := Lib.hid hup
            have hst := fun h0 hs => told_stop (a := a) (b := b) (m := m) (k := k) (o := o) hlt (by rw [Hnx.out, hc, hf]; rfl) h0 hs
            have Hst := Lib.hid hst
            rw [hf] at h2
            have H2 := Lib.hid h2
            have h4 := fun V => Hih.out k (L ++ upTo a b m o k) V Hcc.out hlt
            have H4 := Lib.hid h4
            clear h2 hc hf hup hst h4
            go_wp2_with fail
            refine (H1.out).mono ?_
            rintro e w1 ⟨rfl, rfl⟩
            go_wp2_with fail
            refine (H2.out _ (Below.refl _ _)).mono ?_
            rintro e w1 ⟨rfl, hz⟩
            have E1 := Lib.hid (He.out.kp (.of_below hz))
            have B1 := Lib.hid (Hb.out.kp (B := B) (.of_below hz) (by omega))
            have W1 := Lib.hid (own_kp (B := B) Hw.out (.of_below hz) (by omega))
            have J1 := Lib.hid (HJ.out _ _ _ Hcc.out Hj.out (hz.mono (by have := He.out.lt; omega)))
            have o1 := B1.out.cell 0
            have hsz := E1.out.lt
            simp at o1
            clear hz o0 a0 a1 a2 b0 b1 b2
            go_wp2_with (at_builtin; refine wpList_append_own_at _ rfl _ _ 24 rfl (B + 3) 3 i0 (.int .i64 0) 1 8 Tryd.underlying24 hi hz0 hz1 hz2 rfl (by decide) _ _ _ rfl (W1.out.alloc _) ⟨w1.heap.size, 0, none⟩ 1 1 [.int .i64 k] rfl rfl (cell_one_new _ _ _) (ints_oneCell .i64 [(k : Int)]) (by unfold maxLen; omega) (by omega) (by simp; omega) ?_; intro v' w2 hown' hgrow hnil hloc; obtain ⟨g2, cap3, rfl⟩ := own_form hown'; have x2 := (B1.out.alloc _).grown hgrow (fun e => (Hne.out _ e.symm).1 rfl); have c2 := x2.cell 0; have f2 := x2.free 0; have x3 := (E1.out.2.2.2.alloc _).grown hgrow (fun e => (Hne.out _ e.symm).2 rfl); have c3 := x3.cell 0; simp at c2 c3; have E3 := Lib.hid (each_put E1.out B1.out W1.out Hne.out hown' hgrow hloc); clear x2 x3 hown' hgrow hnil hloc)
            refine (H4.out _ E3.out.1 E3.out.2.1 (HJ.out _ _ _ Hcc.out J1.out E3.out.2.2)).mono ?_
            rintro e w4 ⟨⟨q, rfl, hq, hj4, hr4⟩, he4⟩
            clear o1 c2 f2 c3
            cases q with
            | true =>
              obtain ⟨g, cap4, hb4, hc4, he5, hr5, hbl⟩ := each_back he4 (hr4 rfl)
              have htl : told c (shapes a b m (o ++ [k])) = shapes a b m (o ++ [k]) := by
                unfold told
                cases c with
                | true => rfl
                | false =>
                  have h : (shapes a b m (o ++ [k])).isEmpty = true := hq.symm
                  rw [List.isEmpty_iff.1 h]; rfl
              have hcu2 : c = true ∨ upTo a b m o (k + 1) = [] := by
                rcases Hcu.out with h | h
                · exact .inl h
                · cases c with
                  | true => exact .inl rfl
                  | false =>
                    have h2 : (shapes a b m (o ++ [k])).isEmpty = true := hq.symm
                    exact .inr (by rw [Hup.out, h, List.isEmpty_iff.1 h2]; rfl)
              rw [htl, List.append_assoc, ← Hup.out] at hj4
              have c4 := hb4.cell 0
              have f4 := hb4.free 0
              simp at c4
              have i1 : (0 : Int) ≤ (o.length : Int) := by omega
              have i2 : (o.length : Int) ≤ (cap4 : Int) := by omega
              have hcc2 : c = true ∨ L ++ upTo a b m o (k + 1) = [] := by rcases Hcl.out with h | h; exact .inl h; rcases hcu2 with h2 | h2; exact .inl h2; exact .inr (by rw [h, h2]; rfl)
              have J4 := Lib.hid (HJ.out _ _ _ hcc2 hj4 hbl)
              have E5 := Lib.hid he5
              have R5 := Lib.hid hr5
              have C5 := Lib.hid hcu2
              clear hq hj4 hr4 he4 hb4 he5 hr5 hbl htl hcu2 hcc2
              go_wp2_with fail
              go_roundg (a.n - k - 1)
              case rel => exact ⟨k + 1, by omega, by go_num, J4.out, C5.out, E5.out, R5.out⟩
              case measure => omega
            | false =>
              have hcf : c = false ∧ (shapes a b m (o ++ [k])).isEmpty = false := by simpa using hq
              obtain ⟨rfl, hse⟩ := hcf
              have h0 : upTo a b m o k = [] := by rcases Hcu.out with h | h; cases h; exact h
              obtain ⟨t1, t2⟩ := Hst.out h0 hse
              rw [h0, List.append_nil, ← t2] at hj4
              have J4 := Lib.hid hj4
              have T1 := Lib.hid t1
              have E4 := Lib.hid he4
              clear hq hj4 hr4 he4 hse h0 t1 t2
              go_wp2_with fail
              go_ret
              exact ⟨⟨false, rfl, by rw [T1.out]; rfl, J4.out, fun h => by cases h⟩, E4.out⟩
      · have hk2 : k = a.n := by omega
        have hfin : J wr (L ++ told c (shapes a b (m + 1) o)) ∧ true = (c || (shapes a b (m + 1) o).isEmpty) := by
          have hj := Hj.out
          have hcu := Hcu.out
          rw [hk2, ← shapes_upTo] at hj hcu
          rcases hcu with rfl | h
          · exact ⟨hj, by simp⟩
          · rw [h] at hj ⊢
            exact ⟨by cases c <;> exact hj, by simp⟩
        have Hfin := Lib.hid hfin
        clear hfin hk2
        go_wp2_with fail
        go_ret
        exact ⟨⟨true, rfl, Hfin.out.2, Hfin.out.1, fun _ => Hr.out⟩, He.out⟩

end Go.Proofs.YtgnmlijfenjehaaDoor
