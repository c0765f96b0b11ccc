/-
  l1Order of the reference: the first order that fits. Condition: valid structures of one size.
-/
import Derived.Test.YtgnmlijfenjehaaDoorSOrders
namespace Go.Proofs.YtgnmlijfenjehaaDoor
open Go.RowKit
open Pl
set_option linter.unusedSimpArgs false
set_option linter.unusedVariables false

/-- the first of some lists, and whether there is one -/
def FstL (L : List (List Nat)) (e : Ending) (w' : World) : Prop := ∃ g cap, e = .returned (.tuple #[.slice (some ⟨g, 0, none⟩) (L.headD []).length cap, .bool (!L.isEmpty)]) ∧ LRow w' (some ⟨g, 0, none⟩) (natsI (L.headD []))

theorem fst_stop {a b : St} {m k : Nat} {o : List Nat} (hk : k < a.n) (hn : nextB a b o k = true) (h0 : upTo a b m o k = []) (hs : (shapes a b m (o ++ [k])).isEmpty = false) :
    (shapes a b (m + 1) o).isEmpty = false ∧ (shapes a b (m + 1) o).headD [] = (shapes a b m (o ++ [k])).headD [] := by
  obtain ⟨h1, h2⟩ := told_stop hk hn h0 hs
  refine ⟨h1, ?_⟩
  generalize shapes a b (m + 1) o = L at *
  generalize shapes a b m (o ++ [k]) = M at *
  cases L with
  | nil => cases h1
  | cons x L =>
    cases M with
    | nil => cases hs
    | cons y M => simp [told] at h2; exact h2

set_option maxHeartbeats 4000000 in
set_option maxRecDepth 100000 in
theorem l1Order_calls (a b : St) (ha : a.ok) (hb : b.ok) (hab : a.n = b.n) (hfits : FitsC a b) : ∀ (m : Nat) (o : List Nat) (ga c1 : Nat) (W : World), o.length + m = a.n → (∀ x ∈ o, x < a.n) →
    LRow W (some ⟨ga, 0, none⟩) (natsI o) →
    Calls Tryd.prog 60 #[stA a, .slice (some ⟨ga, 0, none⟩) o.length c1, stA b] W fun e w' => FstL (shapes a b m o) e w' ∧ Below W.heap.size W w' := by
  have hn8 := ha.hi
  obtain ⟨i0, hi, hz0, hz1, hz2⟩ := info_parts (P := Tryd.prog) (e := 3) (z := .int .i64 0) (size := 1) (bytes := 8) (by kernel_rfl)
  intro m
  induction m with
  | zero =>
    intro o ga c1 W hl ho hA
    show Calls Tryd.prog 60 #[stV (a.n : Int) (bs a.set) (bs a.rel), .slice (some ⟨ga, 0, none⟩) o.length c1, stV (b.n : Int) (bs b.set) (bs b.rel)] W _
    have d1 : ((o.length : Int) == (a.n : Int)) = true := by simp; omega
    have hoz : o.length ≤ 8 := by omega
    have L0 := Lib.hid ((hA.alloc (.cells #[.int .i64 a.n, .string (bs a.set), .string (bs a.rel)] 27)).alloc (.cells #[.int .i64 b.n, .string (bs b.set), .string (bs b.rel)] 27))
    have B0 := Lib.hid (((Below.refl W.heap.size W).alloc (Nat.le_refl _) (.cells #[.int .i64 a.n, .string (bs a.set), .string (bs a.rel)] 27)).alloc (by simp) (.cells #[.int .i64 b.n, .string (bs b.set), .string (bs b.rel)] 27))
    have hon : (o.length : Int) = (a.n : Int) := by omega
    have Hon := Lib.hid hon
    clear hA ho hl hab ha hb hon hfits
    generalize hNL : FstL (shapes a b 0 o) = PP
    have hPP : ∀ w, LRow w (some ⟨ga, 0, none⟩) (natsI o) → PP (.returned (.tuple #[.slice (some ⟨ga, 0, none⟩) o.length c1, .bool true])) w := fun w h => by rw [← hNL]; exact ⟨ga, c1, rfl, h⟩
    have HPP := Lib.hid hPP
    clear hPP hNL
    go_enter Tryd.func60, Tryd.ntmps60
    go_wp2_with fail
    go_ret2
    exact ⟨HPP.out _ L0.out, B0.out⟩
  | succ m ih =>
    intro o ga c1 W hl ho hA
    show Calls Tryd.prog 60 #[stV (a.n : Int) (bs a.set) (bs a.rel), .slice (some ⟨ga, 0, none⟩) o.length c1, stV (b.n : Int) (bs b.set) (bs b.rel)] W _
    have hol : o.length < a.n := by omega
    have d1 : ((o.length : Int) == (a.n : Int)) = false := by simp; omega
    have d2 : ¬ (o.length : Int) = (a.n : Int) := by omega
    have hoz : o.length ≤ 8 := by omega
    have HA := Lib.hid hA
    have B0 := Lib.hid (((Below.refl W.heap.size W).alloc (Nat.le_refl _) (.cells #[.int .i64 a.n, .string (bs a.set), .string (bs a.rel)] 27)).alloc (by simp) (.cells #[.int .i64 b.n, .string (bs b.set), .string (bs b.rel)] 27))
    have X0 := Lib.hid (show Two W ((W.alloc (.cells #[.int .i64 a.n, .string (bs a.set), .string (bs a.rel)] 27)).alloc (.cells #[.int .i64 b.n, .string (bs b.set), .string (bs b.rel)] 27)) #[.int .i64 a.n, .string (bs a.set), .string (bs a.rel)] #[.int .i64 b.n, .string (bs b.set), .string (bs b.rel)] from ⟨(Bx.new W _ _).alloc _, bx_two W _ _⟩)
    have Hih := Lib.hid ih
    have Ho := Lib.hid ho
    have Hl := Lib.hid hl
    obtain ⟨n1, hn1⟩ : ∃ n1, n1 = o.length + 1 := ⟨_, rfl⟩
    have hf2 : ∀ x, x < a.n → ∀ (ga gb c1 c2 : Nat) (w : World), LRow w (some ⟨ga, 0, none⟩) (natsI (o ++ [x])) → LRow w (some ⟨gb, 0, none⟩) (natsI (List.range n1)) →
        Calls Tryd.prog 87 #[stV (a.n : Int) (bs a.set) (bs a.rel), .slice (some ⟨ga, 0, none⟩) n1 c1, stV (b.n : Int) (bs b.set) (bs b.rel), .slice (some ⟨gb, 0, none⟩) n1 c2] w fun e w' => e = .returned (.bool (nextB a b o x)) ∧ Below w.heap.size w w' := by
      rw [hn1]; exact hfits o ho hol
    have hi2 : ∀ k, k < a.n → ∀ (g c : Nat) (w : World), LRow w (some ⟨g, 0, none⟩) (natsI (o ++ [k])) → Calls Tryd.prog 60 #[stV (a.n : Int) (bs a.set) (bs a.rel), .slice (some ⟨g, 0, none⟩) n1 c, stV (b.n : Int) (bs b.set) (bs b.rel)] w fun e w' => FstL (shapes a b m (o ++ [k])) e w' ∧ Below w.heap.size w w' := by
      intro k hk g c w hL
      have h := ih (o ++ [k]) g c w (by simp; omega) (by intro y hy; rcases List.mem_append.1 hy with hy | hy; exact ho y hy; simp at hy; omega) hL
      rwa [List.length_append, List.length_singleton, ← hn1] at h
    have hn1b : n1 ≤ 9 := by omega
    have Hf2 := Lib.hid hf2
    have Hi2 := Lib.hid hi2
    have Hn1 := Lib.hid hn1
    clear hA ho hl hab ha hb hfits ih hf2 hi2 hn1
    generalize hNL : FstL (shapes a b (m + 1) o) = PP
    have hP1 : upTo a b m o a.n = [] → ∀ w g cap, PP (.returned (.tuple #[.slice (some ⟨g, 0, none⟩) 0 cap, .bool false])) w := fun h w g cap => by
      rw [← hNL, shapes_upTo, h]; exact ⟨g, cap, rfl, fun h => absurd h (by simp [natsI])⟩
    have hP2 : ∀ k w e, k < a.n → nextB a b o k = true → upTo a b m o k = [] → (shapes a b m (o ++ [k])).isEmpty = false → FstL (shapes a b m (o ++ [k])) e w → PP e w := fun k w e hk hn h0 hs ⟨g, cap, h1, h2⟩ => by
      obtain ⟨t1, t2⟩ := fst_stop hk hn h0 hs
      rw [← hNL]
      rw [hs] at h1
      refine ⟨g, cap, ?_, ?_⟩
      · rw [t1, t2]; exact h1
      · rw [t2]; exact h2
    have HP1 := Lib.hid hP1
    have HP2 := Lib.hid hP2
    clear hP1 hP2 hNL
    go_enter Tryd.func60, Tryd.ntmps60
    go_wp2_with fail
    go_loopg [8] a.n (fun c i wr => ∃ k : Nat, k + c = a.n ∧ i = .int .i64 k ∧ upTo a b m o k = [] ∧ Two W wr #[.int .i64 a.n, .string (bs a.set), .string (bs a.rel)] #[.int .i64 b.n, .string (bs b.set), .string (bs b.rel)] ∧ Below W.heap.size W wr)
    case atStart => exact ⟨0, by omega, rfl, rfl, X0.out, B0.out⟩
    case round =>
      obtain ⟨k, hk, rfl, hN, hx, hbl⟩ := hrel
      have HN := Lib.hid hN
      have X1 := Lib.hid hx
      have B1 := Lib.hid hbl
      obtain ⟨m0, m1, m2, m3, m4, m5⟩ := hx.six
      have L1 := Lib.hid (HA.out.call hbl)
      clear hN hx hbl
      by_cases hlt : k < a.n
      · have hki : (k : Int) < (a.n : Int) := by omega
        go_upto_region 6 with (fail)
        clear m0 m1 m2 m3 m4 m5
        go_upto_region 7 with (first | (at_builtin; refine wpList_append_own_at _ rfl (.tmp 26) (.tmp 27) 24 rfl wr.heap.size 3 i0 (.int .i64 0) 1 8 Tryd.underlying24 hi hz0 hz1 hz2 rfl (by decide) _ 0 [] rfl (own_zero wr) ⟨ga, 0, none⟩ o.length _ (intsV (natsI o)) rfl (by simp [intsV_len, natsI_len]) (LRow.news (L1.out.alloc _)) (ints_oneCell .i64 _) (by unfold maxLen; omega) (by omega) (by simp) ?_; intro v1 w1 ho1 hg1 hnn hat1; clear hnn hat1; have O1 := Lib.hid (app_one ho1 hg1).1; have B2 := Lib.hid (app_one ho1 hg1).2; clear ho1 hg1) | (at_builtin; refine wpList_append_own_at _ rfl (.tmp 28) (.tmp 30) 24 rfl wr.heap.size 3 i0 (.int .i64 0) 1 8 Tryd.underlying24 hi hz0 hz1 hz2 rfl (by decide) _ o.length (intsV (natsI o)) rfl (O1.out.alloc _) ⟨w1.heap.size, 0, none⟩ 1 1 [.int .i64 (k : Nat)] rfl rfl (cell_one_new _ _ _) (ints_oneCell .i64 [((k : Nat) : Int)]) (by unfold maxLen; omega) (by omega) (by have := B2.out.size; simp; omega) ?_; intro v2 w2 ho2 hg2 hnn hat2; clear hnn hat2; obtain ⟨g1, cap1, rfl, hgg, hl2, hb2⟩ := app_two B2.out O1.out ho2 hg2; have X2 := Lib.hid (X1.out.call hb2); have B3 := Lib.hid (B1.out.trans (hb2.mono B1.out.size)); have L2 := Lib.hid hl2; clear ho2 hg2 hl2 hb2 O1 B2 hgg))
        rw [← Hn1.out]
        obtain ⟨w3, hrun, hown, hgr⟩ := run_make_full (P := Tryd.prog) w2 w2.heap.size 24 3 i0 (.int .i64 0) 1 Tryd.underlying24 hi hz0 hz1 .i64 .i64 n1 (by rw [hz2]; omega) (by unfold maxLen; omega) (Nat.le_refl _)
        have Hown := Lib.hid hown
        have Hb3 := Lib.hid (show Below w2.heap.size w2 w3 from (Below.refl _ _).grown hgr (Nat.le_refl _) (by simp))
        clear hown hgr
        go_wp2_with fail
        go_loopg [11] n1 (fun c i wq => ∃ (j : Nat) (xs : List Value), j + c = n1 ∧ i = .int .i64 j ∧ wq.ownsRow w2.heap.size 3 1 (.slice (some ⟨w2.heap.size, 0, none⟩) n1 n1) n1 xs ∧ (∀ i, i < j → xs[i]? = some (.int .i64 (i : Nat))) ∧ Below w2.heap.size w2 wq)
        case atStart => exact ⟨0, _, by omega, rfl, Hown.out, fun j hj => absurd hj (Nat.not_lt_zero _), Hb3.out⟩
        case round =>
          clear hrun Hown Hb3
          obtain ⟨j, xs, hj, rfl, ho4, hx4, hb4⟩ := hrel
          have Ho4 := Lib.hid ho4
          have Hx4 := Lib.hid hx4
          have Hb4 := Lib.hid hb4
          clear ho4 hx4 hb4
          by_cases hjn : j < n1
          · have hxl : j < xs.length := by have := Ho4.out.1; omega
            have hco := (Ho4.out.cellAt j (by omega)).trans (List.getElem?_eq_getElem hxl)
            have hfo := Ho4.out.frozenAt j
            go_wp2_with fail
            go_roundg (n1 - j - 1)
            case rel =>
              obtain ⟨h1, h2⟩ := Ho4.out.stored j (.int .i64 (j : Nat))
              refine ⟨j + 1, _, by omega, by go_num, h1, fun i hi => ?_, Hb4.out.grown h2 Hb4.out.size (fun _ e => by cases e; exact Nat.le_refl _)⟩
              by_cases hij : i = j
              · subst hij; rw [List.getElem?_set_self hxl]
              · rw [List.getElem?_set_ne (by omega)]; exact Hx4.out i (by omega)
            case measure => omega
          · have hj2 : j = n1 := by omega
            have hxs : xs = intsV (natsI (List.range n1)) := by
              apply List.ext_getElem?
              intro i
              have hxl := Ho4.out.1
              by_cases hi : i < n1
              · rw [Hx4.out i (by omega)]
                simp [intsV, natsI, hi]
              · rw [List.getElem?_eq_none (by omega), List.getElem?_eq_none (by simp [intsV, natsI]; omega)]
            have M4 := Lib.hid (show LRow wr (some ⟨w2.heap.size, 0, none⟩) (natsI (List.range n1)) from LRow_of (by rw [← hxs]; exact Ho4.out))
            have X5 := Lib.hid (X2.out.call Hb4.out)
            have B5 := Lib.hid (B3.out.trans (Hb4.out.mono B3.out.size))
            have L5 := Lib.hid (L2.out.call Hb4.out)
            clear hj2 hxs Ho4 Hx4 Hb4 X2 B3 L2 X1 B1 L1
            obtain ⟨m0, m1, m2, m3, m4, m5⟩ := X5.out.six
            go_wp2_with fail
            refine (Hf2.out k hlt g1 w2.heap.size cap1 n1 _ L5.out M4.out).mono ?_
            rintro e w6 ⟨rfl, hz⟩
            have X6 := Lib.hid (X5.out.call hz)
            have B6 := Lib.hid (B5.out.trans (hz.mono B5.out.size))
            have L6 := Lib.hid (L5.out.call hz)
            clear hz X5 B5 L5 M4 m0 m1 m2 m3 m4 m5
            obtain ⟨m0, m1, m2, m3, m4, m5⟩ := X6.out.six
            cases hnx : nextB a b o k with
            | false =>
              have hs : upTo a b m o (k + 1) = [] := by rw [upTo_succ, HN.out, hnx]; rfl
              have Hs := Lib.hid hs
              clear hs hnx
              go_wp2_with fail
              go_roundg (a.n - k - 1)
              case rel => exact ⟨k + 1, by omega, by go_num, Hs.out, X6.out, B6.out⟩
              case measure => omega
            | true =>
              have Hnx := Lib.hid hnx
              clear hnx
              go_wp2_with fail
              refine (Hi2.out k hlt g1 cap1 _ L6.out).mono ?_
              rintro e w7 ⟨⟨g7, cap7, rfl, hl7⟩, hz⟩
              have X7 := Lib.hid (X6.out.call hz)
              have B7 := Lib.hid (B6.out.trans (hz.mono B6.out.size))
              have L7 := Lib.hid hl7
              clear hz hl7 X6 B6 L6 m0 m1 m2 m3 m4 m5
              obtain ⟨R, hR⟩ : ∃ R, R = (shapes a b m (o ++ [k])).headD [] := ⟨_, rfl⟩
              rw [← hR] at L7 ⊢
              have HR := Lib.hid hR
              clear hR
              obtain ⟨q, hq⟩ : ∃ q, q = !(shapes a b m (o ++ [k])).isEmpty := ⟨_, rfl⟩
              rw [← hq]
              cases q with
              | true =>
                have Hq := Lib.hid hq
                clear hq
                go_wp2_with fail
                go_ret2
                exact ⟨HP2.out k _ _ hlt Hnx.out HN.out (by have := Hq.out; simpa using this) ⟨g7, cap7, by rw [← Hq.out, ← HR.out]; rfl, by rw [← HR.out]; exact L7.out⟩, B7.out⟩
              | false =>
                have hs : upTo a b m o (k + 1) = [] := by
                  rw [upTo_succ, HN.out, Hnx.out]
                  have : (shapes a b m (o ++ [k])).isEmpty = true := by simpa using hq
                  simpa using this
                have Hs := Lib.hid hs
                clear hs hq
                go_wp2_with fail
                go_roundg (a.n - k - 1)
                case rel => exact ⟨k + 1, by omega, by go_num, Hs.out, X7.out, B7.out⟩
                case measure => omega
      · have hk2 : k = a.n := by omega
        have hki : ¬ (k : Int) < (a.n : Int) := by omega
        have HN2 := Lib.hid (show upTo a b m o a.n = [] by rw [← hk2]; exact HN.out)
        clear hk2
        go_wp2_with fail
        go_ret2
        exact ⟨HP1.out HN2.out _ _ _, B1.out.alloc B1.out.size _⟩

end Go.Proofs.YtgnmlijfenjehaaDoor
