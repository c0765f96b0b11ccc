/-
  l1Orders of the reference: how many orders fit. Condition: valid structures of one size.
-/
import Derived.Test.YtpaoffjicgmleaaDoorApp
import Derived.Test.YtpaoffjicgmleaaDoorCount
namespace Go.Proofs.YtpaoffjicgmleaaDoor
open Go.RowKit
open Pl
set_option linter.unusedSimpArgs false
set_option linter.unusedVariables false

/-- what l1Fits says -/
def FitsC (a b : St) : Prop := ∀ (o : List Nat), (∀ y ∈ o, y < a.n) → o.length < a.n → ∀ x, x < a.n → ∀ (ga gb c1 c2 : Nat) (w : World), LRow w (some ⟨ga, 0, none⟩) (natsI (o ++ [x])) → LRow w (some ⟨gb, 0, none⟩) (natsI (List.range (o.length + 1))) →
    Calls Tryd.prog 92 #[stA a, .slice (some ⟨ga, 0, none⟩) (o.length + 1) c1, stA b, .slice (some ⟨gb, 0, none⟩) (o.length + 1) c2] w fun e w' => e = .returned (.bool (nextB a b o x)) ∧ Below w.heap.size w w'

/-- a number, and some list -/
def NumL (n : Nat) (e : Ending) : Prop := ∃ F k cap, e = .returned (.tuple #[.int .i64 (n : Nat), .slice F k cap])

set_option maxHeartbeats 4000000 in
set_option maxRecDepth 100000 in
theorem l1Orders_calls (a b : St) (ha : a.ok) (hb : b.ok) (hab : a.n = b.n) (hfits : FitsC a b) : ∀ (m : Nat) (o : List Nat) (ga gb c1 c2 : Nat) (W : World), o.length + m = a.n → (∀ x ∈ o, x < a.n) →
    LRow W (some ⟨ga, 0, none⟩) (natsI o) → LRow W (some ⟨gb, 0, none⟩) (natsI (List.range o.length)) →
    Calls Tryd.prog 74 #[stA a, .slice (some ⟨ga, 0, none⟩) o.length c1, stA b, .slice (some ⟨gb, 0, none⟩) o.length c2] W fun e w' => NumL (shapes a b m o).length e ∧ Below W.heap.size W w' := by
  have hn8 := ha.hi
  obtain ⟨i0, hi, hz0, hz1, hz2⟩ := info_parts (P := Tryd.prog) (e := 3) (z := .int .i64 0) (size := 1) (bytes := 8) (by kernel_rfl)
  intro m
  induction m with
  | zero =>
    intro o ga gb c1 c2 W hl ho hA hB
    show Calls Tryd.prog 74 #[stV (a.n : Int) (bs a.set) (bs a.rel), .slice (some ⟨ga, 0, none⟩) o.length c1, stV (b.n : Int) (bs b.set) (bs b.rel), .slice (some ⟨gb, 0, none⟩) o.length c2] W _
    have d1 : ((o.length : Int) == (a.n : Int)) = true := by simp; omega
    have hoz : o.length ≤ 8 := by omega
    have L0 := Lib.hid ((hA.alloc (.cells #[.int .i64 a.n, .string (bs a.set), .string (bs a.rel)] 24)).alloc (.cells #[.int .i64 b.n, .string (bs b.set), .string (bs b.rel)] 24))
    have B0 := Lib.hid (((Below.refl W.heap.size W).alloc (Nat.le_refl _) (.cells #[.int .i64 a.n, .string (bs a.set), .string (bs a.rel)] 24)).alloc (by simp) (.cells #[.int .i64 b.n, .string (bs b.set), .string (bs b.rel)] 24))
    have hon : (o.length : Int) = (a.n : Int) := by omega
    have Hon := Lib.hid hon
    clear hA hB ho hl hab ha hb hon hfits
    generalize hNL : NumL (shapes a b 0 o).length = PP
    have hPP : ∀ F k cap, PP (.returned (.tuple #[.int .i64 1, .slice F k cap])) := fun F k cap => by rw [← hNL]; exact ⟨F, k, cap, rfl⟩
    have HPP := Lib.hid hPP
    clear hPP hNL
    go_enter Tryd.func74, Tryd.ntmps74
    go_upto_region 2 with (fail)
    generalize hV : (W.alloc (.cells #[.int .i64 a.n, .string (bs a.set), .string (bs a.rel)] 24)).alloc (.cells #[.int .i64 b.n, .string (bs b.set), .string (bs b.rel)] 24) = V at *
    clear hV
    go_wp2_with (at_builtin; refine wpList_append_own_at _ rfl (.tmp 22) (.tmp 23) 25 rfl V.heap.size 3 i0 (.int .i64 0) 1 8 Tryd.underlying25 hi hz0 hz1 hz2 rfl (by decide) _ 0 [] rfl (own_zero V) ⟨ga, 0, none⟩ o.length _ (intsV (natsI o)) rfl (by simp [intsV_len, natsI_len]) (LRow.news (L0.out.alloc _)) (ints_oneCell .i64 _) (by unfold maxLen; omega) (by omega) (by simp) ?_; intro v1 w1 ho1 hg1 hnn hat1; clear hnn hat1)
    obtain ⟨ho2, hb1⟩ := app_one ho1 hg1
    have B1 := Lib.hid (B0.out.trans (hb1.mono B0.out.size))
    obtain ⟨A, cap, rfl, _, _⟩ := own_open ho2
    clear ho1 hg1 ho2 hb1
    go_wp2_with fail
    go_ret2
    exact ⟨HPP.out _ _ _, B1.out⟩
  | succ m ih =>
    intro o ga gb c1 c2 W hl ho hA hB
    show Calls Tryd.prog 74 #[stV (a.n : Int) (bs a.set) (bs a.rel), .slice (some ⟨ga, 0, none⟩) o.length c1, stV (b.n : Int) (bs b.set) (bs b.rel), .slice (some ⟨gb, 0, none⟩) o.length c2] W _
    have hol : o.length < a.n := by omega
    have d1 : ((o.length : Int) == (a.n : Int)) = false := by simp; omega
    have d2 : ¬ (o.length : Int) = (a.n : Int) := by omega
    have hoz : o.length ≤ 8 := by omega
    have HA := Lib.hid hA
    have HB := Lib.hid hB
    have B0 := Lib.hid (((Below.refl W.heap.size W).alloc (Nat.le_refl _) (.cells #[.int .i64 a.n, .string (bs a.set), .string (bs a.rel)] 24)).alloc (by simp) (.cells #[.int .i64 b.n, .string (bs b.set), .string (bs b.rel)] 24))
    have X0 := Lib.hid (show Two W ((W.alloc (.cells #[.int .i64 a.n, .string (bs a.set), .string (bs a.rel)] 24)).alloc (.cells #[.int .i64 b.n, .string (bs b.set), .string (bs b.rel)] 24)) #[.int .i64 a.n, .string (bs a.set), .string (bs a.rel)] #[.int .i64 b.n, .string (bs b.set), .string (bs b.rel)] from ⟨(Bx.new W _ _).alloc _, bx_two W _ _⟩)
    have Hih := Lib.hid ih
    have Hfits := Lib.hid hfits
    have Ho := Lib.hid ho
    have Hl := Lib.hid hl
    have hm8 := pow8 (m := m) (by omega)
    have Hup := Lib.hid (fun k => upTo_le (a := a) (b := b) hn8 m o k)
    have Hsh := Lib.hid (fun k : Nat => shapes_le (a := a) (b := b) hn8 m (o ++ [k]))
    have Hm8 := Lib.hid hm8
    clear hA hB ho hl hab ha hb hfits ih hm8
    generalize hNL : NumL (shapes a b (m + 1) o).length = PP
    have hPP : ∀ N : Int, N = ((upTo a b m o a.n).length : Nat) → ∀ F k cap, PP (.returned (.tuple #[.int .i64 N, .slice F k cap])) := fun N hN F k cap => by
      rw [hN, ← hNL, ← shapes_upTo]; exact ⟨F, k, cap, rfl⟩
    have HPP := Lib.hid hPP
    clear hPP hNL
    go_enter Tryd.func74, Tryd.ntmps74
    go_wp2_with fail
    go_loopg [10, 11, 12] a.n (fun c n f i wr => ∃ (k : Nat) (N : Int) (F : Option Addr) (fl fc : Nat), k + c = a.n ∧ i = .int .i64 k ∧ n = .int .i64 N ∧ N = ((upTo a b m o k).length : Nat) ∧ f = .slice F fl fc ∧ Two W wr #[.int .i64 a.n, .string (bs a.set), .string (bs a.rel)] #[.int .i64 b.n, .string (bs b.set), .string (bs b.rel)] ∧ Below W.heap.size W wr)
    case atStart => exact ⟨0, 0, _, 0, 0, by omega, rfl, rfl, rfl, rfl, ⟨X0.out.1.alloc _, X0.out.2.alloc _⟩, B0.out.alloc (by simp; omega) _⟩
    case round =>
      obtain ⟨k, N, F, fl, fc, hk, rfl, rfl, hN, rfl, hx, hbl⟩ := hrel
      have HN := Lib.hid hN
      have X1 := Lib.hid hx
      have B1 := Lib.hid hbl
      obtain ⟨m0, m1, m2, m3, m4, m5⟩ := hx.six
      have hNb : 0 ≤ N ∧ N ≤ 134217728 := by
        have h1 := Hup.out k
        have h2 : k * 8 ^ m ≤ 8 * 16777216 := Nat.mul_le_mul (by omega) Hm8.out
        omega
      obtain ⟨hN0, hN1⟩ := hNb
      have L1 := Lib.hid (HA.out.call hbl)
      have M1 := Lib.hid (HB.out.call hbl)
      clear hN hx hbl
      by_cases hlt : k < a.n
      · have hki : (k : Int) < (a.n : Int) := by omega
        go_upto_region 8 with (fail)
        clear m0 m1 m2 m3 m4 m5
        go_wp2_with (first | (at_builtin; refine wpList_append_own_at _ rfl (.tmp 32) (.tmp 33) 25 rfl wr.heap.size 3 i0 (.int .i64 0) 1 8 Tryd.underlying25 hi hz0 hz1 hz2 rfl (by decide) _ 0 [] rfl (own_zero wr) ⟨ga, 0, none⟩ o.length _ (intsV (natsI o)) rfl (by simp [intsV_len, natsI_len]) (LRow.news (L1.out.alloc _)) (ints_oneCell .i64 _) (by unfold maxLen; omega) (by omega) (by simp) ?_; intro v1 w1 ho1 hg1 hnn hat1; clear hnn hat1; have O1 := Lib.hid (app_one ho1 hg1).1; have B2 := Lib.hid (app_one ho1 hg1).2; clear ho1 hg1) | (at_builtin; refine wpList_append_own_at _ rfl (.tmp 34) (.tmp 36) 25 rfl wr.heap.size 3 i0 (.int .i64 0) 1 8 Tryd.underlying25 hi hz0 hz1 hz2 rfl (by decide) _ o.length (intsV (natsI o)) rfl (O1.out.alloc _) ⟨w1.heap.size, 0, none⟩ 1 1 [.int .i64 (k : Nat)] rfl rfl (cell_one_new _ _ _) (ints_oneCell .i64 [((k : Nat) : Int)]) (by unfold maxLen; omega) (by omega) (by have := B2.out.size; simp; omega) ?_; intro v2 w2 ho2 hg2 hnn hat2; clear hnn hat2; obtain ⟨g1, cap1, rfl, hgg, hl2, hb2⟩ := app_two B2.out O1.out ho2 hg2; have X2 := Lib.hid (X1.out.call hb2); have B3 := Lib.hid (B1.out.trans (hb2.mono B1.out.size)); have M2 := Lib.hid (M1.out.call hb2); have L2 := Lib.hid hl2; clear ho2 hg2 hl2 hb2 O1 B2 hgg) | (at_builtin; refine wpList_append_own_at _ rfl (.tmp 38) (.tmp 39) 25 rfl w2.heap.size 3 i0 (.int .i64 0) 1 8 Tryd.underlying25 hi hz0 hz1 hz2 rfl (by decide) _ 0 [] rfl (own_zero w2) ⟨gb, 0, none⟩ o.length _ (intsV (natsI (List.range o.length))) rfl (by simp [intsV_len, natsI_len]) (LRow.news (M2.out.alloc _)) (ints_oneCell .i64 _) (by unfold maxLen; omega) (by omega) (by simp) ?_; intro v3 w3 ho3 hg3 hnn hat3; clear hnn hat3; have O3 := Lib.hid (app_one ho3 hg3).1; have B4 := Lib.hid (app_one ho3 hg3).2; clear ho3 hg3) | (at_builtin; refine wpList_append_own_at _ rfl (.tmp 40) (.tmp 43) 25 rfl w2.heap.size 3 i0 (.int .i64 0) 1 8 Tryd.underlying25 hi hz0 hz1 hz2 rfl (by decide) _ o.length (intsV (natsI (List.range o.length))) rfl (O3.out.alloc _) ⟨w3.heap.size, 0, none⟩ 1 1 [.int .i64 (o.length : Nat)] rfl rfl (cell_one_new _ _ _) (ints_oneCell .i64 [((o.length : Nat) : Int)]) (by unfold maxLen; omega) (by omega) (by have := B4.out.size; simp; omega) ?_; intro v4 w4 ho4 hg4 hnn hat4; clear hnn hat4; obtain ⟨g2, cap2, rfl, hgg, hl4, hb4⟩ := app_two B4.out O3.out ho4 hg4; rw [← List.range_succ] at hl4; have X4 := Lib.hid (X2.out.call hb4); have B5 := Lib.hid (B3.out.trans (hb4.mono B3.out.size)); have L4 := Lib.hid (L2.out.call hb4); have M4 := Lib.hid hl4; clear ho4 hg4 hl4 hb4 O3 B4 X2 B3 L2 M2 hgg; obtain ⟨m0, m1, m2, m3, m4, m5⟩ := X4.out.six))
        refine (Hfits.out o Ho.out hol k hlt g1 g2 cap1 cap2 _ L4.out M4.out).mono ?_
        rintro e w5 ⟨rfl, hz⟩
        have X5 := Lib.hid (X4.out.call hz)
        have B6 := Lib.hid (B5.out.trans (hz.mono B5.out.size))
        have L5 := Lib.hid (L4.out.call hz)
        have M5 := Lib.hid (M4.out.call hz)
        clear hz X4 B5 L4 M4 m0 m1 m2 m3 m4 m5
        obtain ⟨m0, m1, m2, m3, m4, m5⟩ := X5.out.six
        cases hnx : nextB a b o k with
        | false =>
          have hs : N = ((upTo a b m o (k + 1)).length : Nat) := by rw [HN.out, upTo_succ, hnx]; simp
          have Hs := Lib.hid hs
          clear hs hnx
          go_wp2_with fail
          go_roundg (a.n - k - 1)
          case rel => exact ⟨k + 1, N, F, fl, fc, by omega, by go_num, rfl, Hs.out, rfl, X5.out, B6.out⟩
          case measure => omega
        | true =>
          have hs : ∀ K : Int, K = ((shapes a b m (o ++ [k])).length : Nat) → N + K = ((upTo a b m o (k + 1)).length : Nat) := fun K hK => by rw [HN.out, hK, upTo_succ, hnx]; simp
          have Hs := Lib.hid hs
          have hrec := Hih.out (o ++ [k]) g1 g2 cap1 cap2 w5 (by have := Hl.out; simp; omega) (by intro y hy; rcases List.mem_append.1 hy with hy | hy; exact Ho.out y hy; simp at hy; omega) L5.out (by simpa using M5.out)
          simp only [List.length_append, List.length_singleton] at hrec
          have Hrec := Lib.hid hrec
          have hKb := Hsh.out k
          have hKc := Hm8.out
          clear hs hnx hrec
          go_wp2_with fail
          refine (Hrec.out).mono ?_
          rintro e w6 ⟨⟨F6, k6, cap6, rfl⟩, hz⟩
          have X6 := Lib.hid (X5.out.call hz)
          have B7 := Lib.hid (B6.out.trans (hz.mono B6.out.size))
          clear hz X5 B6 L5 M5 m0 m1 m2 m3 m4 m5 Hrec
          obtain ⟨K, hK⟩ : ∃ K : Int, K = ((shapes a b m (o ++ [k])).length : Nat) := ⟨_, rfl⟩
          rw [← hK]
          have hK0 : 0 ≤ K ∧ K ≤ 16777216 := by omega
          obtain ⟨hK0, hK1⟩ := hK0
          have hs2 := Hs.out K hK
          have Hs2 := Lib.hid hs2
          clear hK hs2 Hs hKb hKc
          by_cases h0 : N = 0
          · subst h0
            go_wp2_with fail
            go_roundg (a.n - k - 1)
            case rel => exact ⟨k + 1, _, _, _, _, by omega, by go_num, rfl, (by have := Hs2.out; omega), rfl, X6.out, B7.out⟩
            case measure => omega
          · have hb0 : (N == 0) = false := beq_eq_false_iff_ne.2 h0
            go_wp2_with fail
            go_roundg (a.n - k - 1)
            case rel => exact ⟨k + 1, _, _, _, _, by omega, by go_num, rfl, (by have := Hs2.out; omega), rfl, X6.out, B7.out⟩
            case measure => omega
      · have hk2 : k = a.n := by omega
        have hki : ¬ (k : Int) < (a.n : Int) := by omega
        have HN2 := Lib.hid (show N = ((upTo a b m o a.n).length : Nat) by rw [← hk2]; exact HN.out)
        clear hk2
        go_wp2_with fail
        go_ret2
        exact ⟨HPP.out _ HN2.out _ _ _, B1.out⟩

end Go.Proofs.YtpaoffjicgmleaaDoor
