/-
  The reference's TurnStructure. Condition: texts below the reach.
-/
import Derived.Test.YtpaoffjicgmleaaDoorTurn
namespace Go.Proofs.YtpaoffjicgmleaaDoor
open Go.RowKit
open Pl
set_option linter.unusedSimpArgs false
set_option linter.unusedVariables false

set_option maxHeartbeats 2000000 in
set_option maxRecDepth 100000 in
theorem TurnStructure_spec (i : Int) (s r : ByteArray) (w : World) (hs : s.size ≤ maxLen) (hr : r.size ≤ maxLen) :
    Calls Tryd.prog 20 #[stV i s r] w fun e w' => e = .returned (resV (turnO i s r)) ∧ Below w.heap.size w w' := by
  have hc : ∀ W, Calls Tryd.prog 57 #[stV i s r] W fun e w' => e = .returned (.bool (okB i s r)) ∧ Below W.heap.size W w' := fun W => StructureValid_spec i s r W hs hr
  rcases ok_cases i s r with hok | ⟨a, ha, rfl, rfl, rfl⟩
  · have hv : turnO i s r = none := by unfold turnO; rw [hok]; rfl
    rw [hv]
    rw [hok] at hc
    have Hc := Lib.hid hc
    clear hc hs hr hok hv
    go_enter Tryd.func20, Tryd.ntmps20
    go_wp2_with fail
    refine (Hc.out _).mono ?_
    rintro e w1 ⟨rfl, hz⟩
    have x1 := (bx_two w (.cells #[.int .i64 i, .string s, .string r] 24) #[.int .i64 0, .string (bs []), .string (bs [])] (t := 24)).call hz
    have HB := Lib.hid (((((Below.refl w.heap.size w).alloc (Nat.le_refl _) _).alloc (by simp) _).trans (hz.mono (by simp; omega))))
    obtain ⟨k0, k1, k2⟩ := box_load x1
    have f0 := x1.free 0
    have f1 := x1.free 1
    have f2 := x1.free 2
    have y1 := ((x1.set 0 (.int .i64 0)).set 1 (.string (bs []))).set 2 (.string (bs []))
    obtain ⟨q0, q1, q2⟩ := box_load (a := .int .i64 0) (b := .string (bs [])) (c := .string (bs [])) y1
    clear hz y1
    have Hx := Lib.hid x1
    clear x1
    go_wp2_with fail
    refine bodyPost_ret (v := resV none) ?_ rfl ⟨rfl, ?_⟩
    · have e0 : (⟨#[]⟩ : ByteArray) = bs [] := rfl
      simp only [e0]
      simp [results, Tryd.results20, go_sem, q0, q1, q2, resV]
    · exact ((HB.out.setCell (by simp) _).setCell (by simp) _).setCell (by simp) _
  · have hok := okB_true ha
    have hv : turnO a.n (bs a.set) (bs a.rel) = some a.turn := by unfold turnO; rw [hok]; rfl
    rw [hv]
    rw [hok] at hc
    have Hc := Lib.hid hc
    have hlo := ha.lo
    have hn := ha.hi
    obtain ⟨n, hnn⟩ : ∃ n, n = a.n := ⟨_, rfl⟩
    obtain ⟨g, hgg⟩ : ∃ g : Nat → Nat → Bool, g = fun x y => a.inR y x := ⟨_, rfl⟩
    have hR : ∀ x y, x < n → y < n → ∀ W, Calls Tryd.prog 62 #[stV (n : Int) (bs a.set) (bs a.rel), .int .i64 y, .int .i64 x] W fun e w' => e = .returned (.bool (g x y)) ∧ Below W.heap.size W w' := fun x y hx hy W => by
      subst hnn hgg
      exact l1Rel_calls a ha y x hy hx W
    have hfin : stV (n : Int) (bs a.set) (bs (relTo n g n)) = stA a.turn := by
      subst hnn hgg
      show stV _ _ _ = stV _ _ _
      have e1 : a.turn.set = a.set := by unfold St.turn; rw [mkSt_set, setTo_self ha]
      rw [e1]
      rfl
    have HR := Lib.hid hR
    have Hfin := Lib.hid hfin
    rw [← hnn] at Hc hlo hn ⊢
    generalize bs a.set = S at Hc HR Hfin ⊢
    generalize bs a.rel = R at Hc HR Hfin ⊢
    clear hc hs hr hok hv hR hfin hnn hgg
    go_enter Tryd.func20, Tryd.ntmps20
    go_wp2_with fail
    refine (Hc.out _).mono ?_
    rintro e w1 ⟨rfl, hz⟩
    have x0 := ((Bx.new w 24 #[.int .i64 n, .string S, .string R]).alloc (.cells #[.int .i64 0, .string (bs []), .string (bs [])] 24)).call hz
    have x1 := (bx_two w (.cells #[.int .i64 n, .string S, .string R] 24) #[.int .i64 0, .string (bs []), .string (bs [])] (t := 24)).call hz
    have hB := ((((Below.refl w.heap.size w).alloc (Nat.le_refl _) (.cells #[.int .i64 n, .string S, .string R] 24)).alloc (by simp) (.cells #[.int .i64 0, .string (bs []), .string (bs [])] 24)).trans (hz.mono (by simp; omega)))
    obtain ⟨k0, k1, k2⟩ := box_load x0
    clear hz
    have hw1 : w.heap.size + 1 < w1.heap.size := x1.lt
    have X0 := Lib.hid x0
    have X1 := Lib.hid x1
    have HB := Lib.hid hB
    clear x0 x1 hB
    go_wp2_with fail
    go_loopg [5] n (fun c i wr => ∃ k : Nat, k + c = n ∧ i = .int .i64 k ∧ Bx wr w.heap.size 24 #[.int .i64 n, .string S, .string R] ∧ Bx wr (w.heap.size + 1) 24 #[.int .i64 0, .string (bs []), .string (bs [])] ∧ Bx wr w1.heap.size 24 #[.int .i64 n, .string S, .string (bs (relTo n g k))] ∧ Below w.heap.size w wr)
    case atStart => exact ⟨0, by omega, rfl, X0.out.alloc _, X1.out.alloc _, Bx.new w1 _ _, HB.out.alloc HB.out.size _⟩
    case round =>
      obtain ⟨k, hk, rfl, ha0, hr0, hb0, hbw⟩ := hrel
      obtain ⟨k0, k1, k2⟩ := box_load ha0
      have Ha0 := Lib.hid ha0
      have Hr0 := Lib.hid hr0
      have Hb0 := Lib.hid hb0
      have Hbw := Lib.hid hbw
      clear ha0 hr0 hb0 hbw
      by_cases hlt : k < n
      · go_wp2_with fail
        go_loopg [6] n (fun c i wr => ∃ j : Nat, j + c = n ∧ i = .int .i64 j ∧ Bx wr w.heap.size 24 #[.int .i64 n, .string S, .string R] ∧ Bx wr (w.heap.size + 1) 24 #[.int .i64 0, .string (bs []), .string (bs [])] ∧ Bx wr w1.heap.size 24 #[.int .i64 n, .string S, .string (bs (relAt n g k j))] ∧ Below w.heap.size w wr)
        case atStart => exact ⟨0, by omega, rfl, Ha0.out, Hr0.out, by rw [relAt_zero]; exact Hb0.out, Hbw.out⟩
        case round =>
          clear Ha0 Hr0 Hb0 Hbw k0 k1 k2
          obtain ⟨j, hj, rfl, ha0, hr0, hb0, hbw⟩ := hrel
          obtain ⟨k0, k1, k2⟩ := box_load ha0
          have Ha0 := Lib.hid ha0
          have Hr0 := Lib.hid hr0
          have Hb0 := Lib.hid hb0
          have Hbw := Lib.hid hbw
          clear ha0 hr0 hb0 hbw
          by_cases hlj : j < n
          · have c1 := Hb0.out.cell 2
            have g1 := Hb0.out.free 2
            simp at c1
            have s1 : (bs (relAt n g k j)).size ≤ 100 := by
              rw [bs_size, relAt_len]
              have h64 := sq_le hn
              have hkn : k * n ≤ n * n := Nat.mul_le_mul_right n (by omega)
              omega
            have s2 : (bs [bitB (g k j)]).size ≤ 1 := by rw [bs_size]; simp
            have hs3 : bs (relAt n g k j) ++ bs [bitB (g k j)] = bs (relAt n g k (j + 1)) := by rw [append_bs, bs_data, bs_data, relAt_succ]
            have Hs3 := Lib.hid hs3
            clear hs3
            go_upto_region 10 with (fail)
            go_region_with (first | (go_at_call 61; refine (l1Bit_calls _ _).mono ?_; rintro e w3 ⟨rfl, rfl⟩) | (go_at_call 62; refine (HR.out k j hlt hlj _).mono ?_; rintro e w2 ⟨rfl, hz⟩; have c2 := (Hb0.out.drew.call hz).cell 2; have f2 := (Hb0.out.drew.call hz).free 2; simp at c2; have Hz := Lib.hid hz; clear hz))
            all_goals
              go_wp2_with fail
              go_roundg (n - j - 1)
              case rel => exact ⟨j + 1, by omega, by go_num, (Ha0.out.drew.call Hz.out).far (by simp; omega) _, (Hr0.out.drew.call Hz.out).far (by simp; omega) _, by rw [← Hs3.out]; exact (Hb0.out.drew.call Hz.out).set 2 _, (Hbw.out.drew.trans (Hz.out.mono Hbw.out.drew.size)).setCell (by simp; omega) _⟩
              case measure => omega
          · obtain rfl : n = j := by omega
            go_wp2_with fail
            go_roundg (n - k - 1)
            case rel => exact ⟨k + 1, by omega, by go_num, Ha0.out, Hr0.out, by rw [relTo_succ]; exact Hb0.out, Hbw.out⟩
            case measure => omega
      · obtain rfl : n = k := by omega
        obtain ⟨c0, c1, c2⟩ := box_load Hb0.out
        obtain ⟨d0, d1, d2⟩ := box_load Hr0.out
        have e0 := Hr0.out.free 0
        have e1 := Hr0.out.free 1
        have e2 := Hr0.out.free 2
        go_wp2_with fail
        have y1 := ((Hr0.out.set 0 (.int .i64 n)).set 1 (.string S)).set 2 (.string (bs (relTo n g n)))
        obtain ⟨q0, q1, q2⟩ := box_load (a := .int .i64 n) (b := .string S) (c := .string (bs (relTo n g n))) y1
        refine bodyPost_ret (v := resV (some a.turn)) ?_ rfl ⟨rfl, ?_⟩
        · have hres : resV (some a.turn) = .tuple #[stV (n : Int) S (bs (relTo n g n)), .bool true] := by rw [Hfin.out]; rfl
          rw [hres]
          simp [results, Tryd.results20, go_sem, q0, q1, q2]
        · exact ((Hbw.out.setCell (by simp) _).setCell (by simp) _).setCell (by simp) _

end Go.Proofs.YtpaoffjicgmleaaDoor
