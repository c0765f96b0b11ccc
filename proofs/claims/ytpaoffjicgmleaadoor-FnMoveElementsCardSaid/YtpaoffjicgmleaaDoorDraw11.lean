/-
  Draws from bytes: a structure and an order of its elements. Condition: at most 2^20 bytes.
-/
import Derived.Test.YtpaoffjicgmleaaDoorDraw10
import Derived.Test.YtpaoffjicgmleaaDoorOff
namespace Go.Proofs.YtpaoffjicgmleaaDoor
open Go.RowKit
open Pl
set_option linter.unusedSimpArgs false
set_option linter.unusedVariables false

attribute [local go_sem ↓] Go.wp_at_zero Go.wp_at_succ

/-- a structure and an order that are drawn: the order lies at the beginning of a block, or it has another number of elements -/
def StM (e : Ending) (w' : World) : Prop := ∃ (i : Int) (s r : ByteArray) (zs : List Int) (A : Option Addr) (c : Nat), e = .returned (.tuple #[stV i s r, .slice A zs.length c]) ∧ s.size ≤ 100 ∧ r.size ≤ 100 ∧ zs.length ≤ 10 ∧ zs.length ≤ c ∧ (LRow w' A zs ∨ (ORow w' A zs ∧ ¬ (zs.length : Int) = i))

theorem off_row {w : World} {g : Nat} {L : List Nat} (h : LRow w (some ⟨g, 0, none⟩) (natsI L)) : ORow w (some ⟨g, 1, none⟩) (natsI (L.drop 1)) := fun hn => by
  refine ⟨_, rfl, fun i hi => ?_⟩
  refine rest_cells (d := 1) h i _ ?_
  rw [show (natsI (L.drop 1)).getD i 0 = (natsI (L.drop 1))[i] from by simp only [List.getD_eq_getElem?_getD, List.getElem?_eq_getElem hi, Option.getD_some]]
  simp only [intsV, List.getElem?_map, List.getElem?_eq_getElem hi, Option.map_some]

set_option maxHeartbeats 4000000 in
set_option maxRecDepth 100000 in
theorem DrawMoveElements_calls (A : Option Addr) (n cap : Nat) (w : World) (h : ByRow w A n) (hn : n ≤ 1048576) (hc : n ≤ cap) (hm : cap ≤ maxLen) :
    Calls Tryd.prog 33 #[.slice A n cap] w fun e w' => StM e w' ∧ Below w.heap.size w w' := by
  have ho := fun W h => l15Open_calls A n cap W h hn hc hm
  have Ho := Lib.hid ho
  have H0 := Lib.hid (h.call ((Below.refl w.heap.size w).alloc (Nat.le_refl _) (.cells #[.int .i64 0, .string (bs []), .string (bs [])] 24)))
  have hso := fun (rb n cap : Nat) (A : Option Addr) (W : World) (h : Rd W rb A n cap 0) => l1Some_calls rb A n cap 0 W h (by omega)
  have hsh0 : ∀ (rb n cap p : Nat) (A : Option Addr) (m : Nat), m ≤ 8 → p ≤ 10000 → ∀ (W : World), Rd W rb A n cap p → Calls Tryd.prog 42 #[.pointer (some ⟨rb, 0, none⟩), .int .i64 (m : Nat)] W fun e w' => ShufS W rb A n cap p m e w' ∧ W.grownBy w' (some rb) := fun rb n cap p A m hm hp W h => l1Shuffle_calls rb A n cap p m W h (by omega) hm
  have hbad0 : ∀ (rb n cap : Nat) (A : Option Addr) (a : St), a.ok → a.n ≤ 5 → ∀ (p : Nat), p ≤ 10000 → ∀ (W : World), Rd W rb A n cap p → Calls Tryd.prog 45 #[.pointer (some ⟨rb, 0, none⟩), stA a] W fun e w' => BadS rb A n cap p (a.n : Int) e w' ∧ W.grownBy w' (some rb) := fun rb n cap A a ha h5 p hp W h => l1Bad_calls rb A n cap p a ha h5 W h (by omega)
  have hpk0 : ∀ (rb n cap : Nat) (A : Option Addr) (k : Int) (q : Nat) (V : World), k ≤ 100 → q ≤ 10000 → Rd V rb A n cap q → Calls Tryd.prog 43 #[.pointer (some ⟨rb, 0, none⟩), .int .i64 k] V fun e w' => PickP k e ∧ Rd w' rb A n cap (q + 1) ∧ V.grownBy w' (some rb) := fun rb n cap A k q V hk hq hr => pick_calls rb A n cap q k V hr (by omega) (by omega)
  have Hso := Lib.hid hso
  have Hsh0 := Lib.hid hsh0
  have Hbad0 := Lib.hid hbad0
  have Hpk0 := Lib.hid hpk0
  have X0 := Lib.hid (Bx.new w 24 #[.int .i64 0, .string (bs []), .string (bs [])])
  have B0 := Lib.hid ((Below.refl w.heap.size w).alloc (Nat.le_refl _) (.cells #[.int .i64 0, .string (bs []), .string (bs [])] 24))
  clear ho hso hsh0 hbad0 hpk0 h hn hc hm
  go_enter Tryd.func33, Tryd.ntmps33
  go_wp2_with fail
  refine (Ho.out _ H0.out).mono ?_
  rintro e w1 ⟨⟨A', n', cap', rfl, hr⟩, hb⟩
  have F1 := Lib.hid (Fr.new (rb := w.heap.size + 1) B0.out hr hb (by simp))
  have X1 := Lib.hid (X0.out.call hb)
  have hs1 : w.heap.size + 1 < w1.heap.size := by have := hr.box.lt; simpa using this
  clear hr hb
  go_wp2_with fail
  refine (Hso.out _ _ _ _ _ F1.out.rd).mono ?_
  rintro e w2 ⟨⟨a, p1, rfl, ha, han, hp1, hrd⟩, hg⟩
  have F2 := Lib.hid (F1.out.step hrd hg)
  have X2 := Lib.hid (X1.out.grown' hg (by simp))
  have hs2 : w.heap.size + 1 < w2.heap.size := Nat.lt_of_lt_of_le hs1 hg.size
  have Hsh := Lib.hid (fun (W : World) (h : Rd W (w.heap.size + 1) A' n' cap' p1) => Hsh0.out _ _ _ _ _ a.n (by omega) (by omega) W h)
  have Hbad := Lib.hid (fun (p : Nat) (hp : p ≤ 10000) (W : World) (h : Rd W (w.heap.size + 1) A' n' cap' p) => Hbad0.out _ _ _ _ a ha han p hp W h)
  have Hpk := Lib.hid (fun (k : Int) (q : Nat) (W : World) hk hq (h : Rd W (w.heap.size + 1) A' n' cap' q) => Hpk0.out _ _ _ _ k q W hk hq h)
  have Hn1 := Lib.hid ha.lo
  have hsa := st_small ha
  clear hrd hg ha
  have F5 := Lib.hid (F2.out.alloc (.cells #[.int .i64 (a.n : Int), .string (bs a.set), .string (bs a.rel)] 24))
  have X5 := Lib.hid (X2.out.alloc (.cells #[.int .i64 (a.n : Int), .string (bs a.set), .string (bs a.rel)] 24))
  have XA5 := Lib.hid (Bx.new w2 24 #[.int .i64 (a.n : Int), .string (bs a.set), .string (bs a.rel)])
  have m0 := XA5.out.cell 0
  go_wp2_with fail
  refine (Hsh.out _ F5.out.rd).mono ?_
  rintro e w6 ⟨⟨L, g, cp, rfl, hL, hlt, hnd, ho0, hrd⟩, hg⟩
  have F6 := Lib.hid (F5.out.step hrd hg)
  have X6 := Lib.hid (X5.out.grown' hg (by first | (simp; done) | (simp; omega)))
  have XA6 := Lib.hid (XA5.out.grown' hg (by first | (simp; done) | (simp; omega)))
  have hrb : w.heap.size + 1 < w2.heap.size + 1 := by omega
  have ho := own_low ho0 (show w2.heap.size + 1 ≤ _ by simp)
  have O6 := Lib.hid ho
  obtain ⟨hcp1, hcp2, hgb, _⟩ := own_cap ho
  have HL := Lib.hid hL
  have hLn : L.length ≤ 5 := by omega
  have hL1 : 1 ≤ L.length := by have := Hn1.out; omega
  have Hlt := Lib.hid (And.intro hlt hnd)
  clear hrd hg ho ho0 hlt hnd hL m0
  have HZ := Lib.hid (show (natsI L).length = L.length from natsI_len L)
  go_wp2_with fail
  refine (Hpk.out 16 (p1 + a.n) _ (by omega) (by omega) F6.out.rd).mono ?_
  rintro e w7 ⟨⟨m2, rfl, hm20, hm21, _⟩, hrd, hg⟩
  have F7 := Lib.hid (F6.out.step hrd hg)
  have X7 := Lib.hid (X6.out.grown' hg (by first | (simp; done) | (simp; omega)))
  have XA7 := Lib.hid (XA6.out.grown' hg (by first | (simp; done) | (simp; omega)))
  have O7 := Lib.hid (own_dw O6.out hg hrb)
  clear hrd hg hm21
  by_cases h2 : m2 = 0
  · subst h2
    unfold maxLen at hcp2
    have j1 : (1 : Int) ≤ (L.length : Int) := by omega
    have j2 : (L.length : Int) ≤ (cp : Int) := by omega
    have j3 : (1 : Int) ≤ (cp : Int) := by omega
    by_cases hc1 : cp = 1
    · subst hc1
      obtain ⟨m0, m1, m2⟩ := box_load XA7.out
      go_wp2_with fail
      refine (Hbad.out (p1 + a.n + 1) (by omega) _ F7.out.rd).mono ?_
      rintro e w8 ⟨⟨i, s, r, p9, rfl, hi, hs, hr, _, hrd, hfar⟩, hg⟩
      have F8 := Lib.hid (F7.out.step hrd hg)
      have X8 := Lib.hid (X7.out.grown' hg (by first | (simp; done) | (simp; omega)))
      have XA8 := Lib.hid (XA7.out.grown' hg (by first | (simp; done) | (simp; omega)))
      have O8 := Lib.hid (own_dw O7.out hg hrb)
      have HI := Lib.hid hi
      clear hrd hg hi m0 m1 m2
      obtain ⟨c0, c1, c2⟩ := box_load X8.out
      have f0 := X8.out.free 0
      have f1 := X8.out.free 1
      have f2 := X8.out.free 2
      obtain ⟨q0, q1, q2⟩ := box_load (X8.out.puts (.int .i64 i) (.string s) (.string r))
      have E1 := Lib.hid (below_puts F8.out.bel (Nat.le_refl _) (.int .i64 i) (.string s) (.string r))
      have O99 := Lib.hid (own_far (p := ⟨w.heap.size, 2, none⟩) (own_far (p := ⟨w.heap.size, 1, none⟩) (own_far (p := ⟨w.heap.size, 0, none⟩) O8.out (fun g' hg' => by have := (O8.out.lt g' hg').1; show g' ≠ w.heap.size; omega) (.int .i64 i)) (fun g' hg' => by have := (O8.out.lt g' hg').1; show g' ≠ w.heap.size; omega) (.string s)) (fun g' hg' => by have := (O8.out.lt g' hg').1; show g' ≠ w.heap.size; omega) (.string r))
      go_wp2_with fail
      refine bodyPost_ret (v := .tuple #[stV i s r, .slice (some ⟨g, 0, none⟩) 0 0]) ?_ rfl ⟨⟨i, s, r, [], _, _, rfl, hs, hr, by simp, Nat.le_refl _, .inl (fun h => absurd h (Nat.lt_irrefl _))⟩, E1.out⟩
      simp [results, Tryd.results33, go_sem, q0, q1, q2]
    · have j4 : (1 : Int) < (cp : Int) := by omega
      have j5 : ¬ cp = 1 := hc1
      have j6 : ¬ (cp : Int) = 1 := by omega
      have HZd := Lib.hid (show (natsI (L.drop 1)).length = L.length - 1 by rw [natsI_len, List.length_drop])
      by_cases hl1 : L.length = 1
      · have Hl1 := Lib.hid hl1
        clear hl1
        obtain ⟨m0, m1, m2⟩ := box_load XA7.out
        go_wp2_with fail
        refine (Hbad.out (p1 + a.n + 1) (by omega) _ F7.out.rd).mono ?_
        rintro e w8 ⟨⟨i, s, r, p9, rfl, hi, hs, hr, _, hrd, hfar⟩, hg⟩
        have F8 := Lib.hid (F7.out.step hrd hg)
        have X8 := Lib.hid (X7.out.grown' hg (by first | (simp; done) | (simp; omega)))
        have XA8 := Lib.hid (XA7.out.grown' hg (by first | (simp; done) | (simp; omega)))
        have O8 := Lib.hid (own_dw O7.out hg hrb)
        have HI := Lib.hid hi
        clear hrd hg hi m0 m1 m2
        obtain ⟨c0, c1, c2⟩ := box_load X8.out
        have f0 := X8.out.free 0
        have f1 := X8.out.free 1
        have f2 := X8.out.free 2
        obtain ⟨q0, q1, q2⟩ := box_load (X8.out.puts (.int .i64 i) (.string s) (.string r))
        have E1 := Lib.hid (below_puts F8.out.bel (Nat.le_refl _) (.int .i64 i) (.string s) (.string r))
        have O99 := Lib.hid (own_far (p := ⟨w.heap.size, 2, none⟩) (own_far (p := ⟨w.heap.size, 1, none⟩) (own_far (p := ⟨w.heap.size, 0, none⟩) O8.out (fun g' hg' => by have := (O8.out.lt g' hg').1; show g' ≠ w.heap.size; omega) (.int .i64 i)) (fun g' hg' => by have := (O8.out.lt g' hg').1; show g' ≠ w.heap.size; omega) (.string s)) (fun g' hg' => by have := (O8.out.lt g' hg').1; show g' ≠ w.heap.size; omega) (.string r))
        go_wp2_with fail
        refine bodyPost_ret (v := .tuple #[stV i s r, .slice (some ⟨g, 1, none⟩) (L.length - 1) (cp - 1)]) ?_ rfl ⟨⟨i, s, r, [], _, _, by rw [Hl1.out]; rfl, hs, hr, by simp, Nat.zero_le _, .inl (fun h => absurd h (Nat.lt_irrefl _))⟩, E1.out⟩
        simp [results, Tryd.results33, go_sem, q0, q1, q2]
      · have Hl1 := Lib.hid hl1
        clear hl1
        obtain ⟨m0, m1, m2⟩ := box_load XA7.out
        go_wp2_with fail
        refine (Hbad.out (p1 + a.n + 1) (by omega) _ F7.out.rd).mono ?_
        rintro e w8 ⟨⟨i, s, r, p9, rfl, hi, hs, hr, _, hrd, hfar⟩, hg⟩
        have F8 := Lib.hid (F7.out.step hrd hg)
        have X8 := Lib.hid (X7.out.grown' hg (by first | (simp; done) | (simp; omega)))
        have XA8 := Lib.hid (XA7.out.grown' hg (by first | (simp; done) | (simp; omega)))
        have O8 := Lib.hid (own_dw O7.out hg hrb)
        have HI := Lib.hid hi
        clear hrd hg hi m0 m1 m2
        obtain ⟨c0, c1, c2⟩ := box_load X8.out
        have f0 := X8.out.free 0
        have f1 := X8.out.free 1
        have f2 := X8.out.free 2
        obtain ⟨q0, q1, q2⟩ := box_load (X8.out.puts (.int .i64 i) (.string s) (.string r))
        have E1 := Lib.hid (below_puts F8.out.bel (Nat.le_refl _) (.int .i64 i) (.string s) (.string r))
        have O99 := Lib.hid (own_far (p := ⟨w.heap.size, 2, none⟩) (own_far (p := ⟨w.heap.size, 1, none⟩) (own_far (p := ⟨w.heap.size, 0, none⟩) O8.out (fun g' hg' => by have := (O8.out.lt g' hg').1; show g' ≠ w.heap.size; omega) (.int .i64 i)) (fun g' hg' => by have := (O8.out.lt g' hg').1; show g' ≠ w.heap.size; omega) (.string s)) (fun g' hg' => by have := (O8.out.lt g' hg').1; show g' ≠ w.heap.size; omega) (.string r))
        go_wp2_with fail
        refine bodyPost_ret (v := .tuple #[stV i s r, .slice (some ⟨g, 1, none⟩) (L.length - 1) (cp - 1)]) ?_ rfl ⟨⟨i, s, r, (natsI (L.drop 1)), _, _, by rw [HZd.out], hs, hr, by have := HZd.out; omega, by have := HZd.out; omega, .inr ⟨off_row (LRow_of O99.out), by have := HZd.out; have := HL.out; have := Hl1.out; omega⟩⟩, E1.out⟩
        simp [results, Tryd.results33, go_sem, q0, q1, q2]
  · have hb2 : (m2 == 0) = false := by simp; omega
    obtain ⟨m0, m1, m2⟩ := box_load XA7.out
    go_wp2_with fail
    refine (Hbad.out (p1 + a.n + 1) (by omega) _ F7.out.rd).mono ?_
    rintro e w8 ⟨⟨i, s, r, p9, rfl, hi, hs, hr, _, hrd, hfar⟩, hg⟩
    have F8 := Lib.hid (F7.out.step hrd hg)
    have X8 := Lib.hid (X7.out.grown' hg (by first | (simp; done) | (simp; omega)))
    have XA8 := Lib.hid (XA7.out.grown' hg (by first | (simp; done) | (simp; omega)))
    have O8 := Lib.hid (own_dw O7.out hg hrb)
    have HI := Lib.hid hi
    clear hrd hg hi m0 m1 m2
    obtain ⟨c0, c1, c2⟩ := box_load X8.out
    have f0 := X8.out.free 0
    have f1 := X8.out.free 1
    have f2 := X8.out.free 2
    obtain ⟨q0, q1, q2⟩ := box_load (X8.out.puts (.int .i64 i) (.string s) (.string r))
    have E1 := Lib.hid (below_puts F8.out.bel (Nat.le_refl _) (.int .i64 i) (.string s) (.string r))
    have O99 := Lib.hid (own_far (p := ⟨w.heap.size, 2, none⟩) (own_far (p := ⟨w.heap.size, 1, none⟩) (own_far (p := ⟨w.heap.size, 0, none⟩) O8.out (fun g' hg' => by have := (O8.out.lt g' hg').1; show g' ≠ w.heap.size; omega) (.int .i64 i)) (fun g' hg' => by have := (O8.out.lt g' hg').1; show g' ≠ w.heap.size; omega) (.string s)) (fun g' hg' => by have := (O8.out.lt g' hg').1; show g' ≠ w.heap.size; omega) (.string r))
    go_wp2_with fail
    refine bodyPost_ret (v := .tuple #[stV i s r, .slice (some ⟨g, 0, none⟩) L.length cp]) ?_ rfl ⟨⟨i, s, r, (natsI L), _, _, by rw [HZ.out], hs, hr, by have := HZ.out; omega, by have := HZ.out; omega, .inl (LRow_of O99.out)⟩, E1.out⟩
    simp [results, Tryd.results33, go_sem, q0, q1, q2]

end Go.Proofs.YtpaoffjicgmleaaDoor
