/-
  Draws: a small structure, a text many times, an element, a structure that is sometimes not valid. Condition: at most 2^39 numbers were drawn before.
-/
import Derived.Test.YtgnmlijfenjehaaDoorDraw3
namespace Go.Proofs.YtgnmlijfenjehaaDoor
open Go.RowKit
open Pl
set_option linter.unusedSimpArgs false
set_option linter.unusedVariables false

theorem ncells_new (w : World) (zs : List Int) (t : TypeId) : NCells (w.alloc (.cells (zs.map (Value.int .i64)).toArray t)) w.heap.size zs := fun i hi => by
  rw [(Bx.new w t _).cell i]
  simp [List.getD, hi]
theorem scells_new (w : World) (ss : List ByteArray) (t : TypeId) : SCells (w.alloc (.cells (ss.map Value.string).toArray t)) w.heap.size ss := fun i hi => by
  rw [(Bx.new w t _).cell i]
  simp [List.getD, hi]

/-- behind a block that is made -/
theorem Rd.alloc {w : World} {rb n cap p : Nat} {A : Option Addr} (h : Rd w rb A n cap p) (o : Obj) : Rd (w.alloc o) rb A n cap p :=
  ⟨h.box.alloc o, h.row.grown h.sep h.box.lt (World.grownBy_alloc w o _), h.small, h.sep⟩
theorem Rd.drew {w : World} {rb n cap p : Nat} {A : Option Addr} (h : Rd w rb A n cap p) : Rd w.drew rb A n cap p := ⟨h.box, h.row, h.small, h.sep⟩
theorem gr_refl (w : World) (r : Option Nat) : w.grownBy w r := ⟨rfl, rfl, rfl, Nat.le_refl _, fun _ _ _ => rfl⟩
theorem gr_alloc {w V : World} {r : Option Nat} (h : w.grownBy V r) (o : Obj) : w.grownBy (V.alloc o) r := World.grownBy.trans h (World.grownBy_alloc V o r)
theorem gr_drew {w V : World} {r : Option Nat} (h : w.grownBy V r) : w.grownBy V.drew r := ⟨h.os, h.tape, h.output, h.size, h.block⟩
theorem gr_below {w V : World} {r : Option Nat} (h : Below w.heap.size w V) : w.grownBy V r := ⟨h.os, h.tape, h.output, h.size, fun k hk _ => h.block k hk⟩
theorem Rd.call {w w' : World} {rb n cap p : Nat} {A : Option Addr} (h : Rd w rb A n cap p) (hb : Below w.heap.size w w') : Rd w' rb A n cap p :=
  ⟨h.box.call hb, h.row.grown h.sep h.box.lt (gr_below hb), h.small, h.sep⟩

/-- what is known of the memory while something is drawn: the reader, the frame -/
structure Dw (w : World) (rb : Nat) (A : Option Addr) (n cap p : Nat) (V : World) : Prop where
  rd : Rd V rb A n cap p
  gr : w.grownBy V (some rb)
  rlt : rb < w.heap.size

theorem Dw.new {w : World} {rb n cap p : Nat} {A : Option Addr} (h : Rd w rb A n cap p) : Dw w rb A n cap p w := ⟨h, gr_refl _ _, h.box.lt⟩
theorem Dw.alloc {w V : World} {rb n cap p : Nat} {A : Option Addr} (h : Dw w rb A n cap p V) (o : Obj) : Dw w rb A n cap p (V.alloc o) := ⟨h.rd.alloc o, gr_alloc h.gr o, h.rlt⟩
theorem Dw.drew {w V : World} {rb n cap p : Nat} {A : Option Addr} (h : Dw w rb A n cap p V) : Dw w rb A n cap p V.drew := ⟨h.rd.drew, gr_drew h.gr, h.rlt⟩
theorem Dw.step {w V V' : World} {rb n cap p p' : Nat} {A : Option Addr} (h : Dw w rb A n cap p V) (hr : Rd V' rb A n cap p') (hg : V.grownBy V' (some rb)) : Dw w rb A n cap p' V' := ⟨hr, World.grownBy.trans h.gr hg, h.rlt⟩
theorem Dw.call {w V V' : World} {rb n cap p : Nat} {A : Option Addr} (h : Dw w rb A n cap p V) (hb : Below V.heap.size V V') : Dw w rb A n cap p V' := ⟨h.rd.call hb, World.grownBy.trans h.gr (gr_below hb), h.rlt⟩
/-- a block of one's own is written -/
theorem Dw.put {w V : World} {rb n cap p : Nat} {A : Option Addr} (h : Dw w rb A n cap p V) {g : Nat} (hg : w.heap.size ≤ g) (i : Nat) (v : Value) : Dw w rb A n cap p (V.setCell ⟨g, i, none⟩ v) := by
  obtain ⟨h1, h2⟩ := rg_set h.rd h.gr h.rlt hg i v
  exact ⟨h1, h2, h.rlt⟩
theorem Dw.puts {w V : World} {rb n cap p : Nat} {A : Option Addr} (h : Dw w rb A n cap p V) {g : Nat} (hg : w.heap.size ≤ g) (s0 s1 s2 : Value) :
    Dw w rb A n cap p (((V.setCell ⟨g, 0, none⟩ s0).setCell ⟨g, 1, none⟩ s1).setCell ⟨g, 2, none⟩ s2) := ((h.put hg 0 s0).put hg 1 s1).put hg 2 s2
/-- a block of one's own behind a call that draws -/
theorem Bx.dw {V V' : World} {g rb : Nat} {t : TypeId} {cs : Array Value} (h : Bx V g t cs) (hg : V.grownBy V' (some rb)) (hne : rb < g) : Bx V' g t cs := h.grown' hg (by simp; omega)
theorem Bx.puts {V : World} {g : Nat} {t : TypeId} {r0 r1 r2 : Value} (h : Bx V g t #[r0, r1, r2]) (s0 s1 s2 : Value) : Bx (((V.setCell ⟨g, 0, none⟩ s0).setCell ⟨g, 1, none⟩ s1).setCell ⟨g, 2, none⟩ s2) g t #[s0, s1, s2] :=
  ((h.set 0 s0).set 1 s1).set 2 s2

/-! ### a text many times -/
theorem many_odd {x y c : Nat} (hc : c % 2 = 1) (h : x + y * c ≤ 81) : x + y + (y + y) * (c / 2) ≤ 81 ∧ y ≤ 81 ∧ x ≤ 81 := by
  obtain ⟨q, rfl⟩ : ∃ q, c = 2 * q + 1 := ⟨c / 2, by omega⟩
  have e : (2 * q + 1) / 2 = q := by omega
  rw [e]
  have e2 : y * (2 * q + 1) = y + (y + y) * q := by rw [Nat.mul_add, Nat.add_mul, Nat.mul_one, ← Nat.mul_assoc, Nat.mul_comm y 2, Nat.two_mul, Nat.add_mul, Nat.add_comm]
  rw [e2] at h
  refine ⟨by omega, by omega, by omega⟩
theorem many_even {x y c : Nat} (hc : c % 2 = 0) (h1 : 0 < c) (h : x + y * c ≤ 81) : x + (y + y) * (c / 2) ≤ 81 ∧ y ≤ 81 ∧ x ≤ 81 := by
  obtain ⟨q, rfl⟩ : ∃ q, c = 2 * q := ⟨c / 2, by omega⟩
  have e : (2 * q) / 2 = q := by omega
  rw [e]
  have e2 : y * (2 * q) = (y + y) * q := by rw [← Nat.mul_assoc, Nat.mul_comm y 2, Nat.two_mul]
  rw [e2] at h
  have h2 : (y + y) * 1 ≤ (y + y) * q := Nat.mul_le_mul_left _ (by omega)
  refine ⟨by omega, by omega, by omega⟩

set_option maxHeartbeats 1000000 in
theorem l15Many_calls (s : ByteArray) (n : Nat) (w : World) (h : s.size * n ≤ 81) (hn : n ≤ 81) :
    Calls Tryd.prog 69 #[.string s, .int .i64 (n : Nat)] w fun e w' => (∃ t : ByteArray, e = .returned (.string t) ∧ t.size ≤ 81) ∧ w = w' := by
  have H := Lib.hid h
  clear h
  go_enter Tryd.func69, Tryd.ntmps69
  go_wp2_with fail
  go_loopg [0, 1, 5] n (fun c' s' n' o wr => ∃ (c : Nat) (S O : ByteArray), c = c' ∧ s' = .string S ∧ n' = .int .i64 (c : Nat) ∧ o = .string O ∧ O.size + S.size * c ≤ 81 ∧ c ≤ 81 ∧ w = wr)
  case atStart => exact ⟨n, _, bs [], rfl, rfl, rfl, rfl, by have := H.out; have h0 : (bs []).size = 0 := rfl; omega, hn, rfl⟩
  case round =>
    obtain ⟨c, S, O, rfl, rfl, rfl, rfl, hO, hc, rfl⟩ := hrel
    by_cases h0 : 0 < c
    · have hi : (0 : Int) < (c : Int) := by omega
      have hi2 : (c : Int) ≤ 81 := by omega
      have hdiv : (c : Int) / 2 = ((c / 2 : Nat) : Int) := rfl
      by_cases hp : c % 2 = 1
      · obtain ⟨h1, h2, h3⟩ := many_odd hp hO
        have hpi : (c : Int) % 2 = 1 := by omega
        have hpb : ((c : Int) % 2 == 1) = true := by rw [hpi]; rfl
        have H1 := Lib.hid h1
        have Hd := Lib.hid hdiv
        clear hO h1 hdiv hp hpi
        go_wp2_with fail
        go_roundg (c / 2)
        case rel => exact ⟨_, _, _, rfl, rfl, (by first | rfl | rw [← Hd.out]), rfl, by rw [ByteArray.size_append, ByteArray.size_append]; exact H1.out, by omega, rfl⟩
        case measure => omega
      · have hp0 : c % 2 = 0 := by omega
        obtain ⟨h1, h2, h3⟩ := many_even hp0 h0 hO
        have hpb : ((c : Int) % 2 == 1) = false := by
          have : (c : Int) % 2 = 0 := by omega
          rw [this]; rfl
        have hpi : ¬ (c : Int) % 2 = 1 := by omega
        have H1 := Lib.hid h1
        have Hd := Lib.hid hdiv
        clear hO h1 hdiv hp hp0
        go_wp2_with fail
        go_roundg (c / 2)
        case rel => exact ⟨_, _, _, rfl, rfl, (by first | rfl | rw [← Hd.out]), rfl, by rw [ByteArray.size_append]; exact H1.out, by omega, rfl⟩
        case measure => omega
    · obtain rfl : c = 0 := by omega
      have hO2 : O.size ≤ 81 := by simpa using hO
      have HO := Lib.hid hO2
      clear hO hO2
      go_wp2_with fail
      go_ret
      exact ⟨⟨_, rfl, HO.out⟩, rfl⟩

/-! ### a small structure -/
def SomeS (rb : Nat) (A : Option Addr) (n cap p : Nat) (e : Ending) (w' : World) : Prop := ∃ (a : St) (p' : Nat), e = .returned (stA a) ∧ a.ok ∧ a.n ≤ 5 ∧ p' ≤ p + 101 ∧ Rd w' rb A n cap p'

set_option maxHeartbeats 1000000 in
theorem l1Some_calls (rb : Nat) (A : Option Addr) (n cap p : Nat) (w : World) (h : Rd w rb A n cap p) (hp : p ≤ 549755800000) :
    Calls Tryd.prog 37 #[.pointer (some ⟨rb, 0, none⟩)] w fun e w' => SomeS rb A n cap p e w' ∧ w.grownBy w' (some rb) := by
  have hnum : ∀ (g : Nat) (W : World), NCells W g [3, 4, 2, 1, 5, 3] → g ≠ rb → Rd W rb A n cap p → Calls Tryd.prog 40 #[.pointer (some ⟨rb, 0, none⟩), .slice (some ⟨g, 0, none⟩) 6 6] W fun e w' => (∃ k : Nat, e = .returned (.int .i64 k) ∧ 1 ≤ k ∧ k ≤ 5) ∧ Rd w' rb A n cap (p + 1) ∧ W.grownBy w' (some rb) :=
    fun g W h1 h2 h3 => (num_calls rb A n cap p g 6 [3, 4, 2, 1, 5, 3] W h3 (by omega) (by simp) (by simp) h1 h2).mono fun e w' ⟨⟨m, h4, h5⟩, h6⟩ => by
      simp only [List.mem_cons, List.not_mem_nil, or_false] at h5
      exact ⟨⟨m.toNat, by rw [h4]; congr 2; omega, by omega, by omega⟩, h6⟩
  have hdr : ∀ (k : Nat) (W : World), 1 ≤ k → k ≤ 5 → Rd W rb A n cap (p + 1) → Calls Tryd.prog 67 #[.pointer (some ⟨rb, 0, none⟩), .int .i64 (k : Nat)] W fun e w' => DrawS rb A n cap (p + 1) k e w' ∧ W.grownBy w' (some rb) :=
    fun k W h1 h2 h3 => l1Draw_calls rb A n cap (p + 1) k W h3 (by omega) h1 h2
  have D0 := Lib.hid (((Dw.new h).alloc (.cells #[.int .i64 0, .string (bs []), .string (bs [])] 27)).alloc (.cells #[.int .i64 3, .int .i64 4, .int .i64 2, .int .i64 1, .int .i64 5, .int .i64 3] 3))
  have X0 := Lib.hid ((Bx.new w 27 #[.int .i64 0, .string (bs []), .string (bs [])]).alloc (.cells #[.int .i64 3, .int .i64 4, .int .i64 2, .int .i64 1, .int .i64 5, .int .i64 3] 3))
  have N0 := Lib.hid (ncells_new (w.alloc (.cells #[.int .i64 0, .string (bs []), .string (bs [])] 27)) [3, 4, 2, 1, 5, 3] 3)
  have Hnum := Lib.hid hnum
  have Hdr := Lib.hid hdr
  have hrl := h.box.lt
  clear hnum hdr h
  go_enter Tryd.func37, Tryd.ntmps37
  go_wp2_with fail
  refine (Hnum.out _ _ (by have := N0.out; simpa using this) (by omega) D0.out.rd).mono ?_
  rintro e w1 ⟨⟨k, rfl, hk1, hk5⟩, hr, hg⟩
  have D1 := Lib.hid (D0.out.step hr hg)
  have X1 := Lib.hid (X0.out.dw hg hrl)
  clear hr hg
  go_wp2_with fail
  refine (Hdr.out k _ hk1 hk5 D1.out.rd).mono ?_
  rintro e w2 ⟨⟨a, p', rfl, ha, han, hp', hr⟩, hg⟩
  have D2 := Lib.hid (D1.out.step hr hg)
  have hax := X1.out.dw hg hrl
  obtain ⟨c0, c1, c2⟩ := box_load hax
  have f0 := hax.free 0
  have f1 := hax.free 1
  have f2 := hax.free 2
  have D3 := Lib.hid (D2.out.puts (Nat.le_refl _) (.int .i64 (a.n : Int)) (.string (bs a.set)) (.string (bs a.rel)))
  obtain ⟨q0, q1, q2⟩ := box_load (hax.puts (.int .i64 (a.n : Int)) (.string (bs a.set)) (.string (bs a.rel)))
  have hn5 : a.n ≤ 5 := by omega
  clear hr hg hax han
  go_wp2_with fail
  refine bodyPost_ret (v := stA a) ?_ rfl ⟨⟨a, p', rfl, ha, hn5, by omega, D3.out.rd⟩, D3.out.gr⟩
  simp [results, Tryd.results37, go_sem, q0, q1, q2]

end Go.Proofs.YtgnmlijfenjehaaDoor
