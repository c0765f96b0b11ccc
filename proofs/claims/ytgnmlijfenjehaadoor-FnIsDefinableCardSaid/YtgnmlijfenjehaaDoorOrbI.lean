/-
  OrbitOf of the program. Condition: texts below the reach.
-/
import Derived.Test.YtgnmlijfenjehaaDoorSame
import Derived.Test.YtgnmlijfenjehaaDoorOrb
import Derived.StillTailTactics
namespace Go.Proofs.YtgnmlijfenjehaaDoor
open Go.RowKit
open Pl
set_option linter.unusedSimpArgs false
set_option linter.unusedVariables false
attribute [local go_sem ↓] Go.wp_at_zero Go.wp_at_succ

/-- the elements that some orders put in the place of x -/
def inL (x : Nat) (L : List (List Nat)) (y : Nat) : Bool := L.any fun l => app l x == y
def boolsV (n : Nat) (f : Nat → Bool) : List Value := (List.range n).map fun y => .bool (f y)
theorem boolsV_len (n : Nat) (f : Nat → Bool) : (boolsV n f).length = n := by simp [boolsV]
theorem boolsV_get {n : Nat} {f : Nat → Bool} {k : Nat} (h : k < n) : (boolsV n f)[k]? = some (.bool (f k)) := by simp [boolsV, h]
theorem boolsV_set (n x : Nat) (L : List (List Nat)) (l : List Nat) : (boolsV n (inL x L)).set (app l x) (.bool true) = boolsV n (inL x (L ++ [l])) := by
  apply List.ext_getElem?
  intro k
  by_cases hk : k < n
  · rw [boolsV_get hk]
    by_cases e : app l x = k
    · subst e
      rw [List.getElem?_set_self (by rw [boolsV_len]; exact hk)]
      simp [inL]
    · rw [List.getElem?_set_ne e, boolsV_get hk]
      simp [inL, e]
  · rw [List.getElem?_eq_none (by rw [List.length_set, boolsV_len]; omega), List.getElem?_eq_none (by rw [boolsV_len]; omega)]

theorem Kp.trans {B : Nat} {a b c : World} (h : Kp B a b) (k : Kp B b c) : Kp B a c := ⟨Nat.le_trans h.size k.size, fun j h1 h2 => (k.block j h1 (Nat.lt_of_lt_of_le h2 h.size)).trans (h.block j h1 h2)⟩
theorem own_below {W W' : World} {B base n g cap : Nat} {e : TypeId} {xs : List Value} (h : W.ownsRow base e 1 (.slice (some ⟨g, 0, none⟩) n cap) n xs) (hb : Below B W W') (hg : g < B) : W'.ownsRow base e 1 (.slice (some ⟨g, 0, none⟩) n cap) n xs := by
  obtain ⟨h1, ⟨h2, _⟩ | ⟨g', c', cur, hv, h3, h4, h5⟩⟩ := h
  · cases h2
  · have hv2 := hv
    injection hv2 with h6 _ _
    injection h6 with h6
    injection h6 with h6 _
    subst h6
    exact ⟨h1, .inr ⟨g, c', cur, hv, h3, (hb.block g hg).trans h4, h5⟩⟩

set_option maxHeartbeats 1000000 in
set_option maxRecDepth 100000 in
theorem orb1_calls (base nb gb xb n c x : Nat) (L : List (List Nat)) (l : List Nat) (A : Option Addr) (cap : Nat) (w : World) (hb : Bx w nb 86 #[.slice (some ⟨gb, 0, none⟩) n c]) (hx : Bx w xb 3 #[.int .i64 (x : Nat)])
    (ho : w.ownsRow base 4 1 (.slice (some ⟨gb, 0, none⟩) n c) n (boolsV n (inL x L))) (hA : LRow w A (natsI l)) (hl : l.length = n) (hxn : x < n) (hn : n ≤ 8) (hlt : ∀ y ∈ l, y < n) :
    Calls Tryd.prog 65 #[.slice A l.length cap, .pointer (some ⟨nb, 0, none⟩), .pointer (some ⟨xb, 0, none⟩)] w fun e w' => e = .returned (.bool true) ∧ w' = w.drew.setCell ⟨gb, app l x, none⟩ (.bool true) := by
  obtain ⟨g, rfl, hc⟩ := hA.nats (k := x) (by omega)
  rw [hl]
  have hy : app l x < n := hlt _ (app_mem (by omega))
  have hc2 : w.cell? ⟨g, x, none⟩ = some (.int .i64 (app l x : Nat)) := hc
  obtain ⟨y, hyy⟩ : ∃ y, y = app l x := ⟨_, rfl⟩
  rw [← hyy] at hy hc2 ⊢
  have o0 := hb.cell 0
  have x0 := hx.cell 0
  simp at o0 x0
  have i1 : (0 : Int) ≤ (x : Int) := by omega
  have i2 : (x : Int) < (n : Int) := by omega
  have i3 : (0 : Int) ≤ (y : Int) := by omega
  have i4 : (y : Int) < (n : Int) := by omega
  have y0 : w.cell? ⟨gb, y, none⟩ = some (.bool (inL x L y)) := by
    have h := ho.cellAt y (by omega)
    rw [boolsV_get hy] at h
    exact h
  have y1 : w.frozen? ⟨gb, y, none⟩ = false := ho.frozenAt y
  generalize inL x L y = q at y0
  clear hb hx ho hA hc hlt hyy hl hxn
  go_enter Tryd.func65, Tryd.ntmps65
  go_upto_region 1 with (fail)
  go_still_tail 6, (by kernel_rfl)
  change wpList _ _ _ _ _ w.drew
  have y0' : w.drew.cell? ⟨gb, y, none⟩ = some (.bool q) := y0
  have y1' : w.drew.frozen? ⟨gb, y, none⟩ = false := y1
  clear o0 x0 hc2 y0 y1
  generalize hw2 : w.drew = w2 at *
  have Hw2 := Lib.hid hw2
  clear hw2
  go_wp2_with fail
  go_ret
  exact ⟨rfl, by rw [Hw2.out]⟩

theorem enter_orb1 : ∀ (args : Array Value) (w : World), (callFunc 65 args).run Tryd.prog w = .ok (.enter 65 args) w := enter_of Tryd.func65 (by kernel_rfl) (by kernel_rfl)

/-- the elements below k that are marked -/
def rk (f : Nat → Bool) (k : Nat) : List Nat := (List.range k).filter f
theorem rk_succ (f : Nat → Bool) (k : Nat) : rk f (k + 1) = if f k then rk f k ++ [k] else rk f k := by
  unfold rk
  rw [List.range_succ, List.filter_append]
  cases h : f k <;> simp [h]
theorem rk_len (f : Nat → Bool) (k : Nat) : (rk f k).length ≤ k := by
  have := List.length_filter_le f (List.range k)
  simpa [rk] using this

/-- what lies in memory while the orders are told -/
def OrbJ (w : World) (base gb nb xb n x : Nat) (L : List (List Nat)) (V : World) : Prop := (V.ownsRow base 4 1 (.slice (some ⟨gb, 0, none⟩) n n) n (boolsV n (inL x L)) ∧ Bx V nb 86 #[.slice (some ⟨gb, 0, none⟩) n n] ∧ Bx V xb 3 #[.int .i64 (x : Nat)]) ∧ Below w.heap.size w V

set_option maxHeartbeats 4000000 in
set_option maxRecDepth 100000 in
theorem orbitOf_calls (a : St) (ha : a.ok) (x : Nat) (hx : x < a.n) (w : World) :
    Calls Tryd.prog 34 #[stA a, .int .i64 (x : Nat)] w fun e w' => (∃ v, e = .returned v ∧ w'.ownsRow w.heap.size 3 1 v (orbL a.n (isos a a) x).length (intsV (natsI (orbL a.n (isos a a) x)))) ∧ Below w.heap.size w w' := by
  have hn1 := ha.lo
  have hn8 := ha.hi
  obtain ⟨i0, hi, hz0, hz1, hz2⟩ := info_parts (P := Tryd.prog) (e := 3) (z := .int .i64 0) (size := 1) (bytes := 8) (by kernel_rfl)
  obtain ⟨i1, hj, hy0, hy1, hy2⟩ := info_parts (P := Tryd.prog) (e := 4) (z := .bool false) (size := 1) (bytes := 1) (by kernel_rfl)
  have hes : ∀ (gb nb xb : Nat) (W : World), gb < W.heap.size → nb < W.heap.size → xb < W.heap.size → w.heap.size ≤ gb → OrbJ w w.heap.size gb nb xb a.n x [] W →
      Calls Tryd.prog 64 #[stV (a.n : Int) (bs a.set) (bs a.rel), stV (a.n : Int) (bs a.set) (bs a.rel), .func (.func 65) #[] #[.pointer (some ⟨nb, 0, none⟩), .pointer (some ⟨xb, 0, none⟩)]] W fun e w' => e = .returned (.tuple #[]) ∧ OrbJ w w.heap.size gb nb xb a.n x (isos a a) w' := by
    intro gb nb xb W hg hnb hxb hwg hj0
    refine eachShape_calls a a ha ha rfl true 65 #[] #[.pointer (some ⟨nb, 0, none⟩), .pointer (some ⟨xb, 0, none⟩)] W enter_orb1 (fun V L => OrbJ w w.heap.size gb nb xb a.n x L V)
      (fun V V' L _ h hb => ⟨⟨own_below h.1.1 hb hg, h.1.2.1.below hb hnb, h.1.2.2.below hb hxb⟩, h.2.trans (hb.mono (by omega))⟩) (fun V L l A cap _ h hsz hl hlt hA => ?_) hj0
    obtain ⟨⟨h1, h2, h3⟩, h4⟩ := h
    have hc := orb1_calls w.heap.size nb gb xb a.n a.n x L l A cap V h2 h3 h1 hA hl hx hn8 hlt
    have hyl : app l x < a.n := hlt _ (app_mem (by omega))
    have hne1 : nb ≠ gb := fun e => by
      have c1 := h2.cell 0
      have c2 := h1.cellAt 0 (by omega)
      rw [boolsV_get (by omega)] at c2
      rw [e] at c1
      rw [c1] at c2
      simp at c2
    have hne2 : xb ≠ gb := fun e => by
      have c1 := h3.cell 0
      have c2 := h1.cellAt 0 (by omega)
      rw [boolsV_get (by omega)] at c2
      rw [e] at c1
      rw [c1] at c2
      simp at c2
    have hst := (World.ownsRow.stored (w := V.drew) (show V.drew.ownsRow w.heap.size 4 1 (.slice (some ⟨gb, 0, none⟩) a.n a.n) a.n (boolsV a.n (inL x L)) from h1) (app l x) (.bool true)).1
    rw [boolsV_set] at hst
    refine hc.mono fun e w' ⟨g1, g2⟩ => ?_
    subst g2
    exact ⟨⟨g1, ⟨hst, (h2.drew).far (p := ⟨gb, app l x, none⟩) hne1 _, (h3.drew).far (p := ⟨gb, app l x, none⟩) hne2 _⟩, (h4.drew).setCell (p := ⟨gb, app l x, none⟩) hwg _⟩, (Kp.of_below ((Below.refl _ _).drew)).trans (Kp.setCell (p := ⟨gb, app l x, none⟩) hg _)⟩
  obtain ⟨R0, hR0⟩ : ∃ R0, R0 = inL x (isos a a) := ⟨_, rfl⟩
  have hRk : orbL a.n (isos a a) x = rk R0 a.n := by rw [hR0]; rfl
  rw [hRk]
  have hes2 : ∀ (gb nb xb : Nat) (W : World), gb < W.heap.size → nb < W.heap.size → xb < W.heap.size → w.heap.size ≤ gb → (W.ownsRow w.heap.size 4 1 (.slice (some ⟨gb, 0, none⟩) a.n a.n) a.n (boolsV a.n (inL x [])) ∧ Bx W nb 86 #[.slice (some ⟨gb, 0, none⟩) a.n a.n] ∧ Bx W xb 3 #[.int .i64 (x : Nat)]) → Below w.heap.size w W →
      Calls Tryd.prog 64 #[stV (a.n : Int) (bs a.set) (bs a.rel), stV (a.n : Int) (bs a.set) (bs a.rel), .func (.func 65) #[] #[.pointer (some ⟨nb, 0, none⟩), .pointer (some ⟨xb, 0, none⟩)]] W fun e w' => e = .returned (.tuple #[]) ∧ (w'.ownsRow w.heap.size 4 1 (.slice (some ⟨gb, 0, none⟩) a.n a.n) a.n (boolsV a.n R0) ∧ Bx w' nb 86 #[.slice (some ⟨gb, 0, none⟩) a.n a.n]) ∧ Below w.heap.size w w' := fun gb nb xb W h1 h2 h3 h4 h5 h6 =>
    (hes gb nb xb W h1 h2 h3 h4 ⟨h5, h6⟩).mono fun e w' ⟨g1, g2, g3⟩ => ⟨g1, ⟨by rw [hR0]; exact g2.1, g2.2.1⟩, g3⟩
  have hmk : ∀ V : World, w.heap.size ≤ V.heap.size → ∃ w1, (Instr.makeSlice 86 (.int .i64 (a.n : Int)) (.int .i64 (a.n : Int))).run Tryd.prog V = .ok (.slice (some ⟨V.heap.size, 0, none⟩) a.n a.n) w1 ∧ w1.ownsRow w.heap.size 4 1 (.slice (some ⟨V.heap.size, 0, none⟩) a.n a.n) a.n (boolsV a.n (inL x [])) ∧ V.grownBy w1 none := fun V hV => by
    obtain ⟨w1, h1, h2, h3⟩ := run_make_full (P := Tryd.prog) V w.heap.size 86 4 i1 (.bool false) 1 Tryd.underlying86 hj hy0 hy1 .i64 .i64 a.n (by rw [hy2]; omega) (by unfold maxLen; omega) hV
    refine ⟨w1, h1, ?_, h3⟩
    rw [show (Value.bool false).cells = #[.bool false] from rfl, Nat.mul_one, toList_madeCells_one] at h2
    rwa [show boolsV a.n (inL x []) = List.replicate a.n (.bool false) from by
      apply List.ext_getElem (by simp [boolsV])
      intro k h1 h2
      simp [boolsV, inL]]
  have Hes := Lib.hid hes2
  have Hmk := Lib.hid hmk
  clear hes hes2 hmk hR0 hRk hj hy0 hy1 hy2 hx
  show Calls Tryd.prog 34 #[stV (a.n : Int) (bs a.set) (bs a.rel), .int .i64 (x : Nat)] w _
  clear ha
  generalize a.n = n at *
  generalize bs a.set = S at *
  generalize bs a.rel = R at *
  obtain ⟨V, hV⟩ : ∃ V, V = (w.alloc (.cells #[.int .i64 n, .string S, .string R] 27)).alloc (.cells #[.int .i64 (x : Nat)] 3) := ⟨_, rfl⟩
  have hV2 : V.heap.size = w.heap.size + 2 := by rw [hV]; simp
  have xa : Bx V w.heap.size 27 #[.int .i64 n, .string S, .string R] := by rw [hV]; exact (Bx.new w _ _).alloc _
  have xx : Bx V (w.heap.size + 1) 3 #[.int .i64 (x : Nat)] := by rw [hV]; exact bx_two w _ _
  have hbV : Below w.heap.size w V := by rw [hV]; exact ((Below.refl _ _).alloc (Nat.le_refl _) _).alloc (by simp) _
  obtain ⟨w1, hrun, hown, hgr⟩ := Hmk.out V (by omega)
  have xa1 := xa.grown hgr (by simp)
  have xx1 := xx.grown hgr (by simp)
  have hb1 : Below w.heap.size w w1 := hbV.grown hgr (by omega) (by simp)
  obtain ⟨k0, k1, k2⟩ := box_load xa
  obtain ⟨l0, l1, l2⟩ := box_load (xa1.alloc (.cells #[.slice (some ⟨V.heap.size, 0, none⟩) n n] 86))
  have Xx := Lib.hid xx1
  have Hb1 := Lib.hid hb1
  have Hown := Lib.hid hown
  have HV := Lib.hid hV
  have HV2 := Lib.hid hV2
  have hw1 : V.heap.size < w1.heap.size := (hown.lt _ rfl).2
  have Hw1 := Lib.hid hw1
  clear xa xx hbV hgr xa1 xx1 hb1 hown hV2 hV hw1
  go_enter Tryd.func34, Tryd.ntmps34
  go_upto_region 1 with (fail)
  rw [← HV.out]
  go_wp2_with fail
  refine (Hes.out V.heap.size w1.heap.size (w.heap.size + 1) _ ?h1 ?h2 ?h3 ?h4 ?h5 ?h6).mono ?_
  case h1 => have := Hw1.out; simp; omega
  case h2 => simp
  case h3 => have := Hw1.out; have := HV2.out; simp; omega
  case h4 => have := HV2.out; omega
  case h5 => exact ⟨Hown.out.alloc _, Bx.new w1 _ _, Xx.out.alloc _⟩
  case h6 => exact Hb1.out.alloc Hb1.out.size _
  rintro e w3 ⟨rfl, ⟨ho3, hx3⟩, hz⟩
  have hg3 := (ho3.lt _ rfl).2
  have Hg3 := Lib.hid hg3
  have O3 := Lib.hid ho3
  have X3 := Lib.hid hx3
  have B3 := Lib.hid hz
  generalize V.heap.size = gb at *
  have o0 := (hx3.alloc (.cells #[] 3)).cell 0
  simp at o0
  have Hs3 := Lib.hid hz.size
  clear ho3 hx3 hz hg3 hrun k0 k1 k2 l0 l1 l2 Hown Xx Hb1 Hw1 HV HV2 Hmk Hes
  go_wp2_with fail
  clear o0
  go_loopg [6, 19] n (fun c o i wr => ∃ k : Nat, k + c = n ∧ i = .int .i64 k ∧ (wr.ownsRow w3.heap.size 3 1 o (rk R0 k).length (intsV (natsI (rk R0 k))) ∧ w3.heap.size ≤ wr.heap.size) ∧ wr.ownsRow w.heap.size 4 1 (.slice (some ⟨gb, 0, none⟩) n n) n (boolsV n R0) ∧ Below w.heap.size w wr)
  case atStart => exact ⟨0, by omega, rfl, ⟨own_zero w3, by simp⟩, O3.out.alloc _, B3.out.alloc B3.out.size _⟩
  case round =>
    obtain ⟨k, hk, rfl, ⟨ho, hs4⟩, hob, hbl⟩ := hrel
    have Ho := Lib.hid ho
    have Hob := Lib.hid hob
    have Hbl := Lib.hid hbl
    have Hs4 := Lib.hid hs4
    have hrl := rk_len R0 k
    by_cases hlt : k < n
    · have c0 := hob.cellAt k (by omega)
      rw [boolsV_get hlt] at c0
      have j1 : (0 : Int) ≤ (k : Int) := by omega
      have j2 : (k : Int) < (n : Int) := by omega
      clear ho hob hbl hs4
      cases hq : R0 k with
      | false =>
        have hsc : rk R0 (k + 1) = rk R0 k := by rw [rk_succ, hq]; rfl
        rw [hq] at c0
        have Hsc := Lib.hid hsc
        clear hsc hq
        go_wp2_with fail
        go_roundg (n - k - 1)
        case rel => exact ⟨k + 1, by omega, by go_num, ⟨by rw [Hsc.out]; exact Ho.out, Hs4.out⟩, Hob.out, Hbl.out⟩
        case measure => omega
      | true =>
        have hsc : rk R0 (k + 1) = rk R0 k ++ [k] := by rw [rk_succ, hq]; rfl
        rw [hq] at c0
        have Hsc := Lib.hid hsc
        clear hsc hq
        go_wp2_with (at_builtin; refine wpList_append_own_at _ rfl (.tmp 25) (.tmp 27) 24 rfl w3.heap.size 3 i0 (.int .i64 0) 1 8 Tryd.underlying24 hi hz0 hz1 hz2 rfl (by decide) _ (rk R0 k).length (intsV (natsI (rk R0 k))) rfl (Ho.out.alloc _) ⟨wr.heap.size, 0, none⟩ 1 1 [.int .i64 (k : Nat)] rfl rfl (cell_one_new _ _ _) (ints_oneCell .i64 [((k : Nat) : Int)]) (by unfold maxLen; omega) (by omega) (by have := Hs4.out; simp; omega) ?_; intro v2 w5 ho5 hg5 hn5 hat5; clear hn5 hat5)
        go_roundg (n - k - 1)
        case rel =>
          refine ⟨k + 1, by omega, by go_num, ⟨by rw [Hsc.out, show intsV (natsI (rk R0 k ++ [k])) = intsV (natsI (rk R0 k)) ++ [.int .i64 (k : Nat)] by simp [intsV, natsI], List.length_append, List.length_singleton]; exact ho5, ?_⟩, ?_, ?_⟩
          · have h1 := hg5.size
            have h2 := Hs4.out
            simp at h1
            omega
          · refine own_below (B := w3.heap.size) Hob.out (((Below.refl _ _).alloc Hs4.out _).grown hg5 (by have := Hs4.out; simp; omega) (fun j hj => (Ho.out.lt j hj).1)) Hg3.out
          · exact (Hbl.out.alloc Hbl.out.size _).grown hg5 (by have := Hbl.out.size; simp; omega) (fun j hj => by have h1 := (Ho.out.lt j hj).1; have h2 := Hs3.out; omega)
        case measure => omega
    · obtain rfl : k = n := by omega
      clear ho hob hbl hs4
      go_wp2_with fail
      go_ret
      exact ⟨⟨_, rfl, Ho.out.1, Ho.out.2.imp (fun h => h) fun ⟨g, c, cur, h1, h2, h3⟩ => ⟨g, c, cur, h1, by have := Hs3.out; omega, h3⟩⟩, Hbl.out⟩

/-- the orbit, or nothing -/
def orbV (i : Int) (s r : ByteArray) (x : Int) : List Nat := if okB i s r && elB i x then orbL (ofSt i s r).n (isos (ofSt i s r) (ofSt i s r)) x.toNat else []

set_option maxHeartbeats 1000000 in
theorem OrbitOf_impl (i : Int) (s r : ByteArray) (x : Int) (w : World) (hs : s.size ≤ maxLen) (hr : r.size ≤ maxLen) :
    Calls Tryd.prog 17 #[stV i s r, .int .i64 x] w fun e w' => (∃ v, e = .returned v ∧ w'.ownsRow w.heap.size 3 1 v (orbV i s r x).length (intsV (natsI (orbV i s r x)))) ∧ Below w.heap.size w w' := by
  have hc : ∀ W, Calls Tryd.prog 42 #[stV i s r, .int .i64 x] W fun e w' => e = .returned (.bool (okB i s r && elB i x)) ∧ Below W.heap.size W w' := fun W => hasElement_calls i s r x W hs hr
  cases hok : (okB i s r && elB i x) with
  | false =>
    have hv : orbV i s r x = [] := by unfold orbV; rw [hok]; rfl
    rw [hv]
    rw [hok] at hc
    have Hc := Lib.hid hc
    clear hc hs hr hok hv
    go_enter Tryd.func17, Tryd.ntmps17
    go_wp2_with fail
    refine (Hc.out _).mono ?_
    rintro e w1 ⟨rfl, hz⟩
    have HB := Lib.hid (box_next (box_refl w _) hz)
    clear hz
    go_wp2_with fail
    go_ret
    exact ⟨⟨_, rfl, rfl, .inl ⟨rfl, rfl⟩⟩, box_down HB.out⟩
  | true =>
    obtain ⟨h1, h2⟩ := Bool.and_eq_true_iff.1 hok
    rcases ok_cases i s r with h | ⟨a, ha, rfl, rfl, rfl⟩
    · rw [h] at h1; cases h1
    rcases el_cases a.n x with h | ⟨k, rfl, hk, _⟩
    · rw [h] at h2; cases h2
    have hv : orbV a.n (bs a.set) (bs a.rel) (k : Nat) = orbL a.n (isos a a) k := by unfold orbV; rw [hok, ofSt_eq]; rfl
    rw [hv]
    rw [hok] at hc
    have Hc := Lib.hid hc
    have ho := fun W => orbitOf_calls a ha k hk W
    have Hoo := Lib.hid ho
    generalize orbL a.n (isos a a) k = L at *
    clear hc hs hr hok hv ho h1 h2
    go_enter Tryd.func17, Tryd.ntmps17
    go_wp2_with fail
    refine (Hc.out _).mono ?_
    rintro e w1 ⟨rfl, hz⟩
    have HB := Lib.hid (box_next (box_refl w _) hz)
    clear hz
    obtain ⟨k0, k1, k2⟩ := box3 HB.out
    go_wp2_with fail
    refine (Hoo.out _).mono ?_
    rintro e w2 ⟨⟨v, rfl, hw⟩, hz⟩
    have HB2 := Lib.hid (box_next HB.out hz)
    have HW := Lib.hid (show w2.ownsRow w.heap.size 3 1 v L.length (intsV (natsI L)) from ⟨hw.1, hw.2.imp (fun h => h) fun ⟨g, c, cur, h1, h2, h3⟩ => ⟨g, c, cur, h1, by have := (box_down HB.out).size; omega, h3⟩⟩)
    clear hz hw k0 k1 k2
    go_wp2_with fail
    go_ret
    exact ⟨⟨v, rfl, HW.out⟩, box_down HB2.out⟩

end Go.Proofs.YtgnmlijfenjehaaDoor
