/-
  SameShape, the program's and the reference's. Condition: texts below the reach.
-/
import Derived.Test.YtpaoffjicgmleaaDoorSOrder
import Derived.Test.YtpaoffjicgmleaaDoorSFits
namespace Go.Proofs.YtpaoffjicgmleaaDoor
open Go.RowKit
open Pl
set_option linter.unusedSimpArgs false
set_option linter.unusedVariables false

theorem fits_c (a b : St) (ha : a.ok) (hb : b.ok) (hab : a.n = b.n) : FitsC a b := fun o ho hl x hx ga gb c1 c2 w hA hB => l1Fits_calls a b ha hb hab o ho hl x hx ga gb c1 c2 w hA hB

theorem own_form' {w : World} {base n : Nat} {e : TypeId} {v : Value} {xs : List Value} (h : w.ownsRow base e 1 v n xs) (hn : 0 < n) : ∃ g cap, v = .slice (some ⟨g, 0, none⟩) n cap := by
  obtain ⟨_, ⟨_, h0⟩ | ⟨g, cap, _, hv, _⟩⟩ := h
  · omega
  · exact ⟨g, cap, hv⟩

/-- what the closure leaves -/
def SameP (w : World) (nb : Nat) (l : List Nat) (w' : World) : Prop := (∃ v, Bx w' nb 25 #[v] ∧ w'.ownsRow w.heap.size 3 1 v l.length (intsV (natsI l))) ∧ Below nb w w' ∧ ∀ B, nb < B → B ≤ w.heap.size → Kp B w w'

set_option maxHeartbeats 1000000 in
set_option maxRecDepth 100000 in
theorem same1_calls (nb : Nat) (l : List Nat) (A : Option Addr) (cap : Nat) (v : Value) (w : World) (hb : Bx w nb 25 #[v]) (hA : LRow w A (natsI l)) (h1 : 1 ≤ l.length) (h8 : l.length ≤ 8) :
    Calls Tryd.prog 73 #[.slice A l.length cap, .pointer (some ⟨nb, 0, none⟩)] w fun e w' => e = .returned (.bool false) ∧ SameP w nb l w' := by
  obtain ⟨i0, hi, hz0, hz1, hz2⟩ := info_parts (P := Tryd.prog) (e := 3) (z := .int .i64 0) (size := 1) (bytes := 8) (by kernel_rfl)
  obtain ⟨g, rfl, _⟩ := hA (by rw [natsI_len]; omega)
  have HA := Lib.hid hA
  have Hb := Lib.hid hb
  have hnb := hb.lt
  have hl0 : 0 < l.length := by omega
  have hne : ¬ nb = w.heap.size := by omega
  clear hA hb
  go_enter Tryd.func73, Tryd.ntmps73
  go_wp2_with (at_builtin; refine wpList_append_own_at _ rfl (.tmp 4) (.tmp 5) 25 rfl w.heap.size 3 i0 (.int .i64 0) 1 8 Tryd.underlying25 hi hz0 hz1 hz2 rfl (by decide) _ 0 [] rfl (own_zero w) ⟨g, 0, none⟩ l.length _ (intsV (natsI l)) rfl (by simp [intsV_len, natsI_len]) (LRow.news (HA.out.alloc _)) (ints_oneCell .i64 _) (by unfold maxLen; omega) (by omega) (by simp) ?_; intro v1 w1 ho1 hg1 hnn hat1; clear hnn hat1; obtain ⟨hown1, hbl1⟩ := app_one ho1 hg1; clear ho1; obtain ⟨g1, cap1, rfl⟩ := own_form' hown1 hl0; have x1 := (Hb.out.alloc (.cells #[] 3)).grown hg1 (fun e => hne (by injection e)); have c1 := x1.cell 0; have f1 := x1.free 0; simp at c1; have O1 := Lib.hid hown1; have B1 := Lib.hid hbl1; have X1 := Lib.hid x1; clear hg1 hown1 hbl1 x1)
  go_ret
  refine ⟨rfl, ⟨_, by simpa using X1.out.set 0 _, own_far (p := ⟨nb, 0, none⟩) O1.out (fun j hj => ?_) _⟩, ?_, fun B hB hBw => ?_⟩
  · have := (O1.out.lt j hj).1
    show j ≠ nb
    omega
  · exact Below.setCell (p := ⟨nb, 0, none⟩) (B1.out.mono (Nat.le_of_lt hnb)) (Nat.le_refl _) _
  · refine ⟨by have := B1.out.size; simpa using this, fun k hk1 hk2 => ?_⟩
    rw [Below.heap_setCell _ ⟨nb, 0, none⟩ _ k (show k ≠ nb by omega)]
    exact B1.out.block k hk2

theorem enter_same1 : ∀ (args : Array Value) (w : World), (callFunc 73 args).run Tryd.prog w = .ok (.enter 73 args) w := enter_of Tryd.func73 (by kernel_rfl) (by kernel_rfl)

/-- the orders that turn one structure into the other -/
def shpL (i : Int) (s r : ByteArray) (j : Int) (t u : ByteArray) : List (List Nat) := if okB i s r && (okB j t u && decide (i = j)) then isos (ofSt i s r) (ofSt j t u) else []

theorem shp_cases (i : Int) (s r : ByteArray) (j : Int) (t u : ByteArray) : (okB i s r = false ∧ shpL i s r j t u = []) ∨ (okB i s r = true ∧ okB j t u = false ∧ shpL i s r j t u = []) ∨ (okB i s r = true ∧ okB j t u = true ∧ i ≠ j ∧ shpL i s r j t u = []) ∨
    ∃ a b : St, a.ok ∧ b.ok ∧ a.n = b.n ∧ i = a.n ∧ s = bs a.set ∧ r = bs a.rel ∧ j = b.n ∧ t = bs b.set ∧ u = bs b.rel ∧ shpL i s r j t u = isos a b := by
  rcases ok_cases i s r with h1 | ⟨a, ha, rfl, rfl, rfl⟩
  · exact .inl ⟨h1, by unfold shpL; rw [h1]; rfl⟩
  · have h1 := okB_true ha
    rcases ok_cases j t u with h2 | ⟨b, hb, rfl, rfl, rfl⟩
    · exact .inr (.inl ⟨h1, h2, by unfold shpL; rw [h1, h2]; rfl⟩)
    · have h2 := okB_true hb
      by_cases hab : a.n = b.n
      · exact .inr (.inr (.inr ⟨a, b, ha, hb, hab, rfl, rfl, rfl, rfl, rfl, rfl, by unfold shpL; rw [h1, h2, decide_eq_true (by omega)]; rfl⟩))
      · exact .inr (.inr (.inl ⟨h1, h2, by omega, by unfold shpL; rw [h1, h2, decide_eq_false (by omega)]; rfl⟩))

set_option maxHeartbeats 2000000 in
theorem SameShape_spec (i : Int) (s r : ByteArray) (j : Int) (t u : ByteArray) (w : World) (hs : s.size ≤ maxLen) (hr : r.size ≤ maxLen) (ht : t.size ≤ maxLen) (hu : u.size ≤ maxLen) :
    Calls Tryd.prog 39 #[stV i s r, stV j t u] w fun e w' => FstL (shpL i s r j t u) e w' ∧ Below w.heap.size w w' := by
  have v1 : ∀ W, Calls Tryd.prog 57 #[stV i s r] W fun e w' => e = .returned (.bool (okB i s r)) ∧ Below W.heap.size W w' := fun W => StructureValid_spec i s r W hs hr
  have v2 : ∀ W, Calls Tryd.prog 57 #[stV j t u] W fun e w' => e = .returned (.bool (okB j t u)) ∧ Below W.heap.size W w' := fun W => StructureValid_spec j t u W ht hu
  have X0 := Lib.hid (show Two w ((w.alloc (.cells #[.int .i64 i, .string s, .string r] 24)).alloc (.cells #[.int .i64 j, .string t, .string u] 24)) #[.int .i64 i, .string s, .string r] #[.int .i64 j, .string t, .string u] from ⟨(Bx.new w _ _).alloc _, bx_two w _ _⟩)
  have B0 := Lib.hid (((Below.refl w.heap.size w).alloc (Nat.le_refl _) (.cells #[.int .i64 i, .string s, .string r] 24)).alloc (by simp) (.cells #[.int .i64 j, .string t, .string u] 24))
  rcases shp_cases i s r j t u with ⟨h1, hL⟩ | ⟨h1, h2, hL⟩ | ⟨h1, h2, hij, hL⟩ | ⟨a, b, ha, hb, hab, ei, es, er, ej, et, eu, hL⟩
  · rw [hL]
    rw [h1] at v1
    have V1 := Lib.hid v1
    clear v1 v2 hs hr ht hu h1 hL
    obtain ⟨m0, m1, m2, m3, m4, m5⟩ := X0.out.six
    go_enter Tryd.func39, Tryd.ntmps39
    go_wp2_with fail
    refine (V1.out _).mono ?_
    rintro e w1 ⟨rfl, hz⟩
    have X1 := Lib.hid (X0.out.call hz)
    have B1 := Lib.hid (B0.out.trans (hz.mono B0.out.size))
    clear hz m0 m1 m2 m3 m4 m5
    obtain ⟨m0, m1, m2, m3, m4, m5⟩ := X1.out.six
    go_wp2_with fail
    go_ret2
    exact ⟨⟨_, _, rfl, fun h => absurd h (by simp [natsI])⟩, B1.out.alloc B1.out.size _⟩
  · rw [hL]
    rw [h1] at v1
    rw [h2] at v2
    have V1 := Lib.hid v1
    have V2 := Lib.hid v2
    clear v1 v2 hs hr ht hu h1 h2 hL
    obtain ⟨m0, m1, m2, m3, m4, m5⟩ := X0.out.six
    go_enter Tryd.func39, Tryd.ntmps39
    go_wp2_with fail
    refine (V1.out _).mono ?_
    rintro e w1 ⟨rfl, hz⟩
    have X1 := Lib.hid (X0.out.call hz)
    have B1 := Lib.hid (B0.out.trans (hz.mono B0.out.size))
    clear hz m0 m1 m2 m3 m4 m5
    obtain ⟨m0, m1, m2, m3, m4, m5⟩ := X1.out.six
    go_wp2_with fail
    refine (V2.out _).mono ?_
    rintro e w2 ⟨rfl, hz⟩
    have X2 := Lib.hid (X1.out.call hz)
    have B2 := Lib.hid (B1.out.trans (hz.mono B1.out.size))
    clear hz m0 m1 m2 m3 m4 m5
    obtain ⟨m0, m1, m2, m3, m4, m5⟩ := X2.out.six
    go_wp2_with fail
    go_ret2
    exact ⟨⟨_, _, rfl, fun h => absurd h (by simp [natsI])⟩, B2.out.alloc B2.out.size _⟩
  · rw [hL]
    rw [h1] at v1
    rw [h2] at v2
    have V1 := Lib.hid v1
    have V2 := Lib.hid v2
    have hne : (i == j) = false := beq_eq_false_iff_ne.2 hij
    clear v1 v2 hs hr ht hu h1 h2 hL hij
    obtain ⟨m0, m1, m2, m3, m4, m5⟩ := X0.out.six
    go_enter Tryd.func39, Tryd.ntmps39
    go_wp2_with fail
    refine (V1.out _).mono ?_
    rintro e w1 ⟨rfl, hz⟩
    have X1 := Lib.hid (X0.out.call hz)
    have B1 := Lib.hid (B0.out.trans (hz.mono B0.out.size))
    clear hz m0 m1 m2 m3 m4 m5
    obtain ⟨m0, m1, m2, m3, m4, m5⟩ := X1.out.six
    go_wp2_with fail
    refine (V2.out _).mono ?_
    rintro e w2 ⟨rfl, hz⟩
    have X2 := Lib.hid (X1.out.call hz)
    have B2 := Lib.hid (B1.out.trans (hz.mono B1.out.size))
    clear hz m0 m1 m2 m3 m4 m5
    obtain ⟨m0, m1, m2, m3, m4, m5⟩ := X2.out.six
    go_wp2_with fail
    go_ret2
    exact ⟨⟨_, _, rfl, fun h => absurd h (by simp [natsI])⟩, B2.out.alloc B2.out.size _⟩
  · rw [hL]
    subst ei es er ej et eu
    rw [okB_true ha] at v1
    rw [okB_true hb] at v2
    have hord : ∀ (W : World) (g : Nat), Calls Tryd.prog 72 #[stV (a.n : Int) (bs a.set) (bs a.rel), .slice (some ⟨g, 0, none⟩) 0 0, stV (b.n : Int) (bs b.set) (bs b.rel)] W fun e w' => FstL (isos a b) e w' ∧ Below W.heap.size W w' := fun W g =>
      l1Order_calls a b ha hb hab (fits_c a b ha hb hab) a.n [] g 0 W (by simp) (by simp) (fun h => absurd h (by simp [natsI]))
    have V1 := Lib.hid v1
    have V2 := Lib.hid v2
    have Hord := Lib.hid hord
    have heq : ((a.n : Int) == (b.n : Int)) = true := by simp [hab]
    have hne : ((a.n : Int) != (b.n : Int)) = false := by simp [hab]
    clear v1 v2 hs hr ht hu hL ha hb hab hord
    obtain ⟨m0, m1, m2, m3, m4, m5⟩ := X0.out.six
    go_enter Tryd.func39, Tryd.ntmps39
    go_wp2_with fail
    refine (V1.out _).mono ?_
    rintro e w1 ⟨rfl, hz⟩
    have X1 := Lib.hid (X0.out.call hz)
    have B1 := Lib.hid (B0.out.trans (hz.mono B0.out.size))
    clear hz m0 m1 m2 m3 m4 m5
    obtain ⟨m0, m1, m2, m3, m4, m5⟩ := X1.out.six
    go_wp2_with fail
    refine (V2.out _).mono ?_
    rintro e w2 ⟨rfl, hz⟩
    have X2 := Lib.hid (X1.out.call hz)
    have B2 := Lib.hid (B1.out.trans (hz.mono B1.out.size))
    clear hz m0 m1 m2 m3 m4 m5
    obtain ⟨m0, m1, m2, m3, m4, m5⟩ := X2.out.six
    obtain ⟨p0, p1, p2, p3, p4, p5⟩ := (show Two w (w2.alloc (.cells #[] 3)) #[.int .i64 a.n, .string (bs a.set), .string (bs a.rel)] #[.int .i64 b.n, .string (bs b.set), .string (bs b.rel)] from ⟨X2.out.1.alloc _, X2.out.2.alloc _⟩).six
    go_wp2_with fail
    clear p0 p1 p2 p3 p4 p5
    refine (Hord.out _ _).mono ?_
    rintro e w3 ⟨⟨g, cap, rfl, hl⟩, hz⟩
    have B3 := Lib.hid ((B2.out.alloc B2.out.size (.cells #[] 3)).trans (hz.mono (B2.out.alloc B2.out.size _).size))
    have L3 := Lib.hid hl
    clear hz hl m0 m1 m2 m3 m4 m5
    obtain ⟨R, hR⟩ : ∃ R, R = (isos a b).headD [] := ⟨_, rfl⟩
    obtain ⟨q, hq⟩ : ∃ q, q = !(isos a b).isEmpty := ⟨_, rfl⟩
    rw [← hR, ← hq]
    have HR := Lib.hid hR
    have Hq := Lib.hid hq
    rw [← HR.out] at L3
    clear hR hq
    go_wp2_with fail
    go_ret2
    exact ⟨⟨g, cap, by rw [← HR.out, ← Hq.out]; rfl, by rw [← HR.out]; exact L3.out⟩, B3.out⟩

/-- a fresh list, the first of some -/
def ImpL (w : World) (L : List (List Nat)) (e : Ending) (w' : World) : Prop := ∃ v, e = .returned (.tuple #[v, .bool (!L.isEmpty)]) ∧ w'.ownsRow w.heap.size 3 1 v (L.headD []).length (intsV (natsI (L.headD [])))

/-- what lies in the variable -/
def FoundJ (w : World) (nb : Nat) (L : List (List Nat)) (V : World) : Prop := (∃ v, Bx V nb 25 #[v] ∧ (L = [] → v = .slice none 0 0) ∧ (∀ l, L = [l] → 0 < l.length ∧ V.ownsRow w.heap.size 3 1 v l.length (intsV (natsI l)))) ∧ Below w.heap.size w V

set_option maxHeartbeats 2000000 in
theorem SameShape_impl (i : Int) (s r : ByteArray) (j : Int) (t u : ByteArray) (w : World) (hs : s.size ≤ maxLen) (hr : r.size ≤ maxLen) (ht : t.size ≤ maxLen) (hu : u.size ≤ maxLen) :
    Calls Tryd.prog 36 #[stV i s r, stV j t u] w fun e w' => ImpL w (shpL i s r j t u) e w' ∧ Below w.heap.size w w' := by
  have v1 : ∀ W, Calls Tryd.prog 46 #[stV i s r] W fun e w' => e = .returned (.bool (okB i s r)) ∧ Below W.heap.size W w' := fun W => isStructure_calls i s r W hs hr
  have v2 : ∀ W, Calls Tryd.prog 46 #[stV j t u] W fun e w' => e = .returned (.bool (okB j t u)) ∧ Below W.heap.size W w' := fun W => isStructure_calls j t u W ht hu
  have X0 := Lib.hid (show Two w ((w.alloc (.cells #[.int .i64 i, .string s, .string r] 24)).alloc (.cells #[.int .i64 j, .string t, .string u] 24)) #[.int .i64 i, .string s, .string r] #[.int .i64 j, .string t, .string u] from ⟨(Bx.new w _ _).alloc _, bx_two w _ _⟩)
  have B0 := Lib.hid (((Below.refl w.heap.size w).alloc (Nat.le_refl _) (.cells #[.int .i64 i, .string s, .string r] 24)).alloc (by simp) (.cells #[.int .i64 j, .string t, .string u] 24))
  rcases shp_cases i s r j t u with ⟨h1, hL⟩ | ⟨h1, h2, hL⟩ | ⟨h1, h2, hij, hL⟩ | ⟨a, b, ha, hb, hab, ei, es, er, ej, et, eu, hL⟩
  · rw [hL]
    rw [h1] at v1
    have V1 := Lib.hid v1
    clear v1 v2 hs hr ht hu h1 hL
    obtain ⟨m0, m1, m2, m3, m4, m5⟩ := X0.out.six
    go_enter Tryd.func36, Tryd.ntmps36
    go_wp2_with fail
    refine (V1.out _).mono ?_
    rintro e w1 ⟨rfl, hz⟩
    have X1 := Lib.hid (X0.out.call hz)
    have B1 := Lib.hid (B0.out.trans (hz.mono B0.out.size))
    clear hz m0 m1 m2 m3 m4 m5
    obtain ⟨m0, m1, m2, m3, m4, m5⟩ := X1.out.six
    go_wp2_with fail
    go_ret2
    exact ⟨⟨_, rfl, rfl, .inl ⟨rfl, rfl⟩⟩, B1.out⟩
  · rw [hL]
    rw [h1] at v1
    rw [h2] at v2
    have V1 := Lib.hid v1
    have V2 := Lib.hid v2
    clear v1 v2 hs hr ht hu h1 h2 hL
    obtain ⟨m0, m1, m2, m3, m4, m5⟩ := X0.out.six
    go_enter Tryd.func36, Tryd.ntmps36
    go_wp2_with fail
    refine (V1.out _).mono ?_
    rintro e w1 ⟨rfl, hz⟩
    have X1 := Lib.hid (X0.out.call hz)
    have B1 := Lib.hid (B0.out.trans (hz.mono B0.out.size))
    clear hz m0 m1 m2 m3 m4 m5
    obtain ⟨m0, m1, m2, m3, m4, m5⟩ := X1.out.six
    go_wp2_with fail
    refine (V2.out _).mono ?_
    rintro e w2 ⟨rfl, hz⟩
    have X2 := Lib.hid (X1.out.call hz)
    have B2 := Lib.hid (B1.out.trans (hz.mono B1.out.size))
    clear hz m0 m1 m2 m3 m4 m5
    obtain ⟨m0, m1, m2, m3, m4, m5⟩ := X2.out.six
    go_wp2_with fail
    go_ret2
    exact ⟨⟨_, rfl, rfl, .inl ⟨rfl, rfl⟩⟩, B2.out⟩
  · rw [hL]
    rw [h1] at v1
    rw [h2] at v2
    have V1 := Lib.hid v1
    have V2 := Lib.hid v2
    have hne : (i == j) = false := beq_eq_false_iff_ne.2 hij
    clear v1 v2 hs hr ht hu h1 h2 hL hij
    obtain ⟨m0, m1, m2, m3, m4, m5⟩ := X0.out.six
    go_enter Tryd.func36, Tryd.ntmps36
    go_wp2_with fail
    refine (V1.out _).mono ?_
    rintro e w1 ⟨rfl, hz⟩
    have X1 := Lib.hid (X0.out.call hz)
    have B1 := Lib.hid (B0.out.trans (hz.mono B0.out.size))
    clear hz m0 m1 m2 m3 m4 m5
    obtain ⟨m0, m1, m2, m3, m4, m5⟩ := X1.out.six
    go_wp2_with fail
    refine (V2.out _).mono ?_
    rintro e w2 ⟨rfl, hz⟩
    have X2 := Lib.hid (X1.out.call hz)
    have B2 := Lib.hid (B1.out.trans (hz.mono B1.out.size))
    clear hz m0 m1 m2 m3 m4 m5
    obtain ⟨m0, m1, m2, m3, m4, m5⟩ := X2.out.six
    go_wp2_with fail
    go_ret2
    exact ⟨⟨_, rfl, rfl, .inl ⟨rfl, rfl⟩⟩, B2.out⟩
  · rw [hL]
    subst ei es er ej et eu
    rw [okB_true ha] at v1
    rw [okB_true hb] at v2
    have hn1 := ha.lo
    have hn8 := ha.hi
    have hes : ∀ (nb : Nat) (W : World), nb < W.heap.size → w.heap.size ≤ nb → Bx W nb 25 #[.slice none 0 0] → Below w.heap.size w W → Calls Tryd.prog 63 #[stV (a.n : Int) (bs a.set) (bs a.rel), stV (b.n : Int) (bs b.set) (bs b.rel), .func (.func 73) #[] #[.pointer (some ⟨nb, 0, none⟩)]] W fun e w' => e = .returned (.tuple #[]) ∧ FoundJ w nb (told false (isos a b)) w' := by
      intro nb W hnb hwn hbx hbl
      refine eachShape_calls a b ha hb hab false 73 #[] #[.pointer (some ⟨nb, 0, none⟩)] W enter_same1 (fun V L => FoundJ w nb L V)
        (fun V V' L hc ⟨⟨v, h1, h2, h3⟩, h4⟩ hb => ?_) (fun V L l A cap hc hj hsz hl hlt hA => ?_) ⟨⟨_, hbx, fun _ => rfl, fun l h => by cases h⟩, hbl⟩
      · obtain rfl : L = [] := by rcases hc with h | h; cases h; exact h
        exact ⟨⟨v, h1.below hb hnb, h2, fun l h => by cases h⟩, h4.trans (hb.mono (by omega))⟩
      · obtain rfl : L = [] := by rcases hc with h | h; cases h; exact h
        obtain ⟨⟨v, h1, h2, h3⟩, h4⟩ := hj
        refine (same1_calls nb l A cap v V h1 hA (by omega) (by omega)).mono fun e w' ⟨g1, ⟨v', g2, g3⟩, g4, g5⟩ => ⟨⟨g1, ⟨⟨v', g2, fun h => by simp at h, fun l' h => ?_⟩, h4.trans (g4.mono (by omega))⟩⟩, g5 _ hnb (by omega)⟩
        obtain rfl : l = l' := by simpa using h
        exact ⟨by omega, g3.1, g3.2.imp (fun h => h) fun ⟨g, c, cur, h1, h2, h3⟩ => ⟨g, c, cur, h1, by have := h4.size; omega, h3⟩⟩
    have V1 := Lib.hid v1
    have V2 := Lib.hid v2
    have Hes := Lib.hid hes
    have heq : ((a.n : Int) == (b.n : Int)) = true := by simp [hab]
    have hne : ((a.n : Int) != (b.n : Int)) = false := by simp [hab]
    have hPI : ∀ (L : List (List Nat)) (v : Value), L.headD [] = (isos a b).headD [] → L.isEmpty = (isos a b).isEmpty → ∀ w', w'.ownsRow w.heap.size 3 1 v (L.headD []).length (intsV (natsI (L.headD []))) → ImpL w (isos a b) (.returned (.tuple #[v, .bool (!L.isEmpty)])) w' := fun L v e1 e2 w' h => ⟨v, by rw [e2], by rw [← e1]; exact h⟩
    have HPI := Lib.hid hPI
    clear v1 v2 hs hr ht hu hL ha hb hab hes hn1 hn8 hPI
    obtain ⟨m0, m1, m2, m3, m4, m5⟩ := X0.out.six
    go_enter Tryd.func36, Tryd.ntmps36
    go_wp2_with fail
    refine (V1.out _).mono ?_
    rintro e w1 ⟨rfl, hz⟩
    have X1 := Lib.hid (X0.out.call hz)
    have B1 := Lib.hid (B0.out.trans (hz.mono B0.out.size))
    clear hz m0 m1 m2 m3 m4 m5
    obtain ⟨m0, m1, m2, m3, m4, m5⟩ := X1.out.six
    go_wp2_with fail
    refine (V2.out _).mono ?_
    rintro e w2 ⟨rfl, hz⟩
    have X2 := Lib.hid (X1.out.call hz)
    have B2 := Lib.hid (B1.out.trans (hz.mono B1.out.size))
    clear hz m0 m1 m2 m3 m4 m5
    obtain ⟨m0, m1, m2, m3, m4, m5⟩ := X2.out.six
    obtain ⟨p0, p1, p2, p3, p4, p5⟩ := (show Two w (w2.alloc (.cells #[.slice none 0 0] 25)) #[.int .i64 a.n, .string (bs a.set), .string (bs a.rel)] #[.int .i64 b.n, .string (bs b.set), .string (bs b.rel)] from ⟨X2.out.1.alloc _, X2.out.2.alloc _⟩).six
    go_wp2_with fail
    clear p0 p1 p2 p3 p4 p5
    refine (Hes.out w2.heap.size _ ?h1 ?h2 ?h3 ?h4).mono ?_
    case h1 => simp
    case h2 => exact B2.out.size
    case h3 => exact Bx.new w2 _ _
    case h4 => exact B2.out.alloc B2.out.size _
    rintro e w3 ⟨rfl, ⟨v, hx, hv0, hv1⟩, hbl⟩
    have c3 := hx.cell 0
    simp at c3
    have B3 := Lib.hid hbl
    clear hx hbl m0 m1 m2 m3 m4 m5 X0 X1 X2
    cases hIL : isos a b with
    | nil =>
      rw [hIL] at hv0
      obtain rfl := hv0 rfl
      have HIL := Lib.hid hIL
      clear hv0 hv1 hIL
      go_upto_region 5 with (fail)
      go_quiet (fail)
      go_wp2_with fail
      go_ret2
      exact ⟨HPI.out [] _ (by rw [HIL.out]) (by rw [HIL.out]) _ ⟨rfl, .inl ⟨rfl, rfl⟩⟩, below_drewN' B3.out _⟩
    | cons l IL =>
      obtain ⟨hl0, hown⟩ := hv1 l (by rw [hIL]; rfl)
      have HIL := Lib.hid hIL
      clear hIL
      obtain ⟨g, cap, rfl⟩ := own_form' hown hl0
      have O3 := Lib.hid hown
      clear hv0 hv1 hown
      go_upto_region 5 with (fail)
      go_quiet (fail)
      go_wp2_with fail
      go_ret2
      exact ⟨HPI.out [l] _ (by rw [HIL.out]; rfl) (by rw [HIL.out]; rfl) _ O3.out, below_drewN' B3.out _⟩

end Go.Proofs.YtpaoffjicgmleaaDoor
