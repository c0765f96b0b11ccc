/-
  Laws of the functions that the claim reaches, one after the other (packed by a program of the prover's: Same, OrbI, SPart2, OrbS, Mark, WOrb, DefI, DefP, DesA, DesF, Reg3). Conditions: texts below the reach.
-/
import Derived.Test.YtpaleogkgfclnaaGreatDoorPg8
import Derived.Test.YtpaleogkgfclnaaGreatDoorPg3
import Derived.StillTailTactics
import Derived.Deep.DrawnRows
import Derived.Test.YtpaleogkgfclnaaGreatDoorPg7
import Derived.Test.YtpaleogkgfclnaaGreatDoorPg0
import Derived.Deep.QuietTactic
import Derived.BigQuiet
import Derived.Maps.AppendAt
set_option linter.unusedSimpArgs false
set_option linter.unusedVariables false

namespace Go.Proofs.YtpaleogkgfclnaaGreatDoor
open Go.RowKit
open Pl
set_option linter.unusedSimpArgs false
set_option linter.unusedVariables false

theorem own_form' {w : World} {base n : Nat} {e : TypeId} {v : Value} {xs : List Value} (h : w.ownsRow base e 1 v n xs) (hn : 0 < n) : ∃ g cap, v = .slice (some ⟨g, 0, none⟩) n cap := by
  obtain ⟨_, ⟨_, h0⟩ | ⟨g, cap, _, hv, _⟩⟩ := h
  · omega
  · exact ⟨g, cap, hv⟩

/-- what the closure leaves -/
def SameP (w : World) (nb : Nat) (l : List Nat) (w' : World) : Prop := (∃ v, Bx w' nb 31 #[v] ∧ w'.ownsRow w.heap.size 3 1 v l.length (intsV (natsI l))) ∧ Below nb w w' ∧ ∀ B, nb < B → B ≤ w.heap.size → Kp B w w'

set_option maxHeartbeats 1000000 in
set_option maxRecDepth 100000 in
theorem same1_calls (nb : Nat) (l : List Nat) (A : Option Addr) (cap : Nat) (v : Value) (w : World) (hb : Bx w nb 31 #[v]) (hA : LRow w A (natsI l)) (h1 : 1 ≤ l.length) (h8 : l.length ≤ 8) :
    Calls Tryz.prog 35 #[.slice A l.length cap, .pointer (some ⟨nb, 0, none⟩)] w fun e w' => e = .returned (.bool false) ∧ SameP w nb l w' := by
  obtain ⟨i0, hi, hz0, hz1, hz2⟩ := info_parts (P := Tryz.prog) (e := 3) (z := .int .i64 0) (size := 1) (bytes := 8) (by kernel_rfl)
  obtain ⟨g, rfl, _⟩ := hA (by rw [natsI_len]; omega)
  have HA := Lib.hid hA
  have Hb := Lib.hid hb
  have hnb := hb.lt
  have hl0 : 0 < l.length := by omega
  have hne : ¬ nb = w.heap.size := by omega
  clear hA hb
  go_enter Tryz.func35, Tryz.ntmps35
  go_wp2_with (at_builtin; refine wpList_append_own_at _ rfl (.tmp 4) (.tmp 5) 31 rfl w.heap.size 3 i0 (.int .i64 0) 1 8 Tryz.underlying31 hi hz0 hz1 hz2 rfl (by decide) _ 0 [] rfl (own_zero w) ⟨g, 0, none⟩ l.length _ (intsV (natsI l)) rfl (by simp [intsV_len, natsI_len]) (LRow.news (HA.out.alloc _)) (ints_oneCell .i64 _) (by unfold maxLen; omega) (by omega) (by simp) ?_; intro v1 w1 ho1 hg1 hnn hat1; clear hnn hat1; obtain ⟨hown1, hbl1⟩ := app_one ho1 hg1; clear ho1; obtain ⟨g1, cap1, rfl⟩ := own_form' hown1 hl0; have x1 := (Hb.out.alloc (.cells #[] 3)).grown hg1 (fun e => hne (by injection e)); have c1 := x1.cell 0; have f1 := x1.free 0; simp at c1; have O1 := Lib.hid hown1; have B1 := Lib.hid hbl1; have X1 := Lib.hid x1; clear hg1 hown1 hbl1 x1)
  go_ret
  refine ⟨rfl, ⟨_, by simpa using X1.out.set 0 _, own_far (p := ⟨nb, 0, none⟩) O1.out (fun j hj => ?_) _⟩, ?_, fun B hB hBw => ?_⟩
  · have := (O1.out.lt j hj).1
    show j ≠ nb
    omega
  · exact Below.setCell (p := ⟨nb, 0, none⟩) (B1.out.mono (Nat.le_of_lt hnb)) (Nat.le_refl _) _
  · refine ⟨by have := B1.out.size; simpa using this, fun k hk1 hk2 => ?_⟩
    rw [Below.heap_setCell _ ⟨nb, 0, none⟩ _ k (show k ≠ nb by omega)]
    exact B1.out.block k hk2

theorem enter_same1 : ∀ (args : Array Value) (w : World), (callFunc 35 args).run Tryz.prog w = .ok (.enter 35 args) w := enter_of Tryz.func35 (by kernel_rfl) (by kernel_rfl)

/-- the orders that turn one structure into the other -/
def shpL (i : Int) (s r : ByteArray) (j : Int) (t u : ByteArray) : List (List Nat) := if okB i s r && (okB j t u && decide (i = j)) then isos (ofSt i s r) (ofSt j t u) else []

theorem shp_cases (i : Int) (s r : ByteArray) (j : Int) (t u : ByteArray) : (okB i s r = false ∧ shpL i s r j t u = []) ∨ (okB i s r = true ∧ okB j t u = false ∧ shpL i s r j t u = []) ∨ (okB i s r = true ∧ okB j t u = true ∧ i ≠ j ∧ shpL i s r j t u = []) ∨
    ∃ a b : St, a.ok ∧ b.ok ∧ a.n = b.n ∧ i = a.n ∧ s = bs a.set ∧ r = bs a.rel ∧ j = b.n ∧ t = bs b.set ∧ u = bs b.rel ∧ shpL i s r j t u = isos a b := by
  rcases ok_cases i s r with h1 | ⟨a, ha, rfl, rfl, rfl⟩
  · exact .inl ⟨h1, by unfold shpL; rw [h1]; rfl⟩
  · have h1 := okB_true ha
    rcases ok_cases j t u with h2 | ⟨b, hb, rfl, rfl, rfl⟩
    · exact .inr (.inl ⟨h1, h2, by unfold shpL; rw [h1, h2]; rfl⟩)
    · have h2 := okB_true hb
      by_cases hab : a.n = b.n
      · exact .inr (.inr (.inr ⟨a, b, ha, hb, hab, rfl, rfl, rfl, rfl, rfl, rfl, by unfold shpL; rw [h1, h2, decide_eq_true (by omega)]; rfl⟩))
      · exact .inr (.inr (.inl ⟨h1, h2, by omega, by unfold shpL; rw [h1, h2, decide_eq_false (by omega)]; rfl⟩))

/-- a fresh list, the first of some -/
def ImpL (w : World) (L : List (List Nat)) (e : Ending) (w' : World) : Prop := ∃ v, e = .returned (.tuple #[v, .bool (!L.isEmpty)]) ∧ w'.ownsRow w.heap.size 3 1 v (L.headD []).length (intsV (natsI (L.headD [])))

/-- what lies in the variable -/
def FoundJ (w : World) (nb : Nat) (L : List (List Nat)) (V : World) : Prop := (∃ v, Bx V nb 31 #[v] ∧ (L = [] → v = .slice none 0 0) ∧ (∀ l, L = [l] → 0 < l.length ∧ V.ownsRow w.heap.size 3 1 v l.length (intsV (natsI l)))) ∧ Below w.heap.size w V

set_option maxHeartbeats 2000000 in
theorem SameShape_impl (i : Int) (s r : ByteArray) (j : Int) (t u : ByteArray) (w : World) (hs : s.size ≤ maxLen) (hr : r.size ≤ maxLen) (ht : t.size ≤ maxLen) (hu : u.size ≤ maxLen) :
    Calls Tryz.prog 10 #[stV i s r, stV j t u] w fun e w' => ImpL w (shpL i s r j t u) e w' ∧ Below w.heap.size w w' := by
  have v1 : ∀ W, Calls Tryz.prog 27 #[stV i s r] W fun e w' => e = .returned (.bool (okB i s r)) ∧ Below W.heap.size W w' := fun W => isStructure_calls i s r W hs hr
  have v2 : ∀ W, Calls Tryz.prog 27 #[stV j t u] W fun e w' => e = .returned (.bool (okB j t u)) ∧ Below W.heap.size W w' := fun W => isStructure_calls j t u W ht hu
  have X0 := Lib.hid (show Two w ((w.alloc (.cells #[.int .i64 i, .string s, .string r] 24)).alloc (.cells #[.int .i64 j, .string t, .string u] 24)) #[.int .i64 i, .string s, .string r] #[.int .i64 j, .string t, .string u] from ⟨(Bx.new w _ _).alloc _, bx_two w _ _⟩)
  have B0 := Lib.hid (((Below.refl w.heap.size w).alloc (Nat.le_refl _) (.cells #[.int .i64 i, .string s, .string r] 24)).alloc (by simp) (.cells #[.int .i64 j, .string t, .string u] 24))
  rcases shp_cases i s r j t u with ⟨h1, hL⟩ | ⟨h1, h2, hL⟩ | ⟨h1, h2, hij, hL⟩ | ⟨a, b, ha, hb, hab, ei, es, er, ej, et, eu, hL⟩
  · rw [hL]
    rw [h1] at v1
    have V1 := Lib.hid v1
    clear v1 v2 hs hr ht hu h1 hL
    obtain ⟨m0, m1, m2, m3, m4, m5⟩ := X0.out.six
    go_enter Tryz.func10, Tryz.ntmps10
    go_wp2_with fail
    refine (V1.out _).mono ?_
    rintro e w1 ⟨rfl, hz⟩
    have X1 := Lib.hid (X0.out.call hz)
    have B1 := Lib.hid (B0.out.trans (hz.mono B0.out.size))
    clear hz m0 m1 m2 m3 m4 m5
    obtain ⟨m0, m1, m2, m3, m4, m5⟩ := X1.out.six
    go_wp2_with fail
    go_ret2
    exact ⟨⟨_, rfl, rfl, .inl ⟨rfl, rfl⟩⟩, B1.out⟩
  · rw [hL]
    rw [h1] at v1
    rw [h2] at v2
    have V1 := Lib.hid v1
    have V2 := Lib.hid v2
    clear v1 v2 hs hr ht hu h1 h2 hL
    obtain ⟨m0, m1, m2, m3, m4, m5⟩ := X0.out.six
    go_enter Tryz.func10, Tryz.ntmps10
    go_wp2_with fail
    refine (V1.out _).mono ?_
    rintro e w1 ⟨rfl, hz⟩
    have X1 := Lib.hid (X0.out.call hz)
    have B1 := Lib.hid (B0.out.trans (hz.mono B0.out.size))
    clear hz m0 m1 m2 m3 m4 m5
    obtain ⟨m0, m1, m2, m3, m4, m5⟩ := X1.out.six
    go_wp2_with fail
    refine (V2.out _).mono ?_
    rintro e w2 ⟨rfl, hz⟩
    have X2 := Lib.hid (X1.out.call hz)
    have B2 := Lib.hid (B1.out.trans (hz.mono B1.out.size))
    clear hz m0 m1 m2 m3 m4 m5
    obtain ⟨m0, m1, m2, m3, m4, m5⟩ := X2.out.six
    go_wp2_with fail
    go_ret2
    exact ⟨⟨_, rfl, rfl, .inl ⟨rfl, rfl⟩⟩, B2.out⟩
  · rw [hL]
    rw [h1] at v1
    rw [h2] at v2
    have V1 := Lib.hid v1
    have V2 := Lib.hid v2
    have hne : (i == j) = false := beq_eq_false_iff_ne.2 hij
    clear v1 v2 hs hr ht hu h1 h2 hL hij
    obtain ⟨m0, m1, m2, m3, m4, m5⟩ := X0.out.six
    go_enter Tryz.func10, Tryz.ntmps10
    go_wp2_with fail
    refine (V1.out _).mono ?_
    rintro e w1 ⟨rfl, hz⟩
    have X1 := Lib.hid (X0.out.call hz)
    have B1 := Lib.hid (B0.out.trans (hz.mono B0.out.size))
    clear hz m0 m1 m2 m3 m4 m5
    obtain ⟨m0, m1, m2, m3, m4, m5⟩ := X1.out.six
    go_wp2_with fail
    refine (V2.out _).mono ?_
    rintro e w2 ⟨rfl, hz⟩
    have X2 := Lib.hid (X1.out.call hz)
    have B2 := Lib.hid (B1.out.trans (hz.mono B1.out.size))
    clear hz m0 m1 m2 m3 m4 m5
    obtain ⟨m0, m1, m2, m3, m4, m5⟩ := X2.out.six
    go_wp2_with fail
    go_ret2
    exact ⟨⟨_, rfl, rfl, .inl ⟨rfl, rfl⟩⟩, B2.out⟩
  · rw [hL]
    subst ei es er ej et eu
    rw [okB_true ha] at v1
    rw [okB_true hb] at v2
    have hn1 := ha.lo
    have hn8 := ha.hi
    have hes : ∀ (nb : Nat) (W : World), nb < W.heap.size → w.heap.size ≤ nb → Bx W nb 31 #[.slice none 0 0] → Below w.heap.size w W → Calls Tryz.prog 34 #[stV (a.n : Int) (bs a.set) (bs a.rel), stV (b.n : Int) (bs b.set) (bs b.rel), .func (.func 35) #[] #[.pointer (some ⟨nb, 0, none⟩)]] W fun e w' => e = .returned (.tuple #[]) ∧ FoundJ w nb (told false (isos a b)) w' := by
      intro nb W hnb hwn hbx hbl
      refine eachShape_calls a b ha hb hab false 35 #[] #[.pointer (some ⟨nb, 0, none⟩)] W enter_same1 (fun V L => FoundJ w nb L V)
        (fun V V' L hc ⟨⟨v, h1, h2, h3⟩, h4⟩ hb => ?_) (fun V L l A cap hc hj hsz hl hlt hA => ?_) ⟨⟨_, hbx, fun _ => rfl, fun l h => by cases h⟩, hbl⟩
      · obtain rfl : L = [] := by rcases hc with h | h; cases h; exact h
        exact ⟨⟨v, h1.below hb hnb, h2, fun l h => by cases h⟩, h4.trans (hb.mono (by omega))⟩
      · obtain rfl : L = [] := by rcases hc with h | h; cases h; exact h
        obtain ⟨⟨v, h1, h2, h3⟩, h4⟩ := hj
        refine (same1_calls nb l A cap v V h1 hA (by omega) (by omega)).mono fun e w' ⟨g1, ⟨v', g2, g3⟩, g4, g5⟩ => ⟨⟨g1, ⟨⟨v', g2, fun h => by simp at h, fun l' h => ?_⟩, h4.trans (g4.mono (by omega))⟩⟩, g5 _ hnb (by omega)⟩
        obtain rfl : l = l' := by simpa using h
        exact ⟨by omega, g3.1, g3.2.imp (fun h => h) fun ⟨g, c, cur, h1, h2, h3⟩ => ⟨g, c, cur, h1, by have := h4.size; omega, h3⟩⟩
    have V1 := Lib.hid v1
    have V2 := Lib.hid v2
    have Hes := Lib.hid hes
    have heq : ((a.n : Int) == (b.n : Int)) = true := by simp [hab]
    have hne : ((a.n : Int) != (b.n : Int)) = false := by simp [hab]
    have hPI : ∀ (L : List (List Nat)) (v : Value), L.headD [] = (isos a b).headD [] → L.isEmpty = (isos a b).isEmpty → ∀ w', w'.ownsRow w.heap.size 3 1 v (L.headD []).length (intsV (natsI (L.headD []))) → ImpL w (isos a b) (.returned (.tuple #[v, .bool (!L.isEmpty)])) w' := fun L v e1 e2 w' h => ⟨v, by rw [e2], by rw [← e1]; exact h⟩
    have HPI := Lib.hid hPI
    clear v1 v2 hs hr ht hu hL ha hb hab hes hn1 hn8 hPI
    obtain ⟨m0, m1, m2, m3, m4, m5⟩ := X0.out.six
    go_enter Tryz.func10, Tryz.ntmps10
    go_wp2_with fail
    refine (V1.out _).mono ?_
    rintro e w1 ⟨rfl, hz⟩
    have X1 := Lib.hid (X0.out.call hz)
    have B1 := Lib.hid (B0.out.trans (hz.mono B0.out.size))
    clear hz m0 m1 m2 m3 m4 m5
    obtain ⟨m0, m1, m2, m3, m4, m5⟩ := X1.out.six
    go_wp2_with fail
    refine (V2.out _).mono ?_
    rintro e w2 ⟨rfl, hz⟩
    have X2 := Lib.hid (X1.out.call hz)
    have B2 := Lib.hid (B1.out.trans (hz.mono B1.out.size))
    clear hz m0 m1 m2 m3 m4 m5
    obtain ⟨m0, m1, m2, m3, m4, m5⟩ := X2.out.six
    obtain ⟨p0, p1, p2, p3, p4, p5⟩ := (show Two w (w2.alloc (.cells #[.slice none 0 0] 31)) #[.int .i64 a.n, .string (bs a.set), .string (bs a.rel)] #[.int .i64 b.n, .string (bs b.set), .string (bs b.rel)] from ⟨X2.out.1.alloc _, X2.out.2.alloc _⟩).six
    go_wp2_with fail
    clear p0 p1 p2 p3 p4 p5
    refine (Hes.out w2.heap.size _ ?h1 ?h2 ?h3 ?h4).mono ?_
    case h1 => simp
    case h2 => exact B2.out.size
    case h3 => exact Bx.new w2 _ _
    case h4 => exact B2.out.alloc B2.out.size _
    rintro e w3 ⟨rfl, ⟨v, hx, hv0, hv1⟩, hbl⟩
    have c3 := hx.cell 0
    simp at c3
    have B3 := Lib.hid hbl
    clear hx hbl m0 m1 m2 m3 m4 m5 X0 X1 X2
    cases hIL : isos a b with
    | nil =>
      rw [hIL] at hv0
      obtain rfl := hv0 rfl
      have HIL := Lib.hid hIL
      clear hv0 hv1 hIL
      go_upto_region 5 with (fail)
      go_quiet (fail)
      go_wp2_with fail
      go_ret2
      exact ⟨HPI.out [] _ (by rw [HIL.out]) (by rw [HIL.out]) _ ⟨rfl, .inl ⟨rfl, rfl⟩⟩, below_drewN' B3.out _⟩
    | cons l IL =>
      obtain ⟨hl0, hown⟩ := hv1 l (by rw [hIL]; rfl)
      have HIL := Lib.hid hIL
      clear hIL
      obtain ⟨g, cap, rfl⟩ := own_form' hown hl0
      have O3 := Lib.hid hown
      clear hv0 hv1 hown
      go_upto_region 5 with (fail)
      go_quiet (fail)
      go_wp2_with fail
      go_ret2
      exact ⟨HPI.out [l] _ (by rw [HIL.out]; rfl) (by rw [HIL.out]; rfl) _ O3.out, below_drewN' B3.out _⟩

end Go.Proofs.YtpaleogkgfclnaaGreatDoor

namespace Go.Proofs.YtpaleogkgfclnaaGreatDoor
open Go.RowKit
open Pl
set_option linter.unusedSimpArgs false
set_option linter.unusedVariables false
attribute [local go_sem ↓] Go.wp_at_zero Go.wp_at_succ

/-- the elements that some orders put in the place of x -/
def inL (x : Nat) (L : List (List Nat)) (y : Nat) : Bool := L.any fun l => app l x == y
def boolsV (n : Nat) (f : Nat → Bool) : List Value := (List.range n).map fun y => .bool (f y)
theorem boolsV_len (n : Nat) (f : Nat → Bool) : (boolsV n f).length = n := by simp [boolsV]
theorem boolsV_get {n : Nat} {f : Nat → Bool} {k : Nat} (h : k < n) : (boolsV n f)[k]? = some (.bool (f k)) := by simp [boolsV, h]
theorem boolsV_set (n x : Nat) (L : List (List Nat)) (l : List Nat) : (boolsV n (inL x L)).set (app l x) (.bool true) = boolsV n (inL x (L ++ [l])) := by
  apply List.ext_getElem?
  intro k
  by_cases hk : k < n
  · rw [boolsV_get hk]
    by_cases e : app l x = k
    · subst e
      rw [List.getElem?_set_self (by rw [boolsV_len]; exact hk)]
      simp [inL]
    · rw [List.getElem?_set_ne e, boolsV_get hk]
      simp [inL, e]
  · rw [List.getElem?_eq_none (by rw [List.length_set, boolsV_len]; omega), List.getElem?_eq_none (by rw [boolsV_len]; omega)]

theorem Kp.trans {B : Nat} {a b c : World} (h : Kp B a b) (k : Kp B b c) : Kp B a c := ⟨Nat.le_trans h.size k.size, fun j h1 h2 => (k.block j h1 (Nat.lt_of_lt_of_le h2 h.size)).trans (h.block j h1 h2)⟩
theorem own_below {W W' : World} {B base n g cap : Nat} {e : TypeId} {xs : List Value} (h : W.ownsRow base e 1 (.slice (some ⟨g, 0, none⟩) n cap) n xs) (hb : Below B W W') (hg : g < B) : W'.ownsRow base e 1 (.slice (some ⟨g, 0, none⟩) n cap) n xs := by
  obtain ⟨h1, ⟨h2, _⟩ | ⟨g', c', cur, hv, h3, h4, h5⟩⟩ := h
  · cases h2
  · have hv2 := hv
    injection hv2 with h6 _ _
    injection h6 with h6
    injection h6 with h6 _
    subst h6
    exact ⟨h1, .inr ⟨g, c', cur, hv, h3, (hb.block g hg).trans h4, h5⟩⟩

set_option maxHeartbeats 1000000 in
set_option maxRecDepth 100000 in
theorem orb1_calls (base nb gb xb n c x : Nat) (L : List (List Nat)) (l : List Nat) (A : Option Addr) (cap : Nat) (w : World) (hb : Bx w nb 102 #[.slice (some ⟨gb, 0, none⟩) n c]) (hx : Bx w xb 3 #[.int .i64 (x : Nat)])
    (ho : w.ownsRow base 4 1 (.slice (some ⟨gb, 0, none⟩) n c) n (boolsV n (inL x L))) (hA : LRow w A (natsI l)) (hl : l.length = n) (hxn : x < n) (hn : n ≤ 8) (hlt : ∀ y ∈ l, y < n) :
    Calls Tryz.prog 77 #[.slice A l.length cap, .pointer (some ⟨nb, 0, none⟩), .pointer (some ⟨xb, 0, none⟩)] w fun e w' => e = .returned (.bool true) ∧ w' = w.drew.setCell ⟨gb, app l x, none⟩ (.bool true) := by
  obtain ⟨g, rfl, hc⟩ := hA.nats (k := x) (by omega)
  rw [hl]
  have hy : app l x < n := hlt _ (app_mem (by omega))
  have hc2 : w.cell? ⟨g, x, none⟩ = some (.int .i64 (app l x : Nat)) := hc
  obtain ⟨y, hyy⟩ : ∃ y, y = app l x := ⟨_, rfl⟩
  rw [← hyy] at hy hc2 ⊢
  have o0 := hb.cell 0
  have x0 := hx.cell 0
  simp at o0 x0
  have i1 : (0 : Int) ≤ (x : Int) := by omega
  have i2 : (x : Int) < (n : Int) := by omega
  have i3 : (0 : Int) ≤ (y : Int) := by omega
  have i4 : (y : Int) < (n : Int) := by omega
  have y0 : w.cell? ⟨gb, y, none⟩ = some (.bool (inL x L y)) := by
    have h := ho.cellAt y (by omega)
    rw [boolsV_get hy] at h
    exact h
  have y1 : w.frozen? ⟨gb, y, none⟩ = false := ho.frozenAt y
  generalize inL x L y = q at y0
  clear hb hx ho hA hc hlt hyy hl hxn
  go_enter Tryz.func77, Tryz.ntmps77
  go_upto_region 1 with (fail)
  go_still_tail 6, (by kernel_rfl)
  change wpList _ _ _ _ _ w.drew
  have y0' : w.drew.cell? ⟨gb, y, none⟩ = some (.bool q) := y0
  have y1' : w.drew.frozen? ⟨gb, y, none⟩ = false := y1
  clear o0 x0 hc2 y0 y1
  generalize hw2 : w.drew = w2 at *
  have Hw2 := Lib.hid hw2
  clear hw2
  go_wp2_with fail
  go_ret
  exact ⟨rfl, by rw [Hw2.out]⟩

theorem enter_orb1 : ∀ (args : Array Value) (w : World), (callFunc 77 args).run Tryz.prog w = .ok (.enter 77 args) w := enter_of Tryz.func77 (by kernel_rfl) (by kernel_rfl)

/-- what lies in memory while the orders are told -/
def OrbJ (w : World) (base gb nb xb n x : Nat) (L : List (List Nat)) (V : World) : Prop := (V.ownsRow base 4 1 (.slice (some ⟨gb, 0, none⟩) n n) n (boolsV n (inL x L)) ∧ Bx V nb 102 #[.slice (some ⟨gb, 0, none⟩) n n] ∧ Bx V xb 3 #[.int .i64 (x : Nat)]) ∧ Below w.heap.size w V

set_option maxHeartbeats 4000000 in
set_option maxRecDepth 100000 in
theorem orbitOf_calls (a : St) (ha : a.ok) (x : Nat) (hx : x < a.n) (w : World) :
    Calls Tryz.prog 48 #[stA a, .int .i64 (x : Nat)] w fun e w' => (∃ v, e = .returned v ∧ w'.ownsRow w.heap.size 3 1 v (orbL a.n (isos a a) x).length (intsV (natsI (orbL a.n (isos a a) x)))) ∧ Below w.heap.size w w' := by
  have hn1 := ha.lo
  have hn8 := ha.hi
  obtain ⟨i0, hi, hz0, hz1, hz2⟩ := info_parts (P := Tryz.prog) (e := 3) (z := .int .i64 0) (size := 1) (bytes := 8) (by kernel_rfl)
  obtain ⟨i1, hj, hy0, hy1, hy2⟩ := info_parts (P := Tryz.prog) (e := 4) (z := .bool false) (size := 1) (bytes := 1) (by kernel_rfl)
  have hes : ∀ (gb nb xb : Nat) (W : World), gb < W.heap.size → nb < W.heap.size → xb < W.heap.size → w.heap.size ≤ gb → OrbJ w w.heap.size gb nb xb a.n x [] W →
      Calls Tryz.prog 34 #[stV (a.n : Int) (bs a.set) (bs a.rel), stV (a.n : Int) (bs a.set) (bs a.rel), .func (.func 77) #[] #[.pointer (some ⟨nb, 0, none⟩), .pointer (some ⟨xb, 0, none⟩)]] W fun e w' => e = .returned (.tuple #[]) ∧ OrbJ w w.heap.size gb nb xb a.n x (isos a a) w' := by
    intro gb nb xb W hg hnb hxb hwg hj0
    refine eachShape_calls a a ha ha rfl true 77 #[] #[.pointer (some ⟨nb, 0, none⟩), .pointer (some ⟨xb, 0, none⟩)] W enter_orb1 (fun V L => OrbJ w w.heap.size gb nb xb a.n x L V)
      (fun V V' L _ h hb => ⟨⟨own_below h.1.1 hb hg, h.1.2.1.below hb hnb, h.1.2.2.below hb hxb⟩, h.2.trans (hb.mono (by omega))⟩) (fun V L l A cap _ h hsz hl hlt hA => ?_) hj0
    obtain ⟨⟨h1, h2, h3⟩, h4⟩ := h
    have hc := orb1_calls w.heap.size nb gb xb a.n a.n x L l A cap V h2 h3 h1 hA hl hx hn8 hlt
    have hyl : app l x < a.n := hlt _ (app_mem (by omega))
    have hne1 : nb ≠ gb := fun e => by
      have c1 := h2.cell 0
      have c2 := h1.cellAt 0 (by omega)
      rw [boolsV_get (by omega)] at c2
      rw [e] at c1
      rw [c1] at c2
      simp at c2
    have hne2 : xb ≠ gb := fun e => by
      have c1 := h3.cell 0
      have c2 := h1.cellAt 0 (by omega)
      rw [boolsV_get (by omega)] at c2
      rw [e] at c1
      rw [c1] at c2
      simp at c2
    have hst := (World.ownsRow.stored (w := V.drew) (show V.drew.ownsRow w.heap.size 4 1 (.slice (some ⟨gb, 0, none⟩) a.n a.n) a.n (boolsV a.n (inL x L)) from h1) (app l x) (.bool true)).1
    rw [boolsV_set] at hst
    refine hc.mono fun e w' ⟨g1, g2⟩ => ?_
    subst g2
    exact ⟨⟨g1, ⟨hst, (h2.drew).far (p := ⟨gb, app l x, none⟩) hne1 _, (h3.drew).far (p := ⟨gb, app l x, none⟩) hne2 _⟩, (h4.drew).setCell (p := ⟨gb, app l x, none⟩) hwg _⟩, (Kp.of_below ((Below.refl _ _).drew)).trans (Kp.setCell (p := ⟨gb, app l x, none⟩) hg _)⟩
  obtain ⟨R0, hR0⟩ : ∃ R0, R0 = inL x (isos a a) := ⟨_, rfl⟩
  have hRk : orbL a.n (isos a a) x = rk R0 a.n := by rw [hR0]; rfl
  rw [hRk]
  have hes2 : ∀ (gb nb xb : Nat) (W : World), gb < W.heap.size → nb < W.heap.size → xb < W.heap.size → w.heap.size ≤ gb → (W.ownsRow w.heap.size 4 1 (.slice (some ⟨gb, 0, none⟩) a.n a.n) a.n (boolsV a.n (inL x [])) ∧ Bx W nb 102 #[.slice (some ⟨gb, 0, none⟩) a.n a.n] ∧ Bx W xb 3 #[.int .i64 (x : Nat)]) → Below w.heap.size w W →
      Calls Tryz.prog 34 #[stV (a.n : Int) (bs a.set) (bs a.rel), stV (a.n : Int) (bs a.set) (bs a.rel), .func (.func 77) #[] #[.pointer (some ⟨nb, 0, none⟩), .pointer (some ⟨xb, 0, none⟩)]] W fun e w' => e = .returned (.tuple #[]) ∧ (w'.ownsRow w.heap.size 4 1 (.slice (some ⟨gb, 0, none⟩) a.n a.n) a.n (boolsV a.n R0) ∧ Bx w' nb 102 #[.slice (some ⟨gb, 0, none⟩) a.n a.n]) ∧ Below w.heap.size w w' := fun gb nb xb W h1 h2 h3 h4 h5 h6 =>
    (hes gb nb xb W h1 h2 h3 h4 ⟨h5, h6⟩).mono fun e w' ⟨g1, g2, g3⟩ => ⟨g1, ⟨by rw [hR0]; exact g2.1, g2.2.1⟩, g3⟩
  have hmk : ∀ V : World, w.heap.size ≤ V.heap.size → ∃ w1, (Instr.makeSlice 102 (.int .i64 (a.n : Int)) (.int .i64 (a.n : Int))).run Tryz.prog V = .ok (.slice (some ⟨V.heap.size, 0, none⟩) a.n a.n) w1 ∧ w1.ownsRow w.heap.size 4 1 (.slice (some ⟨V.heap.size, 0, none⟩) a.n a.n) a.n (boolsV a.n (inL x [])) ∧ V.grownBy w1 none := fun V hV => by
    obtain ⟨w1, h1, h2, h3⟩ := run_make_full (P := Tryz.prog) V w.heap.size 102 4 i1 (.bool false) 1 Tryz.underlying102 hj hy0 hy1 .i64 .i64 a.n (by rw [hy2]; omega) (by unfold maxLen; omega) hV
    refine ⟨w1, h1, ?_, h3⟩
    rw [show (Value.bool false).cells = #[.bool false] from rfl, Nat.mul_one, toList_madeCells_one] at h2
    rwa [show boolsV a.n (inL x []) = List.replicate a.n (.bool false) from by
      apply List.ext_getElem (by simp [boolsV])
      intro k h1 h2
      simp [boolsV, inL]]
  have Hes := Lib.hid hes2
  have Hmk := Lib.hid hmk
  clear hes hes2 hmk hR0 hRk hj hy0 hy1 hy2 hx
  show Calls Tryz.prog 48 #[stV (a.n : Int) (bs a.set) (bs a.rel), .int .i64 (x : Nat)] w _
  clear ha
  generalize a.n = n at *
  generalize bs a.set = S at *
  generalize bs a.rel = R at *
  obtain ⟨V, hV⟩ : ∃ V, V = (w.alloc (.cells #[.int .i64 n, .string S, .string R] 24)).alloc (.cells #[.int .i64 (x : Nat)] 3) := ⟨_, rfl⟩
  have hV2 : V.heap.size = w.heap.size + 2 := by rw [hV]; simp
  have xa : Bx V w.heap.size 24 #[.int .i64 n, .string S, .string R] := by rw [hV]; exact (Bx.new w _ _).alloc _
  have xx : Bx V (w.heap.size + 1) 3 #[.int .i64 (x : Nat)] := by rw [hV]; exact bx_two w _ _
  have hbV : Below w.heap.size w V := by rw [hV]; exact ((Below.refl _ _).alloc (Nat.le_refl _) _).alloc (by simp) _
  obtain ⟨w1, hrun, hown, hgr⟩ := Hmk.out V (by omega)
  have xa1 := xa.grown hgr (by simp)
  have xx1 := xx.grown hgr (by simp)
  have hb1 : Below w.heap.size w w1 := hbV.grown hgr (by omega) (by simp)
  obtain ⟨k0, k1, k2⟩ := box_load xa
  obtain ⟨l0, l1, l2⟩ := box_load (xa1.alloc (.cells #[.slice (some ⟨V.heap.size, 0, none⟩) n n] 102))
  have Xx := Lib.hid xx1
  have Hb1 := Lib.hid hb1
  have Hown := Lib.hid hown
  have HV := Lib.hid hV
  have HV2 := Lib.hid hV2
  have hw1 : V.heap.size < w1.heap.size := (hown.lt _ rfl).2
  have Hw1 := Lib.hid hw1
  clear xa xx hbV hgr xa1 xx1 hb1 hown hV2 hV hw1
  go_enter Tryz.func48, Tryz.ntmps48
  go_upto_region 1 with (fail)
  rw [← HV.out]
  go_wp2_with fail
  refine (Hes.out V.heap.size w1.heap.size (w.heap.size + 1) _ ?h1 ?h2 ?h3 ?h4 ?h5 ?h6).mono ?_
  case h1 => have := Hw1.out; simp; omega
  case h2 => simp
  case h3 => have := Hw1.out; have := HV2.out; simp; omega
  case h4 => have := HV2.out; omega
  case h5 => exact ⟨Hown.out.alloc _, Bx.new w1 _ _, Xx.out.alloc _⟩
  case h6 => exact Hb1.out.alloc Hb1.out.size _
  rintro e w3 ⟨rfl, ⟨ho3, hx3⟩, hz⟩
  have hg3 := (ho3.lt _ rfl).2
  have Hg3 := Lib.hid hg3
  have O3 := Lib.hid ho3
  have X3 := Lib.hid hx3
  have B3 := Lib.hid hz
  generalize V.heap.size = gb at *
  have o0 := (hx3.alloc (.cells #[] 3)).cell 0
  simp at o0
  have Hs3 := Lib.hid hz.size
  clear ho3 hx3 hz hg3 hrun k0 k1 k2 l0 l1 l2 Hown Xx Hb1 Hw1 HV HV2 Hmk Hes
  go_wp2_with fail
  clear o0
  go_loopg [6, 19] n (fun c o i wr => ∃ k : Nat, k + c = n ∧ i = .int .i64 k ∧ (wr.ownsRow w3.heap.size 3 1 o (rk R0 k).length (intsV (natsI (rk R0 k))) ∧ w3.heap.size ≤ wr.heap.size) ∧ wr.ownsRow w.heap.size 4 1 (.slice (some ⟨gb, 0, none⟩) n n) n (boolsV n R0) ∧ Below w.heap.size w wr)
  case atStart => exact ⟨0, by omega, rfl, ⟨own_zero w3, by simp⟩, O3.out.alloc _, B3.out.alloc B3.out.size _⟩
  case round =>
    obtain ⟨k, hk, rfl, ⟨ho, hs4⟩, hob, hbl⟩ := hrel
    have Ho := Lib.hid ho
    have Hob := Lib.hid hob
    have Hbl := Lib.hid hbl
    have Hs4 := Lib.hid hs4
    have hrl := rk_len R0 k
    by_cases hlt : k < n
    · have c0 := hob.cellAt k (by omega)
      rw [boolsV_get hlt] at c0
      have j1 : (0 : Int) ≤ (k : Int) := by omega
      have j2 : (k : Int) < (n : Int) := by omega
      clear ho hob hbl hs4
      cases hq : R0 k with
      | false =>
        have hsc : rk R0 (k + 1) = rk R0 k := by rw [rk_succ, hq]; rfl
        rw [hq] at c0
        have Hsc := Lib.hid hsc
        clear hsc hq
        go_wp2_with fail
        go_roundg (n - k - 1)
        case rel => exact ⟨k + 1, by omega, by go_num, ⟨by rw [Hsc.out]; exact Ho.out, Hs4.out⟩, Hob.out, Hbl.out⟩
        case measure => omega
      | true =>
        have hsc : rk R0 (k + 1) = rk R0 k ++ [k] := by rw [rk_succ, hq]; rfl
        rw [hq] at c0
        have Hsc := Lib.hid hsc
        clear hsc hq
        go_wp2_with (at_builtin; refine wpList_append_own_at _ rfl (.tmp 25) (.tmp 27) 31 rfl w3.heap.size 3 i0 (.int .i64 0) 1 8 Tryz.underlying31 hi hz0 hz1 hz2 rfl (by decide) _ (rk R0 k).length (intsV (natsI (rk R0 k))) rfl (Ho.out.alloc _) ⟨wr.heap.size, 0, none⟩ 1 1 [.int .i64 (k : Nat)] rfl rfl (cell_one_new _ _ _) (ints_oneCell .i64 [((k : Nat) : Int)]) (by unfold maxLen; omega) (by omega) (by have := Hs4.out; simp; omega) ?_; intro v2 w5 ho5 hg5 hn5 hat5; clear hn5 hat5)
        go_roundg (n - k - 1)
        case rel =>
          refine ⟨k + 1, by omega, by go_num, ⟨by rw [Hsc.out, show intsV (natsI (rk R0 k ++ [k])) = intsV (natsI (rk R0 k)) ++ [.int .i64 (k : Nat)] by simp [intsV, natsI], List.length_append, List.length_singleton]; exact ho5, ?_⟩, ?_, ?_⟩
          · have h1 := hg5.size
            have h2 := Hs4.out
            simp at h1
            omega
          · refine own_below (B := w3.heap.size) Hob.out (((Below.refl _ _).alloc Hs4.out _).grown hg5 (by have := Hs4.out; simp; omega) (fun j hj => (Ho.out.lt j hj).1)) Hg3.out
          · exact (Hbl.out.alloc Hbl.out.size _).grown hg5 (by have := Hbl.out.size; simp; omega) (fun j hj => by have h1 := (Ho.out.lt j hj).1; have h2 := Hs3.out; omega)
        case measure => omega
    · obtain rfl : k = n := by omega
      clear ho hob hbl hs4
      go_wp2_with fail
      go_ret
      exact ⟨⟨_, rfl, Ho.out.1, Ho.out.2.imp (fun h => h) fun ⟨g, c, cur, h1, h2, h3⟩ => ⟨g, c, cur, h1, by have := Hs3.out; omega, h3⟩⟩, Hbl.out⟩

/-- the orbit, or nothing -/
def orbV (i : Int) (s r : ByteArray) (x : Int) : List Nat := if okB i s r && elB i x then orbL (ofSt i s r).n (isos (ofSt i s r) (ofSt i s r)) x.toNat else []

set_option maxHeartbeats 1000000 in
theorem OrbitOf_impl (i : Int) (s r : ByteArray) (x : Int) (w : World) (hs : s.size ≤ maxLen) (hr : r.size ≤ maxLen) :
    Calls Tryz.prog 21 #[stV i s r, .int .i64 x] w fun e w' => (∃ v, e = .returned v ∧ w'.ownsRow w.heap.size 3 1 v (orbV i s r x).length (intsV (natsI (orbV i s r x)))) ∧ Below w.heap.size w w' := by
  have hc : ∀ W, Calls Tryz.prog 42 #[stV i s r, .int .i64 x] W fun e w' => e = .returned (.bool (okB i s r && elB i x)) ∧ Below W.heap.size W w' := fun W => hasElement_calls i s r x W hs hr
  cases hok : (okB i s r && elB i x) with
  | false =>
    have hv : orbV i s r x = [] := by unfold orbV; rw [hok]; rfl
    rw [hv]
    rw [hok] at hc
    have Hc := Lib.hid hc
    clear hc hs hr hok hv
    go_enter Tryz.func21, Tryz.ntmps21
    go_wp2_with fail
    refine (Hc.out _).mono ?_
    rintro e w1 ⟨rfl, hz⟩
    have HB := Lib.hid (box_next (box_refl w _) hz)
    clear hz
    go_wp2_with fail
    go_ret
    exact ⟨⟨_, rfl, rfl, .inl ⟨rfl, rfl⟩⟩, box_down HB.out⟩
  | true =>
    obtain ⟨h1, h2⟩ := Bool.and_eq_true_iff.1 hok
    rcases ok_cases i s r with h | ⟨a, ha, rfl, rfl, rfl⟩
    · rw [h] at h1; cases h1
    rcases el_cases a.n x with h | ⟨k, rfl, hk, _⟩
    · rw [h] at h2; cases h2
    have hv : orbV a.n (bs a.set) (bs a.rel) (k : Nat) = orbL a.n (isos a a) k := by unfold orbV; rw [hok, ofSt_eq]; rfl
    rw [hv]
    rw [hok] at hc
    have Hc := Lib.hid hc
    have ho := fun W => orbitOf_calls a ha k hk W
    have Hoo := Lib.hid ho
    generalize orbL a.n (isos a a) k = L at *
    clear hc hs hr hok hv ho h1 h2
    go_enter Tryz.func21, Tryz.ntmps21
    go_wp2_with fail
    refine (Hc.out _).mono ?_
    rintro e w1 ⟨rfl, hz⟩
    have HB := Lib.hid (box_next (box_refl w _) hz)
    clear hz
    obtain ⟨k0, k1, k2⟩ := box3 HB.out
    go_wp2_with fail
    refine (Hoo.out _).mono ?_
    rintro e w2 ⟨⟨v, rfl, hw⟩, hz⟩
    have HB2 := Lib.hid (box_next HB.out hz)
    have HW := Lib.hid (show w2.ownsRow w.heap.size 3 1 v L.length (intsV (natsI L)) from ⟨hw.1, hw.2.imp (fun h => h) fun ⟨g, c, cur, h1, h2, h3⟩ => ⟨g, c, cur, h1, by have := (box_down HB.out).size; omega, h3⟩⟩)
    clear hz hw k0 k1 k2
    go_wp2_with fail
    go_ret
    exact ⟨⟨v, rfl, HW.out⟩, box_down HB2.out⟩

end Go.Proofs.YtpaleogkgfclnaaGreatDoor

namespace Go.Proofs.YtpaleogkgfclnaaGreatDoor
open Go.RowKit
open Pl
set_option linter.unusedSimpArgs false
set_option linter.unusedVariables false
attribute [local go_sem ↓] Go.wp_at_zero Go.wp_at_succ

theorem bx_three (w : World) (o o2 : Obj) (cs : Array Value) {t : TypeId} : Bx (((w.alloc o).alloc o2).alloc (.cells cs t)) (w.heap.size + 2) t cs := by
  have h := Bx.new ((w.alloc o).alloc o2) t cs
  rwa [World.size_alloc, World.size_alloc] at h

end Go.Proofs.YtpaleogkgfclnaaGreatDoor

namespace Go.Proofs.YtpaleogkgfclnaaGreatDoor
open Go.RowKit
open Pl
set_option linter.unusedSimpArgs false
set_option linter.unusedVariables false
attribute [local go_sem ↓] Go.wp_at_zero Go.wp_at_succ

theorem own_ne {w : World} {base g n : Nat} {t e : TypeId} {cs : Array Value} {v : Value} {xs : List Value} (h : w.ownsRow base e 1 v n xs) (hb : Bx w g t cs) (hte : t ≠ e) : some g ≠ v.ownBlock := by
  obtain ⟨_, ⟨rfl, _⟩ | ⟨g', c', cur, rfl, _, hh, _⟩⟩ := h
  · simp [Value.ownBlock]
  · intro he
    have : g = g' := by simpa [Value.ownBlock] using he
    subst this
    unfold Bx at hb
    rw [hb] at hh
    injection hh with hh
    injection hh with _ hh _
    exact hte hh

theorem own_slice1 {W : World} {base : Nat} {v : Value} {o : List Nat} (h : W.ownsRow base 3 1 v o.length (intsV (natsI o))) : ∃ A cap, v = .slice A o.length cap := by
  obtain ⟨A, cap, h, _⟩ := own_open h
  exact ⟨A, cap, h⟩

/-- what lies in memory while the elements are gone through -/
structure OrbF (w : World) (bb : Nat) (ca cb : Array Value) (o : Value) (L : List Nat) (V : World) : Prop where
  fst : Bx V w.heap.size 24 ca
  snd : Bx V bb 24 cb
  out : V.ownsRow w.heap.size 3 1 o L.length (intsV (natsI L))
  bel : Below w.heap.size w V

theorem OrbF.call {w V V' : World} {bb : Nat} {ca cb : Array Value} {o : Value} {L : List Nat} (h : OrbF w bb ca cb o L V) (hz : Below V.heap.size V V') : OrbF w bb ca cb o L V' :=
  ⟨h.fst.call hz, h.snd.call hz, own_kp (B := 0) h.out (.of_below hz) (Nat.zero_le _), h.bel.trans (hz.mono h.bel.size)⟩
theorem OrbF.drew {w V : World} {bb : Nat} {ca cb : Array Value} {o : Value} {L : List Nat} (h : OrbF w bb ca cb o L V) : OrbF w bb ca cb o L V.drew := ⟨h.fst, h.snd, h.out, h.bel.drew⟩
theorem OrbF.put {w V V' : World} {bb : Nat} {ca cb : Array Value} {o o' : Value} {L : List Nat} {k : Nat} (h : OrbF w bb ca cb o L V)
    (ho : V'.ownsRow w.heap.size 3 1 o' (L.length + 1) (intsV (natsI L) ++ [.int .i64 (k : Nat)])) (hg : (V.alloc (.cells #[.int .i64 (k : Nat)] 3)).grownBy V' o.ownBlock) : OrbF w bb ca cb o' (L ++ [k]) V' := by
  refine ⟨(h.fst.alloc _).grown hg (own_ne h.out h.fst (by decide)), (h.snd.alloc _).grown hg (own_ne h.out h.snd (by decide)), ?_, (h.bel.alloc h.bel.size _).grown hg (by have := h.bel.size; simp; omega) (fun j hj => (h.out.lt j hj).1)⟩
  rw [show intsV (natsI (L ++ [k])) = intsV (natsI L) ++ [.int .i64 (k : Nat)] by simp [intsV, natsI], List.length_append, List.length_singleton]
  exact ho

/-- what lies in memory while the order is made -/
structure OrdF (w : World) (base : Nat) (ca : Array Value) (o : Value) (L : List Nat) (V : World) : Prop where
  fst : Bx V w.heap.size 24 ca
  snd : Bx V (w.heap.size + 1) 3 #[]
  out : V.ownsRow base 3 1 o L.length (intsV (natsI L))
  bel : Below w.heap.size w V
  sz : base ≤ V.heap.size

theorem OrdF.put {w V V' : World} {base : Nat} {ca : Array Value} {o o' : Value} {L : List Nat} {k : Nat} (h : OrdF w base ca o L V) (hb : w.heap.size + 2 ≤ base)
    (ho : V'.ownsRow base 3 1 o' (L.length + 1) (intsV (natsI L) ++ [.int .i64 (k : Nat)])) (hg : (V.alloc (.cells #[.int .i64 (k : Nat)] 3)).grownBy V' o.ownBlock) : OrdF w base ca o' (L ++ [k]) V' := by
  refine ⟨(h.fst.alloc _).grown hg (own_ne h.out h.fst (by decide)), (h.snd.alloc _).grown hg (fun e => by have := (h.out.lt _ e.symm).1; omega), ?_, (h.bel.alloc h.bel.size _).grown hg (by have := h.bel.size; simp; omega) (fun j hj => by have := (h.out.lt j hj).1; omega), ?_⟩
  · rw [show intsV (natsI (L ++ [k])) = intsV (natsI L) ++ [.int .i64 (k : Nat)] by simp [intsV, natsI], List.length_append, List.length_singleton]
    exact ho
  · have h1 := hg.size
    have h2 := h.sz
    simp at h1
    omega

theorem lrow_one (w : World) (y : Nat) : LRow (w.alloc (.cells #[.int .i64 (y : Nat)] 3)) (some ⟨w.heap.size, 0, none⟩) (natsI [y]) := fun _ => ⟨_, rfl, fun i hi => by
  simp [natsI] at hi
  subst hi
  have := (Bx.new w 3 #[.int .i64 (y : Nat)]).cell 0
  simp [natsI]⟩

theorem front_succ (n x : Nat) : frontL (n + 1) x = if n = x then frontL n x else frontL n x ++ [n] := by
  unfold frontL
  rw [List.range_succ, List.filter_append]
  by_cases h : n = x <;> simp [h]
theorem front_len (n x : Nat) : (frontL n x).length ≤ n + 1 := by
  unfold frontL
  have := List.length_filter_le (fun y => y != x) (List.range n)
  simp at this ⊢
  omega

end Go.Proofs.YtpaleogkgfclnaaGreatDoor

namespace Go.Proofs.YtpaleogkgfclnaaGreatDoor
open Go.RowKit
open Pl
set_option linter.unusedSimpArgs false
set_option linter.unusedVariables false

/-- the marks -/
def marksI (n : Nat) : List Int := (List.range n).map fun j : Nat => 1 + (j : Int)
theorem marks_len (n : Nat) : (marksI n).length = n := by simp [marksI]
theorem marks_get {n j : Nat} (h : j < n) : (marksI n).getD j 0 = 1 + (j : Int) := by simp [marksI, List.getD, h]

theorem own_form0 {w : World} {base n : Nat} {e : TypeId} {v : Value} {xs : List Value} (h : w.ownsRow base e 1 v n xs) (hn : 0 < n) : ∃ g cap, v = .slice (some ⟨g, 0, none⟩) n cap := by
  obtain ⟨_, ⟨_, h0⟩ | ⟨g, cap, _, hv, _⟩⟩ := h
  · omega
  · exact ⟨g, cap, hv⟩

end Go.Proofs.YtpaleogkgfclnaaGreatDoor

namespace Go.Proofs.YtpaleogkgfclnaaGreatDoor
open Go.RowKit
open Pl
set_option linter.unusedSimpArgs false
set_option linter.unusedVariables false

theorem orb_none (w : World) (c : Array Value) (V : World) (h : Below (w.heap.size + 2) ((w.alloc (.cells c 24)).alloc (.cells #[] 3)) V) :
    V.ownsRow w.heap.size 3 1 (.slice (some ⟨w.heap.size + 1, 0, none⟩) 0 0) 0 [] ∧ Below w.heap.size w V := by
  have hb : Bx V (w.heap.size + 1) 3 #[] := (bx_two w (.cells c 24) #[] (t := 3)).below h (by omega)
  exact ⟨⟨rfl, .inr ⟨_, 0, #[], rfl, by omega, hb, Nat.le_refl _, Nat.zero_le _, rfl, rfl⟩⟩, (((Below.refl w.heap.size w).alloc (Nat.le_refl _) _).alloc (by simp) _).trans (h.mono (by omega))⟩

theorem orbV_le (i : Int) (s r : ByteArray) (x : Int) : (orbV i s r x).length ≤ 8 := by
  unfold orbV
  split
  · rename_i h
    rcases ok_cases i s r with h1 | ⟨a, ha, rfl, rfl, rfl⟩
    · rw [h1] at h; cases h
    · have h8 := ha.hi
      rw [ofSt_eq]
      unfold orbL
      exact Nat.le_trans (List.length_filter_le _ _) (by simpa using h8)
  · simp

theorem own_slice2 {W : World} {base : Nat} {v : Value} {o : List Nat} (h : W.ownsRow base 3 1 v o.length (intsV (natsI o))) : ∃ A cap, v = .slice A o.length cap := by
  obtain ⟨A, cap, h, _⟩ := own_open h
  exact ⟨A, cap, h⟩

end Go.Proofs.YtpaleogkgfclnaaGreatDoor

namespace Go.Proofs.YtpaleogkgfclnaaGreatDoor
open Go.RowKit
open Pl
set_option linter.unusedSimpArgs false
set_option linter.unusedVariables false

/-- whether a list holds all numbers of another one -/
def goodB (zs : List Int) (R : List Nat) : Bool := R.all fun y => decide ((y : Int) ∈ zs)
/-- what IsDefinable answers -/
def defB (i : Int) (s r : ByteArray) (zs : List Int) : Bool := okB i s r && (elAll i zs && (nodB zs && zs.all fun z => goodB zs (orbV i s r z)))

theorem goodB_no {zs : List Int} {R : List Nat} {j : Nat} (hj : j < R.length) (h : ¬ (natsI R).getD j 0 ∈ zs) : goodB zs R = false := by
  refine Bool.eq_false_iff.2 fun hq => h ?_
  have hm := getD_mem (zs := natsI R) (by rw [natsI_len]; exact hj)
  unfold natsI at hm ⊢
  obtain ⟨y, hy, e⟩ := List.mem_map.1 hm
  rw [← e]
  exact of_decide_eq_true (List.all_eq_true.1 hq y hy)
theorem goodB_yes {zs : List Int} {R : List Nat} (h : ∀ j, j < R.length → (natsI R).getD j 0 ∈ zs) : goodB zs R = true := by
  refine List.all_eq_true.2 fun y hy => decide_eq_true ?_
  obtain ⟨j, hj, e⟩ := mem_getD (zs := natsI R) (List.mem_map.2 ⟨y, hy, rfl⟩)
  rw [natsI_len] at hj
  rw [← e]; exact h j hj
theorem defB_no {i : Int} {s r : ByteArray} {zs : List Int} {z : Int} (hz : z ∈ zs) (h : goodB zs (orbV i s r z) = false) : defB i s r zs = false := by
  refine Bool.eq_false_iff.2 fun hq => ?_
  unfold defB at hq
  simp only [Bool.and_eq_true] at hq
  have := List.all_eq_true.1 hq.2.2.2 z hz
  rw [h] at this; cases this
theorem defB_yes {i : Int} {s r : ByteArray} {zs : List Int} (h1 : okB i s r = true) (h2 : elAll i zs = true) (h3 : nodB zs = true) (h : ∀ j, j < zs.length → goodB zs (orbV i s r (zs.getD j 0)) = true) : defB i s r zs = true := by
  unfold defB
  rw [h1, h2, h3]
  refine List.all_eq_true.2 fun z hz => ?_
  obtain ⟨j, hj, e⟩ := mem_getD hz
  rw [← e]; exact h j hj

theorem orbitOf_any (i : Int) (s r : ByteArray) (z : Int) (hok : okB i s r = true) (hel : elB i z = true) (W : World) :
    Calls Tryz.prog 48 #[stV i s r, .int .i64 z] W fun e w' => (∃ C cap, e = .returned (.slice C (orbV i s r z).length cap) ∧ LRow w' C (natsI (orbV i s r z))) ∧ Below W.heap.size W w' := by
  rcases ok_cases i s r with h | ⟨a, ha, rfl, rfl, rfl⟩
  · rw [h] at hok; cases hok
  rcases el_cases a.n z with h | ⟨k, rfl, hk, _⟩
  · rw [h] at hel; cases hel
  have hv : orbV a.n (bs a.set) (bs a.rel) (k : Nat) = orbL a.n (isos a a) k := by unfold orbV; rw [hok, hel, ofSt_eq]; rfl
  rw [hv]
  exact (orbitOf_calls a ha k hk W).mono fun e w' ⟨⟨v, h1, h2⟩, h3⟩ => by
    obtain ⟨C, cap, rfl⟩ := own_slice2 h2
    exact ⟨⟨C, cap, h1, LRow_of h2⟩, h3⟩

end Go.Proofs.YtpaleogkgfclnaaGreatDoor

namespace Go.Proofs.YtpaleogkgfclnaaGreatDoor
open Go.RowKit
open Pl
set_option linter.unusedSimpArgs false
set_option linter.unusedVariables false

namespace Pl

/-- a list of elements is made of whole orbits -/
def defL (n : Nat) (G : List (List Nat)) (l : List Nat) : Bool := l.all fun x => (orbL n G x).all fun y => decide (y ∈ l)

theorem defL_iff {n : Nat} {G : List (List Nat)} {l : List Nat} : defL n G l = true ↔ ∀ x ∈ l, ∀ y ∈ orbL n G x, y ∈ l := by
  unfold defL
  simp only [List.all_eq_true, decide_eq_true_eq]

theorem orbL_nodup (n : Nat) (G : List (List Nat)) (x : Nat) : (orbL n G x).Nodup := List.nodup_range.filter _

theorem def_orbit {n : Nat} {G : List (List Nat)} (hG : Grp n G) {x : Nat} (hx : x < n) : defL n G (orbL n G x) = true :=
  defL_iff.2 fun y hy z hz => orb_sub hG hx hy hz

/-- the elements below k that are not in a list -/
def restTo (l : List Nat) (k : Nat) : List Nat := (List.range k).filter fun x => !decide (x ∈ l)
theorem restTo_succ (l : List Nat) (k : Nat) : restTo l (k + 1) = if k ∈ l then restTo l k else restTo l k ++ [k] := by
  unfold restTo
  rw [List.range_succ, List.filter_append]
  by_cases h : k ∈ l <;> simp [h]
theorem restTo_len (l : List Nat) (k : Nat) : (restTo l k).length ≤ k := by
  have := List.length_filter_le (fun x => !decide (x ∈ l)) (List.range k)
  simpa [restTo] using this
theorem restTo_nodup (l : List Nat) (k : Nat) : (restTo l k).Nodup := List.nodup_range.filter _
theorem mem_restTo {l : List Nat} {k x : Nat} : x ∈ restTo l k ↔ x < k ∧ x ∉ l := by
  unfold restTo
  rw [List.mem_filter, List.mem_range]
  simp
theorem def_rest {n : Nat} {G : List (List Nat)} (hG : Grp n G) {l : List Nat} (h : defL n G l = true) : defL n G (restTo l n) = true := by
  rw [defL_iff] at h ⊢
  intro x hx y hy
  obtain ⟨hxn, hxl⟩ := mem_restTo.1 hx
  exact mem_restTo.2 ⟨orb_lt hy, fun hyl => hxl (h y hyl x (orb_sym hG hxn hy))⟩

/-- a list with the first of another one that it lacks -/
def bothTo (l o : List Nat) : Nat → List Nat
  | 0 => l
  | k + 1 => if app o k ∈ bothTo l o k then bothTo l o k else bothTo l o k ++ [app o k]
theorem mem_bothTo {l o : List Nat} : ∀ {k : Nat}, k ≤ o.length → ∀ x, x ∈ bothTo l o k ↔ x ∈ l ∨ ∃ j, j < k ∧ app o j = x := by
  intro k
  induction k with
  | zero => intro _ x; simp [bothTo]
  | succ k ih =>
    intro hk x
    have ih := ih (by omega)
    unfold bothTo
    by_cases h : app o k ∈ bothTo l o k
    · rw [if_pos h, ih]
      constructor
      · rintro (h1 | ⟨j, hj, e⟩)
        · exact .inl h1
        · exact .inr ⟨j, by omega, e⟩
      · rintro (h1 | ⟨j, hj, e⟩)
        · exact .inl h1
        · by_cases hjk : j = k
          · subst hjk
            rw [e] at h
            exact (ih x).1 h
          · exact .inr ⟨j, by omega, e⟩
    · rw [if_neg h, List.mem_append, ih]
      constructor
      · rintro ((h1 | ⟨j, hj, e⟩) | h1)
        · exact .inl h1
        · exact .inr ⟨j, by omega, e⟩
        · simp at h1
          exact .inr ⟨k, by omega, h1.symm⟩
      · rintro (h1 | ⟨j, hj, e⟩)
        · exact .inl (.inl h1)
        · by_cases hjk : j = k
          · subst hjk
            exact .inr (by simp [e])
          · exact .inl (.inr ⟨j, by omega, e⟩)
theorem bothTo_nodup {l o : List Nat} (hl : l.Nodup) : ∀ k, (bothTo l o k).Nodup := by
  intro k
  induction k with
  | zero => exact hl
  | succ k ih =>
    unfold bothTo
    by_cases h : app o k ∈ bothTo l o k
    · rw [if_pos h]; exact ih
    · rw [if_neg h, List.nodup_append]
      exact ⟨ih, by simp, fun x hx y hy e => by simp at hy; subst hy; subst e; exact h hx⟩
theorem bothTo_len {l o : List Nat} : ∀ k, (bothTo l o k).length ≤ l.length + k := by
  intro k
  induction k with
  | zero => simp [bothTo]
  | succ k ih =>
    unfold bothTo
    split
    · omega
    · simp; omega
theorem mem_both {l o : List Nat} {x : Nat} : x ∈ bothTo l o o.length ↔ x ∈ l ∨ x ∈ o := by
  rw [mem_bothTo (Nat.le_refl _)]
  refine or_congr_right ⟨?_, ?_⟩
  · rintro ⟨j, hj, rfl⟩; exact app_mem hj
  · intro h; exact mem_app h
theorem def_both {n : Nat} {G : List (List Nat)} (hG : Grp n G) {l : List Nat} (h : defL n G l = true) {x : Nat} (hx : x < n) : defL n G (bothTo l (orbL n G x) (orbL n G x).length) = true := by
  rw [defL_iff] at h ⊢
  intro y hy z hz
  rcases mem_both.1 hy with h1 | h1
  · exact mem_both.2 (.inl (h y h1 z hz))
  · exact mem_both.2 (.inr (orb_sub hG hx h1 hz))

end Pl

theorem mem_natsI {ns : List Nat} {x : Nat} : (x : Int) ∈ natsI ns ↔ x ∈ ns := by
  unfold natsI
  rw [List.mem_map]
  constructor
  · rintro ⟨y, hy, e⟩
    have : y = x := by omega
    exact this ▸ hy
  · intro h; exact ⟨x, h, rfl⟩

theorem defB_nat {a : St} (ha : a.ok) {ns : List Nat} (hlt : ∀ x ∈ ns, x < a.n) (hnd : ns.Nodup) : defB a.n (bs a.set) (bs a.rel) (natsI ns) = defL a.n (isos a a) ns := by
  have h1 := okB_true ha
  have hel : ∀ x, x < a.n → elB (a.n : Int) (x : Nat) = true := fun x hx => by
    unfold elB
    rw [decide_eq_true (by omega), decide_eq_true (by omega)]; rfl
  have h2 : elAll (a.n : Int) (natsI ns) = true := List.all_eq_true.2 fun z hz => by
    obtain ⟨x, hx, rfl⟩ := List.mem_map.1 hz
    exact hel x (hlt x hx)
  have h3 : nodB (natsI ns) = true := decide_eq_true (map_nodup _ hnd fun x _ y _ e => by omega)
  unfold defB
  rw [h1, h2, h3, Bool.true_and, Bool.true_and, Bool.true_and, Bool.eq_iff_iff, defL_iff, List.all_eq_true]
  have ho : ∀ x, x < a.n → orbV a.n (bs a.set) (bs a.rel) (x : Nat) = orbL a.n (isos a a) x := fun x hx => by
    unfold orbV; rw [h1, hel x hx, ofSt_eq]; rfl
  constructor
  · intro h x hx y hy
    have := h (x : Int) (mem_natsI.2 hx)
    unfold goodB at this
    rw [ho x (hlt x hx)] at this
    exact mem_natsI.1 (of_decide_eq_true (List.all_eq_true.1 this y hy))
  · intro h z hz
    obtain ⟨x, hx, rfl⟩ := List.mem_map.1 hz
    unfold goodB
    rw [ho x (hlt x hx)]
    exact List.all_eq_true.2 fun y hy => decide_eq_true (mem_natsI.2 (h x hx y hy))

theorem defB_out {a : St} (ha : a.ok) {zs : List Int} (h : defB a.n (bs a.set) (bs a.rel) zs = true) : ∃ ns : List Nat, zs = natsI ns ∧ (∀ x ∈ ns, x < a.n) ∧ ns.Nodup ∧ defL a.n (isos a a) ns = true := by
  have h0 := h
  unfold defB at h
  simp only [Bool.and_eq_true] at h
  obtain ⟨ns, rfl, hlt, hnd, _, _⟩ := nats_of h.2.1 h.2.2.1
  exact ⟨ns, rfl, hlt, hnd, by rw [← defB_nat ha hlt hnd]; exact h0⟩

/-- the elements that are not in a list of numbers -/
def restZ (zs : List Int) (k : Nat) : List Nat := (List.range k).filter fun x => !decide ((x : Int) ∈ zs)
theorem restZ_succ (zs : List Int) (k : Nat) : restZ zs (k + 1) = if (k : Int) ∈ zs then restZ zs k else restZ zs k ++ [k] := by
  unfold restZ
  rw [List.range_succ, List.filter_append]
  by_cases h : (k : Int) ∈ zs <;> simp [h]
theorem restZ_len (zs : List Int) (k : Nat) : (restZ zs k).length ≤ k := by
  have := List.length_filter_le (fun x : Nat => !decide ((x : Int) ∈ zs)) (List.range k)
  simpa [restZ] using this
theorem restZ_nat (ns : List Nat) (k : Nat) : restZ (natsI ns) k = restTo ns k := by
  unfold restZ restTo
  apply List.filter_congr
  intro x _
  rw [decide_eq_decide.2 mem_natsI]

/-- a list of numbers with those of another one that it lacks -/
def bothZ (zs : List Int) (R : List Nat) : Nat → List Int
  | 0 => zs
  | k + 1 => if ((app R k : Nat) : Int) ∈ bothZ zs R k then bothZ zs R k else bothZ zs R k ++ [((app R k : Nat) : Int)]
theorem bothZ_succ (zs : List Int) (R : List Nat) (k : Nat) : bothZ zs R (k + 1) = if ((app R k : Nat) : Int) ∈ bothZ zs R k then bothZ zs R k else bothZ zs R k ++ [((app R k : Nat) : Int)] := rfl
theorem bothZ_len (zs : List Int) (R : List Nat) : ∀ k, (bothZ zs R k).length ≤ zs.length + k := by
  intro k
  induction k with
  | zero => simp [bothZ]
  | succ k ih =>
    rw [bothZ_succ]
    split
    · omega
    · simp; omega
theorem bothZ_nat (ns R : List Nat) : ∀ k, bothZ (natsI ns) R k = natsI (bothTo ns R k) := by
  intro k
  induction k with
  | zero => rfl
  | succ k ih =>
    rw [bothZ_succ, ih, show bothTo ns R (k + 1) = if app R k ∈ bothTo ns R k then bothTo ns R k else bothTo ns R k ++ [app R k] from rfl]
    by_cases h : app R k ∈ bothTo ns R k
    · rw [if_pos h, if_pos (mem_natsI.2 h)]
    · rw [if_neg h, if_neg (fun hq => h (mem_natsI.1 hq))]
      simp [natsI]

theorem orbV_nat {a : St} (ha : a.ok) {x : Nat} (hx : x < a.n) : orbV a.n (bs a.set) (bs a.rel) (x : Nat) = orbL a.n (isos a a) x := by
  unfold orbV
  rw [okB_true ha, show elB (a.n : Int) (x : Nat) = true by unfold elB; rw [decide_eq_true (by omega), decide_eq_true (by omega)]; rfl, ofSt_eq]
  rfl
theorem defB_orbit {a : St} (ha : a.ok) {x : Nat} (hx : x < a.n) : defB a.n (bs a.set) (bs a.rel) (natsI (orbV a.n (bs a.set) (bs a.rel) (x : Nat))) = true := by
  rw [orbV_nat ha hx, defB_nat ha (fun y hy => orb_lt hy) (orbL_nodup _ _ _)]
  exact def_orbit (aut_grp a) hx
theorem defB_rest {a : St} (ha : a.ok) {zs : List Int} (h : defB a.n (bs a.set) (bs a.rel) zs = true) : defB a.n (bs a.set) (bs a.rel) (natsI (restZ zs a.n)) = true := by
  obtain ⟨ns, rfl, hlt, hnd, hd⟩ := defB_out ha h
  rw [restZ_nat, defB_nat ha (fun y hy => (mem_restTo.1 hy).1) (restTo_nodup _ _)]
  exact def_rest (aut_grp a) hd
theorem defB_both {a : St} (ha : a.ok) {zs : List Int} (h : defB a.n (bs a.set) (bs a.rel) zs = true) {x : Nat} (hx : x < a.n) :
    defB a.n (bs a.set) (bs a.rel) (bothZ zs (orbV a.n (bs a.set) (bs a.rel) (x : Nat)) (orbV a.n (bs a.set) (bs a.rel) (x : Nat)).length) = true := by
  obtain ⟨ns, rfl, hlt, hnd, hd⟩ := defB_out ha h
  rw [orbV_nat ha hx, bothZ_nat, defB_nat ha (fun y hy => ?_) (bothTo_nodup hnd _)]
  · exact def_both (aut_grp a) hd hx
  · rcases mem_both.1 hy with h1 | h1
    · exact hlt y h1
    · exact orb_lt h1

end Go.Proofs.YtpaleogkgfclnaaGreatDoor

namespace Go.Proofs.YtpaleogkgfclnaaGreatDoor
open Go.RowKit
open Pl
set_option linter.unusedSimpArgs false
set_option linter.unusedVariables false

/-- a variable's name -/
def nmT (i : Nat) : ByteArray := bs [vb (vf i)]
theorem nm_size (i : Nat) : (nmT i).size = 1 := rfl
theorem nm_cut {i : Nat} (h : i < 4) : (⟨#[97, 98, 99, 100]⟩ : ByteArray).extract i (i + 1) = nmT i := by
  match i, h with
  | 0, _ => exact eq_bs (by rw [Lib.extract_data]; rfl)
  | 1, _ => exact eq_bs (by rw [Lib.extract_data]; rfl)
  | 2, _ => exact eq_bs (by rw [Lib.extract_data]; rfl)
  | 3, _ => exact eq_bs (by rw [Lib.extract_data]; rfl)
theorem nm_list (i : Nat) : (nmT i).data.toList = [vb (vf i)] := bs_data _
theorem pr_text (i : Nat) : (⟨#[80]⟩ : ByteArray) ++ nmT i = bs (Fm.pr (vf i)).text := eq_bs (by rw [ByteArray.data_append, Array.toList_append, nm_list]; rfl)
theorem rel_text (i j : Nat) : (⟨#[69]⟩ : ByteArray) ++ nmT i ++ nmT j = bs (Fm.rel (vf i) (vf j)).text := eq_bs (by rw [ByteArray.data_append, Array.toList_append, ByteArray.data_append, Array.toList_append, nm_list, nm_list]; rfl)
theorem eq_text (i j : Nat) : (⟨#[61]⟩ : ByteArray) ++ nmT i ++ nmT j = bs (Fm.eq (vf i) (vf j)).text := eq_bs (by rw [ByteArray.data_append, Array.toList_append, ByteArray.data_append, Array.toList_append, nm_list, nm_list]; rfl)
theorem qu_name (i : Nat) : (⟨#[83]⟩ : ByteArray) ++ nmT i = bs [83, vb (vf i)] := eq_bs (by rw [ByteArray.data_append, Array.toList_append, nm_list]; rfl)

set_option maxRecDepth 100000 in
theorem nameOf_calls (i : Nat) (hi : i < 4) (w : World) : Calls Tryz.prog 28 #[.int .i64 (i : Nat)] w fun e w' => e = .returned (.string (nmT i)) ∧ w = w' := by
  have hc := nm_cut hi
  have h2 : (i : Int) + 1 ≤ 4 := by omega
  go_enter Tryz.func28, Tryz.ntmps28
  go_wp2_with fail
  go_ret
  exact ⟨rfl, rfl⟩

set_option maxRecDepth 100000 in
theorem signed_calls (f : Fm) (b : Bool) (hl : f.text.length ≤ 3) (w : World) : Calls Tryz.prog 80 #[.string (bs f.text), .bool b] w fun e w' => e = .returned (.string (bs (sgn b f).text)) ∧ w = w' := by
  have hs : (bs f.text).size ≤ 3 := by rw [bs_size]; exact hl
  have h1 : (⟨#[33]⟩ : ByteArray) ++ bs f.text = bs (33 :: f.text) := eq_bs (by rw [ByteArray.data_append, Array.toList_append, bs_data]; rfl)
  have H1 := Lib.hid h1
  clear h1
  cases b
  · go_enter Tryz.func80, Tryz.ntmps80
    go_wp2_with fail
    go_ret
    exact ⟨congrArg (fun x => Ending.returned (.string x)) H1.out, rfl⟩
  · go_enter Tryz.func80, Tryz.ntmps80
    go_wp2_with fail
    go_ret
    exact ⟨rfl, rfl⟩

set_option maxRecDepth 100000 in
theorem l3Atom_calls (f : Fm) (b : Bool) (hl : f.text.length ≤ 3) (w : World) : Calls Tryz.prog 98 #[.bool b, .string (bs f.text)] w fun e w' => e = .returned (.string (bs (sgn b f).text)) ∧ w = w' := by
  have hs : (bs f.text).size ≤ 3 := by rw [bs_size]; exact hl
  have h1 : (⟨#[33]⟩ : ByteArray) ++ bs f.text = bs (33 :: f.text) := eq_bs (by rw [ByteArray.data_append, Array.toList_append, bs_data]; rfl)
  have H1 := Lib.hid h1
  clear h1
  cases b
  · go_enter Tryz.func98, Tryz.ntmps98
    go_wp2_with fail
    go_ret
    exact ⟨congrArg (fun x => Ending.returned (.string x)) H1.out, rfl⟩
  · go_enter Tryz.func98, Tryz.ntmps98
    go_wp2_with fail
    go_ret
    exact ⟨rfl, rfl⟩

theorem own_apart {w : World} {base g n : Nat} {t e : TypeId} {cs : Array Value} {v : Value} {xs : List Value} (h : w.ownsRow base e 1 v n xs) (hb : Bx w g t cs) (hte : t ≠ e) : some g ≠ v.ownBlock := by
  obtain ⟨_, ⟨rfl, _⟩ | ⟨g', c', cur, rfl, _, hh, _⟩⟩ := h
  · simp [Value.ownBlock]
  · intro he
    have : g = g' := by simpa [Value.ownBlock] using he
    subst this
    unfold Bx at hb
    rw [hb] at hh
    injection hh with hh
    injection hh with _ hh _
    exact hte hh
theorem bx_apart {w : World} {a b : Nat} {t u : TypeId} {cs ds : Array Value} (h : Bx w a t cs) (k : Bx w b u ds) (htu : t ≠ u) : a ≠ b := by
  intro e
  subst e
  unfold Bx at h k
  rw [h] at k
  injection k with k
  injection k with _ k _
  exact htu k

/-- what lies in memory while facts are told -/
structure Tl (w : World) (sb fb ib : Nat) (cs : Array Value) (v u : Value) (zs : List ByteArray) (bl : List Bool) (V : World) : Prop where
  st : Bx V sb 24 cs
  f : Bx V fb 80 #[v]
  fr : V.ownsRow w.heap.size 9 1 v zs.length (strsV zs)
  i : Bx V ib 102 #[u]
  ir : V.ownsRow w.heap.size 4 1 u bl.length (isV bl)
  bel : Below w.heap.size w V
  lf : w.heap.size ≤ fb
  li : w.heap.size ≤ ib

theorem Tl.call {w V V' : World} {sb fb ib : Nat} {cs : Array Value} {v u : Value} {zs : List ByteArray} {bl : List Bool} (h : Tl w sb fb ib cs v u zs bl V) (hb : Below V.heap.size V V') : Tl w sb fb ib cs v u zs bl V' :=
  ⟨h.st.call hb, h.f.call hb, own_call h.fr hb, h.i.call hb, own_call h.ir hb, h.bel.trans (hb.mono h.bel.size), h.lf, h.li⟩
theorem Tl.drew {w V : World} {sb fb ib : Nat} {cs : Array Value} {v u : Value} {zs : List ByteArray} {bl : List Bool} (h : Tl w sb fb ib cs v u zs bl V) : Tl w sb fb ib cs v u zs bl V.drew :=
  h.call (Below.refl _ _).drew
theorem Tl.str {w V W : World} {sb fb ib : Nat} {cs : Array Value} {v u v' : Value} {zs : List ByteArray} {bl : List Bool} {t : ByteArray} (h : Tl w sb fb ib cs v u zs bl V)
    (ho : W.ownsRow w.heap.size 9 1 v' (zs.length + 1) (strsV zs ++ [.string t])) (hg : (V.alloc (.cells #[.string t] 9)).grownBy W v.ownBlock) :
    Bx W fb 80 #[v] ∧ Tl w sb fb ib cs v' u (zs ++ [t]) bl (W.setCell ⟨fb, 0, none⟩ v') := by
  have hs : Bx W sb 24 cs := (h.st.alloc _).grown hg (own_apart h.fr h.st (by decide))
  have hf : Bx W fb 80 #[v] := (h.f.alloc _).grown hg (own_apart h.fr h.f (by decide))
  have hi : Bx W ib 102 #[u] := (h.i.alloc _).grown hg (own_apart h.fr h.i (by decide))
  have hir : W.ownsRow w.heap.size 4 1 u bl.length (isV bl) := own_others (h.ir.alloc _) hg (Apart.types h.ir h.fr (by decide))
  have hbl : Below w.heap.size w W := (h.bel.alloc h.bel.size _).grown hg (by have := h.bel.size; simp; omega) (fun j hj => (h.fr.lt j hj).1)
  refine ⟨hf, hs.far (p := ⟨fb, 0, none⟩) (bx_apart hs hf (by decide)) _, by simpa using hf.set 0 v', ?_, hi.far (p := ⟨fb, 0, none⟩) (bx_apart hi hf (by decide)) _, own_far hir (fun g hg e => own_apart hir hf (by decide) (by rw [hg, e])) _, hbl.setCell (p := ⟨fb, 0, none⟩) h.lf _, h.lf, h.li⟩
  rw [List.length_append, List.length_singleton, strsV_snoc]
  exact own_far ho (fun g hg e => own_apart ho hf (by decide) (by rw [hg, e])) _
theorem Tl.boo {w V W : World} {sb fb ib : Nat} {cs : Array Value} {v u u' : Value} {zs : List ByteArray} {bl : List Bool} {t : Bool} (h : Tl w sb fb ib cs v u zs bl V)
    (ho : W.ownsRow w.heap.size 4 1 u' (bl.length + 1) (isV bl ++ [.bool t])) (hg : (V.alloc (.cells #[.bool t] 4)).grownBy W u.ownBlock) :
    Bx W ib 102 #[u] ∧ Tl w sb fb ib cs v u' zs (bl ++ [t]) (W.setCell ⟨ib, 0, none⟩ u') := by
  have hs : Bx W sb 24 cs := (h.st.alloc _).grown hg (own_apart h.ir h.st (by decide))
  have hf : Bx W fb 80 #[v] := (h.f.alloc _).grown hg (own_apart h.ir h.f (by decide))
  have hi : Bx W ib 102 #[u] := (h.i.alloc _).grown hg (own_apart h.ir h.i (by decide))
  have hfr : W.ownsRow w.heap.size 9 1 v zs.length (strsV zs) := own_others (h.fr.alloc _) hg (Apart.types h.fr h.ir (by decide))
  have hbl : Below w.heap.size w W := (h.bel.alloc h.bel.size _).grown hg (by have := h.bel.size; simp; omega) (fun j hj => (h.ir.lt j hj).1)
  refine ⟨hi, hs.far (p := ⟨ib, 0, none⟩) (bx_apart hs hi (by decide)) _, hf.far (p := ⟨ib, 0, none⟩) (bx_apart hf hi (by decide)) _, own_far hfr (fun g hg e => own_apart hfr hi (by decide) (by rw [hg, e])) _, by simpa using hi.set 0 u', ?_, hbl.setCell (p := ⟨ib, 0, none⟩) h.li _, h.lf, h.li⟩
  rw [List.length_append, List.length_singleton, isV_snoc]
  exact own_far ho (fun g hg e => own_apart ho hi (by decide) (by rw [hg, e])) _

theorem enter_tell : ∀ (args : Array Value) (w : World), (callFunc 97 args).run Tryz.prog w = .ok (.enter 97 args) w := enter_of Tryz.func97 (by kernel_rfl) (by kernel_rfl)

set_option maxHeartbeats 4000000 in
set_option maxRecDepth 100000 in
theorem tell_calls (w : World) (sb fb ib : Nat) (cs : Array Value) (v u : Value) (zs : List ByteArray) (bl : List Bool) (t : ByteArray) (b : Bool) (V : World) (h : Tl w sb fb ib cs v u zs bl V) (hz : zs.length ≤ 100) (hb : bl.length ≤ 100) :
    Calls Tryz.prog 97 #[.string t, .bool b, .pointer (some ⟨fb, 0, none⟩), .pointer (some ⟨ib, 0, none⟩)] V fun e w' => e = .returned (.tuple #[]) ∧ ∃ v' u', Tl w sb fb ib cs v' u' (zs ++ [t]) (bl ++ [b]) w' := by
  obtain ⟨i0, hi, hz0, hz1, hz2⟩ := info_parts (P := Tryz.prog) (e := 9) (z := .string ⟨#[]⟩) (size := 1) (bytes := 16) (by kernel_rfl)
  obtain ⟨i1, hj, hy0, hy1, hy2⟩ := info_parts (P := Tryz.prog) (e := 4) (z := .bool false) (size := 1) (bytes := 1) (by kernel_rfl)
  have H0 := Lib.hid h
  have c0 := h.f.cell 0
  simp at c0
  clear h
  go_enter Tryz.func97, Tryz.ntmps97
  go_wp2_with (first | (at_builtin; refine wpList_append_own_at _ rfl (.tmp 6) (.tmp 8) 80 rfl w.heap.size 9 i0 (.string ⟨#[]⟩) 1 16 Tryz.underlying80 hi hz0 hz1 hz2 rfl (by decide) _ zs.length (strsV zs) rfl (H0.out.fr.alloc _) ⟨V.heap.size, 0, none⟩ 1 1 [.string t] rfl rfl (cell_one_new _ _ _) (one_str t) (by unfold maxLen; omega) (by omega) (by have := H0.out.bel.size; first | omega | (simp; omega)) ?_; intro v5 w5 ho5 hg5 hn5 hat5; clear hn5 hat5; obtain ⟨g5, cp5, rfl⟩ := own_form ho5; obtain ⟨hb5, ht5⟩ := H0.out.str ho5 hg5; have c1 := hb5.cell 0; have f1 := hb5.free 0; simp at c1; have H1 := Lib.hid ht5; have d0 := ht5.i.cell 0; simp at d0; clear ho5 hg5 hb5 ht5) | (at_builtin; refine wpList_append_own_at _ rfl (.tmp 10) (.tmp 12) 102 rfl w.heap.size 4 i1 (.bool false) 1 1 Tryz.underlying102 hj hy0 hy1 hy2 rfl (by decide) _ bl.length (isV bl) rfl (H1.out.ir.alloc _) ⟨w5.heap.size, 0, none⟩ 1 1 [.bool b] rfl rfl (by have := cell_one_new (w5.setCell ⟨fb, 0, none⟩ (.slice (some ⟨g5, 0, none⟩) (zs.length + 1) cp5)) (.bool b) 4; simpa using this) (one_bool b) (by unfold maxLen; omega) (by omega) (by have := H1.out.bel.size; first | omega | (simp at this ⊢; omega)) ?_; intro v6 w6 ho6 hg6 hn6 hat6; clear hn6 hat6; obtain ⟨g6, cp6, rfl⟩ := own_form ho6; obtain ⟨hb6, ht6⟩ := H1.out.boo ho6 hg6; have c2 := hb6.cell 0; have f2 := hb6.free 0; simp at c2; have H2 := Lib.hid ht6; clear ho6 hg6 hb6 ht6))
  exact bodyPost_end (results_none Tryz.results97 _ _ _) rfl ⟨rfl, _, _, H2.out⟩
end Go.Proofs.YtpaleogkgfclnaaGreatDoor

namespace Go.Proofs.YtpaleogkgfclnaaGreatDoor
open Go.RowKit
open Pl
set_option linter.unusedSimpArgs false
set_option linter.unusedVariables false
attribute [local go_sem ↓] Go.wp_at_zero Go.wp_at_succ

theorem shape_pos {w : World} {base n : Nat} {e : TypeId} {v : Value} {xs : List Value} (h : w.ownsRow base e 1 v n xs) (hn : 0 < n) : ∃ g cap, v = .slice (some ⟨g, 0, none⟩) n cap := by
  obtain ⟨_, ⟨_, h0⟩ | ⟨g, cap, _, hv, _⟩⟩ := h
  · omega
  · exact ⟨g, cap, hv⟩
theorem range_at {n k : Nat} (h : k < n) : (List.range n).getD k 0 = k := by
  rw [List.getD_eq_getElem?_getD, List.getElem?_range h]
  rfl
theorem range_cell {w : World} {g n k : Nat} (h : LRow w (some ⟨g, 0, none⟩) (natsI (List.range n))) (hk : k < n) : w.cell? ⟨g, k, none⟩ = some (.int .i64 (k : Nat)) := by
  obtain ⟨g', e, hc⟩ := LRow.nats h (k := k) (by simpa using hk)
  cases e
  rwa [range_at hk] at hc
theorem len_at (S : Nat → Bool) (R : Nat → Nat → Bool) {k j : Nat} (hk : k ≤ 4) (hj : j ≤ k) : (tellTo S R noQ k ++ tellIn S R noQ k j).length ≤ 60 := by
  rw [List.length_append, tellIn_len]
  have := tellTo_len S R noQ hk
  omega
/-- while facts are told: these and those -/
def TlF (w : World) (sb fb ib : Nat) (cs : Array Value) (L : List (Fm × Bool)) (V : World) : Prop := ∃ v u, Tl w sb fb ib cs v u (ftx L) (fis L) V

theorem TlF.call {w V V' : World} {sb fb ib : Nat} {cs : Array Value} {L : List (Fm × Bool)} (h : TlF w sb fb ib cs L V) (hb : Below V.heap.size V V') : TlF w sb fb ib cs L V' := by
  obtain ⟨v, u, h⟩ := h
  exact ⟨v, u, h.call hb⟩
theorem TlF.box {w V : World} {sb fb ib : Nat} {cs : Array Value} {L : List (Fm × Bool)} (h : TlF w sb fb ib cs L V) : Bx V sb 24 cs := by
  obtain ⟨v, u, h⟩ := h
  exact h.st
theorem TlF.bel {w V : World} {sb fb ib : Nat} {cs : Array Value} {L : List (Fm × Bool)} (h : TlF w sb fb ib cs L V) : Below w.heap.size w V := by
  obtain ⟨v, u, h⟩ := h
  exact h.bel
theorem tellF (w : World) (sb fb ib : Nat) (cs : Array Value) (L : List (Fm × Bool)) (f : Fm) (t : ByteArray) (b : Bool) (ht : t = bs f.text) (hL : L.length ≤ 100) (V : World) (h : TlF w sb fb ib cs L V) :
    Calls Tryz.prog 97 #[.string t, .bool b, .pointer (some ⟨fb, 0, none⟩), .pointer (some ⟨ib, 0, none⟩)] V fun e w' => e = .returned (.tuple #[]) ∧ TlF w sb fb ib cs (L ++ [(f, b)]) w' := by
  obtain ⟨v, u, h⟩ := h
  refine (tell_calls w sb fb ib cs v u (ftx L) (fis L) t b V h (by rw [ftx_len]; exact hL) (by rw [fis_len]; exact hL)).mono ?_
  rintro e w' ⟨h1, v', u', h2⟩
  refine ⟨h1, v', u', ?_⟩
  rw [ftx_snoc, fis_snoc, ← ht]
  exact h2
/-- what factsOf gives back -/
def FacP (B : Nat) (L : List (Fm × Bool)) (e : Ending) (w' : World) : Prop := ∃ g1 c1 g2 c2, e = .returned (.tuple #[.slice (some ⟨g1, 0, none⟩) L.length c1, .slice (some ⟨g2, 0, none⟩) L.length c2]) ∧
  w'.ownsRow B 9 1 (.slice (some ⟨g1, 0, none⟩) L.length c1) L.length (strsV (ftx L)) ∧ w'.ownsRow B 4 1 (.slice (some ⟨g2, 0, none⟩) L.length c2) L.length (isV (fis L))

theorem fac_start (w : World) (cs : Array Value) : TlF w w.heap.size (w.heap.size + 1 + 1 + 1) (w.heap.size + 1 + 1 + 1 + 1) cs [] (((((w.alloc (.cells cs 24)).alloc (.cells #[] 9)).alloc (.cells #[] 4)).alloc (.cells #[.slice (some ⟨w.heap.size + 1, 0, none⟩) 0 0] 80)).alloc (.cells #[.slice (some ⟨w.heap.size + 1 + 1, 0, none⟩) 0 0] 102)) := by
  refine ⟨.slice (some ⟨w.heap.size + 1, 0, none⟩) 0 0, .slice (some ⟨w.heap.size + 1 + 1, 0, none⟩) 0 0, ⟨((((Bx.new w 24 cs).alloc _).alloc _).alloc _).alloc _, ?_, ?_, ?_, ?_, ?_, by omega, by omega⟩⟩
  · have h := (Bx.new (((w.alloc (.cells cs 24)).alloc (.cells #[] 9)).alloc (.cells #[] 4)) 80 #[.slice (some ⟨w.heap.size + 1, 0, none⟩) 0 0]).alloc (.cells #[.slice (some ⟨w.heap.size + 1 + 1, 0, none⟩) 0 0] 102)
    simpa using h
  · have h := (((own_zeroO (w.alloc (.cells cs 24)) (t := 9)).alloc (.cells #[] 4)).alloc (.cells #[.slice (some ⟨w.heap.size + 1, 0, none⟩) 0 0] 80)).alloc (.cells #[.slice (some ⟨w.heap.size + 1 + 1, 0, none⟩) 0 0] 102)
    rw [World.size_alloc] at h
    exact own_base h (Nat.le_succ _)
  · have h := Bx.new ((((w.alloc (.cells cs 24)).alloc (.cells #[] 9)).alloc (.cells #[] 4)).alloc (.cells #[.slice (some ⟨w.heap.size + 1, 0, none⟩) 0 0] 80)) 102 #[.slice (some ⟨w.heap.size + 1 + 1, 0, none⟩) 0 0]
    simpa using h
  · have h := ((own_zeroO ((w.alloc (.cells cs 24)).alloc (.cells #[] 9)) (t := 4)).alloc (.cells #[.slice (some ⟨w.heap.size + 1, 0, none⟩) 0 0] 80)).alloc (.cells #[.slice (some ⟨w.heap.size + 1 + 1, 0, none⟩) 0 0] 102)
    rw [World.size_alloc, World.size_alloc] at h
    exact own_base h (by omega)
  · exact ((((((Below.refl w.heap.size w).alloc (Nat.le_refl _) _).alloc (by simp) _).alloc (by simp; omega) _).alloc (by simp; omega) _).alloc (by simp; omega) _)

set_option maxHeartbeats 16000000 in
set_option maxRecDepth 100000 in
theorem factsOf_calls (c : St) (hc : c.ok) (h4 : c.n ≤ 4) (g cap : Nat) (w : World) (hcap : c.n ≤ cap) (hA : LRow w (some ⟨g, 0, none⟩) (natsI (List.range c.n))) :
    Calls Tryz.prog 79 #[stV (c.n : Int) (bs c.set) (bs c.rel), .slice (some ⟨g, 0, none⟩) c.n cap] w fun e w' => FacP w.heap.size (tellTo c.inS c.inR noQ c.n) e w' ∧ Below w.heap.size w w' := by
  have hn1 := hc.lo
  have hin := fun (x : Nat) (W : World) (h : x < c.n) => inSet_calls c hc x h W
  have hre := fun (x y : Nat) (W : World) (h : x < c.n) (k : y < c.n) => inRel_calls c hc x y h k W
  have hte := fun (sb fb ib : Nat) (L : List (Fm × Bool)) (f : Fm) (t : ByteArray) (b : Bool) (V : World) (ht : t = bs f.text) (hL : L.length ≤ 60) (h : TlF w sb fb ib #[.int .i64 (c.n : Int), .string (bs c.set), .string (bs c.rel)] L V) => tellF w sb fb ib #[.int .i64 (c.n : Int), .string (bs c.set), .string (bs c.rel)] L f t b ht (by omega) V h
  have HIN := Lib.hid hin
  have HRE := Lib.hid hre
  have HTE := Lib.hid hte
  have HA := Lib.hid hA
  have enT := enter_tell
  clear hin hre hte hA
  go_enter Tryz.func79, Tryz.ntmps79
  go_upto_region 2 with (fail)
  have hst := fac_start w #[.int .i64 (c.n : Int), .string (bs c.set), .string (bs c.rel)]
  generalize ((((w.alloc (.cells #[.int .i64 (c.n : Int), .string (bs c.set), .string (bs c.rel)] 24)).alloc (.cells #[] 9)).alloc (.cells #[] 4)).alloc (.cells #[.slice (some ⟨w.heap.size + 1, 0, none⟩) 0 0] 80)).alloc (.cells #[.slice (some ⟨w.heap.size + 1 + 1, 0, none⟩) 0 0] 102) = V0 at *
  generalize hfb : w.heap.size + 1 + 1 + 1 = fb at *
  generalize hib : fb + 1 = ib at *
  have HST := Lib.hid hst
  obtain ⟨sb, hsb⟩ : ∃ sb, sb = w.heap.size := ⟨_, rfl⟩
  have Hsb := Lib.hid hsb
  clear hst hfb hib hsb
  go_wp2_with fail
  go_loopg [20] c.n (fun q xv wr => ∃ k : Nat, k + q = c.n ∧ xv = .int .i64 (k : Nat) ∧ TlF w w.heap.size fb ib #[.int .i64 (c.n : Int), .string (bs c.set), .string (bs c.rel)] (tellTo c.inS c.inR noQ k) wr)
  case atStart => exact ⟨0, by omega, rfl, HST.out⟩
  case round =>
    clear HST
    obtain ⟨k, hk, rfl, hxs⟩ := hrel
    have H0 := Lib.hid hxs
    clear hxs
    obtain ⟨wo, rfl⟩ : ∃ x, x = wr := ⟨wr, rfl⟩
    have hbx := H0.out.box
    obtain ⟨x0, x1, x2⟩ := box_load hbx
    have hAk := HA.out.call H0.out.bel
    clear hbx
    by_cases hlt : k < c.n
    · have hk4 : k < 4 := by omega
      have hck := range_cell hAk hlt
      have hs1 := nm_size k
      have hl0 := len_at c.inS c.inR (k := k) (j := 0) (by omega) (by omega)
      rw [tellIn_zero] at hl0
      have Hl0 := Lib.hid hl0
      clear hl0 hAk
      go_wp2_with fail
      refine (nameOf_calls k hk4 _).mono ?_
      rintro e w1 ⟨rfl, rfl⟩
      go_wp2_with fail
      refine (HIN.out k _ hlt).mono ?_
      rintro e w1 ⟨rfl, hz⟩
      have H1 := Lib.hid (H0.out.call hz)
      clear hz x0 x1 x2 hck
      obtain ⟨x0, x1, x2⟩ := box_load H1.out.box
      go_wp2_with fail
      refine (HTE.out _ fb ib _ (.pr (vf k)) _ _ _ (pr_text k) (by have := Hl0.out; simp at this; omega) H1.out).mono ?_
      rintro e w2 ⟨rfl, hz⟩
      have H2 := Lib.hid hz
      clear hz x0 x1 x2
      obtain ⟨x0, x1, x2⟩ := box_load H2.out.box
      go_wp2_with fail
      refine (HRE.out k k _ hlt hlt).mono ?_
      rintro e w3 ⟨rfl, hz⟩
      have H3 := Lib.hid (H2.out.call hz)
      clear hz x0 x1 x2
      obtain ⟨x0, x1, x2⟩ := box_load H3.out.box
      go_wp2_with fail
      refine (HTE.out _ fb ib _ (.rel (vf k) (vf k)) _ _ _ (rel_text k k) (by have := Hl0.out; simp at this ⊢; omega) H3.out).mono ?_
      rintro e w4 ⟨rfl, hz⟩
      have H4 := Lib.hid (show TlF w w.heap.size fb ib #[.int .i64 (c.n : Int), .string (bs c.set), .string (bs c.rel)] (tellTo c.inS c.inR noQ k ++ tellIn c.inS c.inR noQ k 0) w4 from by rw [tellIn_zero]; simpa using hz)
      clear hz x0 x1 x2
      go_wp2_with fail
      go_loopg [50] k (fun q xv wr => ∃ j : Nat, j + q = k ∧ xv = .int .i64 (j : Nat) ∧ TlF w w.heap.size fb ib #[.int .i64 (c.n : Int), .string (bs c.set), .string (bs c.rel)] (tellTo c.inS c.inR noQ k ++ tellIn c.inS c.inR noQ k j) wr)
      case atStart => exact ⟨0, by omega, rfl, H4.out⟩
      case round =>
        clear H0 H1 H2 H3 H4
        obtain ⟨j, hj, rfl, hxs⟩ := hrel
        have H0 := Lib.hid hxs
        clear hxs
        by_cases hlj : j < k
        · have hj4 : j < 4 := by omega
          have hjn : j < c.n := by omega
          obtain ⟨x0, x1, x2⟩ := box_load H0.out.box
          have hcj := range_cell (HA.out.call H0.out.bel) hjn
          have hs2 := nm_size j
          have hne : (((k : Nat) : Int) == ((j : Nat) : Int)) = false := by rw [beq_eq_false_iff_ne]; omega
          have hl1 := len_at c.inS c.inR (k := k) (j := j + 1) (by omega) (by omega)
          rw [tellIn_succ] at hl1
          have Hl1 := Lib.hid hl1
          clear hl1
          go_wp2_with fail
          refine (nameOf_calls j hj4 _).mono ?_
          rintro e w1 ⟨rfl, rfl⟩
          go_wp2_with fail
          refine (HTE.out _ fb ib _ (.eq (vf j) (vf k)) _ _ _ (eq_text j k) (by have := Hl1.out; simp [tell3] at this ⊢; omega) H0.out).mono ?_
          rintro e w1 ⟨rfl, hz⟩
          have H1 := Lib.hid hz
          clear hz x0 x1 x2 hcj
          obtain ⟨x0, x1, x2⟩ := box_load H1.out.box
          go_wp2_with fail
          refine (HRE.out j k _ hjn hlt).mono ?_
          rintro e w2 ⟨rfl, hz⟩
          have H2 := Lib.hid (H1.out.call hz)
          clear hz x0 x1 x2
          obtain ⟨x0, x1, x2⟩ := box_load H2.out.box
          go_wp2_with fail
          refine (HTE.out _ fb ib _ (.rel (vf j) (vf k)) _ _ _ (rel_text j k) (by have := Hl1.out; simp [tell3] at this ⊢; omega) H2.out).mono ?_
          rintro e w3 ⟨rfl, hz⟩
          have H3 := Lib.hid hz
          clear hz x0 x1 x2
          obtain ⟨x0, x1, x2⟩ := box_load H3.out.box
          go_wp2_with fail
          refine (HRE.out k j _ hlt hjn).mono ?_
          rintro e w4 ⟨rfl, hz⟩
          have H4 := Lib.hid (H3.out.call hz)
          clear hz x0 x1 x2
          obtain ⟨x0, x1, x2⟩ := box_load H4.out.box
          go_wp2_with fail
          refine (HTE.out _ fb ib _ (.rel (vf k) (vf j)) _ _ _ (rel_text k j) (by have := Hl1.out; simp [tell3] at this ⊢; omega) H4.out).mono ?_
          rintro e w5 ⟨rfl, hz⟩
          have H5 := Lib.hid hz
          clear hz x0 x1 x2
          go_wp2_with fail
          go_roundg (k - j - 1)
          case rel => exact ⟨j + 1, by omega, by go_num, by rw [tellIn_succ]; simpa [tell3, noQ] using H5.out⟩
          case measure => omega
        · obtain rfl : j = k := by omega
          have hgk : gk = 0 := by omega
          subst hgk
          clear hlj hj
          go_wp2_with fail
          go_roundg (c.n - j - 1)
          case rel => exact ⟨j + 1, by omega, by go_num, by rw [tellTo_succ]; exact H0.out⟩
          case measure => omega
    · obtain rfl : k = c.n := by omega
      have hgk : gk = 0 := by omega
      subst hgk
      obtain ⟨v, u, h⟩ := H0.out
      have hlz : (tellTo c.inS c.inR noQ c.n).length = (ftx (tellTo c.inS c.inR noQ c.n)).length := (ftx_len _).symm
      have hlz2 : (tellTo c.inS c.inR noQ c.n).length = (fis (tellTo c.inS c.inR noQ c.n)).length := (fis_len _).symm
      have hpos : 0 < (tellTo c.inS c.inR noQ c.n).length := by
        obtain ⟨m, hm⟩ : ∃ m, c.n = m + 1 := ⟨c.n - 1, by omega⟩
        rw [hm, tellTo_succ, List.length_append, tellIn_len]
        omega
      obtain ⟨g1, c1, rfl⟩ := shape_pos h.fr (by rw [← hlz]; exact hpos)
      obtain ⟨g2, c2, rfl⟩ := shape_pos h.ir (by rw [← hlz2]; exact hpos)
      have f0 := h.f.cell 0
      have f1 := h.i.cell 0
      simp at f0 f1
      rw [ftx_len] at f0
      rw [fis_len] at f1
      have hR1 := h.fr
      have hR2 := h.ir
      rw [ftx_len] at hR1
      rw [fis_len] at hR2
      have R1 := Lib.hid hR1
      have R2 := Lib.hid hR2
      have BB := Lib.hid h.bel
      clear h hR1 hR2 hlz hlz2 hpos hlt x0 x1 x2 hAk
      go_upto_region 22 with (fail)
      go_quiet (fail)
      go_wp2_with fail
      go_ret2
      exact ⟨⟨g1, c1, g2, c2, rfl, own_call R1.out (below_drewN (Below.refl _ _) _), own_call R2.out (below_drewN (Below.refl _ _) _)⟩, below_drewN BB.out _⟩

end Go.Proofs.YtpaleogkgfclnaaGreatDoor

namespace Go.Proofs.YtpaleogkgfclnaaGreatDoor
namespace R3
open Go.RowKit
set_option linter.unusedVariables false

/-- orders: an operation that is taken first, one that alone may come up, two that may -/
inductive Tr where
  | nil
  | take (i : Nat) (t : Tr)
  | one (i : Nat) (t : Tr)
  | two (i j : Nat) (t u : Tr)

section
variable {P : Program} {ops : Array Oper} {Q : Exit → Act → World → Prop} {md : Region.Mode} {S : World → Prop}

def okR (md : Region.Mode) (ops : Array Oper) : Tr → Nat → Array Bool → Bool
  | .nil, n, l => n == 0 && (Region.ready md ops l).isEmpty
  | .take i t, n, l => n != 0 && (Region.free md ops l i && ((Region.ready md ops l).contains i && okR md ops t (n - 1) (l.setIfInBounds i true)))
  | .one i t, n, l => n != 0 && ((Region.ready md ops l == [i]) && okR md ops t (n - 1) (l.setIfInBounds i true))
  | .two i j t u, n, l => n != 0 && ((Region.ready md ops l == [i, j]) && (okR md ops t (n - 1) (l.setIfInBounds i true) && okR md ops u (n - 1) (l.setIfInBounds j true)))

def wpR (P : Program) (ops : Array Oper) (Q : Exit → Act → World → Prop) (S : World → Prop) : Tr → Act → World → Prop
  | .nil, a, w => Q .normal a w
  | .take i t, a, w => ∃ o v, ops[i]? = some o ∧ YieldsIf P ops S o v a ∧ wpR P ops Q S t (a.put o.dst v) w
  | .one i t, a, w => wpOp P ops Q i (fun a' w' => S w' ∧ wpR P ops Q S t a' w') a w
  | .two i j t u, a, w => wpOp P ops Q i (fun a' w' => S w' ∧ wpR P ops Q S t a' w') a w ∧ wpOp P ops Q j (fun a' w' => S w' ∧ wpR P ops Q S u a' w') a w

theorem anyH_tree (hs : Region.noSelect ops = true) (hQ : ∀ t c a w, Q (.panic c) { a with tmps := t } w → Q (.panic c) a w) :
    ∀ (t : Tr) (n : Nat) (l : Array Bool) (a : Act) (w : World), okR md ops t n l = true → S w → wpR P ops Q S t a w → wpAnyH P md ops Q S n l a w := by
  intro t
  induction t with
  | nil =>
    intro n l a w h _ hw
    simp only [okR, Bool.and_eq_true, beq_iff_eq, List.isEmpty_iff] at h
    obtain ⟨rfl, h2⟩ := h
    exact ⟨h2, hw⟩
  | take i t ih =>
    intro n l a w h hS hw
    simp only [okR, Bool.and_eq_true, bne_iff_ne] at h
    obtain ⟨hn, h1, h2, h3⟩ := h
    obtain ⟨m, rfl⟩ : ∃ m, n = m + 1 := ⟨n - 1, by omega⟩
    obtain ⟨o, v, ho, hy, hr⟩ := hw
    exact wpAnyH_take ho hs h1 h2 (fun c a w h => by cases hd : o.dst with | none => rw [hd] at h; exact h | some d => rw [hd] at h; exact hQ _ c a w h) hy hS (ih _ _ _ _ h3 hS hr)
  | one i t ih =>
    intro n l a w h hS hw
    simp only [okR, Bool.and_eq_true, bne_iff_ne, beq_iff_eq] at h
    obtain ⟨hn, h1, h3⟩ := h
    obtain ⟨m, rfl⟩ : ∃ m, n = m + 1 := ⟨n - 1, by omega⟩
    refine wpAnyH_all h1 (by simp) fun j hj => ?_
    obtain rfl : j = i := by simpa using hj
    exact wpOp_mono (fun a' w' hk => ⟨hk.1, ih _ _ _ _ h3 hk.1 hk.2⟩) hw
  | two i j t u iht ihu =>
    intro n l a w h hS hw
    simp only [okR, Bool.and_eq_true, bne_iff_ne, beq_iff_eq] at h
    obtain ⟨hn, h1, h3, h4⟩ := h
    obtain ⟨m, rfl⟩ : ∃ m, n = m + 1 := ⟨n - 1, by omega⟩
    refine wpAnyH_all h1 (by simp) fun k hk => ?_
    have hk2 : k = i ∨ k = j := by simpa using hk
    rcases hk2 with rfl | rfl
    · exact wpOp_mono (fun a' w' hk => ⟨hk.1, iht _ _ _ _ h3 hk.1 hk.2⟩) hw.1
    · exact wpOp_mono (fun a' w' hk => ⟨hk.1, ihu _ _ _ _ h4 hk.1 hk.2⟩) hw.2

/-- the same, behind a name that nothing unfolds -/
structure Sd (P : Program) (ops : Array Oper) (Q : Exit → Act → World → Prop) (S : World → Prop) (t : Tr) (a : Act) (w : World) : Prop where
  out : wpR P ops Q S t a w

theorem region_tree {id : Nat} {a : Act} {w : World} (t : Tr) (S : World → Prop) (hm : P.follows .mixedOrders = true) (hs : Region.noSelect ops = true)
    (hk : okR .any ops t ops.size (Array.replicate ops.size false) = true) (hQ : ∀ t c a w, Q (.panic c) { a with tmps := t } w → Q (.panic c) a w) (hS : S w.drew)
    (h : ∀ Q' : Exit → Act → World → Prop, Hid (∀ a' w', Q .normal a' w' → Q' .normal a' w') → Sd P ops Q' S t a w.drew) : (Code.region id ops true).wp P Q a w :=
  wp_region_held (S := S) hm (anyH_tree (md := .any) (S := S) hs hQ t ops.size _ a w.drew hk hS (h Q (Lib.hid fun _ _ h => h)).out)

theorem tree_take {i : Nat} {t : Tr} {a : Act} {w : World} {o : Oper} {v : Value} {a' : Act} (ho : ops[i]? = some o) (hw : Region.wanted o (yielded ops a.tmps) = true) (hy : ∀ w, S w → (execOp a.eval o).run P w = .ok (.value v) w)
    {d : Tmp} (hd : o.dst = some d) (ha : a.put (some d) v = a') (h : Sd P ops Q S t a' w) : Sd P ops Q S (.take i t) a w := ⟨⟨o, v, ho, .inl ⟨hw, hy⟩, by rw [hd, ha]; exact h.out⟩⟩
theorem tree_one {i : Nat} {t : Tr} {a : Act} {w : World} {o : Oper} (ho : ops[i]? = some o) (hw : Region.wanted o (yielded ops a.tmps) = true)
    (h : ∀ K : Act → World → Prop, Hid (∀ a' w', S w' → Sd P ops Q S t a' w' → K a' w') → o.wp P a w K Q) : Sd P ops Q S (.one i t) a w := by
  refine ⟨?_⟩
  show wpOp P ops Q i _ a w
  unfold wpOp
  simp only [ho, hw, if_true]
  exact .inl (h _ (Lib.hid fun _ _ h1 h2 => ⟨h1, h2.out⟩))
theorem tree_two {i j : Nat} {t u : Tr} {a : Act} {w : World} (h1 : Sd P ops Q S (.one i t) a w) (h2 : Sd P ops Q S (.one j u) a w) : Sd P ops Q S (.two i j t u) a w := ⟨⟨h1.out, h2.out⟩⟩
theorem tree_lay {t : Tr} {a a' : Act} {w : World} (ha : a = a') (h : Sd P ops Q S t a' w) : Sd P ops Q S t a w := by rw [ha]; exact h
theorem tree_done {a : Act} {w : World} (h : Q .normal a w) : Sd P ops Q S .nil a w := ⟨h⟩

/-- an append, at an operation -/
theorem wp_app {o : Oper} {a : Act} {w : World} {K : Act → World → Prop} (s x : Operand) (t : TypeId)
    (ho : o.op = .call { callee := .builtin .append, args := #[s, x], argTypes := #[t, t] })
    (base : Nat) (e : TypeId) (i : TypeInfo) (z : Value) (size bytes : Nat) (ht : P.underlying t = some (.slice e)) (hi : P.info? e = some i) (hz : i.zero = some z)
    (hsize : i.size = size) (hby : i.bytes = bytes) (hzs : z.cells.size = size) (hsz : 0 < size)
    (v : Value) (n : Nat) (xs : List Value) (hs : a.eval s = v) (hown : w.ownsRow base e size v n xs)
    (ad : Addr) (m c : Nat) (news : List Value) (hx : a.eval x = .slice (some ad) m c) (hl : news.length = m * size) (hnews : ∀ j u, news[j]? = some u → w.cell? (ad.add j) = some u) (h1 : ∀ u ∈ news, u.oneCell' = true)
    (h63 : n + m ≤ maxLen) (hbytes : (n + m) * bytes ≤ 140737488355328) (hbase : base ≤ w.heap.size)
    (h : ∀ v' w', w'.ownsRow base e size v' (n + m) (xs ++ news) → w.grownBy w' v.ownBlock → K (a.put o.dst v') w') : o.wp P a w K Q := by
  obtain ⟨v', w', hr, h2, h3, _, _⟩ := run_append_own_at (P := P) w base t o.type e i z size bytes ht hi hz hsize hby hzs hsz v n xs hown ad m c news hl hnews h1 h63 hbytes hbase
  unfold Oper.wp execOp
  simp only [ho, resolve, invoke, builtin, Sem.run_bind, Sem.run_pure, Result.andThen_ok, List.map_toArray, List.map_cons, List.map_nil, hs, hx, hr]
  exact h v' w' h2 h3
end
end R3
end Go.Proofs.YtpaleogkgfclnaaGreatDoor
