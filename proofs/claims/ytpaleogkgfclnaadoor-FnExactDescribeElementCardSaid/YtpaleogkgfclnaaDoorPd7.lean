/-
  Laws of the functions that the claim reaches, one after the other (packed by a program of the prover's: Same, OrbI, SPart2, OrbS, Mark, WOrb, DefI, DefP, DesA, DesF, Reg2, DesG, DesI, Reg3). Conditions: texts below the reach.
-/
import Derived.Test.YtpaleogkgfclnaaDoorPd6
import Derived.Test.YtpaleogkgfclnaaDoorPd1
import Derived.StillTailTactics
import Derived.Deep.DrawnRows
import Derived.Test.YtpaleogkgfclnaaDoorPd3
import Derived.Test.YtpaleogkgfclnaaDoorPd5
import Derived.Deep.QuietTactic
import Derived.BigQuiet
import Derived.Test.YtpaleogkgfclnaaDoorPd2
import Derived.Maps.AppendAt
set_option linter.unusedSimpArgs false
set_option linter.unusedVariables false

namespace Go.Proofs.YtpaleogkgfclnaaDoor
open Go.RowKit
open Pl
set_option linter.unusedSimpArgs false
set_option linter.unusedVariables false

theorem own_form' {w : World} {base n : Nat} {e : TypeId} {v : Value} {xs : List Value} (h : w.ownsRow base e 1 v n xs) (hn : 0 < n) : ∃ g cap, v = .slice (some ⟨g, 0, none⟩) n cap := by
  obtain ⟨_, ⟨_, h0⟩ | ⟨g, cap, _, hv, _⟩⟩ := h
  · omega
  · exact ⟨g, cap, hv⟩

/-- what the closure leaves -/
def SameP (w : World) (nb : Nat) (l : List Nat) (w' : World) : Prop := (∃ v, Bx w' nb 30 #[v] ∧ w'.ownsRow w.heap.size 3 1 v l.length (intsV (natsI l))) ∧ Below nb w w' ∧ ∀ B, nb < B → B ≤ w.heap.size → Kp B w w'

/-- the orders that turn one structure into the other -/
def shpL (i : Int) (s r : ByteArray) (j : Int) (t u : ByteArray) : List (List Nat) := if okB i s r && (okB j t u && decide (i = j)) then isos (ofSt i s r) (ofSt j t u) else []

theorem shp_cases (i : Int) (s r : ByteArray) (j : Int) (t u : ByteArray) : (okB i s r = false ∧ shpL i s r j t u = []) ∨ (okB i s r = true ∧ okB j t u = false ∧ shpL i s r j t u = []) ∨ (okB i s r = true ∧ okB j t u = true ∧ i ≠ j ∧ shpL i s r j t u = []) ∨
    ∃ a b : St, a.ok ∧ b.ok ∧ a.n = b.n ∧ i = a.n ∧ s = bs a.set ∧ r = bs a.rel ∧ j = b.n ∧ t = bs b.set ∧ u = bs b.rel ∧ shpL i s r j t u = isos a b := by
  rcases ok_cases i s r with h1 | ⟨a, ha, rfl, rfl, rfl⟩
  · exact .inl ⟨h1, by unfold shpL; rw [h1]; rfl⟩
  · have h1 := okB_true ha
    rcases ok_cases j t u with h2 | ⟨b, hb, rfl, rfl, rfl⟩
    · exact .inr (.inl ⟨h1, h2, by unfold shpL; rw [h1, h2]; rfl⟩)
    · have h2 := okB_true hb
      by_cases hab : a.n = b.n
      · exact .inr (.inr (.inr ⟨a, b, ha, hb, hab, rfl, rfl, rfl, rfl, rfl, rfl, by unfold shpL; rw [h1, h2, decide_eq_true (by omega)]; rfl⟩))
      · exact .inr (.inr (.inl ⟨h1, h2, by omega, by unfold shpL; rw [h1, h2, decide_eq_false (by omega)]; rfl⟩))

/-- a fresh list, the first of some -/
def ImpL (w : World) (L : List (List Nat)) (e : Ending) (w' : World) : Prop := ∃ v, e = .returned (.tuple #[v, .bool (!L.isEmpty)]) ∧ w'.ownsRow w.heap.size 3 1 v (L.headD []).length (intsV (natsI (L.headD [])))

/-- what lies in the variable -/
def FoundJ (w : World) (nb : Nat) (L : List (List Nat)) (V : World) : Prop := (∃ v, Bx V nb 30 #[v] ∧ (L = [] → v = .slice none 0 0) ∧ (∀ l, L = [l] → 0 < l.length ∧ V.ownsRow w.heap.size 3 1 v l.length (intsV (natsI l)))) ∧ Below w.heap.size w V

end Go.Proofs.YtpaleogkgfclnaaDoor

namespace Go.Proofs.YtpaleogkgfclnaaDoor
open Go.RowKit
open Pl
set_option linter.unusedSimpArgs false
set_option linter.unusedVariables false
attribute [local go_sem ↓] Go.wp_at_zero Go.wp_at_succ

/-- the elements that some orders put in the place of x -/
def inL (x : Nat) (L : List (List Nat)) (y : Nat) : Bool := L.any fun l => app l x == y
def boolsV (n : Nat) (f : Nat → Bool) : List Value := (List.range n).map fun y => .bool (f y)
theorem boolsV_len (n : Nat) (f : Nat → Bool) : (boolsV n f).length = n := by simp [boolsV]
theorem boolsV_get {n : Nat} {f : Nat → Bool} {k : Nat} (h : k < n) : (boolsV n f)[k]? = some (.bool (f k)) := by simp [boolsV, h]
theorem boolsV_set (n x : Nat) (L : List (List Nat)) (l : List Nat) : (boolsV n (inL x L)).set (app l x) (.bool true) = boolsV n (inL x (L ++ [l])) := by
  apply List.ext_getElem?
  intro k
  by_cases hk : k < n
  · rw [boolsV_get hk]
    by_cases e : app l x = k
    · subst e
      rw [List.getElem?_set_self (by rw [boolsV_len]; exact hk)]
      simp [inL]
    · rw [List.getElem?_set_ne e, boolsV_get hk]
      simp [inL, e]
  · rw [List.getElem?_eq_none (by rw [List.length_set, boolsV_len]; omega), List.getElem?_eq_none (by rw [boolsV_len]; omega)]

theorem Kp.trans {B : Nat} {a b c : World} (h : Kp B a b) (k : Kp B b c) : Kp B a c := ⟨Nat.le_trans h.size k.size, fun j h1 h2 => (k.block j h1 (Nat.lt_of_lt_of_le h2 h.size)).trans (h.block j h1 h2)⟩
theorem own_below {W W' : World} {B base n g cap : Nat} {e : TypeId} {xs : List Value} (h : W.ownsRow base e 1 (.slice (some ⟨g, 0, none⟩) n cap) n xs) (hb : Below B W W') (hg : g < B) : W'.ownsRow base e 1 (.slice (some ⟨g, 0, none⟩) n cap) n xs := by
  obtain ⟨h1, ⟨h2, _⟩ | ⟨g', c', cur, hv, h3, h4, h5⟩⟩ := h
  · cases h2
  · have hv2 := hv
    injection hv2 with h6 _ _
    injection h6 with h6
    injection h6 with h6 _
    subst h6
    exact ⟨h1, .inr ⟨g, c', cur, hv, h3, (hb.block g hg).trans h4, h5⟩⟩

/-- what lies in memory while the orders are told -/
def OrbJ (w : World) (base gb nb xb n x : Nat) (L : List (List Nat)) (V : World) : Prop := (V.ownsRow base 4 1 (.slice (some ⟨gb, 0, none⟩) n n) n (boolsV n (inL x L)) ∧ Bx V nb 110 #[.slice (some ⟨gb, 0, none⟩) n n] ∧ Bx V xb 3 #[.int .i64 (x : Nat)]) ∧ Below w.heap.size w V

/-- the orbit, or nothing -/
def orbV (i : Int) (s r : ByteArray) (x : Int) : List Nat := if okB i s r && elB i x then orbL (ofSt i s r).n (isos (ofSt i s r) (ofSt i s r)) x.toNat else []

end Go.Proofs.YtpaleogkgfclnaaDoor

namespace Go.Proofs.YtpaleogkgfclnaaDoor
open Go.RowKit
open Pl
set_option linter.unusedSimpArgs false
set_option linter.unusedVariables false
attribute [local go_sem ↓] Go.wp_at_zero Go.wp_at_succ

theorem bx_three (w : World) (o o2 : Obj) (cs : Array Value) {t : TypeId} : Bx (((w.alloc o).alloc o2).alloc (.cells cs t)) (w.heap.size + 2) t cs := by
  have h := Bx.new ((w.alloc o).alloc o2) t cs
  rwa [World.size_alloc, World.size_alloc] at h

end Go.Proofs.YtpaleogkgfclnaaDoor

namespace Go.Proofs.YtpaleogkgfclnaaDoor
open Go.RowKit
open Pl
set_option linter.unusedSimpArgs false
set_option linter.unusedVariables false
attribute [local go_sem ↓] Go.wp_at_zero Go.wp_at_succ

theorem own_ne {w : World} {base g n : Nat} {t e : TypeId} {cs : Array Value} {v : Value} {xs : List Value} (h : w.ownsRow base e 1 v n xs) (hb : Bx w g t cs) (hte : t ≠ e) : some g ≠ v.ownBlock := by
  obtain ⟨_, ⟨rfl, _⟩ | ⟨g', c', cur, rfl, _, hh, _⟩⟩ := h
  · simp [Value.ownBlock]
  · intro he
    have : g = g' := by simpa [Value.ownBlock] using he
    subst this
    unfold Bx at hb
    rw [hb] at hh
    injection hh with hh
    injection hh with _ hh _
    exact hte hh

theorem own_slice1 {W : World} {base : Nat} {v : Value} {o : List Nat} (h : W.ownsRow base 3 1 v o.length (intsV (natsI o))) : ∃ A cap, v = .slice A o.length cap := by
  obtain ⟨A, cap, h, _⟩ := own_open h
  exact ⟨A, cap, h⟩

/-- what lies in memory while the elements are gone through -/
structure OrbF (w : World) (bb : Nat) (ca cb : Array Value) (o : Value) (L : List Nat) (V : World) : Prop where
  fst : Bx V w.heap.size 27 ca
  snd : Bx V bb 27 cb
  out : V.ownsRow w.heap.size 3 1 o L.length (intsV (natsI L))
  bel : Below w.heap.size w V

theorem OrbF.call {w V V' : World} {bb : Nat} {ca cb : Array Value} {o : Value} {L : List Nat} (h : OrbF w bb ca cb o L V) (hz : Below V.heap.size V V') : OrbF w bb ca cb o L V' :=
  ⟨h.fst.call hz, h.snd.call hz, own_kp (B := 0) h.out (.of_below hz) (Nat.zero_le _), h.bel.trans (hz.mono h.bel.size)⟩
theorem OrbF.drew {w V : World} {bb : Nat} {ca cb : Array Value} {o : Value} {L : List Nat} (h : OrbF w bb ca cb o L V) : OrbF w bb ca cb o L V.drew := ⟨h.fst, h.snd, h.out, h.bel.drew⟩
theorem OrbF.put {w V V' : World} {bb : Nat} {ca cb : Array Value} {o o' : Value} {L : List Nat} {k : Nat} (h : OrbF w bb ca cb o L V)
    (ho : V'.ownsRow w.heap.size 3 1 o' (L.length + 1) (intsV (natsI L) ++ [.int .i64 (k : Nat)])) (hg : (V.alloc (.cells #[.int .i64 (k : Nat)] 3)).grownBy V' o.ownBlock) : OrbF w bb ca cb o' (L ++ [k]) V' := by
  refine ⟨(h.fst.alloc _).grown hg (own_ne h.out h.fst (by decide)), (h.snd.alloc _).grown hg (own_ne h.out h.snd (by decide)), ?_, (h.bel.alloc h.bel.size _).grown hg (by have := h.bel.size; simp; omega) (fun j hj => (h.out.lt j hj).1)⟩
  rw [show intsV (natsI (L ++ [k])) = intsV (natsI L) ++ [.int .i64 (k : Nat)] by simp [intsV, natsI], List.length_append, List.length_singleton]
  exact ho

/-- what lies in memory while the order is made -/
structure OrdF (w : World) (base : Nat) (ca : Array Value) (o : Value) (L : List Nat) (V : World) : Prop where
  fst : Bx V w.heap.size 27 ca
  snd : Bx V (w.heap.size + 1) 3 #[]
  out : V.ownsRow base 3 1 o L.length (intsV (natsI L))
  bel : Below w.heap.size w V
  sz : base ≤ V.heap.size

theorem OrdF.put {w V V' : World} {base : Nat} {ca : Array Value} {o o' : Value} {L : List Nat} {k : Nat} (h : OrdF w base ca o L V) (hb : w.heap.size + 2 ≤ base)
    (ho : V'.ownsRow base 3 1 o' (L.length + 1) (intsV (natsI L) ++ [.int .i64 (k : Nat)])) (hg : (V.alloc (.cells #[.int .i64 (k : Nat)] 3)).grownBy V' o.ownBlock) : OrdF w base ca o' (L ++ [k]) V' := by
  refine ⟨(h.fst.alloc _).grown hg (own_ne h.out h.fst (by decide)), (h.snd.alloc _).grown hg (fun e => by have := (h.out.lt _ e.symm).1; omega), ?_, (h.bel.alloc h.bel.size _).grown hg (by have := h.bel.size; simp; omega) (fun j hj => by have := (h.out.lt j hj).1; omega), ?_⟩
  · rw [show intsV (natsI (L ++ [k])) = intsV (natsI L) ++ [.int .i64 (k : Nat)] by simp [intsV, natsI], List.length_append, List.length_singleton]
    exact ho
  · have h1 := hg.size
    have h2 := h.sz
    simp at h1
    omega

theorem lrow_one (w : World) (y : Nat) : LRow (w.alloc (.cells #[.int .i64 (y : Nat)] 3)) (some ⟨w.heap.size, 0, none⟩) (natsI [y]) := fun _ => ⟨_, rfl, fun i hi => by
  simp [natsI] at hi
  subst hi
  have := (Bx.new w 3 #[.int .i64 (y : Nat)]).cell 0
  simp [natsI]⟩

theorem front_succ (n x : Nat) : frontL (n + 1) x = if n = x then frontL n x else frontL n x ++ [n] := by
  unfold frontL
  rw [List.range_succ, List.filter_append]
  by_cases h : n = x <;> simp [h]
theorem front_len (n x : Nat) : (frontL n x).length ≤ n + 1 := by
  unfold frontL
  have := List.length_filter_le (fun y => y != x) (List.range n)
  simp at this ⊢
  omega

end Go.Proofs.YtpaleogkgfclnaaDoor

namespace Go.Proofs.YtpaleogkgfclnaaDoor
open Go.RowKit
open Pl
set_option linter.unusedSimpArgs false
set_option linter.unusedVariables false

/-- the marks -/
def marksI (n : Nat) : List Int := (List.range n).map fun j : Nat => 1 + (j : Int)
theorem marks_len (n : Nat) : (marksI n).length = n := by simp [marksI]
theorem marks_get {n j : Nat} (h : j < n) : (marksI n).getD j 0 = 1 + (j : Int) := by simp [marksI, List.getD, h]

theorem own_form0 {w : World} {base n : Nat} {e : TypeId} {v : Value} {xs : List Value} (h : w.ownsRow base e 1 v n xs) (hn : 0 < n) : ∃ g cap, v = .slice (some ⟨g, 0, none⟩) n cap := by
  obtain ⟨_, ⟨_, h0⟩ | ⟨g, cap, _, hv, _⟩⟩ := h
  · omega
  · exact ⟨g, cap, hv⟩

end Go.Proofs.YtpaleogkgfclnaaDoor

namespace Go.Proofs.YtpaleogkgfclnaaDoor
open Go.RowKit
open Pl
set_option linter.unusedSimpArgs false
set_option linter.unusedVariables false

theorem orb_none (w : World) (c : Array Value) (V : World) (h : Below (w.heap.size + 2) ((w.alloc (.cells c 27)).alloc (.cells #[] 3)) V) :
    V.ownsRow w.heap.size 3 1 (.slice (some ⟨w.heap.size + 1, 0, none⟩) 0 0) 0 [] ∧ Below w.heap.size w V := by
  have hb : Bx V (w.heap.size + 1) 3 #[] := (bx_two w (.cells c 27) #[] (t := 3)).below h (by omega)
  exact ⟨⟨rfl, .inr ⟨_, 0, #[], rfl, by omega, hb, Nat.le_refl _, Nat.zero_le _, rfl, rfl⟩⟩, (((Below.refl w.heap.size w).alloc (Nat.le_refl _) _).alloc (by simp) _).trans (h.mono (by omega))⟩

theorem orbV_le (i : Int) (s r : ByteArray) (x : Int) : (orbV i s r x).length ≤ 8 := by
  unfold orbV
  split
  · rename_i h
    rcases ok_cases i s r with h1 | ⟨a, ha, rfl, rfl, rfl⟩
    · rw [h1] at h; cases h
    · have h8 := ha.hi
      rw [ofSt_eq]
      unfold orbL
      exact Nat.le_trans (List.length_filter_le _ _) (by simpa using h8)
  · simp

theorem own_slice2 {W : World} {base : Nat} {v : Value} {o : List Nat} (h : W.ownsRow base 3 1 v o.length (intsV (natsI o))) : ∃ A cap, v = .slice A o.length cap := by
  obtain ⟨A, cap, h, _⟩ := own_open h
  exact ⟨A, cap, h⟩

end Go.Proofs.YtpaleogkgfclnaaDoor

namespace Go.Proofs.YtpaleogkgfclnaaDoor
open Go.RowKit
open Pl
set_option linter.unusedSimpArgs false
set_option linter.unusedVariables false

/-- whether a list holds all numbers of another one -/
def goodB (zs : List Int) (R : List Nat) : Bool := R.all fun y => decide ((y : Int) ∈ zs)
/-- what IsDefinable answers -/
def defB (i : Int) (s r : ByteArray) (zs : List Int) : Bool := okB i s r && (elAll i zs && (nodB zs && zs.all fun z => goodB zs (orbV i s r z)))

theorem goodB_no {zs : List Int} {R : List Nat} {j : Nat} (hj : j < R.length) (h : ¬ (natsI R).getD j 0 ∈ zs) : goodB zs R = false := by
  refine Bool.eq_false_iff.2 fun hq => h ?_
  have hm := getD_mem (zs := natsI R) (by rw [natsI_len]; exact hj)
  unfold natsI at hm ⊢
  obtain ⟨y, hy, e⟩ := List.mem_map.1 hm
  rw [← e]
  exact of_decide_eq_true (List.all_eq_true.1 hq y hy)
theorem goodB_yes {zs : List Int} {R : List Nat} (h : ∀ j, j < R.length → (natsI R).getD j 0 ∈ zs) : goodB zs R = true := by
  refine List.all_eq_true.2 fun y hy => decide_eq_true ?_
  obtain ⟨j, hj, e⟩ := mem_getD (zs := natsI R) (List.mem_map.2 ⟨y, hy, rfl⟩)
  rw [natsI_len] at hj
  rw [← e]; exact h j hj
theorem defB_no {i : Int} {s r : ByteArray} {zs : List Int} {z : Int} (hz : z ∈ zs) (h : goodB zs (orbV i s r z) = false) : defB i s r zs = false := by
  refine Bool.eq_false_iff.2 fun hq => ?_
  unfold defB at hq
  simp only [Bool.and_eq_true] at hq
  have := List.all_eq_true.1 hq.2.2.2 z hz
  rw [h] at this; cases this
theorem defB_yes {i : Int} {s r : ByteArray} {zs : List Int} (h1 : okB i s r = true) (h2 : elAll i zs = true) (h3 : nodB zs = true) (h : ∀ j, j < zs.length → goodB zs (orbV i s r (zs.getD j 0)) = true) : defB i s r zs = true := by
  unfold defB
  rw [h1, h2, h3]
  refine List.all_eq_true.2 fun z hz => ?_
  obtain ⟨j, hj, e⟩ := mem_getD hz
  rw [← e]; exact h j hj

end Go.Proofs.YtpaleogkgfclnaaDoor

namespace Go.Proofs.YtpaleogkgfclnaaDoor
open Go.RowKit
open Pl
set_option linter.unusedSimpArgs false
set_option linter.unusedVariables false

namespace Pl

/-- a list of elements is made of whole orbits -/
def defL (n : Nat) (G : List (List Nat)) (l : List Nat) : Bool := l.all fun x => (orbL n G x).all fun y => decide (y ∈ l)

theorem defL_iff {n : Nat} {G : List (List Nat)} {l : List Nat} : defL n G l = true ↔ ∀ x ∈ l, ∀ y ∈ orbL n G x, y ∈ l := by
  unfold defL
  simp only [List.all_eq_true, decide_eq_true_eq]

theorem orbL_nodup (n : Nat) (G : List (List Nat)) (x : Nat) : (orbL n G x).Nodup := List.nodup_range.filter _

theorem def_orbit {n : Nat} {G : List (List Nat)} (hG : Grp n G) {x : Nat} (hx : x < n) : defL n G (orbL n G x) = true :=
  defL_iff.2 fun y hy z hz => orb_sub hG hx hy hz

/-- the elements below k that are not in a list -/
def restTo (l : List Nat) (k : Nat) : List Nat := (List.range k).filter fun x => !decide (x ∈ l)
theorem restTo_succ (l : List Nat) (k : Nat) : restTo l (k + 1) = if k ∈ l then restTo l k else restTo l k ++ [k] := by
  unfold restTo
  rw [List.range_succ, List.filter_append]
  by_cases h : k ∈ l <;> simp [h]
theorem restTo_len (l : List Nat) (k : Nat) : (restTo l k).length ≤ k := by
  have := List.length_filter_le (fun x => !decide (x ∈ l)) (List.range k)
  simpa [restTo] using this
theorem restTo_nodup (l : List Nat) (k : Nat) : (restTo l k).Nodup := List.nodup_range.filter _
theorem mem_restTo {l : List Nat} {k x : Nat} : x ∈ restTo l k ↔ x < k ∧ x ∉ l := by
  unfold restTo
  rw [List.mem_filter, List.mem_range]
  simp
theorem def_rest {n : Nat} {G : List (List Nat)} (hG : Grp n G) {l : List Nat} (h : defL n G l = true) : defL n G (restTo l n) = true := by
  rw [defL_iff] at h ⊢
  intro x hx y hy
  obtain ⟨hxn, hxl⟩ := mem_restTo.1 hx
  exact mem_restTo.2 ⟨orb_lt hy, fun hyl => hxl (h y hyl x (orb_sym hG hxn hy))⟩

/-- a list with the first of another one that it lacks -/
def bothTo (l o : List Nat) : Nat → List Nat
  | 0 => l
  | k + 1 => if app o k ∈ bothTo l o k then bothTo l o k else bothTo l o k ++ [app o k]
theorem mem_bothTo {l o : List Nat} : ∀ {k : Nat}, k ≤ o.length → ∀ x, x ∈ bothTo l o k ↔ x ∈ l ∨ ∃ j, j < k ∧ app o j = x := by
  intro k
  induction k with
  | zero => intro _ x; simp [bothTo]
  | succ k ih =>
    intro hk x
    have ih := ih (by omega)
    unfold bothTo
    by_cases h : app o k ∈ bothTo l o k
    · rw [if_pos h, ih]
      constructor
      · rintro (h1 | ⟨j, hj, e⟩)
        · exact .inl h1
        · exact .inr ⟨j, by omega, e⟩
      · rintro (h1 | ⟨j, hj, e⟩)
        · exact .inl h1
        · by_cases hjk : j = k
          · subst hjk
            rw [e] at h
            exact (ih x).1 h
          · exact .inr ⟨j, by omega, e⟩
    · rw [if_neg h, List.mem_append, ih]
      constructor
      · rintro ((h1 | ⟨j, hj, e⟩) | h1)
        · exact .inl h1
        · exact .inr ⟨j, by omega, e⟩
        · simp at h1
          exact .inr ⟨k, by omega, h1.symm⟩
      · rintro (h1 | ⟨j, hj, e⟩)
        · exact .inl (.inl h1)
        · by_cases hjk : j = k
          · subst hjk
            exact .inr (by simp [e])
          · exact .inl (.inr ⟨j, by omega, e⟩)
theorem bothTo_nodup {l o : List Nat} (hl : l.Nodup) : ∀ k, (bothTo l o k).Nodup := by
  intro k
  induction k with
  | zero => exact hl
  | succ k ih =>
    unfold bothTo
    by_cases h : app o k ∈ bothTo l o k
    · rw [if_pos h]; exact ih
    · rw [if_neg h, List.nodup_append]
      exact ⟨ih, by simp, fun x hx y hy e => by simp at hy; subst hy; subst e; exact h hx⟩
theorem bothTo_len {l o : List Nat} : ∀ k, (bothTo l o k).length ≤ l.length + k := by
  intro k
  induction k with
  | zero => simp [bothTo]
  | succ k ih =>
    unfold bothTo
    split
    · omega
    · simp; omega
theorem mem_both {l o : List Nat} {x : Nat} : x ∈ bothTo l o o.length ↔ x ∈ l ∨ x ∈ o := by
  rw [mem_bothTo (Nat.le_refl _)]
  refine or_congr_right ⟨?_, ?_⟩
  · rintro ⟨j, hj, rfl⟩; exact app_mem hj
  · intro h; exact mem_app h
theorem def_both {n : Nat} {G : List (List Nat)} (hG : Grp n G) {l : List Nat} (h : defL n G l = true) {x : Nat} (hx : x < n) : defL n G (bothTo l (orbL n G x) (orbL n G x).length) = true := by
  rw [defL_iff] at h ⊢
  intro y hy z hz
  rcases mem_both.1 hy with h1 | h1
  · exact mem_both.2 (.inl (h y h1 z hz))
  · exact mem_both.2 (.inr (orb_sub hG hx h1 hz))

end Pl

theorem mem_natsI {ns : List Nat} {x : Nat} : (x : Int) ∈ natsI ns ↔ x ∈ ns := by
  unfold natsI
  rw [List.mem_map]
  constructor
  · rintro ⟨y, hy, e⟩
    have : y = x := by omega
    exact this ▸ hy
  · intro h; exact ⟨x, h, rfl⟩

theorem defB_nat {a : St} (ha : a.ok) {ns : List Nat} (hlt : ∀ x ∈ ns, x < a.n) (hnd : ns.Nodup) : defB a.n (bs a.set) (bs a.rel) (natsI ns) = defL a.n (isos a a) ns := by
  have h1 := okB_true ha
  have hel : ∀ x, x < a.n → elB (a.n : Int) (x : Nat) = true := fun x hx => by
    unfold elB
    rw [decide_eq_true (by omega), decide_eq_true (by omega)]; rfl
  have h2 : elAll (a.n : Int) (natsI ns) = true := List.all_eq_true.2 fun z hz => by
    obtain ⟨x, hx, rfl⟩ := List.mem_map.1 hz
    exact hel x (hlt x hx)
  have h3 : nodB (natsI ns) = true := decide_eq_true (map_nodup _ hnd fun x _ y _ e => by omega)
  unfold defB
  rw [h1, h2, h3, Bool.true_and, Bool.true_and, Bool.true_and, Bool.eq_iff_iff, defL_iff, List.all_eq_true]
  have ho : ∀ x, x < a.n → orbV a.n (bs a.set) (bs a.rel) (x : Nat) = orbL a.n (isos a a) x := fun x hx => by
    unfold orbV; rw [h1, hel x hx, ofSt_eq]; rfl
  constructor
  · intro h x hx y hy
    have := h (x : Int) (mem_natsI.2 hx)
    unfold goodB at this
    rw [ho x (hlt x hx)] at this
    exact mem_natsI.1 (of_decide_eq_true (List.all_eq_true.1 this y hy))
  · intro h z hz
    obtain ⟨x, hx, rfl⟩ := List.mem_map.1 hz
    unfold goodB
    rw [ho x (hlt x hx)]
    exact List.all_eq_true.2 fun y hy => decide_eq_true (mem_natsI.2 (h x hx y hy))

theorem defB_out {a : St} (ha : a.ok) {zs : List Int} (h : defB a.n (bs a.set) (bs a.rel) zs = true) : ∃ ns : List Nat, zs = natsI ns ∧ (∀ x ∈ ns, x < a.n) ∧ ns.Nodup ∧ defL a.n (isos a a) ns = true := by
  have h0 := h
  unfold defB at h
  simp only [Bool.and_eq_true] at h
  obtain ⟨ns, rfl, hlt, hnd, _, _⟩ := nats_of h.2.1 h.2.2.1
  exact ⟨ns, rfl, hlt, hnd, by rw [← defB_nat ha hlt hnd]; exact h0⟩

/-- the elements that are not in a list of numbers -/
def restZ (zs : List Int) (k : Nat) : List Nat := (List.range k).filter fun x => !decide ((x : Int) ∈ zs)
theorem restZ_succ (zs : List Int) (k : Nat) : restZ zs (k + 1) = if (k : Int) ∈ zs then restZ zs k else restZ zs k ++ [k] := by
  unfold restZ
  rw [List.range_succ, List.filter_append]
  by_cases h : (k : Int) ∈ zs <;> simp [h]
theorem restZ_len (zs : List Int) (k : Nat) : (restZ zs k).length ≤ k := by
  have := List.length_filter_le (fun x : Nat => !decide ((x : Int) ∈ zs)) (List.range k)
  simpa [restZ] using this
theorem restZ_nat (ns : List Nat) (k : Nat) : restZ (natsI ns) k = restTo ns k := by
  unfold restZ restTo
  apply List.filter_congr
  intro x _
  rw [decide_eq_decide.2 mem_natsI]

/-- a list of numbers with those of another one that it lacks -/
def bothZ (zs : List Int) (R : List Nat) : Nat → List Int
  | 0 => zs
  | k + 1 => if ((app R k : Nat) : Int) ∈ bothZ zs R k then bothZ zs R k else bothZ zs R k ++ [((app R k : Nat) : Int)]
theorem bothZ_succ (zs : List Int) (R : List Nat) (k : Nat) : bothZ zs R (k + 1) = if ((app R k : Nat) : Int) ∈ bothZ zs R k then bothZ zs R k else bothZ zs R k ++ [((app R k : Nat) : Int)] := rfl
theorem bothZ_len (zs : List Int) (R : List Nat) : ∀ k, (bothZ zs R k).length ≤ zs.length + k := by
  intro k
  induction k with
  | zero => simp [bothZ]
  | succ k ih =>
    rw [bothZ_succ]
    split
    · omega
    · simp; omega
theorem bothZ_nat (ns R : List Nat) : ∀ k, bothZ (natsI ns) R k = natsI (bothTo ns R k) := by
  intro k
  induction k with
  | zero => rfl
  | succ k ih =>
    rw [bothZ_succ, ih, show bothTo ns R (k + 1) = if app R k ∈ bothTo ns R k then bothTo ns R k else bothTo ns R k ++ [app R k] from rfl]
    by_cases h : app R k ∈ bothTo ns R k
    · rw [if_pos h, if_pos (mem_natsI.2 h)]
    · rw [if_neg h, if_neg (fun hq => h (mem_natsI.1 hq))]
      simp [natsI]

theorem orbV_nat {a : St} (ha : a.ok) {x : Nat} (hx : x < a.n) : orbV a.n (bs a.set) (bs a.rel) (x : Nat) = orbL a.n (isos a a) x := by
  unfold orbV
  rw [okB_true ha, show elB (a.n : Int) (x : Nat) = true by unfold elB; rw [decide_eq_true (by omega), decide_eq_true (by omega)]; rfl, ofSt_eq]
  rfl
theorem defB_orbit {a : St} (ha : a.ok) {x : Nat} (hx : x < a.n) : defB a.n (bs a.set) (bs a.rel) (natsI (orbV a.n (bs a.set) (bs a.rel) (x : Nat))) = true := by
  rw [orbV_nat ha hx, defB_nat ha (fun y hy => orb_lt hy) (orbL_nodup _ _ _)]
  exact def_orbit (aut_grp a) hx
theorem defB_rest {a : St} (ha : a.ok) {zs : List Int} (h : defB a.n (bs a.set) (bs a.rel) zs = true) : defB a.n (bs a.set) (bs a.rel) (natsI (restZ zs a.n)) = true := by
  obtain ⟨ns, rfl, hlt, hnd, hd⟩ := defB_out ha h
  rw [restZ_nat, defB_nat ha (fun y hy => (mem_restTo.1 hy).1) (restTo_nodup _ _)]
  exact def_rest (aut_grp a) hd
theorem defB_both {a : St} (ha : a.ok) {zs : List Int} (h : defB a.n (bs a.set) (bs a.rel) zs = true) {x : Nat} (hx : x < a.n) :
    defB a.n (bs a.set) (bs a.rel) (bothZ zs (orbV a.n (bs a.set) (bs a.rel) (x : Nat)) (orbV a.n (bs a.set) (bs a.rel) (x : Nat)).length) = true := by
  obtain ⟨ns, rfl, hlt, hnd, hd⟩ := defB_out ha h
  rw [orbV_nat ha hx, bothZ_nat, defB_nat ha (fun y hy => ?_) (bothTo_nodup hnd _)]
  · exact def_both (aut_grp a) hd hx
  · rcases mem_both.1 hy with h1 | h1
    · exact hlt y h1
    · exact orb_lt h1

end Go.Proofs.YtpaleogkgfclnaaDoor

namespace Go.Proofs.YtpaleogkgfclnaaDoor
open Go.RowKit
open Pl
set_option linter.unusedSimpArgs false
set_option linter.unusedVariables false

/-- a variable's name -/
def nmT (i : Nat) : ByteArray := bs [vb (vf i)]
theorem nm_size (i : Nat) : (nmT i).size = 1 := rfl
theorem nm_cut {i : Nat} (h : i < 4) : (⟨#[97, 98, 99, 100]⟩ : ByteArray).extract i (i + 1) = nmT i := by
  match i, h with
  | 0, _ => exact eq_bs (by rw [Lib.extract_data]; rfl)
  | 1, _ => exact eq_bs (by rw [Lib.extract_data]; rfl)
  | 2, _ => exact eq_bs (by rw [Lib.extract_data]; rfl)
  | 3, _ => exact eq_bs (by rw [Lib.extract_data]; rfl)
theorem nm_list (i : Nat) : (nmT i).data.toList = [vb (vf i)] := bs_data _
theorem pr_text (i : Nat) : (⟨#[80]⟩ : ByteArray) ++ nmT i = bs (Fm.pr (vf i)).text := eq_bs (by rw [ByteArray.data_append, Array.toList_append, nm_list]; rfl)
theorem rel_text (i j : Nat) : (⟨#[69]⟩ : ByteArray) ++ nmT i ++ nmT j = bs (Fm.rel (vf i) (vf j)).text := eq_bs (by rw [ByteArray.data_append, Array.toList_append, ByteArray.data_append, Array.toList_append, nm_list, nm_list]; rfl)
theorem eq_text (i j : Nat) : (⟨#[61]⟩ : ByteArray) ++ nmT i ++ nmT j = bs (Fm.eq (vf i) (vf j)).text := eq_bs (by rw [ByteArray.data_append, Array.toList_append, ByteArray.data_append, Array.toList_append, nm_list, nm_list]; rfl)
theorem qu_name (i : Nat) : (⟨#[83]⟩ : ByteArray) ++ nmT i = bs [83, vb (vf i)] := eq_bs (by rw [ByteArray.data_append, Array.toList_append, nm_list]; rfl)

set_option maxRecDepth 100000 in
theorem nameOf_calls (i : Nat) (hi : i < 4) (w : World) : Calls Tryd.prog 43 #[.int .i64 (i : Nat)] w fun e w' => e = .returned (.string (nmT i)) ∧ w = w' := by
  have hc := nm_cut hi
  have h2 : (i : Int) + 1 ≤ 4 := by omega
  go_enter Tryd.func43, Tryd.ntmps43
  go_wp2_with fail
  go_ret
  exact ⟨rfl, rfl⟩

set_option maxRecDepth 100000 in
theorem signed_calls (f : Fm) (b : Bool) (hl : f.text.length ≤ 3) (w : World) : Calls Tryd.prog 90 #[.string (bs f.text), .bool b] w fun e w' => e = .returned (.string (bs (sgn b f).text)) ∧ w = w' := by
  have hs : (bs f.text).size ≤ 3 := by rw [bs_size]; exact hl
  have h1 : (⟨#[33]⟩ : ByteArray) ++ bs f.text = bs (33 :: f.text) := eq_bs (by rw [ByteArray.data_append, Array.toList_append, bs_data]; rfl)
  have H1 := Lib.hid h1
  clear h1
  cases b
  · go_enter Tryd.func90, Tryd.ntmps90
    go_wp2_with fail
    go_ret
    exact ⟨congrArg (fun x => Ending.returned (.string x)) H1.out, rfl⟩
  · go_enter Tryd.func90, Tryd.ntmps90
    go_wp2_with fail
    go_ret
    exact ⟨rfl, rfl⟩

set_option maxRecDepth 100000 in
theorem l3Atom_calls (f : Fm) (b : Bool) (hl : f.text.length ≤ 3) (w : World) : Calls Tryd.prog 105 #[.bool b, .string (bs f.text)] w fun e w' => e = .returned (.string (bs (sgn b f).text)) ∧ w = w' := by
  have hs : (bs f.text).size ≤ 3 := by rw [bs_size]; exact hl
  have h1 : (⟨#[33]⟩ : ByteArray) ++ bs f.text = bs (33 :: f.text) := eq_bs (by rw [ByteArray.data_append, Array.toList_append, bs_data]; rfl)
  have H1 := Lib.hid h1
  clear h1
  cases b
  · go_enter Tryd.func105, Tryd.ntmps105
    go_wp2_with fail
    go_ret
    exact ⟨congrArg (fun x => Ending.returned (.string x)) H1.out, rfl⟩
  · go_enter Tryd.func105, Tryd.ntmps105
    go_wp2_with fail
    go_ret
    exact ⟨rfl, rfl⟩

theorem own_apart {w : World} {base g n : Nat} {t e : TypeId} {cs : Array Value} {v : Value} {xs : List Value} (h : w.ownsRow base e 1 v n xs) (hb : Bx w g t cs) (hte : t ≠ e) : some g ≠ v.ownBlock := by
  obtain ⟨_, ⟨rfl, _⟩ | ⟨g', c', cur, rfl, _, hh, _⟩⟩ := h
  · simp [Value.ownBlock]
  · intro he
    have : g = g' := by simpa [Value.ownBlock] using he
    subst this
    unfold Bx at hb
    rw [hb] at hh
    injection hh with hh
    injection hh with _ hh _
    exact hte hh
theorem bx_apart {w : World} {a b : Nat} {t u : TypeId} {cs ds : Array Value} (h : Bx w a t cs) (k : Bx w b u ds) (htu : t ≠ u) : a ≠ b := by
  intro e
  subst e
  unfold Bx at h k
  rw [h] at k
  injection k with k
  injection k with _ k _
  exact htu k

/-- what lies in memory while facts are told -/
structure Tl (w : World) (sb fb ib : Nat) (cs : Array Value) (v u : Value) (zs : List ByteArray) (bl : List Bool) (V : World) : Prop where
  st : Bx V sb 27 cs
  f : Bx V fb 50 #[v]
  fr : V.ownsRow w.heap.size 9 1 v zs.length (strsV zs)
  i : Bx V ib 110 #[u]
  ir : V.ownsRow w.heap.size 4 1 u bl.length (isV bl)
  bel : Below w.heap.size w V
  lf : w.heap.size ≤ fb
  li : w.heap.size ≤ ib

theorem Tl.call {w V V' : World} {sb fb ib : Nat} {cs : Array Value} {v u : Value} {zs : List ByteArray} {bl : List Bool} (h : Tl w sb fb ib cs v u zs bl V) (hb : Below V.heap.size V V') : Tl w sb fb ib cs v u zs bl V' :=
  ⟨h.st.call hb, h.f.call hb, own_call h.fr hb, h.i.call hb, own_call h.ir hb, h.bel.trans (hb.mono h.bel.size), h.lf, h.li⟩
theorem Tl.drew {w V : World} {sb fb ib : Nat} {cs : Array Value} {v u : Value} {zs : List ByteArray} {bl : List Bool} (h : Tl w sb fb ib cs v u zs bl V) : Tl w sb fb ib cs v u zs bl V.drew :=
  h.call (Below.refl _ _).drew
theorem Tl.str {w V W : World} {sb fb ib : Nat} {cs : Array Value} {v u v' : Value} {zs : List ByteArray} {bl : List Bool} {t : ByteArray} (h : Tl w sb fb ib cs v u zs bl V)
    (ho : W.ownsRow w.heap.size 9 1 v' (zs.length + 1) (strsV zs ++ [.string t])) (hg : (V.alloc (.cells #[.string t] 9)).grownBy W v.ownBlock) :
    Bx W fb 50 #[v] ∧ Tl w sb fb ib cs v' u (zs ++ [t]) bl (W.setCell ⟨fb, 0, none⟩ v') := by
  have hs : Bx W sb 27 cs := (h.st.alloc _).grown hg (own_apart h.fr h.st (by decide))
  have hf : Bx W fb 50 #[v] := (h.f.alloc _).grown hg (own_apart h.fr h.f (by decide))
  have hi : Bx W ib 110 #[u] := (h.i.alloc _).grown hg (own_apart h.fr h.i (by decide))
  have hir : W.ownsRow w.heap.size 4 1 u bl.length (isV bl) := own_others (h.ir.alloc _) hg (Apart.types h.ir h.fr (by decide))
  have hbl : Below w.heap.size w W := (h.bel.alloc h.bel.size _).grown hg (by have := h.bel.size; simp; omega) (fun j hj => (h.fr.lt j hj).1)
  refine ⟨hf, hs.far (p := ⟨fb, 0, none⟩) (bx_apart hs hf (by decide)) _, by simpa using hf.set 0 v', ?_, hi.far (p := ⟨fb, 0, none⟩) (bx_apart hi hf (by decide)) _, own_far hir (fun g hg e => own_apart hir hf (by decide) (by rw [hg, e])) _, hbl.setCell (p := ⟨fb, 0, none⟩) h.lf _, h.lf, h.li⟩
  rw [List.length_append, List.length_singleton, strsV_snoc]
  exact own_far ho (fun g hg e => own_apart ho hf (by decide) (by rw [hg, e])) _
theorem Tl.boo {w V W : World} {sb fb ib : Nat} {cs : Array Value} {v u u' : Value} {zs : List ByteArray} {bl : List Bool} {t : Bool} (h : Tl w sb fb ib cs v u zs bl V)
    (ho : W.ownsRow w.heap.size 4 1 u' (bl.length + 1) (isV bl ++ [.bool t])) (hg : (V.alloc (.cells #[.bool t] 4)).grownBy W u.ownBlock) :
    Bx W ib 110 #[u] ∧ Tl w sb fb ib cs v u' zs (bl ++ [t]) (W.setCell ⟨ib, 0, none⟩ u') := by
  have hs : Bx W sb 27 cs := (h.st.alloc _).grown hg (own_apart h.ir h.st (by decide))
  have hf : Bx W fb 50 #[v] := (h.f.alloc _).grown hg (own_apart h.ir h.f (by decide))
  have hi : Bx W ib 110 #[u] := (h.i.alloc _).grown hg (own_apart h.ir h.i (by decide))
  have hfr : W.ownsRow w.heap.size 9 1 v zs.length (strsV zs) := own_others (h.fr.alloc _) hg (Apart.types h.fr h.ir (by decide))
  have hbl : Below w.heap.size w W := (h.bel.alloc h.bel.size _).grown hg (by have := h.bel.size; simp; omega) (fun j hj => (h.ir.lt j hj).1)
  refine ⟨hi, hs.far (p := ⟨ib, 0, none⟩) (bx_apart hs hi (by decide)) _, hf.far (p := ⟨ib, 0, none⟩) (bx_apart hf hi (by decide)) _, own_far hfr (fun g hg e => own_apart hfr hi (by decide) (by rw [hg, e])) _, by simpa using hi.set 0 u', ?_, hbl.setCell (p := ⟨ib, 0, none⟩) h.li _, h.lf, h.li⟩
  rw [List.length_append, List.length_singleton, isV_snoc]
  exact own_far ho (fun g hg e => own_apart ho hi (by decide) (by rw [hg, e])) _

theorem enter_tell : ∀ (args : Array Value) (w : World), (callFunc 108 args).run Tryd.prog w = .ok (.enter 108 args) w := enter_of Tryd.func108 (by kernel_rfl) (by kernel_rfl)

set_option maxHeartbeats 4000000 in
set_option maxRecDepth 100000 in
theorem tell_calls (w : World) (sb fb ib : Nat) (cs : Array Value) (v u : Value) (zs : List ByteArray) (bl : List Bool) (t : ByteArray) (b : Bool) (V : World) (h : Tl w sb fb ib cs v u zs bl V) (hz : zs.length ≤ 100) (hb : bl.length ≤ 100) :
    Calls Tryd.prog 108 #[.string t, .bool b, .pointer (some ⟨fb, 0, none⟩), .pointer (some ⟨ib, 0, none⟩)] V fun e w' => e = .returned (.tuple #[]) ∧ ∃ v' u', Tl w sb fb ib cs v' u' (zs ++ [t]) (bl ++ [b]) w' := by
  obtain ⟨i0, hi, hz0, hz1, hz2⟩ := info_parts (P := Tryd.prog) (e := 9) (z := .string ⟨#[]⟩) (size := 1) (bytes := 16) (by kernel_rfl)
  obtain ⟨i1, hj, hy0, hy1, hy2⟩ := info_parts (P := Tryd.prog) (e := 4) (z := .bool false) (size := 1) (bytes := 1) (by kernel_rfl)
  have H0 := Lib.hid h
  have c0 := h.f.cell 0
  simp at c0
  clear h
  go_enter Tryd.func108, Tryd.ntmps108
  go_wp2_with (first | (at_builtin; refine wpList_append_own_at _ rfl (.tmp 6) (.tmp 8) 50 rfl w.heap.size 9 i0 (.string ⟨#[]⟩) 1 16 Tryd.underlying50 hi hz0 hz1 hz2 rfl (by decide) _ zs.length (strsV zs) rfl (H0.out.fr.alloc _) ⟨V.heap.size, 0, none⟩ 1 1 [.string t] rfl rfl (cell_one_new _ _ _) (one_str t) (by unfold maxLen; omega) (by omega) (by have := H0.out.bel.size; first | omega | (simp; omega)) ?_; intro v5 w5 ho5 hg5 hn5 hat5; clear hn5 hat5; obtain ⟨g5, cp5, rfl⟩ := own_form ho5; obtain ⟨hb5, ht5⟩ := H0.out.str ho5 hg5; have c1 := hb5.cell 0; have f1 := hb5.free 0; simp at c1; have H1 := Lib.hid ht5; have d0 := ht5.i.cell 0; simp at d0; clear ho5 hg5 hb5 ht5) | (at_builtin; refine wpList_append_own_at _ rfl (.tmp 10) (.tmp 12) 110 rfl w.heap.size 4 i1 (.bool false) 1 1 Tryd.underlying110 hj hy0 hy1 hy2 rfl (by decide) _ bl.length (isV bl) rfl (H1.out.ir.alloc _) ⟨w5.heap.size, 0, none⟩ 1 1 [.bool b] rfl rfl (by have := cell_one_new (w5.setCell ⟨fb, 0, none⟩ (.slice (some ⟨g5, 0, none⟩) (zs.length + 1) cp5)) (.bool b) 4; simpa using this) (one_bool b) (by unfold maxLen; omega) (by omega) (by have := H1.out.bel.size; first | omega | (simp at this ⊢; omega)) ?_; intro v6 w6 ho6 hg6 hn6 hat6; clear hn6 hat6; obtain ⟨g6, cp6, rfl⟩ := own_form ho6; obtain ⟨hb6, ht6⟩ := H1.out.boo ho6 hg6; have c2 := hb6.cell 0; have f2 := hb6.free 0; simp at c2; have H2 := Lib.hid ht6; clear ho6 hg6 hb6 ht6))
  exact bodyPost_end (results_none Tryd.results108 _ _ _) rfl ⟨rfl, _, _, H2.out⟩
end Go.Proofs.YtpaleogkgfclnaaDoor

namespace Go.Proofs.YtpaleogkgfclnaaDoor
open Go.RowKit
open Pl
set_option linter.unusedSimpArgs false
set_option linter.unusedVariables false
attribute [local go_sem ↓] Go.wp_at_zero Go.wp_at_succ

theorem shape_pos {w : World} {base n : Nat} {e : TypeId} {v : Value} {xs : List Value} (h : w.ownsRow base e 1 v n xs) (hn : 0 < n) : ∃ g cap, v = .slice (some ⟨g, 0, none⟩) n cap := by
  obtain ⟨_, ⟨_, h0⟩ | ⟨g, cap, _, hv, _⟩⟩ := h
  · omega
  · exact ⟨g, cap, hv⟩
theorem range_at {n k : Nat} (h : k < n) : (List.range n).getD k 0 = k := by
  rw [List.getD_eq_getElem?_getD, List.getElem?_range h]
  rfl
theorem range_cell {w : World} {g n k : Nat} (h : LRow w (some ⟨g, 0, none⟩) (natsI (List.range n))) (hk : k < n) : w.cell? ⟨g, k, none⟩ = some (.int .i64 (k : Nat)) := by
  obtain ⟨g', e, hc⟩ := LRow.nats h (k := k) (by simpa using hk)
  cases e
  rwa [range_at hk] at hc
theorem len_at (S : Nat → Bool) (R : Nat → Nat → Bool) {k j : Nat} (hk : k ≤ 4) (hj : j ≤ k) : (tellTo S R noQ k ++ tellIn S R noQ k j).length ≤ 60 := by
  rw [List.length_append, tellIn_len]
  have := tellTo_len S R noQ hk
  omega
/-- while facts are told: these and those -/
def TlF (w : World) (sb fb ib : Nat) (cs : Array Value) (L : List (Fm × Bool)) (V : World) : Prop := ∃ v u, Tl w sb fb ib cs v u (ftx L) (fis L) V

theorem TlF.call {w V V' : World} {sb fb ib : Nat} {cs : Array Value} {L : List (Fm × Bool)} (h : TlF w sb fb ib cs L V) (hb : Below V.heap.size V V') : TlF w sb fb ib cs L V' := by
  obtain ⟨v, u, h⟩ := h
  exact ⟨v, u, h.call hb⟩
theorem TlF.box {w V : World} {sb fb ib : Nat} {cs : Array Value} {L : List (Fm × Bool)} (h : TlF w sb fb ib cs L V) : Bx V sb 27 cs := by
  obtain ⟨v, u, h⟩ := h
  exact h.st
theorem TlF.bel {w V : World} {sb fb ib : Nat} {cs : Array Value} {L : List (Fm × Bool)} (h : TlF w sb fb ib cs L V) : Below w.heap.size w V := by
  obtain ⟨v, u, h⟩ := h
  exact h.bel
theorem tellF (w : World) (sb fb ib : Nat) (cs : Array Value) (L : List (Fm × Bool)) (f : Fm) (t : ByteArray) (b : Bool) (ht : t = bs f.text) (hL : L.length ≤ 100) (V : World) (h : TlF w sb fb ib cs L V) :
    Calls Tryd.prog 108 #[.string t, .bool b, .pointer (some ⟨fb, 0, none⟩), .pointer (some ⟨ib, 0, none⟩)] V fun e w' => e = .returned (.tuple #[]) ∧ TlF w sb fb ib cs (L ++ [(f, b)]) w' := by
  obtain ⟨v, u, h⟩ := h
  refine (tell_calls w sb fb ib cs v u (ftx L) (fis L) t b V h (by rw [ftx_len]; exact hL) (by rw [fis_len]; exact hL)).mono ?_
  rintro e w' ⟨h1, v', u', h2⟩
  refine ⟨h1, v', u', ?_⟩
  rw [ftx_snoc, fis_snoc, ← ht]
  exact h2
/-- what factsOf gives back -/
def FacP (B : Nat) (L : List (Fm × Bool)) (e : Ending) (w' : World) : Prop := ∃ g1 c1 g2 c2, e = .returned (.tuple #[.slice (some ⟨g1, 0, none⟩) L.length c1, .slice (some ⟨g2, 0, none⟩) L.length c2]) ∧
  w'.ownsRow B 9 1 (.slice (some ⟨g1, 0, none⟩) L.length c1) L.length (strsV (ftx L)) ∧ w'.ownsRow B 4 1 (.slice (some ⟨g2, 0, none⟩) L.length c2) L.length (isV (fis L))

theorem fac_start (w : World) (cs : Array Value) : TlF w w.heap.size (w.heap.size + 1 + 1 + 1) (w.heap.size + 1 + 1 + 1 + 1) cs [] (((((w.alloc (.cells cs 27)).alloc (.cells #[] 9)).alloc (.cells #[] 4)).alloc (.cells #[.slice (some ⟨w.heap.size + 1, 0, none⟩) 0 0] 50)).alloc (.cells #[.slice (some ⟨w.heap.size + 1 + 1, 0, none⟩) 0 0] 110)) := by
  refine ⟨.slice (some ⟨w.heap.size + 1, 0, none⟩) 0 0, .slice (some ⟨w.heap.size + 1 + 1, 0, none⟩) 0 0, ⟨((((Bx.new w 27 cs).alloc _).alloc _).alloc _).alloc _, ?_, ?_, ?_, ?_, ?_, by omega, by omega⟩⟩
  · have h := (Bx.new (((w.alloc (.cells cs 27)).alloc (.cells #[] 9)).alloc (.cells #[] 4)) 50 #[.slice (some ⟨w.heap.size + 1, 0, none⟩) 0 0]).alloc (.cells #[.slice (some ⟨w.heap.size + 1 + 1, 0, none⟩) 0 0] 110)
    simpa using h
  · have h := (((own_zeroO (w.alloc (.cells cs 27)) (t := 9)).alloc (.cells #[] 4)).alloc (.cells #[.slice (some ⟨w.heap.size + 1, 0, none⟩) 0 0] 50)).alloc (.cells #[.slice (some ⟨w.heap.size + 1 + 1, 0, none⟩) 0 0] 110)
    rw [World.size_alloc] at h
    exact own_base h (Nat.le_succ _)
  · have h := Bx.new ((((w.alloc (.cells cs 27)).alloc (.cells #[] 9)).alloc (.cells #[] 4)).alloc (.cells #[.slice (some ⟨w.heap.size + 1, 0, none⟩) 0 0] 50)) 110 #[.slice (some ⟨w.heap.size + 1 + 1, 0, none⟩) 0 0]
    simpa using h
  · have h := ((own_zeroO ((w.alloc (.cells cs 27)).alloc (.cells #[] 9)) (t := 4)).alloc (.cells #[.slice (some ⟨w.heap.size + 1, 0, none⟩) 0 0] 50)).alloc (.cells #[.slice (some ⟨w.heap.size + 1 + 1, 0, none⟩) 0 0] 110)
    rw [World.size_alloc, World.size_alloc] at h
    exact own_base h (by omega)
  · exact ((((((Below.refl w.heap.size w).alloc (Nat.le_refl _) _).alloc (by simp) _).alloc (by simp; omega) _).alloc (by simp; omega) _).alloc (by simp; omega) _)

set_option maxHeartbeats 16000000 in
set_option maxRecDepth 100000 in
theorem factsOf_calls (c : St) (hc : c.ok) (h4 : c.n ≤ 4) (g cap : Nat) (w : World) (hcap : c.n ≤ cap) (hA : LRow w (some ⟨g, 0, none⟩) (natsI (List.range c.n))) :
    Calls Tryd.prog 89 #[stV (c.n : Int) (bs c.set) (bs c.rel), .slice (some ⟨g, 0, none⟩) c.n cap] w fun e w' => FacP w.heap.size (tellTo c.inS c.inR noQ c.n) e w' ∧ Below w.heap.size w w' := by
  have hn1 := hc.lo
  have hin := fun (x : Nat) (W : World) (h : x < c.n) => inSet_calls c hc x h W
  have hre := fun (x y : Nat) (W : World) (h : x < c.n) (k : y < c.n) => inRel_calls c hc x y h k W
  have hte := fun (sb fb ib : Nat) (L : List (Fm × Bool)) (f : Fm) (t : ByteArray) (b : Bool) (V : World) (ht : t = bs f.text) (hL : L.length ≤ 60) (h : TlF w sb fb ib #[.int .i64 (c.n : Int), .string (bs c.set), .string (bs c.rel)] L V) => tellF w sb fb ib #[.int .i64 (c.n : Int), .string (bs c.set), .string (bs c.rel)] L f t b ht (by omega) V h
  have HIN := Lib.hid hin
  have HRE := Lib.hid hre
  have HTE := Lib.hid hte
  have HA := Lib.hid hA
  have enT := enter_tell
  clear hin hre hte hA
  go_enter Tryd.func89, Tryd.ntmps89
  go_upto_region 2 with (fail)
  have hst := fac_start w #[.int .i64 (c.n : Int), .string (bs c.set), .string (bs c.rel)]
  generalize ((((w.alloc (.cells #[.int .i64 (c.n : Int), .string (bs c.set), .string (bs c.rel)] 27)).alloc (.cells #[] 9)).alloc (.cells #[] 4)).alloc (.cells #[.slice (some ⟨w.heap.size + 1, 0, none⟩) 0 0] 50)).alloc (.cells #[.slice (some ⟨w.heap.size + 1 + 1, 0, none⟩) 0 0] 110) = V0 at *
  generalize hfb : w.heap.size + 1 + 1 + 1 = fb at *
  generalize hib : fb + 1 = ib at *
  have HST := Lib.hid hst
  obtain ⟨sb, hsb⟩ : ∃ sb, sb = w.heap.size := ⟨_, rfl⟩
  have Hsb := Lib.hid hsb
  clear hst hfb hib hsb
  go_wp2_with fail
  go_loopg [20] c.n (fun q xv wr => ∃ k : Nat, k + q = c.n ∧ xv = .int .i64 (k : Nat) ∧ TlF w w.heap.size fb ib #[.int .i64 (c.n : Int), .string (bs c.set), .string (bs c.rel)] (tellTo c.inS c.inR noQ k) wr)
  case atStart => exact ⟨0, by omega, rfl, HST.out⟩
  case round =>
    clear HST
    obtain ⟨k, hk, rfl, hxs⟩ := hrel
    have H0 := Lib.hid hxs
    clear hxs
    obtain ⟨wo, rfl⟩ : ∃ x, x = wr := ⟨wr, rfl⟩
    have hbx := H0.out.box
    obtain ⟨x0, x1, x2⟩ := box_load hbx
    have hAk := HA.out.call H0.out.bel
    clear hbx
    by_cases hlt : k < c.n
    · have hk4 : k < 4 := by omega
      have hck := range_cell hAk hlt
      have hs1 := nm_size k
      have hl0 := len_at c.inS c.inR (k := k) (j := 0) (by omega) (by omega)
      rw [tellIn_zero] at hl0
      have Hl0 := Lib.hid hl0
      clear hl0 hAk
      go_wp2_with fail
      refine (nameOf_calls k hk4 _).mono ?_
      rintro e w1 ⟨rfl, rfl⟩
      go_wp2_with fail
      refine (HIN.out k _ hlt).mono ?_
      rintro e w1 ⟨rfl, hz⟩
      have H1 := Lib.hid (H0.out.call hz)
      clear hz x0 x1 x2 hck
      obtain ⟨x0, x1, x2⟩ := box_load H1.out.box
      go_wp2_with fail
      refine (HTE.out _ fb ib _ (.pr (vf k)) _ _ _ (pr_text k) (by have := Hl0.out; simp at this; omega) H1.out).mono ?_
      rintro e w2 ⟨rfl, hz⟩
      have H2 := Lib.hid hz
      clear hz x0 x1 x2
      obtain ⟨x0, x1, x2⟩ := box_load H2.out.box
      go_wp2_with fail
      refine (HRE.out k k _ hlt hlt).mono ?_
      rintro e w3 ⟨rfl, hz⟩
      have H3 := Lib.hid (H2.out.call hz)
      clear hz x0 x1 x2
      obtain ⟨x0, x1, x2⟩ := box_load H3.out.box
      go_wp2_with fail
      refine (HTE.out _ fb ib _ (.rel (vf k) (vf k)) _ _ _ (rel_text k k) (by have := Hl0.out; simp at this ⊢; omega) H3.out).mono ?_
      rintro e w4 ⟨rfl, hz⟩
      have H4 := Lib.hid (show TlF w w.heap.size fb ib #[.int .i64 (c.n : Int), .string (bs c.set), .string (bs c.rel)] (tellTo c.inS c.inR noQ k ++ tellIn c.inS c.inR noQ k 0) w4 from by rw [tellIn_zero]; simpa using hz)
      clear hz x0 x1 x2
      go_wp2_with fail
      go_loopg [50] k (fun q xv wr => ∃ j : Nat, j + q = k ∧ xv = .int .i64 (j : Nat) ∧ TlF w w.heap.size fb ib #[.int .i64 (c.n : Int), .string (bs c.set), .string (bs c.rel)] (tellTo c.inS c.inR noQ k ++ tellIn c.inS c.inR noQ k j) wr)
      case atStart => exact ⟨0, by omega, rfl, H4.out⟩
      case round =>
        clear H0 H1 H2 H3 H4
        obtain ⟨j, hj, rfl, hxs⟩ := hrel
        have H0 := Lib.hid hxs
        clear hxs
        by_cases hlj : j < k
        · have hj4 : j < 4 := by omega
          have hjn : j < c.n := by omega
          obtain ⟨x0, x1, x2⟩ := box_load H0.out.box
          have hcj := range_cell (HA.out.call H0.out.bel) hjn
          have hs2 := nm_size j
          have hne : (((k : Nat) : Int) == ((j : Nat) : Int)) = false := by rw [beq_eq_false_iff_ne]; omega
          have hl1 := len_at c.inS c.inR (k := k) (j := j + 1) (by omega) (by omega)
          rw [tellIn_succ] at hl1
          have Hl1 := Lib.hid hl1
          clear hl1
          go_wp2_with fail
          refine (nameOf_calls j hj4 _).mono ?_
          rintro e w1 ⟨rfl, rfl⟩
          go_wp2_with fail
          refine (HTE.out _ fb ib _ (.eq (vf j) (vf k)) _ _ _ (eq_text j k) (by have := Hl1.out; simp [tell3] at this ⊢; omega) H0.out).mono ?_
          rintro e w1 ⟨rfl, hz⟩
          have H1 := Lib.hid hz
          clear hz x0 x1 x2 hcj
          obtain ⟨x0, x1, x2⟩ := box_load H1.out.box
          go_wp2_with fail
          refine (HRE.out j k _ hjn hlt).mono ?_
          rintro e w2 ⟨rfl, hz⟩
          have H2 := Lib.hid (H1.out.call hz)
          clear hz x0 x1 x2
          obtain ⟨x0, x1, x2⟩ := box_load H2.out.box
          go_wp2_with fail
          refine (HTE.out _ fb ib _ (.rel (vf j) (vf k)) _ _ _ (rel_text j k) (by have := Hl1.out; simp [tell3] at this ⊢; omega) H2.out).mono ?_
          rintro e w3 ⟨rfl, hz⟩
          have H3 := Lib.hid hz
          clear hz x0 x1 x2
          obtain ⟨x0, x1, x2⟩ := box_load H3.out.box
          go_wp2_with fail
          refine (HRE.out k j _ hlt hjn).mono ?_
          rintro e w4 ⟨rfl, hz⟩
          have H4 := Lib.hid (H3.out.call hz)
          clear hz x0 x1 x2
          obtain ⟨x0, x1, x2⟩ := box_load H4.out.box
          go_wp2_with fail
          refine (HTE.out _ fb ib _ (.rel (vf k) (vf j)) _ _ _ (rel_text k j) (by have := Hl1.out; simp [tell3] at this ⊢; omega) H4.out).mono ?_
          rintro e w5 ⟨rfl, hz⟩
          have H5 := Lib.hid hz
          clear hz x0 x1 x2
          go_wp2_with fail
          go_roundg (k - j - 1)
          case rel => exact ⟨j + 1, by omega, by go_num, by rw [tellIn_succ]; simpa [tell3, noQ] using H5.out⟩
          case measure => omega
        · obtain rfl : j = k := by omega
          have hgk : gk = 0 := by omega
          subst hgk
          clear hlj hj
          go_wp2_with fail
          go_roundg (c.n - j - 1)
          case rel => exact ⟨j + 1, by omega, by go_num, by rw [tellTo_succ]; exact H0.out⟩
          case measure => omega
    · obtain rfl : k = c.n := by omega
      have hgk : gk = 0 := by omega
      subst hgk
      obtain ⟨v, u, h⟩ := H0.out
      have hlz : (tellTo c.inS c.inR noQ c.n).length = (ftx (tellTo c.inS c.inR noQ c.n)).length := (ftx_len _).symm
      have hlz2 : (tellTo c.inS c.inR noQ c.n).length = (fis (tellTo c.inS c.inR noQ c.n)).length := (fis_len _).symm
      have hpos : 0 < (tellTo c.inS c.inR noQ c.n).length := by
        obtain ⟨m, hm⟩ : ∃ m, c.n = m + 1 := ⟨c.n - 1, by omega⟩
        rw [hm, tellTo_succ, List.length_append, tellIn_len]
        omega
      obtain ⟨g1, c1, rfl⟩ := shape_pos h.fr (by rw [← hlz]; exact hpos)
      obtain ⟨g2, c2, rfl⟩ := shape_pos h.ir (by rw [← hlz2]; exact hpos)
      have f0 := h.f.cell 0
      have f1 := h.i.cell 0
      simp at f0 f1
      rw [ftx_len] at f0
      rw [fis_len] at f1
      have hR1 := h.fr
      have hR2 := h.ir
      rw [ftx_len] at hR1
      rw [fis_len] at hR2
      have R1 := Lib.hid hR1
      have R2 := Lib.hid hR2
      have BB := Lib.hid h.bel
      clear h hR1 hR2 hlz hlz2 hpos hlt x0 x1 x2 hAk
      go_upto_region 22 with (fail)
      go_quiet (fail)
      go_wp2_with fail
      go_ret2
      exact ⟨⟨g1, c1, g2, c2, rfl, own_call R1.out (below_drewN (Below.refl _ _) _), own_call R2.out (below_drewN (Below.refl _ _) _)⟩, below_drewN BB.out _⟩

end Go.Proofs.YtpaleogkgfclnaaDoor

namespace Go.Proofs.YtpaleogkgfclnaaDoor
namespace R2
open Go.RowKit
set_option linter.unusedVariables false

section
variable {P : Program} {ops : Array Oper} {Q : Exit → Act → World → Prop} {md : Region.Mode} {S : World → Prop} {L : Nat}

/-- whatever order: what the loads ask holds behind each operation but number L -/
def AnyT (P : Program) (md : Region.Mode) (ops : Array Oper) (Q : Exit → Act → World → Prop) (S : World → Prop) (L : Nat) : Nat → Array Bool → Act → World → Prop
  | 0, listed, a, w => Region.ready md ops listed = [] ∧ Q .normal a w
  | n + 1, listed, a, w => (Region.ready md ops listed = [] → Q .normal a w) ∧
      ∀ i ∈ Region.ready md ops listed, wpOp P ops Q i (fun a' w' => (i ≠ L → S w') ∧ AnyT P md ops Q S L n (listed.setIfInBounds i true) a' w') a w

theorem AnyT.any : ∀ (n : Nat) (listed : Array Bool) (a : Act) (w : World), AnyT P md ops Q S L n listed a w → wpAny P md ops Q n listed a w := by
  intro n
  induction n with
  | zero => exact fun _ _ _ h => h
  | succ n ih =>
    intro listed a w h
    exact ⟨h.1, fun i hi => wpOp_mono (fun a' w' h' => ih _ a' w' h'.2) (h.2 i hi)⟩

/-- number L waits for number i -/
def waits (md : Region.Mode) (ops : Array Oper) (L i : Nat) : Bool := match ops[L]? with | some o => o.after.any fun e => Region.binds md e && e.on == i | none => false

theorem not_unlisted {listed : Array Bool} {i : Nat} (hiu : listed.getD i true = false) (h : listed.getD i false = true) : False := by
  rcases Nat.lt_or_ge i listed.size with h' | h'
  · simp [h'] at hiu h; rw [hiu] at h; cases h
  · simp [Array.getElem?_eq_none h'] at hiu

theorem waits_not {listed : Array Bool} {i : Nat} (hw : waits md ops L i = true) (hiu : listed.getD i true = false) : L ∉ Region.ready md ops listed := fun hr => by
  obtain ⟨_, o, ho, hall⟩ := mem_ready.1 hr
  unfold waits at hw
  rw [ho] at hw
  simp only [Array.any_eq_true', Bool.and_eq_true, beq_iff_eq] at hw
  obtain ⟨e, he, hb, rfl⟩ := hw
  exact not_unlisted hiu (by simpa using hall e he hb)

/-- an operation that yields under S, and for which number L waits, may be taken first -/
theorem AnyT.first {i : Nat} {oi : Oper} {v : Value} (hi : ops[i]? = some oi) (hwt : waits md ops L i = true) (hsel : ∀ (j : Nat) (o : Oper) cs b, ops[j]? = some o → o.op ≠ .select cs b)
    (hQ : ∀ c a w, Q (.panic c) (a.put oi.dst v) w → Q (.panic c) a w) : ∀ (n : Nat) (listed : Array Bool) (a : Act) (w : World),
      (∀ j oj, ops[j]? = some oj → j ≠ i → listed.getD j true = false → (∀ e ∈ oj.after, Region.binds md e = true → e.on ≠ i) → oi.apart ops oj = true) →
      i ∈ Region.ready md ops listed → YieldsIf P ops S oi v a → S w → AnyT P md ops Q S L n (listed.setIfInBounds i true) (a.put oi.dst v) w → AnyT P md ops Q S L (n + 1) listed a w := by
  intro n
  induction n with
  | zero =>
    intro listed a w _ hr hy hS H
    refine ⟨fun h => absurd hr (by simp [h]), fun j hj => ?_⟩
    by_cases hne : j = i
    · subst hne
      exact hy.wpOp hi hS ⟨fun _ => hS, H⟩
    · have h0 := ready_mono hj hne
      rw [H.1] at h0
      cases h0
  | succ n ih =>
    intro listed a w hfree hr hy hS H
    refine ⟨fun h => absurd hr (by simp [h]), fun j hj => ?_⟩
    by_cases hne : j = i
    · subst hne
      exact hy.wpOp hi hS ⟨fun _ => hS, H⟩
    · obtain ⟨hju, oj, hoj, hall⟩ := mem_ready.1 hj
      have hiu := (mem_ready.1 hr).1
      have hjL : j ≠ L := fun e => waits_not hwt hiu (e ▸ hj)
      have hno : ∀ e ∈ oj.after, Region.binds md e = true → e.on ≠ i := fun e he hb heq => not_unlisted hiu (by have := hall e he hb; rw [heq] at this; simpa using this)
      have h2 := wpOp_putIf hoj (hfree j oj hoj hne hju hno) (fun cs b => hsel i oi cs b hi) (fun cs b => hsel j oj cs b hoj) hQ hy (H.2 j (ready_mono hj hne))
      refine wpOp_mono (fun a' w' h3 => ⟨fun _ => h3.2.1 hjL, ih _ a' w' (fun k ok hk hki hun hnk => hfree k ok hk hki ?_ hnk) (ready_mono hr (Ne.symm hne)) h3.1 (h3.2.1 hjL) ?_⟩) h2
      · by_cases hjk : j = k
        · subst hjk; exact hju
        · rwa [getD_set_ne true hjk] at hun
      · rw [Array.setIfInBounds_comm _ _ hne]
        exact h3.2.2

/-- the order laid -/
def okT (md : Region.Mode) (ops : Array Oper) (L : Nat) : List (Nat × Bool) → Array Bool → Bool
  | [], listed => (Region.ready md ops listed).isEmpty
  | (i, true) :: is, listed => waits md ops L i && (Region.free md ops listed i && ((Region.ready md ops listed).contains i && okT md ops L is (listed.setIfInBounds i true)))
  | (i, false) :: is, listed => (Region.ready md ops listed == [i]) && ((is.isEmpty || i != L) && okT md ops L is (listed.setIfInBounds i true))

def wpT (P : Program) (ops : Array Oper) (Q : Exit → Act → World → Prop) (S : World → Prop) : List (Nat × Bool) → Act → World → Prop
  | [], a, w => Q .normal a w
  | (i, true) :: is, a, w => ∃ o v, ops[i]? = some o ∧ YieldsIf P ops S o v a ∧ wpT P ops Q S is (a.put o.dst v) w
  | (i, false) :: is, a, w => wpOp P ops Q i (fun a' w' => (is.isEmpty = true ∨ S w') ∧ wpT P ops Q S is a' w') a w

theorem anyT_of (hs : Region.noSelect ops = true) (hQ : ∀ t c a w, Q (.panic c) { a with tmps := t } w → Q (.panic c) a w) :
    ∀ (is : List (Nat × Bool)) (listed : Array Bool) (a : Act) (w : World), okT md ops L is listed = true → (is.isEmpty = true ∨ S w) → (∀ p ∈ is.getLast?, p = (L, false)) → wpT P ops Q S is a w → AnyT P md ops Q S L is.length listed a w := by
  intro is
  induction is with
  | nil => intro listed a w h _ _ hw; exact ⟨by simpa [okT] using h, hw⟩
  | cons p is ih =>
    obtain ⟨i, b⟩ := p
    intro listed a w h hS hl hw
    have hSw : S w := hS.resolve_left (by simp)
    have hl2 : ∀ p ∈ is.getLast?, p = (L, false) := fun p hp => hl p (by
      cases is with
      | nil => simp at hp
      | cons q t => simpa [List.getLast?_cons_cons] using hp)
    cases b with
    | true =>
      simp only [okT, Bool.and_eq_true] at h
      obtain ⟨o, v, ho, hy, hr⟩ := hw
      refine AnyT.first ho h.1 (Region.noSelect_spec hs) (fun c a w h => by cases hd : o.dst with | none => rw [hd] at h; exact h | some d => rw [hd] at h; exact hQ _ c a w h) _ _ _ _ (Region.free_spec ho h.2.1) (by simpa using h.2.2.1) hy hSw (ih _ _ _ h.2.2.2 (.inr hSw) hl2 hr)
    | false =>
      simp only [okT, Bool.and_eq_true, beq_iff_eq] at h
      obtain ⟨h1, h2, h3⟩ := h
      refine ⟨fun h0 => absurd (h1 ▸ h0) (by simp), fun j hj => ?_⟩
      obtain rfl : j = i := by rw [h1] at hj; simpa using hj
      refine wpOp_mono (fun a' w' hk => ⟨fun hne => ?_, ih _ _ _ h3 hk.1 hl2 hk.2⟩) hw
      rcases hk.1 with he | hSw'
      · rw [List.isEmpty_iff] at he
        subst he
        have := hl (j, false) (by simp)
        exact absurd (Prod.mk.inj this).1 hne
      · exact hSw'

/-- the same, behind a name that nothing unfolds -/
structure Sd (P : Program) (ops : Array Oper) (Q : Exit → Act → World → Prop) (S : World → Prop) (is : List (Nat × Bool)) (a : Act) (w : World) : Prop where
  out : wpT P ops Q S is a w

/-- a region that draws, by an order that is laid; number L, the last one, may break what the loads ask -/
theorem region_sched {id : Nat} {a : Act} {w : World} (is : List (Nat × Bool)) (L : Nat) (S : World → Prop) (hm : P.follows .mixedOrders = true) (hs : Region.noSelect ops = true) (hl : is.length = ops.size)
    (hk : okT .any ops L is (Array.replicate ops.size false) = true) (hlast : is.getLast? = some (L, false)) (hQ : ∀ t c a w, Q (.panic c) { a with tmps := t } w → Q (.panic c) a w) (hS : S w.drew)
    (h : ∀ Q' : Exit → Act → World → Prop, Hid (∀ a' w', Q .normal a' w' → Q' .normal a' w') → Sd P ops Q' S is a w.drew) : (Code.region id ops true).wp P Q a w := by
  refine wp_region_any hm ?_
  have h2 := anyT_of (md := .any) (S := S) (L := L) hs hQ is (Array.replicate ops.size false) a w.drew hk (.inr hS) (fun p hp => by rw [hlast] at hp; exact (Option.some.inj hp).symm) (h Q (Lib.hid fun _ _ h => h)).out
  rw [hl] at h2
  exact AnyT.any _ _ _ _ h2

theorem sched_call {i : Nat} {is : List (Nat × Bool)} {a : Act} {w : World} {o : Oper} (ho : ops[i]? = some o) (hw : Region.wanted o (yielded ops a.tmps) = true)
    (h : ∀ K : Act → World → Prop, Hid (∀ a' w', S w' → Sd P ops Q S is a' w' → K a' w') → o.wp P a w K Q) : Sd P ops Q S ((i, false) :: is) a w := by
  refine ⟨?_⟩
  show wpOp P ops Q i _ a w
  unfold wpOp
  simp only [ho, hw, if_true]
  exact .inl (h _ (Lib.hid fun _ _ h1 h2 => ⟨.inr h1, h2.out⟩))
theorem sched_last {i : Nat} {a : Act} {w : World} {o : Oper} (ho : ops[i]? = some o) (hw : Region.wanted o (yielded ops a.tmps) = true)
    (h : ∀ K : Act → World → Prop, Hid (∀ a' w', Sd P ops Q S [] a' w' → K a' w') → o.wp P a w K Q) : Sd P ops Q S [(i, false)] a w := by
  refine ⟨?_⟩
  show wpOp P ops Q i _ a w
  unfold wpOp
  simp only [ho, hw, if_true]
  exact .inl (h _ (Lib.hid fun _ _ h2 => ⟨.inl rfl, h2.out⟩))
theorem sched_take' {i : Nat} {is : List (Nat × Bool)} {a : Act} {w : World} {o : Oper} {v : Value} {a' : Act} (ho : ops[i]? = some o) (hw : Region.wanted o (yielded ops a.tmps) = true) (hy : ∀ w, S w → (execOp a.eval o).run P w = .ok (.value v) w)
    {d : Tmp} (hd : o.dst = some d) (ha : a.put (some d) v = a') (h : Sd P ops Q S is a' w) : Sd P ops Q S ((i, true) :: is) a w := ⟨⟨o, v, ho, .inl ⟨hw, hy⟩, by rw [hd, ha]; exact h.out⟩⟩
theorem sched_lay {is : List (Nat × Bool)} {a a' : Act} {w : World} (ha : a = a') (h : Sd P ops Q S is a' w) : Sd P ops Q S is a w := by rw [ha]; exact h
theorem sched_done {a : Act} {w : World} (h : Q .normal a w) : Sd P ops Q S [] a w := ⟨h⟩
end
end R2
end Go.Proofs.YtpaleogkgfclnaaDoor

namespace Go.Proofs.YtpaleogkgfclnaaDoor
open Go.RowKit
open Pl
set_option linter.unusedSimpArgs false
set_option linter.unusedVariables false
attribute [local go_sem ↓] Go.wp_at_zero Go.wp_at_succ

set_option maxHeartbeats 4000000 in
set_option maxRecDepth 100000 in
theorem listOfAll_calls (c : St) (hc : c.ok) (w : World) :
    Calls Tryd.prog 67 #[stV (c.n : Int) (bs c.set) (bs c.rel)] w fun e w' => (∃ g cap, e = .returned (.slice (some ⟨g, 0, none⟩) c.n cap) ∧ c.n ≤ cap ∧ LRow w' (some ⟨g, 0, none⟩) (natsI (List.range c.n))) ∧ Below w.heap.size w w' := by
  obtain ⟨i0, hi, hz0, hz1, hz2⟩ := info_parts (P := Tryd.prog) (e := 3) (z := .int .i64 0) (size := 1) (bytes := 8) (by kernel_rfl)
  have h8 := hc.hi
  have B1 := Lib.hid (((Below.refl w.heap.size w).alloc (Nat.le_refl _) (.cells #[.int .i64 (c.n : Int), .string (bs c.set), .string (bs c.rel)] 27)).alloc (by simp) (.cells #[] 3))
  have O1 := Lib.hid (show ((w.alloc (.cells #[.int .i64 (c.n : Int), .string (bs c.set), .string (bs c.rel)] 27)).alloc (.cells #[] 3)).ownsRow w.heap.size 3 1 (.slice (some ⟨w.heap.size + 1, 0, none⟩) 0 0) 0 (intsV (natsI (List.range 0))) from by
    have h := own_zeroO (w.alloc (.cells #[.int .i64 (c.n : Int), .string (bs c.set), .string (bs c.rel)] 27)) (t := 3)
    rw [World.size_alloc] at h
    exact own_base h (Nat.le_succ _))
  go_enter Tryd.func67, Tryd.ntmps67
  go_wp2_with fail
  go_loopg [3, 8] c.n (fun q ov xv wr => ∃ (k g cp : Nat), k + q = c.n ∧ xv = .int .i64 (k : Nat) ∧ ov = .slice (some ⟨g, 0, none⟩) k cp ∧ wr.ownsRow w.heap.size 3 1 (.slice (some ⟨g, 0, none⟩) k cp) k (intsV (natsI (List.range k))) ∧ Below w.heap.size w wr)
  case atStart => exact ⟨0, _, 0, by omega, rfl, rfl, O1.out, B1.out⟩
  case round =>
    clear O1 B1
    obtain ⟨k, g, cp, hk, rfl, rfl, ho, hb⟩ := hrel
    have O1 := Lib.hid ho
    have HB := Lib.hid hb
    clear ho hb
    obtain ⟨wo, rfl⟩ : ∃ x, x = wr := ⟨wr, rfl⟩
    by_cases hlt : k < c.n
    · go_wp2_with (at_builtin; refine wpList_append_own_at _ rfl (.tmp 11) (.tmp 13) 30 rfl w.heap.size 3 i0 (.int .i64 0) 1 8 Tryd.underlying30 hi hz0 hz1 hz2 rfl (by decide) _ k (intsV (natsI (List.range k))) rfl (O1.out.alloc _) ⟨wo.heap.size, 0, none⟩ 1 1 [.int .i64 (k : Nat)] rfl rfl (cell_one_new _ _ _) (ints_oneCell .i64 [((k : Nat) : Int)]) (by unfold maxLen; omega) (by omega) (by have := HB.out.size; first | omega | (simp; omega)) ?_; intro v5 w5 ho5 hg5 hn5 hat5; clear hn5 hat5; obtain ⟨g5, cp5, rfl⟩ := own_form ho5; have E5 := Lib.hid ((HB.out.alloc HB.out.size (.cells #[.int .i64 (k : Nat)] 3)).grown hg5 (by have := HB.out.size; simp; omega) (fun j hj => (O1.out.lt j hj).1)); have Z5 := Lib.hid ho5; clear ho5 hg5)
      go_roundg (c.n - k - 1)
      case rel => exact ⟨k + 1, g5, cp5, by omega, by go_num, rfl, by rw [List.range_succ, natsI_snoc]; exact Z5.out, E5.out⟩
      case measure => omega
    · obtain rfl : k = c.n := by omega
      have hgk : gk = 0 := by omega
      subst hgk
      clear hlt hk
      have hcp : c.n ≤ cp := by
        rcases O1.out.2 with ⟨e, _⟩ | ⟨g', c', cur, e, _, _, h5, _⟩
        · cases e
        · injection e with _ _ e
          subst e
          exact h5
      go_wp2_with fail
      go_ret
      exact ⟨⟨g, cp, rfl, hcp, LRow_of O1.out⟩, HB.out⟩

theorem txs_short {L : List Fm} (h : ∀ f ∈ L, Short f) : ∀ z ∈ txs L, z.size ≤ 4000 := fun z hz => by
  obtain ⟨f, hf, rfl⟩ := List.mem_map.1 hz
  have := h f hf
  unfold Short at this
  show (bs f.text).size ≤ 4000
  rw [bs_size]
  omega
theorem joined_con (L : List Fm) (n g cp base : Nat) (W : World) (hn : L.length = n) (hl : n ≤ 100) (hs : ∀ f ∈ L, Short f) (h : W.ownsRow base 9 1 (.slice (some ⟨g, 0, none⟩) n cp) n (strsV (txs L))) :
    Calls Tryd.prog 68 #[.string ⟨#[38]⟩, .slice (some ⟨g, 0, none⟩) n cp] W fun e w' => e = .returned (.string (bs (conF L).text)) ∧ W = w' := by
  have hz := txs_short hs
  have hr := srow_own h (by rw [txs_len, hn]) (fun z h => by have := hz z h; unfold maxLen; omega)
  rw [conF_text]
  have hn2 : (txs L).length = n := by rw [txs_len, hn]
  have h2 := joined_calls ⟨#[38]⟩ 38 g (cp := cp) (txs L) W rfl (.inl ⟨rfl, rfl⟩) (by rw [hn2]; omega) hz (by rw [hn2]; exact hr)
  rwa [hn2] at h2
theorem joined_dis (L : List Fm) (n g cp base : Nat) (W : World) (hn : L.length = n) (hl : n ≤ 100) (hs : ∀ f ∈ L, Short f) (h : W.ownsRow base 9 1 (.slice (some ⟨g, 0, none⟩) n cp) n (strsV (txs L))) :
    Calls Tryd.prog 68 #[.string ⟨#[124]⟩, .slice (some ⟨g, 0, none⟩) n cp] W fun e w' => e = .returned (.string (bs (disF L).text)) ∧ W = w' := by
  have hz := txs_short hs
  have hr := srow_own h (by rw [txs_len, hn]) (fun z h => by have := hz z h; unfold maxLen; omega)
  rw [disF_text]
  have hn2 : (txs L).length = n := by rw [txs_len, hn]
  have h2 := joined_calls ⟨#[124]⟩ 124 g (cp := cp) (txs L) W rfl (.inr ⟨rfl, rfl⟩) (by rw [hn2]; omega) hz (by rw [hn2]; exact hr)
  rwa [hn2] at h2

set_option maxHeartbeats 8000000 in
set_option maxRecDepth 100000 in
theorem factsFormula_calls (c : St) (hc : c.ok) (h4 : c.n ≤ 4) (g cap : Nat) (w : World) (hcap : c.n ≤ cap) (hA : LRow w (some ⟨g, 0, none⟩) (natsI (List.range c.n))) :
    Calls Tryd.prog 66 #[stV (c.n : Int) (bs c.set) (bs c.rel), .slice (some ⟨g, 0, none⟩) c.n cap] w fun e w' => e = .returned (.string (bs (conF (factsTo c.inS c.inR noQ c.n)).text)) ∧ Below w.heap.size w w' := by
  obtain ⟨LL, hLL⟩ : ∃ LL, LL = tellTo c.inS c.inR noQ c.n := ⟨_, rfl⟩
  have hfl : LL.map sgnP = factsTo c.inS c.inR noQ c.n := by rw [hLL]; exact tellTo_facts _ _ _ _
  have hll : LL.length ≤ 26 := by rw [hLL]; exact tellTo_len _ _ _ h4
  have hsh : ∀ p ∈ LL, p.1.text.length ≤ 3 := fun p hp => by rw [hLL] at hp; exact tellTo_short hp
  have hs4 : ∀ f ∈ LL.map sgnP, Short f := fun f hf => by rw [hfl] at hf; exact facts_short hf
  rw [← hfl]
  have HS4 := Lib.hid hs4
  have hff := fun W h => factsOf_calls c hc h4 g cap W hcap h
  rw [← hLL] at hff
  have HFF := Lib.hid hff
  have B1 := Lib.hid ((Below.refl w.heap.size w).alloc (Nat.le_refl _) (.cells #[.int .i64 (c.n : Int), .string (bs c.set), .string (bs c.rel)] 27))
  have X1 := Lib.hid (Bx.new w 27 #[.int .i64 (c.n : Int), .string (bs c.set), .string (bs c.rel)])
  have HA := Lib.hid (hA.call B1.out)
  have HSH := Lib.hid hsh
  clear hff hLL hfl hsh hs4 hA
  go_enter Tryd.func66, Tryd.ntmps66
  obtain ⟨x0, x1, x2⟩ := box_load X1.out
  go_wp2_with fail
  refine (HFF.out _ HA.out).mono ?_
  clear x0 x1 x2
  rintro e w1 ⟨⟨g1, c1, g2, c2, rfl, hr1, hr2⟩, hz⟩
  have B2 := Lib.hid (B1.out.trans (hz.mono B1.out.size))
  have R1 := Lib.hid (own_base hr1 (by simp : w.heap.size ≤ (w.alloc (.cells #[.int .i64 (c.n : Int), .string (bs c.set), .string (bs c.rel)] 27)).heap.size))
  have RB := Lib.hid (own_base hr2 (by simp : w.heap.size ≤ (w.alloc (.cells #[.int .i64 (c.n : Int), .string (bs c.set), .string (bs c.rel)] 27)).heap.size))
  clear hz hr1 hr2
  go_wp2_with fail
  go_loopg [16] LL.length (fun q xv wr => ∃ k : Nat, k + q = LL.length ∧ xv = .int .i64 (k : Nat) ∧ wr.ownsRow w.heap.size 9 1 (.slice (some ⟨g1, 0, none⟩) LL.length c1) LL.length (strsV (mixL LL k)) ∧ wr.ownsRow w.heap.size 4 1 (.slice (some ⟨g2, 0, none⟩) LL.length c2) LL.length (isV (fis LL)) ∧ Below w.heap.size w wr)
  case atStart => exact ⟨0, by omega, rfl, by rw [mix_zero]; exact R1.out, RB.out, B2.out⟩
  case round =>
    clear R1 RB B2
    obtain ⟨k, hk, rfl, hr1, hr2, hb⟩ := hrel
    have R1 := Lib.hid hr1
    have RB := Lib.hid hr2
    have HB := Lib.hid hb
    clear hr1 hr2 hb
    obtain ⟨wo, rfl⟩ : ∃ x, x = wr := ⟨wr, rfl⟩
    by_cases hlt : k < LL.length
    · have hq1 := R1.out.cellAt k (by omega)
      have hq2 := RB.out.cellAt k (by omega)
      have hfz := R1.out.frozenAt k
      have hmk := mix_at hlt
      rw [show (strsV (mixL LL k))[k]? = some (.string (bs LL[k].1.text)) by rw [strsV, List.getElem?_map, hmk]; rfl] at hq1
      rw [show (isV (fis LL))[k]? = some (.bool LL[k].2) by rw [isV, fis, List.getElem?_map, List.getElem?_map, List.getElem?_eq_getElem hlt]; rfl] at hq2
      have hms := mix_set hlt
      have hpl := HSH.out LL[k] (List.getElem_mem hlt)
      obtain ⟨p, hp⟩ : ∃ p, p = LL[k] := ⟨_, rfl⟩
      rw [← hp] at hq1 hq2 hms hpl
      have hsg := fun W => signed_calls p.1 p.2 hpl W
      have HSG := Lib.hid hsg
      have HMS := Lib.hid hms
      have HP := Lib.hid hp
      have d1 : wo.drew.cell? ⟨g1, k, none⟩ = some (.string (bs p.1.text)) := hq1
      have d2 : wo.drew.cell? ⟨g2, k, none⟩ = some (.bool p.2) := hq2
      have f1 : wo.drew.frozen? ⟨g1, k, none⟩ = false := hfz
      have hpz : (bs p.1.text).size ≤ 3 := by rw [bs_size]; exact hpl
      clear hq1 hq2 hms hp hsg hfz hmk hpl
      go_upto_region 5 with (fail)
      refine R2.region_sched [(0, true), (1, true), (2, true), (3, true), (4, true), (5, true), (6, true), (7, true), (8, true), (9, true), (10, false), (11, true), (12, false)] 12 (fun w' : World => w'.cell? ⟨g1, k, none⟩ = some (.string (bs p.1.text)) ∧ w'.cell? ⟨g2, k, none⟩ = some (.bool p.2)) (by kernel_rfl) (by kernel_rfl) (by kernel_rfl) (by kernel_rfl) (by kernel_rfl) (fun _ _ _ _ h => h) ?_ (fun Q1 hQ1 => ?_)
      · exact ⟨d1, d2⟩
      try simp only [List.append]
      refine R2.sched_take' (v := ?_) (a' := ?_) rfl (by kernel_rfl) ?_ rfl ?_ ?_
      rotate_left 2
      · intro w hSw
        (try dsimp only at hSw)
        go_simp
        try with_reducible rfl
      · (try simp only [Act.put, List.setIfInBounds_toArray, List.set_cons_zero, List.set_cons_succ])
        try rfl
      refine R2.sched_take' (v := ?_) (a' := ?_) rfl (by kernel_rfl) ?_ rfl ?_ ?_
      rotate_left 2
      · intro w hSw
        (try dsimp only at hSw)
        go_simp
        try with_reducible rfl
      · (try simp only [Act.put, List.setIfInBounds_toArray, List.set_cons_zero, List.set_cons_succ])
        try rfl
      refine R2.sched_take' (v := ?_) (a' := ?_) rfl (by kernel_rfl) ?_ rfl ?_ ?_
      rotate_left 2
      · intro w hSw
        (try dsimp only at hSw)
        go_simp
        try with_reducible rfl
      · (try simp only [Act.put, List.setIfInBounds_toArray, List.set_cons_zero, List.set_cons_succ])
        try rfl
      refine R2.sched_take' (v := ?_) (a' := ?_) rfl (by kernel_rfl) ?_ rfl ?_ ?_
      rotate_left 2
      · intro w hSw
        (try dsimp only at hSw)
        go_simp
        try with_reducible rfl
      · (try simp only [Act.put, List.setIfInBounds_toArray, List.set_cons_zero, List.set_cons_succ])
        try rfl
      refine R2.sched_take' (v := ?_) (a' := ?_) rfl (by kernel_rfl) ?_ rfl ?_ ?_
      rotate_left 2
      · intro w hSw
        (try dsimp only at hSw)
        go_simp
        try with_reducible rfl
      · (try simp only [Act.put, List.setIfInBounds_toArray, List.set_cons_zero, List.set_cons_succ])
        try rfl
      refine R2.sched_take' (v := .string (bs p.1.text)) (a' := ?_) rfl (by kernel_rfl) ?_ rfl ?_ ?_
      rotate_left 1
      · intro w hSw
        (try dsimp only at hSw)
        go_simp
        first | done | (obtain ⟨u0, u1⟩ := hSw; simp [*])
      · (try simp only [Act.put, List.setIfInBounds_toArray, List.set_cons_zero, List.set_cons_succ])
        try rfl
      refine R2.sched_take' (v := ?_) (a' := ?_) rfl (by kernel_rfl) ?_ rfl ?_ ?_
      rotate_left 2
      · intro w hSw
        (try dsimp only at hSw)
        go_simp
        try with_reducible rfl
      · (try simp only [Act.put, List.setIfInBounds_toArray, List.set_cons_zero, List.set_cons_succ])
        try rfl
      refine R2.sched_take' (v := ?_) (a' := ?_) rfl (by kernel_rfl) ?_ rfl ?_ ?_
      rotate_left 2
      · intro w hSw
        (try dsimp only at hSw)
        go_simp
        try with_reducible rfl
      · (try simp only [Act.put, List.setIfInBounds_toArray, List.set_cons_zero, List.set_cons_succ])
        try rfl
      refine R2.sched_take' (v := ?_) (a' := ?_) rfl (by kernel_rfl) ?_ rfl ?_ ?_
      rotate_left 2
      · intro w hSw
        (try dsimp only at hSw)
        go_simp
        try with_reducible rfl
      · (try simp only [Act.put, List.setIfInBounds_toArray, List.set_cons_zero, List.set_cons_succ])
        try rfl
      refine R2.sched_take' (v := .bool p.2) (a' := ?_) rfl (by kernel_rfl) ?_ rfl ?_ ?_
      rotate_left 1
      · intro w hSw
        (try dsimp only at hSw)
        go_simp
        first | done | (obtain ⟨u0, u1⟩ := hSw; simp [*])
      · (try simp only [Act.put, List.setIfInBounds_toArray, List.set_cons_zero, List.set_cons_succ])
        try rfl
      refine R2.sched_call rfl (by kernel_rfl) (fun K1 hK1 => ?_)
      go_simp
      refine (HSG.out _).mono ?_
      rintro e w2 ⟨rfl, rfl⟩
      go_wp2_with fail
      refine hK1.out _ _ ?_ (R2.sched_lay (a' := ?_) ?_ ?_)
      · exact ⟨d1, d2⟩
      rotate_left 1
      · (try simp only [Act.put, List.getElem_toArray, List.getElem_cons_succ, List.getElem_cons_zero, List.setIfInBounds_toArray, List.set_cons_zero, List.set_cons_succ])
        try rfl
      clear hK1 K1
      refine R2.sched_take' (v := ?_) (a' := ?_) rfl (by kernel_rfl) ?_ rfl ?_ ?_
      rotate_left 2
      · intro w hSw
        (try dsimp only at hSw)
        go_simp
        try with_reducible rfl
      · (try simp only [Act.put, List.setIfInBounds_toArray, List.set_cons_zero, List.set_cons_succ])
        try rfl
      refine R2.sched_last rfl (by kernel_rfl) (fun K1 hK1 => ?_)
      go_simp
      refine hK1.out _ _ (R2.sched_lay (a' := ?_) ?_ ?_)
      rotate_left 1
      · (try simp only [Act.put, List.getElem_toArray, List.getElem_cons_succ, List.getElem_cons_zero, List.setIfInBounds_toArray, List.set_cons_zero, List.set_cons_succ])
        try rfl
      clear hK1 K1
      refine R2.sched_done (hQ1.out _ _ ?_)
      go_wp2_with fail
      go_roundg (LL.length - k - 1)
      case rel =>
        obtain ⟨h1, h2⟩ := (own_call R1.out (Below.refl _ _).drew).stored k (.string (bs (sgn p.2 p.1).text))
        refine ⟨k + 1, by omega, by go_num, ?_, own_others (own_call RB.out (Below.refl _ _).drew) h2 (Apart.types RB.out R1.out (by decide)), HB.out.drew.grown h2 HB.out.drew.size (fun j hj => (R1.out.lt j hj).1)⟩
        rw [strsV_set, show sgn p.2 p.1 = sgnP p from rfl, HMS.out] at h1
        exact h1
      case measure => omega
    · obtain rfl : k = LL.length := by omega
      have hgk : gk = 0 := by omega
      subst hgk
      have hj := fun h => joined_con (LL.map sgnP) LL.length g1 c1 w.heap.size wo (by simp) (by omega) HS4.out h
      rw [← mix_all] at hj
      have HJ := Lib.hid (hj R1.out)
      clear hj hlt hk
      go_wp2_with fail
      refine (HJ.out).mono ?_
      rintro e w2 ⟨rfl, rfl⟩
      go_wp2_with fail
      go_ret
      exact ⟨rfl, HB.out⟩

theorem eqs_snoc (n k : Nat) : strsV (txs (eqsF n (k + 1))) = strsV (txs (eqsF n k)) ++ [.string (⟨#[61]⟩ ++ nmT k ++ nmT n)] := by
  rw [eqsF_succ, txs, List.map_append]
  show strsV (txs (eqsF n k) ++ [bs (Fm.eq (vf k) (vf n)).text]) = _
  rw [strsV_snoc, eq_text]
theorem all_name (i : Nat) : (⟨#[65]⟩ : ByteArray) ++ nmT i = bs [65, vb (vf i)] := eq_bs (by rw [ByteArray.data_append, Array.toList_append, nm_list]; rfl)

set_option maxHeartbeats 8000000 in
set_option maxRecDepth 100000 in
theorem describedBy_calls (c : St) (hc : c.ok) (h4 : c.n ≤ 4) (w : World) :
    Calls Tryd.prog 44 #[stV (c.n : Int) (bs c.set) (bs c.rel)] w fun e w' => e = .returned (.string (bs (desF c.n c.inS c.inR noQ).text)) ∧ Below w.heap.size w w' := by
  obtain ⟨i0, hi, hz0, hz1, hz2⟩ := info_parts (P := Tryd.prog) (e := 9) (z := .string ⟨#[]⟩) (size := 1) (bytes := 16) (by kernel_rfl)
  have HLA := Lib.hid (fun W => listOfAll_calls c hc W)
  have HFO := Lib.hid (fun (g cap : Nat) (W : World) (h : c.n ≤ cap) (k : LRow W (some ⟨g, 0, none⟩) (natsI (List.range c.n))) => factsFormula_calls c hc h4 g cap W h k)
  have hlo := hc.lo
  have hcl : (conF (factsTo c.inS c.inR noQ c.n)).text.length ≤ 200 := by
    have h1 := conF_len (factsTo c.inS c.inR noQ c.n) fun f hf => facts_short hf
    have h2 := factsTo_len c.inS c.inR noQ h4
    omega
  have hdl : (disF (eqsF c.n c.n)).text.length ≤ 200 := by
    have h1 := disF_len (eqsF c.n c.n) fun f hf => eqsF_short hf
    rw [eqsF_len] at h1
    omega
  have hd4 : c.n = 4 → desF c.n c.inS c.inR noQ = conF (factsTo c.inS c.inR noQ c.n) := fun e => by unfold desF; rw [if_pos e]
  have hd3 : c.n ≠ 4 → (desF c.n c.inS c.inR noQ).text = 38 :: ((conF (factsTo c.inS c.inR noQ c.n)).text ++ 65 :: vb (vf c.n) :: (disF (eqsF c.n c.n)).text) := fun e => by rw [des_less e]; rfl
  obtain ⟨CF, hCF⟩ : ∃ CF, CF = bs (conF (factsTo c.inS c.inR noQ c.n)).text := ⟨_, rfl⟩
  have hCz : CF.size ≤ 200 := by rw [hCF, bs_size]; exact hcl
  obtain ⟨DF, hDF⟩ : ∃ DF, DF = bs (disF (eqsF c.n c.n)).text := ⟨_, rfl⟩
  have hDz : DF.size ≤ 200 := by rw [hDF, bs_size]; exact hdl
  have HCF := Lib.hid hCF
  have HDF := Lib.hid hDF
  have HD4 := Lib.hid hd4
  have HD3 := Lib.hid hd3
  have X0 := Lib.hid (Bx.new w 27 #[.int .i64 (c.n : Int), .string (bs c.set), .string (bs c.rel)])
  have B0 := Lib.hid ((Below.refl w.heap.size w).alloc (Nat.le_refl _) (.cells #[.int .i64 (c.n : Int), .string (bs c.set), .string (bs c.rel)] 27))
  rw [← hCF] at HFO
  clear hCF hDF hd4 hd3 hcl hdl
  go_enter Tryd.func44, Tryd.ntmps44
  go_upto_region 1 with (fail)
  have X1 := Lib.hid X0.out.drew
  have B1 := Lib.hid B0.out.drew
  refine region_sched [(0, true), (1, true), (2, false), (3, false), (4, true)] (fun w' : World => w'.cell? ⟨w.heap.size, 0, none⟩ = some (.int .i64 (c.n : Int)) ∧ w'.cell? ⟨w.heap.size, 1, none⟩ = some (.string (bs c.set)) ∧ w'.cell? ⟨w.heap.size, 2, none⟩ = some (.string (bs c.rel))) (by kernel_rfl) (by kernel_rfl) (by kernel_rfl) (by kernel_rfl) (fun _ _ _ _ h => h) ?_ (fun Q1 hQ1 => ?_)
  · exact box_load X1.out
  try simp only [List.append]
  refine sched_take' (v := .agg #[.int .i64 (c.n : Int), .string (bs c.set), .string (bs c.rel)]) (a' := ?_) rfl (by kernel_rfl) ?_ rfl ?_ ?_
  rotate_left 1
  · intro w hSw
    (try dsimp only at hSw)
    go_simp
    first | done | (obtain ⟨u0, u1, u2⟩ := hSw; simp [*])
  · (try simp only [Act.put, List.setIfInBounds_toArray, List.set_cons_zero, List.set_cons_succ])
    try rfl
  refine sched_take' (v := .agg #[.int .i64 (c.n : Int), .string (bs c.set), .string (bs c.rel)]) (a' := ?_) rfl (by kernel_rfl) ?_ rfl ?_ ?_
  rotate_left 1
  · intro w hSw
    (try dsimp only at hSw)
    go_simp
    first | done | (obtain ⟨u0, u1, u2⟩ := hSw; simp [*])
  · (try simp only [Act.put, List.setIfInBounds_toArray, List.set_cons_zero, List.set_cons_succ])
    try rfl
  refine sched_call rfl (by kernel_rfl) (fun K1 hK1 => ?_)
  go_simp
  refine (HLA.out _).mono ?_
  rintro e w1 ⟨⟨g, cap, rfl, hgc, hrw⟩, hz⟩
  have X2 := Lib.hid (X1.out.call hz)
  have B2 := Lib.hid (B1.out.trans (hz.mono B1.out.size))
  have HRW := Lib.hid hrw
  clear hz hrw
  go_wp2_with fail
  refine hK1.out _ _ ?_ (sched_lay (a' := ?_) ?_ ?_)
  · exact box_load X2.out
  rotate_left 1
  · (try simp only [Act.put, List.getElem_toArray, List.getElem_cons_succ, List.getElem_cons_zero, List.setIfInBounds_toArray, List.set_cons_zero, List.set_cons_succ])
    try rfl
  clear hK1 K1
  refine sched_call rfl (by kernel_rfl) (fun K1 hK1 => ?_)
  go_simp
  refine (HFO.out g cap _ hgc HRW.out).mono ?_
  rintro e w2 ⟨rfl, hz⟩
  have X3 := Lib.hid (X2.out.call hz)
  have B3 := Lib.hid (B2.out.trans (hz.mono B2.out.size))
  clear hz
  go_wp2_with fail
  refine hK1.out _ _ ?_ (sched_lay (a' := ?_) ?_ ?_)
  · exact box_load X3.out
  rotate_left 1
  · (try simp only [Act.put, List.getElem_toArray, List.getElem_cons_succ, List.getElem_cons_zero, List.setIfInBounds_toArray, List.set_cons_zero, List.set_cons_succ])
    try rfl
  clear hK1 K1
  refine sched_take' (v := ?_) (a' := ?_) rfl (by kernel_rfl) ?_ rfl ?_ ?_
  rotate_left 2
  · intro w hSw
    (try dsimp only at hSw)
    go_simp
    try with_reducible rfl
  · (try simp only [Act.put, List.setIfInBounds_toArray, List.set_cons_zero, List.set_cons_succ])
    try rfl
  refine sched_done (hQ1.out _ _ ?_)
  obtain ⟨x0, x1, x2⟩ := box_load X3.out
  clear X0 X1 X2 B0 B1 B2 HRW
  by_cases hn : c.n = 4
  · have hni : ((c.n : Nat) : Int) = 4 := by omega
    have HN := Lib.hid hn
    clear hn
    go_wp2_with fail
    go_ret
    exact ⟨by rw [HD4.out HN.out, ← HCF.out]; rfl, B3.out⟩
  · have hn4 : c.n < 4 := by omega
    have hni : (((c.n : Nat) : Int) == 4) = false := by rw [beq_eq_false_iff_ne]; omega
    have hs0 := nm_size c.n
    have HN := Lib.hid hn
    clear hn
    have B4 := Lib.hid (B3.out.alloc B3.out.size (.cells #[] 9))
    have O4 := Lib.hid (show (w2.alloc (.cells #[] 9)).ownsRow w.heap.size 9 1 (.slice (some ⟨w2.heap.size, 0, none⟩) 0 0) 0 (strsV (txs (eqsF c.n 0))) from own_base (own_zeroO w2 (t := 9)) B3.out.size)
    obtain ⟨y0, y1, y2⟩ := box_load (X3.out.alloc (.cells #[] 9))
    go_wp2_with fail
    refine (nameOf_calls c.n hn4 _).mono ?_
    rintro e w3 ⟨rfl, rfl⟩
    go_wp2_with fail
    go_loopg [5, 21] c.n (fun q ov xv wr => ∃ (k g cp : Nat), k + q = c.n ∧ xv = .int .i64 (k : Nat) ∧ ov = .slice (some ⟨g, 0, none⟩) k cp ∧ wr.ownsRow w.heap.size 9 1 (.slice (some ⟨g, 0, none⟩) k cp) k (strsV (txs (eqsF c.n k))) ∧ Below w.heap.size w wr)
    case atStart => exact ⟨0, _, 0, by omega, rfl, rfl, O4.out, B4.out⟩
    case round =>
      clear O4 B4 B3 X3 x0 x1 x2 y0 y1 y2
      obtain ⟨k, g, cp, hk, rfl, rfl, ho, hb⟩ := hrel
      have O1 := Lib.hid ho
      have HB := Lib.hid hb
      clear ho hb
      obtain ⟨wo, rfl⟩ : ∃ x, x = wr := ⟨wr, rfl⟩
      by_cases hlt : k < c.n
      · have hk4 : k < 4 := by omega
        have hs1 := nm_size k
        go_wp2_with fail
        refine (nameOf_calls k hk4 _).mono ?_
        rintro e w3 ⟨rfl, rfl⟩
        go_wp2_with (at_builtin; refine wpList_append_own_at _ rfl (.tmp 24) (.tmp 30) 50 rfl w.heap.size 9 i0 (.string ⟨#[]⟩) 1 16 Tryd.underlying50 hi hz0 hz1 hz2 rfl (by decide) _ k (strsV (txs (eqsF c.n k))) rfl (O1.out.alloc _) ⟨wo.heap.size, 0, none⟩ 1 1 [.string (⟨#[61]⟩ ++ nmT k ++ nmT c.n)] rfl rfl (cell_one_new _ _ _) (one_str _) (by unfold maxLen; omega) (by omega) (by have := HB.out.size; first | omega | (simp; omega)) ?_; intro v5 w5 ho5 hg5 hn5 hat5; clear hn5 hat5; obtain ⟨g5, cp5, rfl⟩ := own_form ho5; have E5 := Lib.hid ((HB.out.alloc HB.out.size (.cells #[.string (⟨#[61]⟩ ++ nmT k ++ nmT c.n)] 9)).grown hg5 (by have := HB.out.size; simp; omega) (fun j hj => (O1.out.lt j hj).1)); have Z5 := Lib.hid ho5; clear ho5 hg5)
        go_roundg (c.n - k - 1)
        case rel => exact ⟨k + 1, g5, cp5, by omega, by go_num, rfl, by rw [eqs_snoc]; exact Z5.out, E5.out⟩
        case measure => omega
      · obtain rfl : k = c.n := by omega
        have hgk : gk = 0 := by omega
        subst hgk
        clear hlt hk
        have HJ := Lib.hid (joined_dis (eqsF c.n c.n) c.n g cp w.heap.size wo (eqsF_len _ _) (by omega) (fun f hf => eqsF_short hf) O1.out)
        rw [← HDF.out] at HJ
        go_wp2_with fail
        refine (HJ.out).mono ?_
        rintro e w3 ⟨rfl, rfl⟩
        go_wp2_with fail
        go_ret
        refine ⟨congrArg (fun x => Ending.returned (.string x)) (eq_bs ?_), HB.out⟩
        rw [HD3.out HN.out, HCF.out, HDF.out]
        simp [bs_data, nm_list]

end Go.Proofs.YtpaleogkgfclnaaDoor

namespace Go.Proofs.YtpaleogkgfclnaaDoor
open Go.RowKit
open Pl
set_option linter.unusedSimpArgs false
set_option linter.unusedVariables false
attribute [local go_sem ↓] Go.wp_at_zero Go.wp_at_succ

theorem quL_cat (j k : Nat) : bs (quL j k) ++ (⟨#[83]⟩ ++ nmT (j + k)) = bs (quL j (k + 1)) := by
  rw [quL_succ, qu_name]
  exact eq_bs (by simp [bs_data])
theorem own_single (w : World) (t : TypeId) (v : Value) : (w.alloc (.cells #[v] t)).ownsRow w.heap.size t 1 (.slice (some ⟨w.heap.size, 0, none⟩) 1 1) 1 [v] :=
  ⟨rfl, .inr ⟨_, 1, #[v], rfl, Nat.le_refl _, Bx.new w _ _, Nat.le_refl _, by unfold maxLen; omega, rfl, rfl⟩⟩

set_option maxHeartbeats 8000000 in
set_option maxRecDepth 100000 in
theorem DescribeStructure_impl (i : Int) (s r : ByteArray) (w : World) (hs : s.size ≤ maxLen) (hr : r.size ≤ maxLen) :
    Calls Tryd.prog 20 #[stV i s r] w fun e w' => e = .returned (.tuple #[.string (dsV i s r).1, .bool (dsV i s r).2]) ∧ Below w.heap.size w w' := by
  have HcI := fun W => isStructure_calls i s r W hs hr
  have B0 := Lib.hid ((Below.refl w.heap.size w).alloc (Nat.le_refl _) (.cells #[.int .i64 i, .string s, .string r] 27))
  have X0 := Lib.hid (Bx.new w 27 #[.int .i64 i, .string s, .string r])
  cases hok : okB i s r
  case false =>
    rw [ds_no hok]
    simp only [hok] at HcI
    have CI := Lib.hid HcI
    clear HcI hok hs hr
    go_enter Tryd.func20, Tryd.ntmps20
    obtain ⟨x0, x1, x2⟩ := box_load X0.out
    go_wp2_with fail
    refine (CI.out _).mono ?_
    rintro e w1 ⟨rfl, hz⟩
    have B1 := Lib.hid (B0.out.trans (hz.mono B0.out.size))
    clear hz x0 x1 x2
    go_wp2_with fail
    go_ret2
    exact ⟨rfl, B1.out⟩
  case true =>
  simp only [hok] at HcI
  rcases ok_cases i s r with h | ⟨a, ha, rfl, rfl, rfl⟩
  · rw [hok] at h; cases h
  have CI := Lib.hid HcI
  have hlo := ha.lo
  have h8 := ha.hi
  clear HcI hok hs hr
  by_cases h3 : a.n ≤ 3
  case neg =>
    rw [ds_big (by omega)]
    have h3i : (3 : Int) < (a.n : Int) := by omega
    go_enter Tryd.func20, Tryd.ntmps20
    obtain ⟨x0, x1, x2⟩ := box_load X0.out
    go_wp2_with fail
    refine (CI.out _).mono ?_
    rintro e w1 ⟨rfl, hz⟩
    have B1 := Lib.hid (B0.out.trans (hz.mono B0.out.size))
    have X1 := Lib.hid (X0.out.call hz)
    clear hz x0 x1 x2
    obtain ⟨x0, x1, x2⟩ := box_load X1.out
    go_wp2_with fail
    go_ret2
    exact ⟨rfl, B1.out⟩
  case pos =>
  have h3i : ((a.n : Nat) : Int) ≤ 3 := by omega
  rw [ds_yes ha h3]
  have HDB := Lib.hid (fun W => describedBy_calls a ha (by omega) W)
  have hdl := des_len (n := a.n) (by omega) a.inS a.inR noQ
  rw [← bs_size] at hdl
  have htl := dst_len (a := a) (by omega)
  have htx : bs (quL 0 a.n) ++ bs (desF a.n a.inS a.inR noQ).text = bs (dstF a).text := by rw [dst_text]; exact eq_bs (by simp [bs_data])
  have hsf := fun W => shortFormula_yes (bs (dstF a).text) W (by rw [bs_size]; omega)
  rw [← htx] at hsf ⊢
  obtain ⟨D, hD⟩ : ∃ D, D = bs (desF a.n a.inS a.inR noQ).text := ⟨_, rfl⟩
  rw [← hD] at HDB hdl hsf ⊢
  have HSF := Lib.hid hsf
  clear htl htx hsf hD
  go_enter Tryd.func20, Tryd.ntmps20
  obtain ⟨x0, x1, x2⟩ := box_load X0.out
  go_wp2_with fail
  refine (CI.out _).mono ?_
  rintro e w1 ⟨rfl, hz⟩
  have B1 := Lib.hid (B0.out.trans (hz.mono B0.out.size))
  have X1 := Lib.hid (X0.out.call hz)
  clear hz x0 x1 x2
  obtain ⟨x0, x1, x2⟩ := box_load X1.out
  go_wp2_with fail
  go_loopg [4, 16] a.n (fun q ov xv wr => ∃ k : Nat, k + q = a.n ∧ ov = .string (bs (quL 0 k)) ∧ xv = .int .i64 (k : Nat) ∧ wr = w1)
  case atStart => exact ⟨0, by omega, rfl, rfl, rfl⟩
  case round =>
    obtain ⟨k, hk, rfl, rfl, rfl⟩ := hrel
    have hqz : (bs (quL 0 k)).size ≤ 20 := by rw [bs_size, quL_len]; omega
    by_cases hlt : k < a.n
    · have hs1 := nm_size k
      go_wp2_with fail
      refine (nameOf_calls k (by omega) _).mono ?_
      rintro e w2 ⟨rfl, rfl⟩
      go_wp2_with fail
      go_roundg (a.n - k - 1)
      case rel => exact ⟨k + 1, by omega, str_eq (by have := quL_cat 0 k; rwa [Nat.zero_add] at this), by go_num, rfl⟩
      case measure => omega
    · obtain rfl : k = a.n := by omega
      have hgk : gk = 0 := by omega
      subst hgk
      clear hlt hk
      go_wp2_with fail
      refine (HDB.out _).mono ?_
      rintro e w2 ⟨rfl, hz⟩
      have B2 := Lib.hid (B1.out.trans (hz.mono B1.out.size))
      clear hz x0 x1 x2
      go_wp2_with fail
      refine (HSF.out _).mono ?_
      rintro e w3 ⟨rfl, rfl⟩
      go_wp2_with fail
      go_ret2
      exact ⟨rfl, B2.out⟩

set_option maxHeartbeats 8000000 in
set_option maxRecDepth 100000 in
theorem DescribeElement_impl (i : Int) (s r : ByteArray) (z : Int) (w : World) (hs : s.size ≤ maxLen) (hr : r.size ≤ maxLen) :
    Calls Tryd.prog 22 #[stV i s r, .int .i64 z] w fun e w' => e = .returned (.tuple #[.string (deV i s r z).1, .bool (deV i s r z).2]) ∧ Below w.heap.size w w' := by
  obtain ⟨i0, hi, hz0, hz1, hz2⟩ := info_parts (P := Tryd.prog) (e := 3) (z := .int .i64 0) (size := 1) (bytes := 8) (by kernel_rfl)
  have HcI := fun W => hasElement_calls i s r z W hs hr
  have B0 := Lib.hid ((Below.refl w.heap.size w).alloc (Nat.le_refl _) (.cells #[.int .i64 i, .string s, .string r] 27))
  have X0 := Lib.hid (Bx.new w 27 #[.int .i64 i, .string s, .string r])
  cases hok : okB i s r && elB i z
  case false =>
    rw [show deV i s r z = (bs [], false) by
      rcases Bool.and_eq_false_iff.1 hok with h | h
      · exact de_no h
      · exact de_far h]
    simp only [hok] at HcI
    have CI := Lib.hid HcI
    clear HcI hok hs hr
    go_enter Tryd.func22, Tryd.ntmps22
    obtain ⟨x0, x1, x2⟩ := box_load X0.out
    go_wp2_with fail
    refine (CI.out _).mono ?_
    rintro e w1 ⟨rfl, hz⟩
    have B1 := Lib.hid (B0.out.trans (hz.mono B0.out.size))
    clear hz x0 x1 x2
    go_wp2_with fail
    go_ret2
    exact ⟨rfl, B1.out⟩
  case true =>
  simp only [hok] at HcI
  obtain ⟨hok1, hel⟩ := Bool.and_eq_true_iff.1 hok
  rcases ok_cases i s r with h | ⟨a, ha, rfl, rfl, rfl⟩
  · rw [hok1] at h; cases h
  rcases el_cases a.n z with h | ⟨x, rfl, hx, _⟩
  · rw [hel] at h; cases h
  have CI := Lib.hid HcI
  have hlo := ha.lo
  have h8 := ha.hi
  clear HcI hok hok1 hel hs hr
  by_cases h4 : a.n ≤ 4
  case neg =>
    rw [de_big (by omega)]
    have h4i : (4 : Int) < (a.n : Int) := by omega
    go_enter Tryd.func22, Tryd.ntmps22
    obtain ⟨x0, x1, x2⟩ := box_load X0.out
    go_wp2_with fail
    refine (CI.out _).mono ?_
    rintro e w1 ⟨rfl, hz⟩
    have B1 := Lib.hid (B0.out.trans (hz.mono B0.out.size))
    have X1 := Lib.hid (X0.out.call hz)
    clear hz x0 x1 x2
    obtain ⟨x0, x1, x2⟩ := box_load X1.out
    go_wp2_with fail
    go_ret2
    exact ⟨rfl, B1.out⟩
  case pos =>
  have h4i : ((a.n : Nat) : Int) ≤ 4 := by omega
  rw [de_yes ha hx h4]
  have hm := front_perm hx
  have hml := hm.len
  obtain ⟨c, hc⟩ : ∃ c, c = a.part (frontL a.n x) := ⟨_, rfl⟩
  rw [← hc]
  have hcn : c.n = a.n := by rw [hc]; exact hml
  have hcok : c.ok := by rw [hc]; exact part_ok (by rw [hml]; exact hlo) (by rw [hml]; exact h8)
  have hpa : ∀ (A : Option Addr) (cap : Nat) (W : World), LRow W A (natsI (frontL a.n x)) → Calls Tryd.prog 47 #[stV (a.n : Int) (bs a.set) (bs a.rel), .slice A a.n cap] W fun e w' => e = .returned (stV (c.n : Int) (bs c.set) (bs c.rel)) ∧ Below W.heap.size W w' := fun A cap W hA => by
    have h := partOf_calls a ha (frontL a.n x) hm.lt (by rw [hml]; exact h8) A cap W hA
    rw [hml, ← hc] at h
    exact h
  have HPA := Lib.hid hpa
  have HDB := Lib.hid (fun W => describedBy_calls c hcok (by omega) W)
  have hdl := des_len (n := c.n) (by omega) c.inS c.inR noQ
  rw [← bs_size] at hdl
  have htl := del_len (a := c) (by omega)
  have htx : bs (quL 1 (a.n - 1)) ++ bs (desF c.n c.inS c.inR noQ).text = bs (delF c).text := by rw [del_text, hcn]; exact eq_bs (by simp [bs_data])
  have hsf := fun W => shortFormula_yes (bs (delF c).text) W (by rw [bs_size]; omega)
  rw [← htx] at hsf ⊢
  obtain ⟨D, hD⟩ : ∃ D, D = bs (desF c.n c.inS c.inR noQ).text := ⟨_, rfl⟩
  rw [← hD] at HDB hdl hsf ⊢
  have HSF := Lib.hid hsf
  have HML := Lib.hid hml
  clear htl htx hsf hD hpa hcn hcok hc hm hml
  go_enter Tryd.func22, Tryd.ntmps22
  obtain ⟨x0, x1, x2⟩ := box_load X0.out
  go_wp2_with fail
  refine (CI.out _).mono ?_
  rintro e w1 ⟨rfl, hz⟩
  have B1 := Lib.hid (B0.out.trans (hz.mono B0.out.size))
  have X1 := Lib.hid (X0.out.call hz)
  clear hz x0 x1 x2
  obtain ⟨x0, x1, x2⟩ := box_load X1.out
  have B2 := Lib.hid (B1.out.alloc B1.out.size (.cells #[.int .i64 (x : Nat)] 3))
  have X2 := Lib.hid (X1.out.alloc (.cells #[.int .i64 (x : Nat)] 3))
  have O2 := Lib.hid (show (w1.alloc (.cells #[.int .i64 (x : Nat)] 3)).ownsRow w.heap.size 3 1 (.slice (some ⟨w1.heap.size, 0, none⟩) (frontL 0 x).length 1) (frontL 0 x).length (intsV (natsI (frontL 0 x))) from own_base (own_single w1 3 (.int .i64 (x : Nat))) B1.out.size)
  obtain ⟨y0, y1, y2⟩ := box_load X2.out
  go_wp2_with fail
  go_loopg [6, 23] a.n (fun q ov xv wr => ∃ (k g cp : Nat), k + q = a.n ∧ xv = .int .i64 (k : Nat) ∧ ov = .slice (some ⟨g, 0, none⟩) (frontL k x).length cp ∧ wr.ownsRow w.heap.size 3 1 (.slice (some ⟨g, 0, none⟩) (frontL k x).length cp) (frontL k x).length (intsV (natsI (frontL k x))) ∧ Bx wr w.heap.size 27 #[.int .i64 (a.n : Int), .string (bs a.set), .string (bs a.rel)] ∧ Below w.heap.size w wr)
  case atStart => exact ⟨0, _, 1, by omega, rfl, rfl, O2.out, X2.out, B2.out⟩
  case round =>
    clear O2 X2 B2 X1 B1 x0 x1 x2 y0 y1 y2
    obtain ⟨k, g, cp, hk, rfl, rfl, ho, hx2, hb⟩ := hrel
    have O1 := Lib.hid ho
    have XB := Lib.hid hx2
    have HB := Lib.hid hb
    clear ho hx2 hb
    obtain ⟨wo, rfl⟩ : ∃ x, x = wr := ⟨wr, rfl⟩
    by_cases hlt : k < a.n
    · have hfl := front_len k x
      by_cases he : k = x
      · have hne : (((k : Nat) : Int) != ((x : Nat) : Int)) = false := by rw [bne, he]; simp
        have HE := Lib.hid he
        clear he
        go_wp2_with fail
        go_roundg (a.n - k - 1)
        case rel => exact ⟨k + 1, g, cp, by omega, by go_num, by rw [front_succ, if_pos HE.out], by rw [front_succ, if_pos HE.out]; exact O1.out, XB.out, HB.out⟩
        case measure => omega
      · have hne : (((k : Nat) : Int) != ((x : Nat) : Int)) = true := by rw [bne_iff_ne]; omega
        have HE := Lib.hid he
        clear he
        go_wp2_with (at_builtin; refine wpList_append_own_at _ rfl (.tmp 29) (.tmp 31) 30 rfl w.heap.size 3 i0 (.int .i64 0) 1 8 Tryd.underlying30 hi hz0 hz1 hz2 rfl (by decide) _ (frontL k x).length (intsV (natsI (frontL k x))) rfl (O1.out.alloc _) ⟨wo.heap.size, 0, none⟩ 1 1 [.int .i64 (k : Nat)] rfl rfl (cell_one_new _ _ _) (ints_oneCell .i64 [((k : Nat) : Int)]) (by unfold maxLen; omega) (by omega) (by have := HB.out.size; first | omega | (simp; omega)) ?_; intro v5 w5 ho5 hg5 hn5 hat5; clear hn5 hat5; obtain ⟨g5, cp5, rfl⟩ := own_form ho5; have E5 := Lib.hid ((HB.out.alloc HB.out.size (.cells #[.int .i64 (k : Nat)] 3)).grown hg5 (by have := HB.out.size; simp; omega) (fun j hj => (O1.out.lt j hj).1)); have X5 := Lib.hid ((XB.out.alloc (.cells #[.int .i64 (k : Nat)] 3)).grown hg5 (own_apart O1.out XB.out (by decide))); have Z5 := Lib.hid ho5; clear ho5 hg5)
        go_roundg (a.n - k - 1)
        case rel => exact ⟨k + 1, g5, cp5, by omega, by go_num, by rw [front_succ, if_neg HE.out, List.length_append]; rfl, by rw [front_succ, if_neg HE.out, natsI_snoc, List.length_append]; exact Z5.out, X5.out, E5.out⟩
        case measure => omega
    · obtain rfl : k = a.n := by omega
      have hgk : gk = 0 := by omega
      subst hgk
      clear hlt hk
      have LO := Lib.hid (LRow_of O1.out)
      rw [HML.out]
      obtain ⟨x0, x1, x2⟩ := box_load XB.out
      go_wp2_with fail
      go_loopg [8, 9] (a.n - 1) (fun q ov xv wr => ∃ m : Nat, m + 1 + q = a.n ∧ ov = .string (bs (quL 1 m)) ∧ xv = .int .i64 ((m + 1 : Nat) : Int) ∧ wr = wo)
      case atStart => exact ⟨0, by omega, rfl, rfl, rfl⟩
      case round =>
        obtain ⟨m, hm, rfl, rfl, rfl⟩ := hrel
        have hqz : (bs (quL 1 m)).size ≤ 20 := by rw [bs_size, quL_len]; omega
        by_cases hlt : m + 1 < a.n
        · have hs1 := nm_size (m + 1)
          go_wp2_with fail
          refine (nameOf_calls (m + 1) (by omega) _).mono ?_
          rintro e w2 ⟨rfl, rfl⟩
          go_wp2_with fail
          go_roundg (a.n - m - 1 - 1)
          case rel => exact ⟨m + 1, by omega, str_eq (by have := quL_cat 1 m; rwa [Nat.add_comm 1 m] at this), by go_num, rfl⟩
          case measure => omega
        · obtain rfl : m = a.n - 1 := by omega
          have hgk : gk = 0 := by omega
          subst hgk
          clear hlt hm
          go_wp2_with fail
          refine (HPA.out _ cp _ LO.out).mono ?_
          rintro e w2 ⟨rfl, hz⟩
          have B2 := Lib.hid (HB.out.trans (hz.mono HB.out.size))
          clear hz x0 x1 x2
          go_wp2_with fail
          refine (HDB.out _).mono ?_
          rintro e w3 ⟨rfl, hz⟩
          have B3 := Lib.hid (B2.out.trans (hz.mono B2.out.size))
          clear hz
          go_wp2_with fail
          refine (HSF.out _).mono ?_
          rintro e w4 ⟨rfl, rfl⟩
          go_wp2_with fail
          go_ret2
          exact ⟨rfl, B3.out⟩

end Go.Proofs.YtpaleogkgfclnaaDoor

namespace Go.Proofs.YtpaleogkgfclnaaDoor
namespace R3
open Go.RowKit
set_option linter.unusedVariables false

/-- orders: an operation that is taken first, one that alone may come up, two that may -/
inductive Tr where
  | nil
  | take (i : Nat) (t : Tr)
  | one (i : Nat) (t : Tr)
  | two (i j : Nat) (t u : Tr)

section
variable {P : Program} {ops : Array Oper} {Q : Exit → Act → World → Prop} {md : Region.Mode} {S : World → Prop}

def okR (md : Region.Mode) (ops : Array Oper) : Tr → Nat → Array Bool → Bool
  | .nil, n, l => n == 0 && (Region.ready md ops l).isEmpty
  | .take i t, n, l => n != 0 && (Region.free md ops l i && ((Region.ready md ops l).contains i && okR md ops t (n - 1) (l.setIfInBounds i true)))
  | .one i t, n, l => n != 0 && ((Region.ready md ops l == [i]) && okR md ops t (n - 1) (l.setIfInBounds i true))
  | .two i j t u, n, l => n != 0 && ((Region.ready md ops l == [i, j]) && (okR md ops t (n - 1) (l.setIfInBounds i true) && okR md ops u (n - 1) (l.setIfInBounds j true)))

def wpR (P : Program) (ops : Array Oper) (Q : Exit → Act → World → Prop) (S : World → Prop) : Tr → Act → World → Prop
  | .nil, a, w => Q .normal a w
  | .take i t, a, w => ∃ o v, ops[i]? = some o ∧ YieldsIf P ops S o v a ∧ wpR P ops Q S t (a.put o.dst v) w
  | .one i t, a, w => wpOp P ops Q i (fun a' w' => S w' ∧ wpR P ops Q S t a' w') a w
  | .two i j t u, a, w => wpOp P ops Q i (fun a' w' => S w' ∧ wpR P ops Q S t a' w') a w ∧ wpOp P ops Q j (fun a' w' => S w' ∧ wpR P ops Q S u a' w') a w

theorem anyH_tree (hs : Region.noSelect ops = true) (hQ : ∀ t c a w, Q (.panic c) { a with tmps := t } w → Q (.panic c) a w) :
    ∀ (t : Tr) (n : Nat) (l : Array Bool) (a : Act) (w : World), okR md ops t n l = true → S w → wpR P ops Q S t a w → wpAnyH P md ops Q S n l a w := by
  intro t
  induction t with
  | nil =>
    intro n l a w h _ hw
    simp only [okR, Bool.and_eq_true, beq_iff_eq, List.isEmpty_iff] at h
    obtain ⟨rfl, h2⟩ := h
    exact ⟨h2, hw⟩
  | take i t ih =>
    intro n l a w h hS hw
    simp only [okR, Bool.and_eq_true, bne_iff_ne] at h
    obtain ⟨hn, h1, h2, h3⟩ := h
    obtain ⟨m, rfl⟩ : ∃ m, n = m + 1 := ⟨n - 1, by omega⟩
    obtain ⟨o, v, ho, hy, hr⟩ := hw
    exact wpAnyH_take ho hs h1 h2 (fun c a w h => by cases hd : o.dst with | none => rw [hd] at h; exact h | some d => rw [hd] at h; exact hQ _ c a w h) hy hS (ih _ _ _ _ h3 hS hr)
  | one i t ih =>
    intro n l a w h hS hw
    simp only [okR, Bool.and_eq_true, bne_iff_ne, beq_iff_eq] at h
    obtain ⟨hn, h1, h3⟩ := h
    obtain ⟨m, rfl⟩ : ∃ m, n = m + 1 := ⟨n - 1, by omega⟩
    refine wpAnyH_all h1 (by simp) fun j hj => ?_
    obtain rfl : j = i := by simpa using hj
    exact wpOp_mono (fun a' w' hk => ⟨hk.1, ih _ _ _ _ h3 hk.1 hk.2⟩) hw
  | two i j t u iht ihu =>
    intro n l a w h hS hw
    simp only [okR, Bool.and_eq_true, bne_iff_ne, beq_iff_eq] at h
    obtain ⟨hn, h1, h3, h4⟩ := h
    obtain ⟨m, rfl⟩ : ∃ m, n = m + 1 := ⟨n - 1, by omega⟩
    refine wpAnyH_all h1 (by simp) fun k hk => ?_
    have hk2 : k = i ∨ k = j := by simpa using hk
    rcases hk2 with rfl | rfl
    · exact wpOp_mono (fun a' w' hk => ⟨hk.1, iht _ _ _ _ h3 hk.1 hk.2⟩) hw.1
    · exact wpOp_mono (fun a' w' hk => ⟨hk.1, ihu _ _ _ _ h4 hk.1 hk.2⟩) hw.2

/-- the same, behind a name that nothing unfolds -/
structure Sd (P : Program) (ops : Array Oper) (Q : Exit → Act → World → Prop) (S : World → Prop) (t : Tr) (a : Act) (w : World) : Prop where
  out : wpR P ops Q S t a w

theorem region_tree {id : Nat} {a : Act} {w : World} (t : Tr) (S : World → Prop) (hm : P.follows .mixedOrders = true) (hs : Region.noSelect ops = true)
    (hk : okR .any ops t ops.size (Array.replicate ops.size false) = true) (hQ : ∀ t c a w, Q (.panic c) { a with tmps := t } w → Q (.panic c) a w) (hS : S w.drew)
    (h : ∀ Q' : Exit → Act → World → Prop, Hid (∀ a' w', Q .normal a' w' → Q' .normal a' w') → Sd P ops Q' S t a w.drew) : (Code.region id ops true).wp P Q a w :=
  wp_region_held (S := S) hm (anyH_tree (md := .any) (S := S) hs hQ t ops.size _ a w.drew hk hS (h Q (Lib.hid fun _ _ h => h)).out)

theorem tree_take {i : Nat} {t : Tr} {a : Act} {w : World} {o : Oper} {v : Value} {a' : Act} (ho : ops[i]? = some o) (hw : Region.wanted o (yielded ops a.tmps) = true) (hy : ∀ w, S w → (execOp a.eval o).run P w = .ok (.value v) w)
    {d : Tmp} (hd : o.dst = some d) (ha : a.put (some d) v = a') (h : Sd P ops Q S t a' w) : Sd P ops Q S (.take i t) a w := ⟨⟨o, v, ho, .inl ⟨hw, hy⟩, by rw [hd, ha]; exact h.out⟩⟩
theorem tree_one {i : Nat} {t : Tr} {a : Act} {w : World} {o : Oper} (ho : ops[i]? = some o) (hw : Region.wanted o (yielded ops a.tmps) = true)
    (h : ∀ K : Act → World → Prop, Hid (∀ a' w', S w' → Sd P ops Q S t a' w' → K a' w') → o.wp P a w K Q) : Sd P ops Q S (.one i t) a w := by
  refine ⟨?_⟩
  show wpOp P ops Q i _ a w
  unfold wpOp
  simp only [ho, hw, if_true]
  exact .inl (h _ (Lib.hid fun _ _ h1 h2 => ⟨h1, h2.out⟩))
theorem tree_two {i j : Nat} {t u : Tr} {a : Act} {w : World} (h1 : Sd P ops Q S (.one i t) a w) (h2 : Sd P ops Q S (.one j u) a w) : Sd P ops Q S (.two i j t u) a w := ⟨⟨h1.out, h2.out⟩⟩
theorem tree_lay {t : Tr} {a a' : Act} {w : World} (ha : a = a') (h : Sd P ops Q S t a' w) : Sd P ops Q S t a w := by rw [ha]; exact h
theorem tree_done {a : Act} {w : World} (h : Q .normal a w) : Sd P ops Q S .nil a w := ⟨h⟩

/-- an append, at an operation -/
theorem wp_app {o : Oper} {a : Act} {w : World} {K : Act → World → Prop} (s x : Operand) (t : TypeId)
    (ho : o.op = .call { callee := .builtin .append, args := #[s, x], argTypes := #[t, t] })
    (base : Nat) (e : TypeId) (i : TypeInfo) (z : Value) (size bytes : Nat) (ht : P.underlying t = some (.slice e)) (hi : P.info? e = some i) (hz : i.zero = some z)
    (hsize : i.size = size) (hby : i.bytes = bytes) (hzs : z.cells.size = size) (hsz : 0 < size)
    (v : Value) (n : Nat) (xs : List Value) (hs : a.eval s = v) (hown : w.ownsRow base e size v n xs)
    (ad : Addr) (m c : Nat) (news : List Value) (hx : a.eval x = .slice (some ad) m c) (hl : news.length = m * size) (hnews : ∀ j u, news[j]? = some u → w.cell? (ad.add j) = some u) (h1 : ∀ u ∈ news, u.oneCell' = true)
    (h63 : n + m ≤ maxLen) (hbytes : (n + m) * bytes ≤ 140737488355328) (hbase : base ≤ w.heap.size)
    (h : ∀ v' w', w'.ownsRow base e size v' (n + m) (xs ++ news) → w.grownBy w' v.ownBlock → K (a.put o.dst v') w') : o.wp P a w K Q := by
  obtain ⟨v', w', hr, h2, h3, _, _⟩ := run_append_own_at (P := P) w base t o.type e i z size bytes ht hi hz hsize hby hzs hsz v n xs hown ad m c news hl hnews h1 h63 hbytes hbase
  unfold Oper.wp execOp
  simp only [ho, resolve, invoke, builtin, Sem.run_bind, Sem.run_pure, Result.andThen_ok, List.map_toArray, List.map_cons, List.map_nil, hs, hx, hr]
  exact h v' w' h2 h3
end
end R3
end Go.Proofs.YtpaleogkgfclnaaDoor
