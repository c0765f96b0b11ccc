/-
  Laws of the functions that the claim reaches, one after the other (packed by a program of the prover's: Free, SHolds0, SHolds1, SHoldse, SHoldsr, SHolds2, SHoldsA, SHoldsS, SHoldsc2, SHoldsc3, SHoldsc4, SHolds, StV, SHAt, FmB, GsH, FvP, JnP, DesP, PartOf, Own, DsV, Each, Each2, Count, SOrders, SOrder, SPart, SFits). Conditions: texts below the reach.
-/
import Derived.Test.YtpaleogkgfclnaaGreatDoorPg4
import Derived.Test.YtpaleogkgfclnaaGreatDoorPg7
import Derived.Test.YtpaleogkgfclnaaGreatDoorPg0
import Derived.Test.YtpaleogkgfclnaaGreatDoorPg2
import Derived.Test.YtpaleogkgfclnaaGreatDoorPg6
import Derived.Test.YtpaleogkgfclnaaGreatDoorPg3
import Derived.Test.YtpaleogkgfclnaaGreatDoorPg1
import Derived.Laws.EntriesVeiled
set_option linter.unusedSimpArgs false
set_option linter.unusedVariables false

namespace Go.Proofs.YtpaleogkgfclnaaGreatDoor
open Go.RowKit
open Pl
set_option linter.unusedSimpArgs false

theorem varI_of {s : ByteArray} {k : Nat} {v : Fin 4} {r : List UInt8} (h : s.data.toList.drop k = vb v :: r) : varI s.data.toList k = v.val := by
  have h1 : s.data.toList[k]? = some (vb v) := by
    have h2 : (s.data.toList.drop k)[0]? = some (vb v) := by rw [h]; rfl
    simpa using h2
  unfold varI
  rw [h1]
  simp [varOf_vb]

theorem one_bit (v : Fin 4) : wrap64 (2 ^ v.val) = ((1 <<< v.val : Nat) : Int) := by revert v; decide +kernel

/-- the free variables' text, for a formula -/
noncomputable def txtV (l : List UInt8) (g : Fm → List UInt8) : ByteArray := match parse l with | some (f, []) => if l.length ≤ 4000 then bs (g f) else bs [] | _ => bs []

theorem txtV_yes {l : List UInt8} {f : Fm} (g : Fm → List UInt8) (h : l = f.text) (hl : l.length ≤ 4000) : txtV l g = bs (g f) := by
  unfold txtV
  rw [parse_some.2 (show l = f.text ++ [] by rw [h]; simp)]
  simp [hl]

theorem txtV_no {l : List UInt8} (g : Fm → List UInt8) (h : ¬ IsFm l) : txtV l g = bs [] := by
  unfold txtV
  cases hp : parse l with
  | none => rfl
  | some x =>
    obtain ⟨f, r⟩ := x
    cases r with
    | nil =>
      have := parse_some.1 hp
      by_cases hl : l.length ≤ 4000
      · exact absurd ⟨hl, f, by simpa using this⟩ h
      · simp [hl]
    | cons a r => rfl

def freeT (f : Fm) : List UInt8 := varsL f.freeBits 4

theorem FreeVars_impl (s : ByteArray) (w : World) :
    Calls Tryz.prog 12 #[.string s] w fun e w' => e = .returned (.string (txtV s.data.toList freeT)) ∧ Below w.heap.size w w' := by
  rcases fm_cases s with ⟨hb, hno⟩ | ⟨f, hb, hf, hs4, hl4⟩
  · rw [txtV_no freeT hno]
    have Hno := Lib.hid hno
    clear hb hno
    go_enter Tryz.func12, Tryz.ntmps12
    go_wp2_with (go_at_call 37; refine (parseFormula_no s w Hno.out).mono ?_; rintro e w1 ⟨rfl, hb1⟩)
    go_ret
    exact ⟨rfl, hb1⟩
  · rw [txtV_yes freeT hf (by rw [hf]; exact hl4)]
    have Hf := Lib.hid hf
    clear hb hf
    go_enter Tryz.func12, Tryz.ntmps12
    go_wp2_with (first | (go_at_call 37; refine (parseFormula_yes s f w hs4 Hf.out).mono ?_; rintro e w1 ⟨b, rfl, htr, hb1⟩; obtain ⟨_, _, _, _, _, _, hc3, _⟩ := node_cells htr; clear htr) | (go_at_call 38; refine (varsText_calls _ (freeBits_lt f) _).mono ?_; rintro e w' ⟨rfl, rfl⟩))
    go_ret
    exact ⟨rfl, hb1⟩

end Go.Proofs.YtpaleogkgfclnaaGreatDoor

namespace Go.Proofs.YtpaleogkgfclnaaGreatDoor
open Go.RowKit
open Pl
set_option linter.unusedSimpArgs false
set_option linter.unusedVariables false

theorem cnt_split (n x : Nat) (p : Nat → Bool) (h : x ≤ n) : Pl.cnt x p ≤ Pl.cnt n p ∧ Pl.cnt n p ≤ Pl.cnt x p + (n - x) := by
  induction n with
  | zero => obtain rfl : x = 0 := by omega
            exact ⟨Nat.le_refl _, by omega⟩
  | succ n ih =>
    by_cases hx : x = n + 1
    · subst hx; exact ⟨Nat.le_refl _, by omega⟩
    · have := ih (by omega)
      rw [cnt_succ]
      split <;> omega
/-- how many a quantifier asks -/
def Pl.Qn.need (k : Qn) (n : Nat) : Nat := match k with | .A => n | .S => 1 | .c2 => 2 | .c3 => 3 | .c4 => 4
theorem says_need (k : Qn) {n c : Nat} (h : c ≤ n) : k.says n c = decide (k.need n ≤ c) := by
  rw [Bool.eq_iff_iff, decide_eq_true_eq]
  cases k
  · show (c == n) = true ↔ n ≤ c
    rw [beq_iff_eq]; omega
  · show decide (0 < c) = true ↔ 1 ≤ c
    rw [decide_eq_true_eq]; omega
  · show decide (2 ≤ c) = true ↔ 2 ≤ c
    rw [decide_eq_true_eq]
  · show decide (3 ≤ c) = true ↔ 3 ≤ c
    rw [decide_eq_true_eq]
  · show decide (4 ≤ c) = true ↔ 4 ≤ c
    rw [decide_eq_true_eq]
theorem says_enough (k : Qn) {n x : Nat} {p : Nat → Bool} (hx : x ≤ n) (h : k.need n ≤ Pl.cnt x p) : k.says n (Pl.cnt n p) = true := by
  rw [says_need k (cnt_le n p), decide_eq_true_eq]
  have := cnt_split n x p hx
  omega
theorem says_never (k : Qn) {n x : Nat} {p : Nat → Bool} (hx : x ≤ n) (h : Pl.cnt x p + (n - x) < k.need n) : k.says n (Pl.cnt n p) = false := by
  rw [says_need k (cnt_le n p), decide_eq_false_iff_not]
  have := cnt_split n x p hx
  omega
/-- the elements of the four variables, as a value -/
def envA4 (e : Env) : Array Value := #[.int .i64 (e 0 : Nat), .int .i64 (e 1 : Nat), .int .i64 (e 2 : Nat), .int .i64 (e 3 : Nat)]
theorem envA_upd (e : Env) (v : Fin 4) (x : Nat) : (envA4 e).setIfInBounds v.val (.int .i64 (x : Nat)) = envA4 (upd e v x) := by
  have : v = 0 ∨ v = 1 ∨ v = 2 ∨ v = 3 := by revert v; decide
  rcases this with rfl | rfl | rfl | rfl <;> rfl
theorem env_at (e : Env) (v : Fin 4) : (envA4 e)[v.val]? = some (.int .i64 (e v : Nat)) := by
  have : v = 0 ∨ v = 1 ∨ v = 2 ∨ v = 3 := by revert v; decide
  rcases this with rfl | rfl | rfl | rfl <;> rfl
theorem upd_upd (e e' : Env) (v : Fin 4) (x : Nat) (h : ∀ u, u ≠ v → e' u = e u) : upd e' v x = upd e v x := by
  funext u
  unfold upd
  by_cases hu : u = v
  · simp [hu]
  · simp [hu, h u hu]

end Go.Proofs.YtpaleogkgfclnaaGreatDoor

namespace Go.Proofs.YtpaleogkgfclnaaGreatDoor
open Go.RowKit
open Pl
set_option linter.unusedSimpArgs false
set_option linter.unusedVariables false

end Go.Proofs.YtpaleogkgfclnaaGreatDoor

namespace Go.Proofs.YtpaleogkgfclnaaGreatDoor
open Go.RowKit
open Pl
set_option linter.unusedSimpArgs false
set_option linter.unusedVariables false

end Go.Proofs.YtpaleogkgfclnaaGreatDoor

namespace Go.Proofs.YtpaleogkgfclnaaGreatDoor
open Go.RowKit
open Pl
set_option linter.unusedSimpArgs false
set_option linter.unusedVariables false

end Go.Proofs.YtpaleogkgfclnaaGreatDoor

namespace Go.Proofs.YtpaleogkgfclnaaGreatDoor
open Go.RowKit
open Pl
set_option linter.unusedSimpArgs false
set_option linter.unusedVariables false

end Go.Proofs.YtpaleogkgfclnaaGreatDoor

namespace Go.Proofs.YtpaleogkgfclnaaGreatDoor
open Go.RowKit
open Pl
set_option linter.unusedSimpArgs false
set_option linter.unusedVariables false

end Go.Proofs.YtpaleogkgfclnaaGreatDoor

namespace Go.Proofs.YtpaleogkgfclnaaGreatDoor
open Go.RowKit
open Pl
set_option linter.unusedSimpArgs false
set_option linter.unusedVariables false

end Go.Proofs.YtpaleogkgfclnaaGreatDoor

namespace Go.Proofs.YtpaleogkgfclnaaGreatDoor
open Go.RowKit
open Pl
set_option linter.unusedSimpArgs false
set_option linter.unusedVariables false

end Go.Proofs.YtpaleogkgfclnaaGreatDoor

namespace Go.Proofs.YtpaleogkgfclnaaGreatDoor
open Go.RowKit
open Pl
set_option linter.unusedSimpArgs false
set_option linter.unusedVariables false

end Go.Proofs.YtpaleogkgfclnaaGreatDoor

namespace Go.Proofs.YtpaleogkgfclnaaGreatDoor
open Go.RowKit
open Pl
set_option linter.unusedSimpArgs false
set_option linter.unusedVariables false

end Go.Proofs.YtpaleogkgfclnaaGreatDoor

namespace Go.Proofs.YtpaleogkgfclnaaGreatDoor
open Go.RowKit
open Pl
set_option linter.unusedSimpArgs false
set_option linter.unusedVariables false

end Go.Proofs.YtpaleogkgfclnaaGreatDoor

namespace Go.Proofs.YtpaleogkgfclnaaGreatDoor
open Go.RowKit
open Pl
set_option linter.unusedSimpArgs false
set_option linter.unusedVariables false

end Go.Proofs.YtpaleogkgfclnaaGreatDoor

namespace Go.Proofs.YtpaleogkgfclnaaGreatDoor
open Go.RowKit
open Pl
set_option linter.unusedSimpArgs false
set_option linter.unusedVariables false

theorem div_natS (m k : Nat) : (m : Int) / 2 ^ k = ((m / 2 ^ k : Nat) : Int) := by
  rw [Int.natCast_ediv, Int.natCast_pow]; rfl
theorem st_ofS {i : Int} {s r : ByteArray} (h : okB i s r = true) : ∃ a : St, a.ok ∧ i = a.n ∧ s = bs a.set ∧ r = bs a.rel := by
  rcases ok_cases i s r with h2 | h2
  · rw [h] at h2; cases h2
  · exact h2
theorem el_inS (n : Nat) (z : Int) : (decide (0 ≤ z) && decide (z ≤ (n : Int) - 1)) = elB n z := by
  unfold elB
  congr 1
  rw [decide_eq_decide]; omega
theorem elAll_of {i : Int} {zs : List Int} (h : ∀ j, j < zs.length → elB i (zs.getD j 0) = true) : elAll i zs = true := by
  unfold elAll
  rw [List.all_eq_true]
  intro z hz
  obtain ⟨j, hj, rfl⟩ := List.getElem_of_mem hz
  have := h j hj
  rwa [List.getD_eq_getElem?_getD, List.getElem?_eq_getElem hj] at this
theorem elAll_not {i : Int} {zs : List Int} {j : Nat} (hj : j < zs.length) (h : elB i (zs.getD j 0) = false) : elAll i zs = false := by
  refine Bool.eq_false_iff.2 fun hq => ?_
  unfold elAll at hq
  have := List.all_eq_true.1 hq (zs.getD j 0) (by rw [List.getD_eq_getElem?_getD, List.getElem?_eq_getElem hj]; exact List.getElem_mem hj)
  rw [h] at this; cases this
/-- the elements so far -/
def envK (zs : List Int) (k : Nat) : Env := fun v => if v.val < k then (zs.getD v.val 0).toNat else 0
theorem envK_succ (zs : List Int) (k : Nat) (hk : k < 4) (x : Nat) (hx : zs.getD k 0 = (x : Int)) : upd (envK zs k) ⟨k, hk⟩ x = envK zs (k + 1) := by
  funext u
  unfold upd envK
  by_cases hu : u = ⟨k, hk⟩
  · subst hu
    simp only [if_true, hx]
    rw [if_pos (by omega)]
    rfl
  · have : u.val ≠ k := fun e => hu (Fin.ext e)
    rw [if_neg hu]
    by_cases h2 : u.val < k
    · rw [if_pos h2, if_pos (by omega)]
    · rw [if_neg h2, if_neg (by omega)]
theorem envK_all (zs : List Int) : envK zs zs.length = envL (zs.map Int.toNat) := by
  funext u
  unfold envK envL
  by_cases h : u.val < zs.length
  · rw [if_pos h, List.getD_eq_getElem?_getD, List.getD_eq_getElem?_getD, List.getElem?_map, List.getElem?_eq_getElem h]; rfl
  · rw [if_neg h, List.getD_eq_getElem?_getD, List.getElem?_map, List.getElem?_eq_none (by omega)]; rfl

end Go.Proofs.YtpaleogkgfclnaaGreatDoor

namespace Go.Proofs.YtpaleogkgfclnaaGreatDoor
open Pl
set_option linter.unusedSimpArgs false
set_option linter.unusedVariables false

theorem fm_bs {g : Fm} (h : g.text.length ≤ 4000) : fmB (bs g.text).data.toList = true := fmB_true.2 ⟨by simpa [bs] using h, g, by simp [bs]⟩
theorem bs_list (l : List UInt8) : (bs l).data.toList = l := by simp [bs]
theorem elAll_of_nats {n : Nat} {ns : List Nat} (h : ∀ x ∈ ns, x < n) : elAll n (natsI ns) = true := by
  unfold elAll
  rw [List.all_eq_true]
  intro z hz
  obtain ⟨x, hx, rfl⟩ := List.mem_map.1 hz
  have := h x hx
  unfold elB
  simp
  omega
theorem natsI_back (l : List Nat) : (natsI l).map Int.toNat = l := by
  unfold natsI
  rw [List.map_map]
  conv => rhs; rw [← List.map_id l]
  exact List.map_congr_left fun x _ => by simp

/-- HoldsAt of a formula, with elements for all that is free -/
theorem hold_fm {a : St} (ha : a.ok) {g : Fm} (hg : g.text.length ≤ 4000) {ns : List Nat} (hn : ∀ x ∈ ns, x < a.n) (hl : ns.length ≤ 4) (hf : g.freeBits / 2 ^ ns.length = 0) :
    holdB a.n (bs a.set) (bs a.rel) (bs g.text) (natsI ns) = true ∧ holdV a.n (bs a.set) (bs a.rel) (bs g.text) (natsI ns) = g.holds a (envL ns) := by
  have h1 : rdyB a.n (bs a.set) (bs a.rel) (bs g.text) (natsI ns).length = true := by
    rw [rdy_of (fm_bs hg) (bs_list _) ha, natsI_len, decide_eq_true hf]
  have h2 := hold_yes h1 (by rw [natsI_len]; exact hl) (elAll_of_nats hn)
  refine ⟨h2, ?_⟩
  rw [hold_yesV h2, natsI_back, tru_of (bs_list _)]
theorem hold_four {a : St} (ha : a.ok) {g : Fm} (hg : g.text.length ≤ 4000) {ns : List Nat} (hn : ∀ x ∈ ns, x < a.n) (hl : ns.length = 4) :
    holdV a.n (bs a.set) (bs a.rel) (bs g.text) (natsI ns) = g.holds a (envL ns) :=
  (hold_fm ha hg hn (by omega) (by have := freeBits_lt g; rw [hl]; omega)).2
/-- HoldsAt of anything: no, or a formula, a structure and elements -/
theorem hold_cases (i : Int) (s r f : ByteArray) (zs : List Int) : (holdB i s r f zs = false ∧ holdV i s r f zs = false) ∨
    ∃ (a : St) (g : Fm) (ns : List Nat), a.ok ∧ i = a.n ∧ s = bs a.set ∧ r = bs a.rel ∧ f = bs g.text ∧ g.text.length ≤ 4000 ∧ zs = natsI ns ∧ (∀ x ∈ ns, x < a.n) ∧ ns.length ≤ 4 ∧ g.freeBits / 2 ^ ns.length = 0 ∧ holdB i s r f zs = true ∧ holdV i s r f zs = g.holds a (envL ns) := by
  cases h : holdB i s r f zs with
  | false => exact .inl ⟨rfl, hold_no h⟩
  | true =>
    right
    have h0 := h
    unfold holdB rdyB at h
    simp only [Bool.and_eq_true, decide_eq_true_eq] at h
    obtain ⟨⟨h1, h2, h3⟩, h4, h5⟩ := h
    rcases ok_cases i s r with hq | ⟨a, ha, rfl, rfl, rfl⟩
    · rw [h1] at hq; cases hq
    rcases fm_cases f with ⟨hq, _⟩ | ⟨g, hb, hf, hs4, hl4⟩
    · rw [h2] at hq; cases hq
    obtain ⟨e1, e2⟩ := elAll_nats h5
    rw [fmOf_eq hf] at h3
    refine ⟨a, g, zs.map Int.toNat, ha, rfl, rfl, rfl, eq_bs hf, hl4, e1, e2, by simpa using h4, by simpa using h3, rfl, ?_⟩
    rw [hold_yesV h0, tru_of hf]

theorem text_app (l m : List UInt8) : bs l ++ bs m = bs (l ++ m) := by rw [append_bs, bs_list, bs_list]
theorem mk_bs (x : Array UInt8) : ByteArray.mk x = bs x.toList := by unfold bs; simp

end Go.Proofs.YtpaleogkgfclnaaGreatDoor

namespace Go.Proofs.YtpaleogkgfclnaaGreatDoor
open Go.RowKit
open Pl
set_option linter.unusedSimpArgs false
set_option linter.unusedVariables false

theorem st_len {a : St} (ha : a.ok) : (bs a.set).size ≤ maxLen ∧ (bs a.rel).size ≤ maxLen := by have := st_small ha; unfold maxLen; omega
theorem four_cells {W : World} {g a b c d : Nat} (h : LRow W (some ⟨g, 0, none⟩) (natsI [a, b, c, d])) : W.cell? ⟨g, 0, none⟩ = some (.int .i64 (a : Nat)) ∧ W.cell? ⟨g, 1, none⟩ = some (.int .i64 (b : Nat)) ∧ W.cell? ⟨g, 2, none⟩ = some (.int .i64 (c : Nat)) ∧ W.cell? ⟨g, 3, none⟩ = some (.int .i64 (d : Nat)) := by
  obtain ⟨g', hg, hc⟩ := h (by simp [natsI])
  injection hg with hg
  injection hg with hg _ _
  subst hg
  exact ⟨hc 0 (by simp [natsI]), hc 1 (by simp [natsI]), hc 2 (by simp [natsI]), hc 3 (by simp [natsI])⟩
theorem LRow_four (W : World) (a b c d : Nat) : LRow (W.alloc (.cells #[.int .i64 (a : Nat), .int .i64 (b : Nat), .int .i64 (c : Nat), .int .i64 (d : Nat)] 3)) (some ⟨W.heap.size, 0, none⟩) (natsI [a, b, c, d]) := fun _ => ⟨_, rfl, fun i hi => by
  have hx := Bx.new W 3 #[.int .i64 (a : Nat), .int .i64 (b : Nat), .int .i64 (c : Nat), .int .i64 (d : Nat)]
  have : i = 0 ∨ i = 1 ∨ i = 2 ∨ i = 3 := by simp [natsI] at hi; omega
  rcases this with rfl | rfl | rfl | rfl
  · exact hx.cell 0
  · exact hx.cell 1
  · exact hx.cell 2
  · exact hx.cell 3⟩
theorem len4 {ns : List Nat} (h : ns.length = 4) : ∃ a b c d, ns = [a, b, c, d] := by
  match ns, h with
  | [a, b, c, d], _ => exact ⟨a, b, c, d, rfl⟩

end Go.Proofs.YtpaleogkgfclnaaGreatDoor

namespace Go.Proofs.YtpaleogkgfclnaaGreatDoor
open Go.RowKit
open Pl
set_option linter.unusedSimpArgs false
set_option linter.unusedVariables false

theorem vars_at (m : Nat) : ∀ n, n ≤ 4 → ∀ k, k < (varsL m n).length → ∃ v : Fin 4, (varsL m n).getD k 0 = vb v := by
  intro n
  induction n with
  | zero => intro _ k hk; simp [varsL] at hk
  | succ n ih =>
    intro hn k hk
    cases h : m.testBit n with
    | false => rw [varsL_no h] at hk ⊢; exact ih (by omega) k hk
    | true =>
      rw [varsL_yes h] at hk ⊢
      by_cases hlt : k < (varsL m n).length
      · obtain ⟨v, hv⟩ := ih (by omega) k hlt
        refine ⟨v, ?_⟩
        rw [← hv, List.getD_eq_getElem?_getD, List.getD_eq_getElem?_getD, List.getElem?_append_left hlt]
      · have : k = (varsL m n).length := by simp at hk; omega
        refine ⟨⟨n, by omega⟩, ?_⟩
        rw [this, List.getD_eq_getElem?_getD]
        simp [vb]
theorem vars_mem (m : Nat) {n k : Nat} (hk : k < n) (h : m.testBit k = true) : UInt8.ofNat (97 + k) ∈ varsL m n := by
  unfold varsL
  exact List.mem_map.2 ⟨k, List.mem_filter.2 ⟨List.mem_range.2 hk, h⟩, rfl⟩
/-- an element that is not free may be changed -/
theorem holds_set {a : St} {g : Fm} {ns : List Nat} {k x : Nat} (hk : k < 4) (h : g.freeBits.testBit k = false) : g.holds a (envL (ns.set k x)) = g.holds a (envL ns) := by
  apply holds_free
  intro v hv
  have hne : v.val ≠ k := by
    intro e
    unfold Fm.isFree at hv
    rw [e, h] at hv
    cases hv
  unfold envL
  rw [List.getD_eq_getElem?_getD, List.getD_eq_getElem?_getD, List.getElem?_set_ne (Ne.symm hne)]
theorem holds_some {a : St} {q : Fm} {e : Env} {v : Fin 4} (hv : e v < a.n) (h : q.holds a e = true) : (Fm.qu .S v q).holds a e = true := by
  show decide (0 < Pl.cnt a.n (fun x => q.holds a (upd e v x))) = true
  rw [decide_eq_true_eq]
  have he : upd e v (e v) = e := by
    funext u
    by_cases hu : u = v
    · subst hu; rw [upd_same]
    · rw [upd_other hu]
  have h1 := cnt_split a.n (e v + 1) (fun x => q.holds a (upd e v x)) (by omega)
  have h2 := cnt_succ (e v) (fun x => q.holds a (upd e v x))
  simp only [he, h, if_true] at h2
  omega
/-- HoldsIn of a formula: no, or no free variables -/
theorem in_cases {a : St} (ha : a.ok) {q : Fm} (hq : q.text.length ≤ 4000) (e : Env) : holdB a.n (bs a.set) (bs a.rel) (bs q.text) [] = false ∨ (holdB a.n (bs a.set) (bs a.rel) (bs q.text) [] = true ∧ holdV a.n (bs a.set) (bs a.rel) (bs q.text) [] = q.holds a e) := by
  by_cases h0 : q.freeBits = 0
  · right
    have := hold_fm ha hq (ns := []) (by simp) (by simp) (by rw [h0]; rfl)
    refine ⟨this.1, this.2.trans (holds_free a q _ _ fun v hv => ?_)⟩
    unfold Fm.isFree at hv
    rw [h0] at hv
    simp at hv
  · left
    cases h : holdB a.n (bs a.set) (bs a.rel) (bs q.text) [] with
    | false => rfl
    | true =>
      exfalso
      unfold holdB at h
      simp only [Bool.and_eq_true] at h
      have h1 := h.1
      rw [show (([] : List Int).length) = 0 from rfl, rdy_of (fm_bs hq) (bs_list _) ha] at h1
      simp at h1
      exact h0 h1
theorem ext_one {l : List UInt8} {k : Nat} (h : k < l.length) : (bs l).extract k (k + 1) = bs [l.getD k 0] := by
  apply eq_bs
  rw [Lib.extract_data, bs_list]
  rw [List.getD_eq_getElem?_getD, List.getElem?_eq_getElem h]
  rw [show k + 1 = k + 1 from rfl]
  apply List.ext_getElem
  · simp; omega
  · intro i h1 h2
    simp at h2
    subst h2
    simp
theorem cmp_at {l : List UInt8} {k m : Nat} (hk : k < 4) (hm : m < (bs l).size) (hk2 : k < (ByteArray.mk #[97, 98, 99, 100]).size) (h : ((((bs l)[m]'hm).toNat : Int) == (((ByteArray.mk #[97, 98, 99, 100])[k]'hk2).toNat : Int)) = false) : l.getD m 0 ≠ UInt8.ofNat (97 + k) := by
  intro e
  have hm2 : m < l.length := by rw [bs_size] at hm; exact hm
  have e1 : (bs l)[m]'hm = l.getD m 0 := by
    rw [List.getD_eq_getElem?_getD, List.getElem?_eq_getElem hm2]
    rfl
  have e2 : (ByteArray.mk #[97, 98, 99, 100])[k]'hk2 = UInt8.ofNat (97 + k) := by
    match k, hk with
    | 0, _ => rfl
    | 1, _ => rfl
    | 2, _ => rfl
    | 3, _ => rfl
  rw [e1, e2, e] at h
  simp at h
theorem LRow.set {W : World} {g : Nat} {ns : List Nat} {k x : Nat} (h : LRow W (some ⟨g, 0, none⟩) (natsI ns)) (hk : k < ns.length) : LRow (W.setCell ⟨g, k, none⟩ (.int .i64 (x : Nat))) (some ⟨g, 0, none⟩) (natsI (ns.set k x)) := by
  intro hl
  obtain ⟨g', hg, hc⟩ := h (by rw [natsI_len]; omega)
  injection hg with hg
  injection hg with hg _ _
  subst hg
  refine ⟨g, rfl, fun i hi => ?_⟩
  rw [natsI_len, List.length_set] at hi
  have h2 := hc i (by rw [natsI_len]; exact hi)
  by_cases e : i = k
  · subst e
    rw [World.cell?_setCell_same _ _ _ h2]
    simp [natsI, List.getD, hi]
  · rw [World.cell?_setCell_other _ _ _ _ (by intro e2; injection e2 with _ e2 _; exact e e2.symm), h2]
    simp [natsI, List.getD, List.getElem?_set_ne (Ne.symm e)]
theorem LRow.far {W : World} {g : Nat} {A : Option Addr} {zs : List Int} (h : LRow W A zs) (hA : ∀ b, A = some ⟨b, 0, none⟩ → b ≠ g) (k : Nat) (u : Value) : LRow (W.setCell ⟨g, k, none⟩ u) A zs := by
  intro hl
  obtain ⟨b, hb, hc⟩ := h hl
  refine ⟨b, hb, fun i hi => ?_⟩
  rw [World.cell?_setCell_other _ _ _ _ (by intro e2; injection e2 with e2 _ _; exact hA b hb e2.symm)]
  exact hc i hi

end Go.Proofs.YtpaleogkgfclnaaGreatDoor

namespace Go.Proofs.YtpaleogkgfclnaaGreatDoor
open Go.RowKit
open Pl
set_option linter.unusedSimpArgs false
set_option linter.unusedVariables false

/-- the texts of formulas -/
def txs (L : List Fm) : List ByteArray := L.map fun f => bs f.text
theorem join_two (c : UInt8) (z y : ByteArray) (r : List ByteArray) : joinL c (z :: y :: r) = c :: (z.data.toList ++ joinL c (y :: r)) := by
  unfold joinL
  rw [if_neg (by simp), if_neg (by simp)]
  unfold preL
  simp
theorem join_one (c : UInt8) (z : ByteArray) : joinL c [z] = z.data.toList := by
  unfold joinL
  rw [if_neg (by simp)]
  unfold preL
  simp
theorem conF_text : ∀ L : List Fm, (conF L).text = joinL 38 (txs L) := by
  intro L
  induction L with
  | nil => rfl
  | cons f L ih =>
    cases L with
    | nil => show f.text = joinL 38 [bs f.text]; rw [join_one, bs_list]
    | cons g r =>
      show 38 :: (f.text ++ (conF (g :: r)).text) = joinL 38 (bs f.text :: bs g.text :: txs r)
      rw [join_two, bs_list, ih]
      rfl
theorem disF_text : ∀ L : List Fm, (disF L).text = joinL 124 (txs L) := by
  intro L
  induction L with
  | nil => rfl
  | cons f L ih =>
    cases L with
    | nil => show f.text = joinL 124 [bs f.text]; rw [join_one, bs_list]
    | cons g r =>
      show 124 :: (f.text ++ (disF (g :: r)).text) = joinL 124 (bs f.text :: bs g.text :: txs r)
      rw [join_two, bs_list, ih]
      rfl
theorem txs_of : ∀ zs : List ByteArray, (∀ z ∈ zs, IsFm z.data.toList) → ∃ L : List Fm, zs = txs L ∧ ∀ f ∈ L, f.text.length ≤ 4000 := by
  intro zs
  induction zs with
  | nil => intro _; exact ⟨[], rfl, by simp⟩
  | cons z zs ih =>
    intro h
    obtain ⟨L, h1, h2⟩ := ih fun x hx => h x (List.mem_cons_of_mem _ hx)
    obtain ⟨hl, f, hf⟩ := h z (by simp)
    refine ⟨f :: L, ?_, fun g hg => ?_⟩
    · rw [h1, eq_bs hf]; rfl
    · rcases List.mem_cons.1 hg with rfl | hg
      · rw [← hf]; exact hl
      · exact h2 g hg
/-- JoinFormulas: no, or the joined formula -/
theorem join_cases (op : ByteArray) (zs : List ByteArray) : joinV op zs = (bs [], false) ∨
    ∃ L : List Fm, zs = txs L ∧ (∀ f ∈ L, f.text.length ≤ 4000) ∧
      ((op = ⟨#[38]⟩ ∧ (conF L).text.length ≤ 4000 ∧ joinV op zs = (bs (conF L).text, true)) ∨ (op = ⟨#[124]⟩ ∧ (disF L).text.length ≤ 4000 ∧ joinV op zs = (bs (disF L).text, true))) := by
  by_cases h : (op = ⟨#[38]⟩ ∨ op = ⟨#[124]⟩) ∧ (∀ z ∈ zs, IsFm z.data.toList) ∧ (joinL (op.data.toList.headD 0) zs).length ≤ 4000
  · right
    have hv := joinV_yes h
    obtain ⟨h1, h2, h3⟩ := h
    obtain ⟨L, hL, hl⟩ := txs_of zs h2
    subst hL
    refine ⟨L, rfl, hl, ?_⟩
    rcases h1 with rfl | rfl
    · left
      have e : joinL ((ByteArray.mk #[38]).data.toList.headD 0) (txs L) = (conF L).text := (conF_text L).symm
      rw [e] at h3 hv
      exact ⟨rfl, h3, hv⟩
    · right
      have e : joinL ((ByteArray.mk #[124]).data.toList.headD 0) (txs L) = (disF L).text := (disF_text L).symm
      rw [e] at h3 hv
      exact ⟨rfl, h3, hv⟩
  · left; exact joinV_no h
theorem txs_len (L : List Fm) : (txs L).length = L.length := by simp [txs]
theorem txs_get {L : List Fm} {k : Nat} (h : k < L.length) : (txs L).getD k ByteArray.empty = bs (L[k]).text := by
  rw [List.getD_eq_getElem?_getD, txs, List.getElem?_map, List.getElem?_eq_getElem h]
  rfl
/-- of the first k formulas all, some -/
def allTo (a : St) (e : Env) (L : List Fm) (k : Nat) : Bool := (L.take k).all fun f => f.holds a e
def someTo (a : St) (e : Env) (L : List Fm) (k : Nat) : Bool := (L.take k).any fun f => f.holds a e
theorem allTo_succ {a : St} {e : Env} {L : List Fm} {k : Nat} (h : k < L.length) : allTo a e L (k + 1) = (allTo a e L k && (L[k]).holds a e) := by
  unfold allTo
  rw [List.take_succ_eq_append_getElem h, List.all_append]
  simp
theorem someTo_succ {a : St} {e : Env} {L : List Fm} {k : Nat} (h : k < L.length) : someTo a e L (k + 1) = (someTo a e L k || (L[k]).holds a e) := by
  unfold someTo
  rw [List.take_succ_eq_append_getElem h, List.any_append]
  simp
theorem allTo_all (a : St) (e : Env) (L : List Fm) : allTo a e L L.length = (conF L).holds a e := by unfold allTo; rw [List.take_length, conF_holds]
theorem someTo_all (a : St) (e : Env) (L : List Fm) : someTo a e L L.length = (disF L).holds a e := by unfold someTo; rw [List.take_length, disF_holds]
theorem not_cases (f : Fm) (h : f.text.length ≤ 4000) : (notV (bs f.text).data.toList = .tuple #[.string ⟨#[]⟩, .bool false]) ∨ notV (bs f.text).data.toList = .tuple #[.string (⟨#[33]⟩ ++ bs f.text), .bool true] := by
  rw [bs_list]
  unfold notV
  by_cases hl : f.text.length < 4000
  · right
    rw [if_pos ⟨⟨h, f, rfl⟩, hl⟩, mk_bs, text_app]
    rfl
  · left
    rw [if_neg fun h => hl h.2]
theorem joinSt_ok : St.ok ⟨3, [48, 49, 48], [48, 49, 48, 48, 48, 49, 49, 49, 48]⟩ := ⟨by decide, by decide, rfl, rfl, by unfold IsBit; decide, by unfold IsBit; decide⟩
end Go.Proofs.YtpaleogkgfclnaaGreatDoor

namespace Go.Proofs.YtpaleogkgfclnaaGreatDoor
open Go.RowKit
open Pl
set_option linter.unusedSimpArgs false
set_option linter.unusedVariables false

/-- the three facts of an element and one before it -/
def tell3 (R Q : Nat → Nat → Bool) (i k : Nat) : List (Fm × Bool) := [(.eq (vf k) (vf i), Q i k), (.rel (vf k) (vf i), R k i), (.rel (vf i) (vf k), R i k)]
/-- the facts of an element, its own two and those with the first k -/
def tellIn (S : Nat → Bool) (R Q : Nat → Nat → Bool) (i k : Nat) : List (Fm × Bool) := [(.pr (vf i), S i), (.rel (vf i) (vf i), R i i)] ++ (List.range k).flatMap (tell3 R Q i)
def tellTo (S : Nat → Bool) (R Q : Nat → Nat → Bool) (n : Nat) : List (Fm × Bool) := (List.range n).flatMap fun i => tellIn S R Q i i
def sgnP (p : Fm × Bool) : Fm := sgn p.2 p.1
theorem tellIn_zero (S : Nat → Bool) (R Q : Nat → Nat → Bool) (i : Nat) : tellIn S R Q i 0 = [(.pr (vf i), S i), (.rel (vf i) (vf i), R i i)] := rfl
theorem tellIn_succ (S : Nat → Bool) (R Q : Nat → Nat → Bool) (i k : Nat) : tellIn S R Q i (k + 1) = tellIn S R Q i k ++ tell3 R Q i k := by
  unfold tellIn
  rw [List.range_succ, List.flatMap_append, List.append_assoc]
  simp
theorem tellTo_succ (S : Nat → Bool) (R Q : Nat → Nat → Bool) (n : Nat) : tellTo S R Q (n + 1) = tellTo S R Q n ++ tellIn S R Q n n := by
  unfold tellTo
  rw [List.range_succ, List.flatMap_append]
  simp
theorem tellIn_facts (S : Nat → Bool) (R Q : Nat → Nat → Bool) (i : Nat) : (tellIn S R Q i i).map sgnP = factsAt S R Q i := by
  unfold tellIn factsAt
  rw [List.map_append, List.map_flatMap]
  rfl
theorem tellTo_facts (S : Nat → Bool) (R Q : Nat → Nat → Bool) (n : Nat) : (tellTo S R Q n).map sgnP = factsTo S R Q n := by
  unfold tellTo factsTo
  rw [List.map_flatMap]
  congr 1
  funext i
  exact tellIn_facts S R Q i
theorem tellIn_len (S : Nat → Bool) (R Q : Nat → Nat → Bool) (i k : Nat) : (tellIn S R Q i k).length = 2 + 3 * k := by
  induction k with
  | zero => rfl
  | succ k ih => rw [tellIn_succ, List.length_append, ih]; simp [tell3]; omega
theorem tellTo_len (S : Nat → Bool) (R Q : Nat → Nat → Bool) {n : Nat} (h : n ≤ 4) : (tellTo S R Q n).length ≤ 26 := by
  match n, h with
  | 0, _ => simp [tellTo]
  | 1, _ => simp [tellTo, List.range_succ, tellIn_len]
  | 2, _ => simp [tellTo, List.range_succ, tellIn_len]
  | 3, _ => simp [tellTo, List.range_succ, tellIn_len]
  | 4, _ => simp [tellTo, List.range_succ, tellIn_len]
  | n + 5, h => omega
theorem factsTo_len (S : Nat → Bool) (R Q : Nat → Nat → Bool) {n : Nat} (h : n ≤ 4) : (factsTo S R Q n).length ≤ 26 := by
  rw [← tellTo_facts, List.length_map]
  exact tellTo_len S R Q h
/-- atoms are short -/
def Short (f : Fm) : Prop := f.text.length ≤ 4
theorem sgn_short (b : Bool) {f : Fm} (h : f.text.length ≤ 3) : Short (sgn b f) := by
  unfold Short
  cases b
  · show (33 :: f.text).length ≤ 4; simp; omega
  · show f.text.length ≤ 4; omega
theorem tellIn_short {S : Nat → Bool} {R Q : Nat → Nat → Bool} {i k : Nat} {p : Fm × Bool} (h : p ∈ tellIn S R Q i k) : p.1.text.length ≤ 3 := by
  unfold tellIn at h
  simp only [List.mem_append, List.mem_cons, List.not_mem_nil, or_false, List.mem_flatMap, tell3] at h
  rcases h with (rfl | rfl) | ⟨j, _, rfl | rfl | rfl⟩ <;> simp [Fm.text]
theorem tellTo_short {S : Nat → Bool} {R Q : Nat → Nat → Bool} {n : Nat} {p : Fm × Bool} (h : p ∈ tellTo S R Q n) : p.1.text.length ≤ 3 := by
  obtain ⟨i, _, h⟩ := List.mem_flatMap.1 h
  exact tellIn_short h
theorem facts_short {S : Nat → Bool} {R Q : Nat → Nat → Bool} {n : Nat} {f : Fm} (h : f ∈ factsTo S R Q n) : Short f := by
  rw [← tellTo_facts] at h
  obtain ⟨p, hp, rfl⟩ := List.mem_map.1 h
  exact sgn_short _ (tellTo_short hp)
theorem conF_len : ∀ L : List Fm, (∀ f ∈ L, Short f) → (conF L).text.length ≤ 5 * L.length + 1 := by
  intro L
  induction L with
  | nil => intro _; simp [conF, Fm.text]
  | cons f L ih =>
    intro h
    have h1 := h f (by simp)
    unfold Short at h1
    cases L with
    | nil => simp only [conF, List.length_cons, List.length_nil]; omega
    | cons g r =>
      have h2 := ih fun q hq => h q (List.mem_cons_of_mem _ hq)
      simp only [conF, Fm.text, List.length_cons, List.length_append] at h2 ⊢
      omega
theorem disF_len : ∀ L : List Fm, (∀ f ∈ L, Short f) → (disF L).text.length ≤ 5 * L.length + 1 := by
  intro L
  induction L with
  | nil => intro _; simp [disF, Fm.text]
  | cons f L ih =>
    intro h
    have h1 := h f (by simp)
    unfold Short at h1
    cases L with
    | nil => simp only [disF, List.length_cons, List.length_nil]; omega
    | cons g r =>
      have h2 := ih fun q hq => h q (List.mem_cons_of_mem _ hq)
      simp only [disF, Fm.text, List.length_cons, List.length_append] at h2 ⊢
      omega
/-- that an element is none but those -/
def eqsF (n k : Nat) : List Fm := (List.range k).map fun i => .eq (vf i) (vf n)
theorem eqsF_succ (n k : Nat) : eqsF n (k + 1) = eqsF n k ++ [.eq (vf k) (vf n)] := by unfold eqsF; rw [List.range_succ, List.map_append]; rfl
theorem eqsF_len (n k : Nat) : (eqsF n k).length = k := by simp [eqsF]
theorem eqsF_short {n k : Nat} {f : Fm} (h : f ∈ eqsF n k) : Short f := by
  obtain ⟨i, _, rfl⟩ := List.mem_map.1 h
  simp [Short, Fm.text]
theorem des_four (S : Nat → Bool) (R Q : Nat → Nat → Bool) : desF 4 S R Q = conF (factsTo S R Q 4) := rfl
theorem des_less {n : Nat} (h : n ≠ 4) (S : Nat → Bool) (R Q : Nat → Nat → Bool) : desF n S R Q = .con (conF (factsTo S R Q n)) (.qu .A (vf n) (disF (eqsF n n))) := if_neg h
theorem des_len {n : Nat} (h : n ≤ 4) (S : Nat → Bool) (R Q : Nat → Nat → Bool) : (desF n S R Q).text.length ≤ 200 := by
  have h1 := conF_len (factsTo S R Q n) fun f hf => facts_short hf
  have h2 := factsTo_len S R Q h
  by_cases h4 : n = 4
  · subst h4
    rw [des_four]
    omega
  · have h3 := disF_len (eqsF n n) fun f hf => eqsF_short hf
    rw [eqsF_len] at h3
    rw [des_less h4]
    simp only [Fm.text, List.length_cons, List.length_append]
    omega
/-- the quantifiers ahead -/
def quL (j k : Nat) : List UInt8 := (List.range k).flatMap fun i => [83, vb (vf (j + i))]
theorem quL_succ (j k : Nat) : quL j (k + 1) = quL j k ++ [83, vb (vf (j + k))] := by unfold quL; rw [List.range_succ, List.flatMap_append]; simp
theorem quL_len (j k : Nat) : (quL j k).length = 2 * k := by
  induction k with
  | zero => rfl
  | succ k ih => rw [quL_succ, List.length_append, ih]; simp; omega
theorem quL_front (j k : Nat) : quL j (k + 1) = [83, vb (vf j)] ++ quL (j + 1) k := by
  unfold quL
  rw [List.range_succ_eq_map, List.flatMap_cons, List.flatMap_map]
  congr 1
  congr 1
  funext i
  rw [show j + i.succ = j + 1 + i by omega]
theorem ex_text (q : Fm) : ∀ k j, (exF j k q).text = quL j k ++ q.text := by
  intro k
  induction k with
  | zero => intro j; rfl
  | succ k ih => intro j; rw [quL_front]; show [Qn.S.b, vb (vf j)] ++ (exF (j + 1) k q).text = _; rw [ih]; rfl
theorem ex_succ (q : Fm) (j k : Nat) : exF j (k + 1) q = .qu .S (vf j) (exF (j + 1) k q) := rfl
theorem dst_text (a : St) : (dstF a).text = quL 0 a.n ++ (desF a.n a.inS a.inR noQ).text := ex_text _ _ _
theorem del_text (c : St) : (delF c).text = quL 1 (c.n - 1) ++ (desF c.n c.inS c.inR noQ).text := ex_text _ _ _
theorem dst_len {a : St} (h : a.n ≤ 4) : (dstF a).text.length ≤ 300 := by
  have h1 := des_len h a.inS a.inR noQ
  rw [dst_text, List.length_append, quL_len]
  omega
theorem del_len {a : St} (h : a.n ≤ 4) : (delF a).text.length ≤ 300 := by
  have h1 := des_len h a.inS a.inR noQ
  rw [del_text, List.length_append, quL_len]
  omega
/-- only what is asked counts -/
theorem factsAt_congr {S S' : Nat → Bool} {R R' Q Q' : Nat → Nat → Bool} {n i : Nat} (hi : i < n) (hS : ∀ i, i < n → S i = S' i) (hR : ∀ i j, i < n → j < n → R i j = R' i j) (hQ : ∀ i k, i < n → k < i → Q i k = Q' i k) : factsAt S R Q i = factsAt S' R' Q' i := by
  unfold factsAt
  rw [hS i hi, hR i i hi hi]
  congr 1
  simp only [List.flatMap_def]
  congr 1
  apply List.map_congr_left
  intro k hk
  have hk := List.mem_range.1 hk
  rw [hQ i k hi hk, hR k i (by omega) hi, hR i k hi (by omega)]
theorem factsTo_congr {S S' : Nat → Bool} {R R' Q Q' : Nat → Nat → Bool} {n : Nat} (hS : ∀ i, i < n → S i = S' i) (hR : ∀ i j, i < n → j < n → R i j = R' i j) (hQ : ∀ i k, i < n → k < i → Q i k = Q' i k) : factsTo S R Q n = factsTo S' R' Q' n := by
  unfold factsTo
  simp only [List.flatMap_def]
  congr 1
  apply List.map_congr_left
  intro i hi
  exact factsAt_congr (List.mem_range.1 hi) hS hR hQ
theorem des_congr {S S' : Nat → Bool} {R R' Q Q' : Nat → Nat → Bool} {n : Nat} (hS : ∀ i, i < n → S i = S' i) (hR : ∀ i j, i < n → j < n → R i j = R' i j) (hQ : ∀ i k, i < n → k < i → Q i k = Q' i k) : desF n S R Q = desF n S' R' Q' := by
  unfold desF
  rw [factsTo_congr hS hR hQ]
theorem facts_succ (S : Nat → Bool) (R Q : Nat → Nat → Bool) (n : Nat) : factsTo S R Q (n + 1) = factsTo S R Q n ++ factsAt S R Q n := by
  unfold factsTo
  rw [List.range_succ, List.flatMap_append]
  simp
end Go.Proofs.YtpaleogkgfclnaaGreatDoor

namespace Go.Proofs.YtpaleogkgfclnaaGreatDoor
open Go.RowKit
open Pl
set_option linter.unusedSimpArgs false
set_option linter.unusedVariables false

/-- some elements can be a part -/
def partB (i : Int) (s r : ByteArray) (zs : List Int) : Bool := okB i s r && (decide (0 < zs.length) && (elAll i zs && nodB zs))
def partO (i : Int) (s r : ByteArray) (zs : List Int) : Option St := if partB i s r zs then some ((ofSt i s r).part (zs.map Int.toNat)) else none
def moveO (i : Int) (s r : ByteArray) (zs : List Int) : Option St := if (zs.length : Int) = i then partO i s r zs else none

theorem nats_of {n : Nat} {zs : List Int} (h : elAll n zs = true) (h2 : nodB zs = true) : ∃ ns : List Nat, zs = natsI ns ∧ (∀ x ∈ ns, x < n) ∧ ns.Nodup ∧ ns.length ≤ n ∧ zs.map Int.toNat = ns := by
  have hel : ∀ z ∈ zs, 0 ≤ z ∧ z < n := fun z hz => by
    have := List.all_eq_true.1 h z hz
    unfold elB at this
    simpa using this
  have hnd : zs.Nodup := of_decide_eq_true h2
  have hz : zs = natsI (zs.map Int.toNat) := by
    unfold natsI
    rw [List.map_map]
    conv => lhs; rw [← List.map_id zs]
    apply List.map_congr_left
    intro z hzm
    have := hel z hzm
    simp only [Function.comp, id]; omega
  have hlt : ∀ x ∈ zs.map Int.toNat, x < n := fun x hx => by
    obtain ⟨z, hzm, rfl⟩ := List.mem_map.1 hx
    have := hel z hzm; omega
  have hnd2 : (zs.map Int.toNat).Nodup := map_nodup zs hnd fun x hx y hy e => by
    have := hel x hx; have := hel y hy; omega
  refine ⟨zs.map Int.toNat, hz, hlt, hnd2, ?_, rfl⟩
  have := nodup_len_le (zs.map Int.toNat) (List.range n) hnd2 (fun x hx => List.mem_range.2 (hlt x hx))
  simpa using this

theorem part_no {i : Int} {s r : ByteArray} {zs : List Int} (h : partB i s r zs = false) : partO i s r zs = none := by unfold partO; rw [h]; rfl
theorem part_yes {a : St} {zs : List Int} (h : partB a.n (bs a.set) (bs a.rel) zs = true) : partO a.n (bs a.set) (bs a.rel) zs = some (a.part (zs.map Int.toNat)) := by unfold partO; rw [h]; rfl

set_option maxHeartbeats 2000000 in
theorem PartOf_impl (i : Int) (s r : ByteArray) (A : Option Addr) (zs : List Int) (cap : Nat) (w : World) (hs : s.size ≤ maxLen) (hr : r.size ≤ maxLen) (hn : zs.length ≤ 1048576) (hcap : zs.length ≤ cap) (hA : LRow w A zs) :
    Calls Tryz.prog 36 #[stV i s r, .slice A zs.length cap] w fun e w' => e = .returned (resV (partO i s r zs)) ∧ Below w.heap.size w w' := by
  have hcI : ∀ W, Calls Tryz.prog 27 #[stV i s r] W fun e w' => e = .returned (.bool (okB i s r)) ∧ Below W.heap.size W w' := fun W => isStructure_calls i s r W hs hr
  have hcE : ∀ W, LRow W A zs → Calls Tryz.prog 47 #[stV i s r, .slice A zs.length cap] W fun e w' => e = .returned (.bool (elAll i zs)) ∧ Below W.heap.size W w' := fun W hW => areElements_calls i s r A zs cap W hn hW
  have hcD : ∀ W, LRow W A zs → Calls Tryz.prog 64 #[.slice A zs.length cap] W fun e w' => e = .returned (.bool (nodB zs)) ∧ W = w' := fun W hW => allDifferent_calls A zs cap W hn hcap hW
  have HA := Lib.hid hA
  clear hA
  cases hok : okB i s r with
  | false =>
    rw [part_no (by unfold partB; rw [hok]; rfl)]
    rw [hok] at hcI
    have HcI := Lib.hid hcI
    clear hcI hcE hcD hs hr hok
    go_enter Tryz.func36, Tryz.ntmps36
    go_wp2_with fail
    refine (HcI.out _).mono ?_
    rintro e w1 ⟨rfl, hz⟩
    have x0 := ((Bx.new w 24 #[.int .i64 i, .string s, .string r]).alloc (.cells #[.int .i64 0, .string (bs []), .string (bs [])] 24)).call hz
    have x1 := (bx_two w (.cells #[.int .i64 i, .string s, .string r] 24) #[.int .i64 0, .string (bs []), .string (bs [])] (t := 24)).call hz
    have HB := Lib.hid (((((Below.refl w.heap.size w).alloc (Nat.le_refl _) (.cells #[.int .i64 i, .string s, .string r] 24)).alloc (by simp) (.cells #[.int .i64 0, .string (bs []), .string (bs [])] 24)).trans (hz.mono (by simp; omega))))
    have X0 := Lib.hid x0
    have X1 := Lib.hid x1
    clear hz x0 x1
    obtain ⟨k0, k1, k2⟩ := box_load X0.out
    obtain ⟨d0, d1, d2⟩ := box_load X1.out
    have f0 := X1.out.free 0
    have f1 := X1.out.free 1
    have f2 := X1.out.free 2
    go_wp2_with fail
    have y1 := ((X1.out.set 0 (.int .i64 0)).set 1 (.string (bs []))).set 2 (.string (bs []))
    obtain ⟨q0, q1, q2⟩ := box_load (a := .int .i64 0) (b := .string (bs [])) (c := .string (bs [])) y1
    refine bodyPost_ret (v := resV none) ?_ rfl ⟨rfl, ?_⟩
    · have e0 : (⟨#[]⟩ : ByteArray) = bs [] := rfl
      simp only [e0]
      simp [results, Tryz.results36, go_sem, q0, q1, q2, resV]
    · exact ((HB.out.setCell (by simp) _).setCell (by simp) _).setCell (by simp) _
  | true =>
    rw [hok] at hcI
    have HcI := Lib.hid hcI
    by_cases h0 : zs.length = 0
    · rw [part_no (by unfold partB; rw [hok, decide_eq_false (by omega)]; rfl)]
      clear hcI hcE hcD hs hr hok
      go_enter Tryz.func36, Tryz.ntmps36
      go_wp2_with fail
      refine (HcI.out _).mono ?_
      rintro e w1 ⟨rfl, hz⟩
      have x0 := ((Bx.new w 24 #[.int .i64 i, .string s, .string r]).alloc (.cells #[.int .i64 0, .string (bs []), .string (bs [])] 24)).call hz
      have x1 := (bx_two w (.cells #[.int .i64 i, .string s, .string r] 24) #[.int .i64 0, .string (bs []), .string (bs [])] (t := 24)).call hz
      have HB := Lib.hid (((((Below.refl w.heap.size w).alloc (Nat.le_refl _) (.cells #[.int .i64 i, .string s, .string r] 24)).alloc (by simp) (.cells #[.int .i64 0, .string (bs []), .string (bs [])] 24)).trans (hz.mono (by simp; omega))))
      have X0 := Lib.hid x0
      have X1 := Lib.hid x1
      clear hz x0 x1
      obtain ⟨k0, k1, k2⟩ := box_load X0.out
      obtain ⟨d0, d1, d2⟩ := box_load X1.out
      have f0 := X1.out.free 0
      have f1 := X1.out.free 1
      have f2 := X1.out.free 2

      go_wp2_with fail
      have y1 := ((X1.out.set 0 (.int .i64 0)).set 1 (.string (bs []))).set 2 (.string (bs []))
      obtain ⟨q0, q1, q2⟩ := box_load (a := .int .i64 0) (b := .string (bs [])) (c := .string (bs [])) y1
      refine bodyPost_ret (v := resV none) ?_ rfl ⟨rfl, ?_⟩
      · have e0 : (⟨#[]⟩ : ByteArray) = bs [] := rfl
        simp only [e0]
        simp [results, Tryz.results36, go_sem, q0, q1, q2, resV]
      · exact ((HB.out.setCell (by simp) _).setCell (by simp) _).setCell (by simp) _

    · have h0b : ((zs.length : Int) == 0) = false := beq_eq_false_iff_ne.2 (by omega)
      cases hel : elAll i zs with
      | false =>
        rw [part_no (by unfold partB; rw [hok, hel]; simp)]
        rw [hel] at hcE
        have HcE := Lib.hid hcE
        clear hcI hcE hcD hs hr hok hel
        go_enter Tryz.func36, Tryz.ntmps36
        go_wp2_with fail
        refine (HcI.out _).mono ?_
        rintro e w1 ⟨rfl, hz⟩
        have HA1 := Lib.hid (((HA.out.alloc (.cells #[.int .i64 i, .string s, .string r] 24)).alloc (.cells #[.int .i64 0, .string (bs []), .string (bs [])] 24)).call hz)
        have x0 := ((Bx.new w 24 #[.int .i64 i, .string s, .string r]).alloc (.cells #[.int .i64 0, .string (bs []), .string (bs [])] 24)).call hz
        have x1 := (bx_two w (.cells #[.int .i64 i, .string s, .string r] 24) #[.int .i64 0, .string (bs []), .string (bs [])] (t := 24)).call hz
        have HB := Lib.hid (((((Below.refl w.heap.size w).alloc (Nat.le_refl _) (.cells #[.int .i64 i, .string s, .string r] 24)).alloc (by simp) (.cells #[.int .i64 0, .string (bs []), .string (bs [])] 24)).trans (hz.mono (by simp; omega))))
        have X0 := Lib.hid x0
        have X1 := Lib.hid x1
        clear hz x0 x1
        obtain ⟨k0, k1, k2⟩ := box_load X0.out
        obtain ⟨d0, d1, d2⟩ := box_load X1.out
        have f0 := X1.out.free 0
        have f1 := X1.out.free 1
        have f2 := X1.out.free 2

        go_wp2_with fail
        refine (HcE.out _ HA1.out).mono ?_
        rintro e w2 ⟨rfl, hz⟩
        clear k0 k1 k2 d0 d1 d2 f0 f1 f2
        have X0 := Lib.hid (X0.out.call hz)
        have X1 := Lib.hid (X1.out.call hz)
        have HB := Lib.hid (HB.out.trans (hz.mono HB.out.size))
        clear hz
        obtain ⟨k0, k1, k2⟩ := box_load X0.out
        obtain ⟨d0, d1, d2⟩ := box_load X1.out
        have f0 := X1.out.free 0
        have f1 := X1.out.free 1
        have f2 := X1.out.free 2

        go_wp2_with fail
        have y1 := ((X1.out.set 0 (.int .i64 0)).set 1 (.string (bs []))).set 2 (.string (bs []))
        obtain ⟨q0, q1, q2⟩ := box_load (a := .int .i64 0) (b := .string (bs [])) (c := .string (bs [])) y1
        refine bodyPost_ret (v := resV none) ?_ rfl ⟨rfl, ?_⟩
        · have e0 : (⟨#[]⟩ : ByteArray) = bs [] := rfl
          simp only [e0]
          simp [results, Tryz.results36, go_sem, q0, q1, q2, resV]
        · exact ((HB.out.setCell (by simp) _).setCell (by simp) _).setCell (by simp) _

      | true =>
        rw [hel] at hcE
        have HcE := Lib.hid hcE
        cases hnd : nodB zs with
        | false =>
          rw [part_no (by unfold partB; rw [hok, hel, hnd]; simp)]
          rw [hnd] at hcD
          have HcD := Lib.hid hcD
          clear hcI hcE hcD hs hr hok hel hnd
          go_enter Tryz.func36, Tryz.ntmps36
          go_wp2_with fail
          refine (HcI.out _).mono ?_
          rintro e w1 ⟨rfl, hz⟩
          have HA1 := Lib.hid (((HA.out.alloc (.cells #[.int .i64 i, .string s, .string r] 24)).alloc (.cells #[.int .i64 0, .string (bs []), .string (bs [])] 24)).call hz)
          have x0 := ((Bx.new w 24 #[.int .i64 i, .string s, .string r]).alloc (.cells #[.int .i64 0, .string (bs []), .string (bs [])] 24)).call hz
          have x1 := (bx_two w (.cells #[.int .i64 i, .string s, .string r] 24) #[.int .i64 0, .string (bs []), .string (bs [])] (t := 24)).call hz
          have HB := Lib.hid (((((Below.refl w.heap.size w).alloc (Nat.le_refl _) (.cells #[.int .i64 i, .string s, .string r] 24)).alloc (by simp) (.cells #[.int .i64 0, .string (bs []), .string (bs [])] 24)).trans (hz.mono (by simp; omega))))
          have X0 := Lib.hid x0
          have X1 := Lib.hid x1
          clear hz x0 x1
          obtain ⟨k0, k1, k2⟩ := box_load X0.out
          obtain ⟨d0, d1, d2⟩ := box_load X1.out
          have f0 := X1.out.free 0
          have f1 := X1.out.free 1
          have f2 := X1.out.free 2

          go_wp2_with fail
          refine (HcE.out _ HA1.out).mono ?_
          rintro e w2 ⟨rfl, hz⟩
          have HA2 := Lib.hid (HA1.out.call hz)
          clear k0 k1 k2 d0 d1 d2 f0 f1 f2
          have X0 := Lib.hid (X0.out.call hz)
          have X1 := Lib.hid (X1.out.call hz)
          have HB := Lib.hid (HB.out.trans (hz.mono HB.out.size))
          clear hz
          obtain ⟨k0, k1, k2⟩ := box_load X0.out
          obtain ⟨d0, d1, d2⟩ := box_load X1.out
          have f0 := X1.out.free 0
          have f1 := X1.out.free 1
          have f2 := X1.out.free 2

          go_wp2_with fail
          refine (HcD.out _ HA2.out).mono ?_
          rintro e w2 ⟨rfl, rfl⟩
          go_wp2_with fail
          have y1 := ((X1.out.set 0 (.int .i64 0)).set 1 (.string (bs []))).set 2 (.string (bs []))
          obtain ⟨q0, q1, q2⟩ := box_load (a := .int .i64 0) (b := .string (bs [])) (c := .string (bs [])) y1
          refine bodyPost_ret (v := resV none) ?_ rfl ⟨rfl, ?_⟩
          · have e0 : (⟨#[]⟩ : ByteArray) = bs [] := rfl
            simp only [e0]
            simp [results, Tryz.results36, go_sem, q0, q1, q2, resV]
          · exact ((HB.out.setCell (by simp) _).setCell (by simp) _).setCell (by simp) _

        | true =>
          obtain ⟨a, ha, rfl, rfl, rfl⟩ : ∃ a : St, a.ok ∧ i = a.n ∧ s = bs a.set ∧ r = bs a.rel := by
            rcases ok_cases i s r with h | h
            · rw [h] at hok; cases hok
            · exact h
          have hpb : partB a.n (bs a.set) (bs a.rel) zs = true := by unfold partB; rw [hok, hel, hnd, decide_eq_true (by omega)]; rfl
          rw [part_yes hpb]
          obtain ⟨ns, hzn, hns, hnd2, hnl, hmap⟩ := nats_of hel hnd
          rw [hmap]
          rw [hnd] at hcD
          have HcD := Lib.hid hcD
          have hl8 := ha.hi
          have hcP : ∀ W, LRow W A zs → Calls Tryz.prog 43 #[stA a, .slice A zs.length cap] W fun e w' => e = .returned (stA (a.part ns)) ∧ Below W.heap.size W w' := fun W hW => by
            rw [hzn] at hW
            rw [hzn, natsI_len]
            exact partOf_calls a ha ns hns (by omega) A cap W hW
          have HcP := Lib.hid hcP
          clear hcI hcE hcD hs hr hok hel hnd hpb hmap hzn hcP
          go_enter Tryz.func36, Tryz.ntmps36
          go_wp2_with fail
          refine (HcI.out _).mono ?_
          rintro e w1 ⟨rfl, hz⟩
          have HA1 := Lib.hid (((HA.out.alloc (.cells #[.int .i64 a.n, .string (bs a.set), .string (bs a.rel)] 24)).alloc (.cells #[.int .i64 0, .string (bs []), .string (bs [])] 24)).call hz)
          have x0 := ((Bx.new w 24 #[.int .i64 a.n, .string (bs a.set), .string (bs a.rel)]).alloc (.cells #[.int .i64 0, .string (bs []), .string (bs [])] 24)).call hz
          have x1 := (bx_two w (.cells #[.int .i64 a.n, .string (bs a.set), .string (bs a.rel)] 24) #[.int .i64 0, .string (bs []), .string (bs [])] (t := 24)).call hz
          have HB := Lib.hid (((((Below.refl w.heap.size w).alloc (Nat.le_refl _) (.cells #[.int .i64 a.n, .string (bs a.set), .string (bs a.rel)] 24)).alloc (by simp) (.cells #[.int .i64 0, .string (bs []), .string (bs [])] 24)).trans (hz.mono (by simp; omega))))
          have X0 := Lib.hid x0
          have X1 := Lib.hid x1
          clear hz x0 x1
          obtain ⟨k0, k1, k2⟩ := box_load X0.out
          obtain ⟨d0, d1, d2⟩ := box_load X1.out
          have f0 := X1.out.free 0
          have f1 := X1.out.free 1
          have f2 := X1.out.free 2

          go_wp2_with fail
          refine (HcE.out _ HA1.out).mono ?_
          rintro e w2 ⟨rfl, hz⟩
          have HA2 := Lib.hid (HA1.out.call hz)
          clear k0 k1 k2 d0 d1 d2 f0 f1 f2
          have X0 := Lib.hid (X0.out.call hz)
          have X1 := Lib.hid (X1.out.call hz)
          have HB := Lib.hid (HB.out.trans (hz.mono HB.out.size))
          clear hz
          obtain ⟨k0, k1, k2⟩ := box_load X0.out
          obtain ⟨d0, d1, d2⟩ := box_load X1.out
          have f0 := X1.out.free 0
          have f1 := X1.out.free 1
          have f2 := X1.out.free 2

          go_wp2_with fail
          refine (HcD.out _ HA2.out).mono ?_
          rintro e w2 ⟨rfl, rfl⟩
          go_wp2_with fail
          refine (HcP.out _ HA2.out).mono ?_
          rintro e w3 ⟨rfl, hz⟩
          clear k0 k1 k2 d0 d1 d2 f0 f1 f2
          have X0 := Lib.hid (X0.out.call hz)
          have X1 := Lib.hid (X1.out.call hz)
          have HB := Lib.hid (HB.out.trans (hz.mono HB.out.size))
          clear hz
          obtain ⟨k0, k1, k2⟩ := box_load X0.out
          obtain ⟨d0, d1, d2⟩ := box_load X1.out
          have f0 := X1.out.free 0
          have f1 := X1.out.free 1
          have f2 := X1.out.free 2

          go_wp2_with fail
          have y1 := ((X1.out.set 0 (.int .i64 (a.part ns).n)).set 1 (.string (bs (a.part ns).set))).set 2 (.string (bs (a.part ns).rel))
          obtain ⟨q0, q1, q2⟩ := box_load (a := .int .i64 (a.part ns).n) (b := .string (bs (a.part ns).set)) (c := .string (bs (a.part ns).rel)) y1
          refine bodyPost_ret (v := resV (some (a.part ns))) ?_ rfl ⟨rfl, ?_⟩
          · simp [results, Tryz.results36, go_sem, q0, q1, q2, resV]
          · exact ((HB.out.setCell (by simp) _).setCell (by simp) _).setCell (by simp) _


set_option maxHeartbeats 1000000 in
theorem MoveElements_impl (i : Int) (s r : ByteArray) (A : Option Addr) (zs : List Int) (cap : Nat) (w : World) (hs : s.size ≤ maxLen) (hr : r.size ≤ maxLen) (hn : zs.length ≤ 1048576) (hcap : zs.length ≤ cap) (hA : LRow w A zs) :
    Calls Tryz.prog 11 #[stV i s r, .slice A zs.length cap] w fun e w' => e = .returned (resV (moveO i s r zs)) ∧ Below w.heap.size w w' := by
  by_cases hl : (zs.length : Int) = i
  · have hv : moveO i s r zs = partO i s r zs := if_pos hl
    rw [hv]
    have hcP : ∀ W, LRow W A zs → Calls Tryz.prog 36 #[stV i s r, .slice A zs.length cap] W fun e w' => e = .returned (resV (partO i s r zs)) ∧ Below W.heap.size W w' := fun W hW => PartOf_impl i s r A zs cap W hs hr hn hcap hW
    obtain ⟨j, S, R, b, hres⟩ := resV_form (partO i s r zs)
    rw [hres] at hcP ⊢
    have HcP := Lib.hid hcP
    have HA := Lib.hid hA
    have hne : ((zs.length : Int) != i) = false := by simp [hl]
    clear hcP hA hs hr hv hres hl
    have HA1 := Lib.hid ((HA.out.alloc (.cells #[.int .i64 i, .string s, .string r] 24)).alloc (.cells #[.int .i64 0, .string (bs []), .string (bs [])] 24))
    go_enter Tryz.func11, Tryz.ntmps11
    go_wp2_with fail
    refine (HcP.out _ HA1.out).mono ?_
    rintro e w1 ⟨rfl, hz⟩
    have x0 := ((Bx.new w 24 #[.int .i64 i, .string s, .string r]).alloc (.cells #[.int .i64 0, .string (bs []), .string (bs [])] 24)).call hz
    have x1 := (bx_two w (.cells #[.int .i64 i, .string s, .string r] 24) #[.int .i64 0, .string (bs []), .string (bs [])] (t := 24)).call hz
    have HB := Lib.hid (((((Below.refl w.heap.size w).alloc (Nat.le_refl _) (.cells #[.int .i64 i, .string s, .string r] 24)).alloc (by simp) (.cells #[.int .i64 0, .string (bs []), .string (bs [])] 24)).trans (hz.mono (by simp; omega))))
    have X0 := Lib.hid x0
    have X1 := Lib.hid x1
    clear hz x0 x1
    obtain ⟨k0, k1, k2⟩ := box_load X0.out
    obtain ⟨d0, d1, d2⟩ := box_load X1.out
    have f0 := X1.out.free 0
    have f1 := X1.out.free 1
    have f2 := X1.out.free 2
    go_wp2_with fail
    have y1 := ((X1.out.set 0 (.int .i64 j)).set 1 (.string S)).set 2 (.string R)
    obtain ⟨q0, q1, q2⟩ := box_load (a := .int .i64 j) (b := .string S) (c := .string R) y1
    refine bodyPost_ret (v := .tuple #[stV j S R, .bool b]) ?_ rfl ⟨rfl, ?_⟩
    · simp [results, Tryz.results11, go_sem, q0, q1, q2]
    · exact ((HB.out.setCell (by simp) _).setCell (by simp) _).setCell (by simp) _
  · have hv : moveO i s r zs = none := if_neg hl
    rw [hv]
    have hne : ((zs.length : Int) != i) = true := by simp [hl]
    clear hA hs hr hv hl
    have hz : Below ((w.alloc (.cells #[.int .i64 i, .string s, .string r] 24)).alloc (.cells #[.int .i64 0, .string (bs []), .string (bs [])] 24)).heap.size ((w.alloc (.cells #[.int .i64 i, .string s, .string r] 24)).alloc (.cells #[.int .i64 0, .string (bs []), .string (bs [])] 24)) ((w.alloc (.cells #[.int .i64 i, .string s, .string r] 24)).alloc (.cells #[.int .i64 0, .string (bs []), .string (bs [])] 24)) := Below.refl _ _
    have x0 := ((Bx.new w 24 #[.int .i64 i, .string s, .string r]).alloc (.cells #[.int .i64 0, .string (bs []), .string (bs [])] 24)).call hz
    have x1 := (bx_two w (.cells #[.int .i64 i, .string s, .string r] 24) #[.int .i64 0, .string (bs []), .string (bs [])] (t := 24)).call hz
    have HB := Lib.hid (((((Below.refl w.heap.size w).alloc (Nat.le_refl _) (.cells #[.int .i64 i, .string s, .string r] 24)).alloc (by simp) (.cells #[.int .i64 0, .string (bs []), .string (bs [])] 24)).trans (hz.mono (by simp; omega))))
    have X0 := Lib.hid x0
    have X1 := Lib.hid x1
    clear hz x0 x1
    have y1 := ((X1.out.set 0 (.int .i64 0)).set 1 (.string (bs []))).set 2 (.string (bs []))
    obtain ⟨q0, q1, q2⟩ := box_load (a := .int .i64 0) (b := .string (bs [])) (c := .string (bs [])) y1
    go_enter Tryz.func11, Tryz.ntmps11
    go_wp2_with fail
    refine bodyPost_ret (v := resV none) ?_ rfl ⟨rfl, ?_⟩
    · have e0 : (⟨#[]⟩ : ByteArray) = bs [] := rfl
      simp only [e0]
      simp [results, Tryz.results11, go_sem, resV]
    · exact HB.out

end Go.Proofs.YtpaleogkgfclnaaGreatDoor

namespace Go.Proofs.YtpaleogkgfclnaaGreatDoor
open Go.RowKit
open Pl
set_option linter.unusedSimpArgs false
set_option linter.unusedVariables false

/-- the elements below k that are marked -/
def rk (f : Nat → Bool) (k : Nat) : List Nat := (List.range k).filter f
theorem rk_succ (f : Nat → Bool) (k : Nat) : rk f (k + 1) = if f k then rk f k ++ [k] else rk f k := by
  unfold rk
  rw [List.range_succ, List.filter_append]
  cases h : f k <;> simp [h]
theorem rk_len (f : Nat → Bool) (k : Nat) : (rk f k).length ≤ k := by
  have := List.length_filter_le f (List.range k)
  simpa [rk] using this

theorem own_openZ {W : World} {base : Nat} {v : Value} {zs : List Int} (h : W.ownsRow base 3 1 v zs.length (intsV zs)) : ∃ A cap, v = .slice A zs.length cap ∧ zs.length ≤ cap ∧ LRow W A zs := by
  have h0 := h
  rcases h.2 with ⟨rfl, hn⟩ | ⟨g, cap, cur, rfl, _, _, hc, _⟩
  · exact ⟨none, 0, by rw [hn], by omega, fun hl => by omega⟩
  · exact ⟨some ⟨g, 0, none⟩, cap, rfl, hc, LRow_of h0⟩
theorem own_call {W W' : World} {base n : Nat} {e : TypeId} {v : Value} {xs : List Value} (h : W.ownsRow base e 1 v n xs) (hb : Below W.heap.size W W') : W'.ownsRow base e 1 v n xs := by
  obtain ⟨h1, h2⟩ := h
  refine ⟨h1, ?_⟩
  rcases h2 with h2 | ⟨g, c, cur, hv, hg, hh, hr⟩
  · exact .inl h2
  · exact .inr ⟨g, c, cur, hv, hg, (hb.block g (Array.getElem?_eq_some_iff.1 hh).1).trans hh, hr⟩
theorem own_others {W W' : World} {base n : Nat} {e : TypeId} {v : Value} {xs : List Value} {row : Option Nat} (h : W.ownsRow base e 1 v n xs) (hg : W.grownBy W' row) (hne : v.ownBlock ≠ row ∨ v.ownBlock = none) : W'.ownsRow base e 1 v n xs := by
  obtain ⟨h1, h2⟩ := h
  refine ⟨h1, ?_⟩
  rcases h2 with h2 | ⟨g, c, cur, hv, hb, hh, hr⟩
  · exact .inl h2
  · refine .inr ⟨g, c, cur, hv, hb, (hg.block g (Array.getElem?_eq_some_iff.1 hh).1 (fun e => ?_)).trans hh, hr⟩
    rcases hne with hne | hne
    · exact hne (by rw [hv]; exact e)
    · rw [hv] at hne; cases hne
/-- two lists do not share a block -/
def Apart (v u : Value) : Prop := v.ownBlock ≠ u.ownBlock ∨ v.ownBlock = none
theorem Apart.next {W : World} {base n H : Nat} {e : TypeId} {v u u' : Value} {xs : List Value} (h : Apart v u) (ho : W.ownsRow base e 1 v n xs) (hH : W.heap.size ≤ H) (hat : u'.ownBlock = u.ownBlock ∨ u'.ownBlock = some H) : Apart v u' := by
  rcases h with h | h
  · rcases hat with hat | hat
    · exact .inl (by rw [hat]; exact h)
    · refine .inl fun e => ?_
      rw [hat] at e
      have := (ho.lt _ e).2
      omega
  · exact .inr h
theorem Apart.symm {v u : Value} (h : Apart v u) : Apart u v := by
  cases hu : u.ownBlock with
  | none => exact .inr hu
  | some g =>
    rcases h with h | h
    · exact .inl (Ne.symm h)
    · exact .inl (by rw [h, hu]; simp)
theorem Apart.new {W W' : World} {base base' n n' : Nat} {e : TypeId} {v u : Value} {xs ys : List Value} (hv : W.ownsRow base e 1 v n xs) (hu : W'.ownsRow base' e 1 u n' ys) (hb : W.heap.size ≤ base') : Apart v u := by
  cases h : v.ownBlock with
  | none => exact .inr h
  | some g =>
    refine .inl fun e => ?_
    have h1 := (hv.lt g h).2
    have h2 := (hu.lt g (by rw [← e, h])).1
    omega
theorem natsI_snoc (l : List Nat) (k : Nat) : intsV (natsI (l ++ [k])) = intsV (natsI l) ++ [.int .i64 (k : Nat)] := by simp [intsV, natsI]
theorem intsV_snoc (l : List Int) (k : Int) : intsV (l ++ [k]) = intsV l ++ [.int .i64 k] := by simp [intsV]
theorem mod_at {n m : Nat} : (n : Int).tmod (m : Int) = ((n % m : Nat) : Int) := by rw [Int.ofNat_tmod]

theorem own_cells {W : World} {base n : Nat} {e : TypeId} {v : Value} {xs : List Value} (h : W.ownsRow base e 1 v n xs) {k : Nat} (hk : v.ownBlock = some k) : ∃ c t, W.heap[k]? = some (.cells c t (0, 0)) := by
  rcases h.2 with ⟨rfl, _⟩ | ⟨g, cap, cur, rfl, _, hh, _⟩
  · simp [Value.ownBlock] at hk
  · simp [Value.ownBlock] at hk
    subst hk
    exact ⟨cur, e, hh⟩
theorem own_base {W : World} {base base' n : Nat} {e : TypeId} {v : Value} {xs : List Value} (h : W.ownsRow base e 1 v n xs) (hb : base' ≤ base) : W.ownsRow base' e 1 v n xs :=
  ⟨h.1, h.2.imp (fun h => h) fun ⟨g, c, cur, h1, h2, h3⟩ => ⟨g, c, cur, h1, Nat.le_trans hb h2, h3⟩⟩
/-- lists of things of other types do not share a block -/
theorem Apart.types {W : World} {base base' n n' : Nat} {e e' : TypeId} {v u : Value} {xs ys : List Value} (hv : W.ownsRow base e 1 v n xs) (hu : W.ownsRow base' e' 1 u n' ys) (he : e ≠ e') : Apart v u := by
  cases h : v.ownBlock with
  | none => exact .inr h
  | some g =>
    refine .inl fun e2 => ?_
    rcases hv.2 with ⟨rfl, _⟩ | ⟨g1, c1, cur1, rfl, _, h1, _⟩
    · simp [Value.ownBlock] at h
    · rcases hu.2 with ⟨rfl, _⟩ | ⟨g2, c2, cur2, rfl, _, h2, _⟩
      · simp [Value.ownBlock] at e2
      · simp [Value.ownBlock] at e2
        subst e2
        rw [h1] at h2
        injection h2 with h2
        injection h2 with _ h2 _
        exact he h2
theorem own_zeroO (w : World) {t : TypeId} : (w.alloc (.cells #[] t)).ownsRow w.heap.size t 1 (.slice (some ⟨w.heap.size, 0, none⟩) 0 0) 0 [] :=
  ⟨rfl, .inr ⟨_, 0, #[], rfl, Nat.le_refl _, Bx.new w _ _, Nat.le_refl _, Nat.zero_le _, rfl, rfl⟩⟩

end Go.Proofs.YtpaleogkgfclnaaGreatDoor

namespace Go.Proofs.YtpaleogkgfclnaaGreatDoor
open Go.RowKit
open Pl
set_option linter.unusedSimpArgs false
set_option linter.unusedVariables false

/-- DescribeStructure: no, or the description -/
def dsV (i : Int) (s r : ByteArray) : ByteArray × Bool := if okB i s r && decide (i ≤ 3) then (bs (dstF (ofSt i s r)).text, true) else (bs [], false)
/-- DescribeElement: no, or the description -/
def deV (i : Int) (s r : ByteArray) (z : Int) : ByteArray × Bool := if okB i s r && (elB i z && decide (i ≤ 4)) then (bs (delF ((ofSt i s r).part (frontL i.toNat z.toNat))).text, true) else (bs [], false)
theorem ds_no {i : Int} {s r : ByteArray} (h : okB i s r = false) : dsV i s r = (bs [], false) := by unfold dsV; rw [h]; rfl
theorem ds_big {i : Int} {s r : ByteArray} (h : ¬ i ≤ 3) : dsV i s r = (bs [], false) := by unfold dsV; rw [decide_eq_false h, Bool.and_false]; rfl
theorem ds_yes {a : St} (ha : a.ok) (h : a.n ≤ 3) : dsV a.n (bs a.set) (bs a.rel) = (bs (dstF a).text, true) := by
  unfold dsV
  rw [okB_true ha, decide_eq_true (by omega), ofSt_eq]
  rfl
theorem ds_cases (i : Int) (s r : ByteArray) : dsV i s r = (bs [], false) ∨ ∃ a : St, a.ok ∧ a.n ≤ 3 ∧ i = a.n ∧ s = bs a.set ∧ r = bs a.rel ∧ dsV i s r = (bs (dstF a).text, true) := by
  rcases ok_cases i s r with h | ⟨a, ha, rfl, rfl, rfl⟩
  · exact .inl (ds_no h)
  · by_cases h : a.n ≤ 3
    · exact .inr ⟨a, ha, h, rfl, rfl, rfl, ds_yes ha h⟩
    · exact .inl (ds_big (by omega))
theorem de_no {i : Int} {s r : ByteArray} {z : Int} (h : okB i s r = false) : deV i s r z = (bs [], false) := by unfold deV; rw [h]; rfl
theorem de_far {i : Int} {s r : ByteArray} {z : Int} (h : elB i z = false) : deV i s r z = (bs [], false) := by unfold deV; rw [h, Bool.false_and, Bool.and_false]; rfl
theorem de_big {i : Int} {s r : ByteArray} {z : Int} (h : ¬ i ≤ 4) : deV i s r z = (bs [], false) := by unfold deV; rw [decide_eq_false h, Bool.and_false, Bool.and_false]; rfl
theorem de_yes {a : St} (ha : a.ok) {x : Nat} (hx : x < a.n) (h : a.n ≤ 4) : deV a.n (bs a.set) (bs a.rel) (x : Nat) = (bs (delF (a.part (frontL a.n x))).text, true) := by
  unfold deV
  have he : elB (a.n : Int) (x : Nat) = true := by unfold elB; rw [decide_eq_true (by omega), decide_eq_true (by omega)]; rfl
  rw [okB_true ha, he, decide_eq_true (by omega), ofSt_eq]
  rfl
theorem de_cases (i : Int) (s r : ByteArray) (z : Int) : deV i s r z = (bs [], false) ∨ ∃ (a : St) (x : Nat), a.ok ∧ x < a.n ∧ a.n ≤ 4 ∧ i = a.n ∧ s = bs a.set ∧ r = bs a.rel ∧ z = (x : Nat) ∧ deV i s r z = (bs (delF (a.part (frontL a.n x))).text, true) := by
  rcases ok_cases i s r with h | ⟨a, ha, rfl, rfl, rfl⟩
  · exact .inl (de_no h)
  · rcases el_cases a.n z with h | ⟨x, rfl, hx, _⟩
    · exact .inl (de_far h)
    · by_cases h : a.n ≤ 4
      · exact .inr ⟨a, x, ha, hx, h, rfl, rfl, rfl, rfl, de_yes ha hx h⟩
      · exact .inl (de_big (by omega))

/-- texts, truth values as values in memory -/
def strsV (zs : List ByteArray) : List Value := zs.map fun z => .string z
def isV (L : List Bool) : List Value := L.map fun b => .bool b
theorem strsV_len (zs : List ByteArray) : (strsV zs).length = zs.length := by simp [strsV]
theorem isV_len (L : List Bool) : (isV L).length = L.length := by simp [isV]
theorem strsV_snoc (zs : List ByteArray) (z : ByteArray) : strsV (zs ++ [z]) = strsV zs ++ [.string z] := by simp [strsV]
theorem isV_snoc (L : List Bool) (b : Bool) : isV (L ++ [b]) = isV L ++ [.bool b] := by simp [isV]
theorem strsV_get {zs : List ByteArray} {k : Nat} (h : k < zs.length) : (strsV zs)[k]? = some (.string zs[k]) := by simp [strsV, h]
theorem isV_get {L : List Bool} {k : Nat} (h : k < L.length) : (isV L)[k]? = some (.bool L[k]) := by simp [isV, h]
theorem strsV_set (zs : List ByteArray) (k : Nat) (z : ByteArray) : (strsV zs).set k (.string z) = strsV (zs.set k z) := by simp [strsV, List.map_set]
theorem one_str (t : ByteArray) : ∀ u ∈ [Value.string t], u.oneCell' = true := by
  intro u hu
  simp at hu
  subst hu
  rfl
theorem one_bool (t : Bool) : ∀ u ∈ [Value.bool t], u.oneCell' = true := by
  intro u hu
  simp at hu
  subst hu
  rfl
theorem srow_own {w : World} {base g n cp : Nat} {zs : List ByteArray} (h : w.ownsRow base 9 1 (.slice (some ⟨g, 0, none⟩) n cp) n (strsV zs)) (hn : n = zs.length) (hs : ∀ s ∈ zs, s.size ≤ maxLen) : SRow w (.slice (some ⟨g, 0, none⟩) n cp) zs := by
  subst hn
  have h1 : zs.length ≤ cp ∧ cp ≤ maxLen := by
    rcases h.2 with ⟨e, _⟩ | ⟨g', c', cur, e, _, _, h5, h6, _⟩
    · cases e
    · injection e with _ _ e
      subst e
      exact ⟨h5, h6⟩
  obtain ⟨a, c, e1, hl, hc⟩ := row_slice h
  injection e1 with e1 e2 e3
  refine .inr ⟨⟨g, 0, none⟩, cp, rfl, h1.1, h1.2, fun i hi => ?_, hs⟩
  obtain ⟨g', e4, hc2⟩ := hc i hi
  rw [← e1] at e4
  injection e4 with e4
  injection e4 with e4 _ _
  rw [add_zero_at, e4, hc2]
  unfold strsV
  rw [List.getElem?_map, List.getElem?_eq_getElem hi, List.getD_eq_getElem?_getD, List.getElem?_eq_getElem hi]
  rfl
/-- the texts of facts, without what makes them false; with it up to k -/
def ftx (L : List (Fm × Bool)) : List ByteArray := L.map fun p => bs p.1.text
def fis (L : List (Fm × Bool)) : List Bool := L.map Prod.snd
def mixL (L : List (Fm × Bool)) (k : Nat) : List ByteArray := txs ((L.take k).map sgnP) ++ ftx (L.drop k)
theorem ftx_len (L : List (Fm × Bool)) : (ftx L).length = L.length := by simp [ftx]
theorem fis_len (L : List (Fm × Bool)) : (fis L).length = L.length := by simp [fis]
theorem mix_len (L : List (Fm × Bool)) (k : Nat) : (mixL L k).length = L.length := by simp [mixL, txs, ftx]; omega
theorem mix_zero (L : List (Fm × Bool)) : mixL L 0 = ftx L := by simp [mixL, txs]
theorem mix_all (L : List (Fm × Bool)) : mixL L L.length = txs (L.map sgnP) := by simp [mixL, ftx]
theorem mix_at {L : List (Fm × Bool)} {k : Nat} (h : k < L.length) : (mixL L k)[k]? = some (bs L[k].1.text) := by
  unfold mixL
  rw [List.getElem?_append_right (by simp [txs]; omega)]
  simp [txs, ftx, Nat.min_eq_left (Nat.le_of_lt h), h]
theorem mix_set {L : List (Fm × Bool)} {k : Nat} (h : k < L.length) : (mixL L k).set k (bs (sgnP L[k]).text) = mixL L (k + 1) := by
  have h0 : ((L.take k).map sgnP).length = k := by simp; omega
  have h1 : (txs ((L.take k).map sgnP)).length = k := by rw [txs, List.length_map]; exact h0
  have h2 : mixL L k = txs ((L.take k).map sgnP) ++ (bs L[k].1.text :: ftx (L.drop (k + 1))) := by unfold mixL; rw [List.drop_eq_getElem_cons h]; rfl
  have h3 : mixL L (k + 1) = txs ((L.take k).map sgnP) ++ (bs (sgnP L[k]).text :: ftx (L.drop (k + 1))) := by
    unfold mixL
    rw [List.take_succ_eq_append_getElem h, List.map_append, txs, List.map_append, List.append_assoc]
    rfl
  rw [h2, h3, List.set_append_right _ _ (by omega), h1, Nat.sub_self]
  rfl
theorem ftx_snoc (L : List (Fm × Bool)) (f : Fm) (b : Bool) : ftx (L ++ [(f, b)]) = ftx L ++ [bs f.text] := by simp [ftx]
theorem fis_snoc (L : List (Fm × Bool)) (f : Fm) (b : Bool) : fis (L ++ [(f, b)]) = fis L ++ [b] := by simp [fis]
theorem sgn_text (b : Bool) (f : Fm) : (sgn b f).text = if b then f.text else 33 :: f.text := by cases b <;> rfl
end Go.Proofs.YtpaleogkgfclnaaGreatDoor

namespace Go.Proofs.YtpaleogkgfclnaaGreatDoor
open Go.RowKit
open Pl
set_option linter.unusedSimpArgs false
set_option linter.unusedVariables false

theorem enter_each1 : ∀ (args : Array Value) (w : World), (callFunc 61 args).run Tryz.prog w = .ok (.enter 61 args) w := enter_of Tryz.func61 (by kernel_rfl) (by kernel_rfl)

set_option maxHeartbeats 4000000 in
set_option maxRecDepth 100000 in
theorem each1_calls (B : Nat) (a b : St) (ha : a.ok) (hb : b.ok) (hab : a.n = b.n) (c : Bool) (tf : FuncId) (tF tC : Array Value)
    (eT : ∀ (args : Array Value) (W : World), (callFunc tf args).run Tryz.prog W = .ok (.enter tf args) W)
    (J : World → List (List Nat) → Prop) (hJ : ∀ W W' L, (c = true ∨ L = []) → J W L → Below B W W' → J W' L)
    (hT : ∀ W L (l : List Nat) A cap, (c = true ∨ L = []) → J W L → B + 6 ≤ W.heap.size → l.length = a.n → (∀ x ∈ l, x < a.n) → LRow W A (natsI l) → Calls Tryz.prog tf (tF.push (.slice A l.length cap) ++ tC) W fun e w' => (e = .returned (.bool c) ∧ J w' (L ++ [l])) ∧ Kp B W w') :
    ∀ (m : Nat) (o : List Nat) (L : List (List Nat)) (W : World), (c = true ∨ L = []) → o.length + m = a.n → (∀ x ∈ o, x < a.n) → eEnv W B a b (.func (.func tf) tF tC) → eRow W B o → J W L →
    Calls Tryz.prog 61 #[.pointer (some ⟨B + 4, 0, none⟩), .pointer (some ⟨B, 0, none⟩), .pointer (some ⟨B + 2, 0, none⟩), .pointer (some ⟨B + 1, 0, none⟩), .pointer (some ⟨B + 5, 0, none⟩)] W fun e w' => (∃ q : Bool, e = .returned (.bool q) ∧ q = (c || (shapes a b m o).isEmpty) ∧ J w' (L ++ told c (shapes a b m o)) ∧ (q = true → eRow w' B o)) ∧ eEnv w' B a b (.func (.func tf) tF tC) := by
  have hn8 := ha.hi
  intro m
  induction m with
  | zero =>
    intro o L W hcl hl ho he hr hj
    obtain ⟨v, hbx, hown, hne⟩ := hr
    obtain ⟨A, cap, rfl, hcap, hL⟩ := own_open hown
    have hl0 : o.length = a.n := by omega
    have ht := hT W L o A cap hcl hj he.lt hl0 ho hL
    have o0 := hbx.cell 0
    have a0 := he.1.cell 0
    have t0 := he.2.2.1.cell 0
    simp at o0 a0 t0
    rw [← hl0] at a0
    have Ht := Lib.hid ht
    have He := Lib.hid he
    have Hr := Lib.hid (show eRow W B o from ⟨_, hbx, hown, hne⟩)
    have hq : c = (c || (shapes a b 0 o).isEmpty) := by simp [shapes]
    have hs : told c (shapes a b 0 o) = [o] := by cases c <;> rfl
    rw [hs]
    have Hq := Lib.hid hq
    clear ht hbx hown hne hL he hj hT hJ ho hl hl0 hq hs hab ha hb hcl
    go_enter Tryz.func61, Tryz.ntmps61
    go_wp2_with fail
    refine (Ht.out).mono ?_
    rintro e w1 ⟨⟨rfl, hj⟩, hk⟩
    have Hj := Lib.hid hj
    have Hk := Lib.hid hk
    clear hj hk
    go_wp2_with fail
    go_ret
    exact ⟨⟨c, rfl, Hq.out, Hj.out, fun _ => Hr.out.kp Hk.out⟩, He.out.kp Hk.out⟩
  | succ m ih =>
    intro o L W hcl hl ho he hr hj
    have hmiss : o.length < a.n := by omega
    have hcn : ∀ k V A cap, LRow V A (natsI o) → Calls Tryz.prog 62 #[.slice A o.length cap, .int .i64 (k : Nat)] V fun e w' => e = .returned (.bool (o.contains k)) ∧ V = w' := fun k V A cap hL => by
      have h := Contains_calls A (natsI o) cap (k : Nat) V (by rw [natsI_len]; omega) hL
      rw [natsI_len] at h
      have hm : (((k : Nat) : Int) ∈ natsI o) ↔ k ∈ o := by
        simp only [natsI, List.mem_map]
        exact ⟨fun ⟨y, hy, e⟩ => by have : y = k := by omega
                                    exact this ▸ hy, fun h => ⟨k, h, rfl⟩⟩
      rwa [show decide (((k : Nat) : Int) ∈ natsI o) = o.contains k by rw [List.contains_eq_mem]; exact decide_eq_decide.2 hm] at h
    have hpl : ∀ (k : Nat) V A cap, k < a.n → LRow V A (natsI o) → Calls Tryz.prog 63 #[stV (a.n : Int) (bs a.set) (bs a.rel), stV (b.n : Int) (bs b.set) (bs b.rel), .slice A o.length cap, .int .i64 k] V fun e w' => e = .returned (.bool (fitsB a b o k)) ∧ Below V.heap.size V w' := fun k V A cap hk hL => placed_calls a b ha hb hab o ho hmiss k hk A cap V hL
    have hnx : ∀ k, nextB a b o k = (!o.contains k && fitsB a b o k) := fun k => rfl
    have hih : ∀ (k : Nat) L V, (c = true ∨ L = []) → k < a.n → eEnv V B a b (.func (.func tf) tF tC) → eRow V B (o ++ [k]) → J V L → Calls Tryz.prog 61 #[.pointer (some ⟨B + 4, 0, none⟩), .pointer (some ⟨B, 0, none⟩), .pointer (some ⟨B + 2, 0, none⟩), .pointer (some ⟨B + 1, 0, none⟩), .pointer (some ⟨B + 5, 0, none⟩)] V fun e w' => (∃ q : Bool, e = .returned (.bool q) ∧ q = (c || (shapes a b m (o ++ [k])).isEmpty) ∧ J w' (L ++ told c (shapes a b m (o ++ [k]))) ∧ (q = true → eRow w' B (o ++ [k]))) ∧ eEnv w' B a b (.func (.func tf) tF tC) :=
      fun k L V hcl hk he hr hj => ih (o ++ [k]) L V hcl (by simp; omega) (by intro x hx; rcases List.mem_append.1 hx with hx | hx; exact ho x hx; simp at hx; omega) he hr hj
    obtain ⟨v, hbx, hown, hne⟩ := hr
    obtain ⟨A, cap, rfl, hcap, hL⟩ := own_open hown
    have o0 := hbx.cell 0
    have a0 := he.1.cell 0
    simp at o0 a0
    have d0 : ((o.length : Int) == (a.n : Int)) = false := by simp; omega
    have d1 : decide ((o.length : Int) = (a.n : Int)) = false := by simp; omega
    have d2 : ¬ (o.length : Int) = (a.n : Int) := by omega
    have He0 := Lib.hid he
    have Hr0 := Lib.hid (show eRow W B o from ⟨_, hbx, hown, hne⟩)
    have Hj0 := Lib.hid hj
    have HJ := Lib.hid hJ
    have Hcl := Lib.hid hcl
    have Hcn := Lib.hid hcn
    have Hpl := Lib.hid hpl
    have Hnx := Lib.hid hnx
    have Hih := Lib.hid hih
    have Ho := Lib.hid ho
    have eE := enter_each1
    obtain ⟨i0, hi, hz0, hz1, hz2⟩ := info_parts (P := Tryz.prog) (e := 3) (z := .int .i64 0) (size := 1) (bytes := 8) (by kernel_rfl)
    clear hcl hbx hown hne hL he hj hT hJ hcn hpl hnx hih ih ho hab ha hb eT
    clear d2
    go_enter Tryz.func61, Tryz.ntmps61
    go_wp2_with fail
    go_loopg [19] a.n (fun cc i wr => ∃ k : Nat, k + cc = a.n ∧ i = .int .i64 k ∧ J wr (L ++ upTo a b m o k) ∧ (c = true ∨ upTo a b m o k = []) ∧ eEnv wr B a b (.func (.func tf) tF tC) ∧ eRow wr B o)
    case atStart => exact ⟨0, by omega, rfl, by rw [upTo_zero, List.append_nil]; exact Hj0.out, .inr rfl, He0.out, Hr0.out⟩
    case round =>
      clear He0 Hr0 Hj0 o0 a0
      obtain ⟨k, hk, rfl, hj, hcu, he, hr⟩ := hrel
      have Hr := Lib.hid hr
      obtain ⟨v, hbx, hown, hne⟩ := hr
      obtain ⟨A2, cap2, rfl, hcap2, hL⟩ := own_open hown
      have o0 := hbx.cell 0
      obtain ⟨a0, a1, a2⟩ := box_load he.1
      obtain ⟨b0, b1, b2⟩ := box_load he.2.1
      simp at o0
      have He := Lib.hid he
      have Hj := Lib.hid hj
      have Hcu := Lib.hid hcu
      have Hcc := Lib.hid (show c = true ∨ L ++ upTo a b m o k = [] from by rcases Hcl.out with h | h; exact .inl h; rcases hcu with h2 | h2; exact .inl h2; exact .inr (by rw [h, h2]; rfl))
      have Hb := Lib.hid hbx
      have Hw := Lib.hid hown
      have Hne := Lib.hid hne
      have HL := Lib.hid hL
      clear he hj hcu hbx hown hne hL
      by_cases hlt : k < a.n
      · have h1 := Hcn.out k wr A2 cap2 HL.out
        have h2 := fun V hV => Hpl.out k V A2 cap2 hlt (HL.out.call (w' := V) hV)
        cases hc : o.contains k with
        | true =>
          have hup : upTo a b m o (k + 1) = upTo a b m o k := by rw [upTo_succ, Hnx.out, hc]; simp
          have Hup := Lib.hid hup
          rw [hc] at h1
          have H1 := Lib.hid h1
          clear h1 h2 hc hup
          go_wp2_with fail
          refine (H1.out).mono ?_
          rintro e w1 ⟨rfl, rfl⟩
          go_wp2_with fail
          go_roundg (a.n - k - 1)
          case rel => exact ⟨k + 1, by omega, by go_num, by rw [Hup.out]; exact Hj.out, by rw [Hup.out]; exact Hcu.out, He.out, Hr.out⟩
          case measure => omega
        | false =>
          rw [hc] at h1
          have H1 := Lib.hid h1
          clear h1
          cases hf : fitsB a b o k with
          | false =>
            have hup : upTo a b m o (k + 1) = upTo a b m o k := by rw [upTo_succ, Hnx.out, hf]; simp
            have Hup := Lib.hid hup
            rw [hf] at h2
            have H2 := Lib.hid h2
            clear h2 hc hf hup
            go_wp2_with fail
            refine (H1.out).mono ?_
            rintro e w1 ⟨rfl, rfl⟩
            go_wp2_with fail
            refine (H2.out _ (Below.refl _ _)).mono ?_
            rintro e w1 ⟨rfl, hz⟩
            have Hz := Lib.hid hz
            clear hz
            go_wp2_with fail
            go_roundg (a.n - k - 1)
            case rel => exact ⟨k + 1, by omega, by go_num, by rw [Hup.out]; exact HJ.out _ _ _ Hcc.out Hj.out (Hz.out.mono (by have := He.out.lt; omega)), by rw [Hup.out]; exact Hcu.out, He.out.kp (.of_below Hz.out), Hr.out.kp (.of_below Hz.out)⟩
            case measure => omega
          | true =>
            have hup : upTo a b m o (k + 1) = upTo a b m o k ++ shapes a b m (o ++ [k]) := by rw [upTo_succ, Hnx.out, hc, hf]; simp
            have Hup := Lib.hid hup
            have hst := fun h0 hs => told_stop (a := a) (b := b) (m := m) (k := k) (o := o) hlt (by rw [Hnx.out, hc, hf]; rfl) h0 hs
            have Hst := Lib.hid hst
            rw [hf] at h2
            have H2 := Lib.hid h2
            have h4 := fun V => Hih.out k (L ++ upTo a b m o k) V Hcc.out hlt
            have H4 := Lib.hid h4
            clear h2 hc hf hup hst h4
            go_wp2_with fail
            refine (H1.out).mono ?_
            rintro e w1 ⟨rfl, rfl⟩
            go_wp2_with fail
            refine (H2.out _ (Below.refl _ _)).mono ?_
            rintro e w1 ⟨rfl, hz⟩
            have E1 := Lib.hid (He.out.kp (.of_below hz))
            have B1 := Lib.hid (Hb.out.kp (B := B) (.of_below hz) (by omega))
            have W1 := Lib.hid (own_kp (B := B) Hw.out (.of_below hz) (by omega))
            have J1 := Lib.hid (HJ.out _ _ _ Hcc.out Hj.out (hz.mono (by have := He.out.lt; omega)))
            have o1 := B1.out.cell 0
            have hsz := E1.out.lt
            simp at o1
            clear hz o0 a0 a1 a2 b0 b1 b2
            go_wp2_with (at_builtin; refine wpList_append_own_at _ rfl _ _ 31 rfl (B + 3) 3 i0 (.int .i64 0) 1 8 Tryz.underlying31 hi hz0 hz1 hz2 rfl (by decide) _ _ _ rfl (W1.out.alloc _) ⟨w1.heap.size, 0, none⟩ 1 1 [.int .i64 k] rfl rfl (cell_one_new _ _ _) (ints_oneCell .i64 [(k : Int)]) (by unfold maxLen; omega) (by omega) (by simp; omega) ?_; intro v' w2 hown' hgrow hnil hloc; obtain ⟨g2, cap3, rfl⟩ := own_form hown'; have x2 := (B1.out.alloc _).grown hgrow (fun e => (Hne.out _ e.symm).1 rfl); have c2 := x2.cell 0; have f2 := x2.free 0; have x3 := (E1.out.2.2.2.alloc _).grown hgrow (fun e => (Hne.out _ e.symm).2 rfl); have c3 := x3.cell 0; simp at c2 c3; have E3 := Lib.hid (each_put E1.out B1.out W1.out Hne.out hown' hgrow hloc); clear x2 x3 hown' hgrow hnil hloc)
            refine (H4.out _ E3.out.1 E3.out.2.1 (HJ.out _ _ _ Hcc.out J1.out E3.out.2.2)).mono ?_
            rintro e w4 ⟨⟨q, rfl, hq, hj4, hr4⟩, he4⟩
            clear o1 c2 f2 c3
            cases q with
            | true =>
              obtain ⟨g, cap4, hb4, hc4, he5, hr5, hbl⟩ := each_back he4 (hr4 rfl)
              have htl : told c (shapes a b m (o ++ [k])) = shapes a b m (o ++ [k]) := by
                unfold told
                cases c with
                | true => rfl
                | false =>
                  have h : (shapes a b m (o ++ [k])).isEmpty = true := hq.symm
                  rw [List.isEmpty_iff.1 h]; rfl
              have hcu2 : c = true ∨ upTo a b m o (k + 1) = [] := by
                rcases Hcu.out with h | h
                · exact .inl h
                · cases c with
                  | true => exact .inl rfl
                  | false =>
                    have h2 : (shapes a b m (o ++ [k])).isEmpty = true := hq.symm
                    exact .inr (by rw [Hup.out, h, List.isEmpty_iff.1 h2]; rfl)
              rw [htl, List.append_assoc, ← Hup.out] at hj4
              have c4 := hb4.cell 0
              have f4 := hb4.free 0
              simp at c4
              have i1 : (0 : Int) ≤ (o.length : Int) := by omega
              have i2 : (o.length : Int) ≤ (cap4 : Int) := by omega
              have hcc2 : c = true ∨ L ++ upTo a b m o (k + 1) = [] := by rcases Hcl.out with h | h; exact .inl h; rcases hcu2 with h2 | h2; exact .inl h2; exact .inr (by rw [h, h2]; rfl)
              have J4 := Lib.hid (HJ.out _ _ _ hcc2 hj4 hbl)
              have E5 := Lib.hid he5
              have R5 := Lib.hid hr5
              have C5 := Lib.hid hcu2
              clear hq hj4 hr4 he4 hb4 he5 hr5 hbl htl hcu2 hcc2
              go_wp2_with fail
              go_roundg (a.n - k - 1)
              case rel => exact ⟨k + 1, by omega, by go_num, J4.out, C5.out, E5.out, R5.out⟩
              case measure => omega
            | false =>
              have hcf : c = false ∧ (shapes a b m (o ++ [k])).isEmpty = false := by simpa using hq
              obtain ⟨rfl, hse⟩ := hcf
              have h0 : upTo a b m o k = [] := by rcases Hcu.out with h | h; cases h; exact h
              obtain ⟨t1, t2⟩ := Hst.out h0 hse
              rw [h0, List.append_nil, ← t2] at hj4
              have J4 := Lib.hid hj4
              have T1 := Lib.hid t1
              have E4 := Lib.hid he4
              clear hq hj4 hr4 he4 hse h0 t1 t2
              go_wp2_with fail
              go_ret
              exact ⟨⟨false, rfl, by rw [T1.out]; rfl, J4.out, fun h => by cases h⟩, E4.out⟩
      · have hk2 : k = a.n := by omega
        have hfin : J wr (L ++ told c (shapes a b (m + 1) o)) ∧ true = (c || (shapes a b (m + 1) o).isEmpty) := by
          have hj := Hj.out
          have hcu := Hcu.out
          rw [hk2, ← shapes_upTo] at hj hcu
          rcases hcu with rfl | h
          · exact ⟨hj, by simp⟩
          · rw [h] at hj ⊢
            exact ⟨by cases c <;> exact hj, by simp⟩
        have Hfin := Lib.hid hfin
        clear hfin hk2
        go_wp2_with fail
        go_ret
        exact ⟨⟨true, rfl, Hfin.out.2, Hfin.out.1, fun _ => Hr.out⟩, He.out⟩

end Go.Proofs.YtpaleogkgfclnaaGreatDoor

namespace Go.Proofs.YtpaleogkgfclnaaGreatDoor
open Go.RowKit
open Pl
set_option linter.unusedSimpArgs false
set_option linter.unusedVariables false

theorem new_at {w : World} {B : Nat} {t : TypeId} {cs : Array Value} (h : w.heap.size = B) : Bx (w.alloc (.cells cs t)) B t cs := h ▸ Bx.new w t cs
theorem each_six (w : World) (ca cb : Array Value) (tv : Value) :
    Bx ((((((w.alloc (.cells ca 24)).alloc (.cells cb 24)).alloc (.cells #[tv] 59)).alloc (.cells #[] 3)).alloc (.cells #[.slice (some ⟨w.heap.size + 1 + 1 + 1, 0, none⟩) 0 0] 31)).alloc (.cells #[.nilFunc] 66)) w.heap.size 24 ca ∧ Bx ((((((w.alloc (.cells ca 24)).alloc (.cells cb 24)).alloc (.cells #[tv] 59)).alloc (.cells #[] 3)).alloc (.cells #[.slice (some ⟨w.heap.size + 1 + 1 + 1, 0, none⟩) 0 0] 31)).alloc (.cells #[.nilFunc] 66)) (w.heap.size + 1) 24 cb ∧ Bx ((((((w.alloc (.cells ca 24)).alloc (.cells cb 24)).alloc (.cells #[tv] 59)).alloc (.cells #[] 3)).alloc (.cells #[.slice (some ⟨w.heap.size + 1 + 1 + 1, 0, none⟩) 0 0] 31)).alloc (.cells #[.nilFunc] 66)) (w.heap.size + 2) 59 #[tv] ∧ Bx ((((((w.alloc (.cells ca 24)).alloc (.cells cb 24)).alloc (.cells #[tv] 59)).alloc (.cells #[] 3)).alloc (.cells #[.slice (some ⟨w.heap.size + 1 + 1 + 1, 0, none⟩) 0 0] 31)).alloc (.cells #[.nilFunc] 66)) (w.heap.size + 3) 3 #[] ∧ Bx ((((((w.alloc (.cells ca 24)).alloc (.cells cb 24)).alloc (.cells #[tv] 59)).alloc (.cells #[] 3)).alloc (.cells #[.slice (some ⟨w.heap.size + 1 + 1 + 1, 0, none⟩) 0 0] 31)).alloc (.cells #[.nilFunc] 66)) (w.heap.size + 4) 31 #[.slice (some ⟨w.heap.size + 3, 0, none⟩) 0 0] ∧ Bx ((((((w.alloc (.cells ca 24)).alloc (.cells cb 24)).alloc (.cells #[tv] 59)).alloc (.cells #[] 3)).alloc (.cells #[.slice (some ⟨w.heap.size + 1 + 1 + 1, 0, none⟩) 0 0] 31)).alloc (.cells #[.nilFunc] 66)) (w.heap.size + 5) 66 #[.nilFunc] ∧ Below w.heap.size w ((((((w.alloc (.cells ca 24)).alloc (.cells cb 24)).alloc (.cells #[tv] 59)).alloc (.cells #[] 3)).alloc (.cells #[.slice (some ⟨w.heap.size + 1 + 1 + 1, 0, none⟩) 0 0] 31)).alloc (.cells #[.nilFunc] 66)) := by
  refine ⟨(((((Bx.new w 24 ca).alloc _).alloc _).alloc _).alloc _).alloc _, ((((new_at (by simp) : Bx _ (w.heap.size + 1) 24 cb).alloc _).alloc _).alloc _).alloc _, (((new_at (by simp) : Bx _ (w.heap.size + 2) 59 #[tv]).alloc _).alloc _).alloc _,
    ((new_at (by simp) : Bx _ (w.heap.size + 3) 3 #[]).alloc _).alloc _, (new_at (by simp) : Bx _ (w.heap.size + 4) 31 #[.slice (some ⟨w.heap.size + 3, 0, none⟩) 0 0]).alloc _, new_at (by simp), ?_⟩
  exact ((((((Below.refl w.heap.size w).alloc (by simp) _).alloc (by simp) _).alloc (by simp; omega) _).alloc (by simp; omega) _).alloc (by simp; omega) _).alloc (by simp; omega) _

set_option maxHeartbeats 4000000 in
set_option maxRecDepth 100000 in
theorem eachShape_calls (a b : St) (ha : a.ok) (hb : b.ok) (hab : a.n = b.n) (c : Bool) (tf : FuncId) (tF tC : Array Value) (w : World)
    (eT : ∀ (args : Array Value) (W : World), (callFunc tf args).run Tryz.prog W = .ok (.enter tf args) W)
    (J : World → List (List Nat) → Prop) (hJ : ∀ W W' L, (c = true ∨ L = []) → J W L → Below w.heap.size W W' → J W' L)
    (hT : ∀ W L (l : List Nat) A cap, (c = true ∨ L = []) → J W L → w.heap.size + 6 ≤ W.heap.size → l.length = a.n → (∀ x ∈ l, x < a.n) → LRow W A (natsI l) → Calls Tryz.prog tf (tF.push (.slice A l.length cap) ++ tC) W fun e w' => (e = .returned (.bool c) ∧ J w' (L ++ [l])) ∧ Kp w.heap.size W w')
    (hj : J w []) :
    Calls Tryz.prog 34 #[stA a, stA b, (.func (.func tf) tF tC)] w fun e w' => e = .returned (.tuple #[]) ∧ J w' (told c (isos a b)) := by
  have h := each1_calls w.heap.size a b ha hb hab c tf tF tC eT J hJ hT a.n [] []
  have hin : ∀ W, eEnv W w.heap.size a b (.func (.func tf) tF tC) → eRow W w.heap.size [] → Below w.heap.size w W → Calls Tryz.prog 61 #[.pointer (some ⟨w.heap.size + 4, 0, none⟩), .pointer (some ⟨w.heap.size, 0, none⟩), .pointer (some ⟨w.heap.size + 2, 0, none⟩), .pointer (some ⟨w.heap.size + 1, 0, none⟩), .pointer (some ⟨w.heap.size + 5, 0, none⟩)] W fun e w' => (∃ q : Bool, e = .returned (.bool q)) ∧ J w' (told c (isos a b)) := fun W he hr hbl =>
    (h W (.inr rfl) (by simp) (by simp) he hr (hJ _ _ _ (.inr rfl) hj hbl)).mono fun e w' ⟨⟨q, h1, _, h3, _⟩, _⟩ => ⟨⟨q, h1⟩, by simpa [isos] using h3⟩
  have Hin := Lib.hid hin
  clear h hin hT hJ hj ha hb hab eT
  have eE := enter_each1
  go_enter Tryz.func34, Tryz.ntmps34
  go_upto_region 3 with (fail)
  have hx := each_six w #[.int .i64 a.n, .string (bs a.set), .string (bs a.rel)] #[.int .i64 b.n, .string (bs b.set), .string (bs b.rel)] (.func (.func tf) tF tC)
  generalize ((((((w.alloc (.cells #[.int .i64 a.n, .string (bs a.set), .string (bs a.rel)] 24)).alloc (.cells #[.int .i64 b.n, .string (bs b.set), .string (bs b.rel)] 24)).alloc (.cells #[(.func (.func tf) tF tC)] 59)).alloc (.cells #[] 3)).alloc (.cells #[.slice (some ⟨w.heap.size + 1 + 1 + 1, 0, none⟩) 0 0] 31)).alloc (.cells #[.nilFunc] 66)) = V at *
  have Hx := Lib.hid hx
  have q0 : V.cell? ⟨w.heap.size + 1 + 1 + 1 + 1 + 1, 0, none⟩ = some .nilFunc := hx.2.2.2.2.2.1.cell 0
  have q1 : V.frozen? ⟨w.heap.size + 1 + 1 + 1 + 1 + 1, 0, none⟩ = false := hx.2.2.2.2.2.1.free 0
  clear hx
  go_wp2_with fail
  obtain ⟨x0, x1, x2, x3, x4, x5, hbl⟩ := Hx.out
  refine (Hin.out _ ?h1 ?h2 ?h3).mono ?_
  case h1 => exact ⟨x0.far (by simp <;> omega) _, x1.far (by simp <;> omega) _, x2.far (by simp <;> omega) _, by simpa using x5.set 0 _⟩
  case h2 => exact ⟨_, x4.far (by simp) _, ⟨by simp [intsV, natsI], .inr ⟨_, 0, #[], rfl, Nat.le_refl _, x3.far (by simp) _, Nat.le_refl _, Nat.zero_le _, rfl, by simp [intsV, natsI]⟩⟩, fun k hk => by injection hk with hk; simp at hk; omega⟩
  case h3 => exact hbl.setCell (by simp <;> omega) _
  rintro e w1 ⟨⟨q, rfl⟩, hj⟩
  have Hj := Lib.hid hj
  clear hj x0 x1 x2 x3 x4 x5 hbl Hx q0 q1
  go_wp2_with fail
  exact bodyPost_end (results_none Tryz.results34 _ _ _) rfl ⟨rfl, Hj.out⟩

end Go.Proofs.YtpaleogkgfclnaaGreatDoor

namespace Go.Proofs.YtpaleogkgfclnaaGreatDoor
open Go.RowKit
open Pl
set_option linter.unusedSimpArgs false
set_option linter.unusedVariables false

/-- a counter as the machine has it -/
def cnt : Nat → Int
  | 0 => 0
  | k + 1 => IntKind.i64.wrap (cnt k + 1)
theorem cnt_small : ∀ (k : Nat), k ≤ 1048576 → cnt k = k
  | 0, _ => rfl
  | k + 1, h => by
    show IntKind.i64.wrap (cnt k + 1) = _
    rw [cnt_small k (by omega), IntKind.wrap_i64]
    omega

theorem Kp.setCell {B : Nat} {W : World} {p : Addr} (hp : p.block < B) (u : Value) : Kp B W (W.setCell p u) :=
  ⟨by simp, fun k hk _ => Below.heap_setCell W p u k (by omega)⟩
theorem Kp.refl (B : Nat) (W : World) : Kp B W W := ⟨Nat.le_refl _, fun _ _ _ => rfl⟩

theorem fact_le : ∀ n, n ≤ 8 → fact n ≤ 40320
  | 0, _ => by decide
  | 1, _ => by decide
  | 2, _ => by decide
  | 3, _ => by decide
  | 4, _ => by decide
  | 5, _ => by decide
  | 6, _ => by decide
  | 7, _ => by decide
  | 8, _ => by decide
theorem fact_pos : ∀ n, 0 < fact n
  | 0 => by decide
  | n + 1 => Nat.mul_pos (Nat.succ_pos n) (fact_pos n)
theorem isos_le {a : St} (ha : a.ok) : (isos a a).length ≤ 40320 := by
  have h := Nat.le_of_dvd (by have := fact_pos a.n; omega) (count_dvd_fact a)
  have := fact_le a.n ha.hi
  omega

/-- the number of symmetries -/
def symV (i : Int) (s r : ByteArray) : Int := if okB i s r then ((isos (ofSt i s r) (ofSt i s r)).length : Int) else -1
theorem symV_no {i : Int} {s r : ByteArray} (h : okB i s r = false) : symV i s r = -1 := by unfold symV; rw [h]; rfl

end Go.Proofs.YtpaleogkgfclnaaGreatDoor

namespace Go.Proofs.YtpaleogkgfclnaaGreatDoor
open Go.RowKit
open Pl
set_option linter.unusedSimpArgs false
set_option linter.unusedVariables false

/-- a number, and some list -/
def NumL (n : Nat) (e : Ending) : Prop := ∃ F k cap, e = .returned (.tuple #[.int .i64 (n : Nat), .slice F k cap])

end Go.Proofs.YtpaleogkgfclnaaGreatDoor

namespace Go.Proofs.YtpaleogkgfclnaaGreatDoor
open Go.RowKit
open Pl
set_option linter.unusedSimpArgs false
set_option linter.unusedVariables false

/-- the first of some lists, and whether there is one -/
def FstL (L : List (List Nat)) (e : Ending) (w' : World) : Prop := ∃ g cap, e = .returned (.tuple #[.slice (some ⟨g, 0, none⟩) (L.headD []).length cap, .bool (!L.isEmpty)]) ∧ LRow w' (some ⟨g, 0, none⟩) (natsI (L.headD []))

theorem fst_stop {a b : St} {m k : Nat} {o : List Nat} (hk : k < a.n) (hn : nextB a b o k = true) (h0 : upTo a b m o k = []) (hs : (shapes a b m (o ++ [k])).isEmpty = false) :
    (shapes a b (m + 1) o).isEmpty = false ∧ (shapes a b (m + 1) o).headD [] = (shapes a b m (o ++ [k])).headD [] := by
  obtain ⟨h1, h2⟩ := told_stop hk hn h0 hs
  refine ⟨h1, ?_⟩
  generalize shapes a b (m + 1) o = L at *
  generalize shapes a b m (o ++ [k]) = M at *
  cases L with
  | nil => cases h1
  | cons x L =>
    cases M with
    | nil => cases hs
    | cons y M => simp [told] at h2; exact h2

end Go.Proofs.YtpaleogkgfclnaaGreatDoor

namespace Go.Proofs.YtpaleogkgfclnaaGreatDoor
open Go.RowKit
open Pl
set_option linter.unusedSimpArgs false
set_option linter.unusedVariables false

theorem quiet_left' {P : Program} {f : FuncId} {args : Array Value} {w : World} {n : Nat} {v : Value}
    (h : Calls P f args (w.drewN n) fun e w' => e = .returned v ∧ w.drewN n = w') : Calls P f args (w.drewN n) fun e w'' => e = .returned v ∧ ∃ m, w'' = w.drewN m :=
  h.mono fun _ _ ⟨he, hm⟩ => ⟨he, n, hm.symm⟩

theorem ok_range {i : Int} {s r : ByteArray} (h : okB i s r = true) : 1 ≤ i ∧ i ≤ 8 := by
  unfold okB at h
  simp only [Bool.and_eq_true, decide_eq_true_eq] at h
  exact ⟨h.1, h.2.1⟩

theorem wrap_pred {i : Int} (h1 : 1 ≤ i) (h8 : i ≤ 8) : IntKind.i64.wrap (i - 1) = i - 1 := IntWalk.i64_in _ (by omega)

theorem elB_in {i z : Int} (h1 : 1 ≤ i) (h8 : i ≤ 8) : (decide (0 ≤ z) && decide (z ≤ IntKind.i64.wrap (i - 1))) = elB i z := by
  rw [wrap_pred h1 h8]
  unfold elB
  congr 1
  rw [decide_eq_decide]; omega

theorem partB_out {i : Int} {s r : ByteArray} {zs : List Int} {z : Int} (hz : z ∈ zs) (h : (decide (0 ≤ z) && decide (z ≤ IntKind.i64.wrap (i - 1))) = false) : partB i s r zs = false := by
  unfold partB
  cases hok : okB i s r with
  | false => rfl
  | true =>
    obtain ⟨h1, h8⟩ := ok_range hok
    rw [elB_in h1 h8] at h
    have : elAll i zs = false := by
      rw [Bool.eq_false_iff]; intro e
      have := List.all_eq_true.1 e z hz
      rw [h] at this; cases this
    rw [this]; simp

theorem partB_dup {i : Int} {s r : ByteArray} {zs : List Int} (h : ¬ zs.Nodup) : partB i s r zs = false := by
  unfold partB nodB
  rw [decide_eq_false h]; simp

theorem partB_end {i : Int} {s r : ByteArray} {zs : List Int} (h : ∀ z ∈ zs, (decide (0 ≤ z) && decide (z ≤ IntKind.i64.wrap (i - 1))) = true) (h2 : zs.Nodup) : partB i s r zs = (okB i s r && decide (0 < zs.length)) := by
  unfold partB nodB
  cases hok : okB i s r with
  | false => rfl
  | true =>
    obtain ⟨h1, h8⟩ := ok_range hok
    have : elAll i zs = true := List.all_eq_true.2 fun z hz => by rw [← elB_in h1 h8]; exact h z hz
    rw [this, decide_eq_true h2]; simp

end Go.Proofs.YtpaleogkgfclnaaGreatDoor

namespace Go.Proofs.YtpaleogkgfclnaaGreatDoor
open Go.RowKit
open Pl
set_option linter.unusedSimpArgs false
set_option linter.unusedVariables false
attribute [local go_sem ↓] Go.wp_at_zero Go.wp_at_succ

/-- what the reference asks of a pair -/
def fitS (a b : St) (o : List Nat) (x k : Nat) : Bool :=
  decide ((o ++ [x]).getD k 0 = x) == decide (k = o.length) && a.inR ((o ++ [x]).getD k 0) x == b.inR k o.length && a.inR x ((o ++ [x]).getD k 0) == b.inR o.length k

theorem nextB_eq (a b : St) (o : List Nat) (x : Nat) : nextB a b o x = (a.inS x == b.inS o.length && (List.range (o.length + 1)).all (fitS a b o x)) := by
  rw [Bool.eq_iff_iff]
  unfold nextB fitsB fitS
  simp only [Bool.and_eq_true, Bool.not_eq_true', List.contains_eq_mem, decide_eq_false_iff_not, beq_iff_eq, List.all_eq_true, List.mem_range]
  constructor
  · rintro ⟨hc, ⟨h1, h2⟩, h3⟩
    refine ⟨h1, fun k hk => ?_⟩
    by_cases e : k = o.length
    · subst e
      rw [getD_snoc_eq]
      simp [h2]
    · have hk2 : k < o.length := by omega
      rw [getD_snoc_lt hk2]
      obtain ⟨h4, h5⟩ := h3 k hk2
      refine ⟨⟨?_, h5⟩, h4⟩
      rw [decide_eq_false e, decide_eq_false_iff_not]
      intro h
      apply hc
      rw [← h, List.getD_eq_getElem?_getD, List.getElem?_eq_getElem hk2]
      exact List.getElem_mem hk2
  · rintro ⟨h1, h⟩
    refine ⟨fun hc => ?_, ⟨h1, ?_⟩, fun k hk => ?_⟩
    · obtain ⟨k, hk, he⟩ := List.getElem_of_mem hc
      have h2 := (h k (by omega)).1.1
      rw [getD_snoc_lt hk, List.getD_eq_getElem?_getD, List.getElem?_eq_getElem hk, Option.getD_some, he, decide_eq_false (show ¬ k = o.length by omega)] at h2
      simp at h2
    · have h2 := (h o.length (by omega)).2
      rwa [getD_snoc_eq] at h2
    · have h2 := h k (by omega)
      rw [getD_snoc_lt hk] at h2
      exact ⟨h2.2, h2.1.2⟩

end Go.Proofs.YtpaleogkgfclnaaGreatDoor
