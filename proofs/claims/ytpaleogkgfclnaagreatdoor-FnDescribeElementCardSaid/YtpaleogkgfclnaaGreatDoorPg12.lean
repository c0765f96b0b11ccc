/-
  Laws of the functions that the claim reaches, one after the other (packed by a program of the prover's: PtV, CpP, RelP, DrP, WDeLaw). Conditions: texts below the reach.
-/
import Derived.Test.YtpaleogkgfclnaaGreatDoorPg11
import Derived.Test.YtpaleogkgfclnaaGreatDoorPg8
import Derived.Test.YtpaleogkgfclnaaGreatDoorPg7
import Derived.Test.YtpaleogkgfclnaaGreatDoorPg0
import Derived.Test.YtpaleogkgfclnaaGreatDoorPg3
import Derived.Test.YtpaleogkgfclnaaGreatDoorPg9
import Derived.Test.YtpaleogkgfclnaaGreatDoorPg2
import Derived.Test.YtpaleogkgfclnaaGreatDoorPg1
set_option linter.unusedSimpArgs false
set_option linter.unusedVariables false

namespace Go.Proofs.YtpaleogkgfclnaaGreatDoor
open Go.RowKit
open Pl
set_option linter.unusedSimpArgs false
set_option linter.unusedVariables false

noncomputable def ptB (i : Int) (s r f : ByteArray) (x : Int) : Bool := decide (0 ≤ x) && (decide (x ≤ 3) && rdyB i s r f x.toNat)
noncomputable def ptL (i : Int) (s r f : ByteArray) (x : Int) : List (List Nat) := if ptB i s r f x then (listsK (ofSt i s r).n x.toNat).filter (truV i s r f) else []
noncomputable def cptV (i : Int) (s r f : ByteArray) (x : Int) : Int := if ptB i s r f x then ((ptL i s r f x).length : Int) else -1
noncomputable def fstV (i : Int) (s r f : ByteArray) (x : Int) : List Nat := (ptL i s r f x).headD []
noncomputable def fstB (i : Int) (s r f : ByteArray) (x : Int) : Bool := ptB i s r f x && !(ptL i s r f x).isEmpty
noncomputable def sameV (i : Int) (s r f g : ByteArray) : Bool := (rdyB i s r f 3 && rdyB i s r g 3) && decide (ptL i s r f 3 = ptL i s r g 3)
theorem pt_neg {i : Int} {s r f : ByteArray} {x : Int} (h : ¬ 0 ≤ x) : ptB i s r f x = false := by unfold ptB; rw [decide_eq_false h]; rfl
theorem pt_big {i : Int} {s r f : ByteArray} {x : Int} (h : ¬ x ≤ 3) : ptB i s r f x = false := by unfold ptB; rw [decide_eq_false h]; simp
theorem pt_nat (i : Int) (s r f : ByteArray) {k : Nat} (h : k ≤ 3) : ptB i s r f (k : Nat) = rdyB i s r f k := by
  unfold ptB
  rw [decide_eq_true (show (0 : Int) ≤ (k : Nat) by omega), decide_eq_true (show ((k : Nat) : Int) ≤ 3 by omega)]
  rfl
theorem pt_cases {i : Int} {s r f : ByteArray} {x : Int} (h : ptB i s r f x = true) : ∃ k : Nat, x = (k : Nat) ∧ k ≤ 3 ∧ rdyB i s r f k = true := by
  unfold ptB at h
  simp only [Bool.and_eq_true, decide_eq_true_eq] at h
  refine ⟨x.toNat, by omega, by omega, h.2.2⟩
theorem ptL_no {i : Int} {s r f : ByteArray} {x : Int} (h : ptB i s r f x = false) : ptL i s r f x = [] := by unfold ptL; rw [h]; rfl
theorem ptL_yes {a : St} {f : ByteArray} {g : Fm} {k : Nat} (hf : f.data.toList = g.text) (h : ptB a.n (bs a.set) (bs a.rel) f (k : Nat) = true) : ptL a.n (bs a.set) (bs a.rel) f (k : Nat) = (listsK a.n k).filter fun l => g.holds a (envL l) := by
  unfold ptL
  rw [h]
  simp only [if_true, ofSt_eq]
  refine List.filter_congr fun l _ => ?_
  rw [tru_of hf]
theorem ptL_len (i : Int) (s r f : ByteArray) (x : Int) : ∀ l ∈ ptL i s r f x, l.length ≤ 3 := by
  intro l hl
  unfold ptL at hl
  split at hl
  · rename_i h
    obtain ⟨k, rfl, hk, hr⟩ := pt_cases h
    have hn : 0 < (ofSt i s r).n := by
      rcases ok_cases i s r with h1 | ⟨a, ha, rfl, rfl, rfl⟩
      · rw [rdy_noSt h1] at hr; cases hr
      · rw [ofSt_eq]; exact ha.lo
    have := (listsK_mem hn (List.mem_filter.1 hl).1).1
    simp at this
    omega
  · simp at hl
theorem fst_le (i : Int) (s r f : ByteArray) (x : Int) : (fstV i s r f x).length ≤ 8 := by
  unfold fstV
  cases h : ptL i s r f x with
  | nil => simp
  | cons l t =>
    have := ptL_len i s r f x l (by rw [h]; simp)
    simp; omega
/-- the lists so far -/
def ftK (P : List Nat → Bool) (Ls : List (List Nat)) (j : Nat) : List (List Nat) := (Ls.take j).filter P
theorem ftK_succ (P : List Nat → Bool) (Ls : List (List Nat)) (j : Nat) (hj : j < Ls.length) : ftK P Ls (j + 1) = if P (Ls.getD j []) then ftK P Ls j ++ [Ls.getD j []] else ftK P Ls j := by
  unfold ftK
  rw [List.take_add_one, List.getD_eq_getElem?_getD, List.getElem?_eq_getElem hj, List.filter_append]
  cases h : P Ls[j] <;> simp [h]
theorem ftK_all (P : List Nat → Bool) (Ls : List (List Nat)) : ftK P Ls Ls.length = Ls.filter P := by unfold ftK; rw [List.take_length]
theorem ftK_le (P : List Nat → Bool) (Ls : List (List Nat)) (j : Nat) : (ftK P Ls j).length ≤ Ls.length := by
  unfold ftK
  exact Nat.le_trans (List.length_filter_le _ _) (by simp; omega)

end Go.Proofs.YtpaleogkgfclnaaGreatDoor

namespace Go.Proofs.YtpaleogkgfclnaaGreatDoor
open Go.RowKit
open Pl
set_option linter.unusedSimpArgs false
set_option linter.unusedVariables false

/-- how many lists of k elements make g true -/
noncomputable def cntL (a : St) (g : Fm) (k : Nat) : Nat := ((listsK a.n k).filter fun l => g.holds a (envL l)).length
theorem cpt_fm {a : St} (ha : a.ok) {g : Fm} (hg : g.text.length ≤ 4000) {k : Nat} (hk : k ≤ 3) (hf : g.freeBits / 2 ^ k = 0) : cptV a.n (bs a.set) (bs a.rel) (bs g.text) (k : Nat) = (cntL a g k : Nat) := by
  have h : ptB a.n (bs a.set) (bs a.rel) (bs g.text) (k : Nat) = true := by
    rw [pt_nat _ _ _ _ hk, rdy_of (fm_bs hg) (bs_list _) ha, decide_eq_true hf]
  unfold cptV
  rw [h, ptL_yes (bs_list _) h]
  rfl
theorem cpt_cases (i : Int) (s r f : ByteArray) (x : Int) : cptV i s r f x = -1 ∨
    ∃ (a : St) (g : Fm) (k : Nat), a.ok ∧ i = a.n ∧ s = bs a.set ∧ r = bs a.rel ∧ f = bs g.text ∧ g.text.length ≤ 4000 ∧ x = (k : Nat) ∧ k ≤ 3 ∧ g.freeBits / 2 ^ k = 0 ∧ cptV i s r f x = (cntL a g k : Nat) := by
  cases h : ptB i s r f x with
  | false => left; unfold cptV; rw [h]; rfl
  | true =>
    right
    obtain ⟨k, rfl, hk, hr⟩ := pt_cases h
    unfold rdyB at hr
    simp only [Bool.and_eq_true, decide_eq_true_eq] at hr
    obtain ⟨h1, h2, h3⟩ := hr
    rcases ok_cases i s r with hq | ⟨a, ha, rfl, rfl, rfl⟩
    · rw [h1] at hq; cases hq
    rcases fm_cases f with ⟨hq, _⟩ | ⟨g, hb, hf, hs4, hl4⟩
    · rw [h2] at hq; cases hq
    rw [fmOf_eq hf] at h3
    obtain rfl := eq_bs hf
    exact ⟨a, g, k, ha, rfl, rfl, rfl, rfl, hl4, rfl, hk, h3, cpt_fm ha hl4 hk h3⟩
theorem filter_not {α : Type} (p : α → Bool) : ∀ l : List α, (l.filter p).length + (l.filter fun x => !p x).length = l.length := by
  intro l
  induction l with
  | nil => rfl
  | cons x l ih => cases h : p x <;> simp [h] <;> omega
theorem cnt_neg {a : St} (ha : a.ok) (g : Fm) (k : Nat) : cntL a g k + cntL a (.neg g) k = a.n ^ k := by
  have h := filter_not (fun l => g.holds a (envL l)) (listsK a.n k)
  rw [listsK_len (by have := ha.lo; omega)] at h
  exact h
theorem cntL_le {a : St} (ha : a.ok) (g : Fm) (k : Nat) : cntL a g k ≤ a.n ^ k := by have := cnt_neg ha g k; omega
theorem free_lt {g : Fm} {k : Nat} (hf : g.freeBits / 2 ^ k = 0) {v : Fin 4} (hv : g.isFree v) : v.val < k := by
  apply Classical.byContradiction
  intro hge
  have h1 : g.freeBits < 2 ^ k := by
    have h2 : 0 < 2 ^ k := Nat.two_pow_pos _
    have := Nat.div_add_mod g.freeBits (2 ^ k)
    rw [hf] at this
    have := Nat.mod_lt g.freeBits h2
    omega
  have h3 : g.freeBits < 2 ^ v.val := Nat.lt_of_lt_of_le h1 (Nat.pow_le_pow_right (by decide) (by omega))
  unfold Fm.isFree at hv
  rw [Nat.testBit_lt_two_pow h3] at hv
  cases hv
theorem cnt_flat {a : St} {g : Fm} {k : Nat} (hf : g.freeBits / 2 ^ k = 0) : ∀ Ls : List (List Nat), (∀ l ∈ Ls, l.length = k) → ((Ls.flatMap (extL a.n)).filter fun l => g.holds a (envL l)).length = (Ls.filter fun l => g.holds a (envL l)).length * a.n := by
  intro Ls
  induction Ls with
  | nil => intro _; simp
  | cons l Ls ih =>
    intro hl
    have hll := hl l (by simp)
    have he : ∀ x, g.holds a (envL (l ++ [x])) = g.holds a (envL l) := fun x => holds_free a g _ _ fun v hv => by
      have := free_lt hf hv
      unfold envL
      rw [List.getD_eq_getElem?_getD, List.getD_eq_getElem?_getD, List.getElem?_append_left (by omega)]
    have h1 : ((extL a.n l).filter fun l => g.holds a (envL l)).length = if g.holds a (envL l) then a.n else 0 := by
      unfold extL
      rw [List.filter_map, List.length_map]
      cases hb : g.holds a (envL l) with
      | false => rw [List.filter_eq_nil_iff.2 (fun x _ => by simp [he, hb])]; rfl
      | true => rw [List.filter_eq_self.2 (fun x _ => by simp [he, hb])]; simp
    rw [List.flatMap_cons, List.filter_append, List.length_append, ih fun m hm => hl m (by simp [hm]), h1]
    cases hb : g.holds a (envL l) with
    | false => simp [hb]
    | true => simp [hb, Nat.succ_mul]; omega
theorem cnt_more {a : St} (ha : a.ok) {g : Fm} {k : Nat} (hf : g.freeBits / 2 ^ k = 0) : cntL a g (k + 1) = cntL a g k * a.n := by
  have h := cnt_flat (a := a) hf (listsK a.n k) (fun l hl => (listsK_mem (by have := ha.lo; omega) hl).1)
  exact h
theorem cpt_big (i : Int) (s r f : ByteArray) {x : Int} (h : 3 < x) : cptV i s r f x = -1 := by
  unfold cptV
  rw [pt_big (by omega)]
  rfl

end Go.Proofs.YtpaleogkgfclnaaGreatDoor

namespace Go.Proofs.YtpaleogkgfclnaaGreatDoor
open Go.RowKit
open Pl
set_option linter.unusedSimpArgs false
set_option linter.unusedVariables false

/-- the pairs for which a formula is true, as a relation's text -/
noncomputable def relV (i : Int) (s r f : ByteArray) : ByteArray := if rdyB i s r f 2 then bs (relTo (ofSt i s r).n (fun x y => truV i s r f [x, y]) (ofSt i s r).n) else bs []
theorem rel_no {i : Int} {s r f : ByteArray} (h : rdyB i s r f 2 = false) : relV i s r f = bs [] := by unfold relV; rw [h]; rfl
theorem rel_yes {a : St} {f : ByteArray} {g : Fm} (hf : f.data.toList = g.text) (h : rdyB a.n (bs a.set) (bs a.rel) f 2 = true) : relV a.n (bs a.set) (bs a.rel) f = bs (relTo a.n (fun x y => g.holds a (envL [x, y])) a.n) := by
  unfold relV
  rw [h]
  simp only [tru_of hf, ofSt_eq, if_true]

end Go.Proofs.YtpaleogkgfclnaaGreatDoor

namespace Go.Proofs.YtpaleogkgfclnaaGreatDoor
open Go.RowKit
open Pl
set_option linter.unusedSimpArgs false
set_option linter.unusedVariables false

/-- whether a formula is true for two elements -/
noncomputable def pairB (a : St) (g : Fm) (x y : Nat) : Bool := g.holds a (envL [x, y])
/-- a structure with a defined relation -/
noncomputable def defS (a : St) (g : Fm) : St := mkSt a.n a.inS (pairB a g)
theorem defS_n (a : St) (g : Fm) : (defS a g).n = a.n := rfl
theorem defS_ok {a : St} (ha : a.ok) (g : Fm) : (defS a g).ok := mkSt_ok ha.lo ha.hi
theorem defS_set {a : St} (ha : a.ok) (g : Fm) : (defS a g).set = a.set := by
  have h := congrArg St.set (mkSt_self ha)
  exact h
theorem defS_rel (a : St) (g : Fm) : (defS a g).rel = relTo a.n (pairB a g) a.n := rfl
theorem rel_cases (i : Int) (s r f : ByteArray) : (rdyB i s r f 2 = false ∧ relV i s r f = bs []) ∨
    ∃ (a : St) (g : Fm), a.ok ∧ i = a.n ∧ s = bs a.set ∧ r = bs a.rel ∧ f = bs g.text ∧ g.text.length ≤ 4000 ∧ g.freeBits / 2 ^ 2 = 0 ∧ rdyB i s r f 2 = true ∧ relV i s r f = bs (defS a g).rel := by
  cases h : rdyB i s r f 2 with
  | false => left; exact ⟨rfl, rel_no h⟩
  | true =>
    right
    have hr := h
    unfold rdyB at hr
    simp only [Bool.and_eq_true, decide_eq_true_eq] at hr
    obtain ⟨h1, h2, h3⟩ := hr
    rcases ok_cases i s r with hq | ⟨a, ha, rfl, rfl, rfl⟩
    · rw [h1] at hq; cases hq
    rcases fm_cases f with ⟨hq, _⟩ | ⟨g, hb, hf, hs4, hl4⟩
    · rw [h2] at hq; cases hq
    rw [fmOf_eq hf] at h3
    have hv := rel_yes hf h
    obtain rfl := eq_bs hf
    exact ⟨a, g, ha, rfl, rfl, rfl, rfl, hl4, h3, rfl, hv⟩
theorem isos_def {a : St} (ha : a.ok) {g : Fm} (hf : g.freeBits / 2 ^ 2 = 0) {l : List Nat} (hl : l ∈ isos a a) : l ∈ isos (defS a g) (defS a g) := by
  have h := mem_isos_iff.1 hl
  obtain ⟨hp, h1, h2⟩ := h
  refine mem_isos_iff.2 ⟨hp, fun i hi => ?_, fun i j hi hj => ?_⟩
  · have hi' : i < a.n := hi
    show (defS a g).inS (app l i) = (defS a g).inS i
    unfold defS
    rw [mkSt_inS hi', mkSt_inS (hp.app_lt hi')]
    exact h1 i hi'
  · have hi' : i < a.n := hi
    have hj' : j < a.n := hj
    unfold defS
    rw [mkSt_inR hi' hj', mkSt_inR (hp.app_lt hi') (hp.app_lt hj')]
    unfold pairB
    rw [holds_iso rfl hl g (envL [i, j]) (fun v _ => env_lt ha (fun x hx => by
      simp at hx
      rcases hx with rfl | rfl <;> assumption) v)]
    apply holds_free
    intro v hv
    have hv2 := free_lt hf hv
    have : v = 0 ∨ v = 1 := by
      have := v.isLt
      rcases (show v.val = 0 ∨ v.val = 1 by omega) with h | h
      · left; exact Fin.ext h
      · right; exact Fin.ext h
    rcases this with rfl | rfl <;> rfl
theorem orb_def {a : St} (ha : a.ok) {g : Fm} (hf : g.freeBits / 2 ^ 2 = 0) {x y : Nat} (hx : x < a.n) (hy : y ∈ orbL a.n (isos a a) x) : y ∈ orbL a.n (isos (defS a g) (defS a g)) x := by
  obtain ⟨l, hl, e⟩ := (mem_orbL (aut_grp a) hx).1 hy
  exact (mem_orbL (aut_grp (defS a g)) hx).2 ⟨l, isos_def ha hf hl, e⟩
theorem sym_def {a : St} (ha : a.ok) {g : Fm} (hf : g.freeBits / 2 ^ 2 = 0) : (isos a a).length ∣ (isos (defS a g) (defS a g)).length :=
  lagrange (aut_grp a) (aut_grp (defS a g)) fun l hl => isos_def ha hf hl
/-- how many pairs are related, of those with a first element below k -/
def onesTo (n : Nat) (F : Nat → Nat → Bool) : Nat → Nat
  | 0 => 0
  | k + 1 => onesTo n F k + Pl.cnt n (F k)
theorem ones_le (n : Nat) (F : Nat → Nat → Bool) : ∀ k, onesTo n F k ≤ k * n := by
  intro k
  induction k with
  | zero => simp [onesTo]
  | succ k ih => show onesTo n F k + Pl.cnt n (F k) ≤ _; have := cnt_le n (F k); rw [Nat.succ_mul]; omega
theorem ones_flat (n : Nat) (P : List Nat → Bool) : ∀ k, (((List.range k).flatMap fun x => (List.range n).map fun y => [x, y]).filter P).length = onesTo n (fun x y => P [x, y]) k := by
  intro k
  induction k with
  | zero => rfl
  | succ k ih =>
    rw [List.range_succ, List.flatMap_append, List.filter_append, List.length_append, ih]
    show _ = onesTo n _ k + Pl.cnt n _
    congr 1
    rw [show (List.flatMap (fun x => (List.range n).map fun y => [x, y]) [k]) = (List.range n).map fun y => [k, y] by simp, List.filter_map, List.length_map]
    rfl
theorem ones_cntL (a : St) (g : Fm) : onesTo a.n (pairB a g) a.n = cntL a g 2 := by
  have h : listsK a.n 2 = (List.range a.n).flatMap fun x => (List.range a.n).map fun y => [x, y] := by
    show (([[]] : List (List Nat)).flatMap (extL a.n)).flatMap (extL a.n) = _
    rw [show ([[]] : List (List Nat)).flatMap (extL a.n) = (List.range a.n).map fun x => [x] by simp [extL], List.flatMap_map]
    rfl
  unfold cntL
  rw [h, ones_flat]
  rfl
theorem sym_mod {a : St} (ha : a.ok) {g : Fm} (hf : g.freeBits / 2 ^ 2 = 0) : ((symV (defS a g).n (bs (defS a g).set) (bs (defS a g).rel)).tmod (symV a.n (bs a.set) (bs a.rel))) = 0 ∧ 0 < symV a.n (bs a.set) (bs a.rel) := by
  have e : ∀ {b : St}, b.ok → symV b.n (bs b.set) (bs b.rel) = ((isos b b).length : Nat) := fun {b} hb => by
    unfold symV
    rw [okB_true hb, ofSt_eq]
    rfl
  rw [e (defS_ok ha g), e ha]
  have hp := sym_pos a
  refine ⟨?_, by omega⟩
  rw [← Int.ofNat_tmod, Nat.mod_eq_zero_of_dvd (sym_def ha hf)]
  rfl
theorem st_sm {a : St} (ha : a.ok) : (bs a.set).size ≤ 100 ∧ (bs a.rel).size ≤ 100 := by have := st_small ha; omega
theorem cnt_mono {m n : Nat} (h : m ≤ n) (p : Nat → Bool) : Pl.cnt m p ≤ Pl.cnt n p := by
  induction h with
  | refl => exact Nat.le_refl _
  | step _ ih => rw [cnt_succ]; omega
theorem orbV_leN (a : St) (x : Int) : (orbV a.n (bs a.set) (bs a.rel) x).length ≤ a.n := by
  unfold orbV
  split
  · rw [ofSt_eq]
    unfold orbL
    exact Nat.le_trans (List.length_filter_le _ _) (by simp)
  · simp
end Go.Proofs.YtpaleogkgfclnaaGreatDoor

namespace Go.Proofs.YtpaleogkgfclnaaGreatDoor
open Go.RowKit
open Pl
set_option linter.unusedSimpArgs false
set_option linter.unusedVariables false
attribute [local go_sem ↓] Go.wp_at_zero Go.wp_at_succ

set_option maxHeartbeats 16000000 in
set_option maxRecDepth 100000 in
theorem FnDescribeElement_walk (A : Option Addr) (n cap : Nat) (AA : Option Addr) (n2 cap2 : Nat) (w : World) (h : ByRow w A n) (hc : n ≤ cap) (hm : cap ≤ maxLen) (h2 : ByRow w AA n2) (hc2 : n2 ≤ cap2) (hm2 : cap2 ≤ maxLen) :
    Calls Tryz.prog 4 #[.slice A n cap, .slice AA n2 cap2] w fun e w' => e = .returned (.bool true) ∧ Below w.heap.size w w' := by
  by_cases hn : n ≤ 1048576
  case neg =>
    have hni : (1048576 : Int) < (n : Int) := by omega
    clear h hc hm h2 hc2 hm2
    go_enter Tryz.func4, Tryz.ntmps4
    go_wp2_with fail
    go_ret
    exact ⟨rfl, Below.refl _ _⟩
  case pos =>
  have hni : (n : Int) ≤ 1048576 := by omega
  by_cases hn2 : n2 ≤ 1048576
  case neg =>
    have hni2 : (1048576 : Int) < (n2 : Int) := by omega
    clear h hc hm h2 hc2 hm2
    go_enter Tryz.func4, Tryz.ntmps4
    go_wp2_with fail
    go_ret
    exact ⟨rfl, Below.refl _ _⟩
  case pos =>
  have hni2 : (n2 : Int) ≤ 1048576 := by omega
  have HD := Lib.hid (DrawDescribeElement_calls A n cap w h hn hc hm)
  have HE := Lib.hid (fun (W : World) (h : ByRow W AA n2) => DrawDescribeElement_calls AA n2 cap2 W h hn2 hc2 hm2)
  have HM := Lib.hid h2
  clear h hc hm h2 hc2 hm2
  go_enter Tryz.func4, Tryz.ntmps4
  go_wp2_with fail
  refine (HD.out).mono ?_
  rintro e w1 ⟨⟨i, s, r, x, rfl, hi1, hs, hr, hx1⟩, hz⟩
  have B1 := Lib.hid (hz.alloc hz.size (.cells #[.int .i64 i, .string s, .string r] 24))
  have X1 := Lib.hid (Bx.new w1 24 #[.int .i64 i, .string s, .string r])
  have M1 := Lib.hid ((HM.out.call hz).call ((Below.refl _ _).alloc (Nat.le_refl _) (.cells #[.int .i64 i, .string s, .string r] 24)))
  have ci := fun W => DescribeElement_impl i s r x W (by unfold maxLen; omega) (by unfold maxLen; omega)
  have cs := fun W => DescribeElement_spec i s r x W (by unfold maxLen; omega) (by unfold maxLen; omega)
  clear hz hi1 hx1
  rcases de_cases i s r x with hv | ⟨a, x, ha, hx, h4, rfl, rfl, rfl, rfl, hv⟩
  · simp only [hv] at ci cs
    have CI := Lib.hid ci
    have CS := Lib.hid cs
    clear ci cs hv
    obtain ⟨x0, x1, x2⟩ := box_load X1.out
    go_wp2_with fail
    refine (CI.out _).mono ?_
    rintro e w2 ⟨rfl, hz⟩
    have B2 := Lib.hid (B1.out.trans (hz.mono B1.out.size))
    have X2 := Lib.hid (X1.out.call hz)
    clear hz
    clear x0 x1 x2
    obtain ⟨x0, x1, x2⟩ := box_load X2.out
    go_wp2_with fail
    refine (CS.out _).mono ?_
    rintro e w3 ⟨rfl, hz⟩
    have B3 := Lib.hid (B2.out.trans (hz.mono B2.out.size))
    have X3 := Lib.hid (X2.out.call hz)
    clear hz
    go_wp2_with fail
    go_ret
    exact ⟨rfl, B3.out⟩
  simp only [hv] at ci cs
  clear hv
  have hlo := ha.lo
  have h8 := ha.hi
  obtain ⟨hd1, hd2⟩ := del_set ha hx h4
  have hfr := del_free hx h4
  have htl := del_len' hx h4
  obtain ⟨g, hg⟩ : ∃ g, g = delF (a.part (frontL a.n x)) := ⟨_, rfl⟩
  have hat := fun (b : St) (hb : b.ok) (h3 : a.n < 4) (y : Nat) (hy : y < b.n) => del_at ha hb hx h3 hy
  simp only [← hg] at hd1 hd2 hfr htl ci cs hat
  have hfd : (bs g.text).data.toList = g.text := bs_list _
  have hlen : (bs g.text).data.toList.length ≤ 4000 := by rw [hfd]; exact htl
  have cfv := fun W => FreeVars_impl (bs g.text) W
  rw [txtV_yes freeT hfd hlen, show freeT g = [97] by unfold freeT; rw [hfr]; rfl, show bs [97] = (⟨#[97]⟩ : ByteArray) from rfl] at cfv
  obtain ⟨OL, hOL⟩ : ∃ OL, OL = orbV a.n (bs a.set) (bs a.rel) (x : Nat) := ⟨_, rfl⟩
  rw [← hOL] at hd2
  have hol : OL.length ≤ 100 := by rw [hOL]; exact Nat.le_trans (orbV_leN a (x : Nat)) (by omega)
  have h100 := st_sm ha
  have hst := st_100' ha
  have cds : ∀ W, Calls Tryz.prog 18 #[stV a.n (bs a.set) (bs a.rel), .string (bs g.text)] W fun e w' => (∃ A cap, e = .returned (.tuple #[.slice A OL.length cap, .bool true]) ∧ LRow w' A (natsI OL)) ∧ Below W.heap.size W w' := fun W => by
    refine (DefinedSet_impl a.n (bs a.set) (bs a.rel) (bs g.text) W hst.1 hst.2).mono fun e w' ⟨⟨v, h1, h2⟩, h3⟩ => ?_
    rw [hd1] at h1
    rw [hd2] at h2
    obtain ⟨A, cap, rfl⟩ := own_slice2 h2
    exact ⟨⟨A, cap, h1, LRow_of h2⟩, h3⟩
  have cor := fun W => orbI_any a.n (bs a.set) (bs a.rel) (x : Nat) h100.1 h100.2 W
  rw [← hOL] at cor
  have cgs : ∀ (A C : Option Addr) (c1 c2 : Nat) (W : World), LRow W A (natsI OL) → LRow W C (natsI OL) → Calls Tryz.prog 20 #[.slice A OL.length c1, .slice C OL.length c2] W fun e w' => e = .returned (.bool true) ∧ Below W.heap.size W w' := fun A C c1 c2 W h1 h2 => by
    have h := same_any A C c1 c2 OL OL W hol hol h1 h2
    rwa [decide_eq_true rfl] at h
  have cht : ∀ (b : St) (hb : b.ok) (h3 : a.n < 4) (y : Nat) (hy : y < b.n) (A2 : Option Addr) (W : World), LRow W A2 (natsI [y]) → ∃ V1 : Bool, (V1 = true → (!(shpL a.n (bs a.set) (bs a.rel) b.n (bs b.set) (bs b.rel)).isEmpty) = true) ∧
      Calls Tryz.prog 19 #[stV b.n (bs b.set) (bs b.rel), .string (bs g.text), .slice A2 1 1] W fun e w' => e = .returned (.tuple #[.bool V1, .bool true]) ∧ Below W.heap.size W w' := fun b hb h3 y hy A2 W hW => by
    obtain ⟨h1, h2⟩ := hat b hb h3 y hy
    refine ⟨_, h2, ?_⟩
    have h := HoldsAt_impl b.n (bs b.set) (bs b.rel) (bs g.text) A2 [(y : Int)] 1 W (st_100' hb).1 (st_100' hb).2 (by simp) (by simp) hW
    rw [h1] at h
    exact h
  obtain ⟨FT, hFT⟩ : ∃ FT, FT = bs g.text := ⟨_, rfl⟩
  simp only [← hFT] at ci cs cfv cds cht
  have hfs : 0 < FT.size := by rw [hFT, bs_size]; exact Fm.text_pos _
  have CI := Lib.hid ci
  have CS := Lib.hid cs
  have CFV := Lib.hid cfv
  have CDS := Lib.hid cds
  have COR := Lib.hid cor
  have CGS := Lib.hid cgs
  have CHT := Lib.hid cht
  have HAO := Lib.hid ha
  have HX := Lib.hid hx
  clear ci cs cfv cds cor cgs cht hat hd1 hd2 hfr htl hfd hlen hFT hg hOL hst h100 hol ha hx hfs
  obtain ⟨x0, x1, x2⟩ := box_load X1.out
  go_wp2_with fail
  refine (CI.out _).mono ?_
  rintro e w2 ⟨rfl, hz⟩
  have B2 := Lib.hid (B1.out.trans (hz.mono B1.out.size))
  have X2 := Lib.hid (X1.out.call hz)
  have M2 := Lib.hid (M1.out.call hz)
  clear hz
  clear x0 x1 x2
  obtain ⟨x0, x1, x2⟩ := box_load X2.out
  go_wp2_with fail
  refine (CS.out _).mono ?_
  rintro e w3 ⟨rfl, hz⟩
  have B3 := Lib.hid (B2.out.trans (hz.mono B2.out.size))
  have X3 := Lib.hid (X2.out.call hz)
  have M3 := Lib.hid (M2.out.call hz)
  clear hz
  clear x0 x1 x2
  obtain ⟨x0, x1, x2⟩ := box_load X3.out
  go_wp2_with fail
  refine (CDS.out _).mono ?_
  rintro e w4 ⟨⟨A4, c4, rfl, hr4⟩, hz⟩
  have B4 := Lib.hid (B3.out.trans (hz.mono B3.out.size))
  have X4 := Lib.hid (X3.out.call hz)
  have M4 := Lib.hid (M3.out.call hz)
  have P4 := Lib.hid hr4
  clear hz hr4 x0 x1 x2
  go_wp2_with fail
  refine (HE.out _ M4.out).mono ?_
  rintro e w5 ⟨⟨j, t, u, y, rfl, hj, ht, hu, hy1⟩, hz⟩
  have B5 := Lib.hid ((B4.out.trans (hz.mono B4.out.size)).alloc (Nat.le_trans B4.out.size hz.size) (.cells #[.int .i64 j, .string t, .string u] 24))
  have X5 := Lib.hid ((X4.out.call hz).alloc (.cells #[.int .i64 j, .string t, .string u] 24))
  have P5 := Lib.hid ((P4.out.call hz).alloc (.cells #[.int .i64 j, .string t, .string u] 24))
  have Y5 := Lib.hid (Bx.new w5 24 #[.int .i64 j, .string t, .string u])
  have csv := fun W => StructureValid_impl j t u W (by unfold maxLen; omega) (by unfold maxLen; omega)
  clear hz hj hy1 X1 X2 X3 X4 B1 B2 B3 B4 M1 M2 M3 M4 P4 HD HE HM CI CS CDS
  obtain ⟨y0, y1, y2⟩ := box_load Y5.out
  cases hokb : okB j t u
  case false =>
    simp only [hokb] at csv
    have CSV := Lib.hid csv
    clear csv hokb
    go_wp2_with fail
    refine (CSV.out _).mono ?_
    rintro e w6 ⟨rfl, hz⟩
    have B6 := Lib.hid (B5.out.trans (hz.mono B5.out.size))
    have X6 := Lib.hid (X5.out.call hz)
    have Y6 := Lib.hid (Y5.out.call hz)
    have P6 := Lib.hid (P5.out.call hz)
    clear hz
    clear y0 y1 y2
    obtain ⟨x0, x1, x2⟩ := box_load X6.out
    obtain ⟨y0, y1, y2⟩ := box_load Y6.out
    go_wp2_with fail
    refine (COR.out _).mono ?_
    rintro e w20 ⟨⟨A20, c20, rfl, hr20⟩, hz⟩
    have B20 := Lib.hid (B6.out.trans (hz.mono B6.out.size))
    have P20 := Lib.hid (P6.out.call hz)
    have Q20 := Lib.hid hr20
    clear hz hr20 x0 x1 x2
    go_wp2_with fail
    refine (CGS.out _ _ _ _ _ P20.out Q20.out).mono ?_
    rintro e w21 ⟨rfl, hz⟩
    have B21 := Lib.hid (B20.out.trans (hz.mono B20.out.size))
    clear hz
    go_wp2_with fail
    refine (CFV.out _).mono ?_
    rintro e w22 ⟨rfl, hz⟩
    have B22 := Lib.hid (B21.out.trans (hz.mono B21.out.size))
    clear hz
    go_wp2_with fail
    go_ret
    exact ⟨rfl, B22.out⟩
  case true =>
  simp only [hokb] at csv
  rcases ok_cases j t u with h | ⟨b, hb, rfl, rfl, rfl⟩
  · rw [hokb] at h; cases h
  have CSV := Lib.hid csv
  have HBO := Lib.hid hb
  have hbl := hb.lo
  have hb8 := hb.hi
  clear csv hokb hb
  by_cases h3 : a.n < 4
  case neg =>
    have h3i : ((a.n : Int) < 4) = False := by simp; omega
    have h3j : 4 ≤ (a.n : Int) := by omega
    go_wp2_with fail
    refine (CSV.out _).mono ?_
    rintro e w6 ⟨rfl, hz⟩
    have B6 := Lib.hid (B5.out.trans (hz.mono B5.out.size))
    have X6 := Lib.hid (X5.out.call hz)
    have Y6 := Lib.hid (Y5.out.call hz)
    have P6 := Lib.hid (P5.out.call hz)
    clear hz
    clear y0 y1 y2
    obtain ⟨x0, x1, x2⟩ := box_load X6.out
    obtain ⟨y0, y1, y2⟩ := box_load Y6.out
    go_wp2_with fail
    refine (COR.out _).mono ?_
    rintro e w20 ⟨⟨A20, c20, rfl, hr20⟩, hz⟩
    have B20 := Lib.hid (B6.out.trans (hz.mono B6.out.size))
    have P20 := Lib.hid (P6.out.call hz)
    have Q20 := Lib.hid hr20
    clear hz hr20 x0 x1 x2
    go_wp2_with fail
    refine (CGS.out _ _ _ _ _ P20.out Q20.out).mono ?_
    rintro e w21 ⟨rfl, hz⟩
    have B21 := Lib.hid (B20.out.trans (hz.mono B20.out.size))
    clear hz
    go_wp2_with fail
    refine (CFV.out _).mono ?_
    rintro e w22 ⟨rfl, hz⟩
    have B22 := Lib.hid (B21.out.trans (hz.mono B21.out.size))
    clear hz
    go_wp2_with fail
    go_ret
    exact ⟨rfl, B22.out⟩
  case pos =>
  have h3i : (a.n : Int) < 4 := by omega
  rcases el_cases b.n y with hel | ⟨y, rfl, hy, _⟩
  · by_cases hy0 : 0 ≤ y
    · have hyb : (b.n : Int) ≤ y := by
        unfold elB at hel
        rw [decide_eq_true hy0, Bool.true_and, decide_eq_false_iff_not] at hel
        omega
      clear hel
      go_wp2_with fail
      refine (CSV.out _).mono ?_
      rintro e w6 ⟨rfl, hz⟩
      have B6 := Lib.hid (B5.out.trans (hz.mono B5.out.size))
      have X6 := Lib.hid (X5.out.call hz)
      have Y6 := Lib.hid (Y5.out.call hz)
      have P6 := Lib.hid (P5.out.call hz)
      clear hz
      clear y0 y1 y2
      obtain ⟨x0, x1, x2⟩ := box_load X6.out
      obtain ⟨y0, y1, y2⟩ := box_load Y6.out
      go_wp2_with fail
      refine (COR.out _).mono ?_
      rintro e w20 ⟨⟨A20, c20, rfl, hr20⟩, hz⟩
      have B20 := Lib.hid (B6.out.trans (hz.mono B6.out.size))
      have P20 := Lib.hid (P6.out.call hz)
      have Q20 := Lib.hid hr20
      clear hz hr20 x0 x1 x2
      go_wp2_with fail
      refine (CGS.out _ _ _ _ _ P20.out Q20.out).mono ?_
      rintro e w21 ⟨rfl, hz⟩
      have B21 := Lib.hid (B20.out.trans (hz.mono B20.out.size))
      clear hz
      go_wp2_with fail
      refine (CFV.out _).mono ?_
      rintro e w22 ⟨rfl, hz⟩
      have B22 := Lib.hid (B21.out.trans (hz.mono B21.out.size))
      clear hz
      go_wp2_with fail
      go_ret
      exact ⟨rfl, B22.out⟩
    · have hyn : y < 0 := by omega
      clear hel hy0
      go_wp2_with fail
      refine (CSV.out _).mono ?_
      rintro e w6 ⟨rfl, hz⟩
      have B6 := Lib.hid (B5.out.trans (hz.mono B5.out.size))
      have X6 := Lib.hid (X5.out.call hz)
      have Y6 := Lib.hid (Y5.out.call hz)
      have P6 := Lib.hid (P5.out.call hz)
      clear hz
      clear y0 y1 y2
      obtain ⟨x0, x1, x2⟩ := box_load X6.out
      obtain ⟨y0, y1, y2⟩ := box_load Y6.out
      go_wp2_with fail
      refine (COR.out _).mono ?_
      rintro e w20 ⟨⟨A20, c20, rfl, hr20⟩, hz⟩
      have B20 := Lib.hid (B6.out.trans (hz.mono B6.out.size))
      have P20 := Lib.hid (P6.out.call hz)
      have Q20 := Lib.hid hr20
      clear hz hr20 x0 x1 x2
      go_wp2_with fail
      refine (CGS.out _ _ _ _ _ P20.out Q20.out).mono ?_
      rintro e w21 ⟨rfl, hz⟩
      have B21 := Lib.hid (B20.out.trans (hz.mono B20.out.size))
      clear hz
      go_wp2_with fail
      refine (CFV.out _).mono ?_
      rintro e w22 ⟨rfl, hz⟩
      have B22 := Lib.hid (B21.out.trans (hz.mono B21.out.size))
      clear hz
      go_wp2_with fail
      go_ret
      exact ⟨rfl, B22.out⟩
  have hyi : (y : Int) < (b.n : Int) := by omega
  have hst := st_small HAO.out
  have hsb := st_small HBO.out
  have csh := fun W => shpI_any a.n (bs a.set) (bs a.rel) b.n (bs b.set) (bs b.rel) (by omega) (by omega) (by omega) (by omega) _ rfl W
  have cht := fun (A2 : Option Addr) (W : World) (h : LRow W A2 (natsI [y])) => CHT.out b HBO.out h3 y hy A2 W h
  obtain ⟨LL, hLL⟩ : ∃ LL, LL = shpL a.n (bs a.set) (bs a.rel) b.n (bs b.set) (bs b.rel) := ⟨_, rfl⟩
  simp only [← hLL] at csh cht
  obtain ⟨V2, hV2⟩ : ∃ V2, V2 = !LL.isEmpty := ⟨_, rfl⟩
  simp only [← hV2] at csh cht
  have CSH := Lib.hid csh
  have CHT2 := Lib.hid cht
  clear hst hsb csh cht hLL hV2 hy h3
  go_wp2_with fail
  refine (CSV.out _).mono ?_
  rintro e w6 ⟨rfl, hz⟩
  have B6 := Lib.hid (B5.out.trans (hz.mono B5.out.size))
  have X6 := Lib.hid (X5.out.call hz)
  have Y6 := Lib.hid (Y5.out.call hz)
  have P6 := Lib.hid (P5.out.call hz)
  clear hz
  clear y0 y1 y2
  obtain ⟨x0, x1, x2⟩ := box_load X6.out
  obtain ⟨y0, y1, y2⟩ := box_load Y6.out
  go_wp2_with fail
  refine (CSH.out _).mono ?_
  rintro e w7 ⟨⟨A7, c7, rfl, hc7, hr7⟩, hz⟩
  have B7 := Lib.hid (B6.out.trans (hz.mono B6.out.size))
  have X7 := Lib.hid (X6.out.call hz)
  have Y7 := Lib.hid (Y6.out.call hz)
  have P7 := Lib.hid (P6.out.call hz)
  clear hz
  clear x0 x1 x2 y0 y1 y2 hc7 hr7
  have B8 := Lib.hid (B7.out.alloc B7.out.size (.cells #[.int .i64 (y : Nat)] 3))
  have X8 := Lib.hid (X7.out.alloc (.cells #[.int .i64 (y : Nat)] 3))
  have Y8 := Lib.hid (Y7.out.alloc (.cells #[.int .i64 (y : Nat)] 3))
  have P8 := Lib.hid (P7.out.alloc (.cells #[.int .i64 (y : Nat)] 3))
  obtain ⟨V1, hV, hct⟩ := CHT2.out _ _ (lrow_one w7 y)
  have HV := Lib.hid hV
  have HCT := Lib.hid hct
  clear hV hct
  obtain ⟨y0, y1, y2⟩ := box_load Y7.out
  go_wp2_with fail
  refine (HCT.out).mono ?_
  rintro e w9 ⟨rfl, hz⟩
  have B9 := Lib.hid (B8.out.trans (hz.mono B8.out.size))
  have X9 := Lib.hid (X8.out.call hz)
  have P9 := Lib.hid (P8.out.call hz)
  clear hz
  clear y0 y1 y2
  cases V1 with
  | false =>
    clear HV HCT
    obtain ⟨x0, x1, x2⟩ := box_load X9.out
    go_wp2_with fail
    refine (COR.out _).mono ?_
    rintro e w20 ⟨⟨A20, c20, rfl, hr20⟩, hz⟩
    have B20 := Lib.hid (B9.out.trans (hz.mono B9.out.size))
    have P20 := Lib.hid (P9.out.call hz)
    have Q20 := Lib.hid hr20
    clear hz hr20 x0 x1 x2
    go_wp2_with fail
    refine (CGS.out _ _ _ _ _ P20.out Q20.out).mono ?_
    rintro e w21 ⟨rfl, hz⟩
    have B21 := Lib.hid (B20.out.trans (hz.mono B20.out.size))
    clear hz
    go_wp2_with fail
    refine (CFV.out _).mono ?_
    rintro e w22 ⟨rfl, hz⟩
    have B22 := Lib.hid (B21.out.trans (hz.mono B21.out.size))
    clear hz
    go_wp2_with fail
    go_ret
    exact ⟨rfl, B22.out⟩
  | true =>
    obtain rfl := HV.out rfl
    clear HV HCT
    obtain ⟨x0, x1, x2⟩ := box_load X9.out
    go_wp2_with fail
    refine (COR.out _).mono ?_
    rintro e w20 ⟨⟨A20, c20, rfl, hr20⟩, hz⟩
    have B20 := Lib.hid (B9.out.trans (hz.mono B9.out.size))
    have P20 := Lib.hid (P9.out.call hz)
    have Q20 := Lib.hid hr20
    clear hz hr20 x0 x1 x2
    go_wp2_with fail
    refine (CGS.out _ _ _ _ _ P20.out Q20.out).mono ?_
    rintro e w21 ⟨rfl, hz⟩
    have B21 := Lib.hid (B20.out.trans (hz.mono B20.out.size))
    clear hz
    go_wp2_with fail
    refine (CFV.out _).mono ?_
    rintro e w22 ⟨rfl, hz⟩
    have B22 := Lib.hid (B21.out.trans (hz.mono B21.out.size))
    clear hz
    go_wp2_with fail
    go_ret
    exact ⟨rfl, B22.out⟩

end Go.Proofs.YtpaleogkgfclnaaGreatDoor
