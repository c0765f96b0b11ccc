/-
  Laws of the functions that the claim reaches, one after the other (packed by a program of the prover's: LL, PtP, Lists, PtV, PtsI, SHolds0, SHolds1, SHoldse, SHoldsr, SHolds2, SHoldsA). Conditions: texts below the reach.
-/
import Derived.Test.YtgiaebeoldigbaaDoorPo7
import Derived.Test.YtgiaebeoldigbaaDoorPo4
import Derived.Test.YtgiaebeoldigbaaDoorPo5
import Derived.StillTailTactics
import Derived.Test.YtgiaebeoldigbaaDoorPo0
set_option linter.unusedSimpArgs false
set_option linter.unusedVariables false

namespace Go.Proofs.YtgiaebeoldigbaaDoor
open Go.RowKit
open Pl
set_option linter.unusedSimpArgs false
set_option linter.unusedVariables false

/-- one of the lists -/
def Inn (W : World) (base : Nat) (v : Value) (L : List Nat) : Prop := ∃ g cap, v = .slice (some ⟨g, 0, none⟩) L.length cap ∧ W.ownsRow base 3 1 v L.length (intsV (natsI L))
/-- the lists -/
def Inns (W : World) (base : Nat) (vals : List Value) (Ls : List (List Nat)) : Prop := vals.length = Ls.length ∧ ∀ (i : Nat) (v : Value) (L : List Nat), vals[i]? = some v → Ls[i]? = some L → Inn W base v L
/-- a list of lists -/
def LL (W : World) (base : Nat) (v : Value) (Ls : List (List Nat)) : Prop := (∃ g cap, v = .slice (some ⟨g, 0, none⟩) Ls.length cap) ∧ ∃ vals, W.ownsRow base 25 1 v Ls.length vals ∧ Inns W base vals Ls

theorem Inn.call {W W' : World} {base : Nat} {v : Value} {L : List Nat} (h : Inn W base v L) (hb : Below W.heap.size W W') : Inn W' base v L := by
  obtain ⟨g, cap, h1, h2⟩ := h
  exact ⟨g, cap, h1, own_call h2 hb⟩
theorem Inn.base {W : World} {base base' : Nat} {v : Value} {L : List Nat} (h : Inn W base v L) (hb : base' ≤ base) : Inn W base' v L := by
  obtain ⟨g, cap, h1, h2⟩ := h
  exact ⟨g, cap, h1, own_base h2 hb⟩
theorem Inn.grown {W W' : World} {base base2 n : Nat} {v u : Value} {L : List Nat} {xs : List Value} (h : Inn W base v L) (hu : W.ownsRow base2 25 1 u n xs) (hg : W.grownBy W' u.ownBlock) : Inn W' base v L := by
  obtain ⟨g, cap, h1, h2⟩ := h
  exact ⟨g, cap, h1, own_others h2 hg (Apart.types h2 hu (by decide))⟩
theorem Inns.call {W W' : World} {base : Nat} {vals : List Value} {Ls : List (List Nat)} (h : Inns W base vals Ls) (hb : Below W.heap.size W W') : Inns W' base vals Ls :=
  ⟨h.1, fun i v L h1 h2 => (h.2 i v L h1 h2).call hb⟩
theorem Inns.grown {W W' : World} {base base2 n : Nat} {vals : List Value} {u : Value} {Ls : List (List Nat)} {xs : List Value} (h : Inns W base vals Ls) (hu : W.ownsRow base2 25 1 u n xs) (hg : W.grownBy W' u.ownBlock) : Inns W' base vals Ls :=
  ⟨h.1, fun i v L h1 h2 => (h.2 i v L h1 h2).grown hu hg⟩
theorem Inns.snoc {W : World} {base : Nat} {vals : List Value} {Ls : List (List Nat)} {v : Value} {L : List Nat} (h : Inns W base vals Ls) (hv : Inn W base v L) : Inns W base (vals ++ [v]) (Ls ++ [L]) := by
  refine ⟨by simp [h.1], fun i u M h1 h2 => ?_⟩
  by_cases hi : i < vals.length
  · rw [List.getElem?_append_left hi] at h1
    rw [List.getElem?_append_left (by rw [← h.1]; exact hi)] at h2
    exact h.2 i u M h1 h2
  · rw [List.getElem?_append_right (by omega)] at h1
    rw [List.getElem?_append_right (by rw [← h.1]; omega)] at h2
    rw [← h.1] at h2
    have h0 : i - vals.length = 0 := by
      rcases Nat.eq_zero_or_pos (i - vals.length) with h0 | h0
      · exact h0
      · rw [List.getElem?_eq_none (by simp; omega)] at h1; cases h1
    rw [h0] at h1 h2
    simp at h1 h2
    subst h1 h2
    exact hv
theorem Inns.nil (W : World) (base : Nat) : Inns W base [] [] := ⟨rfl, fun i v L h => by simp at h⟩
theorem LL.call {W W' : World} {base : Nat} {v : Value} {Ls : List (List Nat)} (h : LL W base v Ls) (hb : Below W.heap.size W W') : LL W' base v Ls := by
  obtain ⟨hf, vals, h1, h2⟩ := h
  exact ⟨hf, vals, own_call h1 hb, h2.call hb⟩
theorem LL.alloc {W : World} {base : Nat} {v : Value} {Ls : List (List Nat)} (h : LL W base v Ls) (o : Obj) : LL (W.alloc o) base v Ls := h.call ((Below.refl _ _).alloc (Nat.le_refl _) _)
theorem LL.base {W : World} {base base' : Nat} {v : Value} {Ls : List (List Nat)} (h : LL W base v Ls) (hb : base' ≤ base) : LL W base' v Ls := by
  obtain ⟨hf, vals, h1, h2⟩ := h
  exact ⟨hf, vals, own_base h1 hb, h2.1, fun i v L g1 g2 => (h2.2 i v L g1 g2).base hb⟩
theorem Inn.fz {W W' : World} {B base : Nat} {v : Value} {L : List Nat} (h : Inn W base v L) (hf : Fz B W W') : Inn W' base v L := by
  obtain ⟨g, cap, h1, h2, h3⟩ := h
  refine ⟨g, cap, h1, h2, h3.imp (fun h => h) fun ⟨g, c, cur, hv, hg, hh, hr⟩ => ⟨g, c, cur, hv, hg, hf.cells _ _ _ _ hh, hr⟩⟩
theorem LL.fz {W W' : World} {B base : Nat} {v : Value} {Ls : List (List Nat)} (h : LL W base v Ls) (hf : Fz B W W') : LL W' base v Ls := by
  obtain ⟨hv, vals, ⟨h2, h3⟩, h4, h5⟩ := h
  exact ⟨hv, vals, ⟨h2, h3.imp (fun h => h) fun ⟨g, c, cur, hv, hg, hh, hr⟩ => ⟨g, c, cur, hv, hg, hf.cells _ _ _ _ hh, hr⟩⟩, h4, fun i v L g1 g2 => (h5 i v L g1 g2).fz hf⟩
/-- a list of lists beside another one that grows -/
theorem LL.others {W W' : World} {base base2 n : Nat} {v u : Value} {Ls : List (List Nat)} {xs : List Value} (h : LL W base v Ls) (hu : W.ownsRow base2 25 1 u n xs) (hg : W.grownBy W' u.ownBlock) (ha : Apart v u) : LL W' base v Ls := by
  obtain ⟨hf, vals, h1, h2⟩ := h
  exact ⟨hf, vals, own_others h1 hg ha, h2.grown hu hg⟩
/-- one list more -/
theorem LL.push {W W' : World} {base : Nat} {v v' u : Value} {Ls : List (List Nat)} {L : List Nat} {vals : List Value} (h1 : W.ownsRow base 25 1 v Ls.length vals) (h2 : Inns W base vals Ls) (hL : Inn W base u L) (ho : W'.ownsRow base 25 1 v' (Ls.length + 1) (vals ++ [u])) (hg : W.grownBy W' v.ownBlock) : LL W' base v' (Ls ++ [L]) :=
  ⟨by rw [List.length_append, List.length_singleton]; exact own_form ho, vals ++ [u], by rw [List.length_append, List.length_singleton]; exact ho, (h2.grown h1 hg).snoc (hL.grown h1 hg)⟩
theorem LL.new (W : World) : LL (W.alloc (.cells #[] 25)) W.heap.size (.slice (some ⟨W.heap.size, 0, none⟩) 0 0) [] := ⟨⟨_, _, rfl⟩, [], own_zeroO W, Inns.nil _ _⟩
/-- what a place of a list of lists holds -/
theorem LL.get {W : World} {base : Nat} {v : Value} {Ls : List (List Nat)} (h : LL W base v Ls) {k : Nat} (hk : k < Ls.length) :
    ∃ g cap gi ci, v = .slice (some ⟨g, 0, none⟩) Ls.length cap ∧ Ls.length ≤ cap ∧ W.cell? ⟨g, k, none⟩ = some (.slice (some ⟨gi, 0, none⟩) (Ls.getD k []).length ci) ∧ Inn W base (.slice (some ⟨gi, 0, none⟩) (Ls.getD k []).length ci) (Ls.getD k []) := by
  obtain ⟨_, vals, h1, h2⟩ := h
  obtain ⟨g, cap, rfl, hc1, _, _, _, hc⟩ := row_open h1 (by omega)
  have hkv : k < vals.length := by rw [h2.1]; exact hk
  have e1 : vals[k]? = some vals[k] := List.getElem?_eq_getElem hkv
  have e2 : Ls[k]? = some (Ls.getD k []) := by rw [List.getD_eq_getElem?_getD, List.getElem?_eq_getElem hk]; rfl
  obtain ⟨gi, ci, e3, e4⟩ := h2.2 k _ _ e1 e2
  refine ⟨g, cap, gi, ci, rfl, hc1, ?_, gi, ci, rfl, ?_⟩
  · rw [hc k hk, e1, e3]
  · rw [← e3]; exact e4
theorem LL.form {W : World} {base : Nat} {v : Value} {Ls : List (List Nat)} (h : LL W base v Ls) : ∃ g cap, v = .slice (some ⟨g, 0, none⟩) Ls.length cap := h.1
theorem Inn.row {W : World} {base : Nat} {v : Value} {L : List Nat} (h : Inn W base v L) : ∃ g cap, v = .slice (some ⟨g, 0, none⟩) L.length cap ∧ LRow W (some ⟨g, 0, none⟩) (natsI L) := by
  obtain ⟨g, cap, rfl, h2⟩ := h
  exact ⟨g, cap, rfl, LRow_of h2⟩
/-- behind one number more, the list whole -/
theorem app_twoI {w w1 w2 : World} {v1 v2 : Value} {o : List Nat} {x n : Nat} (hl : o.length = n) (hb : Below w.heap.size w w1) (hown1 : w1.ownsRow w.heap.size 3 1 v1 n (intsV (natsI o)))
    (hown : w2.ownsRow w.heap.size 3 1 v2 (n + 1) (intsV (natsI o) ++ [.int .i64 (x : Nat)])) (hg : (w1.alloc (.cells #[.int .i64 (x : Nat)] 3)).grownBy w2 v1.ownBlock) :
    ∃ g cap, v2 = .slice (some ⟨g, 0, none⟩) (n + 1) cap ∧ Inn w2 w.heap.size v2 (o ++ [x]) ∧ Below w.heap.size w w2 := by
  obtain ⟨g, cap, rfl⟩ := own_form hown
  refine ⟨g, cap, rfl, ⟨g, cap, by simp [hl], ?_⟩, (hb.alloc hb.size _).grown hg (by have := hb.size; simp; omega) (fun j hj => (hown1.lt j hj).1)⟩
  rw [show intsV (natsI (o ++ [x])) = intsV (natsI o) ++ [.int .i64 (x : Nat)] by simp [intsV, natsI], List.length_append, List.length_singleton, hl]
  exact hown

end Go.Proofs.YtgiaebeoldigbaaDoor

namespace Go.Proofs.YtgiaebeoldigbaaDoor
open Pl

/-- the list with a number -/
def ptK (n : Nat) : Nat → Nat → List Nat
  | 0, _ => []
  | w + 1, k => ptK n w (k / n) ++ [k % n]
/-- a list's lists of one element more -/
def extL (n : Nat) (l : List Nat) : List (List Nat) := (List.range n).map fun x => l ++ [x]
/-- all lists of so many elements -/
def listsK (n : Nat) : Nat → List (List Nat)
  | 0 => [[]]
  | w + 1 => (listsK n w).flatMap (extL n)

theorem ptK_len (n : Nat) : ∀ w k, (ptK n w k).length = w
  | 0, _ => rfl
  | w + 1, k => by simp [ptK, ptK_len n w]
theorem ptK_lt {n : Nat} (hn : 0 < n) : ∀ w k, ∀ x ∈ ptK n w k, x < n
  | 0, _, x, h => by simp [ptK] at h
  | w + 1, k, x, h => by
    simp only [ptK, List.mem_append, List.mem_singleton] at h
    rcases h with h | rfl
    · exact ptK_lt hn w _ x h
    · exact Nat.mod_lt _ hn
theorem range_mul (m n : Nat) : List.range (m * n) = (List.range m).flatMap fun j => (List.range n).map fun x => j * n + x := by
  induction m with
  | zero => simp
  | succ m ih =>
    rw [List.range_succ, List.flatMap_append, ← ih, Nat.succ_mul, List.range_add]
    simp
theorem listsK_eq {n : Nat} (hn : 0 < n) : ∀ w, listsK n w = (List.range (n ^ w)).map (ptK n w)
  | 0 => by simp [listsK, ptK]
  | w + 1 => by
    rw [listsK, listsK_eq hn w, Nat.pow_succ, range_mul, List.map_flatMap, List.flatMap_map]
    refine congrArg (fun f => List.flatMap f (List.range (n ^ w))) (funext fun j => ?_)
    unfold extL
    rw [List.map_map]
    refine List.map_congr_left fun x hx => ?_
    have hx := List.mem_range.1 hx
    simp only [Function.comp, ptK]
    rw [Nat.mul_comm j n, Nat.mul_add_div hn, Nat.div_eq_of_lt hx, Nat.mul_add_mod, Nat.mod_eq_of_lt hx, Nat.add_zero]
theorem listsK_len {n : Nat} (hn : 0 < n) (w : Nat) : (listsK n w).length = n ^ w := by rw [listsK_eq hn]; simp
theorem listsK_mem {n : Nat} (hn : 0 < n) {w : Nat} {l : List Nat} (h : l ∈ listsK n w) : l.length = w ∧ ∀ x ∈ l, x < n := by
  rw [listsK_eq hn] at h
  obtain ⟨k, _, rfl⟩ := List.mem_map.1 h
  exact ⟨ptK_len n w k, ptK_lt hn w k⟩
theorem ptK_get {n : Nat} (hn : 0 < n) : ∀ w k p, p < w → (ptK n w k).getD p 0 = (k / n ^ (w - 1 - p)) % n
  | 0, _, p, h => by omega
  | w + 1, k, p, h => by
    simp only [ptK]
    by_cases hp : p = w
    · subst hp
      rw [List.getD_eq_getElem?_getD, List.getElem?_append_right (by rw [ptK_len]; exact Nat.le_refl _), ptK_len]
      simp
    · rw [List.getD_eq_getElem?_getD, List.getElem?_append_left (by rw [ptK_len]; omega), ← List.getD_eq_getElem?_getD, ptK_get hn w (k / n) p (by omega), Nat.div_div_eq_div_mul, ← Nat.pow_succ']
      congr 3
      omega

/-- all lists so far -/
def flatK (n : Nat) (Ls : List (List Nat)) (j x : Nat) : List (List Nat) := (Ls.take j).flatMap (extL n) ++ (List.range x).map fun y => Ls.getD j [] ++ [y]
theorem flatK_zero (n : Nat) (Ls : List (List Nat)) : flatK n Ls 0 0 = [] := rfl
theorem flatK_succ (n : Nat) (Ls : List (List Nat)) (j x : Nat) : flatK n Ls j (x + 1) = flatK n Ls j x ++ [Ls.getD j [] ++ [x]] := by
  unfold flatK
  rw [List.range_succ, List.map_append, ← List.append_assoc]
  rfl
theorem flatK_next {n : Nat} {Ls : List (List Nat)} {j : Nat} (hj : j < Ls.length) : flatK n Ls j n = flatK n Ls (j + 1) 0 := by
  unfold flatK
  rw [List.take_add_one, List.flatMap_append, List.getElem?_eq_getElem hj, List.getD_eq_getElem?_getD, List.getElem?_eq_getElem hj]
  simp [extL]
theorem flatK_all (n : Nat) (Ls : List (List Nat)) : flatK n Ls Ls.length 0 = Ls.flatMap (extL n) := by
  unfold flatK
  rw [List.take_length]
  simp
theorem flatK_len {n : Nat} (Ls : List (List Nat)) (j x : Nat) (hj : j ≤ Ls.length) : (flatK n Ls j x).length = j * n + x := by
  unfold flatK
  rw [List.length_append, List.length_flatMap]
  have : ((Ls.take j).map fun l => (extL n l).length) = List.replicate j n := by
    rw [List.eq_replicate_iff]
    refine ⟨by simp; omega, fun b hb => ?_⟩
    obtain ⟨l, _, rfl⟩ := List.mem_map.1 hb
    simp [extL]
  rw [this]
  simp

end Go.Proofs.YtgiaebeoldigbaaDoor

namespace Go.Proofs.YtgiaebeoldigbaaDoor
open Go.RowKit
open Pl
set_option linter.unusedSimpArgs false
set_option linter.unusedVariables false

attribute [local go_sem ↓] Go.wp_at_zero Go.wp_at_succ

set_option maxHeartbeats 4000000 in
set_option maxRecDepth 100000 in
theorem listsOf_calls (n wd : Nat) (hn0 : 0 < n) (hn : n ≤ 8) (hwd : wd ≤ 3) (w : World) :
    Calls Tryd.prog 91 #[.int .i64 (n : Nat), .int .i64 (wd : Nat)] w fun e w' => (∃ v, e = .returned v ∧ LL w' w.heap.size v (listsK n wd)) ∧ Below w.heap.size w w' := by
  obtain ⟨i0, hi, hz0, hz1, hz2⟩ := info_parts (P := Tryd.prog) (e := 3) (z := .int .i64 0) (size := 1) (bytes := 8) (by kernel_rfl)
  obtain ⟨i1, hi', hz0', hz1', hz2'⟩ := info_parts (P := Tryd.prog) (e := 25) (z := .slice none 0 0) (size := 1) (bytes := 24) (by kernel_rfl)
  have L0 : LL ((w.alloc (.cells #[] 3)).alloc (.cells #[.slice (some ⟨w.heap.size, 0, none⟩) 0 0] 25)) w.heap.size (.slice (some ⟨w.heap.size + 1, 0, none⟩) 1 1) [[]] := by
    have hx : Bx ((w.alloc (.cells #[] 3)).alloc (.cells #[.slice (some ⟨w.heap.size, 0, none⟩) 0 0] 25)) (w.heap.size + 1) 25 #[.slice (some ⟨w.heap.size, 0, none⟩) 0 0] := bx_two w _ _
    refine ⟨⟨_, _, rfl⟩, [.slice (some ⟨w.heap.size, 0, none⟩) 0 0], ⟨rfl, .inr ⟨_, 1, _, rfl, by omega, hx, by simp, by unfold maxLen; omega, rfl, rfl⟩⟩, rfl, fun i v L h1 h2 => ?_⟩
    have h0 : i = 0 := by
      rcases Nat.eq_zero_or_pos i with h0 | h0
      · exact h0
      · rw [List.getElem?_eq_none (by simp; omega)] at h1; cases h1
    subst h0
    simp at h1 h2
    subst h1 h2
    exact ⟨_, _, rfl, (own_zeroO w).alloc _⟩
  have HL := Lib.hid L0
  have B0 := Lib.hid (show Below w.heap.size w ((w.alloc (.cells #[] 3)).alloc (.cells #[.slice (some ⟨w.heap.size, 0, none⟩) 0 0] 25)) from ((Below.refl _ _).alloc (Nat.le_refl _) _).alloc (by simp) _)
  clear L0
  go_enter Tryd.func91, Tryd.ntmps91
  go_wp2_with fail
  go_loopg [5, 13] wd (fun c v i wr => ∃ k : Nat, k + c = wd ∧ i = .int .i64 (k : Nat) ∧ LL wr w.heap.size v (listsK n k) ∧ Below w.heap.size w wr)
  case atStart => exact ⟨0, by omega, rfl, HL.out, B0.out⟩
  case round =>
    clear HL B0
    obtain ⟨wo, rfl⟩ : ∃ x, x = wr := ⟨wr, rfl⟩
    obtain ⟨k, hk, rfl, hll, hbl⟩ := hrel
    obtain ⟨Ls, hLs⟩ : ∃ Ls, Ls = listsK n k := ⟨_, rfl⟩
    rw [← hLs] at hll
    have hln : Ls.length = n ^ k := by rw [hLs]; exact listsK_len hn0 k
    by_cases hlt : k < wd
    · have h64 : n ^ k ≤ 64 := by
        have h1 : n ^ k ≤ 8 ^ k := Nat.pow_le_pow_left hn k
        have h2 : 8 ^ k ≤ 8 ^ 2 := Nat.pow_le_pow_right (by omega) (by omega)
        omega
      have hl64 : Ls.length ≤ 64 := by omega
      have hsucc : listsK n (k + 1) = Ls.flatMap (extL n) := by rw [hLs]; rfl
      obtain ⟨gA, cap0, rfl⟩ := hll.form
      obtain ⟨Bn, hBn⟩ : ∃ Bn, Bn = wo.heap.size := ⟨_, rfl⟩
      have Hll := Lib.hid hll
      have Hbl := Lib.hid hbl
      have Hsucc := Lib.hid hsucc
      have HLs := Lib.hid hLs
      have HBn := Lib.hid hBn
      have hls := hbl.size
      have Hls := Lib.hid hls
      clear hll hbl hsucc hLs hBn h64 hls hln
      have NL := Lib.hid (LL.new wo)
      have NB := Lib.hid ((Below.refl wo.heap.size wo).alloc (Nat.le_refl _) (.cells #[] 25))
      go_wp2_with fail
      go_loopg [6, 18] Ls.length (fun c v i wx => ∃ j : Nat, j + c = Ls.length ∧ i = .int .i64 (j : Nat) ∧ LL wx wo.heap.size v (flatK n Ls j 0) ∧ Below wo.heap.size wo wx)
      case atStart => exact ⟨0, by omega, rfl, by rw [flatK_zero]; exact NL.out, NB.out⟩
      case round =>
        clear NL NB
        obtain ⟨j, hj, rfl, hll, hbl⟩ := hrel
        have Nll := Lib.hid hll
        have Nbl := Lib.hid hbl
        clear hll hbl
        by_cases hjl : j < Ls.length
        · obtain ⟨g, cap, gi, ci, e1, hcl, hcell, hinn⟩ := (Hll.out.call Nbl.out).get hjl
          simp only [Value.slice.injEq, Option.some.injEq, Addr.mk.injEq, and_true, true_and] at e1
          obtain ⟨rfl, rfl⟩ := e1
          have j1 : (0 : Int) ≤ (j : Int) := by omega
          have j2 : (j : Int) < (Ls.length : Int) := by omega
          have hnx := fun x => flatK_succ n Ls j x
          have hnn := @flatK_next n Ls j hjl
          have hfl := fun x => @flatK_len n Ls j x (Nat.le_of_lt hjl)
          obtain ⟨L0, hL0⟩ : ∃ L0, L0 = Ls.getD j [] := ⟨_, rfl⟩
          simp only [← hL0] at hcell hinn hnx
          obtain ⟨lq, hlq⟩ : ∃ lq, L0.length = lq := ⟨_, rfl⟩
          rw [hlq] at hcell hinn
          have hlq3 : lq ≤ 3 := by
            have hm : L0 ∈ listsK n k := by rw [hL0, ← HLs.out, List.getD_eq_getElem?_getD, List.getElem?_eq_getElem hjl]; exact List.getElem_mem hjl
            have := (listsK_mem hn0 hm).1
            omega
          have Hinn := Lib.hid hinn
          have Hnx := Lib.hid hnx
          have Hnn := Lib.hid hnn
          have Hfl := Lib.hid hfl
          have Hlq := Lib.hid hlq
          have HL0 := Lib.hid hL0
          have hjn : j * n ≤ 63 * n := Nat.mul_le_mul_right n (by omega)
          have Hjn := Lib.hid (show j * n + n ≤ 600 by omega)
          clear hinn hnx hnn hfl hlq hL0 hjn
          go_wp2_with fail
          go_loopg [6, 23] n (fun c v i wy => ∃ x : Nat, x + c = n ∧ i = .int .i64 (x : Nat) ∧ LL wy wo.heap.size v (flatK n Ls j x) ∧ Below wo.heap.size wo wy ∧ Inn wy w.heap.size (.slice (some ⟨gi, 0, none⟩) lq ci) L0)
          case atStart => exact ⟨0, by omega, rfl, Nll.out, Nbl.out, Hinn.out⟩
          case round =>
            clear Nll Nbl Hinn hcell
            obtain ⟨wy, rfl⟩ : ∃ x, x = wr := ⟨wr, rfl⟩
            obtain ⟨x, hx, rfl, hll, hbl, hinn⟩ := hrel
            by_cases hxl : x < n
            · obtain ⟨⟨gn, cn, rfl⟩, vals, hrow, hins⟩ := hll
              have hfx := Hfl.out x
              have hL0 := LRow_of (show wy.ownsRow w.heap.size 3 1 (.slice (some ⟨gi, 0, none⟩) lq ci) lq (intsV (natsI L0)) from by obtain ⟨_, _, _, h2⟩ := hinn; rw [Hlq.out] at h2; exact h2)
              obtain ⟨FL, hFL⟩ : ∃ FL, FL = flatK n Ls j x := ⟨_, rfl⟩
              rw [← hFL] at hrow hins hfx ⊢
              obtain ⟨fl, hfl⟩ : ∃ fl, FL.length = fl := ⟨_, rfl⟩
              rw [hfl] at hfx hrow ⊢
              have hf600 : fl ≤ 600 := by have := Hjn.out; omega
              have x1 : (0 : Int) ≤ (x : Int) := by omega
              have Row := Lib.hid hrow
              have Ins := Lib.hid hins
              have Bl := Lib.hid hbl
              have In0 := Lib.hid hinn
              have HL0r := Lib.hid hL0
              have HFL := Lib.hid hFL
              have Hflen := Lib.hid hfl
              have hsz := hbl.size
              have Hsz := Lib.hid hsz
              clear hrow hins hbl hinn hL0 hFL hfl hsz hfx
              go_wp2_with (first | (at_builtin; refine wpList_append_own_at _ rfl (.tmp 27) (.tmp 28) 25 rfl wy.heap.size 3 i0 (.int .i64 0) 1 8 Tryd.underlying25 hi hz0 hz1 hz2 rfl (by decide) _ 0 [] rfl (own_zero wy) ⟨gi, 0, none⟩ lq _ (intsV (natsI L0)) rfl (by simp [intsV_len, natsI_len, Hlq.out]) (LRow.news (HL0r.out.alloc _)) (ints_oneCell .i64 _) (by unfold maxLen; omega) (by omega) (by simp) ?_; intro v1 w1 ho1 hg1 hnn hat1; clear hnn hat1; have O1 := Lib.hid (app_one ho1 hg1).1; have B2 := Lib.hid (app_one ho1 hg1).2; clear ho1 hg1) | (at_builtin; refine wpList_append_own_at _ rfl (.tmp 29) (.tmp 31) 25 rfl wy.heap.size 3 i0 (.int .i64 0) 1 8 Tryd.underlying25 hi hz0 hz1 hz2 rfl (by decide) _ lq (intsV (natsI L0)) rfl (O1.out.alloc _) ⟨w1.heap.size, 0, none⟩ 1 1 [.int .i64 (x : Nat)] rfl rfl (cell_one_new _ _ _) (ints_oneCell .i64 [((x : Nat) : Int)]) (by unfold maxLen; omega) (by omega) (by have := B2.out.size; simp; omega) ?_; intro v2 w2 ho2 hg2 hnn hat2; clear hnn hat2; obtain ⟨g2, cp2, rfl, hI2, hY2⟩ := app_twoI Hlq.out B2.out O1.out ho2 hg2; have I2 := Lib.hid hI2; have Y2 := Lib.hid hY2; have Row2 := Lib.hid (own_call Row.out hY2); have Bl2 := Lib.hid (Bl.out.trans (hY2.mono Bl.out.size)); clear ho2 hg2 hI2 hY2) | (at_builtin; refine wpList_append_own_at _ rfl (.tmp 26) (.tmp 33) 90 rfl wo.heap.size 25 i1 (.slice none 0 0) 1 24 Tryd.underlying90 hi' hz0' hz1' hz2' rfl (by decide) _ fl vals rfl (Row2.out.alloc _) ⟨w2.heap.size, 0, none⟩ 1 1 [.slice (some ⟨g2, 0, none⟩) (lq + 1) cp2] rfl rfl (cell_one_new _ _ _) (fun u hu => by simp at hu; subst hu; rfl) (by unfold maxLen; omega) (by omega) (by have := Bl2.out.size; simp; omega) ?_; intro v3 w3 ho3 hg3 hnn hat3; clear hnn hat3))
              go_roundg (n - x - 1)
              case rel =>
                refine ⟨x + 1, by omega, by go_num, ?_, (Bl2.out.alloc Bl2.out.size _).grown hg3 (by have := Bl2.out.size; simp; omega) (fun q hq => (Row2.out.lt q hq).1), ?_⟩
                · rw [Hnx.out x, ← HFL.out]
                  exact LL.push (by rw [Hflen.out]; exact Row2.out.alloc _) ((Ins.out.call Y2.out).call ((Below.refl _ _).alloc (Nat.le_refl _) _)) ((I2.out.base Bl.out.size).call ((Below.refl _ _).alloc (Nat.le_refl _) _)) (by rw [Hflen.out]; exact ho3) hg3
                · exact ((In0.out.call Y2.out).call ((Below.refl _ _).alloc (Nat.le_refl _) _)).grown (Row2.out.alloc _) hg3
              case measure => omega
            · obtain rfl : x = n := by omega
              have Bl := Lib.hid hbl
              have Lx := Lib.hid hll
              clear hbl hll hinn
              go_wp2_with fail
              go_roundg (Ls.length - j - 1)
              case rel => exact ⟨j + 1, by omega, by go_num, by rw [← Hnn.out]; exact Lx.out, Bl.out⟩
              case measure => omega
        · obtain rfl : j = Ls.length := by omega
          go_wp2_with fail
          go_roundg (wd - k - 1)
          case rel => exact ⟨k + 1, by omega, by go_num, by rw [Hsucc.out, ← flatK_all]; exact Nll.out.base Hls.out, Hbl.out.trans (Nbl.out.mono Hls.out)⟩
          case measure => omega
    · obtain rfl : k = wd := by omega
      have Hll := Lib.hid hll
      have Hbl := Lib.hid hbl
      have HLs := Lib.hid hLs
      clear hll hbl hLs hln
      go_wp2_with fail
      go_ret
      exact ⟨⟨_, rfl, by rw [← HLs.out]; exact Hll.out⟩, Hbl.out⟩

end Go.Proofs.YtgiaebeoldigbaaDoor

namespace Go.Proofs.YtgiaebeoldigbaaDoor
open Go.RowKit
open Pl
set_option linter.unusedSimpArgs false
set_option linter.unusedVariables false

noncomputable def ptB (i : Int) (s r f : ByteArray) (x : Int) : Bool := decide (0 ≤ x) && (decide (x ≤ 3) && rdyB i s r f x.toNat)
noncomputable def ptL (i : Int) (s r f : ByteArray) (x : Int) : List (List Nat) := if ptB i s r f x then (listsK (ofSt i s r).n x.toNat).filter (truV i s r f) else []
noncomputable def cptV (i : Int) (s r f : ByteArray) (x : Int) : Int := if ptB i s r f x then ((ptL i s r f x).length : Int) else -1
noncomputable def fstV (i : Int) (s r f : ByteArray) (x : Int) : List Nat := (ptL i s r f x).headD []
noncomputable def fstB (i : Int) (s r f : ByteArray) (x : Int) : Bool := ptB i s r f x && !(ptL i s r f x).isEmpty
noncomputable def sameV (i : Int) (s r f g : ByteArray) : Bool := (rdyB i s r f 3 && rdyB i s r g 3) && decide (ptL i s r f 3 = ptL i s r g 3)
theorem pt_neg {i : Int} {s r f : ByteArray} {x : Int} (h : ¬ 0 ≤ x) : ptB i s r f x = false := by unfold ptB; rw [decide_eq_false h]; rfl
theorem pt_big {i : Int} {s r f : ByteArray} {x : Int} (h : ¬ x ≤ 3) : ptB i s r f x = false := by unfold ptB; rw [decide_eq_false h]; simp
theorem pt_nat (i : Int) (s r f : ByteArray) {k : Nat} (h : k ≤ 3) : ptB i s r f (k : Nat) = rdyB i s r f k := by
  unfold ptB
  rw [decide_eq_true (show (0 : Int) ≤ (k : Nat) by omega), decide_eq_true (show ((k : Nat) : Int) ≤ 3 by omega)]
  rfl
theorem pt_cases {i : Int} {s r f : ByteArray} {x : Int} (h : ptB i s r f x = true) : ∃ k : Nat, x = (k : Nat) ∧ k ≤ 3 ∧ rdyB i s r f k = true := by
  unfold ptB at h
  simp only [Bool.and_eq_true, decide_eq_true_eq] at h
  refine ⟨x.toNat, by omega, by omega, h.2.2⟩
theorem ptL_no {i : Int} {s r f : ByteArray} {x : Int} (h : ptB i s r f x = false) : ptL i s r f x = [] := by unfold ptL; rw [h]; rfl
theorem ptL_yes {a : St} {f : ByteArray} {g : Fm} {k : Nat} (hf : f.data.toList = g.text) (h : ptB a.n (bs a.set) (bs a.rel) f (k : Nat) = true) : ptL a.n (bs a.set) (bs a.rel) f (k : Nat) = (listsK a.n k).filter fun l => g.holds a (envL l) := by
  unfold ptL
  rw [h]
  simp only [if_true, ofSt_eq]
  refine List.filter_congr fun l _ => ?_
  rw [tru_of hf]
theorem ptL_len (i : Int) (s r f : ByteArray) (x : Int) : ∀ l ∈ ptL i s r f x, l.length ≤ 3 := by
  intro l hl
  unfold ptL at hl
  split at hl
  · rename_i h
    obtain ⟨k, rfl, hk, hr⟩ := pt_cases h
    have hn : 0 < (ofSt i s r).n := by
      rcases ok_cases i s r with h1 | ⟨a, ha, rfl, rfl, rfl⟩
      · rw [rdy_noSt h1] at hr; cases hr
      · rw [ofSt_eq]; exact ha.lo
    have := (listsK_mem hn (List.mem_filter.1 hl).1).1
    simp at this
    omega
  · simp at hl
theorem fst_le (i : Int) (s r f : ByteArray) (x : Int) : (fstV i s r f x).length ≤ 8 := by
  unfold fstV
  cases h : ptL i s r f x with
  | nil => simp
  | cons l t =>
    have := ptL_len i s r f x l (by rw [h]; simp)
    simp; omega
/-- the lists so far -/
def ftK (P : List Nat → Bool) (Ls : List (List Nat)) (j : Nat) : List (List Nat) := (Ls.take j).filter P
theorem ftK_succ (P : List Nat → Bool) (Ls : List (List Nat)) (j : Nat) (hj : j < Ls.length) : ftK P Ls (j + 1) = if P (Ls.getD j []) then ftK P Ls j ++ [Ls.getD j []] else ftK P Ls j := by
  unfold ftK
  rw [List.take_add_one, List.getD_eq_getElem?_getD, List.getElem?_eq_getElem hj, List.filter_append]
  cases h : P Ls[j] <;> simp [h]
theorem ftK_all (P : List Nat → Bool) (Ls : List (List Nat)) : ftK P Ls Ls.length = Ls.filter P := by unfold ftK; rw [List.take_length]
theorem ftK_le (P : List Nat → Bool) (Ls : List (List Nat)) (j : Nat) : (ftK P Ls j).length ≤ Ls.length := by
  unfold ftK
  exact Nat.le_trans (List.length_filter_le _ _) (by simp; omega)

end Go.Proofs.YtgiaebeoldigbaaDoor

namespace Go.Proofs.YtgiaebeoldigbaaDoor
open Go.RowKit
open Pl
set_option linter.unusedSimpArgs false
set_option linter.unusedVariables false

attribute [local go_sem ↓] Go.wp_at_zero Go.wp_at_succ

set_option maxHeartbeats 4000000 in
set_option maxRecDepth 100000 in
theorem pointsOf_no (i : Int) (s r f : ByteArray) (x : Int) (w : World) (hs : s.size ≤ maxLen) (hr : r.size ≤ maxLen) (h : ptB i s r f x = false) :
    Calls Tryd.prog 63 #[stV i s r, .string f, .int .i64 x] w fun e w' => e = .returned (.tuple #[.slice none 0 0, .bool false]) ∧ Below w.heap.size w w' := by
  have HcI := fun W => isStructure_calls i s r W hs hr
  have B0 := Lib.hid (show Below w.heap.size w (w.alloc (.cells #[.int .i64 i, .string s, .string r] 24)) from (Below.refl _ _).alloc (Nat.le_refl _) _)
  have Xa := Lib.hid (Bx.new w 24 #[.int .i64 i, .string s, .string r])
  clear hs hr
  rcases fm_cases f with ⟨hb, hno⟩ | ⟨g, hb, hf, hs4, hl4⟩
  · have Hno := Lib.hid hno
    clear hb hno HcI h
    go_enter Tryd.func63, Tryd.ntmps63
    go_wp2_with fail
    refine (parseFormula_no f _ Hno.out).mono ?_
    rintro e w1 ⟨rfl, hz⟩
    have B1 := Lib.hid (B0.out.trans (hz.mono (by simp)))
    clear hz
    go_wp2_with fail
    go_ret2
    exact ⟨rfl, B1.out⟩
  have Hf := Lib.hid hf
  have Hb := Lib.hid hb
  have hfr : g.freeBits < 16 := freeBits_lt g
  clear hf hb
  cases hok : okB i s r
  case false =>
    simp only [hok] at HcI
    clear hok h
    have CI := Lib.hid HcI
    clear HcI
    go_enter Tryd.func63, Tryd.ntmps63
    go_wp2_with fail
    refine (parseFormula_yes f g _ hs4 Hf.out).mono ?_
    rintro e w1 ⟨b, rfl, htr, hz⟩
    have B1 := Lib.hid (B0.out.trans (hz.mono (by simp)))
    have X1 := Lib.hid (Xa.out.call hz)
    have T1 := Lib.hid htr
    clear hz htr
    obtain ⟨k0, k1, k2⟩ := box_load X1.out
    go_wp2_with fail
    refine (CI.out _).mono ?_
    rintro e w2 ⟨rfl, hz⟩
    have B2 := Lib.hid (B1.out.trans (hz.mono B1.out.size))
    have X2 := Lib.hid (X1.out.call hz)
    have T2 := Lib.hid (T1.out.below hz)
    have D2 := Lib.hid hz
    clear hz k0 k1 k2
    go_wp2_with fail
    go_ret2
    exact ⟨rfl, B2.out⟩
  case true =>
  simp only [hok] at HcI
  have CI := Lib.hid HcI
  clear HcI
  by_cases hx0 : 0 ≤ x
  case neg =>
    clear hok h
    go_enter Tryd.func63, Tryd.ntmps63
    go_wp2_with fail
    refine (parseFormula_yes f g _ hs4 Hf.out).mono ?_
    rintro e w1 ⟨b, rfl, htr, hz⟩
    have B1 := Lib.hid (B0.out.trans (hz.mono (by simp)))
    have X1 := Lib.hid (Xa.out.call hz)
    have T1 := Lib.hid htr
    clear hz htr
    obtain ⟨k0, k1, k2⟩ := box_load X1.out
    go_wp2_with fail
    refine (CI.out _).mono ?_
    rintro e w2 ⟨rfl, hz⟩
    have B2 := Lib.hid (B1.out.trans (hz.mono B1.out.size))
    have X2 := Lib.hid (X1.out.call hz)
    have T2 := Lib.hid (T1.out.below hz)
    have D2 := Lib.hid hz
    clear hz k0 k1 k2
    go_wp2_with fail
    go_ret2
    exact ⟨rfl, B2.out⟩
  case pos =>
  by_cases hx3 : x ≤ 3
  case neg =>
    clear hok h
    go_enter Tryd.func63, Tryd.ntmps63
    go_wp2_with fail
    refine (parseFormula_yes f g _ hs4 Hf.out).mono ?_
    rintro e w1 ⟨b, rfl, htr, hz⟩
    have B1 := Lib.hid (B0.out.trans (hz.mono (by simp)))
    have X1 := Lib.hid (Xa.out.call hz)
    have T1 := Lib.hid htr
    clear hz htr
    obtain ⟨k0, k1, k2⟩ := box_load X1.out
    go_wp2_with fail
    refine (CI.out _).mono ?_
    rintro e w2 ⟨rfl, hz⟩
    have B2 := Lib.hid (B1.out.trans (hz.mono B1.out.size))
    have X2 := Lib.hid (X1.out.call hz)
    have T2 := Lib.hid (T1.out.below hz)
    have D2 := Lib.hid hz
    clear hz k0 k1 k2
    go_wp2_with fail
    go_ret2
    exact ⟨rfl, B2.out⟩
  case pos =>
  obtain ⟨k, rfl⟩ : ∃ k : Nat, x = (k : Nat) := ⟨x.toNat, by omega⟩
  obtain ⟨a, ha, rfl, rfl, rfl⟩ := st_of hok
  rw [pt_nat _ _ _ _ (by omega), rdy_of Hb.out Hf.out ha k] at h
  have hne : ((g.freeBits : Int) / 2 ^ k != 0) = true := by rw [div_nat, bne_iff_ne]; have := of_decide_eq_false h; omega
  clear hok h
  go_enter Tryd.func63, Tryd.ntmps63
  go_wp2_with fail
  refine (parseFormula_yes f g _ hs4 Hf.out).mono ?_
  rintro e w1 ⟨b, rfl, htr, hz⟩
  have B1 := Lib.hid (B0.out.trans (hz.mono (by simp)))
  have X1 := Lib.hid (Xa.out.call hz)
  have T1 := Lib.hid htr
  clear hz htr
  obtain ⟨k0, k1, k2⟩ := box_load X1.out
  go_wp2_with fail
  refine (CI.out _).mono ?_
  rintro e w2 ⟨rfl, hz⟩
  have B2 := Lib.hid (B1.out.trans (hz.mono B1.out.size))
  have X2 := Lib.hid (X1.out.call hz)
  have T2 := Lib.hid (T1.out.below hz)
  have D2 := Lib.hid hz
  clear hz k0 k1 k2
  obtain ⟨_, _, _, _, _, _, hc3, _⟩ := node_cells T2.out
  go_wp2_with fail
  go_ret2
  exact ⟨rfl, B2.out⟩

set_option maxHeartbeats 4000000 in
set_option maxRecDepth 100000 in
theorem pointsOf_yes (i : Int) (s r f : ByteArray) (x : Int) (w : World) (hs : s.size ≤ maxLen) (hr : r.size ≤ maxLen) (h : ptB i s r f x = true) :
    Calls Tryd.prog 63 #[stV i s r, .string f, .int .i64 x] w fun e w' => (∃ v, e = .returned (.tuple #[v, .bool true]) ∧ LL w' w.heap.size v (ptL i s r f x)) ∧ Below w.heap.size w w' := by
  obtain ⟨i1, hi', hz0', hz1', hz2'⟩ := info_parts (P := Tryd.prog) (e := 25) (z := .slice none 0 0) (size := 1) (bytes := 24) (by kernel_rfl)
  have HcI := fun W => isStructure_calls i s r W hs hr
  have B0 := Lib.hid (show Below w.heap.size w (w.alloc (.cells #[.int .i64 i, .string s, .string r] 24)) from (Below.refl _ _).alloc (Nat.le_refl _) _)
  have Xa := Lib.hid (Bx.new w 24 #[.int .i64 i, .string s, .string r])
  clear hs hr
  obtain ⟨k, rfl, hk3, hry⟩ := pt_cases h
  rcases fm_cases f with ⟨hb, hno⟩ | ⟨g, hb, hf, hs4, hl4⟩
  · rw [rdy_noFm hb] at hry; cases hry
  cases hok : okB i s r
  case false => rw [rdy_noSt hok] at hry; cases hry
  case true =>
  simp only [hok] at HcI
  have CI := Lib.hid HcI
  obtain ⟨a, ha, rfl, rfl, rfl⟩ := st_of hok
  rw [ptL_yes hf h]
  rw [rdy_of hb hf ha k] at hry
  have heq : (g.freeBits : Int) / 2 ^ k = 0 := by rw [div_nat]; have := of_decide_eq_true hry; omega
  have hfr : g.freeBits < 16 := freeBits_lt g
  have hk0 : (0 : Int) ≤ (k : Int) := by omega
  have hk3i : (k : Int) ≤ 3 := by omega
  have h8 := ha.hi
  have hlo := ha.lo
  have Hf := Lib.hid hf
  obtain ⟨PP, hPP⟩ : ∃ PP : List Nat → Bool, PP = fun l => g.holds a (envL l) := ⟨_, rfl⟩
  rw [← hPP]
  have HPP := Lib.hid hPP
  obtain ⟨Ls, hLs⟩ : ∃ Ls, Ls = listsK a.n k := ⟨_, rfl⟩
  rw [← hLs]
  have hmem : ∀ l ∈ Ls, l.length = k ∧ ∀ y ∈ l, y < a.n := fun l hl => listsK_mem hlo (by rw [← hLs]; exact hl)
  have hl512 : Ls.length ≤ 512 := by
    rw [hLs, listsK_len hlo]
    have h1 : a.n ^ k ≤ 8 ^ k := Nat.pow_le_pow_left h8 k
    have h2 : 8 ^ k ≤ 8 ^ 3 := Nat.pow_le_pow_right (by omega) hk3
    omega
  have cl := fun W => listsOf_calls a.n k hlo h8 hk3 W
  simp only [← hLs] at cl
  have CLs := Lib.hid cl
  have Hmem := Lib.hid hmem
  clear HcI hok h hry hb hf hPP hLs hmem cl hl4
  go_enter Tryd.func63, Tryd.ntmps63
  go_wp2_with fail
  refine (parseFormula_yes f g _ hs4 Hf.out).mono ?_
  rintro e w1 ⟨b, rfl, htr, hz⟩
  have B1 := Lib.hid (B0.out.trans (hz.mono (by simp)))
  have X1 := Lib.hid (Xa.out.call hz)
  have T1 := Lib.hid htr
  clear hz htr
  obtain ⟨k0, k1, k2⟩ := box_load X1.out
  go_wp2_with fail
  refine (CI.out _).mono ?_
  rintro e w2 ⟨rfl, hz⟩
  have B2 := Lib.hid (B1.out.trans (hz.mono B1.out.size))
  have X2 := Lib.hid (X1.out.call hz)
  have T2 := Lib.hid (T1.out.below hz)
  have D2 := Lib.hid hz
  clear hz k0 k1 k2
  obtain ⟨_, _, _, _, _, _, hc3, _⟩ := node_cells T2.out
  obtain ⟨k0, k1, k2⟩ := box_load X2.out
  go_wp2_with fail
  refine (newHolder_calls (w.alloc (.cells #[.int .i64 (a.n : Int), .string (bs a.set), .string (bs a.rel)] 24)).heap.size w1 a w2 D2.out).mono ?_
  rintro e w3 ⟨rfl, hW, hz⟩
  have B3 := Lib.hid ((B2.out.trans (hz.mono B2.out.size)).alloc (B2.out.trans (hz.mono B2.out.size)).size (.cells #[] 25))
  have X3 := Lib.hid ((X2.out.call hz).alloc (.cells #[] 25))
  have W3 := Lib.hid (hW.alloc (.cells #[] 25))
  have Hlt3 := Lib.hid hW.box.lt
  have HS23 := Lib.hid B2.out.size
  have HS3 := Lib.hid (show w.heap.size ≤ w3.heap.size from Nat.le_trans B2.out.size hz.size)
  have N3 := Lib.hid (LL.new w3)
  clear hz k0 k1 k2 hc3 hW
  generalize hhb : w2.heap.size + 1 = hb at *
  have Hhb := Lib.hid hhb
  clear hhb
  obtain ⟨k0, k1, k2⟩ := box_load X3.out
  go_wp2_with fail
  refine (CLs.out _).mono ?_
  rintro e w4 ⟨⟨v4, rfl, hL4⟩, hz⟩
  have B4 := Lib.hid (B3.out.trans (hz.mono B3.out.size))
  have W4 := Lib.hid (W3.out.call hz)
  have N4 := Lib.hid (N3.out.call hz)
  have L4 := Lib.hid hL4
  have A4 := Lib.hid (show Apart v4 (.slice (some ⟨w3.heap.size, 0, none⟩) 0 0) from Apart.symm (Apart.new N3.out.2.choose_spec.1 hL4.2.choose_spec.1 (Nat.le_refl _)))
  have S4 := Lib.hid (show w3.heap.size ≤ w4.heap.size from by have := hz.size; simp at this; omega)
  clear hz k0 k1 k2 hL4
  obtain ⟨gl, cl, rfl⟩ := L4.out.form
  go_wp2_with fail
  go_loopg [10, 47] Ls.length (fun c o xi wr => ∃ j : Nat, j + c = Ls.length ∧ xi = .int .i64 (j : Nat) ∧ LL wr w3.heap.size o (ftK PP Ls j) ∧ LL wr (w3.heap.size + 1) (.slice (some ⟨gl, 0, none⟩) Ls.length cl) Ls ∧ Apart (.slice (some ⟨gl, 0, none⟩) Ls.length cl) o ∧ HoldW (w.alloc (.cells #[.int .i64 (a.n : Int), .string (bs a.set), .string (bs a.rel)] 24)).heap.size w1 a hb wr ∧ Below w.heap.size w wr)
  case atStart => exact ⟨0, by omega, rfl, N4.out, by have := L4.out; rwa [World.size_alloc] at this, A4.out, W4.out, B4.out⟩
  case round =>
    clear N4 L4 A4 W4 B4 N3 X3 W3
    obtain ⟨j, hj, rfl, ho, hl, hap, hWr, hbl⟩ := hrel
    have Hl := Lib.hid hl
    have Hap := Lib.hid hap
    have HWr := Lib.hid hWr
    have Hbl := Lib.hid hbl
    clear hl hap hWr hbl
    by_cases hjl : j < Ls.length
    · obtain ⟨g1, c1, gi, ci, e1, hcl, hcell, hinn⟩ := Hl.out.get hjl
      simp only [Value.slice.injEq, Option.some.injEq, Addr.mk.injEq, and_true, true_and] at e1
      obtain ⟨rfl, rfl⟩ := e1
      have j1 : (0 : Int) ≤ (j : Int) := by omega
      have j2 : (j : Int) < (Ls.length : Int) := by omega
      have hsucc := ftK_succ PP Ls j hjl
      have hle := ftK_le PP Ls j
      obtain ⟨L0, hL0⟩ : ∃ L0, L0 = Ls.getD j [] := ⟨_, rfl⟩
      have hm0 := Hmem.out L0 (by rw [hL0, List.getD_eq_getElem?_getD, List.getElem?_eq_getElem hjl]; exact List.getElem_mem hjl)
      simp only [← hL0] at hcell hinn hsucc
      obtain ⟨FK, hFK⟩ : ∃ FK, FK = ftK PP Ls j := ⟨_, rfl⟩
      rw [← hFK] at ho hsucc hle
      obtain ⟨⟨go, co, rfl⟩, vals, hrow, hins⟩ := ho
      obtain ⟨fl, hfl⟩ : ∃ fl, FK.length = fl := ⟨_, rfl⟩
      rw [hfl] at hrow hle Hap
      have hL0l : L0.length = k := hm0.1
      rw [hL0l] at hcell hinn
      have hLR := LRow_of (show wr.ownsRow (w3.heap.size + 1) 3 1 (.slice (some ⟨gi, 0, none⟩) k ci) k (intsV (natsI L0)) from by obtain ⟨_, _, _, h2⟩ := hinn; rw [hL0l] at h2; exact h2)
      have hcall := holds_calls (w.alloc (.cells #[.int .i64 (a.n : Int), .string (bs a.set), .string (bs a.rel)] 24)).heap.size w1 a ha hb g b L0 (some ⟨gi, 0, none⟩) ci wr T1.out hm0.2 (by omega) hLR HWr.out
      rw [show g.holds a (envL L0) = PP L0 by rw [HPP.out], hL0l] at hcall
      have HC := Lib.hid hcall
      have Row := Lib.hid hrow
      have Ins := Lib.hid hins
      have In0 := Lib.hid hinn
      have Hfl := Lib.hid hfl
      have HFK := Lib.hid hFK
      have Hsucc := Lib.hid hsucc
      clear hcall hrow hins hinn hfl hFK hsucc hL0 hm0 hLR hL0l
      rw [Hfl.out]
      cases hq : PP L0 with
      | false =>
        rw [hq] at HC
        have hs2 := Hsucc.out
        rw [hq] at hs2
        have Hs2 := Lib.hid hs2
        clear hs2 hq
        go_wp2_with fail
        refine (HC.out).mono ?_
        rintro e w5 ⟨rfl, hW5, hF⟩
        have W5 := Lib.hid hW5
        have F5 := Lib.hid (Hbl.out.trans (hF.below.mono (by have := HS23.out; have := Hhb.out; omega)))
        have L5 := Lib.hid (Hl.out.fz hF)
        have O5 := Lib.hid (show LL w5 w3.heap.size (.slice (some ⟨go, 0, none⟩) fl co) FK from LL.fz ⟨⟨_, _, by rw [Hfl.out]⟩, vals, by rw [Hfl.out]; exact Row.out, Ins.out⟩ hF)
        clear hW5 hF hcell
        go_wp2_with fail
        go_roundg (Ls.length - j - 1)
        case rel => exact ⟨j + 1, by omega, by go_num, by rw [Hs2.out]; exact O5.out, L5.out, Hap.out, W5.out, F5.out⟩
        case measure => omega
      | true =>
        rw [hq] at HC
        have hs2 := Hsucc.out
        rw [hq] at hs2
        have Hs2 := Lib.hid hs2
        clear hs2 hq
        go_wp2_with fail
        refine (HC.out).mono ?_
        rintro e w5 ⟨rfl, hW5, hF⟩
        have W5 := Lib.hid hW5
        have F5 := Lib.hid (Hbl.out.trans (hF.below.mono (by have := HS23.out; have := Hhb.out; omega)))
        have L5 := Lib.hid (Hl.out.fz hF)
        have R5 := Lib.hid (own_fz Row.out hF)
        have I5 := Lib.hid (show Inns w5 w3.heap.size vals FK from (show LL w5 w3.heap.size (.slice (some ⟨go, 0, none⟩) fl co) FK from LL.fz ⟨⟨_, _, by rw [Hfl.out]⟩, vals, by rw [Hfl.out]; exact Row.out, Ins.out⟩ hF) |> fun _ => ⟨Ins.out.1, fun q v L h1 h2 => (Ins.out.2 q v L h1 h2).fz hF⟩)
        have Z5 := Lib.hid (show Inn w5 w3.heap.size (.slice (some ⟨gi, 0, none⟩) k ci) L0 from (In0.out.fz hF).base (by omega))
        have S5 := Lib.hid (show w3.heap.size ≤ w5.heap.size from by have := (R5.out.lt go rfl); omega)
        clear hW5 hF
        have hcell5 := hcell
        clear hcell hcell5
        go_wp2_with (at_builtin; refine wpList_append_own_at _ rfl (.tmp 55) (.tmp 57) 90 rfl w3.heap.size 25 i1 (.slice none 0 0) 1 24 Tryd.underlying90 hi' hz0' hz1' hz2' rfl (by decide) _ fl vals rfl (R5.out.alloc _) ⟨w5.heap.size, 0, none⟩ 1 1 [.slice (some ⟨gi, 0, none⟩) k ci] rfl rfl (cell_one_new _ _ _) (fun u hu => by simp at hu; subst hu; rfl) (by unfold maxLen; omega) (by omega) (by have := S5.out; simp; omega) ?_; intro v6 w6 ho6 hg6 hnn hat6; clear hnn; have W6 := Lib.hid ((W5.out.alloc _).own (R5.out.alloc _) (by have := Hlt3.out; omega) hg6); have A6 := Lib.hid hat6; clear hat6)
        go_roundg (Ls.length - j - 1)
        case rel =>
          refine ⟨j + 1, by omega, by go_num, ?_, ?_, ?_, W6.out, ?_⟩
          · rw [Hs2.out]
            exact LL.push (W := w5.alloc (.cells #[.slice (some ⟨gi, 0, none⟩) k ci] 25)) (v := .slice (some ⟨go, 0, none⟩) fl co) (by rw [Hfl.out]; exact R5.out.alloc _) (I5.out.call ((Below.refl _ _).alloc (Nat.le_refl _) _)) (Z5.out.call ((Below.refl _ _).alloc (Nat.le_refl _) _)) (by rw [Hfl.out]; exact ho6) hg6
          · exact (L5.out.alloc _).others (R5.out.alloc _) hg6 Hap.out
          · exact Hap.out.next (L5.out.alloc _).2.choose_spec.1 (Nat.le_refl _) A6.out
          · exact (F5.out.alloc F5.out.size _).grown hg6 (by have := F5.out.size; simp; omega) (fun q hq => by have h1 := (R5.out.lt q hq).1; have h2 := HS3.out; omega)
        case measure => omega
    · obtain rfl : j = Ls.length := by omega
      obtain ⟨go, co, rfl⟩ := ho.form
      have Ho := Lib.hid ho
      clear ho
      go_wp2_with fail
      go_ret2
      exact ⟨⟨_, rfl, by rw [← ftK_all]; exact Ho.out.base HS3.out⟩, Hbl.out⟩

set_option maxRecDepth 100000 in
set_option maxHeartbeats 1000000 in
theorem CountPoints_impl (i : Int) (s r f : ByteArray) (x : Int) (w : World) (hs : s.size ≤ maxLen) (hr : r.size ≤ maxLen) :
    Calls Tryd.prog 28 #[stV i s r, .string f, .int .i64 x] w fun e w' => e = .returned (.int .i64 (cptV i s r f x)) ∧ Below w.heap.size w w' := by
  have B0 := Lib.hid (show Below w.heap.size w (w.alloc (.cells #[.int .i64 i, .string s, .string r] 24)) from (Below.refl _ _).alloc (Nat.le_refl _) _)
  obtain ⟨k0, k1, k2⟩ := box_load (Bx.new w 24 #[.int .i64 i, .string s, .string r])
  unfold cptV
  cases hp : ptB i s r f x
  case false =>
    have CP := Lib.hid (fun W => pointsOf_no i s r f x W hs hr hp)
    clear hs hr hp
    go_enter Tryd.func28, Tryd.ntmps28
    go_wp2_with fail
    refine (CP.out _).mono ?_
    rintro e w1 ⟨rfl, hz⟩
    have B1 := Lib.hid (B0.out.trans (hz.mono B0.out.size))
    clear hz k0 k1 k2
    go_wp2_with fail
    go_ret
    exact ⟨rfl, B1.out⟩
  case true =>
    have CP := Lib.hid (fun W => pointsOf_yes i s r f x W hs hr hp)
    clear hs hr hp
    go_enter Tryd.func28, Tryd.ntmps28
    go_wp2_with fail
    refine (CP.out _).mono ?_
    rintro e w1 ⟨⟨v, rfl, hL⟩, hz⟩
    have B1 := Lib.hid (B0.out.trans (hz.mono B0.out.size))
    obtain ⟨gl, cl, rfl⟩ := hL.form
    clear hz k0 k1 k2 hL
    go_wp2_with fail
    go_ret
    exact ⟨rfl, B1.out⟩

set_option maxRecDepth 100000 in
set_option maxHeartbeats 1000000 in
theorem FirstPoint_impl (i : Int) (s r f : ByteArray) (x : Int) (w : World) (hs : s.size ≤ maxLen) (hr : r.size ≤ maxLen) :
    Calls Tryd.prog 31 #[stV i s r, .string f, .int .i64 x] w fun e w' => (∃ v, e = .returned (.tuple #[v, .bool (fstB i s r f x)]) ∧ w'.ownsRow w.heap.size 3 1 v (fstV i s r f x).length (intsV (natsI (fstV i s r f x)))) ∧ Below w.heap.size w w' := by
  have B0 := Lib.hid (show Below w.heap.size w (w.alloc (.cells #[.int .i64 i, .string s, .string r] 24)) from (Below.refl _ _).alloc (Nat.le_refl _) _)
  obtain ⟨k0, k1, k2⟩ := box_load (Bx.new w 24 #[.int .i64 i, .string s, .string r])
  unfold fstB fstV
  cases hp : ptB i s r f x
  case false =>
    rw [ptL_no hp]
    have CP := Lib.hid (fun W => pointsOf_no i s r f x W hs hr hp)
    clear hs hr hp
    go_enter Tryd.func31, Tryd.ntmps31
    go_wp2_with fail
    refine (CP.out _).mono ?_
    rintro e w1 ⟨rfl, hz⟩
    have B1 := Lib.hid (B0.out.trans (hz.mono B0.out.size))
    clear hz k0 k1 k2
    go_wp2_with fail
    go_ret2
    exact ⟨⟨_, rfl, rfl, .inl ⟨rfl, rfl⟩⟩, B1.out⟩
  case true =>
    have cp := fun W => pointsOf_yes i s r f x W hs hr hp
    clear hs hr hp
    obtain ⟨Q, hQ⟩ : ∃ Q, Q = ptL i s r f x := ⟨_, rfl⟩
    simp only [← hQ] at cp
    rw [← hQ]
    have CP := Lib.hid cp
    clear cp hQ
    go_enter Tryd.func31, Tryd.ntmps31
    go_wp2_with fail
    refine (CP.out _).mono ?_
    rintro e w1 ⟨⟨v, rfl, hL⟩, hz⟩
    have B1 := Lib.hid (B0.out.trans (hz.mono B0.out.size))
    cases Q with
    | nil =>
      obtain ⟨gl, cl, rfl⟩ := hL.form
      clear hz k0 k1 k2 hL
      simp only [List.length_nil]
      go_wp2_with fail
      go_ret2
      exact ⟨⟨_, rfl, rfl, .inl ⟨rfl, rfl⟩⟩, B1.out⟩
    | cons l t =>
      obtain ⟨gl, cl, gi, ci, rfl, hcl, hcell, hinn⟩ := hL.get (k := 0) (by simp)
      simp only [List.getD_cons_zero] at hcell hinn
      have In0 := Lib.hid hinn
      have hsz : ((l :: t).length : Int) = (t.length : Int) + 1 := by simp
      obtain ⟨ln, hln⟩ : ∃ ln, ln = (l :: t).length := ⟨_, rfl⟩
      rw [← hln]
      have hpos : (0 : Int) < (ln : Int) := by rw [hln]; simp only [List.length_cons]; omega
      have hne : ((ln : Int) == 0) = false := by rw [beq_eq_false_iff_ne]; omega
      clear hz k0 k1 k2 hL hinn hln hsz
      go_wp2_with fail
      go_ret2
      obtain ⟨_, _, _, h2⟩ := In0.out
      exact ⟨⟨_, rfl, own_base h2 (by have := B0.out.size; omega)⟩, B1.out⟩

end Go.Proofs.YtgiaebeoldigbaaDoor

namespace Go.Proofs.YtgiaebeoldigbaaDoor
open Go.RowKit
open Pl
set_option linter.unusedSimpArgs false
set_option linter.unusedVariables false

theorem l2End_of (s : ByteArray) (k : Nat) (f : Fm) (r : List UInt8) (m : Int) (w : World) (hs : s.size ≤ 4000) (h : s.data.toList.drop k = f.text ++ r) (hm : m = k) :
    Calls Tryd.prog 79 #[.string s, .int .i64 m] w fun e w' => e = .returned (.int .i64 (k + f.text.length : Nat)) ∧ w = w' := by
  subst hm
  have hk : k < s.size := by
    have h1 := congrArg List.length h
    have h2 := f.text_pos
    rw [List.length_drop, ← Lib.size_eq] at h1
    simp at h1; omega
  have h1 := l2End_calls s.size s k w (by omega) (by unfold maxLen; omega) (by omega)
  rwa [endI_some h] at h1

theorem cnt_split (n x : Nat) (p : Nat → Bool) (h : x ≤ n) : cnt x p ≤ cnt n p ∧ cnt n p ≤ cnt x p + (n - x) := by
  induction n with
  | zero => obtain rfl : x = 0 := by omega
            exact ⟨Nat.le_refl _, by omega⟩
  | succ n ih =>
    by_cases hx : x = n + 1
    · subst hx; exact ⟨Nat.le_refl _, by omega⟩
    · have := ih (by omega)
      rw [cnt_succ]
      split <;> omega
/-- how many a quantifier asks -/
def Pl.Qn.need (k : Qn) (n : Nat) : Nat := match k with | .A => n | .S => 1 | .c2 => 2 | .c3 => 3 | .c4 => 4
theorem says_need (k : Qn) {n c : Nat} (h : c ≤ n) : k.says n c = decide (k.need n ≤ c) := by
  rw [Bool.eq_iff_iff, decide_eq_true_eq]
  cases k
  · show (c == n) = true ↔ n ≤ c
    rw [beq_iff_eq]; omega
  · show decide (0 < c) = true ↔ 1 ≤ c
    rw [decide_eq_true_eq]; omega
  · show decide (2 ≤ c) = true ↔ 2 ≤ c
    rw [decide_eq_true_eq]
  · show decide (3 ≤ c) = true ↔ 3 ≤ c
    rw [decide_eq_true_eq]
  · show decide (4 ≤ c) = true ↔ 4 ≤ c
    rw [decide_eq_true_eq]
theorem says_enough (k : Qn) {n x : Nat} {p : Nat → Bool} (hx : x ≤ n) (h : k.need n ≤ cnt x p) : k.says n (cnt n p) = true := by
  rw [says_need k (cnt_le n p), decide_eq_true_eq]
  have := cnt_split n x p hx
  omega
theorem says_never (k : Qn) {n x : Nat} {p : Nat → Bool} (hx : x ≤ n) (h : cnt x p + (n - x) < k.need n) : k.says n (cnt n p) = false := by
  rw [says_need k (cnt_le n p), decide_eq_false_iff_not]
  have := cnt_split n x p hx
  omega
/-- the elements of the four variables, as a value -/
def envA4 (e : Env) : Array Value := #[.int .i64 (e 0 : Nat), .int .i64 (e 1 : Nat), .int .i64 (e 2 : Nat), .int .i64 (e 3 : Nat)]
theorem envA_upd (e : Env) (v : Fin 4) (x : Nat) : (envA4 e).setIfInBounds v.val (.int .i64 (x : Nat)) = envA4 (upd e v x) := by
  have : v = 0 ∨ v = 1 ∨ v = 2 ∨ v = 3 := by revert v; decide
  rcases this with rfl | rfl | rfl | rfl <;> rfl
theorem env_at (e : Env) (v : Fin 4) : (envA4 e)[v.val]? = some (.int .i64 (e v : Nat)) := by
  have : v = 0 ∨ v = 1 ∨ v = 2 ∨ v = 3 := by revert v; decide
  rcases this with rfl | rfl | rfl | rfl <;> rfl
theorem upd_upd (e e' : Env) (v : Fin 4) (x : Nat) (h : ∀ u, u ≠ v → e' u = e u) : upd e' v x = upd e v x := by
  funext u
  unfold upd
  by_cases hu : u = v
  · simp [hu]
  · simp [hu, h u hu]

/-- what l2Holds gives back for a formula -/
def SHAt (a : St) (f : Fm) : Prop := ∀ (s : ByteArray) (k : Nat) (r : List UInt8) (m : Int) (e : Env) (w : World), s.data.toList.drop k = f.text ++ r → s.size ≤ 4000 → m = k → (∀ v, e v < a.n) →
    Calls Tryd.prog 82 #[stA a, .string s, .int .i64 m, .agg (envA4 e)] w fun ed w' => ed = .returned (.tuple #[.bool (f.holds a e), .int .i64 (k + f.text.length : Nat)]) ∧ Below w.heap.size w w'

set_option maxHeartbeats 4000000 in
set_option maxRecDepth 100000 in
theorem sh_tru (a : St) (ha : a.ok)  : SHAt a .tru := by
  intro s k r m e w hd hs hm he
  subst hm
  obtain ⟨hk1, hop, hle⟩ := at_op hd
  have h8 := ha.hi
  have XS := Lib.hid ((Bx.new w 24 #[.int .i64 (a.n : Int), .string (bs a.set), .string (bs a.rel)]).alloc (.cells #[.int .i64 (e 0 : Nat), .int .i64 (e 1 : Nat), .int .i64 (e 2 : Nat), .int .i64 (e 3 : Nat)] 71))
  have XE := Lib.hid (show Bx ((w.alloc (.cells #[.int .i64 (a.n : Int), .string (bs a.set), .string (bs a.rel)] 24)).alloc (.cells #[.int .i64 (e 0 : Nat), .int .i64 (e 1 : Nat), .int .i64 (e 2 : Nat), .int .i64 (e 3 : Nat)] 71)) (w.heap.size + 1) 71 #[.int .i64 (e 0 : Nat), .int .i64 (e 1 : Nat), .int .i64 (e 2 : Nat), .int .i64 (e 3 : Nat)] from bx_two w _ _)
  have BV := Lib.hid (show Below w.heap.size w ((w.alloc (.cells #[.int .i64 (a.n : Int), .string (bs a.set), .string (bs a.rel)] 24)).alloc (.cells #[.int .i64 (e 0 : Nat), .int .i64 (e 1 : Nat), .int .i64 (e 2 : Nat), .int .i64 (e 3 : Nat)] 71)) from ((Below.refl _ _).alloc (Nat.le_refl _) _).alloc (by simp) _)
  obtain ⟨s0, s1, s2⟩ := box_load XS.out
  have hev : ∀ v : Fin 4, ((w.alloc (.cells #[.int .i64 (a.n : Int), .string (bs a.set), .string (bs a.rel)] 24)).alloc (.cells #[.int .i64 (e 0 : Nat), .int .i64 (e 1 : Nat), .int .i64 (e 2 : Nat), .int .i64 (e 3 : Nat)] 71)).cell? ⟨w.heap.size + 1, v.val, none⟩ = some (.int .i64 (e v : Nat)) := fun v => (XE.out.cell v.val).trans (env_at e v)
  have c0 := XE.out.cell 0
  have c1 := XE.out.cell 1
  have c2 := XE.out.cell 2
  have c3 := XE.out.cell 3
  simp only [List.getElem?_toArray, List.getElem?_cons_zero, List.getElem?_cons_succ] at c0 c1 c2 c3
  have Hev := Lib.hid hev
  have He := Lib.hid he
  clear hev he
  unfold stA envA4
  have hk := hk1
  have hb : (s[k].toNat : Int) = 116 := by rw [hop]; rfl
  clear hop hd c0 c1 c2 c3 s0 s1 s2
  go_enter Tryd.func82, Tryd.ntmps82
  go_wp2_with fail
  go_ret2
  exact ⟨rfl, BV.out⟩

set_option maxHeartbeats 4000000 in
set_option maxRecDepth 100000 in
theorem sh_fls (a : St) (ha : a.ok)  : SHAt a .fls := by
  intro s k r m e w hd hs hm he
  subst hm
  obtain ⟨hk1, hop, hle⟩ := at_op hd
  have h8 := ha.hi
  have XS := Lib.hid ((Bx.new w 24 #[.int .i64 (a.n : Int), .string (bs a.set), .string (bs a.rel)]).alloc (.cells #[.int .i64 (e 0 : Nat), .int .i64 (e 1 : Nat), .int .i64 (e 2 : Nat), .int .i64 (e 3 : Nat)] 71))
  have XE := Lib.hid (show Bx ((w.alloc (.cells #[.int .i64 (a.n : Int), .string (bs a.set), .string (bs a.rel)] 24)).alloc (.cells #[.int .i64 (e 0 : Nat), .int .i64 (e 1 : Nat), .int .i64 (e 2 : Nat), .int .i64 (e 3 : Nat)] 71)) (w.heap.size + 1) 71 #[.int .i64 (e 0 : Nat), .int .i64 (e 1 : Nat), .int .i64 (e 2 : Nat), .int .i64 (e 3 : Nat)] from bx_two w _ _)
  have BV := Lib.hid (show Below w.heap.size w ((w.alloc (.cells #[.int .i64 (a.n : Int), .string (bs a.set), .string (bs a.rel)] 24)).alloc (.cells #[.int .i64 (e 0 : Nat), .int .i64 (e 1 : Nat), .int .i64 (e 2 : Nat), .int .i64 (e 3 : Nat)] 71)) from ((Below.refl _ _).alloc (Nat.le_refl _) _).alloc (by simp) _)
  obtain ⟨s0, s1, s2⟩ := box_load XS.out
  have hev : ∀ v : Fin 4, ((w.alloc (.cells #[.int .i64 (a.n : Int), .string (bs a.set), .string (bs a.rel)] 24)).alloc (.cells #[.int .i64 (e 0 : Nat), .int .i64 (e 1 : Nat), .int .i64 (e 2 : Nat), .int .i64 (e 3 : Nat)] 71)).cell? ⟨w.heap.size + 1, v.val, none⟩ = some (.int .i64 (e v : Nat)) := fun v => (XE.out.cell v.val).trans (env_at e v)
  have c0 := XE.out.cell 0
  have c1 := XE.out.cell 1
  have c2 := XE.out.cell 2
  have c3 := XE.out.cell 3
  simp only [List.getElem?_toArray, List.getElem?_cons_zero, List.getElem?_cons_succ] at c0 c1 c2 c3
  have Hev := Lib.hid hev
  have He := Lib.hid he
  clear hev he
  unfold stA envA4
  have hk := hk1
  have hb : (s[k].toNat : Int) = 102 := by rw [hop]; rfl
  clear hop hd c0 c1 c2 c3 s0 s1 s2
  go_enter Tryd.func82, Tryd.ntmps82
  go_wp2_with fail
  go_ret2
  exact ⟨rfl, BV.out⟩



end Go.Proofs.YtgiaebeoldigbaaDoor

namespace Go.Proofs.YtgiaebeoldigbaaDoor
open Go.RowKit
open Pl
set_option linter.unusedSimpArgs false
set_option linter.unusedVariables false

set_option maxHeartbeats 4000000 in
set_option maxRecDepth 100000 in
theorem sh_pr (a : St) (ha : a.ok) (v : Fin 4) : SHAt a (.pr v) := by
  intro s k r m e w hd hs hm he
  subst hm
  obtain ⟨hk1, hop, hle⟩ := at_op hd
  have h8 := ha.hi
  have XS := Lib.hid ((Bx.new w 24 #[.int .i64 (a.n : Int), .string (bs a.set), .string (bs a.rel)]).alloc (.cells #[.int .i64 (e 0 : Nat), .int .i64 (e 1 : Nat), .int .i64 (e 2 : Nat), .int .i64 (e 3 : Nat)] 71))
  have XE := Lib.hid (show Bx ((w.alloc (.cells #[.int .i64 (a.n : Int), .string (bs a.set), .string (bs a.rel)] 24)).alloc (.cells #[.int .i64 (e 0 : Nat), .int .i64 (e 1 : Nat), .int .i64 (e 2 : Nat), .int .i64 (e 3 : Nat)] 71)) (w.heap.size + 1) 71 #[.int .i64 (e 0 : Nat), .int .i64 (e 1 : Nat), .int .i64 (e 2 : Nat), .int .i64 (e 3 : Nat)] from bx_two w _ _)
  have BV := Lib.hid (show Below w.heap.size w ((w.alloc (.cells #[.int .i64 (a.n : Int), .string (bs a.set), .string (bs a.rel)] 24)).alloc (.cells #[.int .i64 (e 0 : Nat), .int .i64 (e 1 : Nat), .int .i64 (e 2 : Nat), .int .i64 (e 3 : Nat)] 71)) from ((Below.refl _ _).alloc (Nat.le_refl _) _).alloc (by simp) _)
  obtain ⟨s0, s1, s2⟩ := box_load XS.out
  have hev : ∀ v : Fin 4, ((w.alloc (.cells #[.int .i64 (a.n : Int), .string (bs a.set), .string (bs a.rel)] 24)).alloc (.cells #[.int .i64 (e 0 : Nat), .int .i64 (e 1 : Nat), .int .i64 (e 2 : Nat), .int .i64 (e 3 : Nat)] 71)).cell? ⟨w.heap.size + 1, v.val, none⟩ = some (.int .i64 (e v : Nat)) := fun v => (XE.out.cell v.val).trans (env_at e v)
  have c0 := XE.out.cell 0
  have c1 := XE.out.cell 1
  have c2 := XE.out.cell 2
  have c3 := XE.out.cell 3
  simp only [List.getElem?_toArray, List.getElem?_cons_zero, List.getElem?_cons_succ] at c0 c1 c2 c3
  have Hev := Lib.hid hev
  have He := Lib.hid he
  clear hev he
  unfold stA envA4
  have hk := hk1
  have hb : (s[k].toNat : Int) = 80 := by rw [hop]; rfl
  have hks : k < 4000 := by omega
  have h1 := fun W => l2Var_of s (k + 1) v r (IntKind.i64.wrap ((k : Int) + 1)) W hs (drop_add_of (p := [80]) (by simpa [Fm.text] using hd)) (by rw [IntWalk.i64_in _ (by omega)]; omega)
  have hw : IntKind.i64.wrap ((k : Int) + 2) = (k : Int) + 2 := IntWalk.i64_in _ (by omega)
  have HW := Lib.hid hw
  clear hw
  have H1 := Lib.hid h1
  have Hf := Lib.hid (fun W => l1Set_calls a ha (e v) (He.out v) W)
  have hv3 : (v.val : Int) < 4 := by omega
  simp only [Fm.text, List.length_cons, List.length_nil] at hle
  clear h1
  clear hop hd c0 c1 c2 c3
  go_enter Tryd.func82, Tryd.ntmps82
  go_upto_region 6 with (fail)
  refine region_sched [(0, true), (1, true), (2, true), (3, true), (8, true), (9, true), (4, false), (5, true), (6, true), (7, false), (10, true), (11, true)] (fun w' : World => w'.cell? ⟨w.heap.size, 0, none⟩ = some (.int .i64 (a.n : Int)) ∧ w'.cell? ⟨w.heap.size, 1, none⟩ = some (.string (bs a.set)) ∧ w'.cell? ⟨w.heap.size, 2, none⟩ = some (.string (bs a.rel)) ∧ w'.cell? ⟨w.heap.size + 1, v.val, none⟩ = some (.int .i64 (e v : Nat))) (by kernel_rfl) (by kernel_rfl) (by kernel_rfl) (by kernel_rfl) (fun _ _ _ _ h => h) ?_ (fun Q1 hQ1 => ?_)
  · exact ⟨s0, s1, s2, Hev.out v⟩
  try simp only [List.append]
  refine sched_take' (v := .agg #[.int .i64 (a.n : Int), .string (bs a.set), .string (bs a.rel)]) (a' := ?_) rfl (by kernel_rfl) ?_ rfl ?_ ?_
  rotate_left 1
  · intro w hSw
    (try dsimp only at hSw)
    go_simp
    first | done | (obtain ⟨u0, u1, u2, u3⟩ := hSw; simp [*])
  · (try simp only [Act.put, List.setIfInBounds_toArray, List.set_cons_zero, List.set_cons_succ])
    try rfl
  refine sched_take' (v := ?_) (a' := ?_) rfl (by kernel_rfl) ?_ rfl ?_ ?_
  rotate_left 2
  · intro w hSw
    (try dsimp only at hSw)
    go_simp
    try with_reducible rfl
  · (try simp only [Act.put, List.setIfInBounds_toArray, List.set_cons_zero, List.set_cons_succ])
    try rfl
  refine sched_take' (v := ?_) (a' := ?_) rfl (by kernel_rfl) ?_ rfl ?_ ?_
  rotate_left 2
  · intro w hSw
    (try dsimp only at hSw)
    go_simp
    try with_reducible rfl
  · (try simp only [Act.put, List.setIfInBounds_toArray, List.set_cons_zero, List.set_cons_succ])
    try rfl
  refine sched_take' (v := ?_) (a' := ?_) rfl (by kernel_rfl) ?_ rfl ?_ ?_
  rotate_left 2
  · intro w hSw
    (try dsimp only at hSw)
    go_simp
    try with_reducible rfl
  · (try simp only [Act.put, List.setIfInBounds_toArray, List.set_cons_zero, List.set_cons_succ])
    try rfl
  refine sched_take' (v := ?_) (a' := ?_) rfl (by kernel_rfl) ?_ rfl ?_ ?_
  rotate_left 2
  · intro w hSw
    (try dsimp only at hSw)
    go_simp
    try with_reducible rfl
  · (try simp only [Act.put, List.setIfInBounds_toArray, List.set_cons_zero, List.set_cons_succ])
    try rfl
  refine sched_take' (v := ?_) (a' := ?_) rfl (by kernel_rfl) ?_ rfl ?_ ?_
  rotate_left 2
  · intro w hSw
    (try dsimp only at hSw)
    go_simp
    try with_reducible rfl
  · (try simp only [Act.put, List.setIfInBounds_toArray, List.set_cons_zero, List.set_cons_succ])
    try rfl
  refine sched_call rfl (by kernel_rfl) (fun K1 hK1 => ?_)
  go_simp
  refine (H1.out _).mono ?_
  rintro ed w1 ⟨rfl, rfl⟩
  go_wp2_with fail
  refine hK1.out _ _ ?_ (sched_lay (a' := ?_) ?_ ?_)
  · exact ⟨s0, s1, s2, Hev.out v⟩
  rotate_left 1
  · (try simp only [Act.put, List.getElem_toArray, List.getElem_cons_succ, List.getElem_cons_zero, List.setIfInBounds_toArray, List.set_cons_zero, List.set_cons_succ])
    try rfl
  clear hK1 K1
  refine sched_take' (v := ?_) (a' := ?_) rfl (by kernel_rfl) ?_ rfl ?_ ?_
  rotate_left 2
  · intro w hSw
    (try dsimp only at hSw)
    go_simp
    try with_reducible rfl
  · (try simp only [Act.put, List.setIfInBounds_toArray, List.set_cons_zero, List.set_cons_succ])
    try rfl
  refine sched_take' (v := .int .i64 (e v : Nat)) (a' := ?_) rfl (by kernel_rfl) ?_ rfl ?_ ?_
  rotate_left 1
  · intro w hSw
    (try dsimp only at hSw)
    go_simp
    first | done | (obtain ⟨u0, u1, u2, u3⟩ := hSw; simp [*])
  · (try simp only [Act.put, List.setIfInBounds_toArray, List.set_cons_zero, List.set_cons_succ])
    try rfl
  refine sched_call rfl (by kernel_rfl) (fun K1 hK1 => ?_)
  go_simp
  refine (Hf.out _).mono ?_
  rintro ed w9 ⟨rfl, hz⟩
  have B9 := Lib.hid (BV.out.drew.trans (hz.mono (by simp [World.drew]; omega)))
  have XS9 := Lib.hid (XS.out.drew.call hz)
  have XE9 := Lib.hid (XE.out.drew.call hz)
  obtain ⟨t0, t1, t2⟩ := box_load XS9.out
  have tev : ∀ v : Fin 4, w9.cell? ⟨w.heap.size + 1, v.val, none⟩ = some (.int .i64 (e v : Nat)) := fun v => (XE9.out.cell v.val).trans (env_at e v)
  clear hz
  go_wp2_with fail
  refine hK1.out _ _ ?_ (sched_lay (a' := ?_) ?_ ?_)
  · exact ⟨t0, t1, t2, tev v⟩
  rotate_left 1
  · (try simp only [Act.put, List.getElem_toArray, List.getElem_cons_succ, List.getElem_cons_zero, List.setIfInBounds_toArray, List.set_cons_zero, List.set_cons_succ])
    try rfl
  clear hK1 K1
  refine sched_take' (v := ?_) (a' := ?_) rfl (by kernel_rfl) ?_ rfl ?_ ?_
  rotate_left 2
  · intro w hSw
    (try dsimp only at hSw)
    go_simp
    try with_reducible rfl
  · (try simp only [Act.put, List.setIfInBounds_toArray, List.set_cons_zero, List.set_cons_succ])
    try rfl
  refine sched_take' (v := ?_) (a' := ?_) rfl (by kernel_rfl) ?_ rfl ?_ ?_
  rotate_left 2
  · intro w hSw
    (try dsimp only at hSw)
    go_simp
    try with_reducible rfl
  · (try simp only [Act.put, List.setIfInBounds_toArray, List.set_cons_zero, List.set_cons_succ])
    try rfl
  refine sched_done (hQ1.out _ _ ?_)
  go_wp2_with fail
  go_ret2
  exact ⟨ret_pair (by show Value.bool _ = Value.bool _; rfl) (by show Value.int .i64 _ = Value.int .i64 _; rw [HW.out]; congr 1 <;> simp [Fm.text] <;> omega), B9.out⟩



end Go.Proofs.YtgiaebeoldigbaaDoor

namespace Go.Proofs.YtgiaebeoldigbaaDoor
open Go.RowKit
open Pl
set_option linter.unusedSimpArgs false
set_option linter.unusedVariables false

set_option maxHeartbeats 4000000 in
set_option maxRecDepth 100000 in
theorem sh_eq (a : St) (ha : a.ok) (v u : Fin 4) : SHAt a (.eq v u) := by
  intro s k r m e w hd hs hm he
  subst hm
  obtain ⟨hk1, hop, hle⟩ := at_op hd
  have h8 := ha.hi
  have XS := Lib.hid ((Bx.new w 24 #[.int .i64 (a.n : Int), .string (bs a.set), .string (bs a.rel)]).alloc (.cells #[.int .i64 (e 0 : Nat), .int .i64 (e 1 : Nat), .int .i64 (e 2 : Nat), .int .i64 (e 3 : Nat)] 71))
  have XE := Lib.hid (show Bx ((w.alloc (.cells #[.int .i64 (a.n : Int), .string (bs a.set), .string (bs a.rel)] 24)).alloc (.cells #[.int .i64 (e 0 : Nat), .int .i64 (e 1 : Nat), .int .i64 (e 2 : Nat), .int .i64 (e 3 : Nat)] 71)) (w.heap.size + 1) 71 #[.int .i64 (e 0 : Nat), .int .i64 (e 1 : Nat), .int .i64 (e 2 : Nat), .int .i64 (e 3 : Nat)] from bx_two w _ _)
  have BV := Lib.hid (show Below w.heap.size w ((w.alloc (.cells #[.int .i64 (a.n : Int), .string (bs a.set), .string (bs a.rel)] 24)).alloc (.cells #[.int .i64 (e 0 : Nat), .int .i64 (e 1 : Nat), .int .i64 (e 2 : Nat), .int .i64 (e 3 : Nat)] 71)) from ((Below.refl _ _).alloc (Nat.le_refl _) _).alloc (by simp) _)
  obtain ⟨s0, s1, s2⟩ := box_load XS.out
  have hev : ∀ v : Fin 4, ((w.alloc (.cells #[.int .i64 (a.n : Int), .string (bs a.set), .string (bs a.rel)] 24)).alloc (.cells #[.int .i64 (e 0 : Nat), .int .i64 (e 1 : Nat), .int .i64 (e 2 : Nat), .int .i64 (e 3 : Nat)] 71)).cell? ⟨w.heap.size + 1, v.val, none⟩ = some (.int .i64 (e v : Nat)) := fun v => (XE.out.cell v.val).trans (env_at e v)
  have c0 := XE.out.cell 0
  have c1 := XE.out.cell 1
  have c2 := XE.out.cell 2
  have c3 := XE.out.cell 3
  simp only [List.getElem?_toArray, List.getElem?_cons_zero, List.getElem?_cons_succ] at c0 c1 c2 c3
  have Hev := Lib.hid hev
  have He := Lib.hid he
  clear hev he
  unfold stA envA4
  have hk := hk1
  have hb : (s[k].toNat : Int) = 61 := by rw [hop]; rfl
  have hks : k < 4000 := by omega
  have hw : IntKind.i64.wrap ((k : Int) + 3) = (k : Int) + 3 := IntWalk.i64_in _ (by omega)
  have HW := Lib.hid hw
  clear hw
  have h1 := fun W => l2Var_of s (k + 1) v (vb u :: r) (IntKind.i64.wrap ((k : Int) + 1)) W hs (drop_add_of (p := [61]) (by simpa [Fm.text] using hd)) (by rw [IntWalk.i64_in _ (by omega)]; omega)
  have h2 := fun W => l2Var_of s (k + 2) u r (IntKind.i64.wrap ((k : Int) + 2)) W hs (drop_add_of (p := [61, vb v]) (by simpa [Fm.text] using hd)) (by rw [IntWalk.i64_in _ (by omega)]; omega)
  have H1 := Lib.hid h1
  have H2 := Lib.hid h2
  have hv3 : (v.val : Int) < 4 := by omega
  have hu3 : (u.val : Int) < 4 := by omega
  simp only [Fm.text, List.length_cons, List.length_nil] at hle
  clear h1 h2
  clear hop hd c0 c1 c2 c3
  go_enter Tryd.func82, Tryd.ntmps82
  go_upto_region 8 with (fail)
  refine region_sched [(0, true), (1, true), (2, true), (6, true), (7, true), (8, true), (13, true), (14, true), (3, false), (4, true), (5, true), (9, false), (10, true), (11, true), (12, true), (15, true), (16, true)] (fun w' : World => w'.cell? ⟨w.heap.size, 0, none⟩ = some (.int .i64 (a.n : Int)) ∧ w'.cell? ⟨w.heap.size, 1, none⟩ = some (.string (bs a.set)) ∧ w'.cell? ⟨w.heap.size, 2, none⟩ = some (.string (bs a.rel)) ∧ w'.cell? ⟨w.heap.size + 1, v.val, none⟩ = some (.int .i64 (e v : Nat)) ∧ w'.cell? ⟨w.heap.size + 1, u.val, none⟩ = some (.int .i64 (e u : Nat))) (by kernel_rfl) (by kernel_rfl) (by kernel_rfl) (by kernel_rfl) (fun _ _ _ _ h => h) ?_ (fun Q1 hQ1 => ?_)
  · exact ⟨s0, s1, s2, Hev.out v, Hev.out u⟩
  try simp only [List.append]
  refine sched_take' (v := ?_) (a' := ?_) rfl (by kernel_rfl) ?_ rfl ?_ ?_
  rotate_left 2
  · intro w hSw
    (try dsimp only at hSw)
    go_simp
    try with_reducible rfl
  · (try simp only [Act.put, List.setIfInBounds_toArray, List.set_cons_zero, List.set_cons_succ])
    try rfl
  refine sched_take' (v := ?_) (a' := ?_) rfl (by kernel_rfl) ?_ rfl ?_ ?_
  rotate_left 2
  · intro w hSw
    (try dsimp only at hSw)
    go_simp
    try with_reducible rfl
  · (try simp only [Act.put, List.setIfInBounds_toArray, List.set_cons_zero, List.set_cons_succ])
    try rfl
  refine sched_take' (v := ?_) (a' := ?_) rfl (by kernel_rfl) ?_ rfl ?_ ?_
  rotate_left 2
  · intro w hSw
    (try dsimp only at hSw)
    go_simp
    try with_reducible rfl
  · (try simp only [Act.put, List.setIfInBounds_toArray, List.set_cons_zero, List.set_cons_succ])
    try rfl
  refine sched_take' (v := ?_) (a' := ?_) rfl (by kernel_rfl) ?_ rfl ?_ ?_
  rotate_left 2
  · intro w hSw
    (try dsimp only at hSw)
    go_simp
    try with_reducible rfl
  · (try simp only [Act.put, List.setIfInBounds_toArray, List.set_cons_zero, List.set_cons_succ])
    try rfl
  refine sched_take' (v := ?_) (a' := ?_) rfl (by kernel_rfl) ?_ rfl ?_ ?_
  rotate_left 2
  · intro w hSw
    (try dsimp only at hSw)
    go_simp
    try with_reducible rfl
  · (try simp only [Act.put, List.setIfInBounds_toArray, List.set_cons_zero, List.set_cons_succ])
    try rfl
  refine sched_take' (v := ?_) (a' := ?_) rfl (by kernel_rfl) ?_ rfl ?_ ?_
  rotate_left 2
  · intro w hSw
    (try dsimp only at hSw)
    go_simp
    try with_reducible rfl
  · (try simp only [Act.put, List.setIfInBounds_toArray, List.set_cons_zero, List.set_cons_succ])
    try rfl
  refine sched_take' (v := ?_) (a' := ?_) rfl (by kernel_rfl) ?_ rfl ?_ ?_
  rotate_left 2
  · intro w hSw
    (try dsimp only at hSw)
    go_simp
    try with_reducible rfl
  · (try simp only [Act.put, List.setIfInBounds_toArray, List.set_cons_zero, List.set_cons_succ])
    try rfl
  refine sched_take' (v := ?_) (a' := ?_) rfl (by kernel_rfl) ?_ rfl ?_ ?_
  rotate_left 2
  · intro w hSw
    (try dsimp only at hSw)
    go_simp
    try with_reducible rfl
  · (try simp only [Act.put, List.setIfInBounds_toArray, List.set_cons_zero, List.set_cons_succ])
    try rfl
  refine sched_call rfl (by kernel_rfl) (fun K1 hK1 => ?_)
  go_simp
  refine (H1.out _).mono ?_
  rintro ed w1 ⟨rfl, rfl⟩
  go_wp2_with fail
  refine hK1.out _ _ ?_ (sched_lay (a' := ?_) ?_ ?_)
  · exact ⟨s0, s1, s2, Hev.out v, Hev.out u⟩
  rotate_left 1
  · (try simp only [Act.put, List.getElem_toArray, List.getElem_cons_succ, List.getElem_cons_zero, List.setIfInBounds_toArray, List.set_cons_zero, List.set_cons_succ])
    try rfl
  clear hK1 K1
  refine sched_take' (v := ?_) (a' := ?_) rfl (by kernel_rfl) ?_ rfl ?_ ?_
  rotate_left 2
  · intro w hSw
    (try dsimp only at hSw)
    go_simp
    try with_reducible rfl
  · (try simp only [Act.put, List.setIfInBounds_toArray, List.set_cons_zero, List.set_cons_succ])
    try rfl
  refine sched_take' (v := .int .i64 (e v : Nat)) (a' := ?_) rfl (by kernel_rfl) ?_ rfl ?_ ?_
  rotate_left 1
  · intro w hSw
    (try dsimp only at hSw)
    go_simp
    first | done | (obtain ⟨u0, u1, u2, u3, u4⟩ := hSw; simp [*])
  · (try simp only [Act.put, List.setIfInBounds_toArray, List.set_cons_zero, List.set_cons_succ])
    try rfl
  refine sched_call rfl (by kernel_rfl) (fun K1 hK1 => ?_)
  go_simp
  refine (H2.out _).mono ?_
  rintro ed w1 ⟨rfl, rfl⟩
  go_wp2_with fail
  refine hK1.out _ _ ?_ (sched_lay (a' := ?_) ?_ ?_)
  · exact ⟨s0, s1, s2, Hev.out v, Hev.out u⟩
  rotate_left 1
  · (try simp only [Act.put, List.getElem_toArray, List.getElem_cons_succ, List.getElem_cons_zero, List.setIfInBounds_toArray, List.set_cons_zero, List.set_cons_succ])
    try rfl
  clear hK1 K1
  refine sched_take' (v := ?_) (a' := ?_) rfl (by kernel_rfl) ?_ rfl ?_ ?_
  rotate_left 2
  · intro w hSw
    (try dsimp only at hSw)
    go_simp
    try with_reducible rfl
  · (try simp only [Act.put, List.setIfInBounds_toArray, List.set_cons_zero, List.set_cons_succ])
    try rfl
  refine sched_take' (v := .int .i64 (e u : Nat)) (a' := ?_) rfl (by kernel_rfl) ?_ rfl ?_ ?_
  rotate_left 1
  · intro w hSw
    (try dsimp only at hSw)
    go_simp
    first | done | (obtain ⟨u0, u1, u2, u3, u4⟩ := hSw; simp [*])
  · (try simp only [Act.put, List.setIfInBounds_toArray, List.set_cons_zero, List.set_cons_succ])
    try rfl
  refine sched_take' (v := ?_) (a' := ?_) rfl (by kernel_rfl) ?_ rfl ?_ ?_
  rotate_left 2
  · intro w hSw
    (try dsimp only at hSw)
    go_simp
    try with_reducible rfl
  · (try simp only [Act.put, List.setIfInBounds_toArray, List.set_cons_zero, List.set_cons_succ])
    try rfl
  refine sched_take' (v := ?_) (a' := ?_) rfl (by kernel_rfl) ?_ rfl ?_ ?_
  rotate_left 2
  · intro w hSw
    (try dsimp only at hSw)
    go_simp
    try with_reducible rfl
  · (try simp only [Act.put, List.setIfInBounds_toArray, List.set_cons_zero, List.set_cons_succ])
    try rfl
  refine sched_take' (v := ?_) (a' := ?_) rfl (by kernel_rfl) ?_ rfl ?_ ?_
  rotate_left 2
  · intro w hSw
    (try dsimp only at hSw)
    go_simp
    try with_reducible rfl
  · (try simp only [Act.put, List.setIfInBounds_toArray, List.set_cons_zero, List.set_cons_succ])
    try rfl
  refine sched_done (hQ1.out _ _ ?_)
  go_wp2_with fail
  go_ret2
  exact ⟨ret_pair (by show Value.bool _ = Value.bool _; (congr 1; rw [Bool.eq_iff_iff, beq_iff_eq]; show _ ↔ (e v == e u) = true; rw [beq_iff_eq]; omega)) (by show Value.int .i64 _ = Value.int .i64 _; rw [HW.out]; congr 1 <;> simp [Fm.text] <;> omega), BV.out.drew⟩



end Go.Proofs.YtgiaebeoldigbaaDoor

namespace Go.Proofs.YtgiaebeoldigbaaDoor
open Go.RowKit
open Pl
set_option linter.unusedSimpArgs false
set_option linter.unusedVariables false

set_option maxHeartbeats 4000000 in
set_option maxRecDepth 100000 in
theorem sh_rel (a : St) (ha : a.ok) (v u : Fin 4) : SHAt a (.rel v u) := by
  intro s k r m e w hd hs hm he
  subst hm
  obtain ⟨hk1, hop, hle⟩ := at_op hd
  have h8 := ha.hi
  have XS := Lib.hid ((Bx.new w 24 #[.int .i64 (a.n : Int), .string (bs a.set), .string (bs a.rel)]).alloc (.cells #[.int .i64 (e 0 : Nat), .int .i64 (e 1 : Nat), .int .i64 (e 2 : Nat), .int .i64 (e 3 : Nat)] 71))
  have XE := Lib.hid (show Bx ((w.alloc (.cells #[.int .i64 (a.n : Int), .string (bs a.set), .string (bs a.rel)] 24)).alloc (.cells #[.int .i64 (e 0 : Nat), .int .i64 (e 1 : Nat), .int .i64 (e 2 : Nat), .int .i64 (e 3 : Nat)] 71)) (w.heap.size + 1) 71 #[.int .i64 (e 0 : Nat), .int .i64 (e 1 : Nat), .int .i64 (e 2 : Nat), .int .i64 (e 3 : Nat)] from bx_two w _ _)
  have BV := Lib.hid (show Below w.heap.size w ((w.alloc (.cells #[.int .i64 (a.n : Int), .string (bs a.set), .string (bs a.rel)] 24)).alloc (.cells #[.int .i64 (e 0 : Nat), .int .i64 (e 1 : Nat), .int .i64 (e 2 : Nat), .int .i64 (e 3 : Nat)] 71)) from ((Below.refl _ _).alloc (Nat.le_refl _) _).alloc (by simp) _)
  obtain ⟨s0, s1, s2⟩ := box_load XS.out
  have hev : ∀ v : Fin 4, ((w.alloc (.cells #[.int .i64 (a.n : Int), .string (bs a.set), .string (bs a.rel)] 24)).alloc (.cells #[.int .i64 (e 0 : Nat), .int .i64 (e 1 : Nat), .int .i64 (e 2 : Nat), .int .i64 (e 3 : Nat)] 71)).cell? ⟨w.heap.size + 1, v.val, none⟩ = some (.int .i64 (e v : Nat)) := fun v => (XE.out.cell v.val).trans (env_at e v)
  have c0 := XE.out.cell 0
  have c1 := XE.out.cell 1
  have c2 := XE.out.cell 2
  have c3 := XE.out.cell 3
  simp only [List.getElem?_toArray, List.getElem?_cons_zero, List.getElem?_cons_succ] at c0 c1 c2 c3
  have Hev := Lib.hid hev
  have He := Lib.hid he
  clear hev he
  unfold stA envA4
  have hk := hk1
  have hb : (s[k].toNat : Int) = 69 := by rw [hop]; rfl
  have hks : k < 4000 := by omega
  have hw : IntKind.i64.wrap ((k : Int) + 3) = (k : Int) + 3 := IntWalk.i64_in _ (by omega)
  have HW := Lib.hid hw
  clear hw
  have h1 := fun W => l2Var_of s (k + 1) v (vb u :: r) (IntKind.i64.wrap ((k : Int) + 1)) W hs (drop_add_of (p := [69]) (by simpa [Fm.text] using hd)) (by rw [IntWalk.i64_in _ (by omega)]; omega)
  have h2 := fun W => l2Var_of s (k + 2) u r (IntKind.i64.wrap ((k : Int) + 2)) W hs (drop_add_of (p := [69, vb v]) (by simpa [Fm.text] using hd)) (by rw [IntWalk.i64_in _ (by omega)]; omega)
  have H1 := Lib.hid h1
  have H2 := Lib.hid h2
  have Hf := Lib.hid (fun W => l1Rel_calls a ha (e v) (e u) (He.out v) (He.out u) W)
  have hv3 : (v.val : Int) < 4 := by omega
  have hu3 : (u.val : Int) < 4 := by omega
  simp only [Fm.text, List.length_cons, List.length_nil] at hle
  clear h1 h2
  clear hop hd c0 c1 c2 c3
  go_enter Tryd.func82, Tryd.ntmps82
  go_upto_region 10 with (fail)
  refine region_sched [(0, true), (1, true), (2, true), (3, true), (7, true), (8, true), (9, true), (14, true), (15, true), (4, false), (5, true), (6, true), (10, false), (11, true), (12, true), (13, false), (16, true), (17, true)] (fun w' : World => w'.cell? ⟨w.heap.size, 0, none⟩ = some (.int .i64 (a.n : Int)) ∧ w'.cell? ⟨w.heap.size, 1, none⟩ = some (.string (bs a.set)) ∧ w'.cell? ⟨w.heap.size, 2, none⟩ = some (.string (bs a.rel)) ∧ w'.cell? ⟨w.heap.size + 1, v.val, none⟩ = some (.int .i64 (e v : Nat)) ∧ w'.cell? ⟨w.heap.size + 1, u.val, none⟩ = some (.int .i64 (e u : Nat))) (by kernel_rfl) (by kernel_rfl) (by kernel_rfl) (by kernel_rfl) (fun _ _ _ _ h => h) ?_ (fun Q1 hQ1 => ?_)
  · exact ⟨s0, s1, s2, Hev.out v, Hev.out u⟩
  try simp only [List.append]
  refine sched_take' (v := .agg #[.int .i64 (a.n : Int), .string (bs a.set), .string (bs a.rel)]) (a' := ?_) rfl (by kernel_rfl) ?_ rfl ?_ ?_
  rotate_left 1
  · intro w hSw
    (try dsimp only at hSw)
    go_simp
    first | done | (obtain ⟨u0, u1, u2, u3, u4⟩ := hSw; simp [*])
  · (try simp only [Act.put, List.setIfInBounds_toArray, List.set_cons_zero, List.set_cons_succ])
    try rfl
  refine sched_take' (v := ?_) (a' := ?_) rfl (by kernel_rfl) ?_ rfl ?_ ?_
  rotate_left 2
  · intro w hSw
    (try dsimp only at hSw)
    go_simp
    try with_reducible rfl
  · (try simp only [Act.put, List.setIfInBounds_toArray, List.set_cons_zero, List.set_cons_succ])
    try rfl
  refine sched_take' (v := ?_) (a' := ?_) rfl (by kernel_rfl) ?_ rfl ?_ ?_
  rotate_left 2
  · intro w hSw
    (try dsimp only at hSw)
    go_simp
    try with_reducible rfl
  · (try simp only [Act.put, List.setIfInBounds_toArray, List.set_cons_zero, List.set_cons_succ])
    try rfl
  refine sched_take' (v := ?_) (a' := ?_) rfl (by kernel_rfl) ?_ rfl ?_ ?_
  rotate_left 2
  · intro w hSw
    (try dsimp only at hSw)
    go_simp
    try with_reducible rfl
  · (try simp only [Act.put, List.setIfInBounds_toArray, List.set_cons_zero, List.set_cons_succ])
    try rfl
  refine sched_take' (v := ?_) (a' := ?_) rfl (by kernel_rfl) ?_ rfl ?_ ?_
  rotate_left 2
  · intro w hSw
    (try dsimp only at hSw)
    go_simp
    try with_reducible rfl
  · (try simp only [Act.put, List.setIfInBounds_toArray, List.set_cons_zero, List.set_cons_succ])
    try rfl
  refine sched_take' (v := ?_) (a' := ?_) rfl (by kernel_rfl) ?_ rfl ?_ ?_
  rotate_left 2
  · intro w hSw
    (try dsimp only at hSw)
    go_simp
    try with_reducible rfl
  · (try simp only [Act.put, List.setIfInBounds_toArray, List.set_cons_zero, List.set_cons_succ])
    try rfl
  refine sched_take' (v := ?_) (a' := ?_) rfl (by kernel_rfl) ?_ rfl ?_ ?_
  rotate_left 2
  · intro w hSw
    (try dsimp only at hSw)
    go_simp
    try with_reducible rfl
  · (try simp only [Act.put, List.setIfInBounds_toArray, List.set_cons_zero, List.set_cons_succ])
    try rfl
  refine sched_take' (v := ?_) (a' := ?_) rfl (by kernel_rfl) ?_ rfl ?_ ?_
  rotate_left 2
  · intro w hSw
    (try dsimp only at hSw)
    go_simp
    try with_reducible rfl
  · (try simp only [Act.put, List.setIfInBounds_toArray, List.set_cons_zero, List.set_cons_succ])
    try rfl
  refine sched_take' (v := ?_) (a' := ?_) rfl (by kernel_rfl) ?_ rfl ?_ ?_
  rotate_left 2
  · intro w hSw
    (try dsimp only at hSw)
    go_simp
    try with_reducible rfl
  · (try simp only [Act.put, List.setIfInBounds_toArray, List.set_cons_zero, List.set_cons_succ])
    try rfl
  refine sched_call rfl (by kernel_rfl) (fun K1 hK1 => ?_)
  go_simp
  refine (H1.out _).mono ?_
  rintro ed w1 ⟨rfl, rfl⟩
  go_wp2_with fail
  refine hK1.out _ _ ?_ (sched_lay (a' := ?_) ?_ ?_)
  · exact ⟨s0, s1, s2, Hev.out v, Hev.out u⟩
  rotate_left 1
  · (try simp only [Act.put, List.getElem_toArray, List.getElem_cons_succ, List.getElem_cons_zero, List.setIfInBounds_toArray, List.set_cons_zero, List.set_cons_succ])
    try rfl
  clear hK1 K1
  refine sched_take' (v := ?_) (a' := ?_) rfl (by kernel_rfl) ?_ rfl ?_ ?_
  rotate_left 2
  · intro w hSw
    (try dsimp only at hSw)
    go_simp
    try with_reducible rfl
  · (try simp only [Act.put, List.setIfInBounds_toArray, List.set_cons_zero, List.set_cons_succ])
    try rfl
  refine sched_take' (v := .int .i64 (e v : Nat)) (a' := ?_) rfl (by kernel_rfl) ?_ rfl ?_ ?_
  rotate_left 1
  · intro w hSw
    (try dsimp only at hSw)
    go_simp
    first | done | (obtain ⟨u0, u1, u2, u3, u4⟩ := hSw; simp [*])
  · (try simp only [Act.put, List.setIfInBounds_toArray, List.set_cons_zero, List.set_cons_succ])
    try rfl
  refine sched_call rfl (by kernel_rfl) (fun K1 hK1 => ?_)
  go_simp
  refine (H2.out _).mono ?_
  rintro ed w1 ⟨rfl, rfl⟩
  go_wp2_with fail
  refine hK1.out _ _ ?_ (sched_lay (a' := ?_) ?_ ?_)
  · exact ⟨s0, s1, s2, Hev.out v, Hev.out u⟩
  rotate_left 1
  · (try simp only [Act.put, List.getElem_toArray, List.getElem_cons_succ, List.getElem_cons_zero, List.setIfInBounds_toArray, List.set_cons_zero, List.set_cons_succ])
    try rfl
  clear hK1 K1
  refine sched_take' (v := ?_) (a' := ?_) rfl (by kernel_rfl) ?_ rfl ?_ ?_
  rotate_left 2
  · intro w hSw
    (try dsimp only at hSw)
    go_simp
    try with_reducible rfl
  · (try simp only [Act.put, List.setIfInBounds_toArray, List.set_cons_zero, List.set_cons_succ])
    try rfl
  refine sched_take' (v := .int .i64 (e u : Nat)) (a' := ?_) rfl (by kernel_rfl) ?_ rfl ?_ ?_
  rotate_left 1
  · intro w hSw
    (try dsimp only at hSw)
    go_simp
    first | done | (obtain ⟨u0, u1, u2, u3, u4⟩ := hSw; simp [*])
  · (try simp only [Act.put, List.setIfInBounds_toArray, List.set_cons_zero, List.set_cons_succ])
    try rfl
  refine sched_call rfl (by kernel_rfl) (fun K1 hK1 => ?_)
  go_simp
  refine (Hf.out _).mono ?_
  rintro ed w9 ⟨rfl, hz⟩
  have B9 := Lib.hid (BV.out.drew.trans (hz.mono (by simp [World.drew]; omega)))
  have XS9 := Lib.hid (XS.out.drew.call hz)
  have XE9 := Lib.hid (XE.out.drew.call hz)
  obtain ⟨t0, t1, t2⟩ := box_load XS9.out
  have tev : ∀ v : Fin 4, w9.cell? ⟨w.heap.size + 1, v.val, none⟩ = some (.int .i64 (e v : Nat)) := fun v => (XE9.out.cell v.val).trans (env_at e v)
  clear hz
  go_wp2_with fail
  refine hK1.out _ _ ?_ (sched_lay (a' := ?_) ?_ ?_)
  · exact ⟨t0, t1, t2, tev v, tev u⟩
  rotate_left 1
  · (try simp only [Act.put, List.getElem_toArray, List.getElem_cons_succ, List.getElem_cons_zero, List.setIfInBounds_toArray, List.set_cons_zero, List.set_cons_succ])
    try rfl
  clear hK1 K1
  refine sched_take' (v := ?_) (a' := ?_) rfl (by kernel_rfl) ?_ rfl ?_ ?_
  rotate_left 2
  · intro w hSw
    (try dsimp only at hSw)
    go_simp
    try with_reducible rfl
  · (try simp only [Act.put, List.setIfInBounds_toArray, List.set_cons_zero, List.set_cons_succ])
    try rfl
  refine sched_take' (v := ?_) (a' := ?_) rfl (by kernel_rfl) ?_ rfl ?_ ?_
  rotate_left 2
  · intro w hSw
    (try dsimp only at hSw)
    go_simp
    try with_reducible rfl
  · (try simp only [Act.put, List.setIfInBounds_toArray, List.set_cons_zero, List.set_cons_succ])
    try rfl
  refine sched_done (hQ1.out _ _ ?_)
  go_wp2_with fail
  go_ret2
  exact ⟨ret_pair (by show Value.bool _ = Value.bool _; rfl) (by show Value.int .i64 _ = Value.int .i64 _; rw [HW.out]; congr 1 <;> simp [Fm.text] <;> omega), B9.out⟩



end Go.Proofs.YtgiaebeoldigbaaDoor

namespace Go.Proofs.YtgiaebeoldigbaaDoor
open Go.RowKit
open Pl
set_option linter.unusedSimpArgs false
set_option linter.unusedVariables false

set_option maxHeartbeats 4000000 in
set_option maxRecDepth 100000 in
theorem sh_neg (a : St) (ha : a.ok) (p : Fm) (Ih : SHAt a p) : SHAt a (.neg p) := by
  intro s k r m e w hd hs hm he
  subst hm
  obtain ⟨hk1, hop, hle⟩ := at_op hd
  have h8 := ha.hi
  have XS := Lib.hid ((Bx.new w 24 #[.int .i64 (a.n : Int), .string (bs a.set), .string (bs a.rel)]).alloc (.cells #[.int .i64 (e 0 : Nat), .int .i64 (e 1 : Nat), .int .i64 (e 2 : Nat), .int .i64 (e 3 : Nat)] 71))
  have XE := Lib.hid (show Bx ((w.alloc (.cells #[.int .i64 (a.n : Int), .string (bs a.set), .string (bs a.rel)] 24)).alloc (.cells #[.int .i64 (e 0 : Nat), .int .i64 (e 1 : Nat), .int .i64 (e 2 : Nat), .int .i64 (e 3 : Nat)] 71)) (w.heap.size + 1) 71 #[.int .i64 (e 0 : Nat), .int .i64 (e 1 : Nat), .int .i64 (e 2 : Nat), .int .i64 (e 3 : Nat)] from bx_two w _ _)
  have BV := Lib.hid (show Below w.heap.size w ((w.alloc (.cells #[.int .i64 (a.n : Int), .string (bs a.set), .string (bs a.rel)] 24)).alloc (.cells #[.int .i64 (e 0 : Nat), .int .i64 (e 1 : Nat), .int .i64 (e 2 : Nat), .int .i64 (e 3 : Nat)] 71)) from ((Below.refl _ _).alloc (Nat.le_refl _) _).alloc (by simp) _)
  obtain ⟨s0, s1, s2⟩ := box_load XS.out
  have hev : ∀ v : Fin 4, ((w.alloc (.cells #[.int .i64 (a.n : Int), .string (bs a.set), .string (bs a.rel)] 24)).alloc (.cells #[.int .i64 (e 0 : Nat), .int .i64 (e 1 : Nat), .int .i64 (e 2 : Nat), .int .i64 (e 3 : Nat)] 71)).cell? ⟨w.heap.size + 1, v.val, none⟩ = some (.int .i64 (e v : Nat)) := fun v => (XE.out.cell v.val).trans (env_at e v)
  have c0 := XE.out.cell 0
  have c1 := XE.out.cell 1
  have c2 := XE.out.cell 2
  have c3 := XE.out.cell 3
  simp only [List.getElem?_toArray, List.getElem?_cons_zero, List.getElem?_cons_succ] at c0 c1 c2 c3
  have Hev := Lib.hid hev
  have He := Lib.hid he
  clear hev he
  unfold stA envA4
  have hk := hk1
  have hb : (s[k].toNat : Int) = 33 := by rw [hop]; rfl
  simp only [Fm.text, List.length_cons] at hle
  have hcall := fun W => Ih s (k + 1) r ((k : Int) + 1) e W (at_one hd) hs (by omega) He.out
  unfold stA envA4 at hcall
  have Hcall := Lib.hid hcall
  clear hop hcall hd Ih
  go_enter Tryd.func82, Tryd.ntmps82
  go_wp2_with (go_at_call 82; refine (Hcall.out _).mono ?_; rintro ed w1 ⟨rfl, hz⟩; have B1 := Lib.hid (BV.out.trans (hz.mono BV.out.size)); have XSw1 := Lib.hid (XS.out.call hz); have XEw1 := Lib.hid (XE.out.call hz); clear hz s0 s1 s2 c0 c1 c2 c3; obtain ⟨t0, t1, t2⟩ := box_load XSw1.out; have d0 := XEw1.out.cell 0; have d1 := XEw1.out.cell 1; have d2 := XEw1.out.cell 2; have d3 := XEw1.out.cell 3; simp only [List.getElem?_toArray, List.getElem?_cons_zero, List.getElem?_cons_succ] at d0 d1 d2 d3)
  go_ret2
  exact ⟨ret_pair (by show Value.bool _ = Value.bool _; rfl) (by show Value.int .i64 _ = Value.int .i64 _; congr 1 <;> simp [Fm.text] <;> omega), B1.out⟩

set_option maxHeartbeats 4000000 in
set_option maxRecDepth 100000 in
theorem sh_con (a : St) (ha : a.ok) (p q : Fm) (Ih : SHAt a p) (Ih2 : SHAt a q) : SHAt a (.con p q) := by
  intro s k r m e w hd hs hm he
  subst hm
  obtain ⟨hk1, hop, hle⟩ := at_op hd
  have h8 := ha.hi
  have XS := Lib.hid ((Bx.new w 24 #[.int .i64 (a.n : Int), .string (bs a.set), .string (bs a.rel)]).alloc (.cells #[.int .i64 (e 0 : Nat), .int .i64 (e 1 : Nat), .int .i64 (e 2 : Nat), .int .i64 (e 3 : Nat)] 71))
  have XE := Lib.hid (show Bx ((w.alloc (.cells #[.int .i64 (a.n : Int), .string (bs a.set), .string (bs a.rel)] 24)).alloc (.cells #[.int .i64 (e 0 : Nat), .int .i64 (e 1 : Nat), .int .i64 (e 2 : Nat), .int .i64 (e 3 : Nat)] 71)) (w.heap.size + 1) 71 #[.int .i64 (e 0 : Nat), .int .i64 (e 1 : Nat), .int .i64 (e 2 : Nat), .int .i64 (e 3 : Nat)] from bx_two w _ _)
  have BV := Lib.hid (show Below w.heap.size w ((w.alloc (.cells #[.int .i64 (a.n : Int), .string (bs a.set), .string (bs a.rel)] 24)).alloc (.cells #[.int .i64 (e 0 : Nat), .int .i64 (e 1 : Nat), .int .i64 (e 2 : Nat), .int .i64 (e 3 : Nat)] 71)) from ((Below.refl _ _).alloc (Nat.le_refl _) _).alloc (by simp) _)
  obtain ⟨s0, s1, s2⟩ := box_load XS.out
  have hev : ∀ v : Fin 4, ((w.alloc (.cells #[.int .i64 (a.n : Int), .string (bs a.set), .string (bs a.rel)] 24)).alloc (.cells #[.int .i64 (e 0 : Nat), .int .i64 (e 1 : Nat), .int .i64 (e 2 : Nat), .int .i64 (e 3 : Nat)] 71)).cell? ⟨w.heap.size + 1, v.val, none⟩ = some (.int .i64 (e v : Nat)) := fun v => (XE.out.cell v.val).trans (env_at e v)
  have c0 := XE.out.cell 0
  have c1 := XE.out.cell 1
  have c2 := XE.out.cell 2
  have c3 := XE.out.cell 3
  simp only [List.getElem?_toArray, List.getElem?_cons_zero, List.getElem?_cons_succ] at c0 c1 c2 c3
  have Hev := Lib.hid hev
  have He := Lib.hid he
  clear hev he
  unfold stA envA4
  have hk := hk1
  have hb : (s[k].toNat : Int) = 38 := by rw [hop]; rfl
  simp only [Fm.text, List.length_cons, List.length_append] at hle
  obtain ⟨hd1, hd2⟩ := at_two hd
  have hcall := fun W => Ih s (k + 1) _ ((k : Int) + 1) e W hd1 hs (by omega) He.out
  have hcall2 := fun W => Ih2 s (k + 1 + p.text.length) _ ((k + 1 + p.text.length : Nat) : Int) e W hd2 hs rfl He.out
  have hend := fun W => l2End_of s (k + 1 + p.text.length) q _ ((k + 1 + p.text.length : Nat) : Int) W hs hd2 rfl
  unfold stA envA4 at hcall hcall2
  clear hop hd hd1 hd2 Ih Ih2
  have Hcall2 := Lib.hid hcall2
  have Hend := Lib.hid hend
  clear hcall2 hend
  cases hp : p.holds a e with
  | false =>
    simp only [hp] at hcall
    have Hcall := Lib.hid hcall
    have Hp := Lib.hid hp
    clear hcall hp
    go_enter Tryd.func82, Tryd.ntmps82
    go_wp2_with (first | (go_at_call 79; refine (Hend.out _).mono ?_; rintro ed w2 ⟨rfl, rfl⟩) | (go_at_call 82; refine (Hcall.out _).mono ?_; rintro ed w1 ⟨rfl, hz⟩; have B1 := Lib.hid (BV.out.trans (hz.mono BV.out.size)); have XSw1 := Lib.hid (XS.out.call hz); have XEw1 := Lib.hid (XE.out.call hz); clear hz s0 s1 s2 c0 c1 c2 c3; obtain ⟨t0, t1, t2⟩ := box_load XSw1.out; have d0 := XEw1.out.cell 0; have d1 := XEw1.out.cell 1; have d2 := XEw1.out.cell 2; have d3 := XEw1.out.cell 3; simp only [List.getElem?_toArray, List.getElem?_cons_zero, List.getElem?_cons_succ] at d0 d1 d2 d3))
    go_ret2
    exact ⟨ret_pair (by show Value.bool _ = Value.bool _; (show Value.bool _ = Value.bool (p.holds a e && q.holds a e); rw [Hp.out]; rfl)) (by show Value.int .i64 _ = Value.int .i64 _; congr 1 <;> simp [Fm.text] <;> omega), B1.out⟩
  | true =>
    simp only [hp] at hcall
    have Hcall := Lib.hid hcall
    have Hp := Lib.hid hp
    clear hcall hp
    go_enter Tryd.func82, Tryd.ntmps82
    go_upto_region 19 with (go_at_call 82; refine (Hcall.out _).mono ?_; rintro ed w1 ⟨rfl, hz⟩; have B1 := Lib.hid (BV.out.trans (hz.mono BV.out.size)); have XSw1 := Lib.hid (XS.out.call hz); have XEw1 := Lib.hid (XE.out.call hz); clear hz s0 s1 s2 c0 c1 c2 c3; obtain ⟨t0, t1, t2⟩ := box_load XSw1.out; have d0 := XEw1.out.cell 0; have d1 := XEw1.out.cell 1; have d2 := XEw1.out.cell 2; have d3 := XEw1.out.cell 3; simp only [List.getElem?_toArray, List.getElem?_cons_zero, List.getElem?_cons_succ] at d0 d1 d2 d3)
    go_wp2_with (go_at_call 82; refine (Hcall2.out _).mono ?_; rintro ed w2 ⟨rfl, hz⟩; have B2 := Lib.hid (B1.out.trans (hz.mono B1.out.size)); clear hz)
    go_ret2
    exact ⟨ret_pair (by show Value.bool _ = Value.bool _; (show Value.bool _ = Value.bool (p.holds a e && q.holds a e); rw [Hp.out]; simp)) (by show Value.int .i64 _ = Value.int .i64 _; congr 1 <;> simp [Fm.text] <;> omega), B2.out⟩

set_option maxHeartbeats 4000000 in
set_option maxRecDepth 100000 in
theorem sh_dis (a : St) (ha : a.ok) (p q : Fm) (Ih : SHAt a p) (Ih2 : SHAt a q) : SHAt a (.dis p q) := by
  intro s k r m e w hd hs hm he
  subst hm
  obtain ⟨hk1, hop, hle⟩ := at_op hd
  have h8 := ha.hi
  have XS := Lib.hid ((Bx.new w 24 #[.int .i64 (a.n : Int), .string (bs a.set), .string (bs a.rel)]).alloc (.cells #[.int .i64 (e 0 : Nat), .int .i64 (e 1 : Nat), .int .i64 (e 2 : Nat), .int .i64 (e 3 : Nat)] 71))
  have XE := Lib.hid (show Bx ((w.alloc (.cells #[.int .i64 (a.n : Int), .string (bs a.set), .string (bs a.rel)] 24)).alloc (.cells #[.int .i64 (e 0 : Nat), .int .i64 (e 1 : Nat), .int .i64 (e 2 : Nat), .int .i64 (e 3 : Nat)] 71)) (w.heap.size + 1) 71 #[.int .i64 (e 0 : Nat), .int .i64 (e 1 : Nat), .int .i64 (e 2 : Nat), .int .i64 (e 3 : Nat)] from bx_two w _ _)
  have BV := Lib.hid (show Below w.heap.size w ((w.alloc (.cells #[.int .i64 (a.n : Int), .string (bs a.set), .string (bs a.rel)] 24)).alloc (.cells #[.int .i64 (e 0 : Nat), .int .i64 (e 1 : Nat), .int .i64 (e 2 : Nat), .int .i64 (e 3 : Nat)] 71)) from ((Below.refl _ _).alloc (Nat.le_refl _) _).alloc (by simp) _)
  obtain ⟨s0, s1, s2⟩ := box_load XS.out
  have hev : ∀ v : Fin 4, ((w.alloc (.cells #[.int .i64 (a.n : Int), .string (bs a.set), .string (bs a.rel)] 24)).alloc (.cells #[.int .i64 (e 0 : Nat), .int .i64 (e 1 : Nat), .int .i64 (e 2 : Nat), .int .i64 (e 3 : Nat)] 71)).cell? ⟨w.heap.size + 1, v.val, none⟩ = some (.int .i64 (e v : Nat)) := fun v => (XE.out.cell v.val).trans (env_at e v)
  have c0 := XE.out.cell 0
  have c1 := XE.out.cell 1
  have c2 := XE.out.cell 2
  have c3 := XE.out.cell 3
  simp only [List.getElem?_toArray, List.getElem?_cons_zero, List.getElem?_cons_succ] at c0 c1 c2 c3
  have Hev := Lib.hid hev
  have He := Lib.hid he
  clear hev he
  unfold stA envA4
  have hk := hk1
  have hb : (s[k].toNat : Int) = 124 := by rw [hop]; rfl
  simp only [Fm.text, List.length_cons, List.length_append] at hle
  obtain ⟨hd1, hd2⟩ := at_two hd
  have hcall := fun W => Ih s (k + 1) _ ((k : Int) + 1) e W hd1 hs (by omega) He.out
  have hcall2 := fun W => Ih2 s (k + 1 + p.text.length) _ ((k + 1 + p.text.length : Nat) : Int) e W hd2 hs rfl He.out
  have hend := fun W => l2End_of s (k + 1 + p.text.length) q _ ((k + 1 + p.text.length : Nat) : Int) W hs hd2 rfl
  unfold stA envA4 at hcall hcall2
  clear hop hd hd1 hd2 Ih Ih2
  have Hcall2 := Lib.hid hcall2
  have Hend := Lib.hid hend
  clear hcall2 hend
  cases hp : p.holds a e with
  | false =>
    simp only [hp] at hcall
    have Hcall := Lib.hid hcall
    have Hp := Lib.hid hp
    clear hcall hp
    go_enter Tryd.func82, Tryd.ntmps82
    go_upto_region 19 with (go_at_call 82; refine (Hcall.out _).mono ?_; rintro ed w1 ⟨rfl, hz⟩; have B1 := Lib.hid (BV.out.trans (hz.mono BV.out.size)); have XSw1 := Lib.hid (XS.out.call hz); have XEw1 := Lib.hid (XE.out.call hz); clear hz s0 s1 s2 c0 c1 c2 c3; obtain ⟨t0, t1, t2⟩ := box_load XSw1.out; have d0 := XEw1.out.cell 0; have d1 := XEw1.out.cell 1; have d2 := XEw1.out.cell 2; have d3 := XEw1.out.cell 3; simp only [List.getElem?_toArray, List.getElem?_cons_zero, List.getElem?_cons_succ] at d0 d1 d2 d3)
    go_wp2_with (go_at_call 82; refine (Hcall2.out _).mono ?_; rintro ed w2 ⟨rfl, hz⟩; have B2 := Lib.hid (B1.out.trans (hz.mono B1.out.size)); clear hz)
    go_ret2
    exact ⟨ret_pair (by show Value.bool _ = Value.bool _; (show Value.bool _ = Value.bool (p.holds a e || q.holds a e); rw [Hp.out]; simp)) (by show Value.int .i64 _ = Value.int .i64 _; congr 1 <;> simp [Fm.text] <;> omega), B2.out⟩
  | true =>
    simp only [hp] at hcall
    have Hcall := Lib.hid hcall
    have Hp := Lib.hid hp
    clear hcall hp
    go_enter Tryd.func82, Tryd.ntmps82
    go_wp2_with (first | (go_at_call 79; refine (Hend.out _).mono ?_; rintro ed w2 ⟨rfl, rfl⟩) | (go_at_call 82; refine (Hcall.out _).mono ?_; rintro ed w1 ⟨rfl, hz⟩; have B1 := Lib.hid (BV.out.trans (hz.mono BV.out.size)); have XSw1 := Lib.hid (XS.out.call hz); have XEw1 := Lib.hid (XE.out.call hz); clear hz s0 s1 s2 c0 c1 c2 c3; obtain ⟨t0, t1, t2⟩ := box_load XSw1.out; have d0 := XEw1.out.cell 0; have d1 := XEw1.out.cell 1; have d2 := XEw1.out.cell 2; have d3 := XEw1.out.cell 3; simp only [List.getElem?_toArray, List.getElem?_cons_zero, List.getElem?_cons_succ] at d0 d1 d2 d3))
    go_ret2
    exact ⟨ret_pair (by show Value.bool _ = Value.bool _; (show Value.bool _ = Value.bool (p.holds a e || q.holds a e); rw [Hp.out]; rfl)) (by show Value.int .i64 _ = Value.int .i64 _; congr 1 <;> simp [Fm.text] <;> omega), B1.out⟩



end Go.Proofs.YtgiaebeoldigbaaDoor

namespace Go.Proofs.YtgiaebeoldigbaaDoor
open Go.RowKit
open Pl
set_option linter.unusedSimpArgs false
set_option linter.unusedVariables false

set_option maxHeartbeats 4000000 in
set_option maxRecDepth 100000 in
theorem sh_A (a : St) (ha : a.ok) (v : Fin 4) (p : Fm) (Ih : SHAt a p) : SHAt a (.qu .A v p) := by
  intro s k r m e w hd hs hm he
  subst hm
  obtain ⟨hk1, hop, hle⟩ := at_op hd
  have h8 := ha.hi
  have XS := Lib.hid ((Bx.new w 24 #[.int .i64 (a.n : Int), .string (bs a.set), .string (bs a.rel)]).alloc (.cells #[.int .i64 (e 0 : Nat), .int .i64 (e 1 : Nat), .int .i64 (e 2 : Nat), .int .i64 (e 3 : Nat)] 71))
  have XE := Lib.hid (show Bx ((w.alloc (.cells #[.int .i64 (a.n : Int), .string (bs a.set), .string (bs a.rel)] 24)).alloc (.cells #[.int .i64 (e 0 : Nat), .int .i64 (e 1 : Nat), .int .i64 (e 2 : Nat), .int .i64 (e 3 : Nat)] 71)) (w.heap.size + 1) 71 #[.int .i64 (e 0 : Nat), .int .i64 (e 1 : Nat), .int .i64 (e 2 : Nat), .int .i64 (e 3 : Nat)] from bx_two w _ _)
  have BV := Lib.hid (show Below w.heap.size w ((w.alloc (.cells #[.int .i64 (a.n : Int), .string (bs a.set), .string (bs a.rel)] 24)).alloc (.cells #[.int .i64 (e 0 : Nat), .int .i64 (e 1 : Nat), .int .i64 (e 2 : Nat), .int .i64 (e 3 : Nat)] 71)) from ((Below.refl _ _).alloc (Nat.le_refl _) _).alloc (by simp) _)
  obtain ⟨s0, s1, s2⟩ := box_load XS.out
  have hev : ∀ v : Fin 4, ((w.alloc (.cells #[.int .i64 (a.n : Int), .string (bs a.set), .string (bs a.rel)] 24)).alloc (.cells #[.int .i64 (e 0 : Nat), .int .i64 (e 1 : Nat), .int .i64 (e 2 : Nat), .int .i64 (e 3 : Nat)] 71)).cell? ⟨w.heap.size + 1, v.val, none⟩ = some (.int .i64 (e v : Nat)) := fun v => (XE.out.cell v.val).trans (env_at e v)
  have c0 := XE.out.cell 0
  have c1 := XE.out.cell 1
  have c2 := XE.out.cell 2
  have c3 := XE.out.cell 3
  simp only [List.getElem?_toArray, List.getElem?_cons_zero, List.getElem?_cons_succ] at c0 c1 c2 c3
  have Hev := Lib.hid hev
  have He := Lib.hid he
  clear hev he
  unfold stA envA4
  have hk := hk1
  have hb : (s[k].toNat : Int) = 65 := by rw [hop]; rfl
  have hd1 := at_qu hd
  have hdv : s.data.toList.drop (k + 1) = vb v :: (p.text ++ r) := drop_add_of (p := [Qn.b .A]) (by simpa [Fm.text] using hd)
  have h1 := fun W => l2Var_of s (k + 1) v _ ((k : Int) + 1) W hs hdv (by omega)
  have hend := fun W => l2End_of s (k + 2) p _ ((k : Int) + 2) W hs hd1 (by omega)
  simp only [Fm.text, List.length_cons] at hle
  have hv3 : (v.val : Int) < 4 := by omega
  have H1 := Lib.hid h1
  have Hend := Lib.hid hend
  have Hd1 := Lib.hid hd1
  clear hd hd1 hdv h1 hend
  clear hop
  go_enter Tryd.func82, Tryd.ntmps82
  go_wp2_with fail
  go_loopg [15, 16] (a.n + 1) (fun c cn xi wr => ∃ x : Nat, x + c = a.n + 1 ∧ x ≤ a.n ∧ xi = .int .i64 (x : Nat) ∧ cn = .int .i64 (cnt x (fun y => p.holds a (upd e v y)) : Nat) ∧ Bx wr w.heap.size 24 #[.int .i64 (a.n : Int), .string (bs a.set), .string (bs a.rel)] ∧ (∃ e' : Env, (∀ u, u ≠ v → e' u = e u) ∧ Bx wr (w.heap.size + 1) 71 #[.int .i64 (e' 0 : Nat), .int .i64 (e' 1 : Nat), .int .i64 (e' 2 : Nat), .int .i64 (e' 3 : Nat)]) ∧ Below w.heap.size w wr)
  case atStart => exact ⟨0, by omega, by omega, rfl, rfl, XS.out, ⟨e, fun _ _ => rfl, XE.out⟩, BV.out⟩
  case round =>
    clear s0 s1 s2 c0 c1 c2 c3
    obtain ⟨x, hx, hxn, rfl, rfl, hN, ⟨e', hE', hVl⟩, hf⟩ := hrel
    have hcn := cnt_le x (fun y => p.holds a (upd e v y))
    have hcs := cnt_succ x (fun y => p.holds a (upd e v y))
    have hen := fun h => @says_enough .A a.n x (fun y => p.holds a (upd e v y)) hxn h
    have hne := fun h h2 => @says_never .A a.n (x + 1) (fun y => p.holds a (upd e v y)) h h2
    have Hen := Lib.hid hen
    have Hne := Lib.hid hne
    have Hcs := Lib.hid hcs
    have HN := Lib.hid hN
    have HVl := Lib.hid hVl
    have HF := Lib.hid hf
    obtain ⟨Z, hZ⟩ : ∃ Z, Z = cnt x (fun y => p.holds a (upd e v y)) := ⟨_, rfl⟩
    have HZ := Lib.hid hZ
    rw [← hZ] at hcn ⊢
    clear hen hne hcs hN hVl hf hZ
    by_cases hlt : x < a.n
    · by_cases hgo : Z < a.n
      · obtain ⟨s0, s1, s2⟩ := box_load HN.out
        have fv := HVl.out.free v.val
        have XS1 := Lib.hid (show Bx (wr.setCell ⟨w.heap.size + 1, v.val, none⟩ (.int .i64 (x : Nat))) w.heap.size 24 #[.int .i64 (a.n : Int), .string (bs a.set), .string (bs a.rel)] from HN.out.far (by simp) _)
        have XE1 := Lib.hid (show Bx (wr.setCell ⟨w.heap.size + 1, v.val, none⟩ (.int .i64 (x : Nat))) (w.heap.size + 1) 71 (envA4 (upd e v x)) from by
          have := HVl.out.set v.val (.int .i64 (x : Nat))
          rw [show (#[.int .i64 (e' 0 : Nat), .int .i64 (e' 1 : Nat), .int .i64 (e' 2 : Nat), .int .i64 (e' 3 : Nat)] : Array Value).setIfInBounds v.val (.int .i64 (x : Nat)) = envA4 (upd e v x) from by rw [← upd_upd e e' v x hE']; exact envA_upd e' v x] at this
          exact this)
        have B1 := Lib.hid (show Below w.heap.size w (wr.setCell ⟨w.heap.size + 1, v.val, none⟩ (.int .i64 (x : Nat))) from HF.out.setCell (by simp) _)
        have hlt' : upd e v x v < a.n := by rw [upd_same]; exact hlt
        have hcall := fun W => Ih s (k + 2) r ((k : Int) + 2) (upd e v x) W Hd1.out hs (by omega) (fun u => by unfold upd; split; exact hlt; exact He.out u)
        obtain ⟨E, hE⟩ : ∃ E, E = upd e v x := ⟨_, rfl⟩
        rw [← hE] at XE1
        simp only [← hE] at hcall
        unfold stA envA4 at hcall
        have HE := Lib.hid hE
        have cv := (HVl.out.cell v.val).trans (env_at e' v)
        clear hE' hE hlt'
        cases hp : p.holds a E with
        | false =>
          simp only [hp] at hcall
          have Hcall := Lib.hid hcall
          have hz1 : cnt (x + 1) (fun y => p.holds a (upd e v y)) = Z := by rw [Hcs.out, ← HE.out, hp, ← HZ.out]; rfl
          have Hz1 := Lib.hid hz1
          clear hcall hp hz1
          by_cases hbr : Z + (a.n - x - 1) < a.n
          · have hv := Hne.out (by omega) (by rw [Hz1.out]; show Z + (a.n - (x + 1)) < a.n; omega)
            have Hv := Lib.hid hv
            clear hv
            go_upto_region 33 with (go_at_call 80; refine (H1.out _).mono ?_; rintro ed w' ⟨rfl, rfl⟩)
            obtain ⟨r0, r1, r2⟩ := box_load XS1.out
            have d0 := XE1.out.cell 0
            have d1 := XE1.out.cell 1
            have d2 := XE1.out.cell 2
            have d3 := XE1.out.cell 3
            simp only [envA4, List.getElem?_toArray, List.getElem?_cons_zero, List.getElem?_cons_succ] at d0 d1 d2 d3
            clear s0 s1 s2 fv cv
            go_wp2_with (first | (go_at_call 82; refine (Hcall.out _).mono ?_; rintro ed w3 ⟨rfl, hz⟩; have B3 := Lib.hid (B1.out.trans (hz.mono B1.out.size)); have XS3 := Lib.hid (XS1.out.call hz); have XE3 := Lib.hid (XE1.out.call hz); clear hz r0 r1 r2 d0 d1 d2 d3; obtain ⟨t0, t1, t2⟩ := box_load XS3.out) | (go_at_call 79; refine (Hend.out _).mono ?_; rintro ed w7 ⟨rfl, rfl⟩))
            go_ret2
            exact ⟨ret_pair (by show Value.bool _ = Value.bool _; (congr 1; rw [show (Fm.qu .A v p).holds a e = false from Hv.out]; first | done | (simp; done) | (simp; omega))) (by show Value.int .i64 _ = Value.int .i64 _; congr 1 <;> simp [Fm.text] <;> omega), B3.out⟩
          · exfalso; omega
        | true =>
          simp only [hp] at hcall
          have Hcall := Lib.hid hcall
          have hz1 : cnt (x + 1) (fun y => p.holds a (upd e v y)) = Z + 1 := by rw [Hcs.out, ← HE.out, hp, ← HZ.out]; rfl
          have Hz1 := Lib.hid hz1
          clear hcall hp hz1
          by_cases hbr : Z + 1 + (a.n - x - 1) < a.n
          · have hv := Hne.out (by omega) (by rw [Hz1.out]; show Z + 1 + (a.n - (x + 1)) < a.n; omega)
            have Hv := Lib.hid hv
            clear hv
            go_upto_region 33 with (go_at_call 80; refine (H1.out _).mono ?_; rintro ed w' ⟨rfl, rfl⟩)
            obtain ⟨r0, r1, r2⟩ := box_load XS1.out
            have d0 := XE1.out.cell 0
            have d1 := XE1.out.cell 1
            have d2 := XE1.out.cell 2
            have d3 := XE1.out.cell 3
            simp only [envA4, List.getElem?_toArray, List.getElem?_cons_zero, List.getElem?_cons_succ] at d0 d1 d2 d3
            clear s0 s1 s2 fv cv
            go_wp2_with (first | (go_at_call 82; refine (Hcall.out _).mono ?_; rintro ed w3 ⟨rfl, hz⟩; have B3 := Lib.hid (B1.out.trans (hz.mono B1.out.size)); have XS3 := Lib.hid (XS1.out.call hz); have XE3 := Lib.hid (XE1.out.call hz); clear hz r0 r1 r2 d0 d1 d2 d3; obtain ⟨t0, t1, t2⟩ := box_load XS3.out) | (go_at_call 79; refine (Hend.out _).mono ?_; rintro ed w7 ⟨rfl, rfl⟩))
            go_ret2
            exact ⟨ret_pair (by show Value.bool _ = Value.bool _; (congr 1; rw [show (Fm.qu .A v p).holds a e = false from Hv.out]; first | done | (simp; done) | (simp; omega))) (by show Value.int .i64 _ = Value.int .i64 _; congr 1 <;> simp [Fm.text] <;> omega), B3.out⟩
          · go_upto_region 33 with (go_at_call 80; refine (H1.out _).mono ?_; rintro ed w' ⟨rfl, rfl⟩)
            obtain ⟨r0, r1, r2⟩ := box_load XS1.out
            have d0 := XE1.out.cell 0
            have d1 := XE1.out.cell 1
            have d2 := XE1.out.cell 2
            have d3 := XE1.out.cell 3
            simp only [envA4, List.getElem?_toArray, List.getElem?_cons_zero, List.getElem?_cons_succ] at d0 d1 d2 d3
            clear s0 s1 s2 fv cv
            go_wp2_with (go_at_call 82; refine (Hcall.out _).mono ?_; rintro ed w3 ⟨rfl, hz⟩; have B3 := Lib.hid (B1.out.trans (hz.mono B1.out.size)); have XS3 := Lib.hid (XS1.out.call hz); have XE3 := Lib.hid (XE1.out.call hz); clear hz r0 r1 r2 d0 d1 d2 d3; obtain ⟨t0, t1, t2⟩ := box_load XS3.out)
            go_roundg (a.n - x)
            case rel => exact ⟨x + 1, by omega, by omega, by go_num, by first | (rw [Hz1.out]; done) | (rw [Hz1.out]; rfl), XS3.out, ⟨E, fun u hu => by rw [HE.out, upd_other hu], XE3.out⟩, B3.out⟩
            case measure => omega
      · exfalso; omega
    · have hxe : x = a.n := by omega
      obtain ⟨s0, s1, s2⟩ := box_load HN.out
      have hv : (Fm.qu .A v p).holds a e = decide (a.n ≤ Z) := by
        show Qn.says .A a.n (cnt a.n (fun y => p.holds a (upd e v y))) = _
        rw [← hxe, ← HZ.out, says_need _ hcn]
        rw [hxe]; rfl
      have Hv := Lib.hid hv
      clear hv
      go_wp2_with (go_at_call 79; refine (Hend.out _).mono ?_; rintro ed w7 ⟨rfl, rfl⟩)
      go_ret2
      exact ⟨ret_pair (by show Value.bool _ = Value.bool _; (congr 1; rw [Hv.out, decide_eq_decide]; first | done | omega)) (by show Value.int .i64 _ = Value.int .i64 _; congr 1 <;> simp [Fm.text] <;> omega), HF.out⟩



end Go.Proofs.YtgiaebeoldigbaaDoor
