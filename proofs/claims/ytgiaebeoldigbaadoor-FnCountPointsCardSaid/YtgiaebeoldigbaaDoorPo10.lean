/-
  Laws of the functions that the claim reaches, one after the other (packed by a program of the prover's: FmB, CpP, WCountLaw). Conditions: texts below the reach.
-/
import Derived.Test.YtgiaebeoldigbaaDoorPo7
import Derived.Test.YtgiaebeoldigbaaDoorPo5
import Derived.Test.YtgiaebeoldigbaaDoorPo4
import Derived.Test.YtgiaebeoldigbaaDoorPo3
import Derived.Test.YtgiaebeoldigbaaDoorPo8
import Derived.Test.YtgiaebeoldigbaaDoorPo9
set_option linter.unusedSimpArgs false
set_option linter.unusedVariables false

namespace Go.Proofs.YtgiaebeoldigbaaDoor
open Pl
set_option linter.unusedSimpArgs false
set_option linter.unusedVariables false

theorem fm_bs {g : Fm} (h : g.text.length ≤ 4000) : fmB (bs g.text).data.toList = true := fmB_true.2 ⟨by simpa [bs] using h, g, by simp [bs]⟩
theorem bs_list (l : List UInt8) : (bs l).data.toList = l := by simp [bs]
theorem elAll_of_nats {n : Nat} {ns : List Nat} (h : ∀ x ∈ ns, x < n) : elAll n (natsI ns) = true := by
  unfold elAll
  rw [List.all_eq_true]
  intro z hz
  obtain ⟨x, hx, rfl⟩ := List.mem_map.1 hz
  have := h x hx
  unfold elB
  simp
  omega
theorem natsI_back (l : List Nat) : (natsI l).map Int.toNat = l := by
  unfold natsI
  rw [List.map_map]
  conv => rhs; rw [← List.map_id l]
  exact List.map_congr_left fun x _ => by simp

/-- HoldsAt of a formula, with elements for all that is free -/
theorem hold_fm {a : St} (ha : a.ok) {g : Fm} (hg : g.text.length ≤ 4000) {ns : List Nat} (hn : ∀ x ∈ ns, x < a.n) (hl : ns.length ≤ 4) (hf : g.freeBits / 2 ^ ns.length = 0) :
    holdB a.n (bs a.set) (bs a.rel) (bs g.text) (natsI ns) = true ∧ holdV a.n (bs a.set) (bs a.rel) (bs g.text) (natsI ns) = g.holds a (envL ns) := by
  have h1 : rdyB a.n (bs a.set) (bs a.rel) (bs g.text) (natsI ns).length = true := by
    rw [rdy_of (fm_bs hg) (bs_list _) ha, natsI_len, decide_eq_true hf]
  have h2 := hold_yes h1 (by rw [natsI_len]; exact hl) (elAll_of_nats hn)
  refine ⟨h2, ?_⟩
  rw [hold_yesV h2, natsI_back, tru_of (bs_list _)]
theorem hold_four {a : St} (ha : a.ok) {g : Fm} (hg : g.text.length ≤ 4000) {ns : List Nat} (hn : ∀ x ∈ ns, x < a.n) (hl : ns.length = 4) :
    holdV a.n (bs a.set) (bs a.rel) (bs g.text) (natsI ns) = g.holds a (envL ns) :=
  (hold_fm ha hg hn (by omega) (by have := freeBits_lt g; rw [hl]; omega)).2
/-- HoldsAt of anything: no, or a formula, a structure and elements -/
theorem hold_cases (i : Int) (s r f : ByteArray) (zs : List Int) : (holdB i s r f zs = false ∧ holdV i s r f zs = false) ∨
    ∃ (a : St) (g : Fm) (ns : List Nat), a.ok ∧ i = a.n ∧ s = bs a.set ∧ r = bs a.rel ∧ f = bs g.text ∧ g.text.length ≤ 4000 ∧ zs = natsI ns ∧ (∀ x ∈ ns, x < a.n) ∧ ns.length ≤ 4 ∧ g.freeBits / 2 ^ ns.length = 0 ∧ holdB i s r f zs = true ∧ holdV i s r f zs = g.holds a (envL ns) := by
  cases h : holdB i s r f zs with
  | false => exact .inl ⟨rfl, hold_no h⟩
  | true =>
    right
    have h0 := h
    unfold holdB rdyB at h
    simp only [Bool.and_eq_true, decide_eq_true_eq] at h
    obtain ⟨⟨h1, h2, h3⟩, h4, h5⟩ := h
    rcases ok_cases i s r with hq | ⟨a, ha, rfl, rfl, rfl⟩
    · rw [h1] at hq; cases hq
    rcases fm_cases f with ⟨hq, _⟩ | ⟨g, hb, hf, hs4, hl4⟩
    · rw [h2] at hq; cases hq
    obtain ⟨e1, e2⟩ := elAll_nats h5
    rw [fmOf_eq hf] at h3
    refine ⟨a, g, zs.map Int.toNat, ha, rfl, rfl, rfl, eq_bs hf, hl4, e1, e2, by simpa using h4, by simpa using h3, rfl, ?_⟩
    rw [hold_yesV h0, tru_of hf]

theorem text_app (l m : List UInt8) : bs l ++ bs m = bs (l ++ m) := by rw [append_bs, bs_list, bs_list]
theorem mk_bs (x : Array UInt8) : ByteArray.mk x = bs x.toList := by unfold bs; simp

end Go.Proofs.YtgiaebeoldigbaaDoor

namespace Go.Proofs.YtgiaebeoldigbaaDoor
open Go.RowKit
open Pl
set_option linter.unusedSimpArgs false
set_option linter.unusedVariables false

/-- how many lists of k elements make g true -/
noncomputable def cntL (a : St) (g : Fm) (k : Nat) : Nat := ((listsK a.n k).filter fun l => g.holds a (envL l)).length
theorem cpt_fm {a : St} (ha : a.ok) {g : Fm} (hg : g.text.length ≤ 4000) {k : Nat} (hk : k ≤ 3) (hf : g.freeBits / 2 ^ k = 0) : cptV a.n (bs a.set) (bs a.rel) (bs g.text) (k : Nat) = (cntL a g k : Nat) := by
  have h : ptB a.n (bs a.set) (bs a.rel) (bs g.text) (k : Nat) = true := by
    rw [pt_nat _ _ _ _ hk, rdy_of (fm_bs hg) (bs_list _) ha, decide_eq_true hf]
  unfold cptV
  rw [h, ptL_yes (bs_list _) h]
  rfl
theorem cpt_cases (i : Int) (s r f : ByteArray) (x : Int) : cptV i s r f x = -1 ∨
    ∃ (a : St) (g : Fm) (k : Nat), a.ok ∧ i = a.n ∧ s = bs a.set ∧ r = bs a.rel ∧ f = bs g.text ∧ g.text.length ≤ 4000 ∧ x = (k : Nat) ∧ k ≤ 3 ∧ g.freeBits / 2 ^ k = 0 ∧ cptV i s r f x = (cntL a g k : Nat) := by
  cases h : ptB i s r f x with
  | false => left; unfold cptV; rw [h]; rfl
  | true =>
    right
    obtain ⟨k, rfl, hk, hr⟩ := pt_cases h
    unfold rdyB at hr
    simp only [Bool.and_eq_true, decide_eq_true_eq] at hr
    obtain ⟨h1, h2, h3⟩ := hr
    rcases ok_cases i s r with hq | ⟨a, ha, rfl, rfl, rfl⟩
    · rw [h1] at hq; cases hq
    rcases fm_cases f with ⟨hq, _⟩ | ⟨g, hb, hf, hs4, hl4⟩
    · rw [h2] at hq; cases hq
    rw [fmOf_eq hf] at h3
    obtain rfl := eq_bs hf
    exact ⟨a, g, k, ha, rfl, rfl, rfl, rfl, hl4, rfl, hk, h3, cpt_fm ha hl4 hk h3⟩
theorem filter_not {α : Type} (p : α → Bool) : ∀ l : List α, (l.filter p).length + (l.filter fun x => !p x).length = l.length := by
  intro l
  induction l with
  | nil => rfl
  | cons x l ih => cases h : p x <;> simp [h] <;> omega
theorem cnt_neg {a : St} (ha : a.ok) (g : Fm) (k : Nat) : cntL a g k + cntL a (.neg g) k = a.n ^ k := by
  have h := filter_not (fun l => g.holds a (envL l)) (listsK a.n k)
  rw [listsK_len (by have := ha.lo; omega)] at h
  exact h
theorem cntL_le {a : St} (ha : a.ok) (g : Fm) (k : Nat) : cntL a g k ≤ a.n ^ k := by have := cnt_neg ha g k; omega
theorem free_lt {g : Fm} {k : Nat} (hf : g.freeBits / 2 ^ k = 0) {v : Fin 4} (hv : g.isFree v) : v.val < k := by
  apply Classical.byContradiction
  intro hge
  have h1 : g.freeBits < 2 ^ k := by
    have h2 : 0 < 2 ^ k := Nat.two_pow_pos _
    have := Nat.div_add_mod g.freeBits (2 ^ k)
    rw [hf] at this
    have := Nat.mod_lt g.freeBits h2
    omega
  have h3 : g.freeBits < 2 ^ v.val := Nat.lt_of_lt_of_le h1 (Nat.pow_le_pow_right (by decide) (by omega))
  unfold Fm.isFree at hv
  rw [Nat.testBit_lt_two_pow h3] at hv
  cases hv
theorem cnt_flat {a : St} {g : Fm} {k : Nat} (hf : g.freeBits / 2 ^ k = 0) : ∀ Ls : List (List Nat), (∀ l ∈ Ls, l.length = k) → ((Ls.flatMap (extL a.n)).filter fun l => g.holds a (envL l)).length = (Ls.filter fun l => g.holds a (envL l)).length * a.n := by
  intro Ls
  induction Ls with
  | nil => intro _; simp
  | cons l Ls ih =>
    intro hl
    have hll := hl l (by simp)
    have he : ∀ x, g.holds a (envL (l ++ [x])) = g.holds a (envL l) := fun x => holds_free a g _ _ fun v hv => by
      have := free_lt hf hv
      unfold envL
      rw [List.getD_eq_getElem?_getD, List.getD_eq_getElem?_getD, List.getElem?_append_left (by omega)]
    have h1 : ((extL a.n l).filter fun l => g.holds a (envL l)).length = if g.holds a (envL l) then a.n else 0 := by
      unfold extL
      rw [List.filter_map, List.length_map]
      cases hb : g.holds a (envL l) with
      | false => rw [List.filter_eq_nil_iff.2 (fun x _ => by simp [he, hb])]; rfl
      | true => rw [List.filter_eq_self.2 (fun x _ => by simp [he, hb])]; simp
    rw [List.flatMap_cons, List.filter_append, List.length_append, ih fun m hm => hl m (by simp [hm]), h1]
    cases hb : g.holds a (envL l) with
    | false => simp [hb]
    | true => simp [hb, Nat.succ_mul]; omega
theorem cnt_more {a : St} (ha : a.ok) {g : Fm} {k : Nat} (hf : g.freeBits / 2 ^ k = 0) : cntL a g (k + 1) = cntL a g k * a.n := by
  have h := cnt_flat (a := a) hf (listsK a.n k) (fun l hl => (listsK_mem (by have := ha.lo; omega) hl).1)
  exact h
theorem cpt_big (i : Int) (s r f : ByteArray) {x : Int} (h : 3 < x) : cptV i s r f x = -1 := by
  unfold cptV
  rw [pt_big (by omega)]
  rfl

end Go.Proofs.YtgiaebeoldigbaaDoor

namespace Go.Proofs.YtgiaebeoldigbaaDoor
open Go.RowKit
open Pl
set_option linter.unusedSimpArgs false
set_option linter.unusedVariables false

attribute [local go_sem ↓] Go.wp_at_zero Go.wp_at_succ

set_option maxHeartbeats 16000000 in
set_option maxRecDepth 100000 in
theorem FnCountPoints_walk (A : Option Addr) (n cap : Nat) (w : World) (h : ByRow w A n) (hc : n ≤ cap) (hm : cap ≤ maxLen) :
    Calls Tryd.prog 7 #[.slice A n cap] w fun e w' => e = .returned (.bool true) ∧ Below w.heap.size w w' := by
  by_cases hn : n ≤ 1048576
  case neg =>
    have hni : (1048576 : Int) < (n : Int) := by omega
    clear h hc hm
    go_enter Tryd.func7, Tryd.ntmps7
    go_wp2_with fail
    go_ret
    exact ⟨rfl, Below.refl _ _⟩
  case pos =>
  have hni : (n : Int) ≤ 1048576 := by omega
  have HD := Lib.hid (DrawCountPoints_calls A n cap w h hn hc hm)
  clear h hc hm
  go_enter Tryd.func7, Tryd.ntmps7
  go_wp2_with fail
  refine (HD.out).mono ?_
  rintro e w1 ⟨⟨i, s, r, t, x, rfl, hs, hr, ht, hx0, hx1⟩, hz⟩
  have B1 := Lib.hid (hz.alloc hz.size (.cells #[.int .i64 i, .string s, .string r] 24))
  have X1 := Lib.hid (Bx.new w1 24 #[.int .i64 i, .string s, .string r])
  have ci := fun y W => CountPoints_impl i s r t y W (by unfold maxLen; omega) (by unfold maxLen; omega)
  have cs := fun W => CountPoints_spec i s r t x W (by unfold maxLen; omega) (by unfold maxLen; omega) (by unfold maxLen; omega)
  have cn := fun W => CountPoints_impl i s r (⟨#[33]⟩ ++ t) x W (by unfold maxLen; omega) (by unfold maxLen; omega)
  clear hz
  rcases cpt_cases i s r t x with hv | ⟨a, g, k, ha, rfl, rfl, rfl, rfl, hgl, rfl, hk3, hfr, hv⟩
  · have ci1 := fun W => ci x W
    simp only [hv] at ci1 cs
    have CI := Lib.hid ci1
    have CS := Lib.hid cs
    clear ci ci1 cs cn hv
    obtain ⟨x0, x1, x2⟩ := box_load X1.out
    go_wp2_with fail
    refine (CI.out _).mono ?_
    rintro e w2 ⟨rfl, hz⟩
    have B2 := Lib.hid (B1.out.trans (hz.mono B1.out.size))
    have X2 := Lib.hid (X1.out.call hz)
    clear hz x0 x1 x2
    obtain ⟨x0, x1, x2⟩ := box_load X2.out
    go_wp2_with fail
    refine (CS.out _).mono ?_
    rintro e w3 ⟨rfl, hz⟩
    have B3 := Lib.hid (B2.out.trans (hz.mono B2.out.size))
    have X3 := Lib.hid (X2.out.call hz)
    clear hz x0 x1 x2
    obtain ⟨x0, x1, x2⟩ := box_load X3.out
    go_wp2_with fail
    refine (CS.out _).mono ?_
    rintro e w4 ⟨rfl, hz⟩
    have B4 := Lib.hid (B3.out.trans (hz.mono B3.out.size))
    have X4 := Lib.hid (X3.out.call hz)
    clear hz x0 x1 x2
    obtain ⟨x0, x1, x2⟩ := box_load X4.out
    go_wp2_with fail
    go_ret
    exact ⟨rfl, B4.out⟩
  have hgs : g.text.length ≤ 72 := by rw [bs_size] at ht; exact ht
  have h8 := ha.hi
  have hlo := ha.lo
  have hneg : (⟨#[33]⟩ : ByteArray) ++ bs g.text = bs (Fm.neg g).text := by rw [mk_bs, text_app]; rfl
  have hcn := cpt_fm ha (g := .neg g) (by simp [Fm.text]; omega) hk3 (by exact hfr)
  have hsum := cnt_neg ha g k
  have hpow : a.n ^ k ≤ 512 := Nat.le_trans (Nat.pow_le_pow_left h8 k) (Nat.le_trans (Nat.pow_le_pow_right (by decide) hk3) (by decide))
  obtain ⟨N, hN⟩ : ∃ N, N = cntL a g k := ⟨_, rfl⟩
  obtain ⟨M, hM⟩ : ∃ M, M = cntL a (.neg g) k := ⟨_, rfl⟩
  rw [← hN] at hv hsum
  rw [← hM] at hcn hsum
  have hw : cptV a.n (bs a.set) (bs a.rel) (bs g.text) ((k : Nat) + 1) = if k < 3 then ((N * a.n : Nat) : Int) else -1 := by
    by_cases h3 : k < 3
    · rw [if_pos h3, show ((k : Nat) : Int) + 1 = ((k + 1 : Nat) : Int) by omega, cpt_fm ha (by omega) (by omega) (by rw [Nat.pow_succ, ← Nat.div_div_eq_div_mul, hfr]), cnt_more ha hfr, ← hN]
    · rw [if_neg h3, cpt_big _ _ _ _ (by omega)]
  have ci1 := fun W => ci (k : Nat) W
  have cw := fun W => ci ((k : Nat) + 1) W
  simp only [hv] at ci1 cs
  simp only [hw] at cw
  have hcn2 : cptV a.n (bs a.set) (bs a.rel) (⟨#[33]⟩ ++ bs g.text) (k : Nat) = (M : Nat) := by rw [hneg]; exact hcn
  simp only [hcn2] at cn
  have CI := Lib.hid ci1
  have CS := Lib.hid cs
  have CW := Lib.hid cw
  have CN := Lib.hid cn
  clear ci ci1 cs cn cw hv hw hcn hcn2 hN hM hfr
  obtain ⟨PW, hPW⟩ : ∃ PW : Nat → Nat, PW = fun j => a.n ^ j := ⟨_, rfl⟩
  have hNM : (N : Int) + (M : Int) = ((PW k : Nat) : Int) := by rw [hPW]; show _ = ((a.n ^ k : Nat) : Int); omega
  obtain ⟨Z, hZ⟩ : ∃ Z, Z = N * a.n := ⟨_, rfl⟩
  have hZ2 : Z ≤ 4096 := by rw [hZ]; exact Nat.mul_le_mul (show N ≤ 512 by omega) h8
  have hZ3 : (N : Int) * (a.n : Int) = (Z : Nat) := by rw [hZ]; exact (Int.natCast_mul _ _).symm
  have hpw : ∀ j, j ≤ k → PW j ≤ 512 := fun j hj => by rw [hPW]; exact Nat.le_trans (Nat.pow_le_pow_right hlo hj) hpow
  have hps : ∀ j, ((PW j : Nat) : Int) * (a.n : Int) = ((PW (j + 1) : Nat) : Int) := fun j => by rw [hPW]; show _ = ((a.n ^ (j + 1) : Nat) : Int); rw [Nat.pow_succ, Int.natCast_mul]
  have hp0 : PW 0 = 1 := by rw [hPW]; rfl
  rw [← hZ] at CW
  have HPW := Lib.hid hpw
  have HPS := Lib.hid hps
  have HP0 := Lib.hid hp0
  clear hpw hps hp0 hPW hneg hZ hpow hsum
  obtain ⟨x0, x1, x2⟩ := box_load X1.out
  go_wp2_with fail
  refine (CI.out _).mono ?_
  rintro e w2 ⟨rfl, hz⟩
  have B2 := Lib.hid (B1.out.trans (hz.mono B1.out.size))
  have X2 := Lib.hid (X1.out.call hz)
  clear hz x0 x1 x2
  obtain ⟨x0, x1, x2⟩ := box_load X2.out
  go_wp2_with fail
  refine (CS.out _).mono ?_
  rintro e w3 ⟨rfl, hz⟩
  have B3 := Lib.hid (B2.out.trans (hz.mono B2.out.size))
  have X3 := Lib.hid (X2.out.call hz)
  clear hz x0 x1 x2
  obtain ⟨x0, x1, x2⟩ := box_load X3.out
  go_wp2_with fail
  go_loopg [7, 8] k (fun c av iv wr => ∃ j : Nat, j + c = k ∧ iv = .int .i64 (j : Nat) ∧ av = .int .i64 ((PW j : Nat) : Int) ∧ w3 = wr)
  case atStart => exact ⟨0, by omega, rfl, by rw [HP0.out]; rfl, rfl⟩
  case round =>
    obtain ⟨j, hj, rfl, rfl, rfl⟩ := hrel
    by_cases hlt : j < k
    · have hp1 := HPW.out j (by omega)
      have hp2 := HPW.out (j + 1) (by omega)
      have hp3 := HPS.out j
      go_wp2_with fail
      go_roundg (k - j - 1)
      case rel => exact ⟨j + 1, by omega, by go_num, by go_num, rfl⟩
      case measure => omega
    · obtain rfl : j = k := by omega
      have hgk : gk = 0 := by omega
      subst hgk
      clear hlt hj
      have hp1 := HPW.out j (Nat.le_refl _)
      by_cases h3 : j < 3
      · simp only [if_pos h3] at CW
        go_wp2_with fail
        refine (CW.out _).mono ?_
        rintro e w8 ⟨rfl, hz⟩
        have B8 := Lib.hid (B3.out.trans (hz.mono B3.out.size))
        have X8 := Lib.hid (X3.out.call hz)
        clear hz x0 x1 x2
        obtain ⟨x0, x1, x2⟩ := box_load X8.out
        go_wp2_with fail
        refine (CN.out _).mono ?_
        rintro e w9 ⟨rfl, hz⟩
        have B9 := Lib.hid (B8.out.trans (hz.mono B8.out.size))
        have X9 := Lib.hid (X8.out.call hz)
        clear hz x0 x1 x2
        obtain ⟨x0, x1, x2⟩ := box_load X9.out
        go_wp2_with fail
        go_ret
        exact ⟨rfl, B9.out⟩
      · simp only [if_neg h3] at CW
        go_wp2_with fail
        refine (CW.out _).mono ?_
        rintro e w8 ⟨rfl, hz⟩
        have B8 := Lib.hid (B3.out.trans (hz.mono B3.out.size))
        have X8 := Lib.hid (X3.out.call hz)
        clear hz x0 x1 x2
        obtain ⟨x0, x1, x2⟩ := box_load X8.out
        go_wp2_with fail
        refine (CN.out _).mono ?_
        rintro e w9 ⟨rfl, hz⟩
        have B9 := Lib.hid (B8.out.trans (hz.mono B8.out.size))
        have X9 := Lib.hid (X8.out.call hz)
        clear hz x0 x1 x2
        obtain ⟨x0, x1, x2⟩ := box_load X9.out
        go_wp2_with fail
        go_ret
        exact ⟨rfl, B9.out⟩

end Go.Proofs.YtgiaebeoldigbaaDoor
