/-
  Laws of the functions that the claim reaches, one after the other (packed by a program of the prover's: SpecRank, Val, Holds3, HAt, Own, Hold4, SetP, DSetI, Free, SHolds0, SHolds1, SHoldse, SHoldsr, SHolds2). Conditions: texts below the reach.
-/
import Derived.Test.YtebjanjobfiloaaDoorPk2
import Derived.Test.YtebjanjobfiloaaDoorPk1
import Derived.Test.YtebjanjobfiloaaDoorPk4
import Derived.Laws.CopyOwn
import Derived.StillTailTactics
set_option linter.unusedSimpArgs false
set_option linter.unusedVariables false

namespace Go.Proofs.YtebjanjobfiloaaDoor
open Go.RowKit
open Pl

theorem findB_quant (b : UInt8) : decide (0 ≤ findB b [65, 83, 50, 51, 52]) = isQuB b := by
  have h := findB_nonneg (c := b) (l := [65, 83, 50, 51, 52])
  rw [Bool.eq_iff_iff, decide_eq_true_iff, h]
  simp [isQuB, or_assoc]

theorem l2Quant_calls (b : UInt8) (r : Bool) (hr : isQuB b = r) (w : World) :
    Calls Tryd.prog 53 #[.int .u8 b.toNat] w fun e w' => e = .returned (.bool r) ∧ w = w' := by
  have Hr := Lib.hid hr
  clear hr
  go_enter Tryd.func53, Tryd.ntmps53
  go_wp2_with (go_at_call 63; refine (l15Find_calls _ b _ (by decide)).mono ?_; rintro e w' ⟨rfl, rfl⟩)
  go_ret
  exact ⟨ret_bool (by rw [← Hr.out]; exact findB_quant b), rfl⟩

/-- a formula at an index -/
theorem at_op {s : ByteArray} {k : Nat} {f : Fm} {r : List UInt8} (h : s.data.toList.drop k = f.text ++ r) :
    ∃ hk : k < s.size, s[k] = f.op ∧ k + f.text.length ≤ s.size := by
  have h1 := congrArg List.length h
  rw [List.length_drop, List.length_append, ← Lib.size_eq] at h1
  have hp := f.text_pos
  have hk : k < s.size := by omega
  refine ⟨hk, ?_, by omega⟩
  rw [drop_at hk, Fm.text_eq] at h
  simp only [List.cons_append, List.cons.injEq] at h
  exact h.1

theorem at_two {l : List UInt8} {k : Nat} {b : UInt8} {p q : Fm} {r : List UInt8} (h : l.drop k = b :: (p.text ++ q.text) ++ r) :
    l.drop (k + 1) = p.text ++ (q.text ++ r) ∧ l.drop (k + 1 + p.text.length) = q.text ++ r := by
  have h1 : l.drop (k + 1) = p.text ++ (q.text ++ r) := drop_add_of (p := [b]) (by simpa using h)
  exact ⟨h1, drop_add_of h1⟩

theorem at_one {l : List UInt8} {k : Nat} {b : UInt8} {p : Fm} {r : List UInt8} (h : l.drop k = b :: p.text ++ r) : l.drop (k + 1) = p.text ++ r := drop_add_of (p := [b]) (by simpa using h)
theorem at_qu {l : List UInt8} {k : Nat} {b c : UInt8} {p : Fm} {r : List UInt8} (h : l.drop k = b :: c :: p.text ++ r) : l.drop (k + 2) = p.text ++ r := drop_add_of (p := [b, c]) (by simpa using h)

/-- -1 for a text that is no formula, else a number -/
noncomputable def numV (l : List UInt8) (g : Fm → Nat) : Int := match parse l with | some (f, []) => if l.length ≤ 4000 then (g f : Int) else -1 | _ => -1

theorem numV_yes {l : List UInt8} {f : Fm} (g : Fm → Nat) (h : l = f.text) (hl : l.length ≤ 4000) : numV l g = g f := by
  unfold numV
  rw [parse_some.2 (show l = f.text ++ [] by rw [h]; simp)]
  simp [hl]

theorem numV_no {l : List UInt8} (g : Fm → Nat) (h : ¬ IsFm l) : numV l g = -1 := by
  unfold numV
  cases hp : parse l with
  | none => rfl
  | some x =>
    obtain ⟨f, r⟩ := x
    cases r with
    | nil =>
      have := parse_some.1 hp
      by_cases hl : l.length ≤ 4000
      · exact absurd ⟨hl, f, by simpa using this⟩ h
      · simp [hl]
    | cons a r => rfl

/-- a formula, or not -/
theorem fm_cases (s : ByteArray) : (fmB s.data.toList = false ∧ ¬ IsFm s.data.toList) ∨ ∃ f : Fm, fmB s.data.toList = true ∧ s.data.toList = f.text ∧ s.size ≤ 4000 ∧ f.text.length ≤ 4000 := by
  by_cases h : IsFm s.data.toList
  · obtain ⟨hl, f, hf⟩ := h
    exact .inr ⟨f, fmB_true.2 ⟨hl, f, hf⟩, hf, by rw [Lib.size_eq]; exact hl, by rw [← hf]; exact hl⟩
  · exact .inl ⟨fmB_false.2 h, h⟩

end Go.Proofs.YtebjanjobfiloaaDoor

namespace Go.Proofs.YtebjanjobfiloaaDoor
open Pl

/-- the elements for the first variables, 0 for the others -/
def envL (zs : List Nat) : Env := fun v => zs.getD v.val 0

/-- the formula of a text -/
noncomputable def fmOf (s : ByteArray) : Fm := match parse s.data.toList with | some (f, _) => f | none => .fls
theorem fmOf_eq {s : ByteArray} {f : Fm} (h : s.data.toList = f.text) : fmOf s = f := by
  unfold fmOf
  rw [parse_some.2 (show s.data.toList = f.text ++ [] by rw [h]; simp)]

/-- a structure and a formula of which the first variables alone are free -/
noncomputable def rdyB (i : Int) (s r f : ByteArray) (k : Nat) : Bool := okB i s r && (fmB f.data.toList && decide ((fmOf f).freeBits / 2 ^ k = 0))
noncomputable def truV (i : Int) (s r f : ByteArray) (zs : List Nat) : Bool := (fmOf f).holds (ofSt i s r) (envL zs)
noncomputable def holdB (i : Int) (s r f : ByteArray) (zs : List Int) : Bool := rdyB i s r f zs.length && (decide (zs.length ≤ 4) && elAll i zs)
noncomputable def holdV (i : Int) (s r f : ByteArray) (zs : List Int) : Bool := holdB i s r f zs && truV i s r f (zs.map Int.toNat)

theorem rdy_noSt {i : Int} {s r : ByteArray} (h : okB i s r = false) (f : ByteArray) (k : Nat) : rdyB i s r f k = false := by unfold rdyB; rw [h]; rfl
theorem rdy_noFm {f : ByteArray} (h : fmB f.data.toList = false) (i : Int) (s r : ByteArray) (k : Nat) : rdyB i s r f k = false := by unfold rdyB; rw [h]; simp
theorem rdy_of {f : ByteArray} {g : Fm} (hg : fmB f.data.toList = true) (hf : f.data.toList = g.text) {a : St} (ha : a.ok) (k : Nat) : rdyB a.n (bs a.set) (bs a.rel) f k = decide (g.freeBits / 2 ^ k = 0) := by
  unfold rdyB
  rw [okB_true ha, hg, fmOf_eq hf]; rfl
theorem tru_of {f : ByteArray} {g : Fm} (hf : f.data.toList = g.text) (a : St) (zs : List Nat) : truV a.n (bs a.set) (bs a.rel) f zs = g.holds a (envL zs) := by
  unfold truV
  rw [fmOf_eq hf, ofSt_eq]
theorem env_lt {a : St} (ha : a.ok) {zs : List Nat} (hz : ∀ x ∈ zs, x < a.n) : ∀ v, envL zs v < a.n := fun v => by
  unfold envL
  by_cases h : v.val < zs.length
  · rw [List.getD_eq_getElem?_getD, List.getElem?_eq_getElem h]; exact hz _ (List.getElem_mem h)
  · rw [List.getD_eq_getElem?_getD, List.getElem?_eq_none (by omega)]; exact ha.lo
theorem hold_no {i : Int} {s r f : ByteArray} {zs : List Int} (h : holdB i s r f zs = false) : holdV i s r f zs = false := by unfold holdV; rw [h]; rfl
theorem hold_noRdy {i : Int} {s r f : ByteArray} {zs : List Int} (h : rdyB i s r f zs.length = false) : holdB i s r f zs = false := by unfold holdB; rw [h]; rfl
theorem hold_noLen {i : Int} {s r f : ByteArray} {zs : List Int} (h : ¬ zs.length ≤ 4) : holdB i s r f zs = false := by unfold holdB; rw [decide_eq_false h]; simp
theorem hold_noEl {i : Int} {s r f : ByteArray} {zs : List Int} (h : elAll i zs = false) : holdB i s r f zs = false := by unfold holdB; rw [h]; simp
theorem hold_yes {i : Int} {s r f : ByteArray} {zs : List Int} (h1 : rdyB i s r f zs.length = true) (h2 : zs.length ≤ 4) (h3 : elAll i zs = true) : holdB i s r f zs = true := by unfold holdB; rw [h1, h3, decide_eq_true h2]; rfl
theorem hold_yesV {i : Int} {s r f : ByteArray} {zs : List Int} (h : holdB i s r f zs = true) : holdV i s r f zs = truV i s r f (zs.map Int.toNat) := by unfold holdV; rw [h]; rfl
theorem elAll_nats {n : Nat} : ∀ {zs : List Int}, elAll n zs = true → zs = natsI (zs.map Int.toNat) ∧ ∀ x ∈ zs.map Int.toNat, x < n := by
  intro zs h
  unfold elAll at h
  rw [List.all_eq_true] at h
  constructor
  · unfold natsI
    rw [List.map_map]
    conv => lhs; rw [← List.map_id zs]
    refine List.map_congr_left fun z hz => ?_
    have := h z hz
    unfold elB at this
    simp at this ⊢
    omega
  · intro x hx
    obtain ⟨z, hz, rfl⟩ := List.mem_map.1 hx
    have := h z hz
    unfold elB at this
    simp at this
    omega

end Go.Proofs.YtebjanjobfiloaaDoor

namespace Go.Proofs.YtebjanjobfiloaaDoor
open Go.RowKit
open Go.ChangeMaps
open Pl
set_option linter.unusedSimpArgs false
set_option linter.unusedVariables false

theorem splice_env {zs : List Nat} (h : zs.length ≤ 4) : (splice [Value.int .i64 0, .int .i64 0, .int .i64 0, .int .i64 0] 0 (intsV (natsI zs))).toArray = envA (envL zs) := by
  match zs, h with
  | [], _ => rfl
  | [a], _ => rfl
  | [a, b], _ => rfl
  | [a, b, c], _ => rfl
  | [a, b, c, d], _ => rfl

theorem row_news {w : World} {A : Option Addr} {zs : List Int} (h : LRow w A zs) : 0 < (intsV zs).length → ∃ ad, A = some ad ∧ ∀ j v, (intsV zs)[j]? = some v → w.cell? (ad.add j) = some v := fun hn => by
  obtain ⟨g, rfl, _⟩ := h (by simpa [intsV] using hn)
  exact ⟨_, rfl, LRow.news h⟩

set_option maxRecDepth 100000 in
set_option maxHeartbeats 1000000 in
theorem holds_calls (lo : Nat) (w0 : World) (a : St) (ha : a.ok) (hb : Nat) (f : Fm) (nb : Nat) (zs : List Nat) (A : Option Addr) (cap : Nat) (w : World) (ht : TreeAt lo w0 f nb) (hz : ∀ x ∈ zs, x < a.n) (hl : zs.length ≤ 4) (hA : LRow w A (natsI zs)) (hw : HoldW lo w0 a hb w) :
    Calls Tryd.prog 39 #[.pointer (some ⟨hb + 1, 0, none⟩), kidV nb, .slice A zs.length cap] w fun ed w' => ed = .returned (.bool (f.holds a (envL zs))) ∧ HoldW lo w0 a hb w' ∧ Fz hb w w' := by
  have he := env_lt ha hz
  have ci := fun (W : World) (hW : HoldW lo w0 a hb W) => isTrue_calls lo w0 a ha hb f.size f (Nat.le_refl _) nb (envL zs) W ht he hW
  have CI := Lib.hid ci
  have hs : (Tryd.prog.info? 3).map (·.size) = some 1 := by kernel_rfl
  have hln : (intsV (natsI zs)).length = Nat.min zs.length 4 := by
    rw [show (intsV (natsI zs)).length = zs.length by simp [intsV, natsI]]
    exact (Nat.min_eq_left hl).symm
  have HA := Lib.hid (hA.alloc (.cells #[.int .i64 0, .int .i64 0, .int .i64 0, .int .i64 0] 45))
  have HW0 := Lib.hid hw
  have XZ := Lib.hid (Bx.new w 45 #[.int .i64 0, .int .i64 0, .int .i64 0, .int .i64 0])
  have Hlt := Lib.hid hw.cache.lt
  clear ci ht hz he hA hw
  go_enter Tryd.func39, Tryd.ntmps39
  go_wp2_with (refine wpList_copy_splice rfl (.tmp 9) (.tmp 10) 24 24 rfl 3 Tryd.underlying24 hs _ _ 4 4 zs.length cap rfl rfl w.heap.size 0 [.int .i64 0, .int .i64 0, .int .i64 0, .int .i64 0] 45 XZ.out (intsV (natsI zs)) hln (fun h => by obtain ⟨ad, h1, h2⟩ := row_news HA.out h; exact ⟨rfl, ad, h1, h2⟩) (by simp [intsV, natsI]; omega) (ints_oneCell .i64 _) w.heap.size w ((Below.refl _ _).alloc (Nat.le_refl _) _) (Nat.le_refl _) ?_; intro w1 hx1 hb1; have XE := Lib.hid (show Bx w1 w.heap.size 45 (envA (envL zs)) from by rw [← splice_env hl]; exact hx1.out); have B1 := Lib.hid hb1; have x0 := XE.out.cell 0; have x1 := XE.out.cell 1; have x2 := XE.out.cell 2; have x3 := XE.out.cell 3; simp only [envA, List.getElem?_toArray, List.getElem?_cons_zero, List.getElem?_cons_succ] at x0 x1 x2 x3; clear hx1 hb1)
  refine (CI.out _ (HW0.out.call B1.out)).mono ?_
  rintro ed w2 ⟨rfl, hW, hF⟩
  have F2 := Lib.hid ((Fz.call (Nat.le_of_lt Hlt.out) B1.out).trans hF)
  have W2 := Lib.hid hW
  clear hW hF x0 x1 x2 x3
  go_wp2_with fail
  go_ret
  exact ⟨rfl, W2.out, F2.out⟩

end Go.Proofs.YtebjanjobfiloaaDoor

namespace Go.Proofs.YtebjanjobfiloaaDoor
open Go.RowKit
open Pl
set_option linter.unusedSimpArgs false
set_option linter.unusedVariables false

theorem div_nat (m k : Nat) : (m : Int) / 2 ^ k = ((m / 2 ^ k : Nat) : Int) := by
  rw [Int.natCast_ediv, Int.natCast_pow]; rfl

/-- a structure of whole numbers and texts that is one -/
theorem st_of {i : Int} {s r : ByteArray} (h : okB i s r = true) : ∃ a : St, a.ok ∧ i = a.n ∧ s = bs a.set ∧ r = bs a.rel := by
  rcases ok_cases i s r with h2 | h2
  · rw [h] at h2; cases h2
  · exact h2

set_option maxRecDepth 100000 in
set_option maxHeartbeats 2000000 in
theorem HoldsAt_impl (i : Int) (s r f : ByteArray) (A : Option Addr) (zs : List Int) (cap : Nat) (w : World) (hs : s.size ≤ maxLen) (hr : r.size ≤ maxLen) (hn : zs.length ≤ 1048576) (hcap : zs.length ≤ cap) (hA : LRow w A zs) :
    Calls Tryd.prog 14 #[stV i s r, .string f, .slice A zs.length cap] w fun e w' => e = .returned (.tuple #[.bool (holdV i s r f zs), .bool (holdB i s r f zs)]) ∧ Below w.heap.size w w' := by
  have HcI := fun W => isStructure_calls i s r W hs hr
  have HcE := fun (W : World) (hW : LRow W A zs) => areElements_calls i s r A zs cap W hn hW
  have B0 := Lib.hid (show Below w.heap.size w (w.alloc (.cells #[.int .i64 i, .string s, .string r] 28)) from (Below.refl _ _).alloc (Nat.le_refl _) _)
  have La := Lib.hid (hA.alloc (.cells #[.int .i64 i, .string s, .string r] 28))
  have Xa := Lib.hid (Bx.new w 28 #[.int .i64 i, .string s, .string r])
  clear hA hs hr
  rcases fm_cases f with ⟨hb, hno⟩ | ⟨g, hb, hf, hs4, hl4⟩
  · rw [hold_no (hold_noRdy (rdy_noFm hb i s r zs.length)), hold_noRdy (rdy_noFm hb i s r zs.length)]
    have Hno := Lib.hid hno
    clear hb hno HcI HcE
    go_enter Tryd.func14, Tryd.ntmps14
    go_wp2_with fail
    refine (parseFormula_no f _ Hno.out).mono ?_
    rintro e w1 ⟨rfl, hz⟩
    have B1 := Lib.hid (B0.out.trans (hz.mono (by simp)))
    clear hz
    go_wp2_with fail
    go_ret2
    exact ⟨rfl, B1.out⟩
  have Hf := Lib.hid hf
  have Hb := Lib.hid hb
  have hfr : g.freeBits < 16 := freeBits_lt g
  clear hf hb
  cases hok : okB i s r
  case false =>
    have hh := rdy_noSt hok f zs.length
    rw [hold_no (hold_noRdy hh), hold_noRdy hh]
    simp only [hok] at HcI
    clear hh hok
    have CI := Lib.hid HcI
    have CE := Lib.hid HcE
    clear HcI HcE
    go_enter Tryd.func14, Tryd.ntmps14
    go_wp2_with fail
    refine (parseFormula_yes f g _ hs4 Hf.out).mono ?_
    rintro e w1 ⟨b, rfl, htr, hz⟩
    have B1 := Lib.hid (B0.out.trans (hz.mono (by simp)))
    have X1 := Lib.hid (Xa.out.call hz)
    have L1 := Lib.hid (La.out.call hz)
    have T1 := Lib.hid htr
    clear hz htr
    obtain ⟨k0, k1, k2⟩ := box_load X1.out
    go_wp2_with fail
    refine (CI.out _).mono ?_
    rintro e w2 ⟨rfl, hz⟩
    have B2 := Lib.hid (B1.out.trans (hz.mono B1.out.size))
    have X2 := Lib.hid (X1.out.call hz)
    have L2 := Lib.hid (L1.out.call hz)
    have T2 := Lib.hid (T1.out.below hz)
    have D2 := Lib.hid hz
    clear hz k0 k1 k2
    go_wp2_with fail
    go_ret2
    exact ⟨rfl, B2.out⟩
  case true =>
  simp only [hok] at HcI
  by_cases h4 : zs.length ≤ 4
  case neg =>
    rw [hold_no (hold_noLen h4), hold_noLen h4]
    clear hok
    have CI := Lib.hid HcI
    have CE := Lib.hid HcE
    clear HcI HcE
    go_enter Tryd.func14, Tryd.ntmps14
    go_wp2_with fail
    refine (parseFormula_yes f g _ hs4 Hf.out).mono ?_
    rintro e w1 ⟨b, rfl, htr, hz⟩
    have B1 := Lib.hid (B0.out.trans (hz.mono (by simp)))
    have X1 := Lib.hid (Xa.out.call hz)
    have L1 := Lib.hid (La.out.call hz)
    have T1 := Lib.hid htr
    clear hz htr
    obtain ⟨k0, k1, k2⟩ := box_load X1.out
    go_wp2_with fail
    refine (CI.out _).mono ?_
    rintro e w2 ⟨rfl, hz⟩
    have B2 := Lib.hid (B1.out.trans (hz.mono B1.out.size))
    have X2 := Lib.hid (X1.out.call hz)
    have L2 := Lib.hid (L1.out.call hz)
    have T2 := Lib.hid (T1.out.below hz)
    have D2 := Lib.hid hz
    clear hz k0 k1 k2
    go_wp2_with fail
    go_ret2
    exact ⟨rfl, B2.out⟩
  case pos =>
  have h4i : (zs.length : Int) ≤ 4 := by omega
  cases hel : elAll i zs
  case false =>
    rw [hold_no (hold_noEl hel), hold_noEl hel]
    simp only [hel] at HcE
    clear hok hel
    have CI := Lib.hid HcI
    have CE := Lib.hid HcE
    clear HcI HcE
    go_enter Tryd.func14, Tryd.ntmps14
    go_wp2_with fail
    refine (parseFormula_yes f g _ hs4 Hf.out).mono ?_
    rintro e w1 ⟨b, rfl, htr, hz⟩
    have B1 := Lib.hid (B0.out.trans (hz.mono (by simp)))
    have X1 := Lib.hid (Xa.out.call hz)
    have L1 := Lib.hid (La.out.call hz)
    have T1 := Lib.hid htr
    clear hz htr
    obtain ⟨k0, k1, k2⟩ := box_load X1.out
    go_wp2_with fail
    refine (CI.out _).mono ?_
    rintro e w2 ⟨rfl, hz⟩
    have B2 := Lib.hid (B1.out.trans (hz.mono B1.out.size))
    have X2 := Lib.hid (X1.out.call hz)
    have L2 := Lib.hid (L1.out.call hz)
    have T2 := Lib.hid (T1.out.below hz)
    have D2 := Lib.hid hz
    clear hz k0 k1 k2
    obtain ⟨k0, k1, k2⟩ := box_load X2.out
    go_wp2_with fail
    refine (CE.out _ L2.out).mono ?_
    rintro e w3 ⟨rfl, hz⟩
    have B3 := Lib.hid (B2.out.trans (hz.mono B2.out.size))
    have X3 := Lib.hid (X2.out.call hz)
    have L3 := Lib.hid (L2.out.call hz)
    have T3 := Lib.hid (T2.out.below hz)
    have D3 := Lib.hid (D2.out.trans (hz.mono D2.out.size))
    clear hz k0 k1 k2
    go_wp2_with fail
    go_ret2
    exact ⟨rfl, B3.out⟩
  case true =>
  simp only [hel] at HcE
  obtain ⟨a, ha, rfl, rfl, rfl⟩ := st_of hok
  have hry := rdy_of Hb.out Hf.out ha zs.length
  by_cases hfz : g.freeBits / 2 ^ zs.length = 0
  case neg =>
    rw [decide_eq_false hfz] at hry
    rw [hold_no (hold_noRdy hry), hold_noRdy hry]
    clear hok hel hry
    have CI := Lib.hid HcI
    have CE := Lib.hid HcE
    clear HcI HcE
    go_enter Tryd.func14, Tryd.ntmps14
    go_wp2_with fail
    refine (parseFormula_yes f g _ hs4 Hf.out).mono ?_
    rintro e w1 ⟨b, rfl, htr, hz⟩
    have B1 := Lib.hid (B0.out.trans (hz.mono (by simp)))
    have X1 := Lib.hid (Xa.out.call hz)
    have L1 := Lib.hid (La.out.call hz)
    have T1 := Lib.hid htr
    clear hz htr
    obtain ⟨k0, k1, k2⟩ := box_load X1.out
    go_wp2_with fail
    refine (CI.out _).mono ?_
    rintro e w2 ⟨rfl, hz⟩
    have B2 := Lib.hid (B1.out.trans (hz.mono B1.out.size))
    have X2 := Lib.hid (X1.out.call hz)
    have L2 := Lib.hid (L1.out.call hz)
    have T2 := Lib.hid (T1.out.below hz)
    have D2 := Lib.hid hz
    clear hz k0 k1 k2
    obtain ⟨k0, k1, k2⟩ := box_load X2.out
    go_wp2_with fail
    refine (CE.out _ L2.out).mono ?_
    rintro e w3 ⟨rfl, hz⟩
    have B3 := Lib.hid (B2.out.trans (hz.mono B2.out.size))
    have X3 := Lib.hid (X2.out.call hz)
    have L3 := Lib.hid (L2.out.call hz)
    have T3 := Lib.hid (T2.out.below hz)
    have D3 := Lib.hid (D2.out.trans (hz.mono D2.out.size))
    clear hz k0 k1 k2
    obtain ⟨_, _, _, _, _, _, hc3, _⟩ := node_cells T3.out
    have hdv := div_nat g.freeBits zs.length
    have hne : ((g.freeBits : Int) / 2 ^ zs.length != 0) = true := by rw [hdv, bne_iff_ne]; omega
    clear hdv hfz
    go_wp2_with fail
    go_ret2
    exact ⟨rfl, B3.out⟩
  case pos =>
    rw [decide_eq_true hfz] at hry
    have hh := hold_yes hry h4 hel
    rw [hold_yesV hh, hh, tru_of Hf.out a]
    obtain ⟨hzs, hlt⟩ := elAll_nats hel
    obtain ⟨ns, hns⟩ : ∃ ns, ns = zs.map Int.toNat := ⟨_, rfl⟩
    rw [← hns] at hlt hzs ⊢
    subst hzs
    rw [natsI_len] at *
    have Hlt := Lib.hid hlt
    clear hok hel hry hh hns hlt hn hcap
    have CI := Lib.hid HcI
    have CE := Lib.hid HcE
    clear HcI HcE
    go_enter Tryd.func14, Tryd.ntmps14
    go_wp2_with fail
    refine (parseFormula_yes f g _ hs4 Hf.out).mono ?_
    rintro e w1 ⟨b, rfl, htr, hz⟩
    have B1 := Lib.hid (B0.out.trans (hz.mono (by simp)))
    have X1 := Lib.hid (Xa.out.call hz)
    have L1 := Lib.hid (La.out.call hz)
    have T1 := Lib.hid htr
    clear hz htr
    obtain ⟨k0, k1, k2⟩ := box_load X1.out
    go_wp2_with fail
    refine (CI.out _).mono ?_
    rintro e w2 ⟨rfl, hz⟩
    have B2 := Lib.hid (B1.out.trans (hz.mono B1.out.size))
    have X2 := Lib.hid (X1.out.call hz)
    have L2 := Lib.hid (L1.out.call hz)
    have T2 := Lib.hid (T1.out.below hz)
    have D2 := Lib.hid hz
    clear hz k0 k1 k2
    obtain ⟨k0, k1, k2⟩ := box_load X2.out
    go_wp2_with fail
    refine (CE.out _ L2.out).mono ?_
    rintro e w3 ⟨rfl, hz⟩
    have B3 := Lib.hid (B2.out.trans (hz.mono B2.out.size))
    have X3 := Lib.hid (X2.out.call hz)
    have L3 := Lib.hid (L2.out.call hz)
    have T3 := Lib.hid (T2.out.below hz)
    have D3 := Lib.hid (D2.out.trans (hz.mono D2.out.size))
    clear hz k0 k1 k2
    obtain ⟨_, _, _, _, _, _, hc3, _⟩ := node_cells T3.out
    have hdv := div_nat g.freeBits ns.length
    have heq : (g.freeBits : Int) / 2 ^ ns.length = 0 := by rw [hdv]; omega
    obtain ⟨k0, k1, k2⟩ := box_load X3.out
    clear hdv hfz
    go_wp2_with fail
    refine (newHolder_calls (w.alloc (.cells #[.int .i64 (a.n : Int), .string (bs a.set), .string (bs a.rel)] 28)).heap.size w1 a w3 D3.out).mono ?_
    rintro e w4 ⟨rfl, hW, hz⟩
    have B4 := Lib.hid (B3.out.trans (hz.mono B3.out.size))
    have L4 := Lib.hid (L3.out.call hz)
    have HW := Lib.hid hW
    clear hz hW k0 k1 k2 hc3
    go_wp2_with fail
    refine (holds_calls _ w1 a ha (w3.heap.size + 1) g b ns A cap w4 T1.out Hlt.out h4 L4.out HW.out).mono ?_
    rintro e w5 ⟨rfl, hW5, hF⟩
    have B5 := Lib.hid (B4.out.trans (hF.below.mono (by have := B3.out.size; omega)))
    clear hF hW5
    go_wp2_with fail
    go_ret2
    exact ⟨rfl, B5.out⟩

set_option maxRecDepth 100000 in
theorem HoldsIn_impl (i : Int) (s r f : ByteArray) (w : World) (hs : s.size ≤ maxLen) (hr : r.size ≤ maxLen) :
    Calls Tryd.prog 17 #[stV i s r, .string f] w fun e w' => e = .returned (.tuple #[.bool (holdV i s r f []), .bool (holdB i s r f [])]) ∧ Below w.heap.size w w' := by
  have B0 := Lib.hid (show Below w.heap.size w (w.alloc (.cells #[.int .i64 i, .string s, .string r] 28)) from (Below.refl _ _).alloc (Nat.le_refl _) _)
  have hc := fun W => HoldsAt_impl i s r f none [] 0 W hs hr (by simp) (by simp) (fun h => absurd h (by simp))
  have Hc := Lib.hid hc
  obtain ⟨k0, k1, k2⟩ := box_load (Bx.new w 28 #[.int .i64 i, .string s, .string r])
  clear hc hs hr
  go_enter Tryd.func17, Tryd.ntmps17
  go_wp2_with fail
  refine (Hc.out _).mono ?_
  rintro e w1 ⟨rfl, hz⟩
  have B1 := Lib.hid (B0.out.trans (hz.mono (by simp)))
  clear hz k0 k1 k2
  go_wp2_with fail
  go_ret2
  exact ⟨rfl, B1.out⟩

end Go.Proofs.YtebjanjobfiloaaDoor

namespace Go.Proofs.YtebjanjobfiloaaDoor
open Go.RowKit
open Pl
set_option linter.unusedSimpArgs false
set_option linter.unusedVariables false

/-- the elements below k that are marked -/
def rk (f : Nat → Bool) (k : Nat) : List Nat := (List.range k).filter f
theorem rk_succ (f : Nat → Bool) (k : Nat) : rk f (k + 1) = if f k then rk f k ++ [k] else rk f k := by
  unfold rk
  rw [List.range_succ, List.filter_append]
  cases h : f k <;> simp [h]
theorem rk_len (f : Nat → Bool) (k : Nat) : (rk f k).length ≤ k := by
  have := List.length_filter_le f (List.range k)
  simpa [rk] using this

theorem own_openZ {W : World} {base : Nat} {v : Value} {zs : List Int} (h : W.ownsRow base 3 1 v zs.length (intsV zs)) : ∃ A cap, v = .slice A zs.length cap ∧ zs.length ≤ cap ∧ LRow W A zs := by
  have h0 := h
  rcases h.2 with ⟨rfl, hn⟩ | ⟨g, cap, cur, rfl, _, _, hc, _⟩
  · exact ⟨none, 0, by rw [hn], by omega, fun hl => by omega⟩
  · exact ⟨some ⟨g, 0, none⟩, cap, rfl, hc, LRow_of h0⟩
theorem own_call {W W' : World} {base n : Nat} {e : TypeId} {v : Value} {xs : List Value} (h : W.ownsRow base e 1 v n xs) (hb : Below W.heap.size W W') : W'.ownsRow base e 1 v n xs := by
  obtain ⟨h1, h2⟩ := h
  refine ⟨h1, ?_⟩
  rcases h2 with h2 | ⟨g, c, cur, hv, hg, hh, hr⟩
  · exact .inl h2
  · exact .inr ⟨g, c, cur, hv, hg, (hb.block g (Array.getElem?_eq_some_iff.1 hh).1).trans hh, hr⟩
theorem own_others {W W' : World} {base n : Nat} {e : TypeId} {v : Value} {xs : List Value} {row : Option Nat} (h : W.ownsRow base e 1 v n xs) (hg : W.grownBy W' row) (hne : v.ownBlock ≠ row ∨ v.ownBlock = none) : W'.ownsRow base e 1 v n xs := by
  obtain ⟨h1, h2⟩ := h
  refine ⟨h1, ?_⟩
  rcases h2 with h2 | ⟨g, c, cur, hv, hb, hh, hr⟩
  · exact .inl h2
  · refine .inr ⟨g, c, cur, hv, hb, (hg.block g (Array.getElem?_eq_some_iff.1 hh).1 (fun e => ?_)).trans hh, hr⟩
    rcases hne with hne | hne
    · exact hne (by rw [hv]; exact e)
    · rw [hv] at hne; cases hne
/-- two lists do not share a block -/
def Apart (v u : Value) : Prop := v.ownBlock ≠ u.ownBlock ∨ v.ownBlock = none
theorem Apart.next {W : World} {base n H : Nat} {e : TypeId} {v u u' : Value} {xs : List Value} (h : Apart v u) (ho : W.ownsRow base e 1 v n xs) (hH : W.heap.size ≤ H) (hat : u'.ownBlock = u.ownBlock ∨ u'.ownBlock = some H) : Apart v u' := by
  rcases h with h | h
  · rcases hat with hat | hat
    · exact .inl (by rw [hat]; exact h)
    · refine .inl fun e => ?_
      rw [hat] at e
      have := (ho.lt _ e).2
      omega
  · exact .inr h
theorem Apart.symm {v u : Value} (h : Apart v u) : Apart u v := by
  cases hu : u.ownBlock with
  | none => exact .inr hu
  | some g =>
    rcases h with h | h
    · exact .inl (Ne.symm h)
    · exact .inl (by rw [h, hu]; simp)
theorem Apart.new {W W' : World} {base base' n n' : Nat} {e : TypeId} {v u : Value} {xs ys : List Value} (hv : W.ownsRow base e 1 v n xs) (hu : W'.ownsRow base' e 1 u n' ys) (hb : W.heap.size ≤ base') : Apart v u := by
  cases h : v.ownBlock with
  | none => exact .inr h
  | some g =>
    refine .inl fun e => ?_
    have h1 := (hv.lt g h).2
    have h2 := (hu.lt g (by rw [← e, h])).1
    omega
theorem natsI_snoc (l : List Nat) (k : Nat) : intsV (natsI (l ++ [k])) = intsV (natsI l) ++ [.int .i64 (k : Nat)] := by simp [intsV, natsI]
theorem intsV_snoc (l : List Int) (k : Int) : intsV (l ++ [k]) = intsV l ++ [.int .i64 k] := by simp [intsV]
theorem mod_at {n m : Nat} : (n : Int).tmod (m : Int) = ((n % m : Nat) : Int) := by rw [Int.ofNat_tmod]

theorem own_cells {W : World} {base n : Nat} {e : TypeId} {v : Value} {xs : List Value} (h : W.ownsRow base e 1 v n xs) {k : Nat} (hk : v.ownBlock = some k) : ∃ c t, W.heap[k]? = some (.cells c t (0, 0)) := by
  rcases h.2 with ⟨rfl, _⟩ | ⟨g, cap, cur, rfl, _, hh, _⟩
  · simp [Value.ownBlock] at hk
  · simp [Value.ownBlock] at hk
    subst hk
    exact ⟨cur, e, hh⟩
theorem own_base {W : World} {base base' n : Nat} {e : TypeId} {v : Value} {xs : List Value} (h : W.ownsRow base e 1 v n xs) (hb : base' ≤ base) : W.ownsRow base' e 1 v n xs :=
  ⟨h.1, h.2.imp (fun h => h) fun ⟨g, c, cur, h1, h2, h3⟩ => ⟨g, c, cur, h1, Nat.le_trans hb h2, h3⟩⟩
/-- lists of things of other types do not share a block -/
theorem Apart.types {W : World} {base base' n n' : Nat} {e e' : TypeId} {v u : Value} {xs ys : List Value} (hv : W.ownsRow base e 1 v n xs) (hu : W.ownsRow base' e' 1 u n' ys) (he : e ≠ e') : Apart v u := by
  cases h : v.ownBlock with
  | none => exact .inr h
  | some g =>
    refine .inl fun e2 => ?_
    rcases hv.2 with ⟨rfl, _⟩ | ⟨g1, c1, cur1, rfl, _, h1, _⟩
    · simp [Value.ownBlock] at h
    · rcases hu.2 with ⟨rfl, _⟩ | ⟨g2, c2, cur2, rfl, _, h2, _⟩
      · simp [Value.ownBlock] at e2
      · simp [Value.ownBlock] at e2
        subst e2
        rw [h1] at h2
        injection h2 with h2
        injection h2 with _ h2 _
        exact he h2
theorem own_zeroO (w : World) {t : TypeId} : (w.alloc (.cells #[] t)).ownsRow w.heap.size t 1 (.slice (some ⟨w.heap.size, 0, none⟩) 0 0) 0 [] :=
  ⟨rfl, .inr ⟨_, 0, #[], rfl, Nat.le_refl _, Bx.new w _ _, Nat.le_refl _, Nat.zero_le _, rfl, rfl⟩⟩

end Go.Proofs.YtebjanjobfiloaaDoor

namespace Go.Proofs.YtebjanjobfiloaaDoor
open Go.RowKit
open Pl
set_option linter.unusedSimpArgs false
set_option linter.unusedVariables false

theorem own_fz {W W' : World} {B base n : Nat} {e : TypeId} {v : Value} {xs : List Value} (h : W.ownsRow base e 1 v n xs) (hf : Fz B W W') : W'.ownsRow base e 1 v n xs := by
  obtain ⟨h1, h2⟩ := h
  refine ⟨h1, ?_⟩
  rcases h2 with h2 | ⟨g, c, cur, hv, hg, hh, hr⟩
  · exact .inl h2
  · exact .inr ⟨g, c, cur, hv, hg, hf.cells _ _ _ _ hh, hr⟩
theorem HoldW.own {lo : Nat} {w0 : World} {a : St} {hb : Nat} {W W' : World} (h : HoldW lo w0 a hb W) {base n : Nat} {e : TypeId} {v : Value} {xs : List Value} (ho : W.ownsRow base e 1 v n xs) (hb2 : hb + 1 < base) (hg : W.grownBy W' v.ownBlock) : HoldW lo w0 a hb W' :=
  h.app hg fun k hk => ⟨by have := (ho.lt k hk).1; omega, own_cells ho hk⟩
theorem LRow_fz {W W' : World} {B : Nat} {A : Option Addr} {zs : List Int} (h : LRow W A zs) (hf : Fz B W W') : LRow W' A zs := fun hn => by
  obtain ⟨g, rfl, hc⟩ := h hn
  exact ⟨g, rfl, fun i hi => hf.cell (hc i hi)⟩
theorem LRow_one (W : World) (x : Nat) : LRow (W.alloc (.cells #[.int .i64 (x : Nat)] 3)) (some ⟨W.heap.size, 0, none⟩) (natsI [x]) := fun _ => ⟨_, rfl, fun i hi => by
  have : i = 0 := by simp [natsI] at hi; omega
  subst this
  exact ((Bx.new W 3 #[.int .i64 (x : Nat)]).cell 0)⟩
theorem LRow_two (W : World) (x y : Nat) : LRow (W.alloc (.cells #[.int .i64 (x : Nat), .int .i64 (y : Nat)] 3)) (some ⟨W.heap.size, 0, none⟩) (natsI [x, y]) := fun _ => ⟨_, rfl, fun i hi => by
  have : i = 0 ∨ i = 1 := by simp [natsI] at hi; omega
  rcases this with rfl | rfl
  · exact ((Bx.new W 3 #[.int .i64 (x : Nat), .int .i64 (y : Nat)]).cell 0)
  · exact ((Bx.new W 3 #[.int .i64 (x : Nat), .int .i64 (y : Nat)]).cell 1)⟩

end Go.Proofs.YtebjanjobfiloaaDoor

namespace Go.Proofs.YtebjanjobfiloaaDoor
open Go.RowKit
open Pl
set_option linter.unusedSimpArgs false
set_option linter.unusedVariables false

/-- the elements for which a formula is true -/
noncomputable def setV (i : Int) (s r f : ByteArray) : List Nat := if rdyB i s r f 1 then rk (fun x => truV i s r f [x]) (ofSt i s r).n else []
theorem set_no {i : Int} {s r f : ByteArray} (h : rdyB i s r f 1 = false) : setV i s r f = [] := by unfold setV; rw [h]; rfl
theorem set_yes {a : St} {f : ByteArray} {g : Fm} (hf : f.data.toList = g.text) (h : rdyB a.n (bs a.set) (bs a.rel) f 1 = true) : setV a.n (bs a.set) (bs a.rel) f = rk (fun x => g.holds a (envL [x])) a.n := by
  unfold setV
  rw [h]
  simp only [tru_of hf, ofSt_eq, if_true]
theorem set_le (i : Int) (s r f : ByteArray) : (setV i s r f).length ≤ 8 := by
  unfold setV
  split
  · rename_i h
    rcases ok_cases i s r with h1 | ⟨a, ha, rfl, rfl, rfl⟩
    · rw [rdy_noSt h1] at h; cases h
    · have h8 := ha.hi
      rw [ofSt_eq]
      exact Nat.le_trans (rk_len _ _) h8
  · simp

end Go.Proofs.YtebjanjobfiloaaDoor

namespace Go.Proofs.YtebjanjobfiloaaDoor
open Go.RowKit
open Pl
set_option linter.unusedSimpArgs false
set_option linter.unusedVariables false

attribute [local go_sem ↓] Go.wp_at_zero Go.wp_at_succ

set_option maxHeartbeats 4000000 in
set_option maxRecDepth 100000 in
theorem DefinedSet_impl (i : Int) (s r f : ByteArray) (w : World) (hs : s.size ≤ maxLen) (hr : r.size ≤ maxLen) :
    Calls Tryd.prog 21 #[stV i s r, .string f] w fun e w' => (∃ v, e = .returned (.tuple #[v, .bool (rdyB i s r f 1)]) ∧ w'.ownsRow w.heap.size 3 1 v (setV i s r f).length (intsV (natsI (setV i s r f)))) ∧ Below w.heap.size w w' := by
  obtain ⟨i0, hi, hz0, hz1, hz2⟩ := info_parts (P := Tryd.prog) (e := 3) (z := .int .i64 0) (size := 1) (bytes := 8) (by kernel_rfl)
  have HcI := fun W => isStructure_calls i s r W hs hr
  have B0 := Lib.hid (show Below w.heap.size w (w.alloc (.cells #[.int .i64 i, .string s, .string r] 28)) from (Below.refl _ _).alloc (Nat.le_refl _) _)
  have Xa := Lib.hid (Bx.new w 28 #[.int .i64 i, .string s, .string r])
  clear hs hr
  rcases fm_cases f with ⟨hb, hno⟩ | ⟨g, hb, hf, hs4, hl4⟩
  · rw [set_no (rdy_noFm hb i s r 1), rdy_noFm hb i s r 1]
    have Hno := Lib.hid hno
    clear hb hno HcI
    go_enter Tryd.func21, Tryd.ntmps21
    go_wp2_with fail
    refine (parseFormula_no f _ Hno.out).mono ?_
    rintro e w1 ⟨rfl, hz⟩
    have B1 := Lib.hid (B0.out.trans (hz.mono (by simp)))
    clear hz
    go_wp2_with fail
    go_ret2
    exact ⟨⟨_, rfl, rfl, .inl ⟨rfl, rfl⟩⟩, B1.out⟩
  have Hf := Lib.hid hf
  have Hb := Lib.hid hb
  have hfr : g.freeBits < 16 := freeBits_lt g
  clear hf hb
  cases hok : okB i s r
  case false =>
    have hh := rdy_noSt hok f 1
    rw [set_no (hh), hh]
    simp only [hok] at HcI
    clear hh hok
    have CI := Lib.hid HcI
    clear HcI
    go_enter Tryd.func21, Tryd.ntmps21
    go_wp2_with fail
    refine (parseFormula_yes f g _ hs4 Hf.out).mono ?_
    rintro e w1 ⟨b, rfl, htr, hz⟩
    have B1 := Lib.hid (B0.out.trans (hz.mono (by simp)))
    have X1 := Lib.hid (Xa.out.call hz)
    have T1 := Lib.hid htr
    clear hz htr
    obtain ⟨k0, k1, k2⟩ := box_load X1.out
    go_wp2_with fail
    refine (CI.out _).mono ?_
    rintro e w2 ⟨rfl, hz⟩
    have B2 := Lib.hid (B1.out.trans (hz.mono B1.out.size))
    have X2 := Lib.hid (X1.out.call hz)
    have T2 := Lib.hid (T1.out.below hz)
    have D2 := Lib.hid hz
    clear hz k0 k1 k2
    go_wp2_with fail
    go_ret2
    exact ⟨⟨_, rfl, rfl, .inl ⟨rfl, rfl⟩⟩, B2.out⟩
  case true =>
  simp only [hok] at HcI
  obtain ⟨a, ha, rfl, rfl, rfl⟩ := st_of hok
  have hry := rdy_of Hb.out Hf.out ha 1
  have CI := Lib.hid HcI
  clear HcI hok
  by_cases hfz : g.freeBits / 2 ^ 1 = 0
  case neg =>
    rw [decide_eq_false hfz] at hry
    rw [set_no (hry), hry]
    clear hry
    have hne : ((g.freeBits : Int) / 2 ^ 1 != 0) = true := by rw [div_nat, bne_iff_ne]; omega
    clear hfz
    rw [Int.pow_one] at hne
    try simp only [Int.pow_one] at hne
    go_enter Tryd.func21, Tryd.ntmps21
    go_wp2_with fail
    refine (parseFormula_yes f g _ hs4 Hf.out).mono ?_
    rintro e w1 ⟨b, rfl, htr, hz⟩
    have B1 := Lib.hid (B0.out.trans (hz.mono (by simp)))
    have X1 := Lib.hid (Xa.out.call hz)
    have T1 := Lib.hid htr
    clear hz htr
    obtain ⟨k0, k1, k2⟩ := box_load X1.out
    go_wp2_with fail
    refine (CI.out _).mono ?_
    rintro e w2 ⟨rfl, hz⟩
    have B2 := Lib.hid (B1.out.trans (hz.mono B1.out.size))
    have X2 := Lib.hid (X1.out.call hz)
    have T2 := Lib.hid (T1.out.below hz)
    have D2 := Lib.hid hz
    clear hz k0 k1 k2
    obtain ⟨_, _, _, _, _, _, hc3, _⟩ := node_cells T2.out
    go_wp2_with fail
    go_ret2
    exact ⟨⟨_, rfl, rfl, .inl ⟨rfl, rfl⟩⟩, B2.out⟩
  case pos =>
  rw [decide_eq_true hfz] at hry
  have heq : (g.freeBits : Int) / 2 ^ 1 = 0 := by rw [div_nat]; omega
  clear hfz
  rw [set_yes Hf.out hry, hry]
  obtain ⟨R0, hR0⟩ : ∃ R0 : Nat → Bool, R0 = fun x => g.holds a (envL [x]) := ⟨_, rfl⟩
  rw [← hR0]
  have HR := Lib.hid hR0
  have h8 := ha.hi
  have hzz : ∀ x, x < a.n → ∀ y ∈ [x], y < a.n := fun x hx y hy => by simp at hy; subst hy; exact hx
  clear hry hR0
  go_enter Tryd.func21, Tryd.ntmps21
  go_wp2_with fail
  refine (parseFormula_yes f g _ hs4 Hf.out).mono ?_
  rintro e w1 ⟨b, rfl, htr, hz⟩
  have B1 := Lib.hid (B0.out.trans (hz.mono (by simp)))
  have X1 := Lib.hid (Xa.out.call hz)
  have T1 := Lib.hid htr
  clear hz htr
  obtain ⟨k0, k1, k2⟩ := box_load X1.out
  go_wp2_with fail
  refine (CI.out _).mono ?_
  rintro e w2 ⟨rfl, hz⟩
  have B2 := Lib.hid (B1.out.trans (hz.mono B1.out.size))
  have X2 := Lib.hid (X1.out.call hz)
  have T2 := Lib.hid (T1.out.below hz)
  have D2 := Lib.hid hz
  clear hz k0 k1 k2
  obtain ⟨_, _, _, _, _, _, hc3, _⟩ := node_cells T2.out
  obtain ⟨k0, k1, k2⟩ := box_load X2.out
  go_wp2_with fail
  refine (newHolder_calls (w.alloc (.cells #[.int .i64 (a.n : Int), .string (bs a.set), .string (bs a.rel)] 28)).heap.size w1 a w2 D2.out).mono ?_
  rintro e w3 ⟨rfl, hW, hz⟩
  have B3 := Lib.hid (B2.out.trans (hz.mono B2.out.size))
  have X3 := Lib.hid (X2.out.call hz)
  have hlt3 := hW.box.lt
  have W3 := Lib.hid (hW.alloc (.cells #[] 3))
  have Hlt3 := Lib.hid hlt3
  have hs23 := B2.out.size
  have HS23 := Lib.hid hs23
  clear hz k0 k1 k2 hc3 hW hlt3 hs23
  obtain ⟨k0, k1, k2⟩ := box_load X3.out
  obtain ⟨m0, m1, m2⟩ := box_load (X3.out.alloc (.cells #[] 3))
  generalize hhb : w2.heap.size + 1 = hb at *
  have Hhb := Lib.hid hhb
  clear hhb
  go_wp2_with fail
  go_loopg [8, 32] a.n (fun c o xi wr => ∃ k : Nat, k + c = a.n ∧ xi = .int .i64 (k : Nat) ∧ (wr.ownsRow w3.heap.size 3 1 o (rk R0 k).length (intsV (natsI (rk R0 k))) ∧ w3.heap.size ≤ wr.heap.size) ∧ HoldW (w.alloc (.cells #[.int .i64 (a.n : Int), .string (bs a.set), .string (bs a.rel)] 28)).heap.size w1 a hb wr ∧ Below w.heap.size w wr)
  case atStart => exact ⟨0, by omega, rfl, ⟨own_zeroO w3, by simp⟩, W3.out, B3.out.alloc B3.out.size _⟩
  case round =>
    obtain ⟨k, hk, rfl, ⟨ho, hs4'⟩, hWr, hbl⟩ := hrel
    clear k0 k1 k2 m0 m1 m2
    have Ho := Lib.hid ho
    have Hbl := Lib.hid hbl
    have Hs4 := Lib.hid hs4'
    have HWr := Lib.hid hWr
    have hrl := rk_len R0 k
    clear ho hbl hs4' hWr
    by_cases hlt : k < a.n
    · have j1 : (0 : Int) ≤ (k : Int) := by omega
      have j2 : (k : Int) < (a.n : Int) := by omega
      have hcall := holds_calls (w.alloc (.cells #[.int .i64 (a.n : Int), .string (bs a.set), .string (bs a.rel)] 28)).heap.size w1 a ha hb g b [k] (some ⟨wr.heap.size, 0, none⟩) 1 (wr.alloc (.cells #[.int .i64 (k : Nat)] 3)) T1.out (hzz k hlt) (by simp) (LRow_one wr k) (HWr.out.alloc _)
      rw [show g.holds a (envL [k]) = R0 k by rw [HR.out]] at hcall
      simp only [List.length_singleton] at hcall
      have F0 := Lib.hid (show Below w.heap.size w (wr.alloc (.cells #[.int .i64 (k : Nat)] 3)) from Hbl.out.alloc Hbl.out.size _)
      have O1 := Lib.hid (Ho.out.alloc (.cells #[.int .i64 (k : Nat)] 3))
      have HC := Lib.hid hcall
      clear hcall
      cases hq : R0 k with
      | false =>
        have hsc : rk R0 (k + 1) = rk R0 k := by rw [rk_succ, hq]; rfl
        rw [hq] at HC
        have Hsc := Lib.hid hsc
        clear hsc hq
        go_wp2_with fail
        refine (HC.out).mono ?_
        rintro e w4 ⟨rfl, hW4, hF⟩
        have W4 := Lib.hid hW4
        have F4 := Lib.hid (F0.out.trans (hF.below.mono (by have := HS23.out; have := Hhb.out; omega)))
        have O4 := Lib.hid (own_fz O1.out hF)
        have S4 := Lib.hid (show w3.heap.size ≤ w4.heap.size from by have h1 := hF.below.size; have h2 := Hs4.out; simp at h1; omega)
        clear hW4 hF
        go_wp2_with fail
        go_roundg (a.n - k - 1)
        case rel => exact ⟨k + 1, by omega, by go_num, ⟨by rw [Hsc.out]; exact O4.out, S4.out⟩, W4.out, F4.out⟩
        case measure => omega
      | true =>
        have hsc : rk R0 (k + 1) = rk R0 k ++ [k] := by rw [rk_succ, hq]; rfl
        rw [hq] at HC
        have Hsc := Lib.hid hsc
        clear hsc hq
        go_wp2_with fail
        refine (HC.out).mono ?_
        rintro e w4 ⟨rfl, hW4, hF⟩
        have W4 := Lib.hid hW4
        have F4 := Lib.hid (F0.out.trans (hF.below.mono (by have := HS23.out; have := Hhb.out; omega)))
        have O4 := Lib.hid (own_fz O1.out hF)
        have S4 := Lib.hid (show w3.heap.size ≤ w4.heap.size from by have h1 := hF.below.size; have h2 := Hs4.out; simp at h1; omega)
        clear hW4 hF
        go_wp2_with (at_builtin; refine wpList_append_own_at _ rfl (.tmp 40) (.tmp 42) 24 rfl w3.heap.size 3 i0 (.int .i64 0) 1 8 Tryd.underlying24 hi hz0 hz1 hz2 rfl (by decide) _ (rk R0 k).length (intsV (natsI (rk R0 k))) rfl (O4.out.alloc _) ⟨w4.heap.size, 0, none⟩ 1 1 [.int .i64 (k : Nat)] rfl rfl (cell_one_new _ _ _) (ints_oneCell .i64 [((k : Nat) : Int)]) (by unfold maxLen; omega) (by omega) (by have := S4.out; simp; omega) ?_; intro v2 w5 ho5 hg5 hn5 hat5; clear hn5 hat5; have W5 := Lib.hid ((W4.out.alloc _).own (O4.out.alloc _) (by have := Hlt3.out; omega) hg5))
        go_roundg (a.n - k - 1)
        case rel =>
          refine ⟨k + 1, by omega, by go_num, ⟨by rw [Hsc.out, show intsV (natsI (rk R0 k ++ [k])) = intsV (natsI (rk R0 k)) ++ [.int .i64 (k : Nat)] by simp [intsV, natsI], List.length_append, List.length_singleton]; exact ho5, ?_⟩, W5.out, ?_⟩
          · have h1 := hg5.size
            have h2 := S4.out
            simp at h1
            omega
          · exact (F4.out.alloc F4.out.size _).grown hg5 (by have := F4.out.size; simp; omega) (fun j hj => by have h1 := (O4.out.lt j hj).1; have h2 := B3.out.size; omega)
        case measure => omega
    · obtain rfl : k = a.n := by omega
      go_wp2_with fail
      go_ret2
      exact ⟨⟨_, rfl, own_base Ho.out (by have := B3.out.size; omega)⟩, Hbl.out⟩

end Go.Proofs.YtebjanjobfiloaaDoor

namespace Go.Proofs.YtebjanjobfiloaaDoor
open Go.RowKit
open Pl
set_option linter.unusedSimpArgs false

theorem varI_of {s : ByteArray} {k : Nat} {v : Fin 4} {r : List UInt8} (h : s.data.toList.drop k = vb v :: r) : varI s.data.toList k = v.val := by
  have h1 : s.data.toList[k]? = some (vb v) := by
    have h2 : (s.data.toList.drop k)[0]? = some (vb v) := by rw [h]; rfl
    simpa using h2
  unfold varI
  rw [h1]
  simp [varOf_vb]

theorem l2Var_of (s : ByteArray) (k : Nat) (v : Fin 4) (r : List UInt8) (m : Int) (w : World) (hs : s.size ≤ 4000) (h : s.data.toList.drop k = vb v :: r) (hm : m = k) :
    Calls Tryd.prog 52 #[.string s, .int .i64 m] w fun e w' => e = .returned (.int .i64 v.val) ∧ w = w' := by
  subst hm
  have hk : k < s.size := by
    have := congrArg List.length h
    rw [List.length_drop, ← Lib.size_eq] at this
    simp at this; omega
  rw [← varI_of h]
  exact l2Var_at s k w (by unfold maxLen; omega) (by omega) (by unfold maxLen; omega)

theorem one_bit (v : Fin 4) : wrap64 (2 ^ v.val) = ((1 <<< v.val : Nat) : Int) := by revert v; decide +kernel

set_option maxHeartbeats 1000000 in
set_option maxRecDepth 100000 in
theorem l2Free_calls (n : Nat) : ∀ (f : Fm) (s : ByteArray) (k : Nat) (r : List UInt8) (m : Int) (w : World), f.size ≤ n → s.data.toList.drop k = f.text ++ r → s.size ≤ 4000 → m = k →
    Calls Tryd.prog 33 #[.string s, .int .i64 m] w fun e w' => e = .returned (.tuple #[.int .i64 f.freeBits, .int .i64 (k + f.text.length : Nat)]) ∧ w = w' := by
  induction n with
  | zero => intro f s k r m w hn; cases f <;> simp [Fm.size] at hn
  | succ n ih =>
    intro f s k r m w hn hd hs hm
    subst hm
    obtain ⟨hk1, hop, hle⟩ := at_op hd
    have hk := hk1
    have Ih := Lib.hid ih
    clear ih
    cases f with
    | tru =>
      have hk := hk1
      have hb : (s[k].toNat : Int) = 116 := by rw [hop]; rfl
      clear hop hd
      go_enter Tryd.func33, Tryd.ntmps33
      go_wp2_with fail
      go_ret2
      exact ⟨rfl, rfl⟩
    | fls =>
      have hk := hk1
      have hb : (s[k].toNat : Int) = 102 := by rw [hop]; rfl
      clear hop hd
      go_enter Tryd.func33, Tryd.ntmps33
      go_wp2_with fail
      go_ret2
      exact ⟨rfl, rfl⟩
    | pr v =>
      have hb : (s[k].toNat : Int) = 80 := by rw [hop]; rfl
      have h1 := l2Var_of s (k + 1) v r ((k : Int) + 1) w hs (drop_add_of (p := [80]) (by simpa [Fm.text] using hd)) (by omega)
      have H1 := Lib.hid h1
      have hv3 : (v.val : Int) < 4 := by omega
      simp only [Fm.text, List.length_cons, List.length_nil] at hle
      clear hop hd h1
      go_enter Tryd.func33, Tryd.ntmps33
      go_wp2_with (go_at_call 52; refine (H1.out).mono ?_; rintro e w' ⟨rfl, rfl⟩)
      go_ret2
      exact ⟨ret_pair (by show Value.int .i64 _ = Value.int .i64 _; congr 1 <;> exact one_bit v) (by show Value.int .i64 _ = Value.int .i64 _; congr 1 <;> simp [Fm.text] <;> omega), rfl⟩
    | eq v u =>
      have hb : (s[k].toNat : Int) = 61 := by rw [hop]; rfl
      have h1 := l2Var_of s (k + 1) v (vb u :: r) ((k : Int) + 1) w hs (drop_add_of (p := [61]) (by simpa [Fm.text] using hd)) (by omega)
      have h2 := l2Var_of s (k + 2) u r ((k : Int) + 2) w hs (drop_add_of (p := [61, vb v]) (by simpa [Fm.text] using hd)) (by omega)
      have H1 := Lib.hid h1
      have H2 := Lib.hid h2
      have hv3 : (v.val : Int) < 4 := by omega
      have hu3 : (u.val : Int) < 4 := by omega
      simp only [Fm.text, List.length_cons, List.length_nil] at hle
      clear hop hd h1 h2
      go_enter Tryd.func33, Tryd.ntmps33
      go_wp2_with (first | (go_at_call 52; ((with_reducible refine (H1.out).mono ?_); rintro e w' ⟨rfl, rfl⟩)) | (go_at_call 52; ((with_reducible refine (H2.out).mono ?_); rintro e w' ⟨rfl, rfl⟩)))
      go_ret2
      exact ⟨ret_pair (by show Value.int .i64 _ = Value.int .i64 _; congr 1 <;> (rw [one_bit v]; exact or_bit _ u (bit_lt v))) (by show Value.int .i64 _ = Value.int .i64 _; congr 1 <;> simp [Fm.text] <;> omega), rfl⟩
    | rel v u =>
      have hb : (s[k].toNat : Int) = 69 := by rw [hop]; rfl
      have h1 := l2Var_of s (k + 1) v (vb u :: r) ((k : Int) + 1) w hs (drop_add_of (p := [69]) (by simpa [Fm.text] using hd)) (by omega)
      have h2 := l2Var_of s (k + 2) u r ((k : Int) + 2) w hs (drop_add_of (p := [69, vb v]) (by simpa [Fm.text] using hd)) (by omega)
      have H1 := Lib.hid h1
      have H2 := Lib.hid h2
      have hv3 : (v.val : Int) < 4 := by omega
      have hu3 : (u.val : Int) < 4 := by omega
      simp only [Fm.text, List.length_cons, List.length_nil] at hle
      clear hop hd h1 h2
      go_enter Tryd.func33, Tryd.ntmps33
      go_wp2_with (first | (go_at_call 52; ((with_reducible refine (H1.out).mono ?_); rintro e w' ⟨rfl, rfl⟩)) | (go_at_call 52; ((with_reducible refine (H2.out).mono ?_); rintro e w' ⟨rfl, rfl⟩)))
      go_ret2
      exact ⟨ret_pair (by show Value.int .i64 _ = Value.int .i64 _; congr 1 <;> (rw [one_bit v]; exact or_bit _ u (bit_lt v))) (by show Value.int .i64 _ = Value.int .i64 _; congr 1 <;> simp [Fm.text] <;> omega), rfl⟩
    | neg p =>
      have hb : (s[k].toNat : Int) = 33 := by rw [hop]; rfl
      simp only [Fm.text, List.length_cons] at hle
      have hcall := Ih.out p s (k + 1) r ((k : Int) + 1) w (by simp [Fm.size] at hn; omega) (at_one hd) hs (by omega)
      have Hcall := Lib.hid hcall
      clear hop hcall hd
      go_enter Tryd.func33, Tryd.ntmps33
      go_wp2_with (go_at_call 33; refine (Hcall.out).mono ?_; rintro e w' ⟨rfl, rfl⟩)
      go_ret2
      exact ⟨ret_pair (by show Value.int .i64 _ = Value.int .i64 _; congr 1) (by show Value.int .i64 _ = Value.int .i64 _; congr 1 <;> simp [Fm.text] <;> omega), rfl⟩
    | con p q =>
      have hb : (s[k].toNat : Int) = 38 := by rw [hop]; rfl
      simp only [Fm.text, List.length_cons, List.length_append] at hle
      obtain ⟨hd1, hd2⟩ := at_two hd
      have hcall := Ih.out p s (k + 1) _ ((k : Int) + 1) w (by simp [Fm.size] at hn; omega) hd1 hs (by omega)
      have hcall2 := Ih.out q s (k + 1 + p.text.length) _ ((k + 1 + p.text.length : Nat) : Int) w (by simp [Fm.size] at hn; omega) hd2 hs rfl
      have hq0 : ∀ w, Calls Tryd.prog 53 #[.int .u8 38] w fun e w' => e = .returned (.bool false) ∧ w = w' := fun w => l2Quant_calls 38 false rfl w
      have Hcall := Lib.hid hcall
      have Hcall2 := Lib.hid hcall2
      have Hq0 := Lib.hid hq0
      clear hop hcall hcall2 hd hd1 hd2 hq0
      go_enter Tryd.func33, Tryd.ntmps33
      go_upto_region 13 with (first | (go_at_call 53; refine (Hq0.out _).mono ?_; rintro e w' ⟨rfl, rfl⟩) | (go_at_call 33; refine (Hcall.out).mono ?_; rintro e w' ⟨rfl, rfl⟩))
      go_wp2_with (go_at_call 33; refine (Hcall2.out).mono ?_; rintro e w' ⟨rfl, rfl⟩)
      go_ret2
      exact ⟨ret_pair (by show Value.int .i64 _ = Value.int .i64 _; congr 1 <;> exact or_nat _ _ (freeBits_lt p) (freeBits_lt q)) (by show Value.int .i64 _ = Value.int .i64 _; congr 1 <;> simp [Fm.text] <;> omega), rfl⟩
    | dis p q =>
      have hb : (s[k].toNat : Int) = 124 := by rw [hop]; rfl
      simp only [Fm.text, List.length_cons, List.length_append] at hle
      obtain ⟨hd1, hd2⟩ := at_two hd
      have hcall := Ih.out p s (k + 1) _ ((k : Int) + 1) w (by simp [Fm.size] at hn; omega) hd1 hs (by omega)
      have hcall2 := Ih.out q s (k + 1 + p.text.length) _ ((k + 1 + p.text.length : Nat) : Int) w (by simp [Fm.size] at hn; omega) hd2 hs rfl
      have hq0 : ∀ w, Calls Tryd.prog 53 #[.int .u8 124] w fun e w' => e = .returned (.bool false) ∧ w = w' := fun w => l2Quant_calls 124 false rfl w
      have Hcall := Lib.hid hcall
      have Hcall2 := Lib.hid hcall2
      have Hq0 := Lib.hid hq0
      clear hop hcall hcall2 hd hd1 hd2 hq0
      go_enter Tryd.func33, Tryd.ntmps33
      go_upto_region 13 with (first | (go_at_call 53; refine (Hq0.out _).mono ?_; rintro e w' ⟨rfl, rfl⟩) | (go_at_call 33; refine (Hcall.out).mono ?_; rintro e w' ⟨rfl, rfl⟩))
      go_wp2_with (go_at_call 33; refine (Hcall2.out).mono ?_; rintro e w' ⟨rfl, rfl⟩)
      go_ret2
      exact ⟨ret_pair (by show Value.int .i64 _ = Value.int .i64 _; congr 1 <;> exact or_nat _ _ (freeBits_lt p) (freeBits_lt q)) (by show Value.int .i64 _ = Value.int .i64 _; congr 1 <;> simp [Fm.text] <;> omega), rfl⟩
    | qu q v p =>
      have hd1 := at_qu hd
      have hdv : s.data.toList.drop (k + 1) = vb v :: (p.text ++ r) := drop_add_of (p := [q.b]) (by simpa [Fm.text] using hd)
      have h1 := l2Var_of s (k + 1) v _ ((k : Int) + 1) w hs hdv (by omega)
      simp only [Fm.text, List.length_cons] at hle
      have hcall := Ih.out p s (k + 2) _ ((k : Int) + 2) w (by simp [Fm.size] at hn; omega) hd1 hs (by omega)
      have hv3 : (v.val : Int) < 4 := by omega
      have H1 := Lib.hid h1
      have Hcall := Lib.hid hcall
      clear hcall hd hd1 hdv h1
      cases q with
      | A =>
        have hb : (s[k].toNat : Int) = 65 := by rw [hop]; rfl
        have hq0 : ∀ w, Calls Tryd.prog 53 #[.int .u8 65] w fun e w' => e = .returned (.bool true) ∧ w = w' := fun w => l2Quant_calls 65 true rfl w
        have Hq0 := Lib.hid hq0
        clear hop hq0
        go_enter Tryd.func33, Tryd.ntmps33
        go_wp2_with (first | (go_at_call 53; refine (Hq0.out _).mono ?_; rintro e w' ⟨rfl, rfl⟩) | (go_at_call 33; refine (Hcall.out).mono ?_; rintro e w' ⟨rfl, rfl⟩) | (go_at_call 52; refine (H1.out).mono ?_; rintro e w' ⟨rfl, rfl⟩))
        go_ret2
        exact ⟨ret_pair (by show Value.int .i64 _ = Value.int .i64 _; congr 1 <;> exact andNot_bit _ v (freeBits_lt p)) (by show Value.int .i64 _ = Value.int .i64 _; congr 1 <;> simp [Fm.text] <;> omega), rfl⟩
      | S =>
        have hb : (s[k].toNat : Int) = 83 := by rw [hop]; rfl
        have hq0 : ∀ w, Calls Tryd.prog 53 #[.int .u8 83] w fun e w' => e = .returned (.bool true) ∧ w = w' := fun w => l2Quant_calls 83 true rfl w
        have Hq0 := Lib.hid hq0
        clear hop hq0
        go_enter Tryd.func33, Tryd.ntmps33
        go_wp2_with (first | (go_at_call 53; refine (Hq0.out _).mono ?_; rintro e w' ⟨rfl, rfl⟩) | (go_at_call 33; refine (Hcall.out).mono ?_; rintro e w' ⟨rfl, rfl⟩) | (go_at_call 52; refine (H1.out).mono ?_; rintro e w' ⟨rfl, rfl⟩))
        go_ret2
        exact ⟨ret_pair (by show Value.int .i64 _ = Value.int .i64 _; congr 1 <;> exact andNot_bit _ v (freeBits_lt p)) (by show Value.int .i64 _ = Value.int .i64 _; congr 1 <;> simp [Fm.text] <;> omega), rfl⟩
      | c2 =>
        have hb : (s[k].toNat : Int) = 50 := by rw [hop]; rfl
        have hq0 : ∀ w, Calls Tryd.prog 53 #[.int .u8 50] w fun e w' => e = .returned (.bool true) ∧ w = w' := fun w => l2Quant_calls 50 true rfl w
        have Hq0 := Lib.hid hq0
        clear hop hq0
        go_enter Tryd.func33, Tryd.ntmps33
        go_wp2_with (first | (go_at_call 53; refine (Hq0.out _).mono ?_; rintro e w' ⟨rfl, rfl⟩) | (go_at_call 33; refine (Hcall.out).mono ?_; rintro e w' ⟨rfl, rfl⟩) | (go_at_call 52; refine (H1.out).mono ?_; rintro e w' ⟨rfl, rfl⟩))
        go_ret2
        exact ⟨ret_pair (by show Value.int .i64 _ = Value.int .i64 _; congr 1 <;> exact andNot_bit _ v (freeBits_lt p)) (by show Value.int .i64 _ = Value.int .i64 _; congr 1 <;> simp [Fm.text] <;> omega), rfl⟩
      | c3 =>
        have hb : (s[k].toNat : Int) = 51 := by rw [hop]; rfl
        have hq0 : ∀ w, Calls Tryd.prog 53 #[.int .u8 51] w fun e w' => e = .returned (.bool true) ∧ w = w' := fun w => l2Quant_calls 51 true rfl w
        have Hq0 := Lib.hid hq0
        clear hop hq0
        go_enter Tryd.func33, Tryd.ntmps33
        go_wp2_with (first | (go_at_call 53; refine (Hq0.out _).mono ?_; rintro e w' ⟨rfl, rfl⟩) | (go_at_call 33; refine (Hcall.out).mono ?_; rintro e w' ⟨rfl, rfl⟩) | (go_at_call 52; refine (H1.out).mono ?_; rintro e w' ⟨rfl, rfl⟩))
        go_ret2
        exact ⟨ret_pair (by show Value.int .i64 _ = Value.int .i64 _; congr 1 <;> exact andNot_bit _ v (freeBits_lt p)) (by show Value.int .i64 _ = Value.int .i64 _; congr 1 <;> simp [Fm.text] <;> omega), rfl⟩
      | c4 =>
        have hb : (s[k].toNat : Int) = 52 := by rw [hop]; rfl
        have hq0 : ∀ w, Calls Tryd.prog 53 #[.int .u8 52] w fun e w' => e = .returned (.bool true) ∧ w = w' := fun w => l2Quant_calls 52 true rfl w
        have Hq0 := Lib.hid hq0
        clear hop hq0
        go_enter Tryd.func33, Tryd.ntmps33
        go_wp2_with (first | (go_at_call 53; refine (Hq0.out _).mono ?_; rintro e w' ⟨rfl, rfl⟩) | (go_at_call 33; refine (Hcall.out).mono ?_; rintro e w' ⟨rfl, rfl⟩) | (go_at_call 52; refine (H1.out).mono ?_; rintro e w' ⟨rfl, rfl⟩))
        go_ret2
        exact ⟨ret_pair (by show Value.int .i64 _ = Value.int .i64 _; congr 1 <;> exact andNot_bit _ v (freeBits_lt p)) (by show Value.int .i64 _ = Value.int .i64 _; congr 1 <;> simp [Fm.text] <;> omega), rfl⟩

/-- the free variables' text, for a formula -/
noncomputable def txtV (l : List UInt8) (g : Fm → List UInt8) : ByteArray := match parse l with | some (f, []) => if l.length ≤ 4000 then bs (g f) else bs [] | _ => bs []

theorem txtV_yes {l : List UInt8} {f : Fm} (g : Fm → List UInt8) (h : l = f.text) (hl : l.length ≤ 4000) : txtV l g = bs (g f) := by
  unfold txtV
  rw [parse_some.2 (show l = f.text ++ [] by rw [h]; simp)]
  simp [hl]

theorem txtV_no {l : List UInt8} (g : Fm → List UInt8) (h : ¬ IsFm l) : txtV l g = bs [] := by
  unfold txtV
  cases hp : parse l with
  | none => rfl
  | some x =>
    obtain ⟨f, r⟩ := x
    cases r with
    | nil =>
      have := parse_some.1 hp
      by_cases hl : l.length ≤ 4000
      · exact absurd ⟨hl, f, by simpa using this⟩ h
      · simp [hl]
    | cons a r => rfl

def freeT (f : Fm) : List UInt8 := varsL f.freeBits 4

end Go.Proofs.YtebjanjobfiloaaDoor

namespace Go.Proofs.YtebjanjobfiloaaDoor
open Go.RowKit
open Pl
set_option linter.unusedSimpArgs false
set_option linter.unusedVariables false

theorem l2End_of (s : ByteArray) (k : Nat) (f : Fm) (r : List UInt8) (m : Int) (w : World) (hs : s.size ≤ 4000) (h : s.data.toList.drop k = f.text ++ r) (hm : m = k) :
    Calls Tryd.prog 51 #[.string s, .int .i64 m] w fun e w' => e = .returned (.int .i64 (k + f.text.length : Nat)) ∧ w = w' := by
  subst hm
  have hk : k < s.size := by
    have h1 := congrArg List.length h
    have h2 := f.text_pos
    rw [List.length_drop, ← Lib.size_eq] at h1
    simp at h1; omega
  have h1 := l2End_calls s.size s k w (by omega) (by unfold maxLen; omega) (by omega)
  rwa [endI_some h] at h1

theorem cnt_split (n x : Nat) (p : Nat → Bool) (h : x ≤ n) : cnt x p ≤ cnt n p ∧ cnt n p ≤ cnt x p + (n - x) := by
  induction n with
  | zero => obtain rfl : x = 0 := by omega
            exact ⟨Nat.le_refl _, by omega⟩
  | succ n ih =>
    by_cases hx : x = n + 1
    · subst hx; exact ⟨Nat.le_refl _, by omega⟩
    · have := ih (by omega)
      rw [cnt_succ]
      split <;> omega
/-- how many a quantifier asks -/
def Pl.Qn.need (k : Qn) (n : Nat) : Nat := match k with | .A => n | .S => 1 | .c2 => 2 | .c3 => 3 | .c4 => 4
theorem says_need (k : Qn) {n c : Nat} (h : c ≤ n) : k.says n c = decide (k.need n ≤ c) := by
  rw [Bool.eq_iff_iff, decide_eq_true_eq]
  cases k
  · show (c == n) = true ↔ n ≤ c
    rw [beq_iff_eq]; omega
  · show decide (0 < c) = true ↔ 1 ≤ c
    rw [decide_eq_true_eq]; omega
  · show decide (2 ≤ c) = true ↔ 2 ≤ c
    rw [decide_eq_true_eq]
  · show decide (3 ≤ c) = true ↔ 3 ≤ c
    rw [decide_eq_true_eq]
  · show decide (4 ≤ c) = true ↔ 4 ≤ c
    rw [decide_eq_true_eq]
theorem says_enough (k : Qn) {n x : Nat} {p : Nat → Bool} (hx : x ≤ n) (h : k.need n ≤ cnt x p) : k.says n (cnt n p) = true := by
  rw [says_need k (cnt_le n p), decide_eq_true_eq]
  have := cnt_split n x p hx
  omega
theorem says_never (k : Qn) {n x : Nat} {p : Nat → Bool} (hx : x ≤ n) (h : cnt x p + (n - x) < k.need n) : k.says n (cnt n p) = false := by
  rw [says_need k (cnt_le n p), decide_eq_false_iff_not]
  have := cnt_split n x p hx
  omega
/-- the elements of the four variables, as a value -/
def envA4 (e : Env) : Array Value := #[.int .i64 (e 0 : Nat), .int .i64 (e 1 : Nat), .int .i64 (e 2 : Nat), .int .i64 (e 3 : Nat)]
theorem envA_upd (e : Env) (v : Fin 4) (x : Nat) : (envA4 e).setIfInBounds v.val (.int .i64 (x : Nat)) = envA4 (upd e v x) := by
  have : v = 0 ∨ v = 1 ∨ v = 2 ∨ v = 3 := by revert v; decide
  rcases this with rfl | rfl | rfl | rfl <;> rfl
theorem env_at (e : Env) (v : Fin 4) : (envA4 e)[v.val]? = some (.int .i64 (e v : Nat)) := by
  have : v = 0 ∨ v = 1 ∨ v = 2 ∨ v = 3 := by revert v; decide
  rcases this with rfl | rfl | rfl | rfl <;> rfl
theorem upd_upd (e e' : Env) (v : Fin 4) (x : Nat) (h : ∀ u, u ≠ v → e' u = e u) : upd e' v x = upd e v x := by
  funext u
  unfold upd
  by_cases hu : u = v
  · simp [hu]
  · simp [hu, h u hu]

/-- what l2Holds gives back for a formula -/
def SHAt (a : St) (f : Fm) : Prop := ∀ (s : ByteArray) (k : Nat) (r : List UInt8) (m : Int) (e : Env) (w : World), s.data.toList.drop k = f.text ++ r → s.size ≤ 4000 → m = k → (∀ v, e v < a.n) →
    Calls Tryd.prog 54 #[stA a, .string s, .int .i64 m, .agg (envA4 e)] w fun ed w' => ed = .returned (.tuple #[.bool (f.holds a e), .int .i64 (k + f.text.length : Nat)]) ∧ Below w.heap.size w w'

set_option maxHeartbeats 4000000 in
set_option maxRecDepth 100000 in
theorem sh_tru (a : St) (ha : a.ok)  : SHAt a .tru := by
  intro s k r m e w hd hs hm he
  subst hm
  obtain ⟨hk1, hop, hle⟩ := at_op hd
  have h8 := ha.hi
  have XS := Lib.hid ((Bx.new w 28 #[.int .i64 (a.n : Int), .string (bs a.set), .string (bs a.rel)]).alloc (.cells #[.int .i64 (e 0 : Nat), .int .i64 (e 1 : Nat), .int .i64 (e 2 : Nat), .int .i64 (e 3 : Nat)] 46))
  have XE := Lib.hid (show Bx ((w.alloc (.cells #[.int .i64 (a.n : Int), .string (bs a.set), .string (bs a.rel)] 28)).alloc (.cells #[.int .i64 (e 0 : Nat), .int .i64 (e 1 : Nat), .int .i64 (e 2 : Nat), .int .i64 (e 3 : Nat)] 46)) (w.heap.size + 1) 46 #[.int .i64 (e 0 : Nat), .int .i64 (e 1 : Nat), .int .i64 (e 2 : Nat), .int .i64 (e 3 : Nat)] from bx_two w _ _)
  have BV := Lib.hid (show Below w.heap.size w ((w.alloc (.cells #[.int .i64 (a.n : Int), .string (bs a.set), .string (bs a.rel)] 28)).alloc (.cells #[.int .i64 (e 0 : Nat), .int .i64 (e 1 : Nat), .int .i64 (e 2 : Nat), .int .i64 (e 3 : Nat)] 46)) from ((Below.refl _ _).alloc (Nat.le_refl _) _).alloc (by simp) _)
  obtain ⟨s0, s1, s2⟩ := box_load XS.out
  have hev : ∀ v : Fin 4, ((w.alloc (.cells #[.int .i64 (a.n : Int), .string (bs a.set), .string (bs a.rel)] 28)).alloc (.cells #[.int .i64 (e 0 : Nat), .int .i64 (e 1 : Nat), .int .i64 (e 2 : Nat), .int .i64 (e 3 : Nat)] 46)).cell? ⟨w.heap.size + 1, v.val, none⟩ = some (.int .i64 (e v : Nat)) := fun v => (XE.out.cell v.val).trans (env_at e v)
  have c0 := XE.out.cell 0
  have c1 := XE.out.cell 1
  have c2 := XE.out.cell 2
  have c3 := XE.out.cell 3
  simp only [List.getElem?_toArray, List.getElem?_cons_zero, List.getElem?_cons_succ] at c0 c1 c2 c3
  have Hev := Lib.hid hev
  have He := Lib.hid he
  clear hev he
  unfold stA envA4
  have hk := hk1
  have hb : (s[k].toNat : Int) = 116 := by rw [hop]; rfl
  clear hop hd c0 c1 c2 c3 s0 s1 s2
  go_enter Tryd.func54, Tryd.ntmps54
  go_wp2_with fail
  go_ret2
  exact ⟨rfl, BV.out⟩

set_option maxHeartbeats 4000000 in
set_option maxRecDepth 100000 in
theorem sh_fls (a : St) (ha : a.ok)  : SHAt a .fls := by
  intro s k r m e w hd hs hm he
  subst hm
  obtain ⟨hk1, hop, hle⟩ := at_op hd
  have h8 := ha.hi
  have XS := Lib.hid ((Bx.new w 28 #[.int .i64 (a.n : Int), .string (bs a.set), .string (bs a.rel)]).alloc (.cells #[.int .i64 (e 0 : Nat), .int .i64 (e 1 : Nat), .int .i64 (e 2 : Nat), .int .i64 (e 3 : Nat)] 46))
  have XE := Lib.hid (show Bx ((w.alloc (.cells #[.int .i64 (a.n : Int), .string (bs a.set), .string (bs a.rel)] 28)).alloc (.cells #[.int .i64 (e 0 : Nat), .int .i64 (e 1 : Nat), .int .i64 (e 2 : Nat), .int .i64 (e 3 : Nat)] 46)) (w.heap.size + 1) 46 #[.int .i64 (e 0 : Nat), .int .i64 (e 1 : Nat), .int .i64 (e 2 : Nat), .int .i64 (e 3 : Nat)] from bx_two w _ _)
  have BV := Lib.hid (show Below w.heap.size w ((w.alloc (.cells #[.int .i64 (a.n : Int), .string (bs a.set), .string (bs a.rel)] 28)).alloc (.cells #[.int .i64 (e 0 : Nat), .int .i64 (e 1 : Nat), .int .i64 (e 2 : Nat), .int .i64 (e 3 : Nat)] 46)) from ((Below.refl _ _).alloc (Nat.le_refl _) _).alloc (by simp) _)
  obtain ⟨s0, s1, s2⟩ := box_load XS.out
  have hev : ∀ v : Fin 4, ((w.alloc (.cells #[.int .i64 (a.n : Int), .string (bs a.set), .string (bs a.rel)] 28)).alloc (.cells #[.int .i64 (e 0 : Nat), .int .i64 (e 1 : Nat), .int .i64 (e 2 : Nat), .int .i64 (e 3 : Nat)] 46)).cell? ⟨w.heap.size + 1, v.val, none⟩ = some (.int .i64 (e v : Nat)) := fun v => (XE.out.cell v.val).trans (env_at e v)
  have c0 := XE.out.cell 0
  have c1 := XE.out.cell 1
  have c2 := XE.out.cell 2
  have c3 := XE.out.cell 3
  simp only [List.getElem?_toArray, List.getElem?_cons_zero, List.getElem?_cons_succ] at c0 c1 c2 c3
  have Hev := Lib.hid hev
  have He := Lib.hid he
  clear hev he
  unfold stA envA4
  have hk := hk1
  have hb : (s[k].toNat : Int) = 102 := by rw [hop]; rfl
  clear hop hd c0 c1 c2 c3 s0 s1 s2
  go_enter Tryd.func54, Tryd.ntmps54
  go_wp2_with fail
  go_ret2
  exact ⟨rfl, BV.out⟩



end Go.Proofs.YtebjanjobfiloaaDoor

namespace Go.Proofs.YtebjanjobfiloaaDoor
open Go.RowKit
open Pl
set_option linter.unusedSimpArgs false
set_option linter.unusedVariables false

set_option maxHeartbeats 4000000 in
set_option maxRecDepth 100000 in
theorem sh_pr (a : St) (ha : a.ok) (v : Fin 4) : SHAt a (.pr v) := by
  intro s k r m e w hd hs hm he
  subst hm
  obtain ⟨hk1, hop, hle⟩ := at_op hd
  have h8 := ha.hi
  have XS := Lib.hid ((Bx.new w 28 #[.int .i64 (a.n : Int), .string (bs a.set), .string (bs a.rel)]).alloc (.cells #[.int .i64 (e 0 : Nat), .int .i64 (e 1 : Nat), .int .i64 (e 2 : Nat), .int .i64 (e 3 : Nat)] 46))
  have XE := Lib.hid (show Bx ((w.alloc (.cells #[.int .i64 (a.n : Int), .string (bs a.set), .string (bs a.rel)] 28)).alloc (.cells #[.int .i64 (e 0 : Nat), .int .i64 (e 1 : Nat), .int .i64 (e 2 : Nat), .int .i64 (e 3 : Nat)] 46)) (w.heap.size + 1) 46 #[.int .i64 (e 0 : Nat), .int .i64 (e 1 : Nat), .int .i64 (e 2 : Nat), .int .i64 (e 3 : Nat)] from bx_two w _ _)
  have BV := Lib.hid (show Below w.heap.size w ((w.alloc (.cells #[.int .i64 (a.n : Int), .string (bs a.set), .string (bs a.rel)] 28)).alloc (.cells #[.int .i64 (e 0 : Nat), .int .i64 (e 1 : Nat), .int .i64 (e 2 : Nat), .int .i64 (e 3 : Nat)] 46)) from ((Below.refl _ _).alloc (Nat.le_refl _) _).alloc (by simp) _)
  obtain ⟨s0, s1, s2⟩ := box_load XS.out
  have hev : ∀ v : Fin 4, ((w.alloc (.cells #[.int .i64 (a.n : Int), .string (bs a.set), .string (bs a.rel)] 28)).alloc (.cells #[.int .i64 (e 0 : Nat), .int .i64 (e 1 : Nat), .int .i64 (e 2 : Nat), .int .i64 (e 3 : Nat)] 46)).cell? ⟨w.heap.size + 1, v.val, none⟩ = some (.int .i64 (e v : Nat)) := fun v => (XE.out.cell v.val).trans (env_at e v)
  have c0 := XE.out.cell 0
  have c1 := XE.out.cell 1
  have c2 := XE.out.cell 2
  have c3 := XE.out.cell 3
  simp only [List.getElem?_toArray, List.getElem?_cons_zero, List.getElem?_cons_succ] at c0 c1 c2 c3
  have Hev := Lib.hid hev
  have He := Lib.hid he
  clear hev he
  unfold stA envA4
  have hk := hk1
  have hb : (s[k].toNat : Int) = 80 := by rw [hop]; rfl
  have hks : k < 4000 := by omega
  have h1 := fun W => l2Var_of s (k + 1) v r (IntKind.i64.wrap ((k : Int) + 1)) W hs (drop_add_of (p := [80]) (by simpa [Fm.text] using hd)) (by rw [IntWalk.i64_in _ (by omega)]; omega)
  have hw : IntKind.i64.wrap ((k : Int) + 2) = (k : Int) + 2 := IntWalk.i64_in _ (by omega)
  have HW := Lib.hid hw
  clear hw
  have H1 := Lib.hid h1
  have Hf := Lib.hid (fun W => l1Set_calls a ha (e v) (He.out v) W)
  have hv3 : (v.val : Int) < 4 := by omega
  simp only [Fm.text, List.length_cons, List.length_nil] at hle
  clear h1
  clear hop hd c0 c1 c2 c3
  go_enter Tryd.func54, Tryd.ntmps54
  go_upto_region 6 with (fail)
  refine region_sched [(0, true), (1, true), (2, true), (3, true), (8, true), (9, true), (4, false), (5, true), (6, true), (7, false), (10, true), (11, true)] (fun w' : World => w'.cell? ⟨w.heap.size, 0, none⟩ = some (.int .i64 (a.n : Int)) ∧ w'.cell? ⟨w.heap.size, 1, none⟩ = some (.string (bs a.set)) ∧ w'.cell? ⟨w.heap.size, 2, none⟩ = some (.string (bs a.rel)) ∧ w'.cell? ⟨w.heap.size + 1, v.val, none⟩ = some (.int .i64 (e v : Nat))) (by kernel_rfl) (by kernel_rfl) (by kernel_rfl) (by kernel_rfl) (fun _ _ _ _ h => h) ?_ (fun Q1 hQ1 => ?_)
  · exact ⟨s0, s1, s2, Hev.out v⟩
  try simp only [List.append]
  refine sched_take' (v := .agg #[.int .i64 (a.n : Int), .string (bs a.set), .string (bs a.rel)]) (a' := ?_) rfl (by kernel_rfl) ?_ rfl ?_ ?_
  rotate_left 1
  · intro w hSw
    (try dsimp only at hSw)
    go_simp
    first | done | (obtain ⟨u0, u1, u2, u3⟩ := hSw; simp [*])
  · (try simp only [Act.put, List.setIfInBounds_toArray, List.set_cons_zero, List.set_cons_succ])
    try rfl
  refine sched_take' (v := ?_) (a' := ?_) rfl (by kernel_rfl) ?_ rfl ?_ ?_
  rotate_left 2
  · intro w hSw
    (try dsimp only at hSw)
    go_simp
    try with_reducible rfl
  · (try simp only [Act.put, List.setIfInBounds_toArray, List.set_cons_zero, List.set_cons_succ])
    try rfl
  refine sched_take' (v := ?_) (a' := ?_) rfl (by kernel_rfl) ?_ rfl ?_ ?_
  rotate_left 2
  · intro w hSw
    (try dsimp only at hSw)
    go_simp
    try with_reducible rfl
  · (try simp only [Act.put, List.setIfInBounds_toArray, List.set_cons_zero, List.set_cons_succ])
    try rfl
  refine sched_take' (v := ?_) (a' := ?_) rfl (by kernel_rfl) ?_ rfl ?_ ?_
  rotate_left 2
  · intro w hSw
    (try dsimp only at hSw)
    go_simp
    try with_reducible rfl
  · (try simp only [Act.put, List.setIfInBounds_toArray, List.set_cons_zero, List.set_cons_succ])
    try rfl
  refine sched_take' (v := ?_) (a' := ?_) rfl (by kernel_rfl) ?_ rfl ?_ ?_
  rotate_left 2
  · intro w hSw
    (try dsimp only at hSw)
    go_simp
    try with_reducible rfl
  · (try simp only [Act.put, List.setIfInBounds_toArray, List.set_cons_zero, List.set_cons_succ])
    try rfl
  refine sched_take' (v := ?_) (a' := ?_) rfl (by kernel_rfl) ?_ rfl ?_ ?_
  rotate_left 2
  · intro w hSw
    (try dsimp only at hSw)
    go_simp
    try with_reducible rfl
  · (try simp only [Act.put, List.setIfInBounds_toArray, List.set_cons_zero, List.set_cons_succ])
    try rfl
  refine sched_call rfl (by kernel_rfl) (fun K1 hK1 => ?_)
  go_simp
  refine (H1.out _).mono ?_
  rintro ed w1 ⟨rfl, rfl⟩
  go_wp2_with fail
  refine hK1.out _ _ ?_ (sched_lay (a' := ?_) ?_ ?_)
  · exact ⟨s0, s1, s2, Hev.out v⟩
  rotate_left 1
  · (try simp only [Act.put, List.getElem_toArray, List.getElem_cons_succ, List.getElem_cons_zero, List.setIfInBounds_toArray, List.set_cons_zero, List.set_cons_succ])
    try rfl
  clear hK1 K1
  refine sched_take' (v := ?_) (a' := ?_) rfl (by kernel_rfl) ?_ rfl ?_ ?_
  rotate_left 2
  · intro w hSw
    (try dsimp only at hSw)
    go_simp
    try with_reducible rfl
  · (try simp only [Act.put, List.setIfInBounds_toArray, List.set_cons_zero, List.set_cons_succ])
    try rfl
  refine sched_take' (v := .int .i64 (e v : Nat)) (a' := ?_) rfl (by kernel_rfl) ?_ rfl ?_ ?_
  rotate_left 1
  · intro w hSw
    (try dsimp only at hSw)
    go_simp
    first | done | (obtain ⟨u0, u1, u2, u3⟩ := hSw; simp [*])
  · (try simp only [Act.put, List.setIfInBounds_toArray, List.set_cons_zero, List.set_cons_succ])
    try rfl
  refine sched_call rfl (by kernel_rfl) (fun K1 hK1 => ?_)
  go_simp
  refine (Hf.out _).mono ?_
  rintro ed w9 ⟨rfl, hz⟩
  have B9 := Lib.hid (BV.out.drew.trans (hz.mono (by simp [World.drew]; omega)))
  have XS9 := Lib.hid (XS.out.drew.call hz)
  have XE9 := Lib.hid (XE.out.drew.call hz)
  obtain ⟨t0, t1, t2⟩ := box_load XS9.out
  have tev : ∀ v : Fin 4, w9.cell? ⟨w.heap.size + 1, v.val, none⟩ = some (.int .i64 (e v : Nat)) := fun v => (XE9.out.cell v.val).trans (env_at e v)
  clear hz
  go_wp2_with fail
  refine hK1.out _ _ ?_ (sched_lay (a' := ?_) ?_ ?_)
  · exact ⟨t0, t1, t2, tev v⟩
  rotate_left 1
  · (try simp only [Act.put, List.getElem_toArray, List.getElem_cons_succ, List.getElem_cons_zero, List.setIfInBounds_toArray, List.set_cons_zero, List.set_cons_succ])
    try rfl
  clear hK1 K1
  refine sched_take' (v := ?_) (a' := ?_) rfl (by kernel_rfl) ?_ rfl ?_ ?_
  rotate_left 2
  · intro w hSw
    (try dsimp only at hSw)
    go_simp
    try with_reducible rfl
  · (try simp only [Act.put, List.setIfInBounds_toArray, List.set_cons_zero, List.set_cons_succ])
    try rfl
  refine sched_take' (v := ?_) (a' := ?_) rfl (by kernel_rfl) ?_ rfl ?_ ?_
  rotate_left 2
  · intro w hSw
    (try dsimp only at hSw)
    go_simp
    try with_reducible rfl
  · (try simp only [Act.put, List.setIfInBounds_toArray, List.set_cons_zero, List.set_cons_succ])
    try rfl
  refine sched_done (hQ1.out _ _ ?_)
  go_wp2_with fail
  go_ret2
  exact ⟨ret_pair (by show Value.bool _ = Value.bool _; rfl) (by show Value.int .i64 _ = Value.int .i64 _; rw [HW.out]; congr 1 <;> simp [Fm.text] <;> omega), B9.out⟩



end Go.Proofs.YtebjanjobfiloaaDoor

namespace Go.Proofs.YtebjanjobfiloaaDoor
open Go.RowKit
open Pl
set_option linter.unusedSimpArgs false
set_option linter.unusedVariables false

set_option maxHeartbeats 4000000 in
set_option maxRecDepth 100000 in
theorem sh_eq (a : St) (ha : a.ok) (v u : Fin 4) : SHAt a (.eq v u) := by
  intro s k r m e w hd hs hm he
  subst hm
  obtain ⟨hk1, hop, hle⟩ := at_op hd
  have h8 := ha.hi
  have XS := Lib.hid ((Bx.new w 28 #[.int .i64 (a.n : Int), .string (bs a.set), .string (bs a.rel)]).alloc (.cells #[.int .i64 (e 0 : Nat), .int .i64 (e 1 : Nat), .int .i64 (e 2 : Nat), .int .i64 (e 3 : Nat)] 46))
  have XE := Lib.hid (show Bx ((w.alloc (.cells #[.int .i64 (a.n : Int), .string (bs a.set), .string (bs a.rel)] 28)).alloc (.cells #[.int .i64 (e 0 : Nat), .int .i64 (e 1 : Nat), .int .i64 (e 2 : Nat), .int .i64 (e 3 : Nat)] 46)) (w.heap.size + 1) 46 #[.int .i64 (e 0 : Nat), .int .i64 (e 1 : Nat), .int .i64 (e 2 : Nat), .int .i64 (e 3 : Nat)] from bx_two w _ _)
  have BV := Lib.hid (show Below w.heap.size w ((w.alloc (.cells #[.int .i64 (a.n : Int), .string (bs a.set), .string (bs a.rel)] 28)).alloc (.cells #[.int .i64 (e 0 : Nat), .int .i64 (e 1 : Nat), .int .i64 (e 2 : Nat), .int .i64 (e 3 : Nat)] 46)) from ((Below.refl _ _).alloc (Nat.le_refl _) _).alloc (by simp) _)
  obtain ⟨s0, s1, s2⟩ := box_load XS.out
  have hev : ∀ v : Fin 4, ((w.alloc (.cells #[.int .i64 (a.n : Int), .string (bs a.set), .string (bs a.rel)] 28)).alloc (.cells #[.int .i64 (e 0 : Nat), .int .i64 (e 1 : Nat), .int .i64 (e 2 : Nat), .int .i64 (e 3 : Nat)] 46)).cell? ⟨w.heap.size + 1, v.val, none⟩ = some (.int .i64 (e v : Nat)) := fun v => (XE.out.cell v.val).trans (env_at e v)
  have c0 := XE.out.cell 0
  have c1 := XE.out.cell 1
  have c2 := XE.out.cell 2
  have c3 := XE.out.cell 3
  simp only [List.getElem?_toArray, List.getElem?_cons_zero, List.getElem?_cons_succ] at c0 c1 c2 c3
  have Hev := Lib.hid hev
  have He := Lib.hid he
  clear hev he
  unfold stA envA4
  have hk := hk1
  have hb : (s[k].toNat : Int) = 61 := by rw [hop]; rfl
  have hks : k < 4000 := by omega
  have hw : IntKind.i64.wrap ((k : Int) + 3) = (k : Int) + 3 := IntWalk.i64_in _ (by omega)
  have HW := Lib.hid hw
  clear hw
  have h1 := fun W => l2Var_of s (k + 1) v (vb u :: r) (IntKind.i64.wrap ((k : Int) + 1)) W hs (drop_add_of (p := [61]) (by simpa [Fm.text] using hd)) (by rw [IntWalk.i64_in _ (by omega)]; omega)
  have h2 := fun W => l2Var_of s (k + 2) u r (IntKind.i64.wrap ((k : Int) + 2)) W hs (drop_add_of (p := [61, vb v]) (by simpa [Fm.text] using hd)) (by rw [IntWalk.i64_in _ (by omega)]; omega)
  have H1 := Lib.hid h1
  have H2 := Lib.hid h2
  have hv3 : (v.val : Int) < 4 := by omega
  have hu3 : (u.val : Int) < 4 := by omega
  simp only [Fm.text, List.length_cons, List.length_nil] at hle
  clear h1 h2
  clear hop hd c0 c1 c2 c3
  go_enter Tryd.func54, Tryd.ntmps54
  go_upto_region 8 with (fail)
  refine region_sched [(0, true), (1, true), (2, true), (6, true), (7, true), (8, true), (13, true), (14, true), (3, false), (4, true), (5, true), (9, false), (10, true), (11, true), (12, true), (15, true), (16, true)] (fun w' : World => w'.cell? ⟨w.heap.size, 0, none⟩ = some (.int .i64 (a.n : Int)) ∧ w'.cell? ⟨w.heap.size, 1, none⟩ = some (.string (bs a.set)) ∧ w'.cell? ⟨w.heap.size, 2, none⟩ = some (.string (bs a.rel)) ∧ w'.cell? ⟨w.heap.size + 1, v.val, none⟩ = some (.int .i64 (e v : Nat)) ∧ w'.cell? ⟨w.heap.size + 1, u.val, none⟩ = some (.int .i64 (e u : Nat))) (by kernel_rfl) (by kernel_rfl) (by kernel_rfl) (by kernel_rfl) (fun _ _ _ _ h => h) ?_ (fun Q1 hQ1 => ?_)
  · exact ⟨s0, s1, s2, Hev.out v, Hev.out u⟩
  try simp only [List.append]
  refine sched_take' (v := ?_) (a' := ?_) rfl (by kernel_rfl) ?_ rfl ?_ ?_
  rotate_left 2
  · intro w hSw
    (try dsimp only at hSw)
    go_simp
    try with_reducible rfl
  · (try simp only [Act.put, List.setIfInBounds_toArray, List.set_cons_zero, List.set_cons_succ])
    try rfl
  refine sched_take' (v := ?_) (a' := ?_) rfl (by kernel_rfl) ?_ rfl ?_ ?_
  rotate_left 2
  · intro w hSw
    (try dsimp only at hSw)
    go_simp
    try with_reducible rfl
  · (try simp only [Act.put, List.setIfInBounds_toArray, List.set_cons_zero, List.set_cons_succ])
    try rfl
  refine sched_take' (v := ?_) (a' := ?_) rfl (by kernel_rfl) ?_ rfl ?_ ?_
  rotate_left 2
  · intro w hSw
    (try dsimp only at hSw)
    go_simp
    try with_reducible rfl
  · (try simp only [Act.put, List.setIfInBounds_toArray, List.set_cons_zero, List.set_cons_succ])
    try rfl
  refine sched_take' (v := ?_) (a' := ?_) rfl (by kernel_rfl) ?_ rfl ?_ ?_
  rotate_left 2
  · intro w hSw
    (try dsimp only at hSw)
    go_simp
    try with_reducible rfl
  · (try simp only [Act.put, List.setIfInBounds_toArray, List.set_cons_zero, List.set_cons_succ])
    try rfl
  refine sched_take' (v := ?_) (a' := ?_) rfl (by kernel_rfl) ?_ rfl ?_ ?_
  rotate_left 2
  · intro w hSw
    (try dsimp only at hSw)
    go_simp
    try with_reducible rfl
  · (try simp only [Act.put, List.setIfInBounds_toArray, List.set_cons_zero, List.set_cons_succ])
    try rfl
  refine sched_take' (v := ?_) (a' := ?_) rfl (by kernel_rfl) ?_ rfl ?_ ?_
  rotate_left 2
  · intro w hSw
    (try dsimp only at hSw)
    go_simp
    try with_reducible rfl
  · (try simp only [Act.put, List.setIfInBounds_toArray, List.set_cons_zero, List.set_cons_succ])
    try rfl
  refine sched_take' (v := ?_) (a' := ?_) rfl (by kernel_rfl) ?_ rfl ?_ ?_
  rotate_left 2
  · intro w hSw
    (try dsimp only at hSw)
    go_simp
    try with_reducible rfl
  · (try simp only [Act.put, List.setIfInBounds_toArray, List.set_cons_zero, List.set_cons_succ])
    try rfl
  refine sched_take' (v := ?_) (a' := ?_) rfl (by kernel_rfl) ?_ rfl ?_ ?_
  rotate_left 2
  · intro w hSw
    (try dsimp only at hSw)
    go_simp
    try with_reducible rfl
  · (try simp only [Act.put, List.setIfInBounds_toArray, List.set_cons_zero, List.set_cons_succ])
    try rfl
  refine sched_call rfl (by kernel_rfl) (fun K1 hK1 => ?_)
  go_simp
  refine (H1.out _).mono ?_
  rintro ed w1 ⟨rfl, rfl⟩
  go_wp2_with fail
  refine hK1.out _ _ ?_ (sched_lay (a' := ?_) ?_ ?_)
  · exact ⟨s0, s1, s2, Hev.out v, Hev.out u⟩
  rotate_left 1
  · (try simp only [Act.put, List.getElem_toArray, List.getElem_cons_succ, List.getElem_cons_zero, List.setIfInBounds_toArray, List.set_cons_zero, List.set_cons_succ])
    try rfl
  clear hK1 K1
  refine sched_take' (v := ?_) (a' := ?_) rfl (by kernel_rfl) ?_ rfl ?_ ?_
  rotate_left 2
  · intro w hSw
    (try dsimp only at hSw)
    go_simp
    try with_reducible rfl
  · (try simp only [Act.put, List.setIfInBounds_toArray, List.set_cons_zero, List.set_cons_succ])
    try rfl
  refine sched_take' (v := .int .i64 (e v : Nat)) (a' := ?_) rfl (by kernel_rfl) ?_ rfl ?_ ?_
  rotate_left 1
  · intro w hSw
    (try dsimp only at hSw)
    go_simp
    first | done | (obtain ⟨u0, u1, u2, u3, u4⟩ := hSw; simp [*])
  · (try simp only [Act.put, List.setIfInBounds_toArray, List.set_cons_zero, List.set_cons_succ])
    try rfl
  refine sched_call rfl (by kernel_rfl) (fun K1 hK1 => ?_)
  go_simp
  refine (H2.out _).mono ?_
  rintro ed w1 ⟨rfl, rfl⟩
  go_wp2_with fail
  refine hK1.out _ _ ?_ (sched_lay (a' := ?_) ?_ ?_)
  · exact ⟨s0, s1, s2, Hev.out v, Hev.out u⟩
  rotate_left 1
  · (try simp only [Act.put, List.getElem_toArray, List.getElem_cons_succ, List.getElem_cons_zero, List.setIfInBounds_toArray, List.set_cons_zero, List.set_cons_succ])
    try rfl
  clear hK1 K1
  refine sched_take' (v := ?_) (a' := ?_) rfl (by kernel_rfl) ?_ rfl ?_ ?_
  rotate_left 2
  · intro w hSw
    (try dsimp only at hSw)
    go_simp
    try with_reducible rfl
  · (try simp only [Act.put, List.setIfInBounds_toArray, List.set_cons_zero, List.set_cons_succ])
    try rfl
  refine sched_take' (v := .int .i64 (e u : Nat)) (a' := ?_) rfl (by kernel_rfl) ?_ rfl ?_ ?_
  rotate_left 1
  · intro w hSw
    (try dsimp only at hSw)
    go_simp
    first | done | (obtain ⟨u0, u1, u2, u3, u4⟩ := hSw; simp [*])
  · (try simp only [Act.put, List.setIfInBounds_toArray, List.set_cons_zero, List.set_cons_succ])
    try rfl
  refine sched_take' (v := ?_) (a' := ?_) rfl (by kernel_rfl) ?_ rfl ?_ ?_
  rotate_left 2
  · intro w hSw
    (try dsimp only at hSw)
    go_simp
    try with_reducible rfl
  · (try simp only [Act.put, List.setIfInBounds_toArray, List.set_cons_zero, List.set_cons_succ])
    try rfl
  refine sched_take' (v := ?_) (a' := ?_) rfl (by kernel_rfl) ?_ rfl ?_ ?_
  rotate_left 2
  · intro w hSw
    (try dsimp only at hSw)
    go_simp
    try with_reducible rfl
  · (try simp only [Act.put, List.setIfInBounds_toArray, List.set_cons_zero, List.set_cons_succ])
    try rfl
  refine sched_take' (v := ?_) (a' := ?_) rfl (by kernel_rfl) ?_ rfl ?_ ?_
  rotate_left 2
  · intro w hSw
    (try dsimp only at hSw)
    go_simp
    try with_reducible rfl
  · (try simp only [Act.put, List.setIfInBounds_toArray, List.set_cons_zero, List.set_cons_succ])
    try rfl
  refine sched_done (hQ1.out _ _ ?_)
  go_wp2_with fail
  go_ret2
  exact ⟨ret_pair (by show Value.bool _ = Value.bool _; (congr 1; rw [Bool.eq_iff_iff, beq_iff_eq]; show _ ↔ (e v == e u) = true; rw [beq_iff_eq]; omega)) (by show Value.int .i64 _ = Value.int .i64 _; rw [HW.out]; congr 1 <;> simp [Fm.text] <;> omega), BV.out.drew⟩



end Go.Proofs.YtebjanjobfiloaaDoor

namespace Go.Proofs.YtebjanjobfiloaaDoor
open Go.RowKit
open Pl
set_option linter.unusedSimpArgs false
set_option linter.unusedVariables false

set_option maxHeartbeats 4000000 in
set_option maxRecDepth 100000 in
theorem sh_rel (a : St) (ha : a.ok) (v u : Fin 4) : SHAt a (.rel v u) := by
  intro s k r m e w hd hs hm he
  subst hm
  obtain ⟨hk1, hop, hle⟩ := at_op hd
  have h8 := ha.hi
  have XS := Lib.hid ((Bx.new w 28 #[.int .i64 (a.n : Int), .string (bs a.set), .string (bs a.rel)]).alloc (.cells #[.int .i64 (e 0 : Nat), .int .i64 (e 1 : Nat), .int .i64 (e 2 : Nat), .int .i64 (e 3 : Nat)] 46))
  have XE := Lib.hid (show Bx ((w.alloc (.cells #[.int .i64 (a.n : Int), .string (bs a.set), .string (bs a.rel)] 28)).alloc (.cells #[.int .i64 (e 0 : Nat), .int .i64 (e 1 : Nat), .int .i64 (e 2 : Nat), .int .i64 (e 3 : Nat)] 46)) (w.heap.size + 1) 46 #[.int .i64 (e 0 : Nat), .int .i64 (e 1 : Nat), .int .i64 (e 2 : Nat), .int .i64 (e 3 : Nat)] from bx_two w _ _)
  have BV := Lib.hid (show Below w.heap.size w ((w.alloc (.cells #[.int .i64 (a.n : Int), .string (bs a.set), .string (bs a.rel)] 28)).alloc (.cells #[.int .i64 (e 0 : Nat), .int .i64 (e 1 : Nat), .int .i64 (e 2 : Nat), .int .i64 (e 3 : Nat)] 46)) from ((Below.refl _ _).alloc (Nat.le_refl _) _).alloc (by simp) _)
  obtain ⟨s0, s1, s2⟩ := box_load XS.out
  have hev : ∀ v : Fin 4, ((w.alloc (.cells #[.int .i64 (a.n : Int), .string (bs a.set), .string (bs a.rel)] 28)).alloc (.cells #[.int .i64 (e 0 : Nat), .int .i64 (e 1 : Nat), .int .i64 (e 2 : Nat), .int .i64 (e 3 : Nat)] 46)).cell? ⟨w.heap.size + 1, v.val, none⟩ = some (.int .i64 (e v : Nat)) := fun v => (XE.out.cell v.val).trans (env_at e v)
  have c0 := XE.out.cell 0
  have c1 := XE.out.cell 1
  have c2 := XE.out.cell 2
  have c3 := XE.out.cell 3
  simp only [List.getElem?_toArray, List.getElem?_cons_zero, List.getElem?_cons_succ] at c0 c1 c2 c3
  have Hev := Lib.hid hev
  have He := Lib.hid he
  clear hev he
  unfold stA envA4
  have hk := hk1
  have hb : (s[k].toNat : Int) = 69 := by rw [hop]; rfl
  have hks : k < 4000 := by omega
  have hw : IntKind.i64.wrap ((k : Int) + 3) = (k : Int) + 3 := IntWalk.i64_in _ (by omega)
  have HW := Lib.hid hw
  clear hw
  have h1 := fun W => l2Var_of s (k + 1) v (vb u :: r) (IntKind.i64.wrap ((k : Int) + 1)) W hs (drop_add_of (p := [69]) (by simpa [Fm.text] using hd)) (by rw [IntWalk.i64_in _ (by omega)]; omega)
  have h2 := fun W => l2Var_of s (k + 2) u r (IntKind.i64.wrap ((k : Int) + 2)) W hs (drop_add_of (p := [69, vb v]) (by simpa [Fm.text] using hd)) (by rw [IntWalk.i64_in _ (by omega)]; omega)
  have H1 := Lib.hid h1
  have H2 := Lib.hid h2
  have Hf := Lib.hid (fun W => l1Rel_calls a ha (e v) (e u) (He.out v) (He.out u) W)
  have hv3 : (v.val : Int) < 4 := by omega
  have hu3 : (u.val : Int) < 4 := by omega
  simp only [Fm.text, List.length_cons, List.length_nil] at hle
  clear h1 h2
  clear hop hd c0 c1 c2 c3
  go_enter Tryd.func54, Tryd.ntmps54
  go_upto_region 10 with (fail)
  refine region_sched [(0, true), (1, true), (2, true), (3, true), (7, true), (8, true), (9, true), (14, true), (15, true), (4, false), (5, true), (6, true), (10, false), (11, true), (12, true), (13, false), (16, true), (17, true)] (fun w' : World => w'.cell? ⟨w.heap.size, 0, none⟩ = some (.int .i64 (a.n : Int)) ∧ w'.cell? ⟨w.heap.size, 1, none⟩ = some (.string (bs a.set)) ∧ w'.cell? ⟨w.heap.size, 2, none⟩ = some (.string (bs a.rel)) ∧ w'.cell? ⟨w.heap.size + 1, v.val, none⟩ = some (.int .i64 (e v : Nat)) ∧ w'.cell? ⟨w.heap.size + 1, u.val, none⟩ = some (.int .i64 (e u : Nat))) (by kernel_rfl) (by kernel_rfl) (by kernel_rfl) (by kernel_rfl) (fun _ _ _ _ h => h) ?_ (fun Q1 hQ1 => ?_)
  · exact ⟨s0, s1, s2, Hev.out v, Hev.out u⟩
  try simp only [List.append]
  refine sched_take' (v := .agg #[.int .i64 (a.n : Int), .string (bs a.set), .string (bs a.rel)]) (a' := ?_) rfl (by kernel_rfl) ?_ rfl ?_ ?_
  rotate_left 1
  · intro w hSw
    (try dsimp only at hSw)
    go_simp
    first | done | (obtain ⟨u0, u1, u2, u3, u4⟩ := hSw; simp [*])
  · (try simp only [Act.put, List.setIfInBounds_toArray, List.set_cons_zero, List.set_cons_succ])
    try rfl
  refine sched_take' (v := ?_) (a' := ?_) rfl (by kernel_rfl) ?_ rfl ?_ ?_
  rotate_left 2
  · intro w hSw
    (try dsimp only at hSw)
    go_simp
    try with_reducible rfl
  · (try simp only [Act.put, List.setIfInBounds_toArray, List.set_cons_zero, List.set_cons_succ])
    try rfl
  refine sched_take' (v := ?_) (a' := ?_) rfl (by kernel_rfl) ?_ rfl ?_ ?_
  rotate_left 2
  · intro w hSw
    (try dsimp only at hSw)
    go_simp
    try with_reducible rfl
  · (try simp only [Act.put, List.setIfInBounds_toArray, List.set_cons_zero, List.set_cons_succ])
    try rfl
  refine sched_take' (v := ?_) (a' := ?_) rfl (by kernel_rfl) ?_ rfl ?_ ?_
  rotate_left 2
  · intro w hSw
    (try dsimp only at hSw)
    go_simp
    try with_reducible rfl
  · (try simp only [Act.put, List.setIfInBounds_toArray, List.set_cons_zero, List.set_cons_succ])
    try rfl
  refine sched_take' (v := ?_) (a' := ?_) rfl (by kernel_rfl) ?_ rfl ?_ ?_
  rotate_left 2
  · intro w hSw
    (try dsimp only at hSw)
    go_simp
    try with_reducible rfl
  · (try simp only [Act.put, List.setIfInBounds_toArray, List.set_cons_zero, List.set_cons_succ])
    try rfl
  refine sched_take' (v := ?_) (a' := ?_) rfl (by kernel_rfl) ?_ rfl ?_ ?_
  rotate_left 2
  · intro w hSw
    (try dsimp only at hSw)
    go_simp
    try with_reducible rfl
  · (try simp only [Act.put, List.setIfInBounds_toArray, List.set_cons_zero, List.set_cons_succ])
    try rfl
  refine sched_take' (v := ?_) (a' := ?_) rfl (by kernel_rfl) ?_ rfl ?_ ?_
  rotate_left 2
  · intro w hSw
    (try dsimp only at hSw)
    go_simp
    try with_reducible rfl
  · (try simp only [Act.put, List.setIfInBounds_toArray, List.set_cons_zero, List.set_cons_succ])
    try rfl
  refine sched_take' (v := ?_) (a' := ?_) rfl (by kernel_rfl) ?_ rfl ?_ ?_
  rotate_left 2
  · intro w hSw
    (try dsimp only at hSw)
    go_simp
    try with_reducible rfl
  · (try simp only [Act.put, List.setIfInBounds_toArray, List.set_cons_zero, List.set_cons_succ])
    try rfl
  refine sched_take' (v := ?_) (a' := ?_) rfl (by kernel_rfl) ?_ rfl ?_ ?_
  rotate_left 2
  · intro w hSw
    (try dsimp only at hSw)
    go_simp
    try with_reducible rfl
  · (try simp only [Act.put, List.setIfInBounds_toArray, List.set_cons_zero, List.set_cons_succ])
    try rfl
  refine sched_call rfl (by kernel_rfl) (fun K1 hK1 => ?_)
  go_simp
  refine (H1.out _).mono ?_
  rintro ed w1 ⟨rfl, rfl⟩
  go_wp2_with fail
  refine hK1.out _ _ ?_ (sched_lay (a' := ?_) ?_ ?_)
  · exact ⟨s0, s1, s2, Hev.out v, Hev.out u⟩
  rotate_left 1
  · (try simp only [Act.put, List.getElem_toArray, List.getElem_cons_succ, List.getElem_cons_zero, List.setIfInBounds_toArray, List.set_cons_zero, List.set_cons_succ])
    try rfl
  clear hK1 K1
  refine sched_take' (v := ?_) (a' := ?_) rfl (by kernel_rfl) ?_ rfl ?_ ?_
  rotate_left 2
  · intro w hSw
    (try dsimp only at hSw)
    go_simp
    try with_reducible rfl
  · (try simp only [Act.put, List.setIfInBounds_toArray, List.set_cons_zero, List.set_cons_succ])
    try rfl
  refine sched_take' (v := .int .i64 (e v : Nat)) (a' := ?_) rfl (by kernel_rfl) ?_ rfl ?_ ?_
  rotate_left 1
  · intro w hSw
    (try dsimp only at hSw)
    go_simp
    first | done | (obtain ⟨u0, u1, u2, u3, u4⟩ := hSw; simp [*])
  · (try simp only [Act.put, List.setIfInBounds_toArray, List.set_cons_zero, List.set_cons_succ])
    try rfl
  refine sched_call rfl (by kernel_rfl) (fun K1 hK1 => ?_)
  go_simp
  refine (H2.out _).mono ?_
  rintro ed w1 ⟨rfl, rfl⟩
  go_wp2_with fail
  refine hK1.out _ _ ?_ (sched_lay (a' := ?_) ?_ ?_)
  · exact ⟨s0, s1, s2, Hev.out v, Hev.out u⟩
  rotate_left 1
  · (try simp only [Act.put, List.getElem_toArray, List.getElem_cons_succ, List.getElem_cons_zero, List.setIfInBounds_toArray, List.set_cons_zero, List.set_cons_succ])
    try rfl
  clear hK1 K1
  refine sched_take' (v := ?_) (a' := ?_) rfl (by kernel_rfl) ?_ rfl ?_ ?_
  rotate_left 2
  · intro w hSw
    (try dsimp only at hSw)
    go_simp
    try with_reducible rfl
  · (try simp only [Act.put, List.setIfInBounds_toArray, List.set_cons_zero, List.set_cons_succ])
    try rfl
  refine sched_take' (v := .int .i64 (e u : Nat)) (a' := ?_) rfl (by kernel_rfl) ?_ rfl ?_ ?_
  rotate_left 1
  · intro w hSw
    (try dsimp only at hSw)
    go_simp
    first | done | (obtain ⟨u0, u1, u2, u3, u4⟩ := hSw; simp [*])
  · (try simp only [Act.put, List.setIfInBounds_toArray, List.set_cons_zero, List.set_cons_succ])
    try rfl
  refine sched_call rfl (by kernel_rfl) (fun K1 hK1 => ?_)
  go_simp
  refine (Hf.out _).mono ?_
  rintro ed w9 ⟨rfl, hz⟩
  have B9 := Lib.hid (BV.out.drew.trans (hz.mono (by simp [World.drew]; omega)))
  have XS9 := Lib.hid (XS.out.drew.call hz)
  have XE9 := Lib.hid (XE.out.drew.call hz)
  obtain ⟨t0, t1, t2⟩ := box_load XS9.out
  have tev : ∀ v : Fin 4, w9.cell? ⟨w.heap.size + 1, v.val, none⟩ = some (.int .i64 (e v : Nat)) := fun v => (XE9.out.cell v.val).trans (env_at e v)
  clear hz
  go_wp2_with fail
  refine hK1.out _ _ ?_ (sched_lay (a' := ?_) ?_ ?_)
  · exact ⟨t0, t1, t2, tev v, tev u⟩
  rotate_left 1
  · (try simp only [Act.put, List.getElem_toArray, List.getElem_cons_succ, List.getElem_cons_zero, List.setIfInBounds_toArray, List.set_cons_zero, List.set_cons_succ])
    try rfl
  clear hK1 K1
  refine sched_take' (v := ?_) (a' := ?_) rfl (by kernel_rfl) ?_ rfl ?_ ?_
  rotate_left 2
  · intro w hSw
    (try dsimp only at hSw)
    go_simp
    try with_reducible rfl
  · (try simp only [Act.put, List.setIfInBounds_toArray, List.set_cons_zero, List.set_cons_succ])
    try rfl
  refine sched_take' (v := ?_) (a' := ?_) rfl (by kernel_rfl) ?_ rfl ?_ ?_
  rotate_left 2
  · intro w hSw
    (try dsimp only at hSw)
    go_simp
    try with_reducible rfl
  · (try simp only [Act.put, List.setIfInBounds_toArray, List.set_cons_zero, List.set_cons_succ])
    try rfl
  refine sched_done (hQ1.out _ _ ?_)
  go_wp2_with fail
  go_ret2
  exact ⟨ret_pair (by show Value.bool _ = Value.bool _; rfl) (by show Value.int .i64 _ = Value.int .i64 _; rw [HW.out]; congr 1 <;> simp [Fm.text] <;> omega), B9.out⟩



end Go.Proofs.YtebjanjobfiloaaDoor

namespace Go.Proofs.YtebjanjobfiloaaDoor
open Go.RowKit
open Pl
set_option linter.unusedSimpArgs false
set_option linter.unusedVariables false

set_option maxHeartbeats 4000000 in
set_option maxRecDepth 100000 in
theorem sh_neg (a : St) (ha : a.ok) (p : Fm) (Ih : SHAt a p) : SHAt a (.neg p) := by
  intro s k r m e w hd hs hm he
  subst hm
  obtain ⟨hk1, hop, hle⟩ := at_op hd
  have h8 := ha.hi
  have XS := Lib.hid ((Bx.new w 28 #[.int .i64 (a.n : Int), .string (bs a.set), .string (bs a.rel)]).alloc (.cells #[.int .i64 (e 0 : Nat), .int .i64 (e 1 : Nat), .int .i64 (e 2 : Nat), .int .i64 (e 3 : Nat)] 46))
  have XE := Lib.hid (show Bx ((w.alloc (.cells #[.int .i64 (a.n : Int), .string (bs a.set), .string (bs a.rel)] 28)).alloc (.cells #[.int .i64 (e 0 : Nat), .int .i64 (e 1 : Nat), .int .i64 (e 2 : Nat), .int .i64 (e 3 : Nat)] 46)) (w.heap.size + 1) 46 #[.int .i64 (e 0 : Nat), .int .i64 (e 1 : Nat), .int .i64 (e 2 : Nat), .int .i64 (e 3 : Nat)] from bx_two w _ _)
  have BV := Lib.hid (show Below w.heap.size w ((w.alloc (.cells #[.int .i64 (a.n : Int), .string (bs a.set), .string (bs a.rel)] 28)).alloc (.cells #[.int .i64 (e 0 : Nat), .int .i64 (e 1 : Nat), .int .i64 (e 2 : Nat), .int .i64 (e 3 : Nat)] 46)) from ((Below.refl _ _).alloc (Nat.le_refl _) _).alloc (by simp) _)
  obtain ⟨s0, s1, s2⟩ := box_load XS.out
  have hev : ∀ v : Fin 4, ((w.alloc (.cells #[.int .i64 (a.n : Int), .string (bs a.set), .string (bs a.rel)] 28)).alloc (.cells #[.int .i64 (e 0 : Nat), .int .i64 (e 1 : Nat), .int .i64 (e 2 : Nat), .int .i64 (e 3 : Nat)] 46)).cell? ⟨w.heap.size + 1, v.val, none⟩ = some (.int .i64 (e v : Nat)) := fun v => (XE.out.cell v.val).trans (env_at e v)
  have c0 := XE.out.cell 0
  have c1 := XE.out.cell 1
  have c2 := XE.out.cell 2
  have c3 := XE.out.cell 3
  simp only [List.getElem?_toArray, List.getElem?_cons_zero, List.getElem?_cons_succ] at c0 c1 c2 c3
  have Hev := Lib.hid hev
  have He := Lib.hid he
  clear hev he
  unfold stA envA4
  have hk := hk1
  have hb : (s[k].toNat : Int) = 33 := by rw [hop]; rfl
  simp only [Fm.text, List.length_cons] at hle
  have hcall := fun W => Ih s (k + 1) r ((k : Int) + 1) e W (at_one hd) hs (by omega) He.out
  unfold stA envA4 at hcall
  have Hcall := Lib.hid hcall
  clear hop hcall hd Ih
  go_enter Tryd.func54, Tryd.ntmps54
  go_wp2_with (go_at_call 54; refine (Hcall.out _).mono ?_; rintro ed w1 ⟨rfl, hz⟩; have B1 := Lib.hid (BV.out.trans (hz.mono BV.out.size)); have XSw1 := Lib.hid (XS.out.call hz); have XEw1 := Lib.hid (XE.out.call hz); clear hz s0 s1 s2 c0 c1 c2 c3; obtain ⟨t0, t1, t2⟩ := box_load XSw1.out; have d0 := XEw1.out.cell 0; have d1 := XEw1.out.cell 1; have d2 := XEw1.out.cell 2; have d3 := XEw1.out.cell 3; simp only [List.getElem?_toArray, List.getElem?_cons_zero, List.getElem?_cons_succ] at d0 d1 d2 d3)
  go_ret2
  exact ⟨ret_pair (by show Value.bool _ = Value.bool _; rfl) (by show Value.int .i64 _ = Value.int .i64 _; congr 1 <;> simp [Fm.text] <;> omega), B1.out⟩

set_option maxHeartbeats 4000000 in
set_option maxRecDepth 100000 in
theorem sh_con (a : St) (ha : a.ok) (p q : Fm) (Ih : SHAt a p) (Ih2 : SHAt a q) : SHAt a (.con p q) := by
  intro s k r m e w hd hs hm he
  subst hm
  obtain ⟨hk1, hop, hle⟩ := at_op hd
  have h8 := ha.hi
  have XS := Lib.hid ((Bx.new w 28 #[.int .i64 (a.n : Int), .string (bs a.set), .string (bs a.rel)]).alloc (.cells #[.int .i64 (e 0 : Nat), .int .i64 (e 1 : Nat), .int .i64 (e 2 : Nat), .int .i64 (e 3 : Nat)] 46))
  have XE := Lib.hid (show Bx ((w.alloc (.cells #[.int .i64 (a.n : Int), .string (bs a.set), .string (bs a.rel)] 28)).alloc (.cells #[.int .i64 (e 0 : Nat), .int .i64 (e 1 : Nat), .int .i64 (e 2 : Nat), .int .i64 (e 3 : Nat)] 46)) (w.heap.size + 1) 46 #[.int .i64 (e 0 : Nat), .int .i64 (e 1 : Nat), .int .i64 (e 2 : Nat), .int .i64 (e 3 : Nat)] from bx_two w _ _)
  have BV := Lib.hid (show Below w.heap.size w ((w.alloc (.cells #[.int .i64 (a.n : Int), .string (bs a.set), .string (bs a.rel)] 28)).alloc (.cells #[.int .i64 (e 0 : Nat), .int .i64 (e 1 : Nat), .int .i64 (e 2 : Nat), .int .i64 (e 3 : Nat)] 46)) from ((Below.refl _ _).alloc (Nat.le_refl _) _).alloc (by simp) _)
  obtain ⟨s0, s1, s2⟩ := box_load XS.out
  have hev : ∀ v : Fin 4, ((w.alloc (.cells #[.int .i64 (a.n : Int), .string (bs a.set), .string (bs a.rel)] 28)).alloc (.cells #[.int .i64 (e 0 : Nat), .int .i64 (e 1 : Nat), .int .i64 (e 2 : Nat), .int .i64 (e 3 : Nat)] 46)).cell? ⟨w.heap.size + 1, v.val, none⟩ = some (.int .i64 (e v : Nat)) := fun v => (XE.out.cell v.val).trans (env_at e v)
  have c0 := XE.out.cell 0
  have c1 := XE.out.cell 1
  have c2 := XE.out.cell 2
  have c3 := XE.out.cell 3
  simp only [List.getElem?_toArray, List.getElem?_cons_zero, List.getElem?_cons_succ] at c0 c1 c2 c3
  have Hev := Lib.hid hev
  have He := Lib.hid he
  clear hev he
  unfold stA envA4
  have hk := hk1
  have hb : (s[k].toNat : Int) = 38 := by rw [hop]; rfl
  simp only [Fm.text, List.length_cons, List.length_append] at hle
  obtain ⟨hd1, hd2⟩ := at_two hd
  have hcall := fun W => Ih s (k + 1) _ ((k : Int) + 1) e W hd1 hs (by omega) He.out
  have hcall2 := fun W => Ih2 s (k + 1 + p.text.length) _ ((k + 1 + p.text.length : Nat) : Int) e W hd2 hs rfl He.out
  have hend := fun W => l2End_of s (k + 1 + p.text.length) q _ ((k + 1 + p.text.length : Nat) : Int) W hs hd2 rfl
  unfold stA envA4 at hcall hcall2
  clear hop hd hd1 hd2 Ih Ih2
  have Hcall2 := Lib.hid hcall2
  have Hend := Lib.hid hend
  clear hcall2 hend
  cases hp : p.holds a e with
  | false =>
    simp only [hp] at hcall
    have Hcall := Lib.hid hcall
    have Hp := Lib.hid hp
    clear hcall hp
    go_enter Tryd.func54, Tryd.ntmps54
    go_wp2_with (first | (go_at_call 51; refine (Hend.out _).mono ?_; rintro ed w2 ⟨rfl, rfl⟩) | (go_at_call 54; refine (Hcall.out _).mono ?_; rintro ed w1 ⟨rfl, hz⟩; have B1 := Lib.hid (BV.out.trans (hz.mono BV.out.size)); have XSw1 := Lib.hid (XS.out.call hz); have XEw1 := Lib.hid (XE.out.call hz); clear hz s0 s1 s2 c0 c1 c2 c3; obtain ⟨t0, t1, t2⟩ := box_load XSw1.out; have d0 := XEw1.out.cell 0; have d1 := XEw1.out.cell 1; have d2 := XEw1.out.cell 2; have d3 := XEw1.out.cell 3; simp only [List.getElem?_toArray, List.getElem?_cons_zero, List.getElem?_cons_succ] at d0 d1 d2 d3))
    go_ret2
    exact ⟨ret_pair (by show Value.bool _ = Value.bool _; (show Value.bool _ = Value.bool (p.holds a e && q.holds a e); rw [Hp.out]; rfl)) (by show Value.int .i64 _ = Value.int .i64 _; congr 1 <;> simp [Fm.text] <;> omega), B1.out⟩
  | true =>
    simp only [hp] at hcall
    have Hcall := Lib.hid hcall
    have Hp := Lib.hid hp
    clear hcall hp
    go_enter Tryd.func54, Tryd.ntmps54
    go_upto_region 19 with (go_at_call 54; refine (Hcall.out _).mono ?_; rintro ed w1 ⟨rfl, hz⟩; have B1 := Lib.hid (BV.out.trans (hz.mono BV.out.size)); have XSw1 := Lib.hid (XS.out.call hz); have XEw1 := Lib.hid (XE.out.call hz); clear hz s0 s1 s2 c0 c1 c2 c3; obtain ⟨t0, t1, t2⟩ := box_load XSw1.out; have d0 := XEw1.out.cell 0; have d1 := XEw1.out.cell 1; have d2 := XEw1.out.cell 2; have d3 := XEw1.out.cell 3; simp only [List.getElem?_toArray, List.getElem?_cons_zero, List.getElem?_cons_succ] at d0 d1 d2 d3)
    go_wp2_with (go_at_call 54; refine (Hcall2.out _).mono ?_; rintro ed w2 ⟨rfl, hz⟩; have B2 := Lib.hid (B1.out.trans (hz.mono B1.out.size)); clear hz)
    go_ret2
    exact ⟨ret_pair (by show Value.bool _ = Value.bool _; (show Value.bool _ = Value.bool (p.holds a e && q.holds a e); rw [Hp.out]; simp)) (by show Value.int .i64 _ = Value.int .i64 _; congr 1 <;> simp [Fm.text] <;> omega), B2.out⟩

set_option maxHeartbeats 4000000 in
set_option maxRecDepth 100000 in
theorem sh_dis (a : St) (ha : a.ok) (p q : Fm) (Ih : SHAt a p) (Ih2 : SHAt a q) : SHAt a (.dis p q) := by
  intro s k r m e w hd hs hm he
  subst hm
  obtain ⟨hk1, hop, hle⟩ := at_op hd
  have h8 := ha.hi
  have XS := Lib.hid ((Bx.new w 28 #[.int .i64 (a.n : Int), .string (bs a.set), .string (bs a.rel)]).alloc (.cells #[.int .i64 (e 0 : Nat), .int .i64 (e 1 : Nat), .int .i64 (e 2 : Nat), .int .i64 (e 3 : Nat)] 46))
  have XE := Lib.hid (show Bx ((w.alloc (.cells #[.int .i64 (a.n : Int), .string (bs a.set), .string (bs a.rel)] 28)).alloc (.cells #[.int .i64 (e 0 : Nat), .int .i64 (e 1 : Nat), .int .i64 (e 2 : Nat), .int .i64 (e 3 : Nat)] 46)) (w.heap.size + 1) 46 #[.int .i64 (e 0 : Nat), .int .i64 (e 1 : Nat), .int .i64 (e 2 : Nat), .int .i64 (e 3 : Nat)] from bx_two w _ _)
  have BV := Lib.hid (show Below w.heap.size w ((w.alloc (.cells #[.int .i64 (a.n : Int), .string (bs a.set), .string (bs a.rel)] 28)).alloc (.cells #[.int .i64 (e 0 : Nat), .int .i64 (e 1 : Nat), .int .i64 (e 2 : Nat), .int .i64 (e 3 : Nat)] 46)) from ((Below.refl _ _).alloc (Nat.le_refl _) _).alloc (by simp) _)
  obtain ⟨s0, s1, s2⟩ := box_load XS.out
  have hev : ∀ v : Fin 4, ((w.alloc (.cells #[.int .i64 (a.n : Int), .string (bs a.set), .string (bs a.rel)] 28)).alloc (.cells #[.int .i64 (e 0 : Nat), .int .i64 (e 1 : Nat), .int .i64 (e 2 : Nat), .int .i64 (e 3 : Nat)] 46)).cell? ⟨w.heap.size + 1, v.val, none⟩ = some (.int .i64 (e v : Nat)) := fun v => (XE.out.cell v.val).trans (env_at e v)
  have c0 := XE.out.cell 0
  have c1 := XE.out.cell 1
  have c2 := XE.out.cell 2
  have c3 := XE.out.cell 3
  simp only [List.getElem?_toArray, List.getElem?_cons_zero, List.getElem?_cons_succ] at c0 c1 c2 c3
  have Hev := Lib.hid hev
  have He := Lib.hid he
  clear hev he
  unfold stA envA4
  have hk := hk1
  have hb : (s[k].toNat : Int) = 124 := by rw [hop]; rfl
  simp only [Fm.text, List.length_cons, List.length_append] at hle
  obtain ⟨hd1, hd2⟩ := at_two hd
  have hcall := fun W => Ih s (k + 1) _ ((k : Int) + 1) e W hd1 hs (by omega) He.out
  have hcall2 := fun W => Ih2 s (k + 1 + p.text.length) _ ((k + 1 + p.text.length : Nat) : Int) e W hd2 hs rfl He.out
  have hend := fun W => l2End_of s (k + 1 + p.text.length) q _ ((k + 1 + p.text.length : Nat) : Int) W hs hd2 rfl
  unfold stA envA4 at hcall hcall2
  clear hop hd hd1 hd2 Ih Ih2
  have Hcall2 := Lib.hid hcall2
  have Hend := Lib.hid hend
  clear hcall2 hend
  cases hp : p.holds a e with
  | false =>
    simp only [hp] at hcall
    have Hcall := Lib.hid hcall
    have Hp := Lib.hid hp
    clear hcall hp
    go_enter Tryd.func54, Tryd.ntmps54
    go_upto_region 19 with (go_at_call 54; refine (Hcall.out _).mono ?_; rintro ed w1 ⟨rfl, hz⟩; have B1 := Lib.hid (BV.out.trans (hz.mono BV.out.size)); have XSw1 := Lib.hid (XS.out.call hz); have XEw1 := Lib.hid (XE.out.call hz); clear hz s0 s1 s2 c0 c1 c2 c3; obtain ⟨t0, t1, t2⟩ := box_load XSw1.out; have d0 := XEw1.out.cell 0; have d1 := XEw1.out.cell 1; have d2 := XEw1.out.cell 2; have d3 := XEw1.out.cell 3; simp only [List.getElem?_toArray, List.getElem?_cons_zero, List.getElem?_cons_succ] at d0 d1 d2 d3)
    go_wp2_with (go_at_call 54; refine (Hcall2.out _).mono ?_; rintro ed w2 ⟨rfl, hz⟩; have B2 := Lib.hid (B1.out.trans (hz.mono B1.out.size)); clear hz)
    go_ret2
    exact ⟨ret_pair (by show Value.bool _ = Value.bool _; (show Value.bool _ = Value.bool (p.holds a e || q.holds a e); rw [Hp.out]; simp)) (by show Value.int .i64 _ = Value.int .i64 _; congr 1 <;> simp [Fm.text] <;> omega), B2.out⟩
  | true =>
    simp only [hp] at hcall
    have Hcall := Lib.hid hcall
    have Hp := Lib.hid hp
    clear hcall hp
    go_enter Tryd.func54, Tryd.ntmps54
    go_wp2_with (first | (go_at_call 51; refine (Hend.out _).mono ?_; rintro ed w2 ⟨rfl, rfl⟩) | (go_at_call 54; refine (Hcall.out _).mono ?_; rintro ed w1 ⟨rfl, hz⟩; have B1 := Lib.hid (BV.out.trans (hz.mono BV.out.size)); have XSw1 := Lib.hid (XS.out.call hz); have XEw1 := Lib.hid (XE.out.call hz); clear hz s0 s1 s2 c0 c1 c2 c3; obtain ⟨t0, t1, t2⟩ := box_load XSw1.out; have d0 := XEw1.out.cell 0; have d1 := XEw1.out.cell 1; have d2 := XEw1.out.cell 2; have d3 := XEw1.out.cell 3; simp only [List.getElem?_toArray, List.getElem?_cons_zero, List.getElem?_cons_succ] at d0 d1 d2 d3))
    go_ret2
    exact ⟨ret_pair (by show Value.bool _ = Value.bool _; (show Value.bool _ = Value.bool (p.holds a e || q.holds a e); rw [Hp.out]; rfl)) (by show Value.int .i64 _ = Value.int .i64 _; congr 1 <;> simp [Fm.text] <;> omega), B1.out⟩



end Go.Proofs.YtebjanjobfiloaaDoor
