/-
  Laws of the functions that the claim reaches, one after the other (packed by a program of the prover's: IsTrue, DecA, Decide, DecQ). Conditions: texts below the reach.
-/
import Derived.Test.YtpaleogkgfclnaaDoorPs6
import Derived.Test.YtpaleogkgfclnaaDoorPs4
import Derived.Test.YtpaleogkgfclnaaDoorPs0
set_option linter.unusedSimpArgs false
set_option linter.unusedVariables false

namespace Go.Proofs.YtpaleogkgfclnaaDoor
open Go.RowKit
open Go.ChangeMaps
open Pl
set_option linter.unusedSimpArgs false
set_option linter.unusedVariables false

theorem or_at {fr : Nat} {e : Nat → Nat} (he : ∀ i, e i < 8) {k : Nat} (hk : k < 4) (hb : fr.testBit k = true) : bits .or .i64 ((keyTo fr e k : Nat) : Int) ((e k * 8 ^ k : Nat) : Int) = ((keyTo fr e (k + 1) : Nat) : Int) := by
  have h1 := keyTo_lt (fr := fr) he k
  have h2 := keyTo_lt (fr := fr) he (k + 1)
  have e1 : keyTo fr e (k + 1) = keyTo fr e k ||| (e k * 8 ^ k) := by rw [show keyTo fr e (k + 1) = if fr.testBit k then keyTo fr e k ||| (e k * 8 ^ k) else keyTo fr e k from rfl, hb]; rfl
  rw [e1] at h2 ⊢
  have hp : (8 : Nat) ^ (k + 1) ≤ 4096 := by
    have : k = 0 ∨ k = 1 ∨ k = 2 ∨ k = 3 := by omega
    rcases this with rfl | rfl | rfl | rfl <;> decide
  have hp1 : (8 : Nat) ^ (k + 1) = 8 * 8 ^ k := by rw [Nat.pow_succ, Nat.mul_comm]
  have hx : e k * 8 ^ k ≤ 7 * 8 ^ k := Nat.mul_le_mul_right _ (by have := he k; omega)
  generalize e k * 8 ^ k = y at *
  generalize keyTo fr e k = m at *
  have g1 : (BitVec.ofInt 64 (m : Int)).toNat = m := by
    rw [BitVec.ofInt_natCast, BitVec.toNat_ofNat]; exact Nat.mod_eq_of_lt (by omega)
  have g2 : (BitVec.ofInt 64 (y : Int)).toNat = y := by
    rw [BitVec.ofInt_natCast, BitVec.toNat_ofNat]; exact Nat.mod_eq_of_lt (by omega)
  show IntKind.i64.wrap ((BitVec.ofInt 64 (m : Int) ||| BitVec.ofInt 64 (y : Int)).toNat : Int) = _
  rw [BitVec.toNat_or, g1, g2, IntWalk.i64_in _ (by omega)]

theorem keyTo_no {fr : Nat} {e : Nat → Nat} {k : Nat} (hb : fr.testBit k = false) : keyTo fr e (k + 1) = keyTo fr e k := by
  rw [show keyTo fr e (k + 1) = if fr.testBit k then keyTo fr e k ||| (e k * 8 ^ k) else keyTo fr e k from rfl, hb]; rfl

theorem index4 (W : World) (E : Nat → Nat) (k : Nat) (hk : k < 4) : (Instr.index 106 (.agg #[.int .i64 (E 0 : Nat), .int .i64 (E 1 : Nat), .int .i64 (E 2 : Nat), .int .i64 (E 3 : Nat)]) (.int .i64 (k : Nat))).run Tryd.prog W = .ok (.int .i64 (E k : Nat)) W := by
  obtain ⟨i0, hi, hz0, hz1, hz2⟩ := info_parts (P := Tryd.prog) (e := 3) (z := .int .i64 0) (size := 1) (bytes := 8) (by kernel_rfl)
  have hu := Tryd.underlying106
  have : k = 0 ∨ k = 1 ∨ k = 2 ∨ k = 3 := by omega
  rcases this with rfl | rfl | rfl | rfl <;> simp [Instr.index, run_underlying hu, asIntOf, part, isAgg, sizeOf, typeInfo, hi, hz1, hz0, go_sem]

theorem eql_map (W : World) (m : Option Nat) : (binOp .eql 127 (.map m) (.map none)).run Tryd.prog W = .ok (.bool m.isNone) W := by
  have hu := Tryd.underlying127
  have h : ∀ d : Nat, (Op.equalIn (d + 1) 127 (.map m) (.map none)).run Tryd.prog W = .ok m.isNone W := fun d => by
    cases m <;> simp [Op.equalIn, run_underlying hu]
  simp only [binOp]
  simp [Op.equal, Op.maxDepth, h 9999]

/-- the holder, of a structure, for trees in a world -/
structure HoldW (lo : Nat) (w0 : World) (a : St) (hb : Nat) (w : World) : Prop where
  tr : Below w0.heap.size w0 w
  ge : w0.heap.size ≤ hb
  box : Bx w (hb + 1) 105 #[.int .i64 (a.n : Int), .string (bs a.set), .string (bs a.rel), .map (some hb)]
  cache : Cache (Good lo w0 a) hb w

theorem HoldW.step {lo : Nat} {w0 : World} {a : St} {hb : Nat} {w w' : World} (h : HoldW lo w0 a hb w) (hf : Fz hb w w') (hc : Cache (Good lo w0 a) hb w') : HoldW lo w0 a hb w' :=
  ⟨h.tr.trans (hf.below.mono h.ge), h.ge, hf.bx h.box, hc⟩
theorem HoldW.call {lo : Nat} {w0 : World} {a : St} {hb : Nat} {w w' : World} (h : HoldW lo w0 a hb w) (hf : Below w.heap.size w w') : HoldW lo w0 a hb w' :=
  h.step (Fz.call (Nat.le_of_lt h.cache.lt) hf) (h.cache.call hf)
theorem HoldW.alloc {lo : Nat} {w0 : World} {a : St} {hb : Nat} {w : World} (h : HoldW lo w0 a hb w) (o : Obj) : HoldW lo w0 a hb (w.alloc o) := h.call ((Below.refl _ _).alloc (Nat.le_refl _) o)
theorem HoldW.tree {lo : Nat} {w0 : World} {a : St} {hb : Nat} {w : World} (h : HoldW lo w0 a hb w) {f : Fm} {nb : Nat} (ht : TreeAt lo w0 f nb) : TreeAt lo w f nb := ht.below h.tr

/-- the elements of the four variables, as a value -/
def envA (e : Env) : Array Value := #[.int .i64 (e 0 : Nat), .int .i64 (e 1 : Nat), .int .i64 (e 2 : Nat), .int .i64 (e 3 : Nat)]

/-- what isTrue and decide give back for a formula -/
def HoldsBy (F : FuncId) (lo : Nat) (w0 : World) (a : St) (hb : Nat) (f : Fm) : Prop :=
  ∀ (nb : Nat) (e : Env) (w : World), TreeAt lo w0 f nb → (∀ v, e v < a.n) → HoldW lo w0 a hb w →
    Calls Tryd.prog F #[.pointer (some ⟨hb + 1, 0, none⟩), kidV nb, .agg (envA e)] w fun ed w' => ed = .returned (.bool (f.holds a e)) ∧ HoldW lo w0 a hb w' ∧ Fz hb w w'

set_option maxRecDepth 100000 in
set_option maxHeartbeats 4000000 in
theorem isTrue_of (lo : Nat) (w0 : World) (a : St) (ha : a.ok) (hb : Nat) (f : Fm) (hd : HoldsBy 103 lo w0 a hb f) : HoldsBy 85 lo w0 a hb f := by
  intro nb e w ht he hw
  have h8 := ha.hi
  have he8 : ∀ v, e v < 8 := fun v => Nat.lt_of_lt_of_le (he v) h8
  have hfr : f.freeBits < 16 := freeBits_lt f
  have hg := good_new a ht he8
  have hkl := keyN_lt (fr := f.freeBits) he8
  obtain ⟨E, hE⟩ : ∃ E, E = eN e := ⟨_, rfl⟩
  have hA : envA e = #[.int .i64 (E 0 : Nat), .int .i64 (E 1 : Nat), .int .i64 (E 2 : Nat), .int .i64 (E 3 : Nat)] := by rw [hE]; rfl
  have hd2 := fun (W : World) (hW : HoldW lo w0 a hb W) => hd nb e W ht he hW
  simp only [hA] at hd2 ⊢
  have Hd := Lib.hid hd2
  clear hd2 hA
  have Hnlt := Lib.hid (show nb < hb from by
    obtain ⟨ks, ⟨_, vs, ps, hh, _⟩, _⟩ := ht.open
    have h1 := (Array.getElem?_eq_some_iff.1 hh).1
    have h2 := hw.ge
    omega)
  have T0 := Lib.hid ht
  have W1 := Lib.hid (hw.alloc (.cells #[.int .i64 (E 0 : Nat), .int .i64 (E 1 : Nat), .int .i64 (E 2 : Nat), .int .i64 (E 3 : Nat)] 106))
  have hx := Bx.new w 106 #[.int .i64 (E 0 : Nat), .int .i64 (E 1 : Nat), .int .i64 (E 2 : Nat), .int .i64 (E 3 : Nat)]
  have F1 := Lib.hid (Fz.alloc (Nat.le_of_lt hw.cache.lt) (.cells #[.int .i64 (E 0 : Nat), .int .i64 (E 1 : Nat), .int .i64 (E 2 : Nat), .int .i64 (E 3 : Nat)] 106))
  obtain ⟨ks, vsv, psv, hc0, hc1, hc2, hc3, hc4, _⟩ := node_cells (W1.out.tree ht)
  obtain ⟨jf, hinf, hsz⟩ : ∃ j, Tryd.prog.info? 66 = some j ∧ j.size ≠ 0 := by
    have h : (Tryd.prog.info? 66).map (·.size) = some 5 := by kernel_rfl
    cases hi : Tryd.prog.info? 66 with
    | none => rw [hi] at h; cases h
    | some j => exact ⟨j, rfl, by rw [hi] at h; simp at h; omega⟩
  have hzm : ∀ W, (zeroValue 127).run Tryd.prog W = .ok (.map none) W := fun W => by kernel_rfl
  have hzb : ∀ W, (zeroValue 4).run Tryd.prog W = .ok (.bool false) W := fun W => by kernel_rfl
  obtain ⟨ks0, ⟨_, vs0, ps0, hbk, _⟩, _⟩ := (W1.out.tree ht).open
  have Hn := Lib.hid hbk
  clear hbk
  have b3 := W1.out.box.cell 3
  simp only [List.getElem?_toArray, List.getElem?_cons_zero, List.getElem?_cons_succ] at b3
  have v0 := hx.cell 0
  have v1 := hx.cell 1
  have v2 := hx.cell 2
  have v3 := hx.cell 3
  have Hx := Lib.hid hx
  have eE := eN_lt he8
  obtain ⟨fr, hfr2⟩ : ∃ fr, fr = f.freeBits := ⟨_, rfl⟩
  rw [← hfr2] at hc3 hfr
  rw [← hE] at eE
  have He8 := Lib.hid he8
  have Hg := Lib.hid hg
  have Hkl := Lib.hid hkl
  have HE := Lib.hid hE
  have Hfr := Lib.hid hfr2
  simp only [List.getElem?_toArray, List.getElem?_cons_zero, List.getElem?_cons_succ] at v0 v1 v2 v3
  clear hd ht hw hx hg hkl hE hfr2 he8 he h8 hc0 hc1 hc2 hc4
  go_enter Tryd.func85, Tryd.ntmps85
  go_wp2_with fail
  go_loop [7, 14] (fun o i => ∃ k : Nat, k ≤ 4 ∧ i = .int .i64 (k : Nat) ∧ o = .int .i64 (keyTo fr E k : Nat)) (fun _ i => 4 - (intOf i).toNat)
  case atStart => exact ⟨0, by omega, rfl, rfl⟩
  case round =>
    obtain ⟨k, hk, rfl, rfl⟩ := hrel
    by_cases hlt : k < 4
    · have hbit := shr_bit fr k hfr hlt
      have hx8 := eE k
      have hix := fun W => index4 W E k hlt
      have hor := fun h => or_at (fr := fr) eE hlt h
      have hno := fun h => keyTo_no (fr := fr) (e := E) (k := k) h
      have hsh : IntKind.i64.wrap (3 * (k : Int)) = ((3 * k : Nat) : Int) := by rw [IntWalk.i64_in _ (by omega)]; omega
      have hpw : wrap64 ((E k : Int) * 2 ^ (3 * k)) = ((E k * 8 ^ k : Nat) : Int) := by
        have hp : (8 : Nat) ^ k ≤ 512 := by
          have : k = 0 ∨ k = 1 ∨ k = 2 ∨ k = 3 := by omega
          rcases this with rfl | rfl | rfl | rfl <;> decide
        have e1 : ((E k : Int) * 2 ^ (3 * k)) = ((E k * 8 ^ k : Nat) : Int) := by rw [Int.natCast_mul, Int.natCast_pow, Int.pow_mul]; rfl
        have hm : E k * 8 ^ k ≤ 7 * 512 := Nat.mul_le_mul (by omega) hp
        rw [e1]
        unfold wrap64
        omega
      cases hb' : fr.testBit k with
      | true =>
        rw [hb'] at hbit
        have Hor := Lib.hid (hor hb')
        have Hpw := Lib.hid hpw
        clear hno hb' hor hpw
        go_wp2_with fail
        go_round
        case rel => exact ⟨k + 1, by omega, by go_num, congrArg _ (by rw [Hpw.out]; exact Hor.out)⟩
        case measure => simp [intOf]; omega
      | false =>
        rw [hb'] at hbit
        have hno := hno hb'
        have Hno := Lib.hid hno
        clear hor hb' hno
        go_wp2_with fail
        go_round
        case rel => exact ⟨k + 1, by omega, by go_num, by rw [Hno.out]⟩
        case measure => simp [intOf]; omega
    · obtain rfl : k = 4 := by omega
      obtain ⟨K, hK⟩ : ∃ K, K = keyTo fr E 4 := ⟨_, rfl⟩
      have hK2 : keyN f.freeBits e = K := by rw [hK, Hfr.out, HE.out]; rfl
      rw [← hK]
      rw [hK2] at Hg Hkl
      have HK := Lib.hid hK2
      clear hK hK2
      rcases W1.out.cache.look Tryd.underlying103 Tryd.underlying52 hinf hsz (hzm _) Hn.out with hr | ⟨ib, esi, ci, hr, hkept, hlt2, hi, hok⟩
      · have hr2 := inner_look_nil (P := Tryd.prog) (w := w.alloc (.cells #[.int .i64 (E 0 : Nat), .int .i64 (E 1 : Nat), .int .i64 (E 2 : Nat), .int .i64 (E 3 : Nat)] 106)) Tryd.underlying127 Tryd.underlying3 (hzb _) Hkl.out
        go_wp2_with fail
        refine (Hd.out _ W1.out).mono ?_
        clear hr hr2 b3
        rintro ed w2 ⟨rfl, hW2, hF2⟩
        have W2 := Lib.hid hW2
        have F2 := Lib.hid (F1.out.trans hF2)
        have b3 := hW2.box.cell 3
        simp only [List.getElem?_toArray, List.getElem?_cons_zero, List.getElem?_cons_succ] at b3
        have hq0 := eql_map w2 none
        have hq1 := fun m => eql_map w2 (some m)
        simp only [Option.isNone_none, Option.isNone_some] at hq0 hq1
        have hn2 := hF2.cells _ _ _ _ Hn.out
        clear hW2 hF2
        rcases W2.out.cache.look Tryd.underlying103 Tryd.underlying52 hinf hsz (hzm _) hn2 with hr | ⟨ib, esi, ci, hr, hkept, hlt, hi, hok⟩
        · obtain ⟨W, hr4, hcW, hfW, hin⟩ := W2.out.cache.grow Tryd.underlying103 Tryd.underlying52 hinf hsz hn2 Hnlt.out
          have W3 := Lib.hid (W2.out.step hfW hcW)
          obtain ⟨ib, esi, ci, hr5, hkept, hlt, hi, hok⟩ := hcW.found Tryd.underlying103 Tryd.underlying52 hinf hsz (hzm _) (hfW.cells _ _ _ _ hn2) hin
          obtain ⟨W', hr6, hcW', hfW'⟩ := hcW.put hkept hlt hi hok Tryd.underlying127 Tryd.underlying3 Hkl.out Hg.out
          have W4 := Lib.hid (W3.out.step hfW' hcW')
          have F4 := Lib.hid ((F2.out.trans hfW).trans hfW')
          have c3 := W3.out.box.cell 3
          have d3 := (W2.out.alloc (.map #[] 0)).box.cell 3
          simp only [List.getElem?_toArray, List.getElem?_cons_zero, List.getElem?_cons_succ] at c3 d3
          have hmk := run_makeMap (P := Tryd.prog) 127 w2
          clear hcW hfW hin hkept hlt hi hok hcW' hfW' hn2
          go_wp2_with fail
          go_ret
          exact ⟨rfl, W4.out, F4.out⟩
        · obtain ⟨W', hr6, hcW', hfW'⟩ := W2.out.cache.put hkept hlt hi hok Tryd.underlying127 Tryd.underlying3 Hkl.out Hg.out
          have W4 := Lib.hid (W2.out.step hfW' hcW')
          have F4 := Lib.hid (F2.out.trans hfW')
          clear hkept hlt hi hok hcW' hfW' hn2
          go_wp2_with fail
          go_ret
          exact ⟨rfl, W4.out, F4.out⟩
      · rcases inner_look (P := Tryd.prog) hi hok Tryd.underlying127 Tryd.underlying3 (hzb _) Hkl.out with hr2 | ⟨v, hr2, hv⟩
        · clear hkept hlt2 hi hok
          go_wp2_with fail
          refine (Hd.out _ W1.out).mono ?_
          clear hr hr2 b3
          rintro ed w2 ⟨rfl, hW2, hF2⟩
          have W2 := Lib.hid hW2
          have F2 := Lib.hid (F1.out.trans hF2)
          have b3 := hW2.box.cell 3
          simp only [List.getElem?_toArray, List.getElem?_cons_zero, List.getElem?_cons_succ] at b3
          have hq0 := eql_map w2 none
          have hq1 := fun m => eql_map w2 (some m)
          simp only [Option.isNone_none, Option.isNone_some] at hq0 hq1
          have hn2 := hF2.cells _ _ _ _ Hn.out
          clear hW2 hF2
          rcases W2.out.cache.look Tryd.underlying103 Tryd.underlying52 hinf hsz (hzm _) hn2 with hr | ⟨ib, esi, ci, hr, hkept, hlt, hi, hok⟩
          · obtain ⟨W, hr4, hcW, hfW, hin⟩ := W2.out.cache.grow Tryd.underlying103 Tryd.underlying52 hinf hsz hn2 Hnlt.out
            have W3 := Lib.hid (W2.out.step hfW hcW)
            obtain ⟨ib, esi, ci, hr5, hkept, hlt, hi, hok⟩ := hcW.found Tryd.underlying103 Tryd.underlying52 hinf hsz (hzm _) (hfW.cells _ _ _ _ hn2) hin
            obtain ⟨W', hr6, hcW', hfW'⟩ := hcW.put hkept hlt hi hok Tryd.underlying127 Tryd.underlying3 Hkl.out Hg.out
            have W4 := Lib.hid (W3.out.step hfW' hcW')
            have F4 := Lib.hid ((F2.out.trans hfW).trans hfW')
            have c3 := W3.out.box.cell 3
            have d3 := (W2.out.alloc (.map #[] 0)).box.cell 3
            simp only [List.getElem?_toArray, List.getElem?_cons_zero, List.getElem?_cons_succ] at c3 d3
            have hmk := run_makeMap (P := Tryd.prog) 127 w2
            clear hcW hfW hin hkept hlt hi hok hcW' hfW' hn2
            go_wp2_with fail
            go_ret
            exact ⟨rfl, W4.out, F4.out⟩
          · obtain ⟨W', hr6, hcW', hfW'⟩ := W2.out.cache.put hkept hlt hi hok Tryd.underlying127 Tryd.underlying3 Hkl.out Hg.out
            have W4 := Lib.hid (W2.out.step hfW' hcW')
            have F4 := Lib.hid (F2.out.trans hfW')
            clear hkept hlt hi hok hcW' hfW' hn2
            go_wp2_with fail
            go_ret
            exact ⟨rfl, W4.out, F4.out⟩
        · have hv2 := hv f T0.out e He8.out HK.out
          have Hv := Lib.hid hv2
          clear hkept hlt2 hi hok hv hv2
          go_wp2_with fail
          go_ret
          exact ⟨by rw [← Hv.out]; rfl, W1.out, F1.out⟩

end Go.Proofs.YtpaleogkgfclnaaDoor

namespace Go.Proofs.YtpaleogkgfclnaaDoor
open Go.RowKit
open Go.ChangeMaps
open Pl
set_option linter.unusedSimpArgs false
set_option linter.unusedVariables false

/-- the boxes of decide: the formula's address, the elements -/
structure DecB (w : World) (bn nb : Nat) (E : Nat → Nat) : Prop where
  node : Bx w bn 52 #[kidV nb]
  vals : Bx w (bn + 1) 106 #[.int .i64 (E 0 : Nat), .int .i64 (E 1 : Nat), .int .i64 (E 2 : Nat), .int .i64 (E 3 : Nat)]

theorem fin4 : ∀ v : Fin 4, v = 0 ∨ v = 1 ∨ v = 2 ∨ v = 3 := by decide

set_option maxRecDepth 100000 in
set_option maxHeartbeats 1000000 in
theorem at_calls {S : Nat → Prop} (f : Fm) (nb bn : Nat) (E : Nat → Nat) (w : World) (ht : TreeIn S w f nb) (hb : DecB w bn nb E) (i : Nat) (v : Fin 4) (hv : f.vars[i]? = some v) :
    Calls Tryd.prog 114 #[.int .i64 (i : Nat), .pointer (some ⟨bn + 1, 0, none⟩), .pointer (some ⟨bn, 0, none⟩)] w fun e w' => e = .returned (.int .i64 (E v.val : Nat)) ∧ w = w' := by
  obtain ⟨ks, vsv, psv, _, hc1, _, _, _, hrow, _⟩ := node_cells ht
  obtain ⟨a, cap, rfl, hl, hrow⟩ := row_slice hrow
  have hi : i < f.vars.length := (List.getElem?_eq_some_iff.1 hv).1
  have hl2 := vars_le f
  obtain ⟨g, rfl, hcell⟩ := hrow i hi
  have hcell2 : w.cell? ⟨g, i, none⟩ = some (byteV (vb v)) := by rw [hcell, List.getElem?_map, hv]; rfl
  have n0 := hb.node.cell 0
  have v0 := hb.vals.cell 0
  have v1 := hb.vals.cell 1
  have v2 := hb.vals.cell 2
  have v3 := hb.vals.cell 3
  simp only [List.getElem?_toArray, List.getElem?_cons_zero, List.getElem?_cons_succ] at n0 v0 v1 v2 v3
  unfold byteV at hcell2
  have i1 : (0 : Int) ≤ (i : Int) := by omega
  have i2 : (i : Int) < (f.vars.length : Int) := by omega
  generalize f.vars.length = nv at *
  clear hb ht hv hl hcell hrow hi hl2
  have : v = 0 ∨ v = 1 ∨ v = 2 ∨ v = 3 := fin4 v
  rcases this with rfl | rfl | rfl | rfl
  · have e : ((vb 0).toNat : Int) = 97 := by decide
    rw [e] at hcell2
    go_enter Tryd.func114, Tryd.ntmps114
    go_wp2_with fail
    go_ret
    exact ⟨rfl, rfl⟩
  · have e : ((vb 1).toNat : Int) = 98 := by decide
    rw [e] at hcell2
    go_enter Tryd.func114, Tryd.ntmps114
    go_wp2_with fail
    go_ret
    exact ⟨rfl, rfl⟩
  · have e : ((vb 2).toNat : Int) = 99 := by decide
    rw [e] at hcell2
    go_enter Tryd.func114, Tryd.ntmps114
    go_wp2_with fail
    go_ret
    exact ⟨rfl, rfl⟩
  · have e : ((vb 3).toNat : Int) = 100 := by decide
    rw [e] at hcell2
    go_enter Tryd.func114, Tryd.ntmps114
    go_wp2_with fail
    go_ret
    exact ⟨rfl, rfl⟩

end Go.Proofs.YtpaleogkgfclnaaDoor

namespace Go.Proofs.YtpaleogkgfclnaaDoor
open Go.RowKit
open Go.ChangeMaps
open Pl
set_option linter.unusedSimpArgs false
set_option linter.unusedVariables false

theorem Fz.cell {B : Nat} {w w' : World} (h : Fz B w w') {p : Addr} {v : Value} (hc : w.cell? p = some v) : w'.cell? p = some v := by
  unfold World.cell? at hc ⊢
  split at hc
  · rename_i c t k e
    rw [h.cells _ _ _ _ e]
    exact hc
  · cases hc
theorem fz_drew (B : Nat) (w : World) : Fz B w w.drew := (Fz.refl B w).drew
theorem HoldW.drew {lo : Nat} {w0 : World} {a : St} {hb : Nat} {w : World} (h : HoldW lo w0 a hb w) : HoldW lo w0 a hb w.drew := h.step (fz_drew hb w) h.cache.drew
theorem node_kids {lo : Nat} {w0 : World} {a : St} {hb : Nat} {W : World} (h : HoldW lo w0 a hb W) {f : Fm} {nb : Nat} (ht : TreeAt lo w0 f nb) :
    ∃ ks psv, W.cell? ⟨nb, 2, none⟩ = some psv ∧ W.ownsRow 0 52 1 psv ks.length (ks.map kidV) ∧ TreesIn (fun g => lo ≤ g) w0 f.parts ks := by
  obtain ⟨ks, hn, hts⟩ := ht.open
  obtain ⟨_, vs, ps, hh, _, _, hp, _⟩ := NodeIn.keep (S' := fun g => lo ≤ g) (w' := W) hn (fun g hs hg => ⟨h.tr.block g hg, hs⟩)
  exact ⟨ks, ps, cell_at hh 2, hp, hts⟩
/-- the parts' addresses of a formula of one part -/
theorem kid_one {lo : Nat} {w0 : World} {a : St} {hb : Nat} {W : World} (h : HoldW lo w0 a hb W) {f p : Fm} {nb : Nat} (ht : TreeAt lo w0 f nb) (hf : f.parts = [p]) :
    ∃ k g cap, W.cell? ⟨nb, 2, none⟩ = some (.slice (some ⟨g, 0, none⟩) 1 cap) ∧ W.cell? ⟨g, 0, none⟩ = some (kidV k) ∧ TreeAt lo w0 p k := by
  obtain ⟨ks, psv, h1, h2, h3, h4⟩ := node_kids h ht
  rw [hf] at h3 h4
  match ks, h3 with
  | [k], _ =>
    obtain ⟨g, cap, rfl, _, _, _, _, hc⟩ := row_open h2 (by simp)
    exact ⟨k, g, cap, h1, by simpa using hc 0 (by simp), h4 0 p k rfl rfl⟩
theorem kid_two {lo : Nat} {w0 : World} {a : St} {hb : Nat} {W : World} (h : HoldW lo w0 a hb W) {f p q : Fm} {nb : Nat} (ht : TreeAt lo w0 f nb) (hf : f.parts = [p, q]) :
    ∃ k l g cap, W.cell? ⟨nb, 2, none⟩ = some (.slice (some ⟨g, 0, none⟩) 2 cap) ∧ W.cell? ⟨g, 0, none⟩ = some (kidV k) ∧ W.cell? ⟨g, 1, none⟩ = some (kidV l) ∧ TreeAt lo w0 p k ∧ TreeAt lo w0 q l := by
  obtain ⟨ks, psv, h1, h2, h3, h4⟩ := node_kids h ht
  rw [hf] at h3 h4
  match ks, h3 with
  | [k, l], _ =>
    obtain ⟨g, cap, rfl, _, _, _, _, hc⟩ := row_open h2 (by simp)
    exact ⟨k, l, g, cap, h1, by simpa using hc 0 (by simp), by simpa using hc 1 (by simp), h4 0 p k rfl rfl, h4 1 q l rfl rfl⟩

section
variable (lo : Nat) (w0 : World) (a : St) (hb : Nat)

set_option maxRecDepth 100000 in
set_option maxHeartbeats 2000000 in
theorem decide_tru : HoldsBy 103 lo w0 a hb .tru := by
  intro nb e w ht he hw
  obtain ⟨E, hE⟩ : ∃ E, E = eN e := ⟨_, rfl⟩
  have hA : envA e = #[.int .i64 (E 0 : Nat), .int .i64 (E 1 : Nat), .int .i64 (E 2 : Nat), .int .i64 (E 3 : Nat)] := by rw [hE]; rfl
  rw [hA]
  have hV := (hw.alloc (.cells #[kidV nb] 52)).alloc (.cells #[.int .i64 (E 0 : Nat), .int .i64 (E 1 : Nat), .int .i64 (E 2 : Nat), .int .i64 (E 3 : Nat)] 106)
  have hD : DecB ((w.alloc (.cells #[kidV nb] 52)).alloc (.cells #[.int .i64 (E 0 : Nat), .int .i64 (E 1 : Nat), .int .i64 (E 2 : Nat), .int .i64 (E 3 : Nat)] 106)) w.heap.size nb E := ⟨(Bx.new w 52 #[kidV nb]).alloc _, bx_two w _ _⟩
  have HV := Lib.hid hV
  have HD := Lib.hid hD
  have HT := Lib.hid (hV.tree ht)
  have F1 := Lib.hid ((Fz.alloc (Nat.le_of_lt hw.cache.lt) (.cells #[kidV nb] 52)).trans (Fz.alloc (by have := hw.cache.lt; simp; omega) (.cells #[.int .i64 (E 0 : Nat), .int .i64 (E 1 : Nat), .int .i64 (E 2 : Nat), .int .i64 (E 3 : Nat)] 106)))
  obtain ⟨ks, vsv, psv, hc0, _⟩ := node_cells HT.out
  have hc0 : ((w.alloc (.cells #[kidV nb] 52)).alloc (.cells #[.int .i64 (E 0 : Nat), .int .i64 (E 1 : Nat), .int .i64 (E 2 : Nat), .int .i64 (E 3 : Nat)] 106)).cell? ⟨nb, 0, none⟩ = some (.int .u8 116) := hc0
  have n0 := hD.node.cell 0
  simp only [List.getElem?_toArray, List.getElem?_cons_zero, List.getElem?_cons_succ] at n0
  have HE := Lib.hid hE
  have He := Lib.hid he
  have HTw := Lib.hid ht
  clear hE hA hV hD ht he hw
  go_enter Tryd.func103, Tryd.ntmps103
  go_wp2_with fail
  go_ret
  exact ⟨rfl, HV.out, F1.out⟩

set_option maxRecDepth 100000 in
set_option maxHeartbeats 2000000 in
theorem decide_fls : HoldsBy 103 lo w0 a hb .fls := by
  intro nb e w ht he hw
  obtain ⟨E, hE⟩ : ∃ E, E = eN e := ⟨_, rfl⟩
  have hA : envA e = #[.int .i64 (E 0 : Nat), .int .i64 (E 1 : Nat), .int .i64 (E 2 : Nat), .int .i64 (E 3 : Nat)] := by rw [hE]; rfl
  rw [hA]
  have hV := (hw.alloc (.cells #[kidV nb] 52)).alloc (.cells #[.int .i64 (E 0 : Nat), .int .i64 (E 1 : Nat), .int .i64 (E 2 : Nat), .int .i64 (E 3 : Nat)] 106)
  have hD : DecB ((w.alloc (.cells #[kidV nb] 52)).alloc (.cells #[.int .i64 (E 0 : Nat), .int .i64 (E 1 : Nat), .int .i64 (E 2 : Nat), .int .i64 (E 3 : Nat)] 106)) w.heap.size nb E := ⟨(Bx.new w 52 #[kidV nb]).alloc _, bx_two w _ _⟩
  have HV := Lib.hid hV
  have HD := Lib.hid hD
  have HT := Lib.hid (hV.tree ht)
  have F1 := Lib.hid ((Fz.alloc (Nat.le_of_lt hw.cache.lt) (.cells #[kidV nb] 52)).trans (Fz.alloc (by have := hw.cache.lt; simp; omega) (.cells #[.int .i64 (E 0 : Nat), .int .i64 (E 1 : Nat), .int .i64 (E 2 : Nat), .int .i64 (E 3 : Nat)] 106)))
  obtain ⟨ks, vsv, psv, hc0, _⟩ := node_cells HT.out
  have hc0 : ((w.alloc (.cells #[kidV nb] 52)).alloc (.cells #[.int .i64 (E 0 : Nat), .int .i64 (E 1 : Nat), .int .i64 (E 2 : Nat), .int .i64 (E 3 : Nat)] 106)).cell? ⟨nb, 0, none⟩ = some (.int .u8 102) := hc0
  have n0 := hD.node.cell 0
  simp only [List.getElem?_toArray, List.getElem?_cons_zero, List.getElem?_cons_succ] at n0
  have HE := Lib.hid hE
  have He := Lib.hid he
  have HTw := Lib.hid ht
  clear hE hA hV hD ht he hw
  go_enter Tryd.func103, Tryd.ntmps103
  go_wp2_with fail
  go_ret
  exact ⟨rfl, HV.out, F1.out⟩

set_option maxRecDepth 100000 in
set_option maxHeartbeats 2000000 in
theorem decide_eq (v u : Fin 4) : HoldsBy 103 lo w0 a hb (.eq v u) := by
  intro nb e w ht he hw
  obtain ⟨E, hE⟩ : ∃ E, E = eN e := ⟨_, rfl⟩
  have hA : envA e = #[.int .i64 (E 0 : Nat), .int .i64 (E 1 : Nat), .int .i64 (E 2 : Nat), .int .i64 (E 3 : Nat)] := by rw [hE]; rfl
  rw [hA]
  have hV := (hw.alloc (.cells #[kidV nb] 52)).alloc (.cells #[.int .i64 (E 0 : Nat), .int .i64 (E 1 : Nat), .int .i64 (E 2 : Nat), .int .i64 (E 3 : Nat)] 106)
  have hD : DecB ((w.alloc (.cells #[kidV nb] 52)).alloc (.cells #[.int .i64 (E 0 : Nat), .int .i64 (E 1 : Nat), .int .i64 (E 2 : Nat), .int .i64 (E 3 : Nat)] 106)) w.heap.size nb E := ⟨(Bx.new w 52 #[kidV nb]).alloc _, bx_two w _ _⟩
  have HV := Lib.hid hV
  have HD := Lib.hid hD
  have HT := Lib.hid (hV.tree ht)
  have F1 := Lib.hid ((Fz.alloc (Nat.le_of_lt hw.cache.lt) (.cells #[kidV nb] 52)).trans (Fz.alloc (by have := hw.cache.lt; simp; omega) (.cells #[.int .i64 (E 0 : Nat), .int .i64 (E 1 : Nat), .int .i64 (E 2 : Nat), .int .i64 (E 3 : Nat)] 106)))
  obtain ⟨ks, vsv, psv, hc0, _⟩ := node_cells HT.out
  have hc0 : ((w.alloc (.cells #[kidV nb] 52)).alloc (.cells #[.int .i64 (E 0 : Nat), .int .i64 (E 1 : Nat), .int .i64 (E 2 : Nat), .int .i64 (E 3 : Nat)] 106)).cell? ⟨nb, 0, none⟩ = some (.int .u8 61) := hc0
  have n0 := hD.node.cell 0
  simp only [List.getElem?_toArray, List.getElem?_cons_zero, List.getElem?_cons_succ] at n0
  have HE := Lib.hid hE
  have He := Lib.hid he
  have HTw := Lib.hid ht
  clear hE hA hV hD ht he hw
  go_enter Tryd.func103, Tryd.ntmps103
  have c0 := at_calls (.eq v u) nb w.heap.size E ((w.alloc (.cells #[kidV nb] 52)).alloc (.cells #[.int .i64 (E 0 : Nat), .int .i64 (E 1 : Nat), .int .i64 (E 2 : Nat), .int .i64 (E 3 : Nat)] 106)) HT.out HD.out 0 v rfl
  have c1 := at_calls (.eq v u) nb w.heap.size E ((w.alloc (.cells #[kidV nb] 52)).alloc (.cells #[.int .i64 (E 0 : Nat), .int .i64 (E 1 : Nat), .int .i64 (E 2 : Nat), .int .i64 (E 3 : Nat)] 106)) HT.out HD.out 1 u rfl
  have e0 : E v.val = e v := by rw [HE.out, eN_fin]
  have e1 : E u.val = e u := by rw [HE.out, eN_fin]
  rw [e0] at c0
  rw [e1] at c1
  have C0 := Lib.hid c0
  have C1 := Lib.hid c1
  clear c0 c1 e0 e1
  go_wp2_with fail
  refine (C0.out).mono ?_
  rintro ed w1 ⟨rfl, rfl⟩
  go_wp2_with fail
  refine (C1.out).mono ?_
  rintro ed w1 ⟨rfl, rfl⟩
  go_wp2_with fail
  go_ret
  refine ⟨?_, HV.out, F1.out⟩
  show Ending.returned (.bool (((e v : Nat) : Int) == ((e u : Nat) : Int))) = .returned (.bool ((e v) == (e u)))
  congr 2
  rw [Bool.eq_iff_iff, beq_iff_eq, beq_iff_eq]
  omega

set_option maxRecDepth 100000 in
set_option maxHeartbeats 2000000 in
theorem decide_neg (p : Fm) (ih : HoldsBy 85 lo w0 a hb p) : HoldsBy 103 lo w0 a hb (.neg p) := by
  intro nb e w ht he hw
  obtain ⟨E, hE⟩ : ∃ E, E = eN e := ⟨_, rfl⟩
  have hA : envA e = #[.int .i64 (E 0 : Nat), .int .i64 (E 1 : Nat), .int .i64 (E 2 : Nat), .int .i64 (E 3 : Nat)] := by rw [hE]; rfl
  rw [hA]
  have hV := (hw.alloc (.cells #[kidV nb] 52)).alloc (.cells #[.int .i64 (E 0 : Nat), .int .i64 (E 1 : Nat), .int .i64 (E 2 : Nat), .int .i64 (E 3 : Nat)] 106)
  have hD : DecB ((w.alloc (.cells #[kidV nb] 52)).alloc (.cells #[.int .i64 (E 0 : Nat), .int .i64 (E 1 : Nat), .int .i64 (E 2 : Nat), .int .i64 (E 3 : Nat)] 106)) w.heap.size nb E := ⟨(Bx.new w 52 #[kidV nb]).alloc _, bx_two w _ _⟩
  have HV := Lib.hid hV
  have HD := Lib.hid hD
  have HT := Lib.hid (hV.tree ht)
  have F1 := Lib.hid ((Fz.alloc (Nat.le_of_lt hw.cache.lt) (.cells #[kidV nb] 52)).trans (Fz.alloc (by have := hw.cache.lt; simp; omega) (.cells #[.int .i64 (E 0 : Nat), .int .i64 (E 1 : Nat), .int .i64 (E 2 : Nat), .int .i64 (E 3 : Nat)] 106)))
  obtain ⟨ks, vsv, psv, hc0, _⟩ := node_cells HT.out
  have hc0 : ((w.alloc (.cells #[kidV nb] 52)).alloc (.cells #[.int .i64 (E 0 : Nat), .int .i64 (E 1 : Nat), .int .i64 (E 2 : Nat), .int .i64 (E 3 : Nat)] 106)).cell? ⟨nb, 0, none⟩ = some (.int .u8 33) := hc0
  have n0 := hD.node.cell 0
  simp only [List.getElem?_toArray, List.getElem?_cons_zero, List.getElem?_cons_succ] at n0
  have HE := Lib.hid hE
  have He := Lib.hid he
  have HTw := Lib.hid ht
  clear hE hA hV hD ht he hw
  obtain ⟨k, g, cap, hp0, hk0, htk⟩ := kid_one HV.out HTw.out (f := .neg p) rfl
  have p0 : ((w.alloc (.cells #[kidV nb] 52)).alloc (.cells #[.int .i64 (E 0 : Nat), .int .i64 (E 1 : Nat), .int .i64 (E 2 : Nat), .int .i64 (E 3 : Nat)] 106)).cell? ⟨nb, 2, none⟩ = some (.slice (some ⟨g, 0, none⟩) 1 cap) := hp0
  have k0 : ((w.alloc (.cells #[kidV nb] 52)).alloc (.cells #[.int .i64 (E 0 : Nat), .int .i64 (E 1 : Nat), .int .i64 (E 2 : Nat), .int .i64 (E 3 : Nat)] 106)).cell? ⟨g, 0, none⟩ = some (kidV k) := hk0
  have v0 := HD.out.vals.cell 0
  have v1 := HD.out.vals.cell 1
  have v2 := HD.out.vals.cell 2
  have v3 := HD.out.vals.cell 3
  simp only [List.getElem?_toArray, List.getElem?_cons_zero, List.getElem?_cons_succ] at v0 v1 v2 v3
  have hA : envA e = #[.int .i64 (E 0 : Nat), .int .i64 (E 1 : Nat), .int .i64 (E 2 : Nat), .int .i64 (E 3 : Nat)] := by rw [HE.out]; rfl
  have ck := fun (W : World) (hW : HoldW lo w0 a hb W) => ih k e W htk He.out hW
  simp only [hA] at ck
  have CK := Lib.hid ck
  clear ck hA hp0 hk0 htk ih
  go_enter Tryd.func103, Tryd.ntmps103
  go_upto_region 14 with (fail)
  refine region_sched [(0, true), (1, true), (2, true), (3, true), (4, true), (5, true), (6, true), (7, true), (8, false), (9, true), (10, true)] (fun w' : World => w'.cell? ⟨w.heap.size, 0, none⟩ = some (kidV nb) ∧ w'.cell? ⟨nb, 2, none⟩ = some (.slice (some ⟨g, 0, none⟩) 1 cap) ∧ w'.cell? ⟨g, 0, none⟩ = some (kidV k) ∧ w'.cell? ⟨w.heap.size + 1, 0, none⟩ = some (.int .i64 (E 0 : Nat)) ∧ w'.cell? ⟨w.heap.size + 1, 1, none⟩ = some (.int .i64 (E 1 : Nat)) ∧ w'.cell? ⟨w.heap.size + 1, 2, none⟩ = some (.int .i64 (E 2 : Nat)) ∧ w'.cell? ⟨w.heap.size + 1, 3, none⟩ = some (.int .i64 (E 3 : Nat))) (by kernel_rfl) (by kernel_rfl) (by kernel_rfl) (by kernel_rfl) (fun _ _ _ _ h => h) ?_ (fun Q1 hQ1 => ?_)
  · exact ⟨n0, p0, k0, v0, v1, v2, v3⟩
  try simp only [List.append]
  refine sched_take' (v := ?_) (a' := ?_) rfl (by kernel_rfl) ?_ rfl ?_ ?_
  rotate_left 2
  · intro w hSw
    (try dsimp only at hSw)
    go_simp
    try with_reducible rfl
  · (try simp only [Act.put, List.setIfInBounds_toArray, List.set_cons_zero, List.set_cons_succ])
    try rfl
  refine sched_take' (v := kidV nb) (a' := ?_) rfl (by kernel_rfl) ?_ rfl ?_ ?_
  rotate_left 1
  · intro w hSw
    (try dsimp only at hSw)
    go_simp
    first | done | (obtain ⟨un, up, uk, uv0, uv1, uv2, uv3⟩ := hSw; simp [*])
  · (try simp only [Act.put, List.setIfInBounds_toArray, List.set_cons_zero, List.set_cons_succ])
    try rfl
  refine sched_take' (v := ?_) (a' := ?_) rfl (by kernel_rfl) ?_ rfl ?_ ?_
  rotate_left 2
  · intro w hSw
    (try dsimp only at hSw)
    go_simp
    try with_reducible rfl
  · (try simp only [Act.put, List.setIfInBounds_toArray, List.set_cons_zero, List.set_cons_succ])
    try rfl
  refine sched_take' (v := ?_) (a' := ?_) rfl (by kernel_rfl) ?_ rfl ?_ ?_
  rotate_left 2
  · intro w hSw
    (try dsimp only at hSw)
    go_simp
    try with_reducible rfl
  · (try simp only [Act.put, List.setIfInBounds_toArray, List.set_cons_zero, List.set_cons_succ])
    try rfl
  refine sched_take' (v := .slice (some ⟨g, 0, none⟩) 1 cap) (a' := ?_) rfl (by kernel_rfl) ?_ rfl ?_ ?_
  rotate_left 1
  · intro w hSw
    (try dsimp only at hSw)
    go_simp
    first | done | (obtain ⟨un, up, uk, uv0, uv1, uv2, uv3⟩ := hSw; simp [*])
  · (try simp only [Act.put, List.setIfInBounds_toArray, List.set_cons_zero, List.set_cons_succ])
    try rfl
  refine sched_take' (v := ?_) (a' := ?_) rfl (by kernel_rfl) ?_ rfl ?_ ?_
  rotate_left 2
  · intro w hSw
    (try dsimp only at hSw)
    go_simp
    try with_reducible rfl
  · (try simp only [Act.put, List.setIfInBounds_toArray, List.set_cons_zero, List.set_cons_succ])
    try rfl
  refine sched_take' (v := kidV k) (a' := ?_) rfl (by kernel_rfl) ?_ rfl ?_ ?_
  rotate_left 1
  · intro w hSw
    (try dsimp only at hSw)
    go_simp
    first | done | (obtain ⟨un, up, uk, uv0, uv1, uv2, uv3⟩ := hSw; simp [*])
  · (try simp only [Act.put, List.setIfInBounds_toArray, List.set_cons_zero, List.set_cons_succ])
    try rfl
  refine sched_take' (v := .agg #[.int .i64 (E 0 : Nat), .int .i64 (E 1 : Nat), .int .i64 (E 2 : Nat), .int .i64 (E 3 : Nat)]) (a' := ?_) rfl (by kernel_rfl) ?_ rfl ?_ ?_
  rotate_left 1
  · intro w hSw
    (try dsimp only at hSw)
    go_simp
    first | done | (obtain ⟨un, up, uk, uv0, uv1, uv2, uv3⟩ := hSw; simp [*])
  · (try simp only [Act.put, List.setIfInBounds_toArray, List.set_cons_zero, List.set_cons_succ])
    try rfl
  refine sched_call rfl (by kernel_rfl) (fun K1 hK1 => ?_)
  go_simp
  refine (CK.out _ HV.out.drew).mono ?_
  rintro ed w1 ⟨rfl, hW, hF⟩
  have HW := Lib.hid hW
  have F2 := Lib.hid (F1.out.trans ((fz_drew hb _).trans hF))
  have n1 := hF.cell n0
  have p1 := hF.cell p0
  have k1 := hF.cell k0
  have x0 := hF.cell v0
  have x1 := hF.cell v1
  have x2 := hF.cell v2
  have x3 := hF.cell v3
  clear hW hF
  go_wp2_with fail
  refine hK1.out _ _ ?_ (sched_lay (a' := ?_) ?_ ?_)
  · exact ⟨n1, p1, k1, x0, x1, x2, x3⟩
  rotate_left 1
  · (try simp only [Act.put, List.getElem_toArray, List.getElem_cons_succ, List.getElem_cons_zero, List.setIfInBounds_toArray, List.set_cons_zero, List.set_cons_succ])
    try rfl
  clear hK1 K1
  refine sched_take' (v := ?_) (a' := ?_) rfl (by kernel_rfl) ?_ rfl ?_ ?_
  rotate_left 2
  · intro w hSw
    (try dsimp only at hSw)
    go_simp
    try with_reducible rfl
  · (try simp only [Act.put, List.setIfInBounds_toArray, List.set_cons_zero, List.set_cons_succ])
    try rfl
  refine sched_take' (v := ?_) (a' := ?_) rfl (by kernel_rfl) ?_ rfl ?_ ?_
  rotate_left 2
  · intro w hSw
    (try dsimp only at hSw)
    go_simp
    try with_reducible rfl
  · (try simp only [Act.put, List.setIfInBounds_toArray, List.set_cons_zero, List.set_cons_succ])
    try rfl
  refine sched_done (hQ1.out _ _ ?_)
  go_wp2_with fail
  go_ret
  exact ⟨rfl, HW.out, F2.out⟩

set_option maxRecDepth 100000 in
set_option maxHeartbeats 4000000 in
theorem decide_pr (ha : a.ok) (v : Fin 4) : HoldsBy 103 lo w0 a hb (.pr v) := by
  intro nb e w ht he hw
  obtain ⟨E, hE⟩ : ∃ E, E = eN e := ⟨_, rfl⟩
  have hA : envA e = #[.int .i64 (E 0 : Nat), .int .i64 (E 1 : Nat), .int .i64 (E 2 : Nat), .int .i64 (E 3 : Nat)] := by rw [hE]; rfl
  rw [hA]
  have hV := (hw.alloc (.cells #[kidV nb] 52)).alloc (.cells #[.int .i64 (E 0 : Nat), .int .i64 (E 1 : Nat), .int .i64 (E 2 : Nat), .int .i64 (E 3 : Nat)] 106)
  have hD : DecB ((w.alloc (.cells #[kidV nb] 52)).alloc (.cells #[.int .i64 (E 0 : Nat), .int .i64 (E 1 : Nat), .int .i64 (E 2 : Nat), .int .i64 (E 3 : Nat)] 106)) w.heap.size nb E := ⟨(Bx.new w 52 #[kidV nb]).alloc _, bx_two w _ _⟩
  have HV := Lib.hid hV
  have HD := Lib.hid hD
  have HT := Lib.hid (hV.tree ht)
  have F1 := Lib.hid ((Fz.alloc (Nat.le_of_lt hw.cache.lt) (.cells #[kidV nb] 52)).trans (Fz.alloc (by have := hw.cache.lt; simp; omega) (.cells #[.int .i64 (E 0 : Nat), .int .i64 (E 1 : Nat), .int .i64 (E 2 : Nat), .int .i64 (E 3 : Nat)] 106)))
  obtain ⟨ks, vsv, psv, hc0, _⟩ := node_cells HT.out
  have hc0 : ((w.alloc (.cells #[kidV nb] 52)).alloc (.cells #[.int .i64 (E 0 : Nat), .int .i64 (E 1 : Nat), .int .i64 (E 2 : Nat), .int .i64 (E 3 : Nat)] 106)).cell? ⟨nb, 0, none⟩ = some (.int .u8 80) := hc0
  have n0 := hD.node.cell 0
  simp only [List.getElem?_toArray, List.getElem?_cons_zero, List.getElem?_cons_succ] at n0
  have HE := Lib.hid hE
  have He := Lib.hid he
  have HTw := Lib.hid ht
  clear hE hA hV hD ht he hw
  have n0' := n0
  have HDd := Lib.hid (show DecB ((w.alloc (.cells #[kidV nb] 52)).alloc (.cells #[.int .i64 (E 0 : Nat), .int .i64 (E 1 : Nat), .int .i64 (E 2 : Nat), .int .i64 (E 3 : Nat)] 106)).drew w.heap.size nb E from ⟨HD.out.node.drew, HD.out.vals.drew⟩)
  have HTd := Lib.hid (HT.out.drew)
  have c0 := at_calls (.pr v) nb w.heap.size E ((w.alloc (.cells #[kidV nb] 52)).alloc (.cells #[.int .i64 (E 0 : Nat), .int .i64 (E 1 : Nat), .int .i64 (E 2 : Nat), .int .i64 (E 3 : Nat)] 106)).drew HTd.out HDd.out 0 v rfl
  have e0 : E v.val = e v := by rw [HE.out, eN_fin]
  rw [e0] at c0
  have C0 := Lib.hid c0
  clear c0 e0
  have Hin := Lib.hid (fun (W : World) => inSet_calls a ha (e v) (He.out v) W)
  have h0 := HV.out.drew.box.cell 0
  have h1 := HV.out.drew.box.cell 1
  have h2 := HV.out.drew.box.cell 2
  simp only [List.getElem?_toArray, List.getElem?_cons_zero, List.getElem?_cons_succ] at h0 h1 h2
  clear n0
  have n0 := n0'
  go_enter Tryd.func103, Tryd.ntmps103
  go_upto_region 8 with (fail)
  refine region_sched [(0, true), (1, true), (2, true), (3, true), (4, true), (5, false), (6, false), (7, true)] (fun w' : World => w'.cell? ⟨hb + 1, 0, none⟩ = some (.int .i64 (a.n : Int)) ∧ w'.cell? ⟨hb + 1, 1, none⟩ = some (.string (bs a.set)) ∧ w'.cell? ⟨hb + 1, 2, none⟩ = some (.string (bs a.rel))) (by kernel_rfl) (by kernel_rfl) (by kernel_rfl) (by kernel_rfl) (fun _ _ _ _ h => h) ?_ (fun Q1 hQ1 => ?_)
  · exact ⟨h0, h1, h2⟩
  try simp only [List.append]
  refine sched_take' (v := ?_) (a' := ?_) rfl (by kernel_rfl) ?_ rfl ?_ ?_
  rotate_left 2
  · intro w hSw
    (try dsimp only at hSw)
    go_simp
    try with_reducible rfl
  · (try simp only [Act.put, List.setIfInBounds_toArray, List.set_cons_zero, List.set_cons_succ])
    try rfl
  refine sched_take' (v := ?_) (a' := ?_) rfl (by kernel_rfl) ?_ rfl ?_ ?_
  rotate_left 2
  · intro w hSw
    (try dsimp only at hSw)
    go_simp
    try with_reducible rfl
  · (try simp only [Act.put, List.setIfInBounds_toArray, List.set_cons_zero, List.set_cons_succ])
    try rfl
  refine sched_take' (v := ?_) (a' := ?_) rfl (by kernel_rfl) ?_ rfl ?_ ?_
  rotate_left 2
  · intro w hSw
    (try dsimp only at hSw)
    go_simp
    try with_reducible rfl
  · (try simp only [Act.put, List.setIfInBounds_toArray, List.set_cons_zero, List.set_cons_succ])
    try rfl
  refine sched_take' (v := .agg #[.int .i64 (a.n : Int), .string (bs a.set), .string (bs a.rel)]) (a' := ?_) rfl (by kernel_rfl) ?_ rfl ?_ ?_
  rotate_left 1
  · intro w hSw
    (try dsimp only at hSw)
    go_simp
    first | done | (obtain ⟨u0, u1, u2⟩ := hSw; simp [*])
  · (try simp only [Act.put, List.setIfInBounds_toArray, List.set_cons_zero, List.set_cons_succ])
    try rfl
  refine sched_take' (v := ?_) (a' := ?_) rfl (by kernel_rfl) ?_ rfl ?_ ?_
  rotate_left 2
  · intro w hSw
    (try dsimp only at hSw)
    go_simp
    try with_reducible rfl
  · (try simp only [Act.put, List.setIfInBounds_toArray, List.set_cons_zero, List.set_cons_succ])
    try rfl
  refine sched_call rfl (by kernel_rfl) (fun K1 hK1 => ?_)
  go_simp
  refine (C0.out).mono ?_
  rintro ed w1 ⟨rfl, rfl⟩
  go_wp2_with fail
  refine hK1.out _ _ ?_ (sched_lay (a' := ?_) ?_ ?_)
  · exact ⟨h0, h1, h2⟩
  rotate_left 1
  · (try simp only [Act.put, List.getElem_toArray, List.getElem_cons_succ, List.getElem_cons_zero, List.setIfInBounds_toArray, List.set_cons_zero, List.set_cons_succ])
    try rfl
  clear hK1 K1
  refine sched_call rfl (by kernel_rfl) (fun K1 hK1 => ?_)
  go_simp
  refine (Hin.out _).mono ?_
  rintro ed w9 ⟨rfl, hz⟩
  have H9 := Lib.hid (HV.out.drew.call hz)
  have F9 := Lib.hid (F1.out.trans ((fz_drew hb _).trans (Fz.call (Nat.le_of_lt HV.out.drew.cache.lt) hz)))
  have g0 := H9.out.box.cell 0
  have g1 := H9.out.box.cell 1
  have g2 := H9.out.box.cell 2
  simp only [List.getElem?_toArray, List.getElem?_cons_zero, List.getElem?_cons_succ] at g0 g1 g2
  clear hz
  go_wp2_with fail
  refine hK1.out _ _ ?_ (sched_lay (a' := ?_) ?_ ?_)
  · exact ⟨g0, g1, g2⟩
  rotate_left 1
  · (try simp only [Act.put, List.getElem_toArray, List.getElem_cons_succ, List.getElem_cons_zero, List.setIfInBounds_toArray, List.set_cons_zero, List.set_cons_succ])
    try rfl
  clear hK1 K1
  refine sched_take' (v := ?_) (a' := ?_) rfl (by kernel_rfl) ?_ rfl ?_ ?_
  rotate_left 2
  · intro w hSw
    (try dsimp only at hSw)
    go_simp
    try with_reducible rfl
  · (try simp only [Act.put, List.setIfInBounds_toArray, List.set_cons_zero, List.set_cons_succ])
    try rfl
  refine sched_done (hQ1.out _ _ ?_)
  go_wp2_with fail
  go_ret
  exact ⟨rfl, H9.out, F9.out⟩

set_option maxRecDepth 100000 in
set_option maxHeartbeats 4000000 in
theorem decide_rel (ha : a.ok) (v u : Fin 4) : HoldsBy 103 lo w0 a hb (.rel v u) := by
  intro nb e w ht he hw
  obtain ⟨E, hE⟩ : ∃ E, E = eN e := ⟨_, rfl⟩
  have hA : envA e = #[.int .i64 (E 0 : Nat), .int .i64 (E 1 : Nat), .int .i64 (E 2 : Nat), .int .i64 (E 3 : Nat)] := by rw [hE]; rfl
  rw [hA]
  have hV := (hw.alloc (.cells #[kidV nb] 52)).alloc (.cells #[.int .i64 (E 0 : Nat), .int .i64 (E 1 : Nat), .int .i64 (E 2 : Nat), .int .i64 (E 3 : Nat)] 106)
  have hD : DecB ((w.alloc (.cells #[kidV nb] 52)).alloc (.cells #[.int .i64 (E 0 : Nat), .int .i64 (E 1 : Nat), .int .i64 (E 2 : Nat), .int .i64 (E 3 : Nat)] 106)) w.heap.size nb E := ⟨(Bx.new w 52 #[kidV nb]).alloc _, bx_two w _ _⟩
  have HV := Lib.hid hV
  have HD := Lib.hid hD
  have HT := Lib.hid (hV.tree ht)
  have F1 := Lib.hid ((Fz.alloc (Nat.le_of_lt hw.cache.lt) (.cells #[kidV nb] 52)).trans (Fz.alloc (by have := hw.cache.lt; simp; omega) (.cells #[.int .i64 (E 0 : Nat), .int .i64 (E 1 : Nat), .int .i64 (E 2 : Nat), .int .i64 (E 3 : Nat)] 106)))
  obtain ⟨ks, vsv, psv, hc0, _⟩ := node_cells HT.out
  have hc0 : ((w.alloc (.cells #[kidV nb] 52)).alloc (.cells #[.int .i64 (E 0 : Nat), .int .i64 (E 1 : Nat), .int .i64 (E 2 : Nat), .int .i64 (E 3 : Nat)] 106)).cell? ⟨nb, 0, none⟩ = some (.int .u8 69) := hc0
  have n0 := hD.node.cell 0
  simp only [List.getElem?_toArray, List.getElem?_cons_zero, List.getElem?_cons_succ] at n0
  have HE := Lib.hid hE
  have He := Lib.hid he
  have HTw := Lib.hid ht
  clear hE hA hV hD ht he hw
  have n0' := n0
  have HDd := Lib.hid (show DecB ((w.alloc (.cells #[kidV nb] 52)).alloc (.cells #[.int .i64 (E 0 : Nat), .int .i64 (E 1 : Nat), .int .i64 (E 2 : Nat), .int .i64 (E 3 : Nat)] 106)).drew w.heap.size nb E from ⟨HD.out.node.drew, HD.out.vals.drew⟩)
  have HTd := Lib.hid (HT.out.drew)
  have c0 := at_calls (.rel v u) nb w.heap.size E ((w.alloc (.cells #[kidV nb] 52)).alloc (.cells #[.int .i64 (E 0 : Nat), .int .i64 (E 1 : Nat), .int .i64 (E 2 : Nat), .int .i64 (E 3 : Nat)] 106)).drew HTd.out HDd.out 0 v rfl
  have e0 : E v.val = e v := by rw [HE.out, eN_fin]
  rw [e0] at c0
  have C0 := Lib.hid c0
  clear c0 e0
  have c1 := at_calls (.rel v u) nb w.heap.size E ((w.alloc (.cells #[kidV nb] 52)).alloc (.cells #[.int .i64 (E 0 : Nat), .int .i64 (E 1 : Nat), .int .i64 (E 2 : Nat), .int .i64 (E 3 : Nat)] 106)).drew HTd.out HDd.out 1 u rfl
  have e1 : E u.val = e u := by rw [HE.out, eN_fin]
  rw [e1] at c1
  have C1 := Lib.hid c1
  clear c1 e1
  have Hin := Lib.hid (fun (W : World) => inRel_calls a ha (e v) (e u) (He.out v) (He.out u) W)
  have h0 := HV.out.drew.box.cell 0
  have h1 := HV.out.drew.box.cell 1
  have h2 := HV.out.drew.box.cell 2
  simp only [List.getElem?_toArray, List.getElem?_cons_zero, List.getElem?_cons_succ] at h0 h1 h2
  clear n0
  have n0 := n0'
  go_enter Tryd.func103, Tryd.ntmps103
  go_upto_region 12 with (fail)
  refine region_sched [(0, true), (1, true), (2, true), (3, true), (4, true), (6, true), (5, false), (7, false), (8, false), (9, true)] (fun w' : World => w'.cell? ⟨hb + 1, 0, none⟩ = some (.int .i64 (a.n : Int)) ∧ w'.cell? ⟨hb + 1, 1, none⟩ = some (.string (bs a.set)) ∧ w'.cell? ⟨hb + 1, 2, none⟩ = some (.string (bs a.rel))) (by kernel_rfl) (by kernel_rfl) (by kernel_rfl) (by kernel_rfl) (fun _ _ _ _ h => h) ?_ (fun Q1 hQ1 => ?_)
  · exact ⟨h0, h1, h2⟩
  try simp only [List.append]
  refine sched_take' (v := ?_) (a' := ?_) rfl (by kernel_rfl) ?_ rfl ?_ ?_
  rotate_left 2
  · intro w hSw
    (try dsimp only at hSw)
    go_simp
    try with_reducible rfl
  · (try simp only [Act.put, List.setIfInBounds_toArray, List.set_cons_zero, List.set_cons_succ])
    try rfl
  refine sched_take' (v := ?_) (a' := ?_) rfl (by kernel_rfl) ?_ rfl ?_ ?_
  rotate_left 2
  · intro w hSw
    (try dsimp only at hSw)
    go_simp
    try with_reducible rfl
  · (try simp only [Act.put, List.setIfInBounds_toArray, List.set_cons_zero, List.set_cons_succ])
    try rfl
  refine sched_take' (v := ?_) (a' := ?_) rfl (by kernel_rfl) ?_ rfl ?_ ?_
  rotate_left 2
  · intro w hSw
    (try dsimp only at hSw)
    go_simp
    try with_reducible rfl
  · (try simp only [Act.put, List.setIfInBounds_toArray, List.set_cons_zero, List.set_cons_succ])
    try rfl
  refine sched_take' (v := .agg #[.int .i64 (a.n : Int), .string (bs a.set), .string (bs a.rel)]) (a' := ?_) rfl (by kernel_rfl) ?_ rfl ?_ ?_
  rotate_left 1
  · intro w hSw
    (try dsimp only at hSw)
    go_simp
    first | done | (obtain ⟨u0, u1, u2⟩ := hSw; simp [*])
  · (try simp only [Act.put, List.setIfInBounds_toArray, List.set_cons_zero, List.set_cons_succ])
    try rfl
  refine sched_take' (v := ?_) (a' := ?_) rfl (by kernel_rfl) ?_ rfl ?_ ?_
  rotate_left 2
  · intro w hSw
    (try dsimp only at hSw)
    go_simp
    try with_reducible rfl
  · (try simp only [Act.put, List.setIfInBounds_toArray, List.set_cons_zero, List.set_cons_succ])
    try rfl
  refine sched_take' (v := ?_) (a' := ?_) rfl (by kernel_rfl) ?_ rfl ?_ ?_
  rotate_left 2
  · intro w hSw
    (try dsimp only at hSw)
    go_simp
    try with_reducible rfl
  · (try simp only [Act.put, List.setIfInBounds_toArray, List.set_cons_zero, List.set_cons_succ])
    try rfl
  refine sched_call rfl (by kernel_rfl) (fun K1 hK1 => ?_)
  go_simp
  refine (C0.out).mono ?_
  rintro ed w1 ⟨rfl, rfl⟩
  go_wp2_with fail
  refine hK1.out _ _ ?_ (sched_lay (a' := ?_) ?_ ?_)
  · exact ⟨h0, h1, h2⟩
  rotate_left 1
  · (try simp only [Act.put, List.getElem_toArray, List.getElem_cons_succ, List.getElem_cons_zero, List.setIfInBounds_toArray, List.set_cons_zero, List.set_cons_succ])
    try rfl
  clear hK1 K1
  refine sched_call rfl (by kernel_rfl) (fun K1 hK1 => ?_)
  go_simp
  refine (C1.out).mono ?_
  rintro ed w2 ⟨rfl, rfl⟩
  go_wp2_with fail
  refine hK1.out _ _ ?_ (sched_lay (a' := ?_) ?_ ?_)
  · exact ⟨h0, h1, h2⟩
  rotate_left 1
  · (try simp only [Act.put, List.getElem_toArray, List.getElem_cons_succ, List.getElem_cons_zero, List.setIfInBounds_toArray, List.set_cons_zero, List.set_cons_succ])
    try rfl
  clear hK1 K1
  refine sched_call rfl (by kernel_rfl) (fun K1 hK1 => ?_)
  go_simp
  refine (Hin.out _).mono ?_
  rintro ed w9 ⟨rfl, hz⟩
  have H9 := Lib.hid (HV.out.drew.call hz)
  have F9 := Lib.hid (F1.out.trans ((fz_drew hb _).trans (Fz.call (Nat.le_of_lt HV.out.drew.cache.lt) hz)))
  have g0 := H9.out.box.cell 0
  have g1 := H9.out.box.cell 1
  have g2 := H9.out.box.cell 2
  simp only [List.getElem?_toArray, List.getElem?_cons_zero, List.getElem?_cons_succ] at g0 g1 g2
  clear hz
  go_wp2_with fail
  refine hK1.out _ _ ?_ (sched_lay (a' := ?_) ?_ ?_)
  · exact ⟨g0, g1, g2⟩
  rotate_left 1
  · (try simp only [Act.put, List.getElem_toArray, List.getElem_cons_succ, List.getElem_cons_zero, List.setIfInBounds_toArray, List.set_cons_zero, List.set_cons_succ])
    try rfl
  clear hK1 K1
  refine sched_take' (v := ?_) (a' := ?_) rfl (by kernel_rfl) ?_ rfl ?_ ?_
  rotate_left 2
  · intro w hSw
    (try dsimp only at hSw)
    go_simp
    try with_reducible rfl
  · (try simp only [Act.put, List.setIfInBounds_toArray, List.set_cons_zero, List.set_cons_succ])
    try rfl
  refine sched_done (hQ1.out _ _ ?_)
  go_wp2_with fail
  go_ret
  exact ⟨rfl, H9.out, F9.out⟩

set_option maxRecDepth 100000 in
set_option maxHeartbeats 4000000 in
theorem decide_con (p q : Fm) (ih : HoldsBy 85 lo w0 a hb p) (ih2 : HoldsBy 85 lo w0 a hb q) : HoldsBy 103 lo w0 a hb (.con p q) := by
  intro nb e w ht he hw
  obtain ⟨E, hE⟩ : ∃ E, E = eN e := ⟨_, rfl⟩
  have hA : envA e = #[.int .i64 (E 0 : Nat), .int .i64 (E 1 : Nat), .int .i64 (E 2 : Nat), .int .i64 (E 3 : Nat)] := by rw [hE]; rfl
  rw [hA]
  have hV := (hw.alloc (.cells #[kidV nb] 52)).alloc (.cells #[.int .i64 (E 0 : Nat), .int .i64 (E 1 : Nat), .int .i64 (E 2 : Nat), .int .i64 (E 3 : Nat)] 106)
  have hD : DecB ((w.alloc (.cells #[kidV nb] 52)).alloc (.cells #[.int .i64 (E 0 : Nat), .int .i64 (E 1 : Nat), .int .i64 (E 2 : Nat), .int .i64 (E 3 : Nat)] 106)) w.heap.size nb E := ⟨(Bx.new w 52 #[kidV nb]).alloc _, bx_two w _ _⟩
  have HV := Lib.hid hV
  have HD := Lib.hid hD
  have HT := Lib.hid (hV.tree ht)
  have F1 := Lib.hid ((Fz.alloc (Nat.le_of_lt hw.cache.lt) (.cells #[kidV nb] 52)).trans (Fz.alloc (by have := hw.cache.lt; simp; omega) (.cells #[.int .i64 (E 0 : Nat), .int .i64 (E 1 : Nat), .int .i64 (E 2 : Nat), .int .i64 (E 3 : Nat)] 106)))
  obtain ⟨ks, vsv, psv, hc0, _⟩ := node_cells HT.out
  have hc0 : ((w.alloc (.cells #[kidV nb] 52)).alloc (.cells #[.int .i64 (E 0 : Nat), .int .i64 (E 1 : Nat), .int .i64 (E 2 : Nat), .int .i64 (E 3 : Nat)] 106)).cell? ⟨nb, 0, none⟩ = some (.int .u8 38) := hc0
  have n0 := hD.node.cell 0
  simp only [List.getElem?_toArray, List.getElem?_cons_zero, List.getElem?_cons_succ] at n0
  have HE := Lib.hid hE
  have He := Lib.hid he
  have HTw := Lib.hid ht
  clear hE hA hV hD ht he hw
  obtain ⟨k, l, g, cap, hp0, hk0, hl0, htk, htl⟩ := kid_two HV.out HTw.out (f := .con p q) rfl
  have p0 : ((w.alloc (.cells #[kidV nb] 52)).alloc (.cells #[.int .i64 (E 0 : Nat), .int .i64 (E 1 : Nat), .int .i64 (E 2 : Nat), .int .i64 (E 3 : Nat)] 106)).cell? ⟨nb, 2, none⟩ = some (.slice (some ⟨g, 0, none⟩) 2 cap) := hp0
  have k0 : ((w.alloc (.cells #[kidV nb] 52)).alloc (.cells #[.int .i64 (E 0 : Nat), .int .i64 (E 1 : Nat), .int .i64 (E 2 : Nat), .int .i64 (E 3 : Nat)] 106)).cell? ⟨g, 0, none⟩ = some (kidV k) := hk0
  have l0 : ((w.alloc (.cells #[kidV nb] 52)).alloc (.cells #[.int .i64 (E 0 : Nat), .int .i64 (E 1 : Nat), .int .i64 (E 2 : Nat), .int .i64 (E 3 : Nat)] 106)).cell? ⟨g, 1, none⟩ = some (kidV l) := hl0
  have r0 := HD.out.vals.cell 0
  have s0 := HD.out.vals.cell 1
  have t0 := HD.out.vals.cell 2
  have u0 := HD.out.vals.cell 3
  simp only [List.getElem?_toArray, List.getElem?_cons_zero, List.getElem?_cons_succ] at r0 s0 t0 u0
  have hA : envA e = #[.int .i64 (E 0 : Nat), .int .i64 (E 1 : Nat), .int .i64 (E 2 : Nat), .int .i64 (E 3 : Nat)] := by rw [HE.out]; rfl
  have ck := fun (W : World) (hW : HoldW lo w0 a hb W) => ih k e W htk He.out hW
  have cl := fun (W : World) (hW : HoldW lo w0 a hb W) => ih2 l e W htl He.out hW
  simp only [hA] at ck cl
  have CL := Lib.hid cl
  clear cl hA hp0 hk0 hl0 htk htl ih ih2
  cases hp : p.holds a e with
  | false =>
    have Hp := Lib.hid hp
    simp only [hp] at ck
    have CK := Lib.hid ck
    clear ck hp
    go_enter Tryd.func103, Tryd.ntmps103
    go_upto_region 16 with (fail)
    refine region_sched [(0, true), (1, true), (2, true), (3, true), (4, true), (5, true), (6, true), (7, true), (8, false), (9, true), (10, true), (11, true), (12, true), (13, true), (14, true), (15, true), (16, true), (17, true), (18, false), (19, true), (20, true)] (fun w' : World => w'.cell? ⟨w.heap.size, 0, none⟩ = some (kidV nb) ∧ w'.cell? ⟨nb, 2, none⟩ = some (.slice (some ⟨g, 0, none⟩) 2 cap) ∧ w'.cell? ⟨g, 0, none⟩ = some (kidV k) ∧ w'.cell? ⟨g, 1, none⟩ = some (kidV l) ∧ w'.cell? ⟨w.heap.size + 1, 0, none⟩ = some (.int .i64 (E 0 : Nat)) ∧ w'.cell? ⟨w.heap.size + 1, 1, none⟩ = some (.int .i64 (E 1 : Nat)) ∧ w'.cell? ⟨w.heap.size + 1, 2, none⟩ = some (.int .i64 (E 2 : Nat)) ∧ w'.cell? ⟨w.heap.size + 1, 3, none⟩ = some (.int .i64 (E 3 : Nat))) (by kernel_rfl) (by kernel_rfl) (by kernel_rfl) (by kernel_rfl) (fun _ _ _ _ h => h) ?_ (fun Q1 hQ1 => ?_)
    · exact ⟨n0, p0, k0, l0, r0, s0, t0, u0⟩
    try simp only [List.append]
    refine sched_take' (v := ?_) (a' := ?_) rfl (by kernel_rfl) ?_ rfl ?_ ?_
    rotate_left 2
    · intro w hSw
      (try dsimp only at hSw)
      go_simp
      try with_reducible rfl
    · (try simp only [Act.put, List.setIfInBounds_toArray, List.set_cons_zero, List.set_cons_succ])
      try rfl
    refine sched_take' (v := kidV nb) (a' := ?_) rfl (by kernel_rfl) ?_ rfl ?_ ?_
    rotate_left 1
    · intro w hSw
      (try dsimp only at hSw)
      go_simp
      first | done | (obtain ⟨un, up, uk, ul, uv0, uv1, uv2, uv3⟩ := hSw; simp [*])
    · (try simp only [Act.put, List.setIfInBounds_toArray, List.set_cons_zero, List.set_cons_succ])
      try rfl
    refine sched_take' (v := ?_) (a' := ?_) rfl (by kernel_rfl) ?_ rfl ?_ ?_
    rotate_left 2
    · intro w hSw
      (try dsimp only at hSw)
      go_simp
      try with_reducible rfl
    · (try simp only [Act.put, List.setIfInBounds_toArray, List.set_cons_zero, List.set_cons_succ])
      try rfl
    refine sched_take' (v := ?_) (a' := ?_) rfl (by kernel_rfl) ?_ rfl ?_ ?_
    rotate_left 2
    · intro w hSw
      (try dsimp only at hSw)
      go_simp
      try with_reducible rfl
    · (try simp only [Act.put, List.setIfInBounds_toArray, List.set_cons_zero, List.set_cons_succ])
      try rfl
    refine sched_take' (v := .slice (some ⟨g, 0, none⟩) 2 cap) (a' := ?_) rfl (by kernel_rfl) ?_ rfl ?_ ?_
    rotate_left 1
    · intro w hSw
      (try dsimp only at hSw)
      go_simp
      first | done | (obtain ⟨un, up, uk, ul, uv0, uv1, uv2, uv3⟩ := hSw; simp [*])
    · (try simp only [Act.put, List.setIfInBounds_toArray, List.set_cons_zero, List.set_cons_succ])
      try rfl
    refine sched_take' (v := ?_) (a' := ?_) rfl (by kernel_rfl) ?_ rfl ?_ ?_
    rotate_left 2
    · intro w hSw
      (try dsimp only at hSw)
      go_simp
      try with_reducible rfl
    · (try simp only [Act.put, List.setIfInBounds_toArray, List.set_cons_zero, List.set_cons_succ])
      try rfl
    refine sched_take' (v := kidV k) (a' := ?_) rfl (by kernel_rfl) ?_ rfl ?_ ?_
    rotate_left 1
    · intro w hSw
      (try dsimp only at hSw)
      go_simp
      first | done | (obtain ⟨un, up, uk, ul, uv0, uv1, uv2, uv3⟩ := hSw; simp [*])
    · (try simp only [Act.put, List.setIfInBounds_toArray, List.set_cons_zero, List.set_cons_succ])
      try rfl
    refine sched_take' (v := .agg #[.int .i64 (E 0 : Nat), .int .i64 (E 1 : Nat), .int .i64 (E 2 : Nat), .int .i64 (E 3 : Nat)]) (a' := ?_) rfl (by kernel_rfl) ?_ rfl ?_ ?_
    rotate_left 1
    · intro w hSw
      (try dsimp only at hSw)
      go_simp
      first | done | (obtain ⟨un, up, uk, ul, uv0, uv1, uv2, uv3⟩ := hSw; simp [*])
    · (try simp only [Act.put, List.setIfInBounds_toArray, List.set_cons_zero, List.set_cons_succ])
      try rfl
    refine sched_call rfl (by kernel_rfl) (fun K1 hK1 => ?_)
    go_simp
    refine (CK.out _ HV.out.drew).mono ?_
    rintro ed w1 ⟨rfl, hW, hF⟩
    have H1 := Lib.hid hW
    have F2 := Lib.hid (F1.out.trans ((fz_drew hb _).trans hF))
    have n1 := hF.cell n0
    have p1 := hF.cell p0
    have k1 := hF.cell k0
    have l1 := hF.cell l0
    have r1 := hF.cell r0
    have s1 := hF.cell s0
    have t1 := hF.cell t0
    have u1 := hF.cell u0
    clear hW hF
    go_wp2_with fail
    refine hK1.out _ _ ?_ (sched_lay (a' := ?_) ?_ ?_)
    · exact ⟨n1, p1, k1, l1, r1, s1, t1, u1⟩
    rotate_left 1
    · (try simp only [Act.put, List.getElem_toArray, List.getElem_cons_succ, List.getElem_cons_zero, List.setIfInBounds_toArray, List.set_cons_zero, List.set_cons_succ])
      try rfl
    clear hK1 K1
    refine sched_take' (v := ?_) (a' := ?_) rfl (by kernel_rfl) ?_ rfl ?_ ?_
    rotate_left 2
    · intro w hSw
      (try dsimp only at hSw)
      go_simp
      try with_reducible rfl
    · (try simp only [Act.put, List.setIfInBounds_toArray, List.set_cons_zero, List.set_cons_succ])
      try rfl
    refine sched_skip' (a' := ?_) rfl (by kernel_rfl) rfl ?_ ?_
    rotate_left 1
    · (try simp only [Act.put, List.setIfInBounds_toArray, List.set_cons_zero, List.set_cons_succ])
      try rfl
    refine sched_skip' (a' := ?_) rfl (by kernel_rfl) rfl ?_ ?_
    rotate_left 1
    · (try simp only [Act.put, List.setIfInBounds_toArray, List.set_cons_zero, List.set_cons_succ])
      try rfl
    refine sched_skip' (a' := ?_) rfl (by kernel_rfl) rfl ?_ ?_
    rotate_left 1
    · (try simp only [Act.put, List.setIfInBounds_toArray, List.set_cons_zero, List.set_cons_succ])
      try rfl
    refine sched_skip' (a' := ?_) rfl (by kernel_rfl) rfl ?_ ?_
    rotate_left 1
    · (try simp only [Act.put, List.setIfInBounds_toArray, List.set_cons_zero, List.set_cons_succ])
      try rfl
    refine sched_skip' (a' := ?_) rfl (by kernel_rfl) rfl ?_ ?_
    rotate_left 1
    · (try simp only [Act.put, List.setIfInBounds_toArray, List.set_cons_zero, List.set_cons_succ])
      try rfl
    refine sched_skip' (a' := ?_) rfl (by kernel_rfl) rfl ?_ ?_
    rotate_left 1
    · (try simp only [Act.put, List.setIfInBounds_toArray, List.set_cons_zero, List.set_cons_succ])
      try rfl
    refine sched_skip' (a' := ?_) rfl (by kernel_rfl) rfl ?_ ?_
    rotate_left 1
    · (try simp only [Act.put, List.setIfInBounds_toArray, List.set_cons_zero, List.set_cons_succ])
      try rfl
    refine sched_skip' (a' := ?_) rfl (by kernel_rfl) rfl ?_ ?_
    rotate_left 1
    · (try simp only [Act.put, List.setIfInBounds_toArray, List.set_cons_zero, List.set_cons_succ])
      try rfl
    refine sched_skipC' (a' := ?_) rfl (by kernel_rfl) ?_ rfl ?_ ?_
    rotate_left 1
    · exact ⟨n1, p1, k1, l1, r1, s1, t1, u1⟩
    · (try simp only [Act.put, List.setIfInBounds_toArray, List.set_cons_zero, List.set_cons_succ])
      try rfl
    refine sched_take' (v := ?_) (a' := ?_) rfl (by kernel_rfl) ?_ rfl ?_ ?_
    rotate_left 2
    · intro w hSw
      (try dsimp only at hSw)
      go_simp
      try with_reducible rfl
    · (try simp only [Act.put, List.setIfInBounds_toArray, List.set_cons_zero, List.set_cons_succ])
      try rfl
    refine sched_take' (v := ?_) (a' := ?_) rfl (by kernel_rfl) ?_ rfl ?_ ?_
    rotate_left 2
    · intro w hSw
      (try dsimp only at hSw)
      go_simp
      try with_reducible rfl
    · (try simp only [Act.put, List.setIfInBounds_toArray, List.set_cons_zero, List.set_cons_succ])
      try rfl
    refine sched_done (hQ1.out _ _ ?_)
    go_wp2_with fail
    go_ret
    exact ⟨by show _ = Ending.returned (.bool (p.holds a e && q.holds a e)); rw [Hp.out]; rfl, H1.out, F2.out⟩
  | true =>
    have Hp := Lib.hid hp
    simp only [hp] at ck
    have CK := Lib.hid ck
    clear ck hp
    go_enter Tryd.func103, Tryd.ntmps103
    go_upto_region 16 with (fail)
    refine region_sched [(0, true), (1, true), (2, true), (3, true), (4, true), (5, true), (6, true), (7, true), (8, false), (9, true), (10, true), (11, true), (12, true), (13, true), (14, true), (15, true), (16, true), (17, true), (18, false), (19, true), (20, true)] (fun w' : World => w'.cell? ⟨w.heap.size, 0, none⟩ = some (kidV nb) ∧ w'.cell? ⟨nb, 2, none⟩ = some (.slice (some ⟨g, 0, none⟩) 2 cap) ∧ w'.cell? ⟨g, 0, none⟩ = some (kidV k) ∧ w'.cell? ⟨g, 1, none⟩ = some (kidV l) ∧ w'.cell? ⟨w.heap.size + 1, 0, none⟩ = some (.int .i64 (E 0 : Nat)) ∧ w'.cell? ⟨w.heap.size + 1, 1, none⟩ = some (.int .i64 (E 1 : Nat)) ∧ w'.cell? ⟨w.heap.size + 1, 2, none⟩ = some (.int .i64 (E 2 : Nat)) ∧ w'.cell? ⟨w.heap.size + 1, 3, none⟩ = some (.int .i64 (E 3 : Nat))) (by kernel_rfl) (by kernel_rfl) (by kernel_rfl) (by kernel_rfl) (fun _ _ _ _ h => h) ?_ (fun Q1 hQ1 => ?_)
    · exact ⟨n0, p0, k0, l0, r0, s0, t0, u0⟩
    try simp only [List.append]
    refine sched_take' (v := ?_) (a' := ?_) rfl (by kernel_rfl) ?_ rfl ?_ ?_
    rotate_left 2
    · intro w hSw
      (try dsimp only at hSw)
      go_simp
      try with_reducible rfl
    · (try simp only [Act.put, List.setIfInBounds_toArray, List.set_cons_zero, List.set_cons_succ])
      try rfl
    refine sched_take' (v := kidV nb) (a' := ?_) rfl (by kernel_rfl) ?_ rfl ?_ ?_
    rotate_left 1
    · intro w hSw
      (try dsimp only at hSw)
      go_simp
      first | done | (obtain ⟨un, up, uk, ul, uv0, uv1, uv2, uv3⟩ := hSw; simp [*])
    · (try simp only [Act.put, List.setIfInBounds_toArray, List.set_cons_zero, List.set_cons_succ])
      try rfl
    refine sched_take' (v := ?_) (a' := ?_) rfl (by kernel_rfl) ?_ rfl ?_ ?_
    rotate_left 2
    · intro w hSw
      (try dsimp only at hSw)
      go_simp
      try with_reducible rfl
    · (try simp only [Act.put, List.setIfInBounds_toArray, List.set_cons_zero, List.set_cons_succ])
      try rfl
    refine sched_take' (v := ?_) (a' := ?_) rfl (by kernel_rfl) ?_ rfl ?_ ?_
    rotate_left 2
    · intro w hSw
      (try dsimp only at hSw)
      go_simp
      try with_reducible rfl
    · (try simp only [Act.put, List.setIfInBounds_toArray, List.set_cons_zero, List.set_cons_succ])
      try rfl
    refine sched_take' (v := .slice (some ⟨g, 0, none⟩) 2 cap) (a' := ?_) rfl (by kernel_rfl) ?_ rfl ?_ ?_
    rotate_left 1
    · intro w hSw
      (try dsimp only at hSw)
      go_simp
      first | done | (obtain ⟨un, up, uk, ul, uv0, uv1, uv2, uv3⟩ := hSw; simp [*])
    · (try simp only [Act.put, List.setIfInBounds_toArray, List.set_cons_zero, List.set_cons_succ])
      try rfl
    refine sched_take' (v := ?_) (a' := ?_) rfl (by kernel_rfl) ?_ rfl ?_ ?_
    rotate_left 2
    · intro w hSw
      (try dsimp only at hSw)
      go_simp
      try with_reducible rfl
    · (try simp only [Act.put, List.setIfInBounds_toArray, List.set_cons_zero, List.set_cons_succ])
      try rfl
    refine sched_take' (v := kidV k) (a' := ?_) rfl (by kernel_rfl) ?_ rfl ?_ ?_
    rotate_left 1
    · intro w hSw
      (try dsimp only at hSw)
      go_simp
      first | done | (obtain ⟨un, up, uk, ul, uv0, uv1, uv2, uv3⟩ := hSw; simp [*])
    · (try simp only [Act.put, List.setIfInBounds_toArray, List.set_cons_zero, List.set_cons_succ])
      try rfl
    refine sched_take' (v := .agg #[.int .i64 (E 0 : Nat), .int .i64 (E 1 : Nat), .int .i64 (E 2 : Nat), .int .i64 (E 3 : Nat)]) (a' := ?_) rfl (by kernel_rfl) ?_ rfl ?_ ?_
    rotate_left 1
    · intro w hSw
      (try dsimp only at hSw)
      go_simp
      first | done | (obtain ⟨un, up, uk, ul, uv0, uv1, uv2, uv3⟩ := hSw; simp [*])
    · (try simp only [Act.put, List.setIfInBounds_toArray, List.set_cons_zero, List.set_cons_succ])
      try rfl
    refine sched_call rfl (by kernel_rfl) (fun K1 hK1 => ?_)
    go_simp
    refine (CK.out _ HV.out.drew).mono ?_
    rintro ed w1 ⟨rfl, hW, hF⟩
    have H1 := Lib.hid hW
    have F2 := Lib.hid (F1.out.trans ((fz_drew hb _).trans hF))
    have n1 := hF.cell n0
    have p1 := hF.cell p0
    have k1 := hF.cell k0
    have l1 := hF.cell l0
    have r1 := hF.cell r0
    have s1 := hF.cell s0
    have t1 := hF.cell t0
    have u1 := hF.cell u0
    clear hW hF
    go_wp2_with fail
    refine hK1.out _ _ ?_ (sched_lay (a' := ?_) ?_ ?_)
    · exact ⟨n1, p1, k1, l1, r1, s1, t1, u1⟩
    rotate_left 1
    · (try simp only [Act.put, List.getElem_toArray, List.getElem_cons_succ, List.getElem_cons_zero, List.setIfInBounds_toArray, List.set_cons_zero, List.set_cons_succ])
      try rfl
    clear hK1 K1
    refine sched_take' (v := ?_) (a' := ?_) rfl (by kernel_rfl) ?_ rfl ?_ ?_
    rotate_left 2
    · intro w hSw
      (try dsimp only at hSw)
      go_simp
      try with_reducible rfl
    · (try simp only [Act.put, List.setIfInBounds_toArray, List.set_cons_zero, List.set_cons_succ])
      try rfl
    refine sched_take' (v := ?_) (a' := ?_) rfl (by kernel_rfl) ?_ rfl ?_ ?_
    rotate_left 2
    · intro w hSw
      (try dsimp only at hSw)
      go_simp
      try with_reducible rfl
    · (try simp only [Act.put, List.setIfInBounds_toArray, List.set_cons_zero, List.set_cons_succ])
      try rfl
    refine sched_take' (v := kidV nb) (a' := ?_) rfl (by kernel_rfl) ?_ rfl ?_ ?_
    rotate_left 1
    · intro w hSw
      (try dsimp only at hSw)
      go_simp
      first | done | (obtain ⟨un, up, uk, ul, uv0, uv1, uv2, uv3⟩ := hSw; simp [*])
    · (try simp only [Act.put, List.setIfInBounds_toArray, List.set_cons_zero, List.set_cons_succ])
      try rfl
    refine sched_take' (v := ?_) (a' := ?_) rfl (by kernel_rfl) ?_ rfl ?_ ?_
    rotate_left 2
    · intro w hSw
      (try dsimp only at hSw)
      go_simp
      try with_reducible rfl
    · (try simp only [Act.put, List.setIfInBounds_toArray, List.set_cons_zero, List.set_cons_succ])
      try rfl
    refine sched_take' (v := ?_) (a' := ?_) rfl (by kernel_rfl) ?_ rfl ?_ ?_
    rotate_left 2
    · intro w hSw
      (try dsimp only at hSw)
      go_simp
      try with_reducible rfl
    · (try simp only [Act.put, List.setIfInBounds_toArray, List.set_cons_zero, List.set_cons_succ])
      try rfl
    refine sched_take' (v := .slice (some ⟨g, 0, none⟩) 2 cap) (a' := ?_) rfl (by kernel_rfl) ?_ rfl ?_ ?_
    rotate_left 1
    · intro w hSw
      (try dsimp only at hSw)
      go_simp
      first | done | (obtain ⟨un, up, uk, ul, uv0, uv1, uv2, uv3⟩ := hSw; simp [*])
    · (try simp only [Act.put, List.setIfInBounds_toArray, List.set_cons_zero, List.set_cons_succ])
      try rfl
    refine sched_take' (v := ?_) (a' := ?_) rfl (by kernel_rfl) ?_ rfl ?_ ?_
    rotate_left 2
    · intro w hSw
      (try dsimp only at hSw)
      go_simp
      try with_reducible rfl
    · (try simp only [Act.put, List.setIfInBounds_toArray, List.set_cons_zero, List.set_cons_succ])
      try rfl
    refine sched_take' (v := kidV l) (a' := ?_) rfl (by kernel_rfl) ?_ rfl ?_ ?_
    rotate_left 1
    · intro w hSw
      (try dsimp only at hSw)
      go_simp
      first | done | (obtain ⟨un, up, uk, ul, uv0, uv1, uv2, uv3⟩ := hSw; simp [*])
    · (try simp only [Act.put, List.setIfInBounds_toArray, List.set_cons_zero, List.set_cons_succ])
      try rfl
    refine sched_take' (v := .agg #[.int .i64 (E 0 : Nat), .int .i64 (E 1 : Nat), .int .i64 (E 2 : Nat), .int .i64 (E 3 : Nat)]) (a' := ?_) rfl (by kernel_rfl) ?_ rfl ?_ ?_
    rotate_left 1
    · intro w hSw
      (try dsimp only at hSw)
      go_simp
      first | done | (obtain ⟨un, up, uk, ul, uv0, uv1, uv2, uv3⟩ := hSw; simp [*])
    · (try simp only [Act.put, List.setIfInBounds_toArray, List.set_cons_zero, List.set_cons_succ])
      try rfl
    refine sched_call rfl (by kernel_rfl) (fun K1 hK1 => ?_)
    go_simp
    refine (CL.out _ H1.out).mono ?_
    rintro ed w2 ⟨rfl, hW, hF⟩
    have H2 := Lib.hid hW
    have F3 := Lib.hid (F2.out.trans (hF))
    have n2 := hF.cell n1
    have p2 := hF.cell p1
    have k2 := hF.cell k1
    have l2 := hF.cell l1
    have r2 := hF.cell r1
    have s2 := hF.cell s1
    have t2 := hF.cell t1
    have u2 := hF.cell u1
    clear hW hF
    go_wp2_with fail
    refine hK1.out _ _ ?_ (sched_lay (a' := ?_) ?_ ?_)
    · exact ⟨n2, p2, k2, l2, r2, s2, t2, u2⟩
    rotate_left 1
    · (try simp only [Act.put, List.getElem_toArray, List.getElem_cons_succ, List.getElem_cons_zero, List.setIfInBounds_toArray, List.set_cons_zero, List.set_cons_succ])
      try rfl
    clear hK1 K1
    refine sched_take' (v := ?_) (a' := ?_) rfl (by kernel_rfl) ?_ rfl ?_ ?_
    rotate_left 2
    · intro w hSw
      (try dsimp only at hSw)
      go_simp
      try with_reducible rfl
    · (try simp only [Act.put, List.setIfInBounds_toArray, List.set_cons_zero, List.set_cons_succ])
      try rfl
    refine sched_take' (v := ?_) (a' := ?_) rfl (by kernel_rfl) ?_ rfl ?_ ?_
    rotate_left 2
    · intro w hSw
      (try dsimp only at hSw)
      go_simp
      try with_reducible rfl
    · (try simp only [Act.put, List.setIfInBounds_toArray, List.set_cons_zero, List.set_cons_succ])
      try rfl
    refine sched_done (hQ1.out _ _ ?_)
    go_wp2_with fail
    go_ret
    exact ⟨by show _ = Ending.returned (.bool (p.holds a e && q.holds a e)); rw [Hp.out]; simp, H2.out, F3.out⟩

set_option maxRecDepth 100000 in
set_option maxHeartbeats 4000000 in
theorem decide_dis (p q : Fm) (ih : HoldsBy 85 lo w0 a hb p) (ih2 : HoldsBy 85 lo w0 a hb q) : HoldsBy 103 lo w0 a hb (.dis p q) := by
  intro nb e w ht he hw
  obtain ⟨E, hE⟩ : ∃ E, E = eN e := ⟨_, rfl⟩
  have hA : envA e = #[.int .i64 (E 0 : Nat), .int .i64 (E 1 : Nat), .int .i64 (E 2 : Nat), .int .i64 (E 3 : Nat)] := by rw [hE]; rfl
  rw [hA]
  have hV := (hw.alloc (.cells #[kidV nb] 52)).alloc (.cells #[.int .i64 (E 0 : Nat), .int .i64 (E 1 : Nat), .int .i64 (E 2 : Nat), .int .i64 (E 3 : Nat)] 106)
  have hD : DecB ((w.alloc (.cells #[kidV nb] 52)).alloc (.cells #[.int .i64 (E 0 : Nat), .int .i64 (E 1 : Nat), .int .i64 (E 2 : Nat), .int .i64 (E 3 : Nat)] 106)) w.heap.size nb E := ⟨(Bx.new w 52 #[kidV nb]).alloc _, bx_two w _ _⟩
  have HV := Lib.hid hV
  have HD := Lib.hid hD
  have HT := Lib.hid (hV.tree ht)
  have F1 := Lib.hid ((Fz.alloc (Nat.le_of_lt hw.cache.lt) (.cells #[kidV nb] 52)).trans (Fz.alloc (by have := hw.cache.lt; simp; omega) (.cells #[.int .i64 (E 0 : Nat), .int .i64 (E 1 : Nat), .int .i64 (E 2 : Nat), .int .i64 (E 3 : Nat)] 106)))
  obtain ⟨ks, vsv, psv, hc0, _⟩ := node_cells HT.out
  have hc0 : ((w.alloc (.cells #[kidV nb] 52)).alloc (.cells #[.int .i64 (E 0 : Nat), .int .i64 (E 1 : Nat), .int .i64 (E 2 : Nat), .int .i64 (E 3 : Nat)] 106)).cell? ⟨nb, 0, none⟩ = some (.int .u8 124) := hc0
  have n0 := hD.node.cell 0
  simp only [List.getElem?_toArray, List.getElem?_cons_zero, List.getElem?_cons_succ] at n0
  have HE := Lib.hid hE
  have He := Lib.hid he
  have HTw := Lib.hid ht
  clear hE hA hV hD ht he hw
  obtain ⟨k, l, g, cap, hp0, hk0, hl0, htk, htl⟩ := kid_two HV.out HTw.out (f := .dis p q) rfl
  have p0 : ((w.alloc (.cells #[kidV nb] 52)).alloc (.cells #[.int .i64 (E 0 : Nat), .int .i64 (E 1 : Nat), .int .i64 (E 2 : Nat), .int .i64 (E 3 : Nat)] 106)).cell? ⟨nb, 2, none⟩ = some (.slice (some ⟨g, 0, none⟩) 2 cap) := hp0
  have k0 : ((w.alloc (.cells #[kidV nb] 52)).alloc (.cells #[.int .i64 (E 0 : Nat), .int .i64 (E 1 : Nat), .int .i64 (E 2 : Nat), .int .i64 (E 3 : Nat)] 106)).cell? ⟨g, 0, none⟩ = some (kidV k) := hk0
  have l0 : ((w.alloc (.cells #[kidV nb] 52)).alloc (.cells #[.int .i64 (E 0 : Nat), .int .i64 (E 1 : Nat), .int .i64 (E 2 : Nat), .int .i64 (E 3 : Nat)] 106)).cell? ⟨g, 1, none⟩ = some (kidV l) := hl0
  have r0 := HD.out.vals.cell 0
  have s0 := HD.out.vals.cell 1
  have t0 := HD.out.vals.cell 2
  have u0 := HD.out.vals.cell 3
  simp only [List.getElem?_toArray, List.getElem?_cons_zero, List.getElem?_cons_succ] at r0 s0 t0 u0
  have hA : envA e = #[.int .i64 (E 0 : Nat), .int .i64 (E 1 : Nat), .int .i64 (E 2 : Nat), .int .i64 (E 3 : Nat)] := by rw [HE.out]; rfl
  have ck := fun (W : World) (hW : HoldW lo w0 a hb W) => ih k e W htk He.out hW
  have cl := fun (W : World) (hW : HoldW lo w0 a hb W) => ih2 l e W htl He.out hW
  simp only [hA] at ck cl
  have CL := Lib.hid cl
  clear cl hA hp0 hk0 hl0 htk htl ih ih2
  cases hp : p.holds a e with
  | false =>
    have Hp := Lib.hid hp
    simp only [hp] at ck
    have CK := Lib.hid ck
    clear ck hp
    go_enter Tryd.func103, Tryd.ntmps103
    go_upto_region 18 with (fail)
    refine region_sched [(0, true), (1, true), (2, true), (3, true), (4, true), (5, true), (6, true), (7, true), (8, false), (9, true), (10, true), (11, true), (12, true), (13, true), (14, true), (15, true), (16, true), (17, true), (18, false), (19, true), (20, true)] (fun w' : World => w'.cell? ⟨w.heap.size, 0, none⟩ = some (kidV nb) ∧ w'.cell? ⟨nb, 2, none⟩ = some (.slice (some ⟨g, 0, none⟩) 2 cap) ∧ w'.cell? ⟨g, 0, none⟩ = some (kidV k) ∧ w'.cell? ⟨g, 1, none⟩ = some (kidV l) ∧ w'.cell? ⟨w.heap.size + 1, 0, none⟩ = some (.int .i64 (E 0 : Nat)) ∧ w'.cell? ⟨w.heap.size + 1, 1, none⟩ = some (.int .i64 (E 1 : Nat)) ∧ w'.cell? ⟨w.heap.size + 1, 2, none⟩ = some (.int .i64 (E 2 : Nat)) ∧ w'.cell? ⟨w.heap.size + 1, 3, none⟩ = some (.int .i64 (E 3 : Nat))) (by kernel_rfl) (by kernel_rfl) (by kernel_rfl) (by kernel_rfl) (fun _ _ _ _ h => h) ?_ (fun Q1 hQ1 => ?_)
    · exact ⟨n0, p0, k0, l0, r0, s0, t0, u0⟩
    try simp only [List.append]
    refine sched_take' (v := ?_) (a' := ?_) rfl (by kernel_rfl) ?_ rfl ?_ ?_
    rotate_left 2
    · intro w hSw
      (try dsimp only at hSw)
      go_simp
      try with_reducible rfl
    · (try simp only [Act.put, List.setIfInBounds_toArray, List.set_cons_zero, List.set_cons_succ])
      try rfl
    refine sched_take' (v := kidV nb) (a' := ?_) rfl (by kernel_rfl) ?_ rfl ?_ ?_
    rotate_left 1
    · intro w hSw
      (try dsimp only at hSw)
      go_simp
      first | done | (obtain ⟨un, up, uk, ul, uv0, uv1, uv2, uv3⟩ := hSw; simp [*])
    · (try simp only [Act.put, List.setIfInBounds_toArray, List.set_cons_zero, List.set_cons_succ])
      try rfl
    refine sched_take' (v := ?_) (a' := ?_) rfl (by kernel_rfl) ?_ rfl ?_ ?_
    rotate_left 2
    · intro w hSw
      (try dsimp only at hSw)
      go_simp
      try with_reducible rfl
    · (try simp only [Act.put, List.setIfInBounds_toArray, List.set_cons_zero, List.set_cons_succ])
      try rfl
    refine sched_take' (v := ?_) (a' := ?_) rfl (by kernel_rfl) ?_ rfl ?_ ?_
    rotate_left 2
    · intro w hSw
      (try dsimp only at hSw)
      go_simp
      try with_reducible rfl
    · (try simp only [Act.put, List.setIfInBounds_toArray, List.set_cons_zero, List.set_cons_succ])
      try rfl
    refine sched_take' (v := .slice (some ⟨g, 0, none⟩) 2 cap) (a' := ?_) rfl (by kernel_rfl) ?_ rfl ?_ ?_
    rotate_left 1
    · intro w hSw
      (try dsimp only at hSw)
      go_simp
      first | done | (obtain ⟨un, up, uk, ul, uv0, uv1, uv2, uv3⟩ := hSw; simp [*])
    · (try simp only [Act.put, List.setIfInBounds_toArray, List.set_cons_zero, List.set_cons_succ])
      try rfl
    refine sched_take' (v := ?_) (a' := ?_) rfl (by kernel_rfl) ?_ rfl ?_ ?_
    rotate_left 2
    · intro w hSw
      (try dsimp only at hSw)
      go_simp
      try with_reducible rfl
    · (try simp only [Act.put, List.setIfInBounds_toArray, List.set_cons_zero, List.set_cons_succ])
      try rfl
    refine sched_take' (v := kidV k) (a' := ?_) rfl (by kernel_rfl) ?_ rfl ?_ ?_
    rotate_left 1
    · intro w hSw
      (try dsimp only at hSw)
      go_simp
      first | done | (obtain ⟨un, up, uk, ul, uv0, uv1, uv2, uv3⟩ := hSw; simp [*])
    · (try simp only [Act.put, List.setIfInBounds_toArray, List.set_cons_zero, List.set_cons_succ])
      try rfl
    refine sched_take' (v := .agg #[.int .i64 (E 0 : Nat), .int .i64 (E 1 : Nat), .int .i64 (E 2 : Nat), .int .i64 (E 3 : Nat)]) (a' := ?_) rfl (by kernel_rfl) ?_ rfl ?_ ?_
    rotate_left 1
    · intro w hSw
      (try dsimp only at hSw)
      go_simp
      first | done | (obtain ⟨un, up, uk, ul, uv0, uv1, uv2, uv3⟩ := hSw; simp [*])
    · (try simp only [Act.put, List.setIfInBounds_toArray, List.set_cons_zero, List.set_cons_succ])
      try rfl
    refine sched_call rfl (by kernel_rfl) (fun K1 hK1 => ?_)
    go_simp
    refine (CK.out _ HV.out.drew).mono ?_
    rintro ed w1 ⟨rfl, hW, hF⟩
    have H1 := Lib.hid hW
    have F2 := Lib.hid (F1.out.trans ((fz_drew hb _).trans hF))
    have n1 := hF.cell n0
    have p1 := hF.cell p0
    have k1 := hF.cell k0
    have l1 := hF.cell l0
    have r1 := hF.cell r0
    have s1 := hF.cell s0
    have t1 := hF.cell t0
    have u1 := hF.cell u0
    clear hW hF
    go_wp2_with fail
    refine hK1.out _ _ ?_ (sched_lay (a' := ?_) ?_ ?_)
    · exact ⟨n1, p1, k1, l1, r1, s1, t1, u1⟩
    rotate_left 1
    · (try simp only [Act.put, List.getElem_toArray, List.getElem_cons_succ, List.getElem_cons_zero, List.setIfInBounds_toArray, List.set_cons_zero, List.set_cons_succ])
      try rfl
    clear hK1 K1
    refine sched_take' (v := ?_) (a' := ?_) rfl (by kernel_rfl) ?_ rfl ?_ ?_
    rotate_left 2
    · intro w hSw
      (try dsimp only at hSw)
      go_simp
      try with_reducible rfl
    · (try simp only [Act.put, List.setIfInBounds_toArray, List.set_cons_zero, List.set_cons_succ])
      try rfl
    refine sched_take' (v := ?_) (a' := ?_) rfl (by kernel_rfl) ?_ rfl ?_ ?_
    rotate_left 2
    · intro w hSw
      (try dsimp only at hSw)
      go_simp
      try with_reducible rfl
    · (try simp only [Act.put, List.setIfInBounds_toArray, List.set_cons_zero, List.set_cons_succ])
      try rfl
    refine sched_take' (v := kidV nb) (a' := ?_) rfl (by kernel_rfl) ?_ rfl ?_ ?_
    rotate_left 1
    · intro w hSw
      (try dsimp only at hSw)
      go_simp
      first | done | (obtain ⟨un, up, uk, ul, uv0, uv1, uv2, uv3⟩ := hSw; simp [*])
    · (try simp only [Act.put, List.setIfInBounds_toArray, List.set_cons_zero, List.set_cons_succ])
      try rfl
    refine sched_take' (v := ?_) (a' := ?_) rfl (by kernel_rfl) ?_ rfl ?_ ?_
    rotate_left 2
    · intro w hSw
      (try dsimp only at hSw)
      go_simp
      try with_reducible rfl
    · (try simp only [Act.put, List.setIfInBounds_toArray, List.set_cons_zero, List.set_cons_succ])
      try rfl
    refine sched_take' (v := ?_) (a' := ?_) rfl (by kernel_rfl) ?_ rfl ?_ ?_
    rotate_left 2
    · intro w hSw
      (try dsimp only at hSw)
      go_simp
      try with_reducible rfl
    · (try simp only [Act.put, List.setIfInBounds_toArray, List.set_cons_zero, List.set_cons_succ])
      try rfl
    refine sched_take' (v := .slice (some ⟨g, 0, none⟩) 2 cap) (a' := ?_) rfl (by kernel_rfl) ?_ rfl ?_ ?_
    rotate_left 1
    · intro w hSw
      (try dsimp only at hSw)
      go_simp
      first | done | (obtain ⟨un, up, uk, ul, uv0, uv1, uv2, uv3⟩ := hSw; simp [*])
    · (try simp only [Act.put, List.setIfInBounds_toArray, List.set_cons_zero, List.set_cons_succ])
      try rfl
    refine sched_take' (v := ?_) (a' := ?_) rfl (by kernel_rfl) ?_ rfl ?_ ?_
    rotate_left 2
    · intro w hSw
      (try dsimp only at hSw)
      go_simp
      try with_reducible rfl
    · (try simp only [Act.put, List.setIfInBounds_toArray, List.set_cons_zero, List.set_cons_succ])
      try rfl
    refine sched_take' (v := kidV l) (a' := ?_) rfl (by kernel_rfl) ?_ rfl ?_ ?_
    rotate_left 1
    · intro w hSw
      (try dsimp only at hSw)
      go_simp
      first | done | (obtain ⟨un, up, uk, ul, uv0, uv1, uv2, uv3⟩ := hSw; simp [*])
    · (try simp only [Act.put, List.setIfInBounds_toArray, List.set_cons_zero, List.set_cons_succ])
      try rfl
    refine sched_take' (v := .agg #[.int .i64 (E 0 : Nat), .int .i64 (E 1 : Nat), .int .i64 (E 2 : Nat), .int .i64 (E 3 : Nat)]) (a' := ?_) rfl (by kernel_rfl) ?_ rfl ?_ ?_
    rotate_left 1
    · intro w hSw
      (try dsimp only at hSw)
      go_simp
      first | done | (obtain ⟨un, up, uk, ul, uv0, uv1, uv2, uv3⟩ := hSw; simp [*])
    · (try simp only [Act.put, List.setIfInBounds_toArray, List.set_cons_zero, List.set_cons_succ])
      try rfl
    refine sched_call rfl (by kernel_rfl) (fun K1 hK1 => ?_)
    go_simp
    refine (CL.out _ H1.out).mono ?_
    rintro ed w2 ⟨rfl, hW, hF⟩
    have H2 := Lib.hid hW
    have F3 := Lib.hid (F2.out.trans (hF))
    have n2 := hF.cell n1
    have p2 := hF.cell p1
    have k2 := hF.cell k1
    have l2 := hF.cell l1
    have r2 := hF.cell r1
    have s2 := hF.cell s1
    have t2 := hF.cell t1
    have u2 := hF.cell u1
    clear hW hF
    go_wp2_with fail
    refine hK1.out _ _ ?_ (sched_lay (a' := ?_) ?_ ?_)
    · exact ⟨n2, p2, k2, l2, r2, s2, t2, u2⟩
    rotate_left 1
    · (try simp only [Act.put, List.getElem_toArray, List.getElem_cons_succ, List.getElem_cons_zero, List.setIfInBounds_toArray, List.set_cons_zero, List.set_cons_succ])
      try rfl
    clear hK1 K1
    refine sched_take' (v := ?_) (a' := ?_) rfl (by kernel_rfl) ?_ rfl ?_ ?_
    rotate_left 2
    · intro w hSw
      (try dsimp only at hSw)
      go_simp
      try with_reducible rfl
    · (try simp only [Act.put, List.setIfInBounds_toArray, List.set_cons_zero, List.set_cons_succ])
      try rfl
    refine sched_take' (v := ?_) (a' := ?_) rfl (by kernel_rfl) ?_ rfl ?_ ?_
    rotate_left 2
    · intro w hSw
      (try dsimp only at hSw)
      go_simp
      try with_reducible rfl
    · (try simp only [Act.put, List.setIfInBounds_toArray, List.set_cons_zero, List.set_cons_succ])
      try rfl
    refine sched_done (hQ1.out _ _ ?_)
    go_wp2_with fail
    go_ret
    exact ⟨by show _ = Ending.returned (.bool (p.holds a e || q.holds a e)); rw [Hp.out]; simp, H2.out, F3.out⟩
  | true =>
    have Hp := Lib.hid hp
    simp only [hp] at ck
    have CK := Lib.hid ck
    clear ck hp
    go_enter Tryd.func103, Tryd.ntmps103
    go_upto_region 18 with (fail)
    refine region_sched [(0, true), (1, true), (2, true), (3, true), (4, true), (5, true), (6, true), (7, true), (8, false), (9, true), (10, true), (11, true), (12, true), (13, true), (14, true), (15, true), (16, true), (17, true), (18, false), (19, true), (20, true)] (fun w' : World => w'.cell? ⟨w.heap.size, 0, none⟩ = some (kidV nb) ∧ w'.cell? ⟨nb, 2, none⟩ = some (.slice (some ⟨g, 0, none⟩) 2 cap) ∧ w'.cell? ⟨g, 0, none⟩ = some (kidV k) ∧ w'.cell? ⟨g, 1, none⟩ = some (kidV l) ∧ w'.cell? ⟨w.heap.size + 1, 0, none⟩ = some (.int .i64 (E 0 : Nat)) ∧ w'.cell? ⟨w.heap.size + 1, 1, none⟩ = some (.int .i64 (E 1 : Nat)) ∧ w'.cell? ⟨w.heap.size + 1, 2, none⟩ = some (.int .i64 (E 2 : Nat)) ∧ w'.cell? ⟨w.heap.size + 1, 3, none⟩ = some (.int .i64 (E 3 : Nat))) (by kernel_rfl) (by kernel_rfl) (by kernel_rfl) (by kernel_rfl) (fun _ _ _ _ h => h) ?_ (fun Q1 hQ1 => ?_)
    · exact ⟨n0, p0, k0, l0, r0, s0, t0, u0⟩
    try simp only [List.append]
    refine sched_take' (v := ?_) (a' := ?_) rfl (by kernel_rfl) ?_ rfl ?_ ?_
    rotate_left 2
    · intro w hSw
      (try dsimp only at hSw)
      go_simp
      try with_reducible rfl
    · (try simp only [Act.put, List.setIfInBounds_toArray, List.set_cons_zero, List.set_cons_succ])
      try rfl
    refine sched_take' (v := kidV nb) (a' := ?_) rfl (by kernel_rfl) ?_ rfl ?_ ?_
    rotate_left 1
    · intro w hSw
      (try dsimp only at hSw)
      go_simp
      first | done | (obtain ⟨un, up, uk, ul, uv0, uv1, uv2, uv3⟩ := hSw; simp [*])
    · (try simp only [Act.put, List.setIfInBounds_toArray, List.set_cons_zero, List.set_cons_succ])
      try rfl
    refine sched_take' (v := ?_) (a' := ?_) rfl (by kernel_rfl) ?_ rfl ?_ ?_
    rotate_left 2
    · intro w hSw
      (try dsimp only at hSw)
      go_simp
      try with_reducible rfl
    · (try simp only [Act.put, List.setIfInBounds_toArray, List.set_cons_zero, List.set_cons_succ])
      try rfl
    refine sched_take' (v := ?_) (a' := ?_) rfl (by kernel_rfl) ?_ rfl ?_ ?_
    rotate_left 2
    · intro w hSw
      (try dsimp only at hSw)
      go_simp
      try with_reducible rfl
    · (try simp only [Act.put, List.setIfInBounds_toArray, List.set_cons_zero, List.set_cons_succ])
      try rfl
    refine sched_take' (v := .slice (some ⟨g, 0, none⟩) 2 cap) (a' := ?_) rfl (by kernel_rfl) ?_ rfl ?_ ?_
    rotate_left 1
    · intro w hSw
      (try dsimp only at hSw)
      go_simp
      first | done | (obtain ⟨un, up, uk, ul, uv0, uv1, uv2, uv3⟩ := hSw; simp [*])
    · (try simp only [Act.put, List.setIfInBounds_toArray, List.set_cons_zero, List.set_cons_succ])
      try rfl
    refine sched_take' (v := ?_) (a' := ?_) rfl (by kernel_rfl) ?_ rfl ?_ ?_
    rotate_left 2
    · intro w hSw
      (try dsimp only at hSw)
      go_simp
      try with_reducible rfl
    · (try simp only [Act.put, List.setIfInBounds_toArray, List.set_cons_zero, List.set_cons_succ])
      try rfl
    refine sched_take' (v := kidV k) (a' := ?_) rfl (by kernel_rfl) ?_ rfl ?_ ?_
    rotate_left 1
    · intro w hSw
      (try dsimp only at hSw)
      go_simp
      first | done | (obtain ⟨un, up, uk, ul, uv0, uv1, uv2, uv3⟩ := hSw; simp [*])
    · (try simp only [Act.put, List.setIfInBounds_toArray, List.set_cons_zero, List.set_cons_succ])
      try rfl
    refine sched_take' (v := .agg #[.int .i64 (E 0 : Nat), .int .i64 (E 1 : Nat), .int .i64 (E 2 : Nat), .int .i64 (E 3 : Nat)]) (a' := ?_) rfl (by kernel_rfl) ?_ rfl ?_ ?_
    rotate_left 1
    · intro w hSw
      (try dsimp only at hSw)
      go_simp
      first | done | (obtain ⟨un, up, uk, ul, uv0, uv1, uv2, uv3⟩ := hSw; simp [*])
    · (try simp only [Act.put, List.setIfInBounds_toArray, List.set_cons_zero, List.set_cons_succ])
      try rfl
    refine sched_call rfl (by kernel_rfl) (fun K1 hK1 => ?_)
    go_simp
    refine (CK.out _ HV.out.drew).mono ?_
    rintro ed w1 ⟨rfl, hW, hF⟩
    have H1 := Lib.hid hW
    have F2 := Lib.hid (F1.out.trans ((fz_drew hb _).trans hF))
    have n1 := hF.cell n0
    have p1 := hF.cell p0
    have k1 := hF.cell k0
    have l1 := hF.cell l0
    have r1 := hF.cell r0
    have s1 := hF.cell s0
    have t1 := hF.cell t0
    have u1 := hF.cell u0
    clear hW hF
    go_wp2_with fail
    refine hK1.out _ _ ?_ (sched_lay (a' := ?_) ?_ ?_)
    · exact ⟨n1, p1, k1, l1, r1, s1, t1, u1⟩
    rotate_left 1
    · (try simp only [Act.put, List.getElem_toArray, List.getElem_cons_succ, List.getElem_cons_zero, List.setIfInBounds_toArray, List.set_cons_zero, List.set_cons_succ])
      try rfl
    clear hK1 K1
    refine sched_take' (v := ?_) (a' := ?_) rfl (by kernel_rfl) ?_ rfl ?_ ?_
    rotate_left 2
    · intro w hSw
      (try dsimp only at hSw)
      go_simp
      try with_reducible rfl
    · (try simp only [Act.put, List.setIfInBounds_toArray, List.set_cons_zero, List.set_cons_succ])
      try rfl
    refine sched_skip' (a' := ?_) rfl (by kernel_rfl) rfl ?_ ?_
    rotate_left 1
    · (try simp only [Act.put, List.setIfInBounds_toArray, List.set_cons_zero, List.set_cons_succ])
      try rfl
    refine sched_skip' (a' := ?_) rfl (by kernel_rfl) rfl ?_ ?_
    rotate_left 1
    · (try simp only [Act.put, List.setIfInBounds_toArray, List.set_cons_zero, List.set_cons_succ])
      try rfl
    refine sched_skip' (a' := ?_) rfl (by kernel_rfl) rfl ?_ ?_
    rotate_left 1
    · (try simp only [Act.put, List.setIfInBounds_toArray, List.set_cons_zero, List.set_cons_succ])
      try rfl
    refine sched_skip' (a' := ?_) rfl (by kernel_rfl) rfl ?_ ?_
    rotate_left 1
    · (try simp only [Act.put, List.setIfInBounds_toArray, List.set_cons_zero, List.set_cons_succ])
      try rfl
    refine sched_skip' (a' := ?_) rfl (by kernel_rfl) rfl ?_ ?_
    rotate_left 1
    · (try simp only [Act.put, List.setIfInBounds_toArray, List.set_cons_zero, List.set_cons_succ])
      try rfl
    refine sched_skip' (a' := ?_) rfl (by kernel_rfl) rfl ?_ ?_
    rotate_left 1
    · (try simp only [Act.put, List.setIfInBounds_toArray, List.set_cons_zero, List.set_cons_succ])
      try rfl
    refine sched_skip' (a' := ?_) rfl (by kernel_rfl) rfl ?_ ?_
    rotate_left 1
    · (try simp only [Act.put, List.setIfInBounds_toArray, List.set_cons_zero, List.set_cons_succ])
      try rfl
    refine sched_skip' (a' := ?_) rfl (by kernel_rfl) rfl ?_ ?_
    rotate_left 1
    · (try simp only [Act.put, List.setIfInBounds_toArray, List.set_cons_zero, List.set_cons_succ])
      try rfl
    refine sched_skipC' (a' := ?_) rfl (by kernel_rfl) ?_ rfl ?_ ?_
    rotate_left 1
    · exact ⟨n1, p1, k1, l1, r1, s1, t1, u1⟩
    · (try simp only [Act.put, List.setIfInBounds_toArray, List.set_cons_zero, List.set_cons_succ])
      try rfl
    refine sched_take' (v := ?_) (a' := ?_) rfl (by kernel_rfl) ?_ rfl ?_ ?_
    rotate_left 2
    · intro w hSw
      (try dsimp only at hSw)
      go_simp
      try with_reducible rfl
    · (try simp only [Act.put, List.setIfInBounds_toArray, List.set_cons_zero, List.set_cons_succ])
      try rfl
    refine sched_take' (v := ?_) (a' := ?_) rfl (by kernel_rfl) ?_ rfl ?_ ?_
    rotate_left 2
    · intro w hSw
      (try dsimp only at hSw)
      go_simp
      try with_reducible rfl
    · (try simp only [Act.put, List.setIfInBounds_toArray, List.set_cons_zero, List.set_cons_succ])
      try rfl
    refine sched_done (hQ1.out _ _ ?_)
    go_wp2_with fail
    go_ret
    exact ⟨by show _ = Ending.returned (.bool (p.holds a e || q.holds a e)); rw [Hp.out]; rfl, H1.out, F2.out⟩

end

end Go.Proofs.YtpaleogkgfclnaaDoor

namespace Go.Proofs.YtpaleogkgfclnaaDoor
open Go.RowKit
open Go.ChangeMaps
open Pl
set_option linter.unusedSimpArgs false
set_option linter.unusedVariables false

theorem Fz.set {B : Nat} {w w' : World} (h : Fz B w w') {g : Nat} (hg : w.heap.size ≤ g) (hB : B ≤ g) (i : Nat) (v : Value) : Fz B w (w'.setCell ⟨g, i, none⟩ v) :=
  ⟨h.below.setCell (by simpa using hB) v, fun j c t k hj => by
    have hlt := (Array.getElem?_eq_some_iff.1 hj).1
    rw [Below.heap_setCell w' ⟨g, i, none⟩ v j (by simp; omega)]
    exact h.cells j c t k hj⟩

theorem HoldW.set {lo : Nat} {w0 : World} {a : St} {hb : Nat} {w : World} (h : HoldW lo w0 a hb w) {g : Nat} {t : TypeId} {cs : Array Value} (hx : Bx w g t cs) (hg : hb + 1 < g) (i : Nat) (v : Value) : HoldW lo w0 a hb (w.setCell ⟨g, i, none⟩ v) := by
  have hoth : ∀ j, j ≠ g → (w.setCell ⟨g, i, none⟩ v).heap[j]? = w.heap[j]? := fun j hj => Below.heap_setCell w ⟨g, i, none⟩ v j (by simpa using hj)
  refine ⟨h.tr.setCell (by have := h.ge; simp; omega) v, h.ge, (hoth _ (by omega)).trans h.box, h.cache.keep (fun j es c hj => ?_) (fun j c t' hj => ?_)⟩
  · by_cases hjg : j = g
    · subst hjg
      rw [show w.heap[j]? = _ from hx] at hj
      cases hj
    · rw [hoth j hjg]; exact hj
  · by_cases hjg : j = g
    · subst hjg
      exact ⟨_, _, hx.set i v⟩
    · rw [hoth j hjg]; exact ⟨c, t', hj⟩

/-- behind a list of the caller's that has grown -/
theorem HoldW.app {lo : Nat} {w0 : World} {a : St} {hb : Nat} {w w' : World} {row : Option Nat} (h : HoldW lo w0 a hb w) (hg : w.grownBy w' row) (hr : ∀ k, row = some k → hb + 1 < k ∧ ∃ c t, w.heap[k]? = some (.cells c t (0, 0))) : HoldW lo w0 a hb w' := by
  have hge := h.ge
  refine ⟨h.tr.grown hg h.tr.size (fun k hk => by have := (hr k hk).1; omega), h.ge, (hg.block _ h.box.lt (fun e => by have := (hr _ e.symm).1; omega)).trans h.box, h.cache.app hg fun k hk => ⟨by have := (hr k hk).1; omega, (hr k hk).2⟩⟩

/-- the elements with another one for a variable -/
theorem eN_upd (e : Env) (v : Fin 4) (x : Nat) : eN (upd e v x) = fun i => if i = v.val then x else eN e i := by
  funext i
  unfold eN upd
  by_cases h : i < 4
  · by_cases hv : i = v.val
    · have : (⟨i, h⟩ : Fin 4) = v := Fin.ext hv
      simp [h, hv, this]
    · have : (⟨i, h⟩ : Fin 4) ≠ v := fun q => hv (congrArg Fin.val q)
      simp [h, hv, this]
  · have : i ≠ v.val := fun q => h (q ▸ v.isLt)
    simp [h, this]

end Go.Proofs.YtpaleogkgfclnaaDoor
