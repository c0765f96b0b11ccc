/-
  Laws of the functions that the claim reaches, one after the other (packed by a program of the prover's: Rank, SpecRank, Free, FmDraw3, Syn, Text, Push). Conditions: texts below the reach.
-/
import Derived.Test.YteonanaihklgmaaDoorPq4
import Derived.Test.YteonanaihklgmaaDoorPq2
import Derived.Test.YteonanaihklgmaaDoorPq3
import Derived.Test.YteonanaihklgmaaDoorPq0
import Derived.Deep.DeepCutAuto
import Derived.Deep.LoopGhost
import Derived.RegionTactic
import Derived.Deep.CutBlock
set_option linter.unusedSimpArgs false
set_option linter.unusedVariables false

namespace Go.Proofs.YteonanaihklgmaaDoor
open Go.RowKit
open Pl

/-- the cells of a node that a walk reads -/
theorem node_cells {S : Nat → Prop} {w : World} {f : Fm} {b : Nat} (h : TreeIn S w f b) :
    ∃ ks vsv psv, w.cell? ⟨b, 0, none⟩ = some (.int .u8 f.op.toNat) ∧ w.cell? ⟨b, 1, none⟩ = some vsv ∧ w.cell? ⟨b, 2, none⟩ = some psv ∧
      w.cell? ⟨b, 3, none⟩ = some (.int .i64 f.freeBits) ∧ w.cell? ⟨b, 4, none⟩ = some (.int .i64 f.allBits) ∧
      w.ownsRow 0 5 1 vsv f.vars.length (f.vars.map fun v => byteV (vb v)) ∧ w.ownsRow 0 55 1 psv ks.length (ks.map kidV) ∧ TreesIn S w f.parts ks := by
  obtain ⟨ks, ⟨_, vsv, psv, hb, h1, _, h2, _⟩, h3⟩ := h.open
  exact ⟨ks, vsv, psv, cell_at hb 0, cell_at hb 1, cell_at hb 2, cell_at hb 3, cell_at hb 4, h1, h2, h3⟩

/-- a row that may be empty, as a slice -/
theorem row_slice {w : World} {base : Nat} {e : TypeId} {v : Value} {n : Nat} {xs : List Value} (h : w.ownsRow base e 1 v n xs) :
    ∃ a cap, v = .slice a n cap ∧ xs.length = n ∧ (∀ j, j < n → ∃ g, a = some ⟨g, 0, none⟩ ∧ w.cell? ⟨g, j, none⟩ = xs[j]?) := by
  rcases Nat.eq_zero_or_pos n with h0 | h0
  · subst h0
    obtain ⟨hl, ⟨rfl, _⟩ | ⟨g, cap, cur, rfl, _⟩⟩ := h
    · exact ⟨_, _, rfl, by simpa using hl, fun j hj => absurd hj (Nat.not_lt_zero _)⟩
    · exact ⟨_, _, rfl, by simpa using hl, fun j hj => absurd hj (Nat.not_lt_zero _)⟩
  · obtain ⟨g, cap, rfl, _, _, _, _, hc⟩ := row_open h h0
    exact ⟨_, _, rfl, by simpa using h.1, fun j hj => ⟨g, rfl, hc j hj⟩⟩

theorem parts_le (f : Fm) : f.parts.length ≤ 2 := by cases f <;> simp [Fm.parts]
theorem vars_le (f : Fm) : f.vars.length ≤ 2 := by cases f <;> simp [Fm.vars]

theorem part_text_le {f p : Fm} (h : p ∈ f.parts) : p.text.length ≤ f.text.length := by
  cases f <;> simp [Fm.parts] at h
  case neg => subst h; simp [Fm.text]
  case con => rcases h with h | h <;> subst h <;> simp [Fm.text] <;> omega
  case dis => rcases h with h | h <;> subst h <;> simp [Fm.text] <;> omega
  case qu => subst h; simp [Fm.text]; omega

theorem foldmax_lt {m : Nat} : ∀ (ps : List Fm), m < 100000 → (∀ p ∈ ps, p.rank < 100000) → ps.foldl (fun m p => max m p.rank) m < 100000 := by
  intro ps
  induction ps generalizing m with
  | nil => intro h _; exact h
  | cons p ps ih =>
    intro h hp
    exact ih (Nat.max_lt.2 ⟨h, hp p (by simp)⟩) (fun q hq => hp q (by simp [hq]))

set_option maxHeartbeats 400000 in
theorem rank_calls (n : Nat) : ∀ (f : Fm) (b : Nat) (S : Nat → Prop) (w : World), f.size ≤ n → TreeIn S w f b → f.text.length ≤ 4000 →
    Calls Tryd.prog 41 #[kidV b] w fun e w' => e = .returned (.int .i64 f.rank) ∧ w = w' := by
  induction n with
  | zero => intro f b S w hn _ _; cases f <;> simp [Fm.size] at hn
  | succ n ih =>
    intro f b S w hn ht hl
    obtain ⟨ks, vsv, psv, hc0, _, hc2, _, _, _, hr, hts⟩ := node_cells ht
    obtain ⟨a, cap, rfl, hkl, hrow⟩ := row_slice hr
    have hkl2 : ks.length = f.parts.length := hts.1
    have hp2 := parts_le f
    have hkl3 : ks.length ≤ 2 := by omega
    have Ih := Lib.hid ih
    have Hrow := Lib.hid hrow
    have Hts := Lib.hid hts
    have Hkl := Lib.hid hkl2
    have hrk : ∀ p ∈ f.parts, p.rank < 100000 := fun p hp => by have := rank_le p; have := part_text_le hp; omega
    have Hrk := Lib.hid hrk
    have hfin := rank_eq f
    have hrl := rank_le f
    have Hfin := Lib.hid hfin
    clear ih hrow hts hkl hkl2 hr hrk hfin ht
    go_enter Tryd.func41, Tryd.ntmps41
    go_wp2_with fail
    go_loop [3, 11] (fun m i => ∃ k : Nat, k ≤ ks.length ∧ i = .int .i64 k ∧ m = .int .i64 ((f.parts.take k).foldl (fun m p => max m p.rank) 0 : Nat)) (fun _ i => ks.length - (intOf i).toNat)
    case atStart => exact ⟨0, Nat.zero_le _, rfl, rfl⟩
    case round =>
      obtain ⟨k, hk, rfl, rfl⟩ := hrel
      have hm : ((f.parts.take k).foldl (fun m p => max m p.rank) 0) < 100000 := foldmax_lt _ (by decide) (fun p hp => Hrk.out p (List.mem_of_mem_take hp))
      by_cases hlt : k < ks.length
      · obtain ⟨g, rfl, hcell⟩ := Hrow.out k hlt
        have hkf : k < f.parts.length := by rw [← Hkl.out]; exact hlt
        have hcell2 : w.cell? ⟨g, k, none⟩ = some (kidV ks[k]) := by rw [hcell, List.getElem?_map, List.getElem?_eq_getElem hlt]; rfl
        have hpk := Hts.out.2 k f.parts[k] ks[k] (List.getElem?_eq_getElem hkf) (List.getElem?_eq_getElem hlt)
        have hmem : f.parts[k] ∈ f.parts := List.getElem_mem hkf
        have hsz := Fm.size_parts hmem
        have hcall := Ih.out f.parts[k] ks[k] S w (by omega) hpk (by have := part_text_le hmem; omega)
        have Hcall := Lib.hid hcall
        have hrk2 := Hrk.out _ hmem
        have hsnoc : (f.parts.take (k + 1)).foldl (fun m p => max m p.rank) 0 = max ((f.parts.take k).foldl (fun m p => max m p.rank) 0) f.parts[k].rank := by
          rw [List.take_succ_eq_append_getElem hkf, List.foldl_append]; rfl
        have Hsnoc := Lib.hid hsnoc
        clear hcell hpk hmem hsz hcall hsnoc
        go_wp2_with (go_at_call 41; refine (Hcall.out).mono ?_; rintro e w' ⟨rfl, rfl⟩)
        go_round
        case rel => exact ⟨k + 1, by omega, by go_num, by rw [Hsnoc.out]; congr 1; first | (split <;> omega) | omega⟩
        case measure => simp [intOf]; omega
      · have hk2 : k = ks.length := by omega
        have htk : f.parts.take k = f.parts := List.take_of_length_le (by rw [hk2, Hkl.out]; exact Nat.le_refl _)
        have Htk := Lib.hid htk
        clear htk hk2
        cases hco : isCoB f.op with
        | true =>
          have hadd : rankAdd f.op = f.op.toNat - 48 := by simp [rankAdd, hco]
          have hop : 50 ≤ f.op.toNat ∧ f.op.toNat ≤ 52 := by
            simp only [isCoB, Bool.or_eq_true, beq_iff_eq] at hco
            rcases hco with (h | h) | h <;> rw [h] <;> decide
          obtain ⟨hop1, hop2⟩ : 50 ≤ (f.op.toNat : Int) ∧ (f.op.toNat : Int) ≤ 52 := by omega
          have Hadd := Lib.hid hadd
          have Hco := Lib.hid hco
          clear hadd hco hop
          go_wp2_with (first | (go_at_call 75; refine (isCounting_at f.op _ Hco.out _ _ hc0).mono ?_; rintro e w' ⟨rfl, rfl⟩))
          go_ret
          refine ⟨ret_int ?_, rfl⟩
          rw [Hfin.out, Hadd.out, Htk.out]
          omega
        | false =>
          cases hqu : isQuB f.op with
          | true =>
            have hadd : rankAdd f.op = 1 := by simp [rankAdd, hco, hqu]
            have Hadd := Lib.hid hadd
            have Hco := Lib.hid hco
            have Hqu := Lib.hid hqu
            clear hadd hco hqu
            go_wp2_with (first | (go_at_call 75; refine (isCounting_at f.op _ Hco.out _ _ hc0).mono ?_; rintro e w' ⟨rfl, rfl⟩) | (go_at_call 76; refine (isQuantifier_at f.op _ Hqu.out _ _ hc0).mono ?_; rintro e w' ⟨rfl, rfl⟩))
            go_ret
            refine ⟨ret_int ?_, rfl⟩
            rw [Hfin.out, Hadd.out, Htk.out]
            omega
          | false =>
            have hadd : rankAdd f.op = 0 := by simp [rankAdd, hco, hqu]
            have Hadd := Lib.hid hadd
            have Hco := Lib.hid hco
            have Hqu := Lib.hid hqu
            clear hadd hco hqu
            go_wp2_with (first | (go_at_call 75; refine (isCounting_at f.op _ Hco.out _ _ hc0).mono ?_; rintro e w' ⟨rfl, rfl⟩) | (go_at_call 76; refine (isQuantifier_at f.op _ Hqu.out _ _ hc0).mono ?_; rintro e w' ⟨rfl, rfl⟩))
            go_ret
            refine ⟨ret_int ?_, rfl⟩
            rw [Hfin.out, Hadd.out, Htk.out]
            omega

/-- what a walk over the parts is told -/
def AnyPost (f : Fm) (e : Ending) : Prop := (f.parts.any Fm.counts = false ∧ e = .returned (.int .i64 (-1))) ∨ (f.parts.any Fm.counts = true ∧ ∃ k : Nat, k ≤ 2 ∧ e = .returned (.int .i64 k))

/-- a bit as the walk reckons it -/
theorem shr_bit (m k : Nat) (hm : m < 16) (hk : k < 4) : (bits .and .i64 ((m : Int) / 2 ^ k) 1 == 1) = m.testBit k := by
  have h : ∀ (m : Fin 16) (k : Fin 4), (bits .and .i64 ((m.val : Int) / 2 ^ k.val) 1 == 1) = m.val.testBit k.val := by decide +kernel
  exact h ⟨m, hm⟩ ⟨k, hk⟩

theorem abcd_at (k : Nat) (hk : k < 4) : (ByteArray.mk #[97, 98, 99, 100]).extract k (k + 1) = bs [UInt8.ofNat (97 + k)] := by
  apply eq_bs
  rw [Lib.extract_data]
  match k, hk with
  | 0, _ => rfl
  | 1, _ => rfl
  | 2, _ => rfl
  | 3, _ => rfl

set_option maxHeartbeats 400000 in
theorem varsText_calls (m : Nat) (hm : m < 16) (w : World) :
    Calls Tryd.prog 42 #[.int .i64 m] w fun e w' => e = .returned (.string (bs (varsL m 4))) ∧ w = w' := by
  go_enter Tryd.func42, Tryd.ntmps42
  go_wp2_with fail
  go_loop [3, 5] (fun o i => ∃ k : Nat, k ≤ 4 ∧ i = .int .i64 k ∧ o = .string (bs (varsL m k))) (fun _ i => 4 - (intOf i).toNat)
  case atStart => exact ⟨0, by omega, rfl, rfl⟩
  case round =>
    obtain ⟨k, hk, rfl, rfl⟩ := hrel
    have hsz : (bs (varsL m k)).size ≤ 4 := by rw [bs_size]; have := varsL_len m k; omega
    by_cases hlt : k < 4
    · have hbit := shr_bit m k hm hlt
      cases hb : m.testBit k with
      | true =>
        rw [hb] at hbit
        have Hb := Lib.hid hb
        clear hb
        go_wp2_with fail
        go_round
        case rel => exact ⟨k + 1, by omega, by go_num, str_eq (by rw [varsL_yes Hb.out, abcd_at k hlt, append_bs]; rfl)⟩
        case measure => simp [intOf]; omega
      | false =>
        rw [hb] at hbit
        have Hb := Lib.hid hb
        clear hb
        go_wp2_with fail
        go_round
        case rel => exact ⟨k + 1, by omega, by go_num, str_eq (by rw [varsL_no Hb.out])⟩
        case measure => simp [intOf]; omega
    · obtain rfl : k = 4 := by omega
      go_wp2_with fail
      go_ret
      exact ⟨rfl, rfl⟩

end Go.Proofs.YteonanaihklgmaaDoor

namespace Go.Proofs.YteonanaihklgmaaDoor
open Go.RowKit
open Pl

theorem findB_quant (b : UInt8) : decide (0 ≤ findB b [65, 83, 50, 51, 52]) = isQuB b := by
  have h := findB_nonneg (c := b) (l := [65, 83, 50, 51, 52])
  rw [Bool.eq_iff_iff, decide_eq_true_iff, h]
  simp [isQuB, or_assoc]

theorem l2Quant_calls (b : UInt8) (r : Bool) (hr : isQuB b = r) (w : World) :
    Calls Tryd.prog 102 #[.int .u8 b.toNat] w fun e w' => e = .returned (.bool r) ∧ w = w' := by
  have Hr := Lib.hid hr
  clear hr
  go_enter Tryd.func102, Tryd.ntmps102
  go_wp2_with (go_at_call 79; refine (l15Find_calls _ b _ (by decide)).mono ?_; rintro e w' ⟨rfl, rfl⟩)
  go_ret
  exact ⟨ret_bool (by rw [← Hr.out]; exact findB_quant b), rfl⟩

/-- a formula at an index -/
theorem at_op {s : ByteArray} {k : Nat} {f : Fm} {r : List UInt8} (h : s.data.toList.drop k = f.text ++ r) :
    ∃ hk : k < s.size, s[k] = f.op ∧ k + f.text.length ≤ s.size := by
  have h1 := congrArg List.length h
  rw [List.length_drop, List.length_append, ← Lib.size_eq] at h1
  have hp := f.text_pos
  have hk : k < s.size := by omega
  refine ⟨hk, ?_, by omega⟩
  rw [drop_at hk, Fm.text_eq] at h
  simp only [List.cons_append, List.cons.injEq] at h
  exact h.1

theorem at_two {l : List UInt8} {k : Nat} {b : UInt8} {p q : Fm} {r : List UInt8} (h : l.drop k = b :: (p.text ++ q.text) ++ r) :
    l.drop (k + 1) = p.text ++ (q.text ++ r) ∧ l.drop (k + 1 + p.text.length) = q.text ++ r := by
  have h1 : l.drop (k + 1) = p.text ++ (q.text ++ r) := drop_add_of (p := [b]) (by simpa using h)
  exact ⟨h1, drop_add_of h1⟩

theorem at_one {l : List UInt8} {k : Nat} {b : UInt8} {p : Fm} {r : List UInt8} (h : l.drop k = b :: p.text ++ r) : l.drop (k + 1) = p.text ++ r := drop_add_of (p := [b]) (by simpa using h)
theorem at_qu {l : List UInt8} {k : Nat} {b c : UInt8} {p : Fm} {r : List UInt8} (h : l.drop k = b :: c :: p.text ++ r) : l.drop (k + 2) = p.text ++ r := drop_add_of (p := [b, c]) (by simpa using h)

/-- -1 for a text that is no formula, else a number -/
noncomputable def numV (l : List UInt8) (g : Fm → Nat) : Int := match parse l with | some (f, []) => if l.length ≤ 4000 then (g f : Int) else -1 | _ => -1

theorem numV_yes {l : List UInt8} {f : Fm} (g : Fm → Nat) (h : l = f.text) (hl : l.length ≤ 4000) : numV l g = g f := by
  unfold numV
  rw [parse_some.2 (show l = f.text ++ [] by rw [h]; simp)]
  simp [hl]

theorem numV_no {l : List UInt8} (g : Fm → Nat) (h : ¬ IsFm l) : numV l g = -1 := by
  unfold numV
  cases hp : parse l with
  | none => rfl
  | some x =>
    obtain ⟨f, r⟩ := x
    cases r with
    | nil =>
      have := parse_some.1 hp
      by_cases hl : l.length ≤ 4000
      · exact absurd ⟨hl, f, by simpa using this⟩ h
      · simp [hl]
    | cons a r => rfl

/-- a formula, or not -/
theorem fm_cases (s : ByteArray) : (fmB s.data.toList = false ∧ ¬ IsFm s.data.toList) ∨ ∃ f : Fm, fmB s.data.toList = true ∧ s.data.toList = f.text ∧ s.size ≤ 4000 ∧ f.text.length ≤ 4000 := by
  by_cases h : IsFm s.data.toList
  · obtain ⟨hl, f, hf⟩ := h
    exact .inr ⟨f, fmB_true.2 ⟨hl, f, hf⟩, hf, by rw [Lib.size_eq]; exact hl, by rw [← hf]; exact hl⟩
  · exact .inl ⟨fmB_false.2 h, h⟩

theorem RankOf_impl (s : ByteArray) (w : World) :
    Calls Tryd.prog 14 #[.string s] w fun e w' => e = .returned (.int .i64 (numV s.data.toList Fm.rank)) ∧ Below w.heap.size w w' := by
  rcases fm_cases s with ⟨hb, hno⟩ | ⟨f, hb, hf, hs4, hl4⟩
  · have hv := numV_no Fm.rank hno
    rw [hv]
    have Hno := Lib.hid hno
    clear hb hv hno
    go_enter Tryd.func14, Tryd.ntmps14
    go_wp2_with (go_at_call 33; refine (parseFormula_no s w Hno.out).mono ?_; rintro e w1 ⟨rfl, hb1⟩)
    go_ret
    exact ⟨rfl, hb1⟩
  · have hv := numV_yes Fm.rank hf (by rw [hf]; exact hl4)
    rw [hv]
    have Hf := Lib.hid hf
    clear hb hv hf
    go_enter Tryd.func14, Tryd.ntmps14
    go_wp2_with (first | (go_at_call 33; refine (parseFormula_yes s f w hs4 Hf.out).mono ?_; rintro e w1 ⟨b, rfl, htr, hb1⟩; have Htr := Lib.hid htr; clear htr) | (go_at_call 41; refine (rank_calls f.size f b _ _ (Nat.le_refl _) Htr.out hl4).mono ?_; rintro e w' ⟨rfl, rfl⟩))
    go_ret
    exact ⟨rfl, hb1⟩


end Go.Proofs.YteonanaihklgmaaDoor

namespace Go.Proofs.YteonanaihklgmaaDoor
open Go.RowKit
open Pl
set_option linter.unusedSimpArgs false

theorem varI_of {s : ByteArray} {k : Nat} {v : Fin 4} {r : List UInt8} (h : s.data.toList.drop k = vb v :: r) : varI s.data.toList k = v.val := by
  have h1 : s.data.toList[k]? = some (vb v) := by
    have h2 : (s.data.toList.drop k)[0]? = some (vb v) := by rw [h]; rfl
    simpa using h2
  unfold varI
  rw [h1]
  simp [varOf_vb]

theorem l2Var_of (s : ByteArray) (k : Nat) (v : Fin 4) (r : List UInt8) (m : Int) (w : World) (hs : s.size ≤ 4000) (h : s.data.toList.drop k = vb v :: r) (hm : m = k) :
    Calls Tryd.prog 93 #[.string s, .int .i64 m] w fun e w' => e = .returned (.int .i64 v.val) ∧ w = w' := by
  subst hm
  have hk : k < s.size := by
    have := congrArg List.length h
    rw [List.length_drop, ← Lib.size_eq] at this
    simp at this; omega
  rw [← varI_of h]
  exact l2Var_at s k w (by unfold maxLen; omega) (by omega) (by unfold maxLen; omega)

theorem one_bit (v : Fin 4) : wrap64 (2 ^ v.val) = ((1 <<< v.val : Nat) : Int) := by revert v; decide +kernel

set_option maxHeartbeats 1000000 in
set_option maxRecDepth 100000 in
theorem l2Free_calls (n : Nat) : ∀ (f : Fm) (s : ByteArray) (k : Nat) (r : List UInt8) (m : Int) (w : World), f.size ≤ n → s.data.toList.drop k = f.text ++ r → s.size ≤ 4000 → m = k →
    Calls Tryd.prog 82 #[.string s, .int .i64 m] w fun e w' => e = .returned (.tuple #[.int .i64 f.freeBits, .int .i64 (k + f.text.length : Nat)]) ∧ w = w' := by
  induction n with
  | zero => intro f s k r m w hn; cases f <;> simp [Fm.size] at hn
  | succ n ih =>
    intro f s k r m w hn hd hs hm
    subst hm
    obtain ⟨hk1, hop, hle⟩ := at_op hd
    have hk := hk1
    have Ih := Lib.hid ih
    clear ih
    cases f with
    | tru =>
      have hk := hk1
      have hb : (s[k].toNat : Int) = 116 := by rw [hop]; rfl
      clear hop hd
      go_enter Tryd.func82, Tryd.ntmps82
      go_wp2_with fail
      go_ret2
      exact ⟨rfl, rfl⟩
    | fls =>
      have hk := hk1
      have hb : (s[k].toNat : Int) = 102 := by rw [hop]; rfl
      clear hop hd
      go_enter Tryd.func82, Tryd.ntmps82
      go_wp2_with fail
      go_ret2
      exact ⟨rfl, rfl⟩
    | pr v =>
      have hb : (s[k].toNat : Int) = 80 := by rw [hop]; rfl
      have h1 := l2Var_of s (k + 1) v r ((k : Int) + 1) w hs (drop_add_of (p := [80]) (by simpa [Fm.text] using hd)) (by omega)
      have H1 := Lib.hid h1
      have hv3 : (v.val : Int) < 4 := by omega
      simp only [Fm.text, List.length_cons, List.length_nil] at hle
      clear hop hd h1
      go_enter Tryd.func82, Tryd.ntmps82
      go_wp2_with (go_at_call 93; refine (H1.out).mono ?_; rintro e w' ⟨rfl, rfl⟩)
      go_ret2
      exact ⟨ret_pair (by show Value.int .i64 _ = Value.int .i64 _; congr 1 <;> exact one_bit v) (by show Value.int .i64 _ = Value.int .i64 _; congr 1 <;> simp [Fm.text] <;> omega), rfl⟩
    | eq v u =>
      have hb : (s[k].toNat : Int) = 61 := by rw [hop]; rfl
      have h1 := l2Var_of s (k + 1) v (vb u :: r) ((k : Int) + 1) w hs (drop_add_of (p := [61]) (by simpa [Fm.text] using hd)) (by omega)
      have h2 := l2Var_of s (k + 2) u r ((k : Int) + 2) w hs (drop_add_of (p := [61, vb v]) (by simpa [Fm.text] using hd)) (by omega)
      have H1 := Lib.hid h1
      have H2 := Lib.hid h2
      have hv3 : (v.val : Int) < 4 := by omega
      have hu3 : (u.val : Int) < 4 := by omega
      simp only [Fm.text, List.length_cons, List.length_nil] at hle
      clear hop hd h1 h2
      go_enter Tryd.func82, Tryd.ntmps82
      go_wp2_with (first | (go_at_call 93; ((with_reducible refine (H1.out).mono ?_); rintro e w' ⟨rfl, rfl⟩)) | (go_at_call 93; ((with_reducible refine (H2.out).mono ?_); rintro e w' ⟨rfl, rfl⟩)))
      go_ret2
      exact ⟨ret_pair (by show Value.int .i64 _ = Value.int .i64 _; congr 1 <;> (rw [one_bit v]; exact or_bit _ u (bit_lt v))) (by show Value.int .i64 _ = Value.int .i64 _; congr 1 <;> simp [Fm.text] <;> omega), rfl⟩
    | rel v u =>
      have hb : (s[k].toNat : Int) = 69 := by rw [hop]; rfl
      have h1 := l2Var_of s (k + 1) v (vb u :: r) ((k : Int) + 1) w hs (drop_add_of (p := [69]) (by simpa [Fm.text] using hd)) (by omega)
      have h2 := l2Var_of s (k + 2) u r ((k : Int) + 2) w hs (drop_add_of (p := [69, vb v]) (by simpa [Fm.text] using hd)) (by omega)
      have H1 := Lib.hid h1
      have H2 := Lib.hid h2
      have hv3 : (v.val : Int) < 4 := by omega
      have hu3 : (u.val : Int) < 4 := by omega
      simp only [Fm.text, List.length_cons, List.length_nil] at hle
      clear hop hd h1 h2
      go_enter Tryd.func82, Tryd.ntmps82
      go_wp2_with (first | (go_at_call 93; ((with_reducible refine (H1.out).mono ?_); rintro e w' ⟨rfl, rfl⟩)) | (go_at_call 93; ((with_reducible refine (H2.out).mono ?_); rintro e w' ⟨rfl, rfl⟩)))
      go_ret2
      exact ⟨ret_pair (by show Value.int .i64 _ = Value.int .i64 _; congr 1 <;> (rw [one_bit v]; exact or_bit _ u (bit_lt v))) (by show Value.int .i64 _ = Value.int .i64 _; congr 1 <;> simp [Fm.text] <;> omega), rfl⟩
    | neg p =>
      have hb : (s[k].toNat : Int) = 33 := by rw [hop]; rfl
      simp only [Fm.text, List.length_cons] at hle
      have hcall := Ih.out p s (k + 1) r ((k : Int) + 1) w (by simp [Fm.size] at hn; omega) (at_one hd) hs (by omega)
      have Hcall := Lib.hid hcall
      clear hop hcall hd
      go_enter Tryd.func82, Tryd.ntmps82
      go_wp2_with (go_at_call 82; refine (Hcall.out).mono ?_; rintro e w' ⟨rfl, rfl⟩)
      go_ret2
      exact ⟨ret_pair (by show Value.int .i64 _ = Value.int .i64 _; congr 1) (by show Value.int .i64 _ = Value.int .i64 _; congr 1 <;> simp [Fm.text] <;> omega), rfl⟩
    | con p q =>
      have hb : (s[k].toNat : Int) = 38 := by rw [hop]; rfl
      simp only [Fm.text, List.length_cons, List.length_append] at hle
      obtain ⟨hd1, hd2⟩ := at_two hd
      have hcall := Ih.out p s (k + 1) _ ((k : Int) + 1) w (by simp [Fm.size] at hn; omega) hd1 hs (by omega)
      have hcall2 := Ih.out q s (k + 1 + p.text.length) _ ((k + 1 + p.text.length : Nat) : Int) w (by simp [Fm.size] at hn; omega) hd2 hs rfl
      have hq0 : ∀ w, Calls Tryd.prog 102 #[.int .u8 38] w fun e w' => e = .returned (.bool false) ∧ w = w' := fun w => l2Quant_calls 38 false rfl w
      have Hcall := Lib.hid hcall
      have Hcall2 := Lib.hid hcall2
      have Hq0 := Lib.hid hq0
      clear hop hcall hcall2 hd hd1 hd2 hq0
      go_enter Tryd.func82, Tryd.ntmps82
      go_upto_region 13 with (first | (go_at_call 102; refine (Hq0.out _).mono ?_; rintro e w' ⟨rfl, rfl⟩) | (go_at_call 82; refine (Hcall.out).mono ?_; rintro e w' ⟨rfl, rfl⟩))
      go_wp2_with (go_at_call 82; refine (Hcall2.out).mono ?_; rintro e w' ⟨rfl, rfl⟩)
      go_ret2
      exact ⟨ret_pair (by show Value.int .i64 _ = Value.int .i64 _; congr 1 <;> exact or_nat _ _ (freeBits_lt p) (freeBits_lt q)) (by show Value.int .i64 _ = Value.int .i64 _; congr 1 <;> simp [Fm.text] <;> omega), rfl⟩
    | dis p q =>
      have hb : (s[k].toNat : Int) = 124 := by rw [hop]; rfl
      simp only [Fm.text, List.length_cons, List.length_append] at hle
      obtain ⟨hd1, hd2⟩ := at_two hd
      have hcall := Ih.out p s (k + 1) _ ((k : Int) + 1) w (by simp [Fm.size] at hn; omega) hd1 hs (by omega)
      have hcall2 := Ih.out q s (k + 1 + p.text.length) _ ((k + 1 + p.text.length : Nat) : Int) w (by simp [Fm.size] at hn; omega) hd2 hs rfl
      have hq0 : ∀ w, Calls Tryd.prog 102 #[.int .u8 124] w fun e w' => e = .returned (.bool false) ∧ w = w' := fun w => l2Quant_calls 124 false rfl w
      have Hcall := Lib.hid hcall
      have Hcall2 := Lib.hid hcall2
      have Hq0 := Lib.hid hq0
      clear hop hcall hcall2 hd hd1 hd2 hq0
      go_enter Tryd.func82, Tryd.ntmps82
      go_upto_region 13 with (first | (go_at_call 102; refine (Hq0.out _).mono ?_; rintro e w' ⟨rfl, rfl⟩) | (go_at_call 82; refine (Hcall.out).mono ?_; rintro e w' ⟨rfl, rfl⟩))
      go_wp2_with (go_at_call 82; refine (Hcall2.out).mono ?_; rintro e w' ⟨rfl, rfl⟩)
      go_ret2
      exact ⟨ret_pair (by show Value.int .i64 _ = Value.int .i64 _; congr 1 <;> exact or_nat _ _ (freeBits_lt p) (freeBits_lt q)) (by show Value.int .i64 _ = Value.int .i64 _; congr 1 <;> simp [Fm.text] <;> omega), rfl⟩
    | qu q v p =>
      have hd1 := at_qu hd
      have hdv : s.data.toList.drop (k + 1) = vb v :: (p.text ++ r) := drop_add_of (p := [q.b]) (by simpa [Fm.text] using hd)
      have h1 := l2Var_of s (k + 1) v _ ((k : Int) + 1) w hs hdv (by omega)
      simp only [Fm.text, List.length_cons] at hle
      have hcall := Ih.out p s (k + 2) _ ((k : Int) + 2) w (by simp [Fm.size] at hn; omega) hd1 hs (by omega)
      have hv3 : (v.val : Int) < 4 := by omega
      have H1 := Lib.hid h1
      have Hcall := Lib.hid hcall
      clear hcall hd hd1 hdv h1
      cases q with
      | A =>
        have hb : (s[k].toNat : Int) = 65 := by rw [hop]; rfl
        have hq0 : ∀ w, Calls Tryd.prog 102 #[.int .u8 65] w fun e w' => e = .returned (.bool true) ∧ w = w' := fun w => l2Quant_calls 65 true rfl w
        have Hq0 := Lib.hid hq0
        clear hop hq0
        go_enter Tryd.func82, Tryd.ntmps82
        go_wp2_with (first | (go_at_call 102; refine (Hq0.out _).mono ?_; rintro e w' ⟨rfl, rfl⟩) | (go_at_call 82; refine (Hcall.out).mono ?_; rintro e w' ⟨rfl, rfl⟩) | (go_at_call 93; refine (H1.out).mono ?_; rintro e w' ⟨rfl, rfl⟩))
        go_ret2
        exact ⟨ret_pair (by show Value.int .i64 _ = Value.int .i64 _; congr 1 <;> exact andNot_bit _ v (freeBits_lt p)) (by show Value.int .i64 _ = Value.int .i64 _; congr 1 <;> simp [Fm.text] <;> omega), rfl⟩
      | S =>
        have hb : (s[k].toNat : Int) = 83 := by rw [hop]; rfl
        have hq0 : ∀ w, Calls Tryd.prog 102 #[.int .u8 83] w fun e w' => e = .returned (.bool true) ∧ w = w' := fun w => l2Quant_calls 83 true rfl w
        have Hq0 := Lib.hid hq0
        clear hop hq0
        go_enter Tryd.func82, Tryd.ntmps82
        go_wp2_with (first | (go_at_call 102; refine (Hq0.out _).mono ?_; rintro e w' ⟨rfl, rfl⟩) | (go_at_call 82; refine (Hcall.out).mono ?_; rintro e w' ⟨rfl, rfl⟩) | (go_at_call 93; refine (H1.out).mono ?_; rintro e w' ⟨rfl, rfl⟩))
        go_ret2
        exact ⟨ret_pair (by show Value.int .i64 _ = Value.int .i64 _; congr 1 <;> exact andNot_bit _ v (freeBits_lt p)) (by show Value.int .i64 _ = Value.int .i64 _; congr 1 <;> simp [Fm.text] <;> omega), rfl⟩
      | c2 =>
        have hb : (s[k].toNat : Int) = 50 := by rw [hop]; rfl
        have hq0 : ∀ w, Calls Tryd.prog 102 #[.int .u8 50] w fun e w' => e = .returned (.bool true) ∧ w = w' := fun w => l2Quant_calls 50 true rfl w
        have Hq0 := Lib.hid hq0
        clear hop hq0
        go_enter Tryd.func82, Tryd.ntmps82
        go_wp2_with (first | (go_at_call 102; refine (Hq0.out _).mono ?_; rintro e w' ⟨rfl, rfl⟩) | (go_at_call 82; refine (Hcall.out).mono ?_; rintro e w' ⟨rfl, rfl⟩) | (go_at_call 93; refine (H1.out).mono ?_; rintro e w' ⟨rfl, rfl⟩))
        go_ret2
        exact ⟨ret_pair (by show Value.int .i64 _ = Value.int .i64 _; congr 1 <;> exact andNot_bit _ v (freeBits_lt p)) (by show Value.int .i64 _ = Value.int .i64 _; congr 1 <;> simp [Fm.text] <;> omega), rfl⟩
      | c3 =>
        have hb : (s[k].toNat : Int) = 51 := by rw [hop]; rfl
        have hq0 : ∀ w, Calls Tryd.prog 102 #[.int .u8 51] w fun e w' => e = .returned (.bool true) ∧ w = w' := fun w => l2Quant_calls 51 true rfl w
        have Hq0 := Lib.hid hq0
        clear hop hq0
        go_enter Tryd.func82, Tryd.ntmps82
        go_wp2_with (first | (go_at_call 102; refine (Hq0.out _).mono ?_; rintro e w' ⟨rfl, rfl⟩) | (go_at_call 82; refine (Hcall.out).mono ?_; rintro e w' ⟨rfl, rfl⟩) | (go_at_call 93; refine (H1.out).mono ?_; rintro e w' ⟨rfl, rfl⟩))
        go_ret2
        exact ⟨ret_pair (by show Value.int .i64 _ = Value.int .i64 _; congr 1 <;> exact andNot_bit _ v (freeBits_lt p)) (by show Value.int .i64 _ = Value.int .i64 _; congr 1 <;> simp [Fm.text] <;> omega), rfl⟩
      | c4 =>
        have hb : (s[k].toNat : Int) = 52 := by rw [hop]; rfl
        have hq0 : ∀ w, Calls Tryd.prog 102 #[.int .u8 52] w fun e w' => e = .returned (.bool true) ∧ w = w' := fun w => l2Quant_calls 52 true rfl w
        have Hq0 := Lib.hid hq0
        clear hop hq0
        go_enter Tryd.func82, Tryd.ntmps82
        go_wp2_with (first | (go_at_call 102; refine (Hq0.out _).mono ?_; rintro e w' ⟨rfl, rfl⟩) | (go_at_call 82; refine (Hcall.out).mono ?_; rintro e w' ⟨rfl, rfl⟩) | (go_at_call 93; refine (H1.out).mono ?_; rintro e w' ⟨rfl, rfl⟩))
        go_ret2
        exact ⟨ret_pair (by show Value.int .i64 _ = Value.int .i64 _; congr 1 <;> exact andNot_bit _ v (freeBits_lt p)) (by show Value.int .i64 _ = Value.int .i64 _; congr 1 <;> simp [Fm.text] <;> omega), rfl⟩

/-- the free variables' text, for a formula -/
noncomputable def txtV (l : List UInt8) (g : Fm → List UInt8) : ByteArray := match parse l with | some (f, []) => if l.length ≤ 4000 then bs (g f) else bs [] | _ => bs []

theorem txtV_yes {l : List UInt8} {f : Fm} (g : Fm → List UInt8) (h : l = f.text) (hl : l.length ≤ 4000) : txtV l g = bs (g f) := by
  unfold txtV
  rw [parse_some.2 (show l = f.text ++ [] by rw [h]; simp)]
  simp [hl]

theorem txtV_no {l : List UInt8} (g : Fm → List UInt8) (h : ¬ IsFm l) : txtV l g = bs [] := by
  unfold txtV
  cases hp : parse l with
  | none => rfl
  | some x =>
    obtain ⟨f, r⟩ := x
    cases r with
    | nil =>
      have := parse_some.1 hp
      by_cases hl : l.length ≤ 4000
      · exact absurd ⟨hl, f, by simpa using this⟩ h
      · simp [hl]
    | cons a r => rfl

def freeT (f : Fm) : List UInt8 := varsL f.freeBits 4

set_option maxHeartbeats 400000 in
theorem FreeVars_spec (s : ByteArray) (w : World) (hs2 : s.size ≤ maxLen) :
    Calls Tryd.prog 78 #[.string s] w fun e w' => e = .returned (.string (txtV s.data.toList freeT)) ∧ w = w' := by
  rcases fm_cases s with ⟨hb, hno⟩ | ⟨f, hb, hf, hs4, hl4⟩
  · rw [txtV_no freeT hno]
    have Hb := Lib.hid hb
    clear hb hno
    go_enter Tryd.func78, Tryd.ntmps78
    go_wp2_with (go_at_call 36; refine (FormulaValid_spec s _ hs2).mono ?_; rintro e w' ⟨rfl, rfl⟩; rw [Hb.out])
    go_ret
    exact ⟨rfl, rfl⟩
  · rw [txtV_yes freeT hf (by rw [hf]; exact hl4)]
    have hcall := l2Free_calls f.size f s 0 [] 0 w (Nat.le_refl _) (by simpa using hf) hs4 rfl
    have Hb := Lib.hid hb
    have Hcall := Lib.hid hcall
    have hm := freeBits_lt f
    clear hb hf hcall
    go_enter Tryd.func78, Tryd.ntmps78
    go_wp2_with (first | (go_at_call 36; refine (FormulaValid_spec s _ hs2).mono ?_; rintro e w' ⟨rfl, rfl⟩; rw [Hb.out]) | (go_at_call 82; refine (Hcall.out).mono ?_; rintro e w' ⟨rfl, rfl⟩))
    go_loop [3, 6] (fun o i => ∃ k : Nat, k ≤ 4 ∧ i = .int .i64 k ∧ o = .string (bs (varsL f.freeBits k))) (fun _ i => 4 - (intOf i).toNat)
    case atStart => exact ⟨0, by omega, rfl, rfl⟩
    case round =>
      obtain ⟨k, hk, rfl, rfl⟩ := hrel
      have hsz : (bs (varsL f.freeBits k)).size ≤ 4 := by rw [bs_size]; have := varsL_len f.freeBits k; omega
      by_cases hlt : k < 4
      · have hbit := shr_bit f.freeBits k hm hlt
        cases hb : f.freeBits.testBit k with
        | true =>
          rw [hb] at hbit
          have Hb2 := Lib.hid hb
          clear hb
          go_wp2_with fail
          go_round
          case rel => exact ⟨k + 1, by omega, by go_num, str_eq (by rw [varsL_yes Hb2.out, abcd_at k hlt, append_bs]; rfl)⟩
          case measure => simp [intOf]; omega
        | false =>
          rw [hb] at hbit
          have Hb2 := Lib.hid hb
          clear hb
          go_wp2_with fail
          go_round
          case rel => exact ⟨k + 1, by omega, by go_num, str_eq (by rw [varsL_no Hb2.out])⟩
          case measure => simp [intOf]; omega
      · obtain rfl : k = 4 := by omega
        go_wp2_with fail
        go_ret
        exact ⟨rfl, rfl⟩

theorem FreeVars_impl (s : ByteArray) (w : World) :
    Calls Tryd.prog 15 #[.string s] w fun e w' => e = .returned (.string (txtV s.data.toList freeT)) ∧ Below w.heap.size w w' := by
  rcases fm_cases s with ⟨hb, hno⟩ | ⟨f, hb, hf, hs4, hl4⟩
  · rw [txtV_no freeT hno]
    have Hno := Lib.hid hno
    clear hb hno
    go_enter Tryd.func15, Tryd.ntmps15
    go_wp2_with (go_at_call 33; refine (parseFormula_no s w Hno.out).mono ?_; rintro e w1 ⟨rfl, hb1⟩)
    go_ret
    exact ⟨rfl, hb1⟩
  · rw [txtV_yes freeT hf (by rw [hf]; exact hl4)]
    have Hf := Lib.hid hf
    clear hb hf
    go_enter Tryd.func15, Tryd.ntmps15
    go_wp2_with (first | (go_at_call 33; refine (parseFormula_yes s f w hs4 Hf.out).mono ?_; rintro e w1 ⟨b, rfl, htr, hb1⟩; obtain ⟨_, _, _, _, _, _, hc3, _⟩ := node_cells htr; clear htr) | (go_at_call 42; refine (varsText_calls _ (freeBits_lt f) _).mono ?_; rintro e w' ⟨rfl, rfl⟩))
    go_ret
    exact ⟨rfl, hb1⟩

end Go.Proofs.YteonanaihklgmaaDoor

namespace Go.Proofs.YteonanaihklgmaaDoor
open Go.RowKit
open Pl
set_option linter.unusedSimpArgs false
set_option linter.unusedVariables false

attribute [local go_sem ↓] Go.wp_at_zero Go.wp_at_succ

theorem txt_small (l : List UInt8) : (txtV l freeT).size ≤ 4 := by
  unfold txtV
  split
  · split
    · rw [bs_size]; exact varsL_len _ _
    · rw [bs_size]; simp
  · rw [bs_size]; simp

set_option maxHeartbeats 8000000 in
set_option maxRecDepth 100000 in
theorem l3Small_calls (rb : Nat) (A : Option Addr) (n cap p : Nat) (vs : ByteArray) (hv2 : 2 ≤ vs.size) (hv4 : vs.size ≤ 4) (w : World) (h : Rd w rb A n cap p) (hp : p ≤ 100000) :
    Calls Tryd.prog 43 #[.pointer (some ⟨rb, 0, none⟩), .string vs] w fun e w' => (∃ (i : Int) (s r t : ByteArray) (p' : Nat), e = .returned (.tuple #[stV i s r, .string t]) ∧ s.size ≤ 100 ∧ r.size ≤ 100 ∧ t.size ≤ 72 ∧ p' ≤ p + 800 ∧ Rd w' rb A n cap p') ∧ w.grownBy w' (some rb) := by
  have Hpk := Lib.hid (show ∀ (k : Int) (q : Nat) (V : World), k ≤ 1000 → q ≤ 1000000000000 → Rd V rb A n cap q → Calls Tryd.prog 44 #[.pointer (some ⟨rb, 0, none⟩), .int .i64 k] V fun e w' => PickP k e ∧ Rd w' rb A n cap (q + 1) ∧ V.grownBy w' (some rb) from fun k q V hk hq hr => pick_calls rb A n cap q k V hr (by omega) (by omega))
  have D0 := Lib.hid ((Dw.new h).alloc (.cells #[.int .i64 0, .string (bs []), .string (bs [])] 27))
  have X0 := Lib.hid (Bx.new w 27 #[.int .i64 0, .string (bs []), .string (bs [])])
  have hrl := h.box.lt
  clear h
  go_enter Tryd.func43, Tryd.ntmps43
  go_wp2_with fail
  refine (l1Open_calls rb A n cap p _ D0.out.rd (by omega)).mono ?_
  rintro e w1 ⟨⟨i, s, r, p1, rfl, _, hs, hr, hp1, hrd⟩, hg⟩
  have D1 := Lib.hid ((D0.out.step hrd hg).alloc (.cells #[.int .i64 i, .string s, .string r] 27))
  have X1 := Lib.hid ((X0.out.dw hg hrl).alloc (.cells #[.int .i64 i, .string s, .string r] 27))
  have Y1 := Lib.hid (Bx.new w1 27 #[.int .i64 i, .string s, .string r])
  have hws := (X0.out.dw hg hrl).lt
  have hrl1 : rb < w1.heap.size := by omega
  clear hrd hg
  go_wp2_with fail
  refine (Hpk.out 3 (p1) _ (by omega) (by omega) D1.out.rd).mono ?_
  rintro e w2 ⟨⟨m, rfl, m0, m1, _⟩, hr, hg⟩
  have D2 := Lib.hid (D1.out.step hr hg)
  have X2 := Lib.hid (X1.out.dw hg hrl)
  have Y2 := Lib.hid (Y1.out.dw hg hrl1)
  clear hr hg
  have m4 := m1 (by omega)
  clear m1
  go_wp2_with fail
  refine (Hpk.out 2 (p1 + 1) _ (by omega) (by omega) D2.out.rd).mono ?_
  rintro e w3 ⟨⟨b, rfl, b0, b1, _⟩, hr, hg⟩
  have D3 := Lib.hid (D2.out.step hr hg)
  have X3 := Lib.hid (X2.out.dw hg hrl)
  have Y3 := Lib.hid (Y2.out.dw hg hrl1)
  clear hr hg
  clear b1
  go_wp2_with fail
  refine (l2Draw_at rb A n cap (p1 + 1 + 1) vs (by omega) hv4 _ (1 + m) (by omega) (by omega) _ D3.out.rd (by omega)).mono ?_
  rintro e w4 ⟨⟨t, p4, rfl, t0, t1, hp4, hrd⟩, hg⟩
  have D4 := Lib.hid (D3.out.step hrd hg)
  have X4 := Lib.hid (X3.out.dw hg hrl)
  have Y4 := Lib.hid (Y3.out.dw hg hrl1)
  clear hrd hg
  go_wp2_with fail
  refine (FreeVars_spec t _ (by unfold maxLen; omega)).mono ?_
  rintro e w5 ⟨rfl, rfl⟩
  obtain ⟨V, hV⟩ : ∃ V, V = txtV t.data.toList freeT := ⟨_, rfl⟩
  have hVs : V.size ≤ 4 := by rw [hV]; exact txt_small _
  rw [← hV]
  clear hV
  go_wp2_with fail
  refine (Hpk.out 12 (p4) _ (by omega) (by omega) D4.out.rd).mono ?_
  rintro e w6 ⟨⟨x, rfl, x0, x1, _⟩, hr, hg⟩
  have D6 := Lib.hid (D4.out.step hr hg)
  have X6 := Lib.hid (X4.out.dw hg hrl)
  have Y6 := Lib.hid (Y4.out.dw hg hrl1)
  clear hr hg
  clear x1
  by_cases hx : 0 < x
  · go_wp2_with fail
    go_loopg [7, 9] (4 - vs.size) (fun c tv kv wr => ∃ (k : Nat) (t : ByteArray), k + c = 4 ∧ vs.size ≤ k ∧ kv = .int .i64 (k : Nat) ∧ tv = .string t ∧ 0 < t.size ∧ t.size ≤ 63 + 2 * k ∧ w6 = wr)
    case atStart => exact ⟨vs.size, t, by omega, Nat.le_refl _, rfl, rfl, t0, by omega, rfl⟩
    case round =>
      obtain ⟨k, t, hk, hvk, rfl, rfl, t0, t1, rfl⟩ := hrel
      by_cases hlt : k < 4
      · have hfc := fun W (c : UInt8) => l15Find_calls V c W (by unfold maxLen; omega)
        have Hfc := Lib.hid hfc
        clear hfc
        go_wp2_with fail
        refine (Hfc.out _ _).mono ?_
        rintro e w7 ⟨rfl, rfl⟩
        generalize findB _ _ = F
        by_cases hF : 0 ≤ F
        · go_wp2_with fail
          go_roundg (4 - k - 1)
          case rel => exact ⟨k + 1, _, by omega, by omega, by go_num, rfl, by simp only [ByteArray.size_append, ByteArray.size_extract]; omega, by simp only [ByteArray.size_append, ByteArray.size_extract]; have : (ByteArray.mk #[83]).size = 1 := rfl; omega, rfl⟩
          case measure => omega
        · go_wp2_with fail
          go_roundg (4 - k - 1)
          case rel => exact ⟨k + 1, t, by omega, by omega, by go_num, rfl, t0, by omega, rfl⟩
          case measure => omega
      · obtain rfl : k = 4 := by omega
        have hgk : gk = 0 := by omega
        subst hgk
        have D50 := Lib.hid D6.out.drew
        have X50 := Lib.hid (show Bx w6.drew w.heap.size 27 #[.int .i64 0, .string (bs []), .string (bs [])] from X6.out)
        have Y50 := Lib.hid (show Bx w6.drew w1.heap.size 27 #[.int .i64 i, .string s, .string r] from Y6.out)
        obtain ⟨m0, m1, m2⟩ := box_load Y50.out
        go_upto_region 10 with (fail)
        refine region_sched [(0, true), (1, true), (2, true), (3, false), (4, false), (5, true)] (fun w' : World => w'.cell? ⟨w1.heap.size, 0, none⟩ = some (.int .i64 i) ∧ w'.cell? ⟨w1.heap.size, 1, none⟩ = some (.string s) ∧ w'.cell? ⟨w1.heap.size, 2, none⟩ = some (.string r)) (by kernel_rfl) (by kernel_rfl) (by kernel_rfl) (by kernel_rfl) (fun _ _ _ _ h => h) ?_ (fun Q1 hQ1 => ?_)
        · exact ⟨m0, m1, m2⟩
        try simp only [List.append]
        refine sched_take' (v := .agg #[.int .i64 i, .string s, .string r]) (a' := ?_) rfl (by kernel_rfl) ?_ rfl ?_ ?_
        rotate_left 1
        · intro w hSw
          (try dsimp only at hSw)
          go_simp
          first | done | (obtain ⟨u0, u1, u2⟩ := hSw; simp [u0, u1, u2])
        · (try simp only [Act.put, List.setIfInBounds_toArray, List.set_cons_zero, List.set_cons_succ])
          try rfl
        refine sched_take' (v := ?_) (a' := ?_) rfl (by kernel_rfl) ?_ rfl ?_ ?_
        rotate_left 2
        · intro w hSw
          (try dsimp only at hSw)
          go_simp
          try with_reducible rfl
        · (try simp only [Act.put, List.setIfInBounds_toArray, List.set_cons_zero, List.set_cons_succ])
          try rfl
        refine sched_take' (v := ?_) (a' := ?_) rfl (by kernel_rfl) ?_ rfl ?_ ?_
        rotate_left 2
        · intro w hSw
          (try dsimp only at hSw)
          go_simp
          try with_reducible rfl
        · (try simp only [Act.put, List.setIfInBounds_toArray, List.set_cons_zero, List.set_cons_succ])
          try rfl
        refine sched_call rfl (by kernel_rfl) (fun K1 hK1 => ?_)
        go_simp
        refine (l2Bad_calls rb A n cap (p4 + 1) t (by omega) (by omega) _ D50.out.rd (by omega)).mono ?_
        rintro e w51 ⟨⟨tt, p51, rfl, tl, tp, hr⟩, hg⟩
        have D51 := Lib.hid (D50.out.step hr hg)
        have X51 := Lib.hid (X50.out.dw hg hrl)
        have Y51 := Lib.hid (Y50.out.dw hg hrl1)
        clear hr hg m0 m1 m2
        go_wp2_with fail
        refine hK1.out _ _ ?_ (sched_lay (a' := ?_) ?_ ?_)
        · exact box_load Y51.out
        rotate_left 1
        · (try simp only [Act.put, List.getElem_toArray, List.getElem_cons_succ, List.getElem_cons_zero, List.setIfInBounds_toArray, List.set_cons_zero, List.set_cons_succ])
          try rfl
        clear hK1 K1
        obtain ⟨c0, c1, c2⟩ := box_load X51.out
        have f0 := X51.out.free 0
        have f1 := X51.out.free 1
        have f2 := X51.out.free 2
        refine sched_call rfl (by kernel_rfl) (fun K1 hK1 => ?_)
        go_simp
        refine hK1.out _ _ ?_ (sched_lay (a' := ?_) ?_ ?_)
        · exact box_load (((Y51.out.far (p := ⟨w.heap.size, 0, none⟩) (by simp; omega) _).far (p := ⟨w.heap.size, 1, none⟩) (by simp; omega) _).far (p := ⟨w.heap.size, 2, none⟩) (by simp; omega) _)
        rotate_left 1
        · (try simp only [Act.put, List.getElem_toArray, List.getElem_cons_succ, List.getElem_cons_zero, List.setIfInBounds_toArray, List.set_cons_zero, List.set_cons_succ])
          try rfl
        clear hK1 K1
        refine sched_take' (v := ?_) (a' := ?_) rfl (by kernel_rfl) ?_ rfl ?_ ?_
        rotate_left 2
        · intro w hSw
          (try dsimp only at hSw)
          go_simp
          try with_reducible rfl
        · (try simp only [Act.put, List.setIfInBounds_toArray, List.set_cons_zero, List.set_cons_succ])
          try rfl
        refine sched_done (hQ1.out _ _ ?_)
        have D52 := Lib.hid (D51.out.puts (Nat.le_refl _) (.int .i64 i) (.string s) (.string r))
        obtain ⟨q0, q1, q2⟩ := box_load (X51.out.puts (.int .i64 i) (.string s) (.string r))
        go_wp2_with fail
        refine bodyPost_ret (v := .tuple #[stV i s r, .string tt]) ?_ rfl ⟨⟨i, s, r, tt, p51, rfl, hs, hr, by omega, by omega, D52.out.rd⟩, D52.out.gr⟩
        simp [results, Tryd.results43, go_sem, q0, q1, q2]
  ·
    have D50 := Lib.hid D6.out.drew
    have X50 := Lib.hid (show Bx w6.drew w.heap.size 27 #[.int .i64 0, .string (bs []), .string (bs [])] from X6.out)
    have Y50 := Lib.hid (show Bx w6.drew w1.heap.size 27 #[.int .i64 i, .string s, .string r] from Y6.out)
    obtain ⟨m0, m1, m2⟩ := box_load Y50.out
    go_upto_region 10 with (fail)
    refine region_sched [(0, true), (1, true), (2, true), (3, false), (4, false), (5, true)] (fun w' : World => w'.cell? ⟨w1.heap.size, 0, none⟩ = some (.int .i64 i) ∧ w'.cell? ⟨w1.heap.size, 1, none⟩ = some (.string s) ∧ w'.cell? ⟨w1.heap.size, 2, none⟩ = some (.string r)) (by kernel_rfl) (by kernel_rfl) (by kernel_rfl) (by kernel_rfl) (fun _ _ _ _ h => h) ?_ (fun Q1 hQ1 => ?_)
    · exact ⟨m0, m1, m2⟩
    try simp only [List.append]
    refine sched_take' (v := .agg #[.int .i64 i, .string s, .string r]) (a' := ?_) rfl (by kernel_rfl) ?_ rfl ?_ ?_
    rotate_left 1
    · intro w hSw
      (try dsimp only at hSw)
      go_simp
      first | done | (obtain ⟨u0, u1, u2⟩ := hSw; simp [u0, u1, u2])
    · (try simp only [Act.put, List.setIfInBounds_toArray, List.set_cons_zero, List.set_cons_succ])
      try rfl
    refine sched_take' (v := ?_) (a' := ?_) rfl (by kernel_rfl) ?_ rfl ?_ ?_
    rotate_left 2
    · intro w hSw
      (try dsimp only at hSw)
      go_simp
      try with_reducible rfl
    · (try simp only [Act.put, List.setIfInBounds_toArray, List.set_cons_zero, List.set_cons_succ])
      try rfl
    refine sched_take' (v := ?_) (a' := ?_) rfl (by kernel_rfl) ?_ rfl ?_ ?_
    rotate_left 2
    · intro w hSw
      (try dsimp only at hSw)
      go_simp
      try with_reducible rfl
    · (try simp only [Act.put, List.setIfInBounds_toArray, List.set_cons_zero, List.set_cons_succ])
      try rfl
    refine sched_call rfl (by kernel_rfl) (fun K1 hK1 => ?_)
    go_simp
    refine (l2Bad_calls rb A n cap (p4 + 1) t (by omega) (by omega) _ D50.out.rd (by omega)).mono ?_
    rintro e w51 ⟨⟨tt, p51, rfl, tl, tp, hr⟩, hg⟩
    have D51 := Lib.hid (D50.out.step hr hg)
    have X51 := Lib.hid (X50.out.dw hg hrl)
    have Y51 := Lib.hid (Y50.out.dw hg hrl1)
    clear hr hg m0 m1 m2
    go_wp2_with fail
    refine hK1.out _ _ ?_ (sched_lay (a' := ?_) ?_ ?_)
    · exact box_load Y51.out
    rotate_left 1
    · (try simp only [Act.put, List.getElem_toArray, List.getElem_cons_succ, List.getElem_cons_zero, List.setIfInBounds_toArray, List.set_cons_zero, List.set_cons_succ])
      try rfl
    clear hK1 K1
    obtain ⟨c0, c1, c2⟩ := box_load X51.out
    have f0 := X51.out.free 0
    have f1 := X51.out.free 1
    have f2 := X51.out.free 2
    refine sched_call rfl (by kernel_rfl) (fun K1 hK1 => ?_)
    go_simp
    refine hK1.out _ _ ?_ (sched_lay (a' := ?_) ?_ ?_)
    · exact box_load (((Y51.out.far (p := ⟨w.heap.size, 0, none⟩) (by simp; omega) _).far (p := ⟨w.heap.size, 1, none⟩) (by simp; omega) _).far (p := ⟨w.heap.size, 2, none⟩) (by simp; omega) _)
    rotate_left 1
    · (try simp only [Act.put, List.getElem_toArray, List.getElem_cons_succ, List.getElem_cons_zero, List.setIfInBounds_toArray, List.set_cons_zero, List.set_cons_succ])
      try rfl
    clear hK1 K1
    refine sched_take' (v := ?_) (a' := ?_) rfl (by kernel_rfl) ?_ rfl ?_ ?_
    rotate_left 2
    · intro w hSw
      (try dsimp only at hSw)
      go_simp
      try with_reducible rfl
    · (try simp only [Act.put, List.setIfInBounds_toArray, List.set_cons_zero, List.set_cons_succ])
      try rfl
    refine sched_done (hQ1.out _ _ ?_)
    have D52 := Lib.hid (D51.out.puts (Nat.le_refl _) (.int .i64 i) (.string s) (.string r))
    obtain ⟨q0, q1, q2⟩ := box_load (X51.out.puts (.int .i64 i) (.string s) (.string r))
    go_wp2_with fail
    refine bodyPost_ret (v := .tuple #[stV i s r, .string tt]) ?_ rfl ⟨⟨i, s, r, tt, p51, rfl, hs, hr, by omega, by omega, D52.out.rd⟩, D52.out.gr⟩
    simp [results, Tryd.results43, go_sem, q0, q1, q2]


/-- a structure, a text and a width that are drawn -/
def StFW (e : Ending) : Prop := ∃ (i : Int) (s r t : ByteArray) (x : Int), e = .returned (.tuple #[stV i s r, .string t, .int .i64 x]) ∧ s.size ≤ 100 ∧ r.size ≤ 100 ∧ t.size ≤ 72 ∧ -1 ≤ x ∧ x ≤ 4
theorem num_le4 {m : Int} (h : m ∈ [-1, 4, 0, 1]) : -1 ≤ m ∧ m ≤ 4 := by
  simp only [List.mem_cons, List.not_mem_nil, or_false] at h
  omega

end Go.Proofs.YteonanaihklgmaaDoor

namespace Go.Proofs.YteonanaihklgmaaDoor
open Pl

/-- a formula in words -/
def Pl.Fm.showL : Fm → List UInt8
  | .tru => [116, 114, 117, 101]
  | .fls => [102, 97, 108, 115, 101]
  | .pr v => [80, 40, vb v, 41]
  | .eq v w => [vb v, 61, vb w]
  | .rel v w => [69, 40, vb v, 44, vb w, 41]
  | .neg p => [110, 111, 116, 32] ++ p.showL
  | .con p q => [40] ++ p.showL ++ [32, 97, 110, 100, 32] ++ q.showL ++ [41]
  | .dis p q => [40] ++ p.showL ++ [32, 111, 114, 32] ++ q.showL ++ [41]
  | .qu .A v p => [97, 108, 108, 32] ++ [vb v] ++ [58, 32] ++ p.showL
  | .qu .S v p => [115, 111, 109, 101, 32] ++ [vb v] ++ [58, 32] ++ p.showL
  | .qu k v p => [97, 116, 32, 108, 101, 97, 115, 116, 32] ++ [k.b] ++ [32] ++ [vb v] ++ [58, 32] ++ p.showL

theorem show_le (f : Fm) : f.showL.length ≤ 20 * f.text.length := by
  induction f with
  | qu k v p ih => cases k <;> simp [Fm.showL, Fm.text] <;> omega
  | neg p ih => simp [Fm.showL, Fm.text]; omega
  | con p q ihp ihq => simp [Fm.showL, Fm.text]; omega
  | dis p q ihp ihq => simp [Fm.showL, Fm.text]; omega
  | _ => simp [Fm.showL, Fm.text]

theorem show_ne (f : Fm) : f.showL ≠ [] := by
  cases f with
  | qu k v p => cases k <;> simp [Fm.showL]
  | _ => simp [Fm.showL]

/-- negations pushed -/
def Pl.Fm.push : Bool → Fm → Fm
  | b, .tru => if b then .fls else .tru
  | b, .fls => if b then .tru else .fls
  | b, .pr v => if b then .neg (.pr v) else .pr v
  | b, .eq v w => if b then .neg (.eq v w) else .eq v w
  | b, .rel v w => if b then .neg (.rel v w) else .rel v w
  | b, .neg p => p.push (!b)
  | b, .con p q => if b then .dis (p.push b) (q.push b) else .con (p.push b) (q.push b)
  | b, .dis p q => if b then .con (p.push b) (q.push b) else .dis (p.push b) (q.push b)
  | b, .qu .A v p => if b then .qu .S v (p.push b) else .qu .A v (p.push b)
  | b, .qu .S v p => if b then .qu .A v (p.push b) else .qu .S v (p.push b)
  | b, .qu k v p => if b then .neg (.qu k v (p.push false)) else .qu k v (p.push false)

theorem push_le (f : Fm) : ∀ b, (f.push b).text.length ≤ 2 * f.text.length := by
  induction f with
  | qu k v p ih => intro b; have := ih b; have := ih false; cases k <;> cases b <;> simp [Fm.push, Fm.text] <;> omega
  | neg p ih => intro b; have := ih (!b); simp [Fm.push, Fm.text]; omega
  | con p q ihp ihq => intro b; have := ihp b; have := ihq b; cases b <;> simp [Fm.push, Fm.text] <;> omega
  | dis p q ihp ihq => intro b; have := ihp b; have := ihq b; cases b <;> simp [Fm.push, Fm.text] <;> omega
  | _ => intro b; cases b <;> simp [Fm.push, Fm.text]

/-- w in place of v where it is free -/
def Pl.Fm.repl (v w : Fin 4) : Fm → Fm
  | .tru => .tru
  | .fls => .fls
  | .pr u => .pr (if u = v then w else u)
  | .eq u t => .eq (if u = v then w else u) (if t = v then w else t)
  | .rel u t => .rel (if u = v then w else u) (if t = v then w else t)
  | .neg p => .neg (p.repl v w)
  | .con p q => .con (p.repl v w) (q.repl v w)
  | .dis p q => .dis (p.repl v w) (q.repl v w)
  | .qu k u p => if u = v then .qu k u p else .qu k u (p.repl v w)

theorem repl_len (v w : Fin 4) (f : Fm) : (f.repl v w).text.length = f.text.length := by
  induction f with
  | qu k u p ih => by_cases h : u = v <;> simp [Fm.repl, Fm.text, h, ih]
  | neg p ih => simp [Fm.repl, Fm.text, ih]
  | con p q ihp ihq => simp [Fm.repl, Fm.text, ihp, ihq]
  | dis p q ihp ihq => simp [Fm.repl, Fm.text, ihp, ihq]
  | _ => simp [Fm.repl, Fm.text]

/-- the first variable that is not in a set of variables and is not v -/
def freshV (m : Nat) (v : Fin 4) : Option (Fin 4) :=
  if m.testBit 0 = false ∧ v ≠ 0 then some 0 else if m.testBit 1 = false ∧ v ≠ 1 then some 1 else if m.testBit 2 = false ∧ v ≠ 2 then some 2 else if m.testBit 3 = false ∧ v ≠ 3 then some 3 else none

theorem freshV_some {m : Nat} {v w : Fin 4} (h : freshV m v = some w) : m.testBit w.val = false ∧ v ≠ w := by
  unfold freshV at h
  split at h
  · rename_i hh; injection h with h; subst h; exact hh
  split at h
  · rename_i hh; injection h with h; subst h; exact hh
  split at h
  · rename_i hh; injection h with h; subst h; exact hh
  split at h
  · rename_i hh; injection h with h; subst h; exact hh
  · cases h

/-- spelled out without counting -/
def Pl.Fm.spell : Fm → Option Fm
  | .neg p => match p.spell with | some p' => some (.neg p') | none => none
  | .con p q => match p.spell with | some p' => (match q.spell with | some q' => some (.con p' q') | none => none) | none => none
  | .dis p q => match p.spell with | some p' => (match q.spell with | some q' => some (.dis p' q') | none => none) | none => none
  | .qu .A v p => match p.spell with | some p' => some (.qu .A v p') | none => none
  | .qu .S v p => match p.spell with | some p' => some (.qu .S v p') | none => none
  | .qu .c2 v p => match p.spell with
    | some p' => (match freshV p'.allBits v with | some w => some (.qu .S v (.qu .S w (.con (.neg (.eq v w)) (.con p' (p'.repl v w))))) | none => none)
    | none => none
  | .qu .c3 _ _ => none
  | .qu .c4 _ _ => none
  | f => some f

/-! ### how long a formula that is spelled out can be -/

def cardB (m : Nat) : Nat := (varsL m 4).length

theorem cardB_or (a b : Nat) (ha : a < 16) (hb : b < 16) : cardB a ≤ cardB (a ||| b) ∧ cardB b ≤ cardB (a ||| b) := by
  have h : ∀ a b : Fin 16, cardB a.val ≤ cardB (a.val ||| b.val) ∧ cardB b.val ≤ cardB (a.val ||| b.val) := by decide +kernel
  exact h ⟨a, ha⟩ ⟨b, hb⟩

theorem cardB_new (a : Nat) (v w : Fin 4) (ha : a < 16) (hw : a.testBit w.val = false) (hv : v ≠ w) : cardB a + 1 ≤ cardB (1 <<< v.val ||| (1 <<< w.val ||| a)) := by
  have h : ∀ (a : Fin 16) (v w : Fin 4), a.val.testBit w.val = false → v ≠ w → cardB a.val + 1 ≤ cardB (1 <<< v.val ||| (1 <<< w.val ||| a.val)) := by decide +kernel
  exact h ⟨a, ha⟩ v w hw hv

theorem repl_all_or (v w : Fin 4) (f : Fm) : ((f.repl v w).allBits ||| f.allBits) ||| 1 <<< w.val = f.allBits ||| 1 <<< w.val := by
  have hb : ∀ (i : Nat), ((((f.repl v w).allBits ||| f.allBits) ||| 1 <<< w.val).testBit i) = (f.allBits ||| 1 <<< w.val).testBit i := by
    intro i
    simp only [Nat.testBit_or]
    suffices h : (f.repl v w).allBits.testBit i = true → (f.allBits.testBit i || (1 <<< w.val).testBit i) = true by
      cases h1 : (f.repl v w).allBits.testBit i with
      | false => simp
      | true => have := h h1; revert this; cases f.allBits.testBit i <;> cases (1 <<< w.val).testBit i <;> simp
    induction f with
    | tru => simp [Fm.repl, Fm.allBits]
    | fls => simp [Fm.repl, Fm.allBits]
    | pr u =>
      by_cases h : u = v <;> simp only [Fm.repl, Fm.allBits, h, if_true, if_false] <;> intro h <;> simp [h]
    | eq u t =>
      by_cases h : u = v <;> by_cases h2 : t = v <;> simp only [Fm.repl, Fm.allBits, h, h2, if_true, if_false, Nat.testBit_or, Bool.or_eq_true] <;> grind
    | rel u t =>
      by_cases h : u = v <;> by_cases h2 : t = v <;> simp only [Fm.repl, Fm.allBits, h, h2, if_true, if_false, Nat.testBit_or, Bool.or_eq_true] <;> grind
    | neg p ih => exact ih
    | con p q ihp ihq => simp only [Fm.repl, Fm.allBits, Nat.testBit_or, Bool.or_eq_true] at *; grind
    | dis p q ihp ihq => simp only [Fm.repl, Fm.allBits, Nat.testBit_or, Bool.or_eq_true] at *; grind
    | qu k u p ih =>
      by_cases h : u = v <;> simp only [Fm.repl, Fm.allBits, h, if_true, if_false, Nat.testBit_or, Bool.or_eq_true] at * <;> grind
  exact Nat.eq_of_testBit_eq hb

theorem pow_mono16 {a b : Nat} (h : a ≤ b) : 16 ^ a ≤ 16 ^ b := Nat.pow_le_pow_right (by decide) h

theorem spell_grow : ∀ (f g : Fm), f.spell = some g → g.text.length ≤ 16 ^ cardB g.allBits * f.text.length := by
  intro f
  have one : ∀ n : Nat, 1 ≤ 16 ^ n := fun n => Nat.one_le_pow _ _ (by decide)
  have leaf : ∀ (n k : Nat), k ≤ 16 ^ n * k := fun n k => by have := Nat.mul_le_mul_right k (one n); simpa using this
  induction f with
  | tru => intro g h; simp [Fm.spell] at h; subst h; exact leaf _ _
  | fls => intro g h; simp [Fm.spell] at h; subst h; exact leaf _ _
  | pr v => intro g h; simp [Fm.spell] at h; subst h; exact leaf _ _
  | eq v w => intro g h; simp [Fm.spell] at h; subst h; exact leaf _ _
  | rel v w => intro g h; simp [Fm.spell] at h; subst h; exact leaf _ _
  | neg p ih =>
    intro g h
    simp only [Fm.spell] at h
    split at h
    · rename_i p' hp
      injection h with h; subst h
      have := ih p' hp
      have h1 := one (cardB p'.allBits)
      simp only [Fm.text, Fm.allBits, List.length_cons, Nat.mul_add, Nat.mul_one]
      omega
    · cases h
  | con p q ihp ihq =>
    intro g h
    simp only [Fm.spell] at h
    split at h
    · rename_i p' hp
      split at h
      · rename_i q' hq
        injection h with h; subst h
        have h1 := ihp p' hp
        have h2 := ihq q' hq
        have hc := cardB_or _ _ (allBits_lt p') (allBits_lt q')
        have h3 := Nat.mul_le_mul_right p.text.length (pow_mono16 hc.1)
        have h4 := Nat.mul_le_mul_right q.text.length (pow_mono16 hc.2)
        have h5 := one (cardB (p'.allBits ||| q'.allBits))
        simp only [Fm.text, Fm.allBits, List.length_cons, List.length_append, Nat.mul_add, Nat.mul_one]
        omega
      · cases h
    · cases h
  | dis p q ihp ihq =>
    intro g h
    simp only [Fm.spell] at h
    split at h
    · rename_i p' hp
      split at h
      · rename_i q' hq
        injection h with h; subst h
        have h1 := ihp p' hp
        have h2 := ihq q' hq
        have hc := cardB_or _ _ (allBits_lt p') (allBits_lt q')
        have h3 := Nat.mul_le_mul_right p.text.length (pow_mono16 hc.1)
        have h4 := Nat.mul_le_mul_right q.text.length (pow_mono16 hc.2)
        have h5 := one (cardB (p'.allBits ||| q'.allBits))
        simp only [Fm.text, Fm.allBits, List.length_cons, List.length_append, Nat.mul_add, Nat.mul_one]
        omega
      · cases h
    · cases h
  | qu k v p ih =>
    intro g h
    cases k with
    | c3 => simp [Fm.spell] at h
    | c4 => simp [Fm.spell] at h
    | A =>
      simp only [Fm.spell] at h
      split at h
      · rename_i p' hp
        injection h with h; subst h
        have h1 := ih p' hp
        have hc := cardB_or _ _ (bit_lt v) (allBits_lt p')
        have h3 := Nat.mul_le_mul_right p.text.length (pow_mono16 hc.2)
        have h5 := one (cardB (1 <<< v.val ||| p'.allBits))
        simp only [Fm.text, Fm.allBits, List.length_cons, Nat.mul_add, Nat.mul_one]
        omega
      · cases h
    | S =>
      simp only [Fm.spell] at h
      split at h
      · rename_i p' hp
        injection h with h; subst h
        have h1 := ih p' hp
        have hc := cardB_or _ _ (bit_lt v) (allBits_lt p')
        have h3 := Nat.mul_le_mul_right p.text.length (pow_mono16 hc.2)
        have h5 := one (cardB (1 <<< v.val ||| p'.allBits))
        simp only [Fm.text, Fm.allBits, List.length_cons, Nat.mul_add, Nat.mul_one]
        omega
      · cases h
    | c2 =>
      simp only [Fm.spell] at h
      split at h
      · rename_i p' hp
        split at h
        · rename_i w hw
          injection h with h; subst h
          obtain ⟨hw1, hw2⟩ := freshV_some hw
          have h1 := ih p' hp
          have hc := cardB_new _ v w (allBits_lt p') hw1 hw2
          have hl : 1 <<< v.val ||| (1 <<< w.val ||| p'.allBits) ≤ 15 := by
            have := or_lt (bit_lt v) (or_lt (bit_lt w) (allBits_lt p')); omega
          have hall : (Fm.qu .S v (.qu .S w (.con (.neg (.eq v w)) (.con p' (p'.repl v w))))).allBits = 1 <<< v.val ||| (1 <<< w.val ||| p'.allBits) := by
            have h7 := repl_all_or v w p'
            simp only [Fm.allBits]
            apply Nat.eq_of_testBit_eq
            intro i
            have h8 := congrArg (fun n => n.testBit i) h7
            simp only [Nat.testBit_or] at h8 ⊢
            revert h8
            cases (1 <<< v.val).testBit i <;> cases (1 <<< w.val).testBit i <;> cases p'.allBits.testBit i <;> cases (p'.repl v w).allBits.testBit i <;> simp
          rw [hall]
          have h3 := pow_mono16 hc
          rw [Nat.pow_succ] at h3
          have h4 := Nat.mul_le_mul_right p.text.length h3
          have h5 := one (cardB p'.allBits)
          have h6 := repl_len v w p'
          simp only [Fm.text, List.length_cons, List.length_append, List.length_nil, Nat.mul_add, Nat.mul_one] at *
          have h9 : 16 ^ cardB p'.allBits * 16 * p.text.length = 16 * (16 ^ cardB p'.allBits * p.text.length) := by
            rw [Nat.mul_comm (16 ^ cardB p'.allBits) 16, Nat.mul_assoc]
          omega
        · cases h
      · cases h

theorem spell_len {f g : Fm} (h : f.spell = some g) : g.text.length ≤ 65536 * f.text.length := by
  refine Nat.le_trans (spell_grow f g h) (Nat.mul_le_mul_right _ ?_)
  have := varsL_len g.allBits 4
  exact Nat.le_trans (pow_mono16 (b := 4) this) (by decide)

end Go.Proofs.YteonanaihklgmaaDoor

namespace Go.Proofs.YteonanaihklgmaaDoor
open Go.RowKit
open Pl

theorem bytes_push : ∀ (bytes : List UInt8) (s : ByteArray), (bytes.map fun b => (b.toNat : Int)).foldl (fun r n => r.push (UInt8.ofNat n.toNat)) s = bs (s.data.toList ++ bytes) := by
  intro bytes
  induction bytes with
  | nil => intro s; simp [bs_of]
  | cons b bytes ih =>
    intro s
    rw [List.map_cons, List.foldl_cons, ih]
    congr 1
    simp

/-- a row of bytes as a text -/
theorem conv_row {w : World} {base : Nat} {v : Value} {n : Nat} {bytes : List UInt8} (h : w.ownsRow base 5 1 v n (bytes.map byteV)) :
    (convert 22 9 v).run Tryd.prog w = .ok (.string (bs bytes)) w := by
  obtain ⟨a, cap, rfl, hl, hc⟩ := row_slice h
  rw [run_convert_bytes_string w _ _ 5 a n cap Tryd.underlying22 Tryd.underlying5 Tryd.underlying9]
  have hl2 : bytes.length = n := by simpa using hl
  cases a with
  | none =>
    have hn : n = 0 := by
      rcases Nat.eq_zero_or_pos n with h0 | h0
      · exact h0
      · obtain ⟨g, hg, _⟩ := hc 0 h0
        cases hg
    have hb : bytes = [] := List.eq_nil_of_length_eq_zero (by omega)
    subst hb
    rfl
  | some x =>
    rw [run_bytesToString w x n cap (bytes.map fun b => (b.toNat : Int))]
    · rw [bytes_push]; rfl
    · have hcells := run_loadCells (P := Tryd.prog) (w := w) x n (fun j => byteV (bytes.getD j 0)) (fun j hj => by
        obtain ⟨g, hg, hcell⟩ := hc j hj
        injection hg with hg
        subst hg
        have e1 : (⟨g, 0, none⟩ : Addr).add j = ⟨g, j, none⟩ := by unfold Addr.add; split <;> simp_all
        rw [e1, hcell, List.getElem?_map, List.getElem?_eq_getElem (by omega)]
        simp [List.getD, List.getElem?_eq_getElem (show j < bytes.length by omega)])
      rw [hcells]
      congr 1
      apply Array.ext'
      simp only [List.map_map]
      apply List.ext_getElem?
      intro i
      by_cases hi : i < n
      · simp [List.getElem?_map, List.getElem?_eq_getElem (show i < bytes.length by omega), hi, byteV, List.getD]
      · simp [List.getElem?_eq_none (show bytes.length ≤ i by omega), hi]

/-- the bytes ahead of the parts -/
def Pl.Fm.headL (f : Fm) : List UInt8 := f.op :: f.vars.map vb

theorem head_len (f : Fm) : f.headL.length ≤ 3 := by have := vars_le f; simp [Fm.headL]; omega

/-- the bytes up to part k, the parts' own texts given -/
def headT (f : Fm) (h : List UInt8) (g : Fm → List UInt8) (k : Nat) : List UInt8 := h ++ ((f.parts.take k).map g).flatten

theorem headT_zero (f : Fm) (h : List UInt8) (g : Fm → List UInt8) : headT f h g 0 = h := by simp [headT]
theorem headT_succ (f : Fm) (h : List UInt8) (g : Fm → List UInt8) (k : Nat) (hk : k < f.parts.length) : headT f h g (k + 1) = headT f h g k ++ g f.parts[k] := by
  unfold headT
  rw [List.take_succ_eq_append_getElem hk, List.map_append, List.flatten_append, List.append_assoc]
  simp only [List.map_cons, List.map_nil, List.flatten_cons, List.flatten_nil, List.append_nil]
theorem headT_all (f : Fm) (h : List UInt8) (g : Fm → List UInt8) (k : Nat) (hk : f.parts.length ≤ k) : headT f h g k = h ++ (f.parts.map g).flatten := by
  unfold headT; rw [List.take_of_length_le hk]
theorem headT_len (f : Fm) (h : List UInt8) (g : Fm → List UInt8) (k m n : Nat) (hh : h.length ≤ m) (hg : ∀ p ∈ f.parts, (g p).length ≤ n) : (headT f h g k).length ≤ m + 2 * n := by
  unfold headT
  rw [List.length_append]
  have h2 : ∀ ps : List Fm, (∀ p ∈ ps, (g p).length ≤ n) → ((ps.map g).flatten).length ≤ ps.length * n := by
    intro ps
    induction ps with
    | nil => intro _; simp
    | cons p ps ih =>
      intro hp
      have h1 := hp p (by simp)
      have h3 := ih (fun q hq => hp q (by simp [hq]))
      simp only [List.map_cons, List.flatten_cons, List.length_append, List.length_cons, Nat.add_mul, Nat.one_mul]
      omega
  have h3 := h2 (f.parts.take k) (fun p hp => hg p (List.mem_of_mem_take hp))
  have h4 : (f.parts.take k).length ≤ 2 := by have := parts_le f; simp; omega
  have h5 := Nat.mul_le_mul_right n h4
  omega

theorem vars_bytes (f : Fm) : (f.vars.map fun v => byteV (vb v)) = (f.vars.map vb).map byteV := by simp

theorem ownsRow_world {w w' : World} {base : Nat} {e : TypeId} {size : Nat} {v : Value} {n : Nat} {xs : List Value} (h : w.ownsRow base e size v n xs) (hb : Below w.heap.size w w') : w'.ownsRow base e size v n xs :=
  ownsRow_keep h fun g hg => ⟨hb.block g (ownsRow_lt h hg).2, (ownsRow_lt h hg).1⟩

/-- a new slice of one byte -/
theorem new_byte (w : World) (b : UInt8) : ((w.alloc (.cells #[.int .u8 b.toNat] 5)).drew).ownsRow 0 5 1 (.slice (some ⟨w.heap.size, 0, none⟩) 1 1) 1 ([b].map byteV) :=
  ⟨rfl, .inr ⟨w.heap.size, 1, _, rfl, Nat.zero_le _, heap_alloc_new w _, Nat.le_refl _, by unfold maxLen; omega, rfl, rfl⟩⟩

theorem TreeIn.world {S : Nat → Prop} {w w' : World} {f : Fm} {b : Nat} (h : TreeIn S w f b) (hb : Below w.heap.size w w') : TreeIn S w' f b := TreeIn.keep (fun g hs hg => ⟨hb.block g hg, hs⟩) f b h

theorem TreesIn.world {S : Nat → Prop} {w w' : World} {ps : List Fm} {ks : List Nat} (h : TreesIn S w ps ks) (hb : Below w.heap.size w w') : TreesIn S w' ps ks := h.keep fun g hs hg => ⟨hb.block g hg, hs⟩

end Go.Proofs.YteonanaihklgmaaDoor

namespace Go.Proofs.YteonanaihklgmaaDoor
open Go.RowKit
open Pl

/-- the operators that stay behind a negation -/
def keepB (b : UInt8) : Bool := ((b.toNat : Int) == 80) || ((b.toNat : Int) == 61) || ((b.toNat : Int) == 69) || ((b.toNat : Int) == 50) || ((b.toNat : Int) == 51) || ((b.toNat : Int) == 52)

/-- the operator that stands for another one behind a negation -/
def turnB (b : UInt8) : UInt8 := if b = 116 then 102 else if b = 102 then 116 else if b = 38 then 124 else if b = 124 then 38 else if b = 65 then 83 else if b = 83 then 65 else b

def pushL (o : Bool) (f : Fm) : List UInt8 := (f.push o).text

theorem push_neg (f : Fm) (h : f.op = 33) : ∃ p, f.parts = [p] ∧ ∀ o, pushL o f = pushL (!o) p := by
  cases f with
  | neg p => exact ⟨p, rfl, fun o => rfl⟩
  | qu k v p => cases k <;> simp [Fm.op, Qn.b] at h
  | _ => simp [Fm.op] at h

theorem push_keep (f : Fm) (h : keepB f.op = true) (o : Bool) : pushL o f = (if o then [33] else []) ++ (f.headL ++ (f.parts.map (pushL false)).flatten) := by
  cases f with
  | qu k v p => cases k <;> first | (simp [Fm.op, Qn.b, keepB] at h; done) | (cases o <;> simp [pushL, Fm.push, Fm.text, Fm.headL, Fm.op, Fm.vars, Fm.parts])
  | pr v => cases o <;> simp [pushL, Fm.push, Fm.text, Fm.headL, Fm.op, Fm.vars, Fm.parts]
  | eq v w => cases o <;> simp [pushL, Fm.push, Fm.text, Fm.headL, Fm.op, Fm.vars, Fm.parts]
  | rel v w => cases o <;> simp [pushL, Fm.push, Fm.text, Fm.headL, Fm.op, Fm.vars, Fm.parts]
  | _ => simp [Fm.op, keepB] at h

theorem push_turn (f : Fm) (h : keepB f.op = false) (h2 : f.op ≠ 33) (o : Bool) :
    pushL o f = ((if o then turnB f.op else f.op) :: f.vars.map vb) ++ (f.parts.map (pushL o)).flatten := by
  cases f with
  | qu k v p => cases k <;> first | (simp [Fm.op, Qn.b, keepB] at h; done) | (cases o <;> simp [pushL, Fm.push, Fm.text, Fm.op, Fm.vars, Fm.parts, turnB, Qn.b])
  | tru => cases o <;> simp [pushL, Fm.push, Fm.text, Fm.op, Fm.vars, Fm.parts, turnB]
  | fls => cases o <;> simp [pushL, Fm.push, Fm.text, Fm.op, Fm.vars, Fm.parts, turnB]
  | con p q => cases o <;> simp [pushL, Fm.push, Fm.text, Fm.op, Fm.vars, Fm.parts, turnB]
  | dis p q => cases o <;> simp [pushL, Fm.push, Fm.text, Fm.op, Fm.vars, Fm.parts, turnB]
  | neg p => exact absurd rfl h2
  | _ => simp [Fm.op, keepB] at h

theorem op_turn (f : Fm) (h : keepB f.op = false) (h2 : f.op ≠ 33) : f.op = 116 ∨ f.op = 102 ∨ f.op = 38 ∨ f.op = 124 ∨ f.op = 65 ∨ f.op = 83 := by
  cases f with
  | qu k v p => cases k <;> first | (simp [Fm.op, Qn.b, keepB] at h; done) | simp [Fm.op, Qn.b]
  | neg p => exact absurd rfl h2
  | tru => simp [Fm.op]
  | fls => simp [Fm.op]
  | con p q => simp [Fm.op]
  | dis p q => simp [Fm.op]
  | _ => simp [Fm.op, keepB] at h

theorem turned_calls (b : UInt8) (w : World) (h : b = 116 ∨ b = 102 ∨ b = 38 ∨ b = 124 ∨ b = 65 ∨ b = 83) :
    Calls Tryd.prog 68 #[.int .u8 b.toNat] w fun e w' => e = .returned (.int .u8 (turnB b).toNat) ∧ w = w' := by
  rcases h with rfl | rfl | rfl | rfl | rfl | rfl
  · have h : ∀ w, Calls Tryd.prog 92 #[.string ⟨#[116, 102, 38, 124, 65, 83]⟩, .int .u8 116] w fun e w' => e = .returned (.int .i64 0) ∧ w = w' := fun w => IndexByte_calls ⟨#[116, 102, 38, 124, 65, 83]⟩ 116 w
    have H := Lib.hid h
    clear h
    go_enter Tryd.func68, Tryd.ntmps68
    go_wp2_with (go_at_call 92; refine (H.out _).mono ?_; rintro e w' ⟨rfl, rfl⟩)
    go_ret
    exact ⟨rfl, rfl⟩
  · have h : ∀ w, Calls Tryd.prog 92 #[.string ⟨#[116, 102, 38, 124, 65, 83]⟩, .int .u8 102] w fun e w' => e = .returned (.int .i64 1) ∧ w = w' := fun w => IndexByte_calls ⟨#[116, 102, 38, 124, 65, 83]⟩ 102 w
    have H := Lib.hid h
    clear h
    go_enter Tryd.func68, Tryd.ntmps68
    go_wp2_with (go_at_call 92; refine (H.out _).mono ?_; rintro e w' ⟨rfl, rfl⟩)
    go_ret
    exact ⟨rfl, rfl⟩
  · have h : ∀ w, Calls Tryd.prog 92 #[.string ⟨#[116, 102, 38, 124, 65, 83]⟩, .int .u8 38] w fun e w' => e = .returned (.int .i64 2) ∧ w = w' := fun w => IndexByte_calls ⟨#[116, 102, 38, 124, 65, 83]⟩ 38 w
    have H := Lib.hid h
    clear h
    go_enter Tryd.func68, Tryd.ntmps68
    go_wp2_with (go_at_call 92; refine (H.out _).mono ?_; rintro e w' ⟨rfl, rfl⟩)
    go_ret
    exact ⟨rfl, rfl⟩
  · have h : ∀ w, Calls Tryd.prog 92 #[.string ⟨#[116, 102, 38, 124, 65, 83]⟩, .int .u8 124] w fun e w' => e = .returned (.int .i64 3) ∧ w = w' := fun w => IndexByte_calls ⟨#[116, 102, 38, 124, 65, 83]⟩ 124 w
    have H := Lib.hid h
    clear h
    go_enter Tryd.func68, Tryd.ntmps68
    go_wp2_with (go_at_call 92; refine (H.out _).mono ?_; rintro e w' ⟨rfl, rfl⟩)
    go_ret
    exact ⟨rfl, rfl⟩
  · have h : ∀ w, Calls Tryd.prog 92 #[.string ⟨#[116, 102, 38, 124, 65, 83]⟩, .int .u8 65] w fun e w' => e = .returned (.int .i64 4) ∧ w = w' := fun w => IndexByte_calls ⟨#[116, 102, 38, 124, 65, 83]⟩ 65 w
    have H := Lib.hid h
    clear h
    go_enter Tryd.func68, Tryd.ntmps68
    go_wp2_with (go_at_call 92; refine (H.out _).mono ?_; rintro e w' ⟨rfl, rfl⟩)
    go_ret
    exact ⟨rfl, rfl⟩
  · have h : ∀ w, Calls Tryd.prog 92 #[.string ⟨#[116, 102, 38, 124, 65, 83]⟩, .int .u8 83] w fun e w' => e = .returned (.int .i64 5) ∧ w = w' := fun w => IndexByte_calls ⟨#[116, 102, 38, 124, 65, 83]⟩ 83 w
    have H := Lib.hid h
    clear h
    go_enter Tryd.func68, Tryd.ntmps68
    go_wp2_with (go_at_call 92; refine (H.out _).mono ?_; rintro e w' ⟨rfl, rfl⟩)
    go_ret
    exact ⟨rfl, rfl⟩

theorem pushL_le (o : Bool) (f : Fm) : (pushL o f).length ≤ 2 * f.text.length := push_le f o

set_option maxHeartbeats 2000000 in
set_option maxRecDepth 100000 in
theorem push_calls (n : Nat) : ∀ (o : Bool) (f : Fm) (b : Nat) (S : Nat → Prop) (w : World), f.size ≤ n → TreeIn S w f b → f.text.length ≤ 300000 →
    Calls Tryd.prog 35 #[kidV b, .bool o] w fun e w' => e = .returned (.string (bs (pushL o f))) ∧ Below w.heap.size w w' := by
  induction n with
  | zero => intro o f b S w hn _ _; cases f <;> simp [Fm.size] at hn
  | succ n ih =>
    intro o f b S w hn ht hl
    have Ht := Lib.hid ht
    have Ih := Lib.hid ih
    clear ih
    obtain ⟨ks0, vsv, psv0, hc0, hc1, hc2, _, _, hr1, hr0, hts0⟩ := node_cells ht
    by_cases h33 : f.op = 33
    · obtain ⟨p, hp, hpush⟩ := push_neg f h33
      have hk0 := hts0.1
      rw [hp] at hk0
      obtain ⟨k0, rfl⟩ : ∃ k0, ks0 = [k0] := by
        match ks0, hk0 with
        | [k0], _ => exact ⟨k0, rfl⟩
      obtain ⟨g, cap, rfl, hcap, hcm, _, hglt, hcell⟩ := row_open hr0 (by simp)
      have hcl := hcell 0 (by simp)
      have hcell0 : w.cell? ⟨g, 0, none⟩ = some (kidV k0) := by rw [hcl]; rfl
      have hpk := hts0.2 0 p k0 (by rw [hp]; rfl) rfl
      have hmem : p ∈ f.parts := by rw [hp]; simp
      have hsz := Fm.size_parts hmem
      have hcall := Ih.out (!o) p k0 S w (by omega) hpk (by have := part_text_le hmem; omega)
      rw [← hpush o] at hcall
      have Hcall := Lib.hid hcall
      have hop : (f.op.toNat : Int) = 33 := by rw [h33]; rfl
      clear hcall hpush hp hk0 hcell hcl hr0 hts0 hpk hmem hsz hr1 ht hc1 h33
      go_enter Tryd.func35, Tryd.ntmps35
      go_wp2_with (go_at_call 35; refine (Hcall.out).mono ?_; rintro e w' ⟨rfl, hb2⟩)
      go_ret
      exact ⟨rfl, hb2⟩
    · have hop33 : ((f.op.toNat : Int) == 33) = false := by
        rw [beq_eq_false_iff_ne]
        intro e
        apply h33
        apply UInt8.toNat_inj.1
        show f.op.toNat = 33
        omega
      clear hr0 hts0
      cases hkeep : keepB f.op with
      | true =>
        have hpk := push_keep f hkeep o
        have Hpk := Lib.hid hpk
        have Hkeep := Lib.hid hkeep
        clear hpk hkeep h33
        have hcv1 : (convert 22 9 vsv).run Tryd.prog w.drew = .ok (.string (bs (f.vars.map vb))) w.drew := conv_row (w := w.drew) (base := 0) (n := f.vars.length) (by rw [← vars_bytes]; exact hr1)
        have hcv2 : ∀ o, (convert 22 9 vsv).run Tryd.prog (w.alloc o).drew = .ok (.string (bs (f.vars.map vb))) (w.alloc o).drew := fun o => conv_row (w := (w.alloc o).drew) (base := 0) (n := f.vars.length) (by rw [← vars_bytes]; exact ownsRow_world hr1 ((Below.refl _ _).alloc (Nat.le_refl _) _).drew)
        have hcv3 : (convert 22 9 (.slice (some ⟨w.heap.size, 0, none⟩) 1 1)).run Tryd.prog (w.alloc (.cells #[.int .u8 f.op.toNat] 5)).drew = .ok (.string (bs [f.op])) (w.alloc (.cells #[.int .u8 f.op.toNat] 5)).drew := conv_row (new_byte w f.op)
        have hlb := World.block_lt_of_cell? w _ hc0
        have ha0 : ∀ o, (w.alloc o).cell? ⟨b, 0, none⟩ = some (.int .u8 f.op.toNat) := fun o => (World.cell?_of_block (w := w) (Below.heap_alloc w o b hlb)).trans hc0
        have ha1 : ∀ o, (w.alloc o).cell? ⟨b, 1, none⟩ = some vsv := fun o => (World.cell?_of_block (w := w) (Below.heap_alloc w o b hlb)).trans hc1
        have hsz : (bs (f.vars.map vb)).size ≤ 2 := by rw [bs_size]; have := vars_le f; simp; omega
        have hsz1 : (bs [f.op]).size ≤ 1 := by rw [bs_size]; simp
        clear ht hr1
        go_enter Tryd.func35, Tryd.ntmps35
        go_upto_if 16 with (fail)
        go_step
        go_step
        go_cut [27] (fun v wx => v = .bool (keepB f.op) ∧ wx = w)
        case first =>
          go_wp2_with fail
          all_goals
            go_meet
            case rel => exact ⟨by congr 1; simp [keepB, *], rfl⟩
        case rest =>
          obtain ⟨rfl, rfl⟩ := hcut
          rw [Hkeep.out]
          go_upto_region 10 with (fail)
          go_cut [5] (fun s wx => s = .string (bs f.headL) ∧ Below wc.heap.size wc wx)
          case first =>
            go_region
            all_goals
              go_wp2_with fail
              go_meet
              case rel => exact ⟨str_eq (append_bs _ _), ((Below.refl _ _).alloc (Nat.le_refl _) _).drew⟩
          case rest =>
            cases o with
            | true =>
              obtain ⟨rfl, hbc⟩ := hcut
              have Hbc := Lib.hid hbc
              have ht2 := TreeIn.world Ht.out hbc
              clear hc0 hc1 hc2 hcv1 hcv2 hcv3 hlb ha0 ha1 hsz hsz1 hbc
              obtain ⟨ks, vsv2, psv, hc0, _, hc2, _, _, _, hr, hts⟩ := node_cells ht2
              obtain ⟨a, cap, rfl, hkl, hrow⟩ := row_slice hr
              have hkl2 : ks.length = f.parts.length := hts.1
              have hp2 := parts_le f
              have hkl3 : ks.length ≤ 2 := by omega
              have Hrow := Lib.hid hrow
              have Hts := Lib.hid hts
              have Hkl := Lib.hid hkl2
              clear hrow hts hkl hkl2 hr ht2
              go_wp2_with fail
              go_loopg [5, 51] ks.length (fun c o i wr => ∃ k : Nat, k + c = ks.length ∧ i = .int .i64 k ∧ o = .string (bs (headT f (f.headL) (pushL false) k)) ∧ Below wc.heap.size wc wr)
              case atStart => exact ⟨0, by omega, rfl, by rw [headT_zero], Below.refl _ _⟩
              case round =>
                obtain ⟨k, hk, rfl, rfl, hbr⟩ := hrel
                have Hbr := Lib.hid hbr
                clear hbr
                by_cases hlt : k < ks.length
                · obtain ⟨g, rfl, hcell⟩ := Hrow.out k hlt
                  have hkf : k < f.parts.length := by rw [← Hkl.out]; exact hlt
                  have hcell1 : wc.cell? ⟨g, k, none⟩ = some (kidV ks[k]) := by rw [hcell, List.getElem?_map, List.getElem?_eq_getElem hlt]; rfl
                  have hcell2 : wr.cell? ⟨g, k, none⟩ = some (kidV ks[k]) := (Hbr.out.cell (World.block_lt_of_cell? wc _ hcell1)).trans hcell1
                  have hpk := (Hts.out.world Hbr.out).2 k f.parts[k] ks[k] (List.getElem?_eq_getElem hkf) (List.getElem?_eq_getElem hlt)
                  have hmem : f.parts[k] ∈ f.parts := List.getElem_mem hkf
                  have hsz := Fm.size_parts hmem
                  have hcall := Ih.out false f.parts[k] ks[k] S wr (by omega) hpk (by have := part_text_le hmem; omega)
                  have Hcall := Lib.hid hcall
                  have hsnoc := headT_succ f (f.headL) (pushL false) k hkf
                  have hs1 : (bs ((pushL false) f.parts[k])).size ≤ 600000 := by rw [bs_size]; have := part_text_le hmem; have := pushL_le false f.parts[k]; omega
                  have hs2 : (bs (headT f (f.headL) (pushL false) k)).size ≤ 3 + 2 * 600000 := by rw [bs_size]; exact headT_len f (f.headL) (pushL false) k 3 600000 (head_len f) (fun p hp => by have := part_text_le hp; have := pushL_le false p; omega)
                  have Hsnoc := Lib.hid hsnoc
                  clear hcell hcell1 hpk hmem hsz hcall hsnoc
                  go_wp2_with (go_at_call 35; refine (Hcall.out).mono ?_; rintro e w' ⟨rfl, hb2⟩)
                  go_roundg (gk - 1)
                  case rel => exact ⟨k + 1, by omega, by go_num, str_eq (by rw [append_bs, Hsnoc.out, bs_data, bs_data]), Hbr.out.trans (hb2.mono Hbr.out.size)⟩
                  case measure => omega
                · have hk2 : k = ks.length := by omega
                  have htk := headT_all f (f.headL) (pushL false) k (by rw [hk2, Hkl.out]; exact Nat.le_refl _)
                  have Htk := Lib.hid htk
                  have hs2 : (bs (headT f (f.headL) (pushL false) k)).size ≤ 3 + 2 * 600000 := by rw [bs_size]; exact headT_len f (f.headL) (pushL false) k 3 600000 (head_len f) (fun p hp => by have := part_text_le hp; have := pushL_le false p; omega)
                  clear htk hk2
                  go_wp2_with fail
                  go_ret
                  refine ⟨?_, Hbc.out.trans (Hbr.out.mono Hbc.out.size)⟩
                  show Ending.returned (.string _) = .returned (.string _)
                  rw [Hpk.out]
                  first
                    | (rw [append_bs, bs_data, Htk.out]; rfl)
                    | (rw [Htk.out]; rfl)
            | false =>
              obtain ⟨rfl, hbc⟩ := hcut
              have Hbc := Lib.hid hbc
              have ht2 := TreeIn.world Ht.out hbc
              clear hc0 hc1 hc2 hcv1 hcv2 hcv3 hlb ha0 ha1 hsz hsz1 hbc
              obtain ⟨ks, vsv2, psv, hc0, _, hc2, _, _, _, hr, hts⟩ := node_cells ht2
              obtain ⟨a, cap, rfl, hkl, hrow⟩ := row_slice hr
              have hkl2 : ks.length = f.parts.length := hts.1
              have hp2 := parts_le f
              have hkl3 : ks.length ≤ 2 := by omega
              have Hrow := Lib.hid hrow
              have Hts := Lib.hid hts
              have Hkl := Lib.hid hkl2
              clear hrow hts hkl hkl2 hr ht2
              go_wp2_with fail
              go_loopg [5, 51] ks.length (fun c o i wr => ∃ k : Nat, k + c = ks.length ∧ i = .int .i64 k ∧ o = .string (bs (headT f (f.headL) (pushL false) k)) ∧ Below wc.heap.size wc wr)
              case atStart => exact ⟨0, by omega, rfl, by rw [headT_zero], Below.refl _ _⟩
              case round =>
                obtain ⟨k, hk, rfl, rfl, hbr⟩ := hrel
                have Hbr := Lib.hid hbr
                clear hbr
                by_cases hlt : k < ks.length
                · obtain ⟨g, rfl, hcell⟩ := Hrow.out k hlt
                  have hkf : k < f.parts.length := by rw [← Hkl.out]; exact hlt
                  have hcell1 : wc.cell? ⟨g, k, none⟩ = some (kidV ks[k]) := by rw [hcell, List.getElem?_map, List.getElem?_eq_getElem hlt]; rfl
                  have hcell2 : wr.cell? ⟨g, k, none⟩ = some (kidV ks[k]) := (Hbr.out.cell (World.block_lt_of_cell? wc _ hcell1)).trans hcell1
                  have hpk := (Hts.out.world Hbr.out).2 k f.parts[k] ks[k] (List.getElem?_eq_getElem hkf) (List.getElem?_eq_getElem hlt)
                  have hmem : f.parts[k] ∈ f.parts := List.getElem_mem hkf
                  have hsz := Fm.size_parts hmem
                  have hcall := Ih.out false f.parts[k] ks[k] S wr (by omega) hpk (by have := part_text_le hmem; omega)
                  have Hcall := Lib.hid hcall
                  have hsnoc := headT_succ f (f.headL) (pushL false) k hkf
                  have hs1 : (bs ((pushL false) f.parts[k])).size ≤ 600000 := by rw [bs_size]; have := part_text_le hmem; have := pushL_le false f.parts[k]; omega
                  have hs2 : (bs (headT f (f.headL) (pushL false) k)).size ≤ 3 + 2 * 600000 := by rw [bs_size]; exact headT_len f (f.headL) (pushL false) k 3 600000 (head_len f) (fun p hp => by have := part_text_le hp; have := pushL_le false p; omega)
                  have Hsnoc := Lib.hid hsnoc
                  clear hcell hcell1 hpk hmem hsz hcall hsnoc
                  go_wp2_with (go_at_call 35; refine (Hcall.out).mono ?_; rintro e w' ⟨rfl, hb2⟩)
                  go_roundg (gk - 1)
                  case rel => exact ⟨k + 1, by omega, by go_num, str_eq (by rw [append_bs, Hsnoc.out, bs_data, bs_data]), Hbr.out.trans (hb2.mono Hbr.out.size)⟩
                  case measure => omega
                · have hk2 : k = ks.length := by omega
                  have htk := headT_all f (f.headL) (pushL false) k (by rw [hk2, Hkl.out]; exact Nat.le_refl _)
                  have Htk := Lib.hid htk
                  have hs2 : (bs (headT f (f.headL) (pushL false) k)).size ≤ 3 + 2 * 600000 := by rw [bs_size]; exact headT_len f (f.headL) (pushL false) k 3 600000 (head_len f) (fun p hp => by have := part_text_le hp; have := pushL_le false p; omega)
                  clear htk hk2
                  go_wp2_with fail
                  go_ret
                  refine ⟨?_, Hbc.out.trans (Hbr.out.mono Hbc.out.size)⟩
                  show Ending.returned (.string _) = .returned (.string _)
                  rw [Hpk.out]
                  first
                    | (rw [append_bs, bs_data, Htk.out]; rfl)
                    | (rw [Htk.out]; rfl)
      | false =>
        have hopt := op_turn f hkeep h33
        have Hopt := Lib.hid hopt
        have hpk := push_turn f hkeep h33 o
        have Hpk := Lib.hid hpk
        have Hkeep := Lib.hid hkeep
        clear hpk hkeep h33 hopt
        cases o with
        | true =>
          have hcv1 : (convert 22 9 vsv).run Tryd.prog w.drew = .ok (.string (bs (f.vars.map vb))) w.drew := conv_row (w := w.drew) (base := 0) (n := f.vars.length) (by rw [← vars_bytes]; exact hr1)
          have hcv2 : ∀ o, (convert 22 9 vsv).run Tryd.prog (w.alloc o).drew = .ok (.string (bs (f.vars.map vb))) (w.alloc o).drew := fun o => conv_row (w := (w.alloc o).drew) (base := 0) (n := f.vars.length) (by rw [← vars_bytes]; exact ownsRow_world hr1 ((Below.refl _ _).alloc (Nat.le_refl _) _).drew)
          have hcv3 : (convert 22 9 (.slice (some ⟨w.heap.size, 0, none⟩) 1 1)).run Tryd.prog (w.alloc (.cells #[.int .u8 (turnB f.op).toNat] 5)).drew = .ok (.string (bs [(turnB f.op)])) (w.alloc (.cells #[.int .u8 (turnB f.op).toNat] 5)).drew := conv_row (new_byte w (turnB f.op))
          have hlb := World.block_lt_of_cell? w _ hc0
          have ha0 : ∀ o, (w.alloc o).cell? ⟨b, 0, none⟩ = some (.int .u8 f.op.toNat) := fun o => (World.cell?_of_block (w := w) (Below.heap_alloc w o b hlb)).trans hc0
          have ha1 : ∀ o, (w.alloc o).cell? ⟨b, 1, none⟩ = some vsv := fun o => (World.cell?_of_block (w := w) (Below.heap_alloc w o b hlb)).trans hc1
          have hsz : (bs (f.vars.map vb)).size ≤ 2 := by rw [bs_size]; have := vars_le f; simp; omega
          have hsz1 : (bs [(turnB f.op)]).size ≤ 1 := by rw [bs_size]; simp
          clear ht hr1
          go_enter Tryd.func35, Tryd.ntmps35
          go_upto_if 16 with (fail)
          go_step
          go_step
          go_cut [27] (fun v wx => v = .bool (keepB f.op) ∧ wx = w)
          case first =>
            go_wp2_with fail
            all_goals
              go_meet
              case rel => exact ⟨by congr 1; simp [keepB, *], rfl⟩
          case rest =>
            obtain ⟨rfl, rfl⟩ := hcut
            rw [Hkeep.out]
            go_upto_region 22 with (go_at_call 68; refine (turned_calls f.op _ Hopt.out).mono ?_; rintro e w' ⟨rfl, rfl⟩)
            go_cut [9] (fun s wx => s = .string (bs ((turnB f.op) :: f.vars.map vb)) ∧ Below wc.heap.size wc wx)
            case first =>
              go_region
              all_goals
                go_wp2_with fail
                go_meet
                case rel => exact ⟨str_eq (append_bs _ _), ((Below.refl _ _).alloc (Nat.le_refl _) _).drew⟩
            case rest =>
              obtain ⟨rfl, hbc⟩ := hcut
              have Hbc := Lib.hid hbc
              have ht2 := TreeIn.world Ht.out hbc
              clear hc0 hc1 hc2 hcv1 hcv2 hcv3 hlb ha0 ha1 hsz hsz1 hbc
              obtain ⟨ks, vsv2, psv, hc0, _, hc2, _, _, _, hr, hts⟩ := node_cells ht2
              obtain ⟨a, cap, rfl, hkl, hrow⟩ := row_slice hr
              have hkl2 : ks.length = f.parts.length := hts.1
              have hp2 := parts_le f
              have hkl3 : ks.length ≤ 2 := by omega
              have Hrow := Lib.hid hrow
              have Hts := Lib.hid hts
              have Hkl := Lib.hid hkl2
              clear hrow hts hkl hkl2 hr ht2
              go_wp2_with fail
              go_loopg [9, 85] ks.length (fun c o i wr => ∃ k : Nat, k + c = ks.length ∧ i = .int .i64 k ∧ o = .string (bs (headT f ((turnB f.op) :: f.vars.map vb) (pushL true) k)) ∧ Below wc.heap.size wc wr)
              case atStart => exact ⟨0, by omega, rfl, by rw [headT_zero], Below.refl _ _⟩
              case round =>
                obtain ⟨k, hk, rfl, rfl, hbr⟩ := hrel
                have Hbr := Lib.hid hbr
                clear hbr
                by_cases hlt : k < ks.length
                · obtain ⟨g, rfl, hcell⟩ := Hrow.out k hlt
                  have hkf : k < f.parts.length := by rw [← Hkl.out]; exact hlt
                  have hcell1 : wc.cell? ⟨g, k, none⟩ = some (kidV ks[k]) := by rw [hcell, List.getElem?_map, List.getElem?_eq_getElem hlt]; rfl
                  have hcell2 : wr.cell? ⟨g, k, none⟩ = some (kidV ks[k]) := (Hbr.out.cell (World.block_lt_of_cell? wc _ hcell1)).trans hcell1
                  have hpk := (Hts.out.world Hbr.out).2 k f.parts[k] ks[k] (List.getElem?_eq_getElem hkf) (List.getElem?_eq_getElem hlt)
                  have hmem : f.parts[k] ∈ f.parts := List.getElem_mem hkf
                  have hsz := Fm.size_parts hmem
                  have hcall := Ih.out true f.parts[k] ks[k] S wr (by omega) hpk (by have := part_text_le hmem; omega)
                  have Hcall := Lib.hid hcall
                  have hsnoc := headT_succ f ((turnB f.op) :: f.vars.map vb) (pushL true) k hkf
                  have hs1 : (bs ((pushL true) f.parts[k])).size ≤ 600000 := by rw [bs_size]; have := part_text_le hmem; have := pushL_le true f.parts[k]; omega
                  have hs2 : (bs (headT f ((turnB f.op) :: f.vars.map vb) (pushL true) k)).size ≤ 3 + 2 * 600000 := by rw [bs_size]; exact headT_len f ((turnB f.op) :: f.vars.map vb) (pushL true) k 3 600000 (by have := vars_le f; simp; omega) (fun p hp => by have := part_text_le hp; have := pushL_le true p; omega)
                  have Hsnoc := Lib.hid hsnoc
                  clear hcell hcell1 hpk hmem hsz hcall hsnoc
                  go_wp2_with (go_at_call 35; refine (Hcall.out).mono ?_; rintro e w' ⟨rfl, hb2⟩)
                  go_roundg (gk - 1)
                  case rel => exact ⟨k + 1, by omega, by go_num, str_eq (by rw [append_bs, Hsnoc.out, bs_data, bs_data]), Hbr.out.trans (hb2.mono Hbr.out.size)⟩
                  case measure => omega
                · have hk2 : k = ks.length := by omega
                  have htk := headT_all f ((turnB f.op) :: f.vars.map vb) (pushL true) k (by rw [hk2, Hkl.out]; exact Nat.le_refl _)
                  have Htk := Lib.hid htk
                  have hs2 : (bs (headT f ((turnB f.op) :: f.vars.map vb) (pushL true) k)).size ≤ 3 + 2 * 600000 := by rw [bs_size]; exact headT_len f ((turnB f.op) :: f.vars.map vb) (pushL true) k 3 600000 (by have := vars_le f; simp; omega) (fun p hp => by have := part_text_le hp; have := pushL_le true p; omega)
                  clear htk hk2
                  go_wp2_with fail
                  go_ret
                  refine ⟨?_, Hbc.out.trans (Hbr.out.mono Hbc.out.size)⟩
                  show Ending.returned (.string _) = .returned (.string _)
                  rw [Hpk.out, Htk.out]
                  first
                    | rfl
                    | simp
        | false =>
          have hcv1 : (convert 22 9 vsv).run Tryd.prog w.drew = .ok (.string (bs (f.vars.map vb))) w.drew := conv_row (w := w.drew) (base := 0) (n := f.vars.length) (by rw [← vars_bytes]; exact hr1)
          have hcv2 : ∀ o, (convert 22 9 vsv).run Tryd.prog (w.alloc o).drew = .ok (.string (bs (f.vars.map vb))) (w.alloc o).drew := fun o => conv_row (w := (w.alloc o).drew) (base := 0) (n := f.vars.length) (by rw [← vars_bytes]; exact ownsRow_world hr1 ((Below.refl _ _).alloc (Nat.le_refl _) _).drew)
          have hcv3 : (convert 22 9 (.slice (some ⟨w.heap.size, 0, none⟩) 1 1)).run Tryd.prog (w.alloc (.cells #[.int .u8 f.op.toNat] 5)).drew = .ok (.string (bs [f.op])) (w.alloc (.cells #[.int .u8 f.op.toNat] 5)).drew := conv_row (new_byte w f.op)
          have hlb := World.block_lt_of_cell? w _ hc0
          have ha0 : ∀ o, (w.alloc o).cell? ⟨b, 0, none⟩ = some (.int .u8 f.op.toNat) := fun o => (World.cell?_of_block (w := w) (Below.heap_alloc w o b hlb)).trans hc0
          have ha1 : ∀ o, (w.alloc o).cell? ⟨b, 1, none⟩ = some vsv := fun o => (World.cell?_of_block (w := w) (Below.heap_alloc w o b hlb)).trans hc1
          have hsz : (bs (f.vars.map vb)).size ≤ 2 := by rw [bs_size]; have := vars_le f; simp; omega
          have hsz1 : (bs [f.op]).size ≤ 1 := by rw [bs_size]; simp
          clear ht hr1
          go_enter Tryd.func35, Tryd.ntmps35
          go_upto_if 16 with (fail)
          go_step
          go_step
          go_cut [27] (fun v wx => v = .bool (keepB f.op) ∧ wx = w)
          case first =>
            go_wp2_with fail
            all_goals
              go_meet
              case rel => exact ⟨by congr 1; simp [keepB, *], rfl⟩
          case rest =>
            obtain ⟨rfl, rfl⟩ := hcut
            rw [Hkeep.out]
            go_upto_region 22 with (go_at_call 68; refine (turned_calls f.op _ Hopt.out).mono ?_; rintro e w' ⟨rfl, rfl⟩)
            go_cut [9] (fun s wx => s = .string (bs (f.op :: f.vars.map vb)) ∧ Below wc.heap.size wc wx)
            case first =>
              go_region
              all_goals
                go_wp2_with fail
                go_meet
                case rel => exact ⟨str_eq (append_bs _ _), ((Below.refl _ _).alloc (Nat.le_refl _) _).drew⟩
            case rest =>
              obtain ⟨rfl, hbc⟩ := hcut
              have Hbc := Lib.hid hbc
              have ht2 := TreeIn.world Ht.out hbc
              clear hc0 hc1 hc2 hcv1 hcv2 hcv3 hlb ha0 ha1 hsz hsz1 hbc
              obtain ⟨ks, vsv2, psv, hc0, _, hc2, _, _, _, hr, hts⟩ := node_cells ht2
              obtain ⟨a, cap, rfl, hkl, hrow⟩ := row_slice hr
              have hkl2 : ks.length = f.parts.length := hts.1
              have hp2 := parts_le f
              have hkl3 : ks.length ≤ 2 := by omega
              have Hrow := Lib.hid hrow
              have Hts := Lib.hid hts
              have Hkl := Lib.hid hkl2
              clear hrow hts hkl hkl2 hr ht2
              go_wp2_with fail
              go_loopg [9, 85] ks.length (fun c o i wr => ∃ k : Nat, k + c = ks.length ∧ i = .int .i64 k ∧ o = .string (bs (headT f (f.op :: f.vars.map vb) (pushL false) k)) ∧ Below wc.heap.size wc wr)
              case atStart => exact ⟨0, by omega, rfl, by rw [headT_zero], Below.refl _ _⟩
              case round =>
                obtain ⟨k, hk, rfl, rfl, hbr⟩ := hrel
                have Hbr := Lib.hid hbr
                clear hbr
                by_cases hlt : k < ks.length
                · obtain ⟨g, rfl, hcell⟩ := Hrow.out k hlt
                  have hkf : k < f.parts.length := by rw [← Hkl.out]; exact hlt
                  have hcell1 : wc.cell? ⟨g, k, none⟩ = some (kidV ks[k]) := by rw [hcell, List.getElem?_map, List.getElem?_eq_getElem hlt]; rfl
                  have hcell2 : wr.cell? ⟨g, k, none⟩ = some (kidV ks[k]) := (Hbr.out.cell (World.block_lt_of_cell? wc _ hcell1)).trans hcell1
                  have hpk := (Hts.out.world Hbr.out).2 k f.parts[k] ks[k] (List.getElem?_eq_getElem hkf) (List.getElem?_eq_getElem hlt)
                  have hmem : f.parts[k] ∈ f.parts := List.getElem_mem hkf
                  have hsz := Fm.size_parts hmem
                  have hcall := Ih.out false f.parts[k] ks[k] S wr (by omega) hpk (by have := part_text_le hmem; omega)
                  have Hcall := Lib.hid hcall
                  have hsnoc := headT_succ f (f.op :: f.vars.map vb) (pushL false) k hkf
                  have hs1 : (bs ((pushL false) f.parts[k])).size ≤ 600000 := by rw [bs_size]; have := part_text_le hmem; have := pushL_le false f.parts[k]; omega
                  have hs2 : (bs (headT f (f.op :: f.vars.map vb) (pushL false) k)).size ≤ 3 + 2 * 600000 := by rw [bs_size]; exact headT_len f (f.op :: f.vars.map vb) (pushL false) k 3 600000 (by have := vars_le f; simp; omega) (fun p hp => by have := part_text_le hp; have := pushL_le false p; omega)
                  have Hsnoc := Lib.hid hsnoc
                  clear hcell hcell1 hpk hmem hsz hcall hsnoc
                  go_wp2_with (go_at_call 35; refine (Hcall.out).mono ?_; rintro e w' ⟨rfl, hb2⟩)
                  go_roundg (gk - 1)
                  case rel => exact ⟨k + 1, by omega, by go_num, str_eq (by rw [append_bs, Hsnoc.out, bs_data, bs_data]), Hbr.out.trans (hb2.mono Hbr.out.size)⟩
                  case measure => omega
                · have hk2 : k = ks.length := by omega
                  have htk := headT_all f (f.op :: f.vars.map vb) (pushL false) k (by rw [hk2, Hkl.out]; exact Nat.le_refl _)
                  have Htk := Lib.hid htk
                  have hs2 : (bs (headT f (f.op :: f.vars.map vb) (pushL false) k)).size ≤ 3 + 2 * 600000 := by rw [bs_size]; exact headT_len f (f.op :: f.vars.map vb) (pushL false) k 3 600000 (by have := vars_le f; simp; omega) (fun p hp => by have := part_text_le hp; have := pushL_le false p; omega)
                  clear htk hk2
                  go_wp2_with fail
                  go_ret
                  refine ⟨?_, Hbc.out.trans (Hbr.out.mono Hbc.out.size)⟩
                  show Ending.returned (.string _) = .returned (.string _)
                  rw [Hpk.out, Htk.out]
                  first
                    | rfl
                    | simp

end Go.Proofs.YteonanaihklgmaaDoor
