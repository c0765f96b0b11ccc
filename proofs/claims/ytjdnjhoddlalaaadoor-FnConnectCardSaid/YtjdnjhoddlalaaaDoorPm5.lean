/-
  Laws of the functions that the claim reaches, one after the other (packed by a program of the prover's: Form, Rank, SpecRank, Free, FmDraw3, FmDraw4, Syn, Perms, Sem). Conditions: texts below the reach.
-/
import Derived.Test.YtjdnjhoddlalaaaDoorPm4
import Derived.Test.YtjdnjhoddlalaaaDoorPm0
import Derived.Test.YtjdnjhoddlalaaaDoorPm2
set_option linter.unusedSimpArgs false
set_option linter.unusedVariables false

namespace Go.Proofs.YtjdnjhoddlalaaaDoor
open Go.RowKit
open Pl

/-- a tree of f was laid -/
def TreePost (f : Fm) (w : World) (e : Ending) (w' : World) : Prop := ∃ b, e = .returned (kidV b) ∧ TreeAt w.heap.size w' f b ∧ Below w.heap.size w w'

set_option maxHeartbeats 400000 in
theorem parseFormula_no (s : ByteArray) (w : World) (h : ¬ IsFm s.data.toList) :
    Calls Tryd.prog 47 #[.string s] w fun e w' => e = .returned (.pointer none) ∧ Below w.heap.size w w' := by
  have H := Lib.hid h
  clear h
  by_cases hs : s.size ≤ 4000
  · go_enter Tryd.func47, Tryd.ntmps47
    go_upto_region 4 with (go_at_call 86; refine (parsePart_calls s.size s w (Nat.le_refl _) (by omega)).mono ?_; rintro e w1 ⟨hb1, ⟨hno, rest, rfl⟩ | ⟨f, rest, b, hp, htr, rfl⟩⟩)
    · have Hb1 := Lib.hid hb1
      clear hno hb1
      go_wp2_with fail
      all_goals (go_ret; exact ⟨rfl, Hb1.out⟩)
    · have hr : rest.data.toList ≠ [] := by
        intro e
        apply H.out
        have e1 := parse_some.1 hp
        rw [e] at e1
        exact ⟨by rw [← Lib.size_eq]; exact hs, f, by simpa using e1⟩
      have hr0 : 0 < rest.size := by
        rw [Lib.size_eq]
        exact List.length_pos_iff.2 hr
      obtain ⟨hne, hne2⟩ := empty_facts hr0
      have Hb1 := Lib.hid hb1
      clear hp htr hb1 hr
      go_wp2_with fail
      go_ret
      exact ⟨rfl, Hb1.out⟩
  · go_enter Tryd.func47, Tryd.ntmps47
    go_wp2_with fail
    go_ret
    exact ⟨rfl, Below.refl _ _⟩

set_option maxHeartbeats 400000 in
theorem parseFormula_yes (s : ByteArray) (f : Fm) (w : World) (hs : s.size ≤ 4000) (h : s.data.toList = f.text) :
    Calls Tryd.prog 47 #[.string s] w (TreePost f w) := by
  have H := Lib.hid h
  clear h
  go_enter Tryd.func47, Tryd.ntmps47
  go_upto_region 4 with (go_at_call 86; refine (parsePart_calls s.size s w (Nat.le_refl _) (by omega)).mono ?_; rintro e w1 ⟨hb1, ⟨hno, rest, rfl⟩ | ⟨g, rest, b, hp, htr, rfl⟩⟩)
  · exact absurd (H.out.trans (List.append_nil _).symm) (parse_none.1 hno f [])
  · have e1 := parse_some.1 hp
    rw [H.out] at e1
    obtain ⟨rfl, e2⟩ := Fm.text_inj f g [] _ (by simpa using e1)
    have hl2 : rest.toList = [] := by rw [ByteArray.toList_eq]; exact e2.symm
    have g1 : (rest.toList == []) = true := by rw [hl2]; rfl
    have g2 : rest.toList.isEmpty = true := by rw [hl2]; rfl
    have Hb1 := Lib.hid hb1
    have Htr := Lib.hid htr
    clear hp htr hb1 e1 e2 hl2
    go_wp2_with fail
    go_ret
    exact ⟨b, rfl, Htr.out, Hb1.out⟩

end Go.Proofs.YtjdnjhoddlalaaaDoor

namespace Go.Proofs.YtjdnjhoddlalaaaDoor
open Go.RowKit
open Pl

/-- the cells of a node that a walk reads -/
theorem node_cells {S : Nat → Prop} {w : World} {f : Fm} {b : Nat} (h : TreeIn S w f b) :
    ∃ ks vsv psv, w.cell? ⟨b, 0, none⟩ = some (.int .u8 f.op.toNat) ∧ w.cell? ⟨b, 1, none⟩ = some vsv ∧ w.cell? ⟨b, 2, none⟩ = some psv ∧
      w.cell? ⟨b, 3, none⟩ = some (.int .i64 f.freeBits) ∧ w.cell? ⟨b, 4, none⟩ = some (.int .i64 f.allBits) ∧
      w.ownsRow 0 5 1 vsv f.vars.length (f.vars.map fun v => byteV (vb v)) ∧ w.ownsRow 0 68 1 psv ks.length (ks.map kidV) ∧ TreesIn S w f.parts ks := by
  obtain ⟨ks, ⟨_, vsv, psv, hb, h1, _, h2, _⟩, h3⟩ := h.open
  exact ⟨ks, vsv, psv, cell_at hb 0, cell_at hb 1, cell_at hb 2, cell_at hb 3, cell_at hb 4, h1, h2, h3⟩

/-- a row that may be empty, as a slice -/
theorem row_slice {w : World} {base : Nat} {e : TypeId} {v : Value} {n : Nat} {xs : List Value} (h : w.ownsRow base e 1 v n xs) :
    ∃ a cap, v = .slice a n cap ∧ xs.length = n ∧ (∀ j, j < n → ∃ g, a = some ⟨g, 0, none⟩ ∧ w.cell? ⟨g, j, none⟩ = xs[j]?) := by
  rcases Nat.eq_zero_or_pos n with h0 | h0
  · subst h0
    obtain ⟨hl, ⟨rfl, _⟩ | ⟨g, cap, cur, rfl, _⟩⟩ := h
    · exact ⟨_, _, rfl, by simpa using hl, fun j hj => absurd hj (Nat.not_lt_zero _)⟩
    · exact ⟨_, _, rfl, by simpa using hl, fun j hj => absurd hj (Nat.not_lt_zero _)⟩
  · obtain ⟨g, cap, rfl, _, _, _, _, hc⟩ := row_open h h0
    exact ⟨_, _, rfl, by simpa using h.1, fun j hj => ⟨g, rfl, hc j hj⟩⟩

theorem parts_le (f : Fm) : f.parts.length ≤ 2 := by cases f <;> simp [Fm.parts]
theorem vars_le (f : Fm) : f.vars.length ≤ 2 := by cases f <;> simp [Fm.vars]

theorem part_text_le {f p : Fm} (h : p ∈ f.parts) : p.text.length ≤ f.text.length := by
  cases f <;> simp [Fm.parts] at h
  case neg => subst h; simp [Fm.text]
  case con => rcases h with h | h <;> subst h <;> simp [Fm.text] <;> omega
  case dis => rcases h with h | h <;> subst h <;> simp [Fm.text] <;> omega
  case qu => subst h; simp [Fm.text]; omega

theorem foldmax_lt {m : Nat} : ∀ (ps : List Fm), m < 100000 → (∀ p ∈ ps, p.rank < 100000) → ps.foldl (fun m p => max m p.rank) m < 100000 := by
  intro ps
  induction ps generalizing m with
  | nil => intro h _; exact h
  | cons p ps ih =>
    intro h hp
    exact ih (Nat.max_lt.2 ⟨h, hp p (by simp)⟩) (fun q hq => hp q (by simp [hq]))

set_option maxHeartbeats 400000 in
theorem rank_calls (n : Nat) : ∀ (f : Fm) (b : Nat) (S : Nat → Prop) (w : World), f.size ≤ n → TreeIn S w f b → f.text.length ≤ 4000 →
    Calls Tryd.prog 68 #[kidV b] w fun e w' => e = .returned (.int .i64 f.rank) ∧ w = w' := by
  induction n with
  | zero => intro f b S w hn _ _; cases f <;> simp [Fm.size] at hn
  | succ n ih =>
    intro f b S w hn ht hl
    obtain ⟨ks, vsv, psv, hc0, _, hc2, _, _, _, hr, hts⟩ := node_cells ht
    obtain ⟨a, cap, rfl, hkl, hrow⟩ := row_slice hr
    have hkl2 : ks.length = f.parts.length := hts.1
    have hp2 := parts_le f
    have hkl3 : ks.length ≤ 2 := by omega
    have Ih := Lib.hid ih
    have Hrow := Lib.hid hrow
    have Hts := Lib.hid hts
    have Hkl := Lib.hid hkl2
    have hrk : ∀ p ∈ f.parts, p.rank < 100000 := fun p hp => by have := rank_le p; have := part_text_le hp; omega
    have Hrk := Lib.hid hrk
    have hfin := rank_eq f
    have hrl := rank_le f
    have Hfin := Lib.hid hfin
    clear ih hrow hts hkl hkl2 hr hrk hfin ht
    go_enter Tryd.func68, Tryd.ntmps68
    go_wp2_with fail
    go_loop [3, 11] (fun m i => ∃ k : Nat, k ≤ ks.length ∧ i = .int .i64 k ∧ m = .int .i64 ((f.parts.take k).foldl (fun m p => max m p.rank) 0 : Nat)) (fun _ i => ks.length - (intOf i).toNat)
    case atStart => exact ⟨0, Nat.zero_le _, rfl, rfl⟩
    case round =>
      obtain ⟨k, hk, rfl, rfl⟩ := hrel
      have hm : ((f.parts.take k).foldl (fun m p => max m p.rank) 0) < 100000 := foldmax_lt _ (by decide) (fun p hp => Hrk.out p (List.mem_of_mem_take hp))
      by_cases hlt : k < ks.length
      · obtain ⟨g, rfl, hcell⟩ := Hrow.out k hlt
        have hkf : k < f.parts.length := by rw [← Hkl.out]; exact hlt
        have hcell2 : w.cell? ⟨g, k, none⟩ = some (kidV ks[k]) := by rw [hcell, List.getElem?_map, List.getElem?_eq_getElem hlt]; rfl
        have hpk := Hts.out.2 k f.parts[k] ks[k] (List.getElem?_eq_getElem hkf) (List.getElem?_eq_getElem hlt)
        have hmem : f.parts[k] ∈ f.parts := List.getElem_mem hkf
        have hsz := Fm.size_parts hmem
        have hcall := Ih.out f.parts[k] ks[k] S w (by omega) hpk (by have := part_text_le hmem; omega)
        have Hcall := Lib.hid hcall
        have hrk2 := Hrk.out _ hmem
        have hsnoc : (f.parts.take (k + 1)).foldl (fun m p => max m p.rank) 0 = max ((f.parts.take k).foldl (fun m p => max m p.rank) 0) f.parts[k].rank := by
          rw [List.take_succ_eq_append_getElem hkf, List.foldl_append]; rfl
        have Hsnoc := Lib.hid hsnoc
        clear hcell hpk hmem hsz hcall hsnoc
        go_wp2_with (go_at_call 68; refine (Hcall.out).mono ?_; rintro e w' ⟨rfl, rfl⟩)
        go_round
        case rel => exact ⟨k + 1, by omega, by go_num, by rw [Hsnoc.out]; congr 1; first | (split <;> omega) | omega⟩
        case measure => simp [intOf]; omega
      · have hk2 : k = ks.length := by omega
        have htk : f.parts.take k = f.parts := List.take_of_length_le (by rw [hk2, Hkl.out]; exact Nat.le_refl _)
        have Htk := Lib.hid htk
        clear htk hk2
        cases hco : isCoB f.op with
        | true =>
          have hadd : rankAdd f.op = f.op.toNat - 48 := by simp [rankAdd, hco]
          have hop : 50 ≤ f.op.toNat ∧ f.op.toNat ≤ 52 := by
            simp only [isCoB, Bool.or_eq_true, beq_iff_eq] at hco
            rcases hco with (h | h) | h <;> rw [h] <;> decide
          obtain ⟨hop1, hop2⟩ : 50 ≤ (f.op.toNat : Int) ∧ (f.op.toNat : Int) ≤ 52 := by omega
          have Hadd := Lib.hid hadd
          have Hco := Lib.hid hco
          clear hadd hco hop
          go_wp2_with (first | (go_at_call 99; refine (isCounting_at f.op _ Hco.out _ _ hc0).mono ?_; rintro e w' ⟨rfl, rfl⟩))
          go_ret
          refine ⟨ret_int ?_, rfl⟩
          rw [Hfin.out, Hadd.out, Htk.out]
          omega
        | false =>
          cases hqu : isQuB f.op with
          | true =>
            have hadd : rankAdd f.op = 1 := by simp [rankAdd, hco, hqu]
            have Hadd := Lib.hid hadd
            have Hco := Lib.hid hco
            have Hqu := Lib.hid hqu
            clear hadd hco hqu
            go_wp2_with (first | (go_at_call 99; refine (isCounting_at f.op _ Hco.out _ _ hc0).mono ?_; rintro e w' ⟨rfl, rfl⟩) | (go_at_call 100; refine (isQuantifier_at f.op _ Hqu.out _ _ hc0).mono ?_; rintro e w' ⟨rfl, rfl⟩))
            go_ret
            refine ⟨ret_int ?_, rfl⟩
            rw [Hfin.out, Hadd.out, Htk.out]
            omega
          | false =>
            have hadd : rankAdd f.op = 0 := by simp [rankAdd, hco, hqu]
            have Hadd := Lib.hid hadd
            have Hco := Lib.hid hco
            have Hqu := Lib.hid hqu
            clear hadd hco hqu
            go_wp2_with (first | (go_at_call 99; refine (isCounting_at f.op _ Hco.out _ _ hc0).mono ?_; rintro e w' ⟨rfl, rfl⟩) | (go_at_call 100; refine (isQuantifier_at f.op _ Hqu.out _ _ hc0).mono ?_; rintro e w' ⟨rfl, rfl⟩))
            go_ret
            refine ⟨ret_int ?_, rfl⟩
            rw [Hfin.out, Hadd.out, Htk.out]
            omega

/-- what a walk over the parts is told -/
def AnyPost (f : Fm) (e : Ending) : Prop := (f.parts.any Fm.counts = false ∧ e = .returned (.int .i64 (-1))) ∨ (f.parts.any Fm.counts = true ∧ ∃ k : Nat, k ≤ 2 ∧ e = .returned (.int .i64 k))

/-- a bit as the walk reckons it -/
theorem shr_bit (m k : Nat) (hm : m < 16) (hk : k < 4) : (bits .and .i64 ((m : Int) / 2 ^ k) 1 == 1) = m.testBit k := by
  have h : ∀ (m : Fin 16) (k : Fin 4), (bits .and .i64 ((m.val : Int) / 2 ^ k.val) 1 == 1) = m.val.testBit k.val := by decide +kernel
  exact h ⟨m, hm⟩ ⟨k, hk⟩

theorem abcd_at (k : Nat) (hk : k < 4) : (ByteArray.mk #[97, 98, 99, 100]).extract k (k + 1) = bs [UInt8.ofNat (97 + k)] := by
  apply eq_bs
  rw [Lib.extract_data]
  match k, hk with
  | 0, _ => rfl
  | 1, _ => rfl
  | 2, _ => rfl
  | 3, _ => rfl

set_option maxHeartbeats 400000 in
theorem varsText_calls (m : Nat) (hm : m < 16) (w : World) :
    Calls Tryd.prog 69 #[.int .i64 m] w fun e w' => e = .returned (.string (bs (varsL m 4))) ∧ w = w' := by
  go_enter Tryd.func69, Tryd.ntmps69
  go_wp2_with fail
  go_loop [3, 5] (fun o i => ∃ k : Nat, k ≤ 4 ∧ i = .int .i64 k ∧ o = .string (bs (varsL m k))) (fun _ i => 4 - (intOf i).toNat)
  case atStart => exact ⟨0, by omega, rfl, rfl⟩
  case round =>
    obtain ⟨k, hk, rfl, rfl⟩ := hrel
    have hsz : (bs (varsL m k)).size ≤ 4 := by rw [bs_size]; have := varsL_len m k; omega
    by_cases hlt : k < 4
    · have hbit := shr_bit m k hm hlt
      cases hb : m.testBit k with
      | true =>
        rw [hb] at hbit
        have Hb := Lib.hid hb
        clear hb
        go_wp2_with fail
        go_round
        case rel => exact ⟨k + 1, by omega, by go_num, str_eq (by rw [varsL_yes Hb.out, abcd_at k hlt, append_bs]; rfl)⟩
        case measure => simp [intOf]; omega
      | false =>
        rw [hb] at hbit
        have Hb := Lib.hid hb
        clear hb
        go_wp2_with fail
        go_round
        case rel => exact ⟨k + 1, by omega, by go_num, str_eq (by rw [varsL_no Hb.out])⟩
        case measure => simp [intOf]; omega
    · obtain rfl : k = 4 := by omega
      go_wp2_with fail
      go_ret
      exact ⟨rfl, rfl⟩

end Go.Proofs.YtjdnjhoddlalaaaDoor

namespace Go.Proofs.YtjdnjhoddlalaaaDoor
open Go.RowKit
open Pl

theorem findB_quant (b : UInt8) : decide (0 ≤ findB b [65, 83, 50, 51, 52]) = isQuB b := by
  have h := findB_nonneg (c := b) (l := [65, 83, 50, 51, 52])
  rw [Bool.eq_iff_iff, decide_eq_true_iff, h]
  simp [isQuB, or_assoc]

theorem l2Quant_calls (b : UInt8) (r : Bool) (hr : isQuB b = r) (w : World) :
    Calls Tryd.prog 94 #[.int .u8 b.toNat] w fun e w' => e = .returned (.bool r) ∧ w = w' := by
  have Hr := Lib.hid hr
  clear hr
  go_enter Tryd.func94, Tryd.ntmps94
  go_wp2_with (go_at_call 103; refine (l15Find_calls _ b _ (by decide)).mono ?_; rintro e w' ⟨rfl, rfl⟩)
  go_ret
  exact ⟨ret_bool (by rw [← Hr.out]; exact findB_quant b), rfl⟩

/-- a formula at an index -/
theorem at_op {s : ByteArray} {k : Nat} {f : Fm} {r : List UInt8} (h : s.data.toList.drop k = f.text ++ r) :
    ∃ hk : k < s.size, s[k] = f.op ∧ k + f.text.length ≤ s.size := by
  have h1 := congrArg List.length h
  rw [List.length_drop, List.length_append, ← Lib.size_eq] at h1
  have hp := f.text_pos
  have hk : k < s.size := by omega
  refine ⟨hk, ?_, by omega⟩
  rw [drop_at hk, Fm.text_eq] at h
  simp only [List.cons_append, List.cons.injEq] at h
  exact h.1

theorem at_two {l : List UInt8} {k : Nat} {b : UInt8} {p q : Fm} {r : List UInt8} (h : l.drop k = b :: (p.text ++ q.text) ++ r) :
    l.drop (k + 1) = p.text ++ (q.text ++ r) ∧ l.drop (k + 1 + p.text.length) = q.text ++ r := by
  have h1 : l.drop (k + 1) = p.text ++ (q.text ++ r) := drop_add_of (p := [b]) (by simpa using h)
  exact ⟨h1, drop_add_of h1⟩

theorem at_one {l : List UInt8} {k : Nat} {b : UInt8} {p : Fm} {r : List UInt8} (h : l.drop k = b :: p.text ++ r) : l.drop (k + 1) = p.text ++ r := drop_add_of (p := [b]) (by simpa using h)
theorem at_qu {l : List UInt8} {k : Nat} {b c : UInt8} {p : Fm} {r : List UInt8} (h : l.drop k = b :: c :: p.text ++ r) : l.drop (k + 2) = p.text ++ r := drop_add_of (p := [b, c]) (by simpa using h)

/-- -1 for a text that is no formula, else a number -/
noncomputable def numV (l : List UInt8) (g : Fm → Nat) : Int := match parse l with | some (f, []) => if l.length ≤ 4000 then (g f : Int) else -1 | _ => -1

theorem numV_yes {l : List UInt8} {f : Fm} (g : Fm → Nat) (h : l = f.text) (hl : l.length ≤ 4000) : numV l g = g f := by
  unfold numV
  rw [parse_some.2 (show l = f.text ++ [] by rw [h]; simp)]
  simp [hl]

theorem numV_no {l : List UInt8} (g : Fm → Nat) (h : ¬ IsFm l) : numV l g = -1 := by
  unfold numV
  cases hp : parse l with
  | none => rfl
  | some x =>
    obtain ⟨f, r⟩ := x
    cases r with
    | nil =>
      have := parse_some.1 hp
      by_cases hl : l.length ≤ 4000
      · exact absurd ⟨hl, f, by simpa using this⟩ h
      · simp [hl]
    | cons a r => rfl

/-- a formula, or not -/
theorem fm_cases (s : ByteArray) : (fmB s.data.toList = false ∧ ¬ IsFm s.data.toList) ∨ ∃ f : Fm, fmB s.data.toList = true ∧ s.data.toList = f.text ∧ s.size ≤ 4000 ∧ f.text.length ≤ 4000 := by
  by_cases h : IsFm s.data.toList
  · obtain ⟨hl, f, hf⟩ := h
    exact .inr ⟨f, fmB_true.2 ⟨hl, f, hf⟩, hf, by rw [Lib.size_eq]; exact hl, by rw [← hf]; exact hl⟩
  · exact .inl ⟨fmB_false.2 h, h⟩

theorem RankOf_impl (s : ByteArray) (w : World) :
    Calls Tryd.prog 26 #[.string s] w fun e w' => e = .returned (.int .i64 (numV s.data.toList Fm.rank)) ∧ Below w.heap.size w w' := by
  rcases fm_cases s with ⟨hb, hno⟩ | ⟨f, hb, hf, hs4, hl4⟩
  · have hv := numV_no Fm.rank hno
    rw [hv]
    have Hno := Lib.hid hno
    clear hb hv hno
    go_enter Tryd.func26, Tryd.ntmps26
    go_wp2_with (go_at_call 47; refine (parseFormula_no s w Hno.out).mono ?_; rintro e w1 ⟨rfl, hb1⟩)
    go_ret
    exact ⟨rfl, hb1⟩
  · have hv := numV_yes Fm.rank hf (by rw [hf]; exact hl4)
    rw [hv]
    have Hf := Lib.hid hf
    clear hb hv hf
    go_enter Tryd.func26, Tryd.ntmps26
    go_wp2_with (first | (go_at_call 47; refine (parseFormula_yes s f w hs4 Hf.out).mono ?_; rintro e w1 ⟨b, rfl, htr, hb1⟩; have Htr := Lib.hid htr; clear htr) | (go_at_call 68; refine (rank_calls f.size f b _ _ (Nat.le_refl _) Htr.out hl4).mono ?_; rintro e w' ⟨rfl, rfl⟩))
    go_ret
    exact ⟨rfl, hb1⟩


end Go.Proofs.YtjdnjhoddlalaaaDoor

namespace Go.Proofs.YtjdnjhoddlalaaaDoor
open Go.RowKit
open Pl
set_option linter.unusedSimpArgs false

theorem varI_of {s : ByteArray} {k : Nat} {v : Fin 4} {r : List UInt8} (h : s.data.toList.drop k = vb v :: r) : varI s.data.toList k = v.val := by
  have h1 : s.data.toList[k]? = some (vb v) := by
    have h2 : (s.data.toList.drop k)[0]? = some (vb v) := by rw [h]; rfl
    simpa using h2
  unfold varI
  rw [h1]
  simp [varOf_vb]

theorem l2Var_of (s : ByteArray) (k : Nat) (v : Fin 4) (r : List UInt8) (m : Int) (w : World) (hs : s.size ≤ 4000) (h : s.data.toList.drop k = vb v :: r) (hm : m = k) :
    Calls Tryd.prog 93 #[.string s, .int .i64 m] w fun e w' => e = .returned (.int .i64 v.val) ∧ w = w' := by
  subst hm
  have hk : k < s.size := by
    have := congrArg List.length h
    rw [List.length_drop, ← Lib.size_eq] at this
    simp at this; omega
  rw [← varI_of h]
  exact l2Var_at s k w (by unfold maxLen; omega) (by omega) (by unfold maxLen; omega)

theorem one_bit (v : Fin 4) : wrap64 (2 ^ v.val) = ((1 <<< v.val : Nat) : Int) := by revert v; decide +kernel

set_option maxHeartbeats 1000000 in
set_option maxRecDepth 100000 in
theorem l2Free_calls (n : Nat) : ∀ (f : Fm) (s : ByteArray) (k : Nat) (r : List UInt8) (m : Int) (w : World), f.size ≤ n → s.data.toList.drop k = f.text ++ r → s.size ≤ 4000 → m = k →
    Calls Tryd.prog 55 #[.string s, .int .i64 m] w fun e w' => e = .returned (.tuple #[.int .i64 f.freeBits, .int .i64 (k + f.text.length : Nat)]) ∧ w = w' := by
  induction n with
  | zero => intro f s k r m w hn; cases f <;> simp [Fm.size] at hn
  | succ n ih =>
    intro f s k r m w hn hd hs hm
    subst hm
    obtain ⟨hk1, hop, hle⟩ := at_op hd
    have hk := hk1
    have Ih := Lib.hid ih
    clear ih
    cases f with
    | tru =>
      have hk := hk1
      have hb : (s[k].toNat : Int) = 116 := by rw [hop]; rfl
      clear hop hd
      go_enter Tryd.func55, Tryd.ntmps55
      go_wp2_with fail
      go_ret2
      exact ⟨rfl, rfl⟩
    | fls =>
      have hk := hk1
      have hb : (s[k].toNat : Int) = 102 := by rw [hop]; rfl
      clear hop hd
      go_enter Tryd.func55, Tryd.ntmps55
      go_wp2_with fail
      go_ret2
      exact ⟨rfl, rfl⟩
    | pr v =>
      have hb : (s[k].toNat : Int) = 80 := by rw [hop]; rfl
      have h1 := l2Var_of s (k + 1) v r ((k : Int) + 1) w hs (drop_add_of (p := [80]) (by simpa [Fm.text] using hd)) (by omega)
      have H1 := Lib.hid h1
      have hv3 : (v.val : Int) < 4 := by omega
      simp only [Fm.text, List.length_cons, List.length_nil] at hle
      clear hop hd h1
      go_enter Tryd.func55, Tryd.ntmps55
      go_wp2_with (go_at_call 93; refine (H1.out).mono ?_; rintro e w' ⟨rfl, rfl⟩)
      go_ret2
      exact ⟨ret_pair (by show Value.int .i64 _ = Value.int .i64 _; congr 1 <;> exact one_bit v) (by show Value.int .i64 _ = Value.int .i64 _; congr 1 <;> simp [Fm.text] <;> omega), rfl⟩
    | eq v u =>
      have hb : (s[k].toNat : Int) = 61 := by rw [hop]; rfl
      have h1 := l2Var_of s (k + 1) v (vb u :: r) ((k : Int) + 1) w hs (drop_add_of (p := [61]) (by simpa [Fm.text] using hd)) (by omega)
      have h2 := l2Var_of s (k + 2) u r ((k : Int) + 2) w hs (drop_add_of (p := [61, vb v]) (by simpa [Fm.text] using hd)) (by omega)
      have H1 := Lib.hid h1
      have H2 := Lib.hid h2
      have hv3 : (v.val : Int) < 4 := by omega
      have hu3 : (u.val : Int) < 4 := by omega
      simp only [Fm.text, List.length_cons, List.length_nil] at hle
      clear hop hd h1 h2
      go_enter Tryd.func55, Tryd.ntmps55
      go_wp2_with (first | (go_at_call 93; ((with_reducible refine (H1.out).mono ?_); rintro e w' ⟨rfl, rfl⟩)) | (go_at_call 93; ((with_reducible refine (H2.out).mono ?_); rintro e w' ⟨rfl, rfl⟩)))
      go_ret2
      exact ⟨ret_pair (by show Value.int .i64 _ = Value.int .i64 _; congr 1 <;> (rw [one_bit v]; exact or_bit _ u (bit_lt v))) (by show Value.int .i64 _ = Value.int .i64 _; congr 1 <;> simp [Fm.text] <;> omega), rfl⟩
    | rel v u =>
      have hb : (s[k].toNat : Int) = 69 := by rw [hop]; rfl
      have h1 := l2Var_of s (k + 1) v (vb u :: r) ((k : Int) + 1) w hs (drop_add_of (p := [69]) (by simpa [Fm.text] using hd)) (by omega)
      have h2 := l2Var_of s (k + 2) u r ((k : Int) + 2) w hs (drop_add_of (p := [69, vb v]) (by simpa [Fm.text] using hd)) (by omega)
      have H1 := Lib.hid h1
      have H2 := Lib.hid h2
      have hv3 : (v.val : Int) < 4 := by omega
      have hu3 : (u.val : Int) < 4 := by omega
      simp only [Fm.text, List.length_cons, List.length_nil] at hle
      clear hop hd h1 h2
      go_enter Tryd.func55, Tryd.ntmps55
      go_wp2_with (first | (go_at_call 93; ((with_reducible refine (H1.out).mono ?_); rintro e w' ⟨rfl, rfl⟩)) | (go_at_call 93; ((with_reducible refine (H2.out).mono ?_); rintro e w' ⟨rfl, rfl⟩)))
      go_ret2
      exact ⟨ret_pair (by show Value.int .i64 _ = Value.int .i64 _; congr 1 <;> (rw [one_bit v]; exact or_bit _ u (bit_lt v))) (by show Value.int .i64 _ = Value.int .i64 _; congr 1 <;> simp [Fm.text] <;> omega), rfl⟩
    | neg p =>
      have hb : (s[k].toNat : Int) = 33 := by rw [hop]; rfl
      simp only [Fm.text, List.length_cons] at hle
      have hcall := Ih.out p s (k + 1) r ((k : Int) + 1) w (by simp [Fm.size] at hn; omega) (at_one hd) hs (by omega)
      have Hcall := Lib.hid hcall
      clear hop hcall hd
      go_enter Tryd.func55, Tryd.ntmps55
      go_wp2_with (go_at_call 55; refine (Hcall.out).mono ?_; rintro e w' ⟨rfl, rfl⟩)
      go_ret2
      exact ⟨ret_pair (by show Value.int .i64 _ = Value.int .i64 _; congr 1) (by show Value.int .i64 _ = Value.int .i64 _; congr 1 <;> simp [Fm.text] <;> omega), rfl⟩
    | con p q =>
      have hb : (s[k].toNat : Int) = 38 := by rw [hop]; rfl
      simp only [Fm.text, List.length_cons, List.length_append] at hle
      obtain ⟨hd1, hd2⟩ := at_two hd
      have hcall := Ih.out p s (k + 1) _ ((k : Int) + 1) w (by simp [Fm.size] at hn; omega) hd1 hs (by omega)
      have hcall2 := Ih.out q s (k + 1 + p.text.length) _ ((k + 1 + p.text.length : Nat) : Int) w (by simp [Fm.size] at hn; omega) hd2 hs rfl
      have hq0 : ∀ w, Calls Tryd.prog 94 #[.int .u8 38] w fun e w' => e = .returned (.bool false) ∧ w = w' := fun w => l2Quant_calls 38 false rfl w
      have Hcall := Lib.hid hcall
      have Hcall2 := Lib.hid hcall2
      have Hq0 := Lib.hid hq0
      clear hop hcall hcall2 hd hd1 hd2 hq0
      go_enter Tryd.func55, Tryd.ntmps55
      go_upto_region 13 with (first | (go_at_call 94; refine (Hq0.out _).mono ?_; rintro e w' ⟨rfl, rfl⟩) | (go_at_call 55; refine (Hcall.out).mono ?_; rintro e w' ⟨rfl, rfl⟩))
      go_wp2_with (go_at_call 55; refine (Hcall2.out).mono ?_; rintro e w' ⟨rfl, rfl⟩)
      go_ret2
      exact ⟨ret_pair (by show Value.int .i64 _ = Value.int .i64 _; congr 1 <;> exact or_nat _ _ (freeBits_lt p) (freeBits_lt q)) (by show Value.int .i64 _ = Value.int .i64 _; congr 1 <;> simp [Fm.text] <;> omega), rfl⟩
    | dis p q =>
      have hb : (s[k].toNat : Int) = 124 := by rw [hop]; rfl
      simp only [Fm.text, List.length_cons, List.length_append] at hle
      obtain ⟨hd1, hd2⟩ := at_two hd
      have hcall := Ih.out p s (k + 1) _ ((k : Int) + 1) w (by simp [Fm.size] at hn; omega) hd1 hs (by omega)
      have hcall2 := Ih.out q s (k + 1 + p.text.length) _ ((k + 1 + p.text.length : Nat) : Int) w (by simp [Fm.size] at hn; omega) hd2 hs rfl
      have hq0 : ∀ w, Calls Tryd.prog 94 #[.int .u8 124] w fun e w' => e = .returned (.bool false) ∧ w = w' := fun w => l2Quant_calls 124 false rfl w
      have Hcall := Lib.hid hcall
      have Hcall2 := Lib.hid hcall2
      have Hq0 := Lib.hid hq0
      clear hop hcall hcall2 hd hd1 hd2 hq0
      go_enter Tryd.func55, Tryd.ntmps55
      go_upto_region 13 with (first | (go_at_call 94; refine (Hq0.out _).mono ?_; rintro e w' ⟨rfl, rfl⟩) | (go_at_call 55; refine (Hcall.out).mono ?_; rintro e w' ⟨rfl, rfl⟩))
      go_wp2_with (go_at_call 55; refine (Hcall2.out).mono ?_; rintro e w' ⟨rfl, rfl⟩)
      go_ret2
      exact ⟨ret_pair (by show Value.int .i64 _ = Value.int .i64 _; congr 1 <;> exact or_nat _ _ (freeBits_lt p) (freeBits_lt q)) (by show Value.int .i64 _ = Value.int .i64 _; congr 1 <;> simp [Fm.text] <;> omega), rfl⟩
    | qu q v p =>
      have hd1 := at_qu hd
      have hdv : s.data.toList.drop (k + 1) = vb v :: (p.text ++ r) := drop_add_of (p := [q.b]) (by simpa [Fm.text] using hd)
      have h1 := l2Var_of s (k + 1) v _ ((k : Int) + 1) w hs hdv (by omega)
      simp only [Fm.text, List.length_cons] at hle
      have hcall := Ih.out p s (k + 2) _ ((k : Int) + 2) w (by simp [Fm.size] at hn; omega) hd1 hs (by omega)
      have hv3 : (v.val : Int) < 4 := by omega
      have H1 := Lib.hid h1
      have Hcall := Lib.hid hcall
      clear hcall hd hd1 hdv h1
      cases q with
      | A =>
        have hb : (s[k].toNat : Int) = 65 := by rw [hop]; rfl
        have hq0 : ∀ w, Calls Tryd.prog 94 #[.int .u8 65] w fun e w' => e = .returned (.bool true) ∧ w = w' := fun w => l2Quant_calls 65 true rfl w
        have Hq0 := Lib.hid hq0
        clear hop hq0
        go_enter Tryd.func55, Tryd.ntmps55
        go_wp2_with (first | (go_at_call 94; refine (Hq0.out _).mono ?_; rintro e w' ⟨rfl, rfl⟩) | (go_at_call 55; refine (Hcall.out).mono ?_; rintro e w' ⟨rfl, rfl⟩) | (go_at_call 93; refine (H1.out).mono ?_; rintro e w' ⟨rfl, rfl⟩))
        go_ret2
        exact ⟨ret_pair (by show Value.int .i64 _ = Value.int .i64 _; congr 1 <;> exact andNot_bit _ v (freeBits_lt p)) (by show Value.int .i64 _ = Value.int .i64 _; congr 1 <;> simp [Fm.text] <;> omega), rfl⟩
      | S =>
        have hb : (s[k].toNat : Int) = 83 := by rw [hop]; rfl
        have hq0 : ∀ w, Calls Tryd.prog 94 #[.int .u8 83] w fun e w' => e = .returned (.bool true) ∧ w = w' := fun w => l2Quant_calls 83 true rfl w
        have Hq0 := Lib.hid hq0
        clear hop hq0
        go_enter Tryd.func55, Tryd.ntmps55
        go_wp2_with (first | (go_at_call 94; refine (Hq0.out _).mono ?_; rintro e w' ⟨rfl, rfl⟩) | (go_at_call 55; refine (Hcall.out).mono ?_; rintro e w' ⟨rfl, rfl⟩) | (go_at_call 93; refine (H1.out).mono ?_; rintro e w' ⟨rfl, rfl⟩))
        go_ret2
        exact ⟨ret_pair (by show Value.int .i64 _ = Value.int .i64 _; congr 1 <;> exact andNot_bit _ v (freeBits_lt p)) (by show Value.int .i64 _ = Value.int .i64 _; congr 1 <;> simp [Fm.text] <;> omega), rfl⟩
      | c2 =>
        have hb : (s[k].toNat : Int) = 50 := by rw [hop]; rfl
        have hq0 : ∀ w, Calls Tryd.prog 94 #[.int .u8 50] w fun e w' => e = .returned (.bool true) ∧ w = w' := fun w => l2Quant_calls 50 true rfl w
        have Hq0 := Lib.hid hq0
        clear hop hq0
        go_enter Tryd.func55, Tryd.ntmps55
        go_wp2_with (first | (go_at_call 94; refine (Hq0.out _).mono ?_; rintro e w' ⟨rfl, rfl⟩) | (go_at_call 55; refine (Hcall.out).mono ?_; rintro e w' ⟨rfl, rfl⟩) | (go_at_call 93; refine (H1.out).mono ?_; rintro e w' ⟨rfl, rfl⟩))
        go_ret2
        exact ⟨ret_pair (by show Value.int .i64 _ = Value.int .i64 _; congr 1 <;> exact andNot_bit _ v (freeBits_lt p)) (by show Value.int .i64 _ = Value.int .i64 _; congr 1 <;> simp [Fm.text] <;> omega), rfl⟩
      | c3 =>
        have hb : (s[k].toNat : Int) = 51 := by rw [hop]; rfl
        have hq0 : ∀ w, Calls Tryd.prog 94 #[.int .u8 51] w fun e w' => e = .returned (.bool true) ∧ w = w' := fun w => l2Quant_calls 51 true rfl w
        have Hq0 := Lib.hid hq0
        clear hop hq0
        go_enter Tryd.func55, Tryd.ntmps55
        go_wp2_with (first | (go_at_call 94; refine (Hq0.out _).mono ?_; rintro e w' ⟨rfl, rfl⟩) | (go_at_call 55; refine (Hcall.out).mono ?_; rintro e w' ⟨rfl, rfl⟩) | (go_at_call 93; refine (H1.out).mono ?_; rintro e w' ⟨rfl, rfl⟩))
        go_ret2
        exact ⟨ret_pair (by show Value.int .i64 _ = Value.int .i64 _; congr 1 <;> exact andNot_bit _ v (freeBits_lt p)) (by show Value.int .i64 _ = Value.int .i64 _; congr 1 <;> simp [Fm.text] <;> omega), rfl⟩
      | c4 =>
        have hb : (s[k].toNat : Int) = 52 := by rw [hop]; rfl
        have hq0 : ∀ w, Calls Tryd.prog 94 #[.int .u8 52] w fun e w' => e = .returned (.bool true) ∧ w = w' := fun w => l2Quant_calls 52 true rfl w
        have Hq0 := Lib.hid hq0
        clear hop hq0
        go_enter Tryd.func55, Tryd.ntmps55
        go_wp2_with (first | (go_at_call 94; refine (Hq0.out _).mono ?_; rintro e w' ⟨rfl, rfl⟩) | (go_at_call 55; refine (Hcall.out).mono ?_; rintro e w' ⟨rfl, rfl⟩) | (go_at_call 93; refine (H1.out).mono ?_; rintro e w' ⟨rfl, rfl⟩))
        go_ret2
        exact ⟨ret_pair (by show Value.int .i64 _ = Value.int .i64 _; congr 1 <;> exact andNot_bit _ v (freeBits_lt p)) (by show Value.int .i64 _ = Value.int .i64 _; congr 1 <;> simp [Fm.text] <;> omega), rfl⟩

/-- the free variables' text, for a formula -/
noncomputable def txtV (l : List UInt8) (g : Fm → List UInt8) : ByteArray := match parse l with | some (f, []) => if l.length ≤ 4000 then bs (g f) else bs [] | _ => bs []

theorem txtV_yes {l : List UInt8} {f : Fm} (g : Fm → List UInt8) (h : l = f.text) (hl : l.length ≤ 4000) : txtV l g = bs (g f) := by
  unfold txtV
  rw [parse_some.2 (show l = f.text ++ [] by rw [h]; simp)]
  simp [hl]

theorem txtV_no {l : List UInt8} (g : Fm → List UInt8) (h : ¬ IsFm l) : txtV l g = bs [] := by
  unfold txtV
  cases hp : parse l with
  | none => rfl
  | some x =>
    obtain ⟨f, r⟩ := x
    cases r with
    | nil =>
      have := parse_some.1 hp
      by_cases hl : l.length ≤ 4000
      · exact absurd ⟨hl, f, by simpa using this⟩ h
      · simp [hl]
    | cons a r => rfl

def freeT (f : Fm) : List UInt8 := varsL f.freeBits 4

set_option maxHeartbeats 400000 in
theorem FreeVars_spec (s : ByteArray) (w : World) (hs2 : s.size ≤ maxLen) :
    Calls Tryd.prog 102 #[.string s] w fun e w' => e = .returned (.string (txtV s.data.toList freeT)) ∧ w = w' := by
  rcases fm_cases s with ⟨hb, hno⟩ | ⟨f, hb, hf, hs4, hl4⟩
  · rw [txtV_no freeT hno]
    have Hb := Lib.hid hb
    clear hb hno
    go_enter Tryd.func102, Tryd.ntmps102
    go_wp2_with (go_at_call 53; refine (FormulaValid_spec s _ hs2).mono ?_; rintro e w' ⟨rfl, rfl⟩; rw [Hb.out])
    go_ret
    exact ⟨rfl, rfl⟩
  · rw [txtV_yes freeT hf (by rw [hf]; exact hl4)]
    have hcall := l2Free_calls f.size f s 0 [] 0 w (Nat.le_refl _) (by simpa using hf) hs4 rfl
    have Hb := Lib.hid hb
    have Hcall := Lib.hid hcall
    have hm := freeBits_lt f
    clear hb hf hcall
    go_enter Tryd.func102, Tryd.ntmps102
    go_wp2_with (first | (go_at_call 53; refine (FormulaValid_spec s _ hs2).mono ?_; rintro e w' ⟨rfl, rfl⟩; rw [Hb.out]) | (go_at_call 55; refine (Hcall.out).mono ?_; rintro e w' ⟨rfl, rfl⟩))
    go_loop [3, 6] (fun o i => ∃ k : Nat, k ≤ 4 ∧ i = .int .i64 k ∧ o = .string (bs (varsL f.freeBits k))) (fun _ i => 4 - (intOf i).toNat)
    case atStart => exact ⟨0, by omega, rfl, rfl⟩
    case round =>
      obtain ⟨k, hk, rfl, rfl⟩ := hrel
      have hsz : (bs (varsL f.freeBits k)).size ≤ 4 := by rw [bs_size]; have := varsL_len f.freeBits k; omega
      by_cases hlt : k < 4
      · have hbit := shr_bit f.freeBits k hm hlt
        cases hb : f.freeBits.testBit k with
        | true =>
          rw [hb] at hbit
          have Hb2 := Lib.hid hb
          clear hb
          go_wp2_with fail
          go_round
          case rel => exact ⟨k + 1, by omega, by go_num, str_eq (by rw [varsL_yes Hb2.out, abcd_at k hlt, append_bs]; rfl)⟩
          case measure => simp [intOf]; omega
        | false =>
          rw [hb] at hbit
          have Hb2 := Lib.hid hb
          clear hb
          go_wp2_with fail
          go_round
          case rel => exact ⟨k + 1, by omega, by go_num, str_eq (by rw [varsL_no Hb2.out])⟩
          case measure => simp [intOf]; omega
      · obtain rfl : k = 4 := by omega
        go_wp2_with fail
        go_ret
        exact ⟨rfl, rfl⟩

theorem FreeVars_impl (s : ByteArray) (w : World) :
    Calls Tryd.prog 27 #[.string s] w fun e w' => e = .returned (.string (txtV s.data.toList freeT)) ∧ Below w.heap.size w w' := by
  rcases fm_cases s with ⟨hb, hno⟩ | ⟨f, hb, hf, hs4, hl4⟩
  · rw [txtV_no freeT hno]
    have Hno := Lib.hid hno
    clear hb hno
    go_enter Tryd.func27, Tryd.ntmps27
    go_wp2_with (go_at_call 47; refine (parseFormula_no s w Hno.out).mono ?_; rintro e w1 ⟨rfl, hb1⟩)
    go_ret
    exact ⟨rfl, hb1⟩
  · rw [txtV_yes freeT hf (by rw [hf]; exact hl4)]
    have Hf := Lib.hid hf
    clear hb hf
    go_enter Tryd.func27, Tryd.ntmps27
    go_wp2_with (first | (go_at_call 47; refine (parseFormula_yes s f w hs4 Hf.out).mono ?_; rintro e w1 ⟨b, rfl, htr, hb1⟩; obtain ⟨_, _, _, _, _, _, hc3, _⟩ := node_cells htr; clear htr) | (go_at_call 69; refine (varsText_calls _ (freeBits_lt f) _).mono ?_; rintro e w' ⟨rfl, rfl⟩))
    go_ret
    exact ⟨rfl, hb1⟩

end Go.Proofs.YtjdnjhoddlalaaaDoor

namespace Go.Proofs.YtjdnjhoddlalaaaDoor
open Go.RowKit
open Pl
set_option linter.unusedSimpArgs false
set_option linter.unusedVariables false

attribute [local go_sem ↓] Go.wp_at_zero Go.wp_at_succ

theorem txt_small (l : List UInt8) : (txtV l freeT).size ≤ 4 := by
  unfold txtV
  split
  · split
    · rw [bs_size]; exact varsL_len _ _
    · rw [bs_size]; simp
  · rw [bs_size]; simp

set_option maxHeartbeats 8000000 in
set_option maxRecDepth 100000 in
theorem l3Small_calls (rb : Nat) (A : Option Addr) (n cap p : Nat) (vs : ByteArray) (hv2 : 2 ≤ vs.size) (hv4 : vs.size ≤ 4) (w : World) (h : Rd w rb A n cap p) (hp : p ≤ 100000) :
    Calls Tryd.prog 70 #[.pointer (some ⟨rb, 0, none⟩), .string vs] w fun e w' => (∃ (i : Int) (s r t : ByteArray) (p' : Nat), e = .returned (.tuple #[stV i s r, .string t]) ∧ s.size ≤ 100 ∧ r.size ≤ 100 ∧ t.size ≤ 72 ∧ p' ≤ p + 800 ∧ Rd w' rb A n cap p') ∧ w.grownBy w' (some rb) := by
  have Hpk := Lib.hid (show ∀ (k : Int) (q : Nat) (V : World), k ≤ 1000 → q ≤ 1000000000000 → Rd V rb A n cap q → Calls Tryd.prog 46 #[.pointer (some ⟨rb, 0, none⟩), .int .i64 k] V fun e w' => PickP k e ∧ Rd w' rb A n cap (q + 1) ∧ V.grownBy w' (some rb) from fun k q V hk hq hr => pick_calls rb A n cap q k V hr (by omega) (by omega))
  have D0 := Lib.hid ((Dw.new h).alloc (.cells #[.int .i64 0, .string (bs []), .string (bs [])] 24))
  have X0 := Lib.hid (Bx.new w 24 #[.int .i64 0, .string (bs []), .string (bs [])])
  have hrl := h.box.lt
  clear h
  go_enter Tryd.func70, Tryd.ntmps70
  go_wp2_with fail
  refine (l1Open_calls rb A n cap p _ D0.out.rd (by omega)).mono ?_
  rintro e w1 ⟨⟨i, s, r, p1, rfl, _, hs, hr, hp1, hrd⟩, hg⟩
  have D1 := Lib.hid ((D0.out.step hrd hg).alloc (.cells #[.int .i64 i, .string s, .string r] 24))
  have X1 := Lib.hid ((X0.out.dw hg hrl).alloc (.cells #[.int .i64 i, .string s, .string r] 24))
  have Y1 := Lib.hid (Bx.new w1 24 #[.int .i64 i, .string s, .string r])
  have hws := (X0.out.dw hg hrl).lt
  have hrl1 : rb < w1.heap.size := by omega
  clear hrd hg
  go_wp2_with fail
  refine (Hpk.out 3 (p1) _ (by omega) (by omega) D1.out.rd).mono ?_
  rintro e w2 ⟨⟨m, rfl, m0, m1, _⟩, hr, hg⟩
  have D2 := Lib.hid (D1.out.step hr hg)
  have X2 := Lib.hid (X1.out.dw hg hrl)
  have Y2 := Lib.hid (Y1.out.dw hg hrl1)
  clear hr hg
  have m4 := m1 (by omega)
  clear m1
  go_wp2_with fail
  refine (Hpk.out 2 (p1 + 1) _ (by omega) (by omega) D2.out.rd).mono ?_
  rintro e w3 ⟨⟨b, rfl, b0, b1, _⟩, hr, hg⟩
  have D3 := Lib.hid (D2.out.step hr hg)
  have X3 := Lib.hid (X2.out.dw hg hrl)
  have Y3 := Lib.hid (Y2.out.dw hg hrl1)
  clear hr hg
  clear b1
  go_wp2_with fail
  refine (l2Draw_at rb A n cap (p1 + 1 + 1) vs (by omega) hv4 _ (1 + m) (by omega) (by omega) _ D3.out.rd (by omega)).mono ?_
  rintro e w4 ⟨⟨t, p4, rfl, t0, t1, hp4, hrd⟩, hg⟩
  have D4 := Lib.hid (D3.out.step hrd hg)
  have X4 := Lib.hid (X3.out.dw hg hrl)
  have Y4 := Lib.hid (Y3.out.dw hg hrl1)
  clear hrd hg
  go_wp2_with fail
  refine (FreeVars_spec t _ (by unfold maxLen; omega)).mono ?_
  rintro e w5 ⟨rfl, rfl⟩
  obtain ⟨V, hV⟩ : ∃ V, V = txtV t.data.toList freeT := ⟨_, rfl⟩
  have hVs : V.size ≤ 4 := by rw [hV]; exact txt_small _
  rw [← hV]
  clear hV
  go_wp2_with fail
  refine (Hpk.out 12 (p4) _ (by omega) (by omega) D4.out.rd).mono ?_
  rintro e w6 ⟨⟨x, rfl, x0, x1, _⟩, hr, hg⟩
  have D6 := Lib.hid (D4.out.step hr hg)
  have X6 := Lib.hid (X4.out.dw hg hrl)
  have Y6 := Lib.hid (Y4.out.dw hg hrl1)
  clear hr hg
  clear x1
  by_cases hx : 0 < x
  · go_wp2_with fail
    go_loopg [7, 9] (4 - vs.size) (fun c tv kv wr => ∃ (k : Nat) (t : ByteArray), k + c = 4 ∧ vs.size ≤ k ∧ kv = .int .i64 (k : Nat) ∧ tv = .string t ∧ 0 < t.size ∧ t.size ≤ 63 + 2 * k ∧ w6 = wr)
    case atStart => exact ⟨vs.size, t, by omega, Nat.le_refl _, rfl, rfl, t0, by omega, rfl⟩
    case round =>
      obtain ⟨k, t, hk, hvk, rfl, rfl, t0, t1, rfl⟩ := hrel
      by_cases hlt : k < 4
      · have hfc := fun W (c : UInt8) => l15Find_calls V c W (by unfold maxLen; omega)
        have Hfc := Lib.hid hfc
        clear hfc
        go_wp2_with fail
        refine (Hfc.out _ _).mono ?_
        rintro e w7 ⟨rfl, rfl⟩
        generalize findB _ _ = F
        by_cases hF : 0 ≤ F
        · go_wp2_with fail
          go_roundg (4 - k - 1)
          case rel => exact ⟨k + 1, _, by omega, by omega, by go_num, rfl, by simp only [ByteArray.size_append, ByteArray.size_extract]; omega, by simp only [ByteArray.size_append, ByteArray.size_extract]; have : (ByteArray.mk #[83]).size = 1 := rfl; omega, rfl⟩
          case measure => omega
        · go_wp2_with fail
          go_roundg (4 - k - 1)
          case rel => exact ⟨k + 1, t, by omega, by omega, by go_num, rfl, t0, by omega, rfl⟩
          case measure => omega
      · obtain rfl : k = 4 := by omega
        have hgk : gk = 0 := by omega
        subst hgk
        have D50 := Lib.hid D6.out.drew
        have X50 := Lib.hid (show Bx w6.drew w.heap.size 24 #[.int .i64 0, .string (bs []), .string (bs [])] from X6.out)
        have Y50 := Lib.hid (show Bx w6.drew w1.heap.size 24 #[.int .i64 i, .string s, .string r] from Y6.out)
        obtain ⟨m0, m1, m2⟩ := box_load Y50.out
        go_upto_region 10 with (fail)
        refine region_sched [(0, true), (1, true), (2, true), (3, false), (4, false), (5, true)] (fun w' : World => w'.cell? ⟨w1.heap.size, 0, none⟩ = some (.int .i64 i) ∧ w'.cell? ⟨w1.heap.size, 1, none⟩ = some (.string s) ∧ w'.cell? ⟨w1.heap.size, 2, none⟩ = some (.string r)) (by kernel_rfl) (by kernel_rfl) (by kernel_rfl) (by kernel_rfl) (fun _ _ _ _ h => h) ?_ (fun Q1 hQ1 => ?_)
        · exact ⟨m0, m1, m2⟩
        try simp only [List.append]
        refine sched_take' (v := .agg #[.int .i64 i, .string s, .string r]) (a' := ?_) rfl (by kernel_rfl) ?_ rfl ?_ ?_
        rotate_left 1
        · intro w hSw
          (try dsimp only at hSw)
          go_simp
          first | done | (obtain ⟨u0, u1, u2⟩ := hSw; simp [u0, u1, u2])
        · (try simp only [Act.put, List.setIfInBounds_toArray, List.set_cons_zero, List.set_cons_succ])
          try rfl
        refine sched_take' (v := ?_) (a' := ?_) rfl (by kernel_rfl) ?_ rfl ?_ ?_
        rotate_left 2
        · intro w hSw
          (try dsimp only at hSw)
          go_simp
          try with_reducible rfl
        · (try simp only [Act.put, List.setIfInBounds_toArray, List.set_cons_zero, List.set_cons_succ])
          try rfl
        refine sched_take' (v := ?_) (a' := ?_) rfl (by kernel_rfl) ?_ rfl ?_ ?_
        rotate_left 2
        · intro w hSw
          (try dsimp only at hSw)
          go_simp
          try with_reducible rfl
        · (try simp only [Act.put, List.setIfInBounds_toArray, List.set_cons_zero, List.set_cons_succ])
          try rfl
        refine sched_call rfl (by kernel_rfl) (fun K1 hK1 => ?_)
        go_simp
        refine (l2Bad_calls rb A n cap (p4 + 1) t (by omega) (by omega) _ D50.out.rd (by omega)).mono ?_
        rintro e w51 ⟨⟨tt, p51, rfl, tl, tp, hr⟩, hg⟩
        have D51 := Lib.hid (D50.out.step hr hg)
        have X51 := Lib.hid (X50.out.dw hg hrl)
        have Y51 := Lib.hid (Y50.out.dw hg hrl1)
        clear hr hg m0 m1 m2
        go_wp2_with fail
        refine hK1.out _ _ ?_ (sched_lay (a' := ?_) ?_ ?_)
        · exact box_load Y51.out
        rotate_left 1
        · (try simp only [Act.put, List.getElem_toArray, List.getElem_cons_succ, List.getElem_cons_zero, List.setIfInBounds_toArray, List.set_cons_zero, List.set_cons_succ])
          try rfl
        clear hK1 K1
        obtain ⟨c0, c1, c2⟩ := box_load X51.out
        have f0 := X51.out.free 0
        have f1 := X51.out.free 1
        have f2 := X51.out.free 2
        refine sched_call rfl (by kernel_rfl) (fun K1 hK1 => ?_)
        go_simp
        refine hK1.out _ _ ?_ (sched_lay (a' := ?_) ?_ ?_)
        · exact box_load (((Y51.out.far (p := ⟨w.heap.size, 0, none⟩) (by simp; omega) _).far (p := ⟨w.heap.size, 1, none⟩) (by simp; omega) _).far (p := ⟨w.heap.size, 2, none⟩) (by simp; omega) _)
        rotate_left 1
        · (try simp only [Act.put, List.getElem_toArray, List.getElem_cons_succ, List.getElem_cons_zero, List.setIfInBounds_toArray, List.set_cons_zero, List.set_cons_succ])
          try rfl
        clear hK1 K1
        refine sched_take' (v := ?_) (a' := ?_) rfl (by kernel_rfl) ?_ rfl ?_ ?_
        rotate_left 2
        · intro w hSw
          (try dsimp only at hSw)
          go_simp
          try with_reducible rfl
        · (try simp only [Act.put, List.setIfInBounds_toArray, List.set_cons_zero, List.set_cons_succ])
          try rfl
        refine sched_done (hQ1.out _ _ ?_)
        have D52 := Lib.hid (D51.out.puts (Nat.le_refl _) (.int .i64 i) (.string s) (.string r))
        obtain ⟨q0, q1, q2⟩ := box_load (X51.out.puts (.int .i64 i) (.string s) (.string r))
        go_wp2_with fail
        refine bodyPost_ret (v := .tuple #[stV i s r, .string tt]) ?_ rfl ⟨⟨i, s, r, tt, p51, rfl, hs, hr, by omega, by omega, D52.out.rd⟩, D52.out.gr⟩
        simp [results, Tryd.results70, go_sem, q0, q1, q2]
  ·
    have D50 := Lib.hid D6.out.drew
    have X50 := Lib.hid (show Bx w6.drew w.heap.size 24 #[.int .i64 0, .string (bs []), .string (bs [])] from X6.out)
    have Y50 := Lib.hid (show Bx w6.drew w1.heap.size 24 #[.int .i64 i, .string s, .string r] from Y6.out)
    obtain ⟨m0, m1, m2⟩ := box_load Y50.out
    go_upto_region 10 with (fail)
    refine region_sched [(0, true), (1, true), (2, true), (3, false), (4, false), (5, true)] (fun w' : World => w'.cell? ⟨w1.heap.size, 0, none⟩ = some (.int .i64 i) ∧ w'.cell? ⟨w1.heap.size, 1, none⟩ = some (.string s) ∧ w'.cell? ⟨w1.heap.size, 2, none⟩ = some (.string r)) (by kernel_rfl) (by kernel_rfl) (by kernel_rfl) (by kernel_rfl) (fun _ _ _ _ h => h) ?_ (fun Q1 hQ1 => ?_)
    · exact ⟨m0, m1, m2⟩
    try simp only [List.append]
    refine sched_take' (v := .agg #[.int .i64 i, .string s, .string r]) (a' := ?_) rfl (by kernel_rfl) ?_ rfl ?_ ?_
    rotate_left 1
    · intro w hSw
      (try dsimp only at hSw)
      go_simp
      first | done | (obtain ⟨u0, u1, u2⟩ := hSw; simp [u0, u1, u2])
    · (try simp only [Act.put, List.setIfInBounds_toArray, List.set_cons_zero, List.set_cons_succ])
      try rfl
    refine sched_take' (v := ?_) (a' := ?_) rfl (by kernel_rfl) ?_ rfl ?_ ?_
    rotate_left 2
    · intro w hSw
      (try dsimp only at hSw)
      go_simp
      try with_reducible rfl
    · (try simp only [Act.put, List.setIfInBounds_toArray, List.set_cons_zero, List.set_cons_succ])
      try rfl
    refine sched_take' (v := ?_) (a' := ?_) rfl (by kernel_rfl) ?_ rfl ?_ ?_
    rotate_left 2
    · intro w hSw
      (try dsimp only at hSw)
      go_simp
      try with_reducible rfl
    · (try simp only [Act.put, List.setIfInBounds_toArray, List.set_cons_zero, List.set_cons_succ])
      try rfl
    refine sched_call rfl (by kernel_rfl) (fun K1 hK1 => ?_)
    go_simp
    refine (l2Bad_calls rb A n cap (p4 + 1) t (by omega) (by omega) _ D50.out.rd (by omega)).mono ?_
    rintro e w51 ⟨⟨tt, p51, rfl, tl, tp, hr⟩, hg⟩
    have D51 := Lib.hid (D50.out.step hr hg)
    have X51 := Lib.hid (X50.out.dw hg hrl)
    have Y51 := Lib.hid (Y50.out.dw hg hrl1)
    clear hr hg m0 m1 m2
    go_wp2_with fail
    refine hK1.out _ _ ?_ (sched_lay (a' := ?_) ?_ ?_)
    · exact box_load Y51.out
    rotate_left 1
    · (try simp only [Act.put, List.getElem_toArray, List.getElem_cons_succ, List.getElem_cons_zero, List.setIfInBounds_toArray, List.set_cons_zero, List.set_cons_succ])
      try rfl
    clear hK1 K1
    obtain ⟨c0, c1, c2⟩ := box_load X51.out
    have f0 := X51.out.free 0
    have f1 := X51.out.free 1
    have f2 := X51.out.free 2
    refine sched_call rfl (by kernel_rfl) (fun K1 hK1 => ?_)
    go_simp
    refine hK1.out _ _ ?_ (sched_lay (a' := ?_) ?_ ?_)
    · exact box_load (((Y51.out.far (p := ⟨w.heap.size, 0, none⟩) (by simp; omega) _).far (p := ⟨w.heap.size, 1, none⟩) (by simp; omega) _).far (p := ⟨w.heap.size, 2, none⟩) (by simp; omega) _)
    rotate_left 1
    · (try simp only [Act.put, List.getElem_toArray, List.getElem_cons_succ, List.getElem_cons_zero, List.setIfInBounds_toArray, List.set_cons_zero, List.set_cons_succ])
      try rfl
    clear hK1 K1
    refine sched_take' (v := ?_) (a' := ?_) rfl (by kernel_rfl) ?_ rfl ?_ ?_
    rotate_left 2
    · intro w hSw
      (try dsimp only at hSw)
      go_simp
      try with_reducible rfl
    · (try simp only [Act.put, List.setIfInBounds_toArray, List.set_cons_zero, List.set_cons_succ])
      try rfl
    refine sched_done (hQ1.out _ _ ?_)
    have D52 := Lib.hid (D51.out.puts (Nat.le_refl _) (.int .i64 i) (.string s) (.string r))
    obtain ⟨q0, q1, q2⟩ := box_load (X51.out.puts (.int .i64 i) (.string s) (.string r))
    go_wp2_with fail
    refine bodyPost_ret (v := .tuple #[stV i s r, .string tt]) ?_ rfl ⟨⟨i, s, r, tt, p51, rfl, hs, hr, by omega, by omega, D52.out.rd⟩, D52.out.gr⟩
    simp [results, Tryd.results70, go_sem, q0, q1, q2]


/-- a structure, a text and a width that are drawn -/
def StFW (e : Ending) : Prop := ∃ (i : Int) (s r t : ByteArray) (x : Int), e = .returned (.tuple #[stV i s r, .string t, .int .i64 x]) ∧ s.size ≤ 100 ∧ r.size ≤ 100 ∧ t.size ≤ 72 ∧ -1 ≤ x ∧ x ≤ 4
theorem num_le4 {m : Int} (h : m ∈ [-1, 4, 0, 1]) : -1 ≤ m ∧ m ≤ 4 := by
  simp only [List.mem_cons, List.not_mem_nil, or_false] at h
  omega

set_option maxHeartbeats 8000000 in
set_option maxRecDepth 100000 in
theorem DrawCountPoints_calls (A : Option Addr) (n cap : Nat) (w : World) (h : ByRow w A n) (hn : n ≤ 1048576) (hc : n ≤ cap) (hm : cap ≤ maxLen) :
    Calls Tryd.prog 60 #[.slice A n cap] w fun e w' => StFW e ∧ Below w.heap.size w w' := by
  have Ho := Lib.hid (fun W h => l15Open_calls A n cap W h hn hc hm)
  have H0 := Lib.hid (h.call ((Below.refl w.heap.size w).alloc (Nat.le_refl _) (.cells #[.int .i64 0, .string (bs []), .string (bs [])] 24)))
  have X0 := Lib.hid (Bx.new w 24 #[.int .i64 0, .string (bs []), .string (bs [])])
  have B0 := Lib.hid ((Below.refl w.heap.size w).alloc (Nat.le_refl _) (.cells #[.int .i64 0, .string (bs []), .string (bs [])] 24))
  clear h hn hc hm
  go_enter Tryd.func60, Tryd.ntmps60
  go_wp2_with fail
  refine (Ho.out _ H0.out).mono ?_
  rintro e w1 ⟨⟨A', n', cap', rfl, hr⟩, hb⟩
  have F1 := Lib.hid (Fr.new (rb := w.heap.size + 1) B0.out hr hb (by simp))
  have X1 := Lib.hid (X0.out.call hb)
  have hws := F1.out.rd.box.lt
  clear hr hb
  have Hpk := Lib.hid (show ∀ (k : Int) (q : Nat) (V : World), k ≤ 1000 → q ≤ 1000000000000 → Rd V (w.heap.size + 1) A' n' cap' q → Calls Tryd.prog 46 #[.pointer (some ⟨(w.heap.size + 1), 0, none⟩), .int .i64 k] V fun e w' => PickP k e ∧ Rd w' (w.heap.size + 1) A' n' cap' (q + 1) ∧ V.grownBy w' (some (w.heap.size + 1)) from fun k q V hk hq hr => pick_calls (w.heap.size + 1) A' n' cap' q k V hr (by omega) (by omega))
  have Hof2 := Lib.hid (show ∀ (g q : Nat) (W : World), SCells W g [bs [97, 98], bs [97, 98, 99]] → g ≠ (w.heap.size + 1) → q ≤ 1000000000000 → Rd W (w.heap.size + 1) A' n' cap' q → Calls Tryd.prog 73 #[.pointer (some ⟨(w.heap.size + 1), 0, none⟩), .slice (some ⟨g, 0, none⟩) 2 2] W fun e w' => (∃ t : ByteArray, e = .returned (.string t) ∧ 2 ≤ t.size ∧ t.size ≤ 3) ∧ Rd w' (w.heap.size + 1) A' n' cap' (q + 1) ∧ W.grownBy w' (some (w.heap.size + 1)) from
    fun g q W h1 h2 h4 h3 => (of_calls (w.heap.size + 1) A' n' cap' q g 2 [bs [97, 98], bs [97, 98, 99]] W h3 (by omega) (by simp) (by simp) h1 h2).mono fun e w' ⟨⟨m, h4, h5⟩, h6⟩ => ⟨⟨m, h4, by
      simp only [List.mem_cons, List.not_mem_nil, or_false] at h5
      rcases h5 with rfl | rfl <;> decide⟩, h6⟩)
  have Hnum := Lib.hid (show ∀ (q g : Nat) (W : World), q ≤ 100000 → NCells W g [-1, 4, 0, 1] → g ≠ w.heap.size + 1 → Rd W (w.heap.size + 1) A' n' cap' q → Calls Tryd.prog 45 #[.pointer (some ⟨w.heap.size + 1, 0, none⟩), .slice (some ⟨g, 0, none⟩) 4 4] W fun e w' => (∃ k : Int, e = .returned (.int .i64 k) ∧ -1 ≤ k ∧ k ≤ 4) ∧ Rd w' (w.heap.size + 1) A' n' cap' (q + 1) ∧ W.grownBy w' (some (w.heap.size + 1)) from
    fun q g W hq h1 h2 h3 => (num_calls (w.heap.size + 1) A' n' cap' q g 4 [-1, 4, 0, 1] W h3 (by omega) (by simp) (by simp) h1 h2).mono fun e w' ⟨⟨m, h4, h5⟩, h6⟩ => ⟨⟨m, h4, num_le4 h5⟩, h6⟩)
  have F2 := Lib.hid (F1.out.alloc (.cells #[.string ⟨#[97, 98]⟩, .string ⟨#[97, 98, 99]⟩] 9))
  have X2 := Lib.hid (X1.out.alloc (.cells #[.string ⟨#[97, 98]⟩, .string ⟨#[97, 98, 99]⟩] 9))
  have N2 := Lib.hid (scells_new w1 [bs [97, 98], bs [97, 98, 99]] 9)
  go_wp2_with fail
  refine (Hof2.out _ _ _ (by exact N2.out) (by omega) (by omega) F2.out.rd).mono ?_
  rintro e w3 ⟨⟨vs, rfl, v0, v1⟩, hrd, hg⟩
  have F3 := Lib.hid (F2.out.step hrd hg)
  have X3 := Lib.hid (X2.out.grown' hg (by first | (simp; done) | (simp; omega)))
  clear hrd hg
  go_wp2_with fail
  refine (l3Small_calls _ _ _ _ _ vs v0 (by omega) _ F3.out.rd (by omega)).mono ?_
  rintro e wa ⟨⟨i, s, r, t, p5, rfl, hs, hr, ht, hp5, hrd⟩, hg⟩
  have F5 := Lib.hid (F3.out.step hrd hg)
  have X5 := Lib.hid (X3.out.grown' hg (by first | (simp; done) | (simp; omega)))
  clear hrd hg
  have HA := Lib.hid (show w.heap.size + 1 < wa.heap.size from F5.out.rd.box.lt)
  have F6 := Lib.hid (F5.out.alloc (.cells #[.int .i64 i, .string s, .string r] 24))
  have X6 := Lib.hid (X5.out.alloc (.cells #[.int .i64 i, .string s, .string r] 24))
  have Y6 := Lib.hid (Bx.new wa 24 #[.int .i64 i, .string s, .string r])
  go_wp2_with fail
  refine (Hpk.out 12 _ _ (by omega) (by omega) F6.out.rd).mono ?_
  rintro e w9 ⟨⟨m, rfl, _, _, _⟩, hrd, hg⟩
  have F9 := Lib.hid (F6.out.step hrd hg)
  have X9 := Lib.hid (X6.out.grown' hg (by first | (simp; done) | (simp; omega)))
  have Y9 := Lib.hid (Y6.out.grown' hg (by have := HA.out; simp; omega))
  clear hrd hg
  have HB := Lib.hid (show wa.heap.size < w9.heap.size from Y9.out.lt)
  by_cases e0 : m = 0
  · subst e0
    have F50 := Lib.hid F9.out.drew
    have X50 := Lib.hid (show Bx w9.drew w.heap.size 24 #[.int .i64 0, .string (bs []), .string (bs [])] from X9.out)
    have Y50 := Lib.hid (show Bx w9.drew wa.heap.size 24 #[.int .i64 i, .string s, .string r] from Y9.out)
    obtain ⟨m0, m1, m2⟩ := box_load Y50.out
    have F40 := Lib.hid (F50.out.alloc (.cells #[.int .i64 (-1), .int .i64 4, .int .i64 0, .int .i64 1] 3))
    have X40 := Lib.hid (X50.out.alloc (.cells #[.int .i64 (-1), .int .i64 4, .int .i64 0, .int .i64 1] 3))
    have Y40 := Lib.hid (Y50.out.alloc (.cells #[.int .i64 (-1), .int .i64 4, .int .i64 0, .int .i64 1] 3))
    have N4 := Lib.hid (ncells_new w9.drew [-1, 4, 0, 1] 3)
    go_upto_region 4 with (fail)
    refine region_sched [(0, true), (1, true), (2, true), (3, false), (4, false), (5, false), (6, true), (7, true)] (fun w' : World => w'.cell? ⟨wa.heap.size, 0, none⟩ = some (.int .i64 i) ∧ w'.cell? ⟨wa.heap.size, 1, none⟩ = some (.string s) ∧ w'.cell? ⟨wa.heap.size, 2, none⟩ = some (.string r)) (by kernel_rfl) (by kernel_rfl) (by kernel_rfl) (by kernel_rfl) (fun _ _ _ _ h => h) ?_ (fun Q1 hQ1 => ?_)
    · exact ⟨m0, m1, m2⟩
    try simp only [List.append]
    refine sched_take' (v := .agg #[.int .i64 i, .string s, .string r]) (a' := ?_) rfl (by kernel_rfl) ?_ rfl ?_ ?_
    rotate_left 1
    · intro w hSw
      (try dsimp only at hSw)
      go_simp
      first | done | (obtain ⟨u0, u1, u2⟩ := hSw; simp [u0, u1, u2])
    · (try simp only [Act.put, List.setIfInBounds_toArray, List.set_cons_zero, List.set_cons_succ])
      try rfl
    refine sched_take' (v := ?_) (a' := ?_) rfl (by kernel_rfl) ?_ rfl ?_ ?_
    rotate_left 2
    · intro w hSw
      (try dsimp only at hSw)
      go_simp
      try with_reducible rfl
    · (try simp only [Act.put, List.setIfInBounds_toArray, List.set_cons_zero, List.set_cons_succ])
      try rfl
    refine sched_take' (v := ?_) (a' := ?_) rfl (by kernel_rfl) ?_ rfl ?_ ?_
    rotate_left 2
    · intro w hSw
      (try dsimp only at hSw)
      go_simp
      try with_reducible rfl
    · (try simp only [Act.put, List.setIfInBounds_toArray, List.set_cons_zero, List.set_cons_succ])
      try rfl
    refine sched_call rfl (by kernel_rfl) (fun K1 hK1 => ?_)
    go_simp
    refine hK1.out _ _ ?_ (sched_lay (a' := ?_) ?_ ?_)
    · exact box_load Y40.out
    rotate_left 1
    · (try simp only [Act.put, List.getElem_toArray, List.getElem_cons_succ, List.getElem_cons_zero, List.setIfInBounds_toArray, List.set_cons_zero, List.set_cons_succ])
      try rfl
    clear hK1 K1
    refine sched_call rfl (by kernel_rfl) (fun K1 hK1 => ?_)
    go_simp
    refine (Hnum.out _ _ _ (by omega) (by have := N4.out; simpa using this) (by have := HA.out; have := HB.out; simp; omega) F40.out.rd).mono ?_
    rintro e w51 ⟨⟨x, rfl, hx0, hx1⟩, hrd, hg⟩
    have F51 := Lib.hid (F40.out.step hrd hg)
    have X51 := Lib.hid (X40.out.grown' hg (by first | (simp; done) | (simp; omega)))
    have Y51 := Lib.hid (Y40.out.grown' hg (by have := HA.out; simp; omega))
    clear hrd hg
    clear m0 m1 m2
    go_wp2_with fail
    refine hK1.out _ _ ?_ (sched_lay (a' := ?_) ?_ ?_)
    · exact box_load Y51.out
    rotate_left 1
    · (try simp only [Act.put, List.getElem_toArray, List.getElem_cons_succ, List.getElem_cons_zero, List.setIfInBounds_toArray, List.set_cons_zero, List.set_cons_succ])
      try rfl
    clear hK1 K1
    obtain ⟨c0, c1, c2⟩ := box_load X51.out
    have f0 := X51.out.free 0
    have f1 := X51.out.free 1
    have f2 := X51.out.free 2
    refine sched_call rfl (by kernel_rfl) (fun K1 hK1 => ?_)
    go_simp
    refine hK1.out _ _ ?_ (sched_lay (a' := ?_) ?_ ?_)
    · exact box_load (((Y51.out.far (p := ⟨w.heap.size, 0, none⟩) (by have := HA.out; simp; omega) _).far (p := ⟨w.heap.size, 1, none⟩) (by have := HA.out; simp; omega) _).far (p := ⟨w.heap.size, 2, none⟩) (by have := HA.out; simp; omega) _)
    rotate_left 1
    · (try simp only [Act.put, List.getElem_toArray, List.getElem_cons_succ, List.getElem_cons_zero, List.setIfInBounds_toArray, List.set_cons_zero, List.set_cons_succ])
      try rfl
    clear hK1 K1
    refine sched_take' (v := ?_) (a' := ?_) rfl (by kernel_rfl) ?_ rfl ?_ ?_
    rotate_left 2
    · intro w hSw
      (try dsimp only at hSw)
      go_simp
      try with_reducible rfl
    · (try simp only [Act.put, List.setIfInBounds_toArray, List.set_cons_zero, List.set_cons_succ])
      try rfl
    refine sched_take' (v := ?_) (a' := ?_) rfl (by kernel_rfl) ?_ rfl ?_ ?_
    rotate_left 2
    · intro w hSw
      (try dsimp only at hSw)
      go_simp
      try with_reducible rfl
    · (try simp only [Act.put, List.setIfInBounds_toArray, List.set_cons_zero, List.set_cons_succ])
      try rfl
    refine sched_done (hQ1.out _ _ ?_)
    have E1 := Lib.hid (below_puts F51.out.bel (Nat.le_refl _) (.int .i64 i) (.string s) (.string r))
    obtain ⟨q0, q1, q2⟩ := box_load (X51.out.puts (.int .i64 i) (.string s) (.string r))
    go_wp2_with fail
    refine bodyPost_ret (v := .tuple #[stV i s r, .string t, .int .i64 (x)]) ?_ rfl ⟨⟨i, s, r, t, _, rfl, hs, hr, ht, by omega, by omega⟩, E1.out⟩
    simp [results, Tryd.results60, go_sem, q0, q1, q2]
  · have f0 : (m == 0) = false := by rw [beq_eq_false_iff_ne]; exact e0
    have F50 := Lib.hid F9.out.drew
    have X50 := Lib.hid (show Bx w9.drew w.heap.size 24 #[.int .i64 0, .string (bs []), .string (bs [])] from X9.out)
    have Y50 := Lib.hid (show Bx w9.drew wa.heap.size 24 #[.int .i64 i, .string s, .string r] from Y9.out)
    obtain ⟨m0, m1, m2⟩ := box_load Y50.out
    go_upto_region 5 with (fail)
    refine region_sched [(0, true), (1, true), (2, true), (3, false), (4, true), (5, false), (6, true), (7, true)] (fun w' : World => w'.cell? ⟨wa.heap.size, 0, none⟩ = some (.int .i64 i) ∧ w'.cell? ⟨wa.heap.size, 1, none⟩ = some (.string s) ∧ w'.cell? ⟨wa.heap.size, 2, none⟩ = some (.string r)) (by kernel_rfl) (by kernel_rfl) (by kernel_rfl) (by kernel_rfl) (fun _ _ _ _ h => h) ?_ (fun Q1 hQ1 => ?_)
    · exact ⟨m0, m1, m2⟩
    try simp only [List.append]
    refine sched_take' (v := .agg #[.int .i64 i, .string s, .string r]) (a' := ?_) rfl (by kernel_rfl) ?_ rfl ?_ ?_
    rotate_left 1
    · intro w hSw
      (try dsimp only at hSw)
      go_simp
      first | done | (obtain ⟨u0, u1, u2⟩ := hSw; simp [u0, u1, u2])
    · (try simp only [Act.put, List.setIfInBounds_toArray, List.set_cons_zero, List.set_cons_succ])
      try rfl
    refine sched_take' (v := ?_) (a' := ?_) rfl (by kernel_rfl) ?_ rfl ?_ ?_
    rotate_left 2
    · intro w hSw
      (try dsimp only at hSw)
      go_simp
      try with_reducible rfl
    · (try simp only [Act.put, List.setIfInBounds_toArray, List.set_cons_zero, List.set_cons_succ])
      try rfl
    refine sched_take' (v := ?_) (a' := ?_) rfl (by kernel_rfl) ?_ rfl ?_ ?_
    rotate_left 2
    · intro w hSw
      (try dsimp only at hSw)
      go_simp
      try with_reducible rfl
    · (try simp only [Act.put, List.setIfInBounds_toArray, List.set_cons_zero, List.set_cons_succ])
      try rfl
    refine sched_call rfl (by kernel_rfl) (fun K1 hK1 => ?_)
    go_simp
    refine (Hpk.out 2 _ _ (by omega) (by omega) F50.out.rd).mono ?_
    rintro e w51 ⟨⟨x, rfl, hx0, hx1, _⟩, hrd, hg⟩
    have hx2 := hx1 (by omega)
    clear hx1
    have F51 := Lib.hid (F50.out.step hrd hg)
    have X51 := Lib.hid (X50.out.grown' hg (by first | (simp; done) | (simp; omega)))
    have Y51 := Lib.hid (Y50.out.grown' hg (by have := HA.out; simp; omega))
    clear hrd hg
    clear m0 m1 m2
    go_wp2_with fail
    refine hK1.out _ _ ?_ (sched_lay (a' := ?_) ?_ ?_)
    · exact box_load Y51.out
    rotate_left 1
    · (try simp only [Act.put, List.getElem_toArray, List.getElem_cons_succ, List.getElem_cons_zero, List.setIfInBounds_toArray, List.set_cons_zero, List.set_cons_succ])
      try rfl
    clear hK1 K1
    have hw2 : IntKind.i64.wrap (2 + x) = 2 + x := IntWalk.i64_in _ (by omega)
    refine sched_take' (v := .int .i64 (2 + x)) (a' := ?_) rfl (by kernel_rfl) ?_ rfl ?_ ?_
    rotate_left 1
    · intro w hSw
      (try dsimp only at hSw)
      go_simp
      first | done | omega | exact hw2 | (rw [hw2])
    · (try simp only [Act.put, List.setIfInBounds_toArray, List.set_cons_zero, List.set_cons_succ])
      try rfl
    obtain ⟨c0, c1, c2⟩ := box_load X51.out
    have f0 := X51.out.free 0
    have f1 := X51.out.free 1
    have f2 := X51.out.free 2
    refine sched_call rfl (by kernel_rfl) (fun K1 hK1 => ?_)
    go_simp
    refine hK1.out _ _ ?_ (sched_lay (a' := ?_) ?_ ?_)
    · exact box_load (((Y51.out.far (p := ⟨w.heap.size, 0, none⟩) (by have := HA.out; simp; omega) _).far (p := ⟨w.heap.size, 1, none⟩) (by have := HA.out; simp; omega) _).far (p := ⟨w.heap.size, 2, none⟩) (by have := HA.out; simp; omega) _)
    rotate_left 1
    · (try simp only [Act.put, List.getElem_toArray, List.getElem_cons_succ, List.getElem_cons_zero, List.setIfInBounds_toArray, List.set_cons_zero, List.set_cons_succ])
      try rfl
    clear hK1 K1
    refine sched_take' (v := ?_) (a' := ?_) rfl (by kernel_rfl) ?_ rfl ?_ ?_
    rotate_left 2
    · intro w hSw
      (try dsimp only at hSw)
      go_simp
      try with_reducible rfl
    · (try simp only [Act.put, List.setIfInBounds_toArray, List.set_cons_zero, List.set_cons_succ])
      try rfl
    refine sched_take' (v := ?_) (a' := ?_) rfl (by kernel_rfl) ?_ rfl ?_ ?_
    rotate_left 2
    · intro w hSw
      (try dsimp only at hSw)
      go_simp
      try with_reducible rfl
    · (try simp only [Act.put, List.setIfInBounds_toArray, List.set_cons_zero, List.set_cons_succ])
      try rfl
    refine sched_done (hQ1.out _ _ ?_)
    have E1 := Lib.hid (below_puts F51.out.bel (Nat.le_refl _) (.int .i64 i) (.string s) (.string r))
    obtain ⟨q0, q1, q2⟩ := box_load (X51.out.puts (.int .i64 i) (.string s) (.string r))
    go_wp2_with fail
    refine bodyPost_ret (v := .tuple #[stV i s r, .string t, .int .i64 (2 + x)]) ?_ rfl ⟨⟨i, s, r, t, _, rfl, hs, hr, ht, by omega, by omega⟩, E1.out⟩
    simp [results, Tryd.results60, go_sem, q0, q1, q2]

end Go.Proofs.YtjdnjhoddlalaaaDoor

namespace Go.Proofs.YtjdnjhoddlalaaaDoor
open Go.RowKit
open Pl
set_option linter.unusedSimpArgs false
set_option linter.unusedVariables false

attribute [local go_sem ↓] Go.wp_at_zero Go.wp_at_succ

set_option maxHeartbeats 8000000 in
set_option maxRecDepth 100000 in
theorem DrawFirstPoint_calls (A : Option Addr) (n cap : Nat) (w : World) (h : ByRow w A n) (hn : n ≤ 1048576) (hc : n ≤ cap) (hm : cap ≤ maxLen) :
    Calls Tryd.prog 15 #[.slice A n cap] w fun e w' => StFW e ∧ Below w.heap.size w w' := by
  have B0 := Lib.hid ((Below.refl w.heap.size w).alloc (Nat.le_refl _) (.cells #[.int .i64 0, .string (bs []), .string (bs [])] 24))
  have HD := Lib.hid (DrawCountPoints_calls A n cap _ (h.call B0.out) hn hc hm)
  have X0 := Lib.hid (Bx.new w 24 #[.int .i64 0, .string (bs []), .string (bs [])])
  clear h hn hc hm
  go_enter Tryd.func15, Tryd.ntmps15
  go_wp2_with fail
  refine (HD.out).mono ?_
  rintro e w1 ⟨⟨i, s, r, t, x, rfl, hs, hr, ht, hx0, hx1⟩, hz⟩
  have B1 := Lib.hid (B0.out.trans (hz.mono B0.out.size))
  have X1 := Lib.hid (X0.out.call hz)
  clear hz
  obtain ⟨c0, c1, c2⟩ := box_load X1.out
  have f0 := X1.out.free 0
  have f1 := X1.out.free 1
  have f2 := X1.out.free 2
  have E1 := Lib.hid (below_puts B1.out (Nat.le_refl _) (.int .i64 i) (.string s) (.string r))
  obtain ⟨q0, q1, q2⟩ := box_load (X1.out.puts (.int .i64 i) (.string s) (.string r))
  go_wp2_with fail
  refine bodyPost_ret (v := .tuple #[stV i s r, .string t, .int .i64 x]) ?_ rfl ⟨⟨i, s, r, t, x, rfl, hs, hr, ht, hx0, hx1⟩, E1.out⟩
  simp [results, Tryd.results15, go_sem, q0, q1, q2]

end Go.Proofs.YtjdnjhoddlalaaaDoor

namespace Go.Proofs.YtjdnjhoddlalaaaDoor
open Pl

/-- a formula in words -/
def Pl.Fm.showL : Fm → List UInt8
  | .tru => [116, 114, 117, 101]
  | .fls => [102, 97, 108, 115, 101]
  | .pr v => [80, 40, vb v, 41]
  | .eq v w => [vb v, 61, vb w]
  | .rel v w => [69, 40, vb v, 44, vb w, 41]
  | .neg p => [110, 111, 116, 32] ++ p.showL
  | .con p q => [40] ++ p.showL ++ [32, 97, 110, 100, 32] ++ q.showL ++ [41]
  | .dis p q => [40] ++ p.showL ++ [32, 111, 114, 32] ++ q.showL ++ [41]
  | .qu .A v p => [97, 108, 108, 32] ++ [vb v] ++ [58, 32] ++ p.showL
  | .qu .S v p => [115, 111, 109, 101, 32] ++ [vb v] ++ [58, 32] ++ p.showL
  | .qu k v p => [97, 116, 32, 108, 101, 97, 115, 116, 32] ++ [k.b] ++ [32] ++ [vb v] ++ [58, 32] ++ p.showL

theorem show_le (f : Fm) : f.showL.length ≤ 20 * f.text.length := by
  induction f with
  | qu k v p ih => cases k <;> simp [Fm.showL, Fm.text] <;> omega
  | neg p ih => simp [Fm.showL, Fm.text]; omega
  | con p q ihp ihq => simp [Fm.showL, Fm.text]; omega
  | dis p q ihp ihq => simp [Fm.showL, Fm.text]; omega
  | _ => simp [Fm.showL, Fm.text]

theorem show_ne (f : Fm) : f.showL ≠ [] := by
  cases f with
  | qu k v p => cases k <;> simp [Fm.showL]
  | _ => simp [Fm.showL]

/-- negations pushed -/
def Pl.Fm.push : Bool → Fm → Fm
  | b, .tru => if b then .fls else .tru
  | b, .fls => if b then .tru else .fls
  | b, .pr v => if b then .neg (.pr v) else .pr v
  | b, .eq v w => if b then .neg (.eq v w) else .eq v w
  | b, .rel v w => if b then .neg (.rel v w) else .rel v w
  | b, .neg p => p.push (!b)
  | b, .con p q => if b then .dis (p.push b) (q.push b) else .con (p.push b) (q.push b)
  | b, .dis p q => if b then .con (p.push b) (q.push b) else .dis (p.push b) (q.push b)
  | b, .qu .A v p => if b then .qu .S v (p.push b) else .qu .A v (p.push b)
  | b, .qu .S v p => if b then .qu .A v (p.push b) else .qu .S v (p.push b)
  | b, .qu k v p => if b then .neg (.qu k v (p.push false)) else .qu k v (p.push false)

theorem push_le (f : Fm) : ∀ b, (f.push b).text.length ≤ 2 * f.text.length := by
  induction f with
  | qu k v p ih => intro b; have := ih b; have := ih false; cases k <;> cases b <;> simp [Fm.push, Fm.text] <;> omega
  | neg p ih => intro b; have := ih (!b); simp [Fm.push, Fm.text]; omega
  | con p q ihp ihq => intro b; have := ihp b; have := ihq b; cases b <;> simp [Fm.push, Fm.text] <;> omega
  | dis p q ihp ihq => intro b; have := ihp b; have := ihq b; cases b <;> simp [Fm.push, Fm.text] <;> omega
  | _ => intro b; cases b <;> simp [Fm.push, Fm.text]

/-- w in place of v where it is free -/
def Pl.Fm.repl (v w : Fin 4) : Fm → Fm
  | .tru => .tru
  | .fls => .fls
  | .pr u => .pr (if u = v then w else u)
  | .eq u t => .eq (if u = v then w else u) (if t = v then w else t)
  | .rel u t => .rel (if u = v then w else u) (if t = v then w else t)
  | .neg p => .neg (p.repl v w)
  | .con p q => .con (p.repl v w) (q.repl v w)
  | .dis p q => .dis (p.repl v w) (q.repl v w)
  | .qu k u p => if u = v then .qu k u p else .qu k u (p.repl v w)

theorem repl_len (v w : Fin 4) (f : Fm) : (f.repl v w).text.length = f.text.length := by
  induction f with
  | qu k u p ih => by_cases h : u = v <;> simp [Fm.repl, Fm.text, h, ih]
  | neg p ih => simp [Fm.repl, Fm.text, ih]
  | con p q ihp ihq => simp [Fm.repl, Fm.text, ihp, ihq]
  | dis p q ihp ihq => simp [Fm.repl, Fm.text, ihp, ihq]
  | _ => simp [Fm.repl, Fm.text]

/-- the first variable that is not in a set of variables and is not v -/
def freshV (m : Nat) (v : Fin 4) : Option (Fin 4) :=
  if m.testBit 0 = false ∧ v ≠ 0 then some 0 else if m.testBit 1 = false ∧ v ≠ 1 then some 1 else if m.testBit 2 = false ∧ v ≠ 2 then some 2 else if m.testBit 3 = false ∧ v ≠ 3 then some 3 else none

theorem freshV_some {m : Nat} {v w : Fin 4} (h : freshV m v = some w) : m.testBit w.val = false ∧ v ≠ w := by
  unfold freshV at h
  split at h
  · rename_i hh; injection h with h; subst h; exact hh
  split at h
  · rename_i hh; injection h with h; subst h; exact hh
  split at h
  · rename_i hh; injection h with h; subst h; exact hh
  split at h
  · rename_i hh; injection h with h; subst h; exact hh
  · cases h

/-- spelled out without counting -/
def Pl.Fm.spell : Fm → Option Fm
  | .neg p => match p.spell with | some p' => some (.neg p') | none => none
  | .con p q => match p.spell with | some p' => (match q.spell with | some q' => some (.con p' q') | none => none) | none => none
  | .dis p q => match p.spell with | some p' => (match q.spell with | some q' => some (.dis p' q') | none => none) | none => none
  | .qu .A v p => match p.spell with | some p' => some (.qu .A v p') | none => none
  | .qu .S v p => match p.spell with | some p' => some (.qu .S v p') | none => none
  | .qu .c2 v p => match p.spell with
    | some p' => (match freshV p'.allBits v with | some w => some (.qu .S v (.qu .S w (.con (.neg (.eq v w)) (.con p' (p'.repl v w))))) | none => none)
    | none => none
  | .qu .c3 _ _ => none
  | .qu .c4 _ _ => none
  | f => some f

/-! ### how long a formula that is spelled out can be -/

def cardB (m : Nat) : Nat := (varsL m 4).length

theorem cardB_or (a b : Nat) (ha : a < 16) (hb : b < 16) : cardB a ≤ cardB (a ||| b) ∧ cardB b ≤ cardB (a ||| b) := by
  have h : ∀ a b : Fin 16, cardB a.val ≤ cardB (a.val ||| b.val) ∧ cardB b.val ≤ cardB (a.val ||| b.val) := by decide +kernel
  exact h ⟨a, ha⟩ ⟨b, hb⟩

theorem cardB_new (a : Nat) (v w : Fin 4) (ha : a < 16) (hw : a.testBit w.val = false) (hv : v ≠ w) : cardB a + 1 ≤ cardB (1 <<< v.val ||| (1 <<< w.val ||| a)) := by
  have h : ∀ (a : Fin 16) (v w : Fin 4), a.val.testBit w.val = false → v ≠ w → cardB a.val + 1 ≤ cardB (1 <<< v.val ||| (1 <<< w.val ||| a.val)) := by decide +kernel
  exact h ⟨a, ha⟩ v w hw hv

theorem repl_all_or (v w : Fin 4) (f : Fm) : ((f.repl v w).allBits ||| f.allBits) ||| 1 <<< w.val = f.allBits ||| 1 <<< w.val := by
  have hb : ∀ (i : Nat), ((((f.repl v w).allBits ||| f.allBits) ||| 1 <<< w.val).testBit i) = (f.allBits ||| 1 <<< w.val).testBit i := by
    intro i
    simp only [Nat.testBit_or]
    suffices h : (f.repl v w).allBits.testBit i = true → (f.allBits.testBit i || (1 <<< w.val).testBit i) = true by
      cases h1 : (f.repl v w).allBits.testBit i with
      | false => simp
      | true => have := h h1; revert this; cases f.allBits.testBit i <;> cases (1 <<< w.val).testBit i <;> simp
    induction f with
    | tru => simp [Fm.repl, Fm.allBits]
    | fls => simp [Fm.repl, Fm.allBits]
    | pr u =>
      by_cases h : u = v <;> simp only [Fm.repl, Fm.allBits, h, if_true, if_false] <;> intro h <;> simp [h]
    | eq u t =>
      by_cases h : u = v <;> by_cases h2 : t = v <;> simp only [Fm.repl, Fm.allBits, h, h2, if_true, if_false, Nat.testBit_or, Bool.or_eq_true] <;> grind
    | rel u t =>
      by_cases h : u = v <;> by_cases h2 : t = v <;> simp only [Fm.repl, Fm.allBits, h, h2, if_true, if_false, Nat.testBit_or, Bool.or_eq_true] <;> grind
    | neg p ih => exact ih
    | con p q ihp ihq => simp only [Fm.repl, Fm.allBits, Nat.testBit_or, Bool.or_eq_true] at *; grind
    | dis p q ihp ihq => simp only [Fm.repl, Fm.allBits, Nat.testBit_or, Bool.or_eq_true] at *; grind
    | qu k u p ih =>
      by_cases h : u = v <;> simp only [Fm.repl, Fm.allBits, h, if_true, if_false, Nat.testBit_or, Bool.or_eq_true] at * <;> grind
  exact Nat.eq_of_testBit_eq hb

theorem pow_mono16 {a b : Nat} (h : a ≤ b) : 16 ^ a ≤ 16 ^ b := Nat.pow_le_pow_right (by decide) h

theorem spell_grow : ∀ (f g : Fm), f.spell = some g → g.text.length ≤ 16 ^ cardB g.allBits * f.text.length := by
  intro f
  have one : ∀ n : Nat, 1 ≤ 16 ^ n := fun n => Nat.one_le_pow _ _ (by decide)
  have leaf : ∀ (n k : Nat), k ≤ 16 ^ n * k := fun n k => by have := Nat.mul_le_mul_right k (one n); simpa using this
  induction f with
  | tru => intro g h; simp [Fm.spell] at h; subst h; exact leaf _ _
  | fls => intro g h; simp [Fm.spell] at h; subst h; exact leaf _ _
  | pr v => intro g h; simp [Fm.spell] at h; subst h; exact leaf _ _
  | eq v w => intro g h; simp [Fm.spell] at h; subst h; exact leaf _ _
  | rel v w => intro g h; simp [Fm.spell] at h; subst h; exact leaf _ _
  | neg p ih =>
    intro g h
    simp only [Fm.spell] at h
    split at h
    · rename_i p' hp
      injection h with h; subst h
      have := ih p' hp
      have h1 := one (cardB p'.allBits)
      simp only [Fm.text, Fm.allBits, List.length_cons, Nat.mul_add, Nat.mul_one]
      omega
    · cases h
  | con p q ihp ihq =>
    intro g h
    simp only [Fm.spell] at h
    split at h
    · rename_i p' hp
      split at h
      · rename_i q' hq
        injection h with h; subst h
        have h1 := ihp p' hp
        have h2 := ihq q' hq
        have hc := cardB_or _ _ (allBits_lt p') (allBits_lt q')
        have h3 := Nat.mul_le_mul_right p.text.length (pow_mono16 hc.1)
        have h4 := Nat.mul_le_mul_right q.text.length (pow_mono16 hc.2)
        have h5 := one (cardB (p'.allBits ||| q'.allBits))
        simp only [Fm.text, Fm.allBits, List.length_cons, List.length_append, Nat.mul_add, Nat.mul_one]
        omega
      · cases h
    · cases h
  | dis p q ihp ihq =>
    intro g h
    simp only [Fm.spell] at h
    split at h
    · rename_i p' hp
      split at h
      · rename_i q' hq
        injection h with h; subst h
        have h1 := ihp p' hp
        have h2 := ihq q' hq
        have hc := cardB_or _ _ (allBits_lt p') (allBits_lt q')
        have h3 := Nat.mul_le_mul_right p.text.length (pow_mono16 hc.1)
        have h4 := Nat.mul_le_mul_right q.text.length (pow_mono16 hc.2)
        have h5 := one (cardB (p'.allBits ||| q'.allBits))
        simp only [Fm.text, Fm.allBits, List.length_cons, List.length_append, Nat.mul_add, Nat.mul_one]
        omega
      · cases h
    · cases h
  | qu k v p ih =>
    intro g h
    cases k with
    | c3 => simp [Fm.spell] at h
    | c4 => simp [Fm.spell] at h
    | A =>
      simp only [Fm.spell] at h
      split at h
      · rename_i p' hp
        injection h with h; subst h
        have h1 := ih p' hp
        have hc := cardB_or _ _ (bit_lt v) (allBits_lt p')
        have h3 := Nat.mul_le_mul_right p.text.length (pow_mono16 hc.2)
        have h5 := one (cardB (1 <<< v.val ||| p'.allBits))
        simp only [Fm.text, Fm.allBits, List.length_cons, Nat.mul_add, Nat.mul_one]
        omega
      · cases h
    | S =>
      simp only [Fm.spell] at h
      split at h
      · rename_i p' hp
        injection h with h; subst h
        have h1 := ih p' hp
        have hc := cardB_or _ _ (bit_lt v) (allBits_lt p')
        have h3 := Nat.mul_le_mul_right p.text.length (pow_mono16 hc.2)
        have h5 := one (cardB (1 <<< v.val ||| p'.allBits))
        simp only [Fm.text, Fm.allBits, List.length_cons, Nat.mul_add, Nat.mul_one]
        omega
      · cases h
    | c2 =>
      simp only [Fm.spell] at h
      split at h
      · rename_i p' hp
        split at h
        · rename_i w hw
          injection h with h; subst h
          obtain ⟨hw1, hw2⟩ := freshV_some hw
          have h1 := ih p' hp
          have hc := cardB_new _ v w (allBits_lt p') hw1 hw2
          have hl : 1 <<< v.val ||| (1 <<< w.val ||| p'.allBits) ≤ 15 := by
            have := or_lt (bit_lt v) (or_lt (bit_lt w) (allBits_lt p')); omega
          have hall : (Fm.qu .S v (.qu .S w (.con (.neg (.eq v w)) (.con p' (p'.repl v w))))).allBits = 1 <<< v.val ||| (1 <<< w.val ||| p'.allBits) := by
            have h7 := repl_all_or v w p'
            simp only [Fm.allBits]
            apply Nat.eq_of_testBit_eq
            intro i
            have h8 := congrArg (fun n => n.testBit i) h7
            simp only [Nat.testBit_or] at h8 ⊢
            revert h8
            cases (1 <<< v.val).testBit i <;> cases (1 <<< w.val).testBit i <;> cases p'.allBits.testBit i <;> cases (p'.repl v w).allBits.testBit i <;> simp
          rw [hall]
          have h3 := pow_mono16 hc
          rw [Nat.pow_succ] at h3
          have h4 := Nat.mul_le_mul_right p.text.length h3
          have h5 := one (cardB p'.allBits)
          have h6 := repl_len v w p'
          simp only [Fm.text, List.length_cons, List.length_append, List.length_nil, Nat.mul_add, Nat.mul_one] at *
          have h9 : 16 ^ cardB p'.allBits * 16 * p.text.length = 16 * (16 ^ cardB p'.allBits * p.text.length) := by
            rw [Nat.mul_comm (16 ^ cardB p'.allBits) 16, Nat.mul_assoc]
          omega
        · cases h
      · cases h

theorem spell_len {f g : Fm} (h : f.spell = some g) : g.text.length ≤ 65536 * f.text.length := by
  refine Nat.le_trans (spell_grow f g h) (Nat.mul_le_mul_right _ ?_)
  have := varsL_len g.allBits 4
  exact Nat.le_trans (pow_mono16 (b := 4) this) (by decide)

end Go.Proofs.YtjdnjhoddlalaaaDoor

namespace Go.Proofs.YtjdnjhoddlalaaaDoor
namespace Pl
set_option linter.unusedVariables false

theorem nodup_len_le {α : Type} [DecidableEq α] : ∀ (l m : List α), l.Nodup → (∀ x ∈ l, x ∈ m) → l.length ≤ m.length := by
  intro l
  induction l with
  | nil => intro m _ _; simp
  | cons x l ih =>
    intro m hnd hs
    obtain ⟨h1, h2⟩ := List.nodup_cons.1 hnd
    have hx := hs x (by simp)
    have h3 := ih (m.erase x) h2 (fun y hy => (List.mem_erase_of_ne (by rintro rfl; exact h1 hy)).2 (hs y (by simp [hy])))
    rw [List.length_erase_of_mem hx] at h3
    have : 0 < m.length := List.length_pos_of_mem hx
    simp only [List.length_cons]
    omega

theorem nodup_len_eq {α : Type} [DecidableEq α] {l m : List α} (hl : l.Nodup) (hm : m.Nodup) (h : ∀ x, x ∈ l ↔ x ∈ m) : l.length = m.length :=
  Nat.le_antisymm (nodup_len_le l m hl fun x hx => (h x).1 hx) (nodup_len_le m l hm fun x hx => (h x).2 hx)

/-- an order of all elements -/
structure IsPerm (n : Nat) (l : List Nat) : Prop where
  len : l.length = n
  nodup : l.Nodup
  lt : ∀ x ∈ l, x < n

def app (l : List Nat) (x : Nat) : Nat := l.getD x 0
def comp (l m : List Nat) : List Nat := m.map (app l)
def inv (l : List Nat) : List Nat := (List.range l.length).map fun y => l.idxOf y

theorem app_mem {l : List Nat} {x : Nat} (h : x < l.length) : app l x ∈ l := by
  unfold app
  simp only [List.getD_eq_getElem?_getD, List.getElem?_eq_getElem h, Option.getD_some]
  exact List.getElem_mem h

theorem IsPerm.app_lt {n : Nat} {l : List Nat} (h : IsPerm n l) {x : Nat} (hx : x < n) : app l x < n := h.lt _ (app_mem (by rw [h.len]; exact hx))

theorem IsPerm.mem {n : Nat} {l : List Nat} (h : IsPerm n l) {y : Nat} (hy : y < n) : y ∈ l := by
  rcases Classical.em (y ∈ l) with h1 | h1
  · exact h1
  · have h2 := nodup_len_le (y :: l) (List.range n) (List.nodup_cons.2 ⟨h1, h.nodup⟩) (fun x hx => by
      rcases List.mem_cons.1 hx with rfl | hx
      · exact List.mem_range.2 hy
      · exact List.mem_range.2 (h.lt x hx))
    have := h.len
    simp only [List.length_cons, List.length_range] at h2
    omega

theorem IsPerm.inj {n : Nat} {l : List Nat} (h : IsPerm n l) {x y : Nat} (hx : x < n) (hy : y < n) (e : app l x = app l y) : x = y := by
  unfold app at e
  have h1 := h.len
  simp only [List.getD_eq_getElem?_getD, List.getElem?_eq_getElem (show x < l.length by omega), List.getElem?_eq_getElem (show y < l.length by omega), Option.getD_some] at e
  have hp := List.pairwise_iff_getElem.1 h.nodup
  rcases Nat.lt_trichotomy x y with hlt | heq | hlt
  · exact absurd e (hp x y (by omega) (by omega) hlt)
  · exact heq
  · exact absurd e.symm (hp y x (by omega) (by omega) hlt)

theorem app_comp {l m : List Nat} {x : Nat} (h : x < m.length) : app (comp l m) x = app l (app m x) := by
  unfold app comp
  simp [List.getD, h, app]

theorem app_ext {n : Nat} {l m : List Nat} (h1 : l.length = n) (h2 : m.length = n) (h : ∀ x, x < n → app l x = app m x) : l = m := by
  apply List.ext_getElem (by omega)
  intro i hi hi2
  have := h i (by omega)
  unfold app at this
  simpa [List.getD, hi, hi2] using this

theorem app_idx {l : List Nat} {y : Nat} (h : y ∈ l) : l.idxOf y < l.length ∧ app l (l.idxOf y) = y := by
  have h1 := List.idxOf_lt_length_of_mem h
  refine ⟨h1, ?_⟩
  unfold app
  simp [List.getD, h1]

theorem len_comp (l m : List Nat) : (comp l m).length = m.length := by simp [comp]
theorem len_inv (l : List Nat) : (inv l).length = l.length := by simp [inv]

theorem app_inv {n : Nat} {l : List Nat} (h : IsPerm n l) {y : Nat} (hy : y < n) : app (inv l) y < n ∧ app l (app (inv l) y) = y := by
  have h1 := app_idx (h.mem hy)
  have e : app (inv l) y = l.idxOf y := by
    unfold app inv
    have := h.len
    simp [List.getD, show y < l.length by omega]
  rw [e, ← h.len]
  exact h1

theorem inv_app {n : Nat} {l : List Nat} (h : IsPerm n l) {x : Nat} (hx : x < n) : app (inv l) (app l x) = x := by
  have h1 := app_inv h (h.app_lt hx)
  exact h.inj h1.1 hx h1.2

theorem nodup_of_inj {n : Nat} {l : List Nat} (hl : l.length = n) (h : ∀ x y, x < n → y < n → app l x = app l y → x = y) : l.Nodup := by
  refine List.pairwise_iff_getElem.2 fun i j hi hj hij e => ?_
  have := h i j (by omega) (by omega) (by
    unfold app
    simp only [List.getD_eq_getElem?_getD, List.getElem?_eq_getElem hi, List.getElem?_eq_getElem hj, Option.getD_some, e])
  omega

theorem mem_app {l : List Nat} {y : Nat} (h : y ∈ l) : ∃ x, x < l.length ∧ app l x = y := ⟨_, app_idx h⟩

theorem IsPerm.of {n : Nat} {l : List Nat} (hl : l.length = n) (hlt : ∀ x, x < n → app l x < n) (h : ∀ x y, x < n → y < n → app l x = app l y → x = y) : IsPerm n l :=
  ⟨hl, nodup_of_inj hl h, fun y hy => by obtain ⟨x, hx, rfl⟩ := mem_app hy; exact hlt x (by omega)⟩

theorem IsPerm.comp {n : Nat} {l m : List Nat} (hl : IsPerm n l) (hm : IsPerm n m) : IsPerm n (comp l m) := by
  have e : ∀ x, x < n → app (Pl.comp l m) x = app l (app m x) := fun x hx => app_comp (by rw [hm.len]; exact hx)
  refine .of (by rw [len_comp, hm.len]) (fun x hx => ?_) (fun x y hx hy h => ?_)
  · rw [e x hx]; exact hl.app_lt (hm.app_lt hx)
  · rw [e x hx, e y hy] at h
    exact hm.inj hx hy (hl.inj (hm.app_lt hx) (hm.app_lt hy) h)

theorem IsPerm.inv {n : Nat} {l : List Nat} (hl : IsPerm n l) : IsPerm n (inv l) := by
  refine .of (by rw [len_inv, hl.len]) (fun x hx => (app_inv hl hx).1) (fun x y hx hy h => ?_)
  rw [← (app_inv hl hx).2, ← (app_inv hl hy).2, h]

theorem app_range {n x : Nat} (h : x < n) : app (List.range n) x = x := by
  unfold app; simp [List.getD, h]

theorem IsPerm.range (n : Nat) : IsPerm n (List.range n) := .of (by simp) (fun x hx => by rw [app_range hx]; exact hx) (fun x y hx hy h => by rwa [app_range hx, app_range hy] at h)

theorem comp_assoc {n : Nat} {l m k : List Nat} (hm : IsPerm n m) (hk : IsPerm n k) : comp (comp l m) k = comp l (comp m k) := by
  apply app_ext (n := n) (by rw [len_comp, hk.len]) (by rw [len_comp, len_comp, hk.len])
  intro x hx
  rw [app_comp (by rw [hk.len]; exact hx), app_comp (by rw [hm.len]; exact hk.app_lt hx), app_comp (by rw [len_comp, hk.len]; exact hx), app_comp (by rw [hk.len]; exact hx)]

theorem comp_inv {n : Nat} {l : List Nat} (h : IsPerm n l) : comp l (inv l) = List.range n := by
  apply app_ext (n := n) (by rw [len_comp, len_inv, h.len]) (by simp)
  intro x hx
  rw [app_comp (by rw [len_inv, h.len]; exact hx), (app_inv h hx).2, app_range hx]

theorem inv_comp {n : Nat} {l : List Nat} (h : IsPerm n l) : comp (inv l) l = List.range n := by
  apply app_ext (n := n) (by rw [len_comp, h.len]) (by simp)
  intro x hx
  rw [app_comp (by rw [h.len]; exact hx), inv_app h hx, app_range hx]

theorem comp_range {n : Nat} {l : List Nat} (h : IsPerm n l) : comp l (List.range n) = l := by
  apply app_ext (n := n) (by rw [len_comp]; simp) h.len
  intro x hx
  rw [app_comp (by simpa using hx), app_range hx]

theorem range_comp {n : Nat} {l : List Nat} (h : IsPerm n l) : comp (List.range n) l = l := by
  apply app_ext (n := n) (by rw [len_comp, h.len]) h.len
  intro x hx
  rw [app_comp (by rw [h.len]; exact hx), app_range (h.app_lt hx)]

theorem comp_left_inj {n : Nat} {g l m : List Nat} (hg : IsPerm n g) (hl : IsPerm n l) (hm : IsPerm n m) (e : comp g l = comp g m) : l = m := by
  have : comp (inv g) (comp g l) = comp (inv g) (comp g m) := by rw [e]
  rwa [← comp_assoc hg hl, ← comp_assoc hg hm, inv_comp hg, range_comp hl, range_comp hm] at this

/-- a group of orders -/
structure Grp (n : Nat) (G : List (List Nat)) : Prop where
  nodup : G.Nodup
  perm : ∀ l ∈ G, IsPerm n l
  one : List.range n ∈ G
  comp : ∀ l ∈ G, ∀ m ∈ G, Pl.comp l m ∈ G
  inv : ∀ l ∈ G, Pl.inv l ∈ G

theorem map_nodup {α β : Type} {f : α → β} : ∀ (l : List α), l.Nodup → (∀ x ∈ l, ∀ y ∈ l, f x = f y → x = y) → (l.map f).Nodup := by
  intro l
  induction l with
  | nil => intro _ _; simp
  | cons x l ih =>
    intro h hi
    obtain ⟨h1, h2⟩ := List.nodup_cons.1 h
    rw [List.map_cons, List.nodup_cons]
    refine ⟨fun hm => ?_, ih h2 (fun y hy z hz => hi y (by simp [hy]) z (by simp [hz]))⟩
    obtain ⟨y, hy, e⟩ := List.mem_map.1 hm
    have := hi y (by simp [hy]) x (by simp) e
    subst this
    exact h1 hy

theorem filter_len {α : Type} (p : α → Bool) : ∀ (l : List α), l.length = (l.filter p).length + (l.filter fun x => !p x).length := by
  intro l
  induction l with
  | nil => rfl
  | cons x l ih =>
    cases h : p x <;> simp [h] <;> omega

theorem cosets {n : Nat} {H : List (List Nat)} (hH : Grp n H) : ∀ (k : Nat) (S : List (List Nat)), S.length ≤ k → S.Nodup → (∀ g ∈ S, IsPerm n g) → (∀ g ∈ S, ∀ h ∈ H, comp g h ∈ S) → H.length ∣ S.length := by
  intro k
  induction k with
  | zero =>
    intro S hk _ _ _
    rw [Nat.le_zero.1 hk]
    exact Nat.dvd_zero _
  | succ k ih =>
    intro S hk hnd hp hc
    match S, hk, hnd, hp, hc with
    | [], _, _, _, _ => exact Nat.dvd_zero _
    | g :: S0, hk, hnd, hp, hc =>
      generalize hS : g :: S0 = S at *
      have hg : g ∈ S := by rw [← hS]; simp
      have hC : (H.map (comp g)).Nodup := map_nodup H hH.nodup fun x hx y hy e => comp_left_inj (hp g hg) (hH.perm x hx) (hH.perm y hy) e
      have hlen : (S.filter fun l => decide (l ∈ H.map (comp g))).length = H.length := by
        rw [show H.length = (H.map (comp g)).length by simp]
        refine nodup_len_eq (hnd.filter _) hC fun x => ?_
        rw [List.mem_filter]
        constructor
        · rintro ⟨_, h⟩; simpa using h
        · intro h
          refine ⟨?_, by simpa using h⟩
          obtain ⟨y, hy, rfl⟩ := List.mem_map.1 h
          exact hc g hg y hy
      have hsum := filter_len (fun l => decide (l ∈ H.map (comp g))) S
      have hpos : 0 < H.length := List.length_pos_of_mem hH.one
      have := ih (S.filter fun l => !decide (l ∈ H.map (comp g))) (by omega) (hnd.filter _) (fun x hx => hp x (List.mem_filter.1 hx).1) (fun x hx h hh => by
        obtain ⟨h1, h2⟩ := List.mem_filter.1 hx
        refine List.mem_filter.2 ⟨hc x h1 h hh, ?_⟩
        simp only [Bool.not_eq_true', decide_eq_false_iff_not] at h2 ⊢
        intro hm
        apply h2
        obtain ⟨y, hy, e⟩ := List.mem_map.1 hm
        refine List.mem_map.2 ⟨comp y (inv h), hH.comp _ hy _ (hH.inv _ hh), ?_⟩
        rw [← comp_assoc (hH.perm y hy) (hH.perm h hh).inv, e, comp_assoc (hH.perm h hh) (hH.perm h hh).inv, comp_inv (hH.perm h hh), comp_range (hp x h1)])
      rw [hsum, hlen]
      exact Nat.dvd_add (Nat.dvd_refl _) this

theorem lagrange {n : Nat} {H G : List (List Nat)} (hH : Grp n H) (hG : Grp n G) (hs : ∀ l ∈ H, l ∈ G) : H.length ∣ G.length :=
  cosets hH G.length G (Nat.le_refl _) hG.nodup hG.perm fun g hg h hh => hG.comp g hg h (hs h hh)

theorem fibers {α : Type} (key : α → Nat) (s : Nat) : ∀ (O : List Nat), O.Nodup → ∀ (S : List α), (∀ g ∈ S, key g ∈ O) → (∀ y ∈ O, (S.filter fun g => key g == y).length = s) → S.length = O.length * s := by
  intro O
  induction O with
  | nil =>
    intro _ S h _
    match S, h with
    | [], _ => simp
    | g :: S, h => exact absurd (h g (by simp)) (by simp)
  | cons y O ih =>
    intro hnd S h hf
    obtain ⟨h1, h2⟩ := List.nodup_cons.1 hnd
    have hsum := filter_len (fun g => key g == y) S
    have h3 := ih h2 (S.filter fun g => !(key g == y)) (fun g hg => by
      obtain ⟨h4, h5⟩ := List.mem_filter.1 hg
      rcases List.mem_cons.1 (h g h4) with e | e
      · simp [e] at h5
      · exact e) (fun z hz => by
      rw [← hf z (by simp [hz]), List.filter_filter]
      congr 1
      apply List.filter_congr
      intro g _
      have hzy : z ≠ y := by rintro rfl; exact h1 hz
      by_cases e : key g = z
      · simp [e, hzy]
      · simp [e])
    rw [hsum, hf y (by simp), h3, List.length_cons, Nat.succ_mul]
    omega

/-- the elements to which a group moves one -/
def orbL (n : Nat) (G : List (List Nat)) (x : Nat) : List Nat := (List.range n).filter fun y => G.any fun l => app l x == y

theorem mem_orbL {n : Nat} {G : List (List Nat)} (hG : Grp n G) {x y : Nat} (hx : x < n) : y ∈ orbL n G x ↔ ∃ l ∈ G, app l x = y := by
  unfold orbL
  rw [List.mem_filter, List.mem_range, List.any_eq_true]
  constructor
  · rintro ⟨_, l, hl, e⟩; exact ⟨l, hl, by simpa using e⟩
  · rintro ⟨l, hl, e⟩; exact ⟨by rw [← e]; exact (hG.perm l hl).app_lt hx, l, hl, by simpa using e⟩

theorem orb_dvd {n : Nat} {G : List (List Nat)} (hG : Grp n G) {x : Nat} (hx : x < n) : (orbL n G x).length ∣ G.length := by
  have hf := fibers (fun l => app l x) (G.filter fun l => app l x == x).length (orbL n G x) (List.nodup_range.filter _) G (fun g hg => (mem_orbL hG hx).2 ⟨g, hg, rfl⟩) (fun y hy => by
    obtain ⟨s, hs, rfl⟩ := (mem_orbL hG hx).1 hy
    have hps := hG.perm s hs
    apply Nat.le_antisymm
    · rw [show (G.filter fun l => app l x == app s x).length = ((G.filter fun l => app l x == app s x).map (comp (inv s))).length by simp]
      refine nodup_len_le _ _ (map_nodup _ (hG.nodup.filter _) fun a ha b hb e => comp_left_inj hps.inv (hG.perm a (List.mem_filter.1 ha).1) (hG.perm b (List.mem_filter.1 hb).1) e) fun a ha => ?_
      obtain ⟨b, hb, rfl⟩ := List.mem_map.1 ha
      obtain ⟨h1, h2⟩ := List.mem_filter.1 hb
      have h3 : app b x = app s x := by simpa using h2
      refine List.mem_filter.2 ⟨hG.comp _ (hG.inv _ hs) _ h1, ?_⟩
      rw [app_comp (by rw [(hG.perm b h1).len]; exact hx), h3, inv_app hps hx]
      simp
    · rw [show (G.filter fun l => app l x == x).length = ((G.filter fun l => app l x == x).map (comp s)).length by simp]
      refine nodup_len_le _ _ (map_nodup _ (hG.nodup.filter _) fun a ha b hb e => comp_left_inj hps (hG.perm a (List.mem_filter.1 ha).1) (hG.perm b (List.mem_filter.1 hb).1) e) fun a ha => ?_
      obtain ⟨b, hb, rfl⟩ := List.mem_map.1 ha
      obtain ⟨h1, h2⟩ := List.mem_filter.1 hb
      have h3 : app b x = x := by simpa using h2
      refine List.mem_filter.2 ⟨hG.comp _ hs _ h1, ?_⟩
      rw [app_comp (by rw [(hG.perm b h1).len]; exact hx), h3]
      simp)
  rw [hf]
  exact Nat.dvd_mul_right _ _

/-! ### isomorphisms -/

theorem iso_perm {a b : St} {l : List Nat} (h : l ∈ isos a b) : IsPerm a.n l := by
  obtain ⟨h1, h2⟩ := mem_isos.1 h
  exact ⟨h1, h2.nodup, h2.lt⟩

theorem mem_isos_iff {a b : St} {l : List Nat} : l ∈ isos a b ↔ IsPerm a.n l ∧ (∀ i, i < a.n → a.inS (app l i) = b.inS i) ∧ ∀ i j, i < a.n → j < a.n → a.inR (app l i) (app l j) = b.inR i j := by
  rw [mem_isos]
  constructor
  · rintro ⟨h1, h2⟩; exact ⟨⟨h1, h2.nodup, h2.lt⟩, fun i hi => h2.set i (by omega), fun i j hi hj => h2.rel i j (by omega) (by omega)⟩
  · rintro ⟨h1, h2, h3⟩; exact ⟨h1.len, h1.nodup, h1.lt, fun i hi => h2 i (by rw [← h1.len]; exact hi), fun i j hi hj => h3 i j (by rw [← h1.len]; exact hi) (by rw [← h1.len]; exact hj)⟩

theorem iso_comp {a b c : St} (hab : a.n = b.n) {l m : List Nat} (hl : l ∈ isos a b) (hm : m ∈ isos b c) : comp l m ∈ isos a c := by
  obtain ⟨h1, h2, h3⟩ := mem_isos_iff.1 hl
  obtain ⟨g1, g2, g3⟩ := mem_isos_iff.1 hm
  rw [← hab] at g1 g2 g3
  have e : ∀ x, x < a.n → app (comp l m) x = app l (app m x) := fun x hx => app_comp (by rw [g1.len]; exact hx)
  exact mem_isos_iff.2 ⟨h1.comp g1, fun i hi => by rw [e i hi, h2 _ (g1.app_lt hi), g2 i hi], fun i j hi hj => by rw [e i hi, e j hj, h3 _ _ (g1.app_lt hi) (g1.app_lt hj), g3 i j hi hj]⟩

theorem iso_inv {a b : St} (hab : a.n = b.n) {l : List Nat} (hl : l ∈ isos a b) : inv l ∈ isos b a := by
  obtain ⟨h1, h2, h3⟩ := mem_isos_iff.1 hl
  refine mem_isos_iff.2 ⟨by rw [← hab]; exact h1.inv, fun i hi => ?_, fun i j hi hj => ?_⟩
  · rw [← hab] at hi
    obtain ⟨g1, g2⟩ := app_inv h1 hi
    rw [← h2 _ g1, g2]
  · rw [← hab] at hi hj
    obtain ⟨g1, g2⟩ := app_inv h1 hi
    obtain ⟨g3, g4⟩ := app_inv h1 hj
    rw [← h3 _ _ g1 g3, g2, g4]

theorem iso_refl (a : St) : List.range a.n ∈ isos a a :=
  mem_isos_iff.2 ⟨.range _, fun i hi => by rw [app_range hi], fun i j hi hj => by rw [app_range hi, app_range hj]⟩

theorem aut_grp (a : St) : Grp a.n (isos a a) where
  nodup := isos_nodup a a
  perm l h := iso_perm h
  one := iso_refl a
  comp l hl m hm := iso_comp rfl hl hm
  inv l hl := iso_inv rfl hl

/-- isomorphic structures have as many symmetries -/
theorem isos_count {a b : St} (hab : a.n = b.n) {l : List Nat} (hl : l ∈ isos a b) : (isos a a).length = (isos b b).length := by
  have key : ∀ {a b : St} (_ : a.n = b.n) {l : List Nat} (_ : l ∈ isos a b), (isos a a).length ≤ (isos b b).length := by
    intro a b hab l hl
    have hli := iso_inv hab hl
    have hp := iso_perm hl
    rw [show (isos a a).length = ((isos a a).map fun m => comp (inv l) (comp m l)).length by simp]
    refine nodup_len_le _ _ (map_nodup _ (isos_nodup a a) fun x hx y hy e => ?_) fun x hx => ?_
    · have hx' := iso_perm hx
      have hy' := iso_perm hy
      have e2 := comp_left_inj hp.inv (hx'.comp hp) (hy'.comp hp) e
      have e3 : comp (comp x l) (inv l) = comp (comp y l) (inv l) := by rw [e2]
      rwa [comp_assoc hp hp.inv, comp_assoc hp hp.inv, comp_inv hp, comp_range hx', comp_range hy'] at e3
    · obtain ⟨m, hm, rfl⟩ := List.mem_map.1 hx
      exact iso_comp hab.symm hli (iso_comp rfl hm hl)
  exact Nat.le_antisymm (key hab hl) (key hab.symm (iso_inv hab hl))

/-! ### the number of all orders -/

def fact : Nat → Nat
  | 0 => 1
  | n + 1 => (n + 1) * fact n

def noSt (n : Nat) : St := mkSt n (fun _ => false) (fun _ _ => false)

theorem flatMap_len {α : Type} (f : α → List (List Nat)) (k : Nat) : ∀ (l : List α), (∀ x ∈ l, (f x).length = k) → (l.flatMap f).length = l.length * k := by
  intro l
  induction l with
  | nil => intro _; simp
  | cons x l ih =>
    intro h
    rw [List.flatMap_cons, List.length_append, h x (by simp), ih (fun y hy => h y (by simp [hy])), List.length_cons, Nat.succ_mul]
    omega

theorem flatMap_if {α : Type} (p : α → Bool) (f : α → List (List Nat)) : ∀ (l : List α), (l.flatMap fun x => if p x then f x else []) = (l.filter p).flatMap f := by
  intro l
  induction l with
  | nil => rfl
  | cons x l ih =>
    cases h : p x <;> simp [h, ih]

theorem noSt_shapes {n : Nat} : ∀ (m : Nat) (o : List Nat), o.length + m = n → o.Nodup → (∀ x ∈ o, x < n) → (shapes (noSt n) (noSt n) m o).length = fact m := by
  intro m
  induction m with
  | zero => intro o _ _ _; rfl
  | succ m ih =>
    intro o hl hnd hlt
    have hn : ∀ x, x < n → nextB (noSt n) (noSt n) o x = !o.contains x := by
      intro x hx
      have hS : ∀ y, y < n → (noSt n).inS y = false := fun y hy => mkSt_inS hy
      have hR : ∀ y z, y < n → z < n → (noSt n).inR y z = false := fun y z hy hz => mkSt_inR hy hz
      unfold nextB fitsB
      have hol : o.length < n := by omega
      have hall : ((List.range o.length).all fun k => (noSt n).inR x (o.getD k 0) == (noSt n).inR o.length k && (noSt n).inR (o.getD k 0) x == (noSt n).inR k o.length) = true := by
        rw [List.all_eq_true]
        intro k hk
        have hk' := List.mem_range.1 hk
        have hok : o.getD k 0 < n := hlt _ (by
          rw [List.getD_eq_getElem?_getD, List.getElem?_eq_getElem hk', Option.getD_some]
          exact List.getElem_mem hk')
        rw [hR _ _ hx hok, hR _ _ hol (by omega), hR _ _ hok hx, hR _ _ (by omega) hol]
        rfl
      rw [hall, hS _ hx, hS _ hol, hR _ _ hx hx, hR _ _ hol hol]
      simp
    simp only [shapes]
    rw [flatMap_if]
    have hfil : ((List.range (noSt n).n).filter (nextB (noSt n) (noSt n) o)).length = m + 1 := by
      have h1 : (List.range (noSt n).n).filter (nextB (noSt n) (noSt n) o) = (List.range n).filter fun x => !o.contains x := by
        apply List.filter_congr
        intro x hx
        exact hn x (List.mem_range.1 hx)
      rw [h1]
      have h2 := filter_len (fun x => o.contains x) (List.range n)
      have h3 : ((List.range n).filter fun x => o.contains x).length = o.length := by
        refine nodup_len_eq (List.nodup_range.filter _) hnd fun x => ?_
        rw [List.mem_filter, List.mem_range]
        simp only [List.contains_eq_mem, decide_eq_true_eq]
        exact ⟨fun h => h.2, fun h => ⟨hlt x h, h⟩⟩
      simp only [List.length_range] at h2
      omega
    rw [flatMap_len _ (fact m) _ (fun x hx => by
      obtain ⟨h1, h2⟩ := List.mem_filter.1 hx
      have hxn : x < n := List.mem_range.1 h1
      rw [hn x hxn] at h2
      have hxo : x ∉ o := by simpa using h2
      refine ih _ (by simp; omega) ?_ ?_
      · rw [List.nodup_append]
        exact ⟨hnd, by simp, fun y hy z hz => by simp only [List.mem_singleton] at hz; subst hz; rintro rfl; exact hxo hy⟩
      · intro y hy
        rcases List.mem_append.1 hy with hy | hy
        · exact hlt y hy
        · simp only [List.mem_singleton] at hy; subst hy; exact hxn), hfil]
    rfl

theorem noSt_count (n : Nat) : (isos (noSt n) (noSt n)).length = fact n := noSt_shapes n [] (by simp) (by simp) (by simp)

theorem count_dvd_fact (a : St) : (isos a a).length ∣ fact a.n := by
  rw [← noSt_count]
  refine lagrange (aut_grp a) (aut_grp (noSt a.n)) fun l hl => ?_
  have hp := iso_perm hl
  refine mem_isos_iff.2 ⟨hp, fun i hi => ?_, fun i j hi hj => ?_⟩
  · have hi2 : i < a.n := hi
    have h1 : (noSt a.n).inS (app l i) = false := mkSt_inS (f := fun _ => false) (hp.app_lt hi2)
    have h2 : (noSt a.n).inS i = false := mkSt_inS (f := fun _ => false) hi2
    rw [h1, h2]
  · have hi2 : i < a.n := hi
    have hj2 : j < a.n := hj
    have h1 : (noSt a.n).inR (app l i) (app l j) = false := mkSt_inR (g := fun _ _ => false) (hp.app_lt hi2) (hp.app_lt hj2)
    have h2 : (noSt a.n).inR i j = false := mkSt_inR (g := fun _ _ => false) hi2 hj2
    rw [h1, h2]

end Pl
end Go.Proofs.YtjdnjhoddlalaaaDoor

namespace Go.Proofs.YtjdnjhoddlalaaaDoor
open Pl

/-- elements for the variables -/
abbrev Pl.Env := Fin 4 → Nat

def Pl.upd (e : Env) (v : Fin 4) (x : Nat) : Env := fun u => if u = v then x else e u

def Pl.cnt (n : Nat) (p : Nat → Bool) : Nat := ((List.range n).filter p).length

/-- a quantifier's word on how many elements there are -/
def Pl.Qn.says (k : Qn) (n c : Nat) : Bool := match k with
  | .A => c == n
  | .S => decide (0 < c)
  | .c2 => decide (2 ≤ c)
  | .c3 => decide (3 ≤ c)
  | .c4 => decide (4 ≤ c)

/-- a formula is true -/
def Pl.Fm.holds (a : St) : Fm → Env → Bool
  | .tru, _ => true
  | .fls, _ => false
  | .pr v, e => a.inS (e v)
  | .eq v w, e => e v == e w
  | .rel v w, e => a.inR (e v) (e w)
  | .neg p, e => !(p.holds a e)
  | .con p q, e => p.holds a e && q.holds a e
  | .dis p q, e => p.holds a e || q.holds a e
  | .qu k v p, e => k.says a.n (cnt a.n fun x => p.holds a (upd e v x))

theorem Pl.cnt_congr {n : Nat} {p q : Nat → Bool} (h : ∀ x, x < n → p x = q x) : cnt n p = cnt n q := by
  unfold cnt
  rw [List.filter_congr fun x hx => h x (List.mem_range.1 hx)]

theorem Pl.cnt_le (n : Nat) (p : Nat → Bool) : cnt n p ≤ n := by
  unfold cnt
  have := List.length_filter_le p (List.range n)
  simpa using this

theorem Pl.cnt_succ (n : Nat) (p : Nat → Bool) : cnt (n + 1) p = cnt n p + if p n then 1 else 0 := by
  unfold cnt
  rw [List.range_succ, List.filter_append, List.length_append]
  cases h : p n <;> simp [h]

theorem Pl.cnt_all {n : Nat} {p : Nat → Bool} : cnt n p = n ↔ ∀ x, x < n → p x = true := by
  induction n with
  | zero => simp [cnt]
  | succ n ih =>
    rw [cnt_succ]
    have hle := cnt_le n p
    constructor
    · intro h x hx
      cases hp : p n with
      | false => rw [hp] at h; simp at h; omega
      | true =>
        rw [hp] at h
        simp at h
        by_cases e : x = n
        · subst e; exact hp
        · exact ih.1 h x (by omega)
    · intro h
      rw [h n (by omega), ih.2 fun x hx => h x (by omega)]
      rfl

theorem Pl.cnt_pos {n : Nat} {p : Nat → Bool} : 0 < cnt n p ↔ ∃ x, x < n ∧ p x = true := by
  unfold cnt
  rw [List.length_pos_iff_exists_mem]
  constructor
  · rintro ⟨x, hx⟩; obtain ⟨h1, h2⟩ := List.mem_filter.1 hx; exact ⟨x, List.mem_range.1 h1, h2⟩
  · rintro ⟨x, h1, h2⟩; exact ⟨x, List.mem_filter.2 ⟨List.mem_range.2 h1, h2⟩⟩

theorem Pl.cnt_not (n : Nat) (p : Nat → Bool) : cnt n p + cnt n (fun x => !p x) = n := by
  unfold cnt
  have := filter_len p (List.range n)
  simpa using this.symm

theorem Pl.cnt_perm {n : Nat} {l : List Nat} (hl : IsPerm n l) (p : Nat → Bool) : cnt n (fun x => p (app l x)) = cnt n p := by
  unfold cnt
  rw [show ((List.range n).filter fun x => p (app l x)).length = (((List.range n).filter fun x => p (app l x)).map (app l)).length by simp]
  refine nodup_len_eq (map_nodup _ (List.nodup_range.filter _) fun x hx y hy e => hl.inj (List.mem_range.1 (List.mem_filter.1 hx).1) (List.mem_range.1 (List.mem_filter.1 hy).1) e) (List.nodup_range.filter _) fun x => ?_
  rw [List.mem_map, List.mem_filter, List.mem_range]
  constructor
  · rintro ⟨y, hy, rfl⟩
    obtain ⟨h1, h2⟩ := List.mem_filter.1 hy
    exact ⟨hl.app_lt (List.mem_range.1 h1), h2⟩
  · rintro ⟨h1, h2⟩
    obtain ⟨g1, g2⟩ := app_inv hl h1
    exact ⟨app (inv l) x, List.mem_filter.2 ⟨List.mem_range.2 g1, by rw [g2]; exact h2⟩, g2⟩

theorem Pl.upd_same (e : Env) (v : Fin 4) (x : Nat) : upd e v x v = x := by simp [upd]
theorem Pl.upd_other {e : Env} {v u : Fin 4} {x : Nat} (h : u ≠ v) : upd e v x u = e u := by simp [upd, h]

/-- the variables that are free -/
def Pl.Fm.isFree (f : Fm) (v : Fin 4) : Prop := f.freeBits.testBit v.val = true

theorem bit_test (v u : Fin 4) : (1 <<< v.val).testBit u.val = decide (v = u) := by revert v u; decide

theorem free_qu (k : Qn) (v : Fin 4) (p : Fm) (u : Fin 4) : (Fm.qu k v p).isFree u ↔ p.isFree u ∧ u ≠ v := by
  unfold Fm.isFree
  simp only [Fm.freeBits, Nat.testBit_and, Nat.testBit_xor, bit_test]
  have h15 : (15 : Nat).testBit u.val = true := by revert u; decide
  rw [h15]
  by_cases h : v = u
  · subst h; simp
  · simp [h, Ne.symm h]

/-- only the free variables matter -/
theorem holds_free (a : St) : ∀ (f : Fm) (e e' : Env), (∀ v, f.isFree v → e v = e' v) → f.holds a e = f.holds a e' := by
  intro f
  induction f with
  | tru => intros; rfl
  | fls => intros; rfl
  | pr v => intro e e' h; simp only [Fm.holds]; rw [h v (by simp [Fm.isFree, Fm.freeBits, bit_test])]
  | eq v w => intro e e' h; simp only [Fm.holds]; rw [h v (by simp [Fm.isFree, Fm.freeBits, bit_test]), h w (by simp [Fm.isFree, Fm.freeBits, bit_test])]
  | rel v w => intro e e' h; simp only [Fm.holds]; rw [h v (by simp [Fm.isFree, Fm.freeBits, bit_test]), h w (by simp [Fm.isFree, Fm.freeBits, bit_test])]
  | neg p ih => intro e e' h; simp only [Fm.holds]; rw [ih e e' h]
  | con p q ihp ihq =>
    intro e e' h
    simp only [Fm.holds]
    rw [ihp e e' fun v hv => h v (by unfold Fm.isFree at *; simp [Fm.freeBits, hv]), ihq e e' fun v hv => h v (by unfold Fm.isFree at *; simp [Fm.freeBits, hv])]
  | dis p q ihp ihq =>
    intro e e' h
    simp only [Fm.holds]
    rw [ihp e e' fun v hv => h v (by unfold Fm.isFree at *; simp [Fm.freeBits, hv]), ihq e e' fun v hv => h v (by unfold Fm.isFree at *; simp [Fm.freeBits, hv])]
  | qu k v p ih =>
    intro e e' h
    simp only [Fm.holds]
    rw [cnt_congr fun x _ => ih (upd e v x) (upd e' v x) fun u hu => ?_]
    by_cases huv : u = v
    · subst huv; rw [upd_same, upd_same]
    · rw [upd_other huv, upd_other huv]; exact h u ((free_qu k v p u).2 ⟨hu, huv⟩)

/-- a structure that is turned into another one: the same formulas are true of the elements that are turned -/
theorem holds_iso {a b : St} (hab : a.n = b.n) {l : List Nat} (hl : l ∈ isos a b) : ∀ (f : Fm) (e : Env), (∀ v, f.isFree v → e v < b.n) → f.holds b e = f.holds a (fun v => app l (e v)) := by
  obtain ⟨h1, h2, h3⟩ := mem_isos_iff.1 hl
  intro f
  induction f with
  | tru => intros; rfl
  | fls => intros; rfl
  | pr v => intro e h; simp only [Fm.holds]; rw [h2 _ (by rw [hab]; exact h v (by simp [Fm.isFree, Fm.freeBits, bit_test]))]
  | eq v w =>
    intro e h
    have hv := h v (by simp [Fm.isFree, Fm.freeBits, bit_test])
    have hw := h w (by simp [Fm.isFree, Fm.freeBits, bit_test])
    rw [← hab] at hv hw
    simp only [Fm.holds]
    rw [Bool.eq_iff_iff, beq_iff_eq, beq_iff_eq]
    exact ⟨fun e1 => by rw [e1], fun e1 => h1.inj hv hw e1⟩
  | rel v w =>
    intro e h
    simp only [Fm.holds]
    rw [h3 _ _ (by rw [hab]; exact h v (by simp [Fm.isFree, Fm.freeBits, bit_test])) (by rw [hab]; exact h w (by simp [Fm.isFree, Fm.freeBits, bit_test]))]
  | neg p ih => intro e h; simp only [Fm.holds]; rw [ih e h]
  | con p q ihp ihq =>
    intro e h
    simp only [Fm.holds]
    rw [ihp e fun v hv => h v (by unfold Fm.isFree at *; simp [Fm.freeBits, hv]), ihq e fun v hv => h v (by unfold Fm.isFree at *; simp [Fm.freeBits, hv])]
  | dis p q ihp ihq =>
    intro e h
    simp only [Fm.holds]
    rw [ihp e fun v hv => h v (by unfold Fm.isFree at *; simp [Fm.freeBits, hv]), ihq e fun v hv => h v (by unfold Fm.isFree at *; simp [Fm.freeBits, hv])]
  | qu k v p ih =>
    intro e h
    simp only [Fm.holds]
    rw [← hab]
    congr 1
    rw [← cnt_perm h1 (fun y => p.holds a (upd (fun u => app l (e u)) v y))]
    refine cnt_congr fun x hx => ?_
    rw [ih (upd e v x) fun u hu => ?_]
    · apply holds_free
      intro u hu
      by_cases huv : u = v
      · subst huv; rw [upd_same, upd_same]
      · rw [upd_other huv, upd_other huv]
    · by_cases huv : u = v
      · subst huv; rw [upd_same, ← hab]; exact hx
      · rw [upd_other huv]; exact h u ((free_qu k v p u).2 ⟨hu, huv⟩)

/-- pushed negations -/
theorem holds_push (a : St) : ∀ (f : Fm) (b : Bool) (e : Env), (f.push b).holds a e = (if b then !(f.holds a e) else f.holds a e) := by
  intro f
  induction f with
  | tru => intro b e; cases b <;> rfl
  | fls => intro b e; cases b <;> rfl
  | pr v => intro b e; cases b <;> rfl
  | eq v w => intro b e; cases b <;> rfl
  | rel v w => intro b e; cases b <;> rfl
  | neg p ih => intro b e; simp only [Fm.push, Fm.holds, ih]; cases b <;> simp
  | con p q ihp ihq => intro b e; cases b <;> simp [Fm.push, Fm.holds, ihp, ihq]
  | dis p q ihp ihq => intro b e; cases b <;> simp [Fm.push, Fm.holds, ihp, ihq]
  | qu k v p ih =>
    intro b e
    have h2 : cnt a.n (fun x => !(p.holds a (upd e v x))) + cnt a.n (fun x => p.holds a (upd e v x)) = a.n := by
      have := cnt_not a.n (fun x => p.holds a (upd e v x)); omega
    cases k <;> cases b <;> simp only [Fm.push, Fm.holds, ih, if_true, if_false, Bool.false_eq_true, Bool.not_true, Bool.not_false, Bool.not_not] <;> try rfl
    · simp only [Qn.says]
      rw [Bool.eq_iff_iff]
      simp only [decide_eq_true_eq, Bool.not_eq_true', beq_eq_false_iff_ne]
      omega
    · simp only [Qn.says]
      rw [Bool.eq_iff_iff]
      simp only [beq_iff_eq, Bool.not_eq_true', decide_eq_false_iff_not]
      omega

end Go.Proofs.YtjdnjhoddlalaaaDoor
