/-
  Walks of the program's rank, counts and varsText over a tree. Condition: the formula has at most 4000 bytes (rank).
-/
import Derived.Test.YtjmfldakfokoaaaRankA
import Derived.Test.YtjmfldakfokoaaaForm
namespace Go.Proofs.Ytjmfldakfokoaaa
open Go.RowKit
open Pl

/-- the cells of a node that a walk reads -/
theorem node_cells {S : Nat → Prop} {w : World} {f : Fm} {b : Nat} (h : TreeIn S w f b) :
    ∃ ks vsv psv, w.cell? ⟨b, 0, none⟩ = some (.int .u8 f.op.toNat) ∧ w.cell? ⟨b, 1, none⟩ = some vsv ∧ w.cell? ⟨b, 2, none⟩ = some psv ∧
      w.cell? ⟨b, 3, none⟩ = some (.int .i64 f.freeBits) ∧ w.cell? ⟨b, 4, none⟩ = some (.int .i64 f.allBits) ∧
      w.ownsRow 0 5 1 vsv f.vars.length (f.vars.map fun v => byteV (vb v)) ∧ w.ownsRow 0 39 1 psv ks.length (ks.map kidV) ∧ TreesIn S w f.parts ks := by
  obtain ⟨ks, ⟨_, vsv, psv, hb, h1, _, h2, _⟩, h3⟩ := h.open
  exact ⟨ks, vsv, psv, cell_at hb 0, cell_at hb 1, cell_at hb 2, cell_at hb 3, cell_at hb 4, h1, h2, h3⟩

/-- a row that may be empty, as a slice -/
theorem row_slice {w : World} {base : Nat} {e : TypeId} {v : Value} {n : Nat} {xs : List Value} (h : w.ownsRow base e 1 v n xs) :
    ∃ a cap, v = .slice a n cap ∧ xs.length = n ∧ (∀ j, j < n → ∃ g, a = some ⟨g, 0, none⟩ ∧ w.cell? ⟨g, j, none⟩ = xs[j]?) := by
  rcases Nat.eq_zero_or_pos n with h0 | h0
  · subst h0
    obtain ⟨hl, ⟨rfl, _⟩ | ⟨g, cap, cur, rfl, _⟩⟩ := h
    · exact ⟨_, _, rfl, by simpa using hl, fun j hj => absurd hj (Nat.not_lt_zero _)⟩
    · exact ⟨_, _, rfl, by simpa using hl, fun j hj => absurd hj (Nat.not_lt_zero _)⟩
  · obtain ⟨g, cap, rfl, _, _, _, _, hc⟩ := row_open h h0
    exact ⟨_, _, rfl, by simpa using h.1, fun j hj => ⟨g, rfl, hc j hj⟩⟩

theorem parts_le (f : Fm) : f.parts.length ≤ 2 := by cases f <;> simp [Fm.parts]
theorem vars_le (f : Fm) : f.vars.length ≤ 2 := by cases f <;> simp [Fm.vars]

theorem part_text_le {f p : Fm} (h : p ∈ f.parts) : p.text.length ≤ f.text.length := by
  cases f <;> simp [Fm.parts] at h
  case neg => subst h; simp [Fm.text]
  case con => rcases h with h | h <;> subst h <;> simp [Fm.text] <;> omega
  case dis => rcases h with h | h <;> subst h <;> simp [Fm.text] <;> omega
  case qu => subst h; simp [Fm.text]; omega

theorem foldmax_lt {m : Nat} : ∀ (ps : List Fm), m < 100000 → (∀ p ∈ ps, p.rank < 100000) → ps.foldl (fun m p => max m p.rank) m < 100000 := by
  intro ps
  induction ps generalizing m with
  | nil => intro h _; exact h
  | cons p ps ih =>
    intro h hp
    exact ih (Nat.max_lt.2 ⟨h, hp p (by simp)⟩) (fun q hq => hp q (by simp [hq]))

set_option maxHeartbeats 400000 in
theorem rank_calls (n : Nat) : ∀ (f : Fm) (b : Nat) (S : Nat → Prop) (w : World), f.size ≤ n → TreeIn S w f b → f.text.length ≤ 4000 →
    Calls Try.prog 48 #[kidV b] w fun e w' => e = .returned (.int .i64 f.rank) ∧ w = w' := by
  induction n with
  | zero => intro f b S w hn _ _; cases f <;> simp [Fm.size] at hn
  | succ n ih =>
    intro f b S w hn ht hl
    obtain ⟨ks, vsv, psv, hc0, _, hc2, _, _, _, hr, hts⟩ := node_cells ht
    obtain ⟨a, cap, rfl, hkl, hrow⟩ := row_slice hr
    have hkl2 : ks.length = f.parts.length := hts.1
    have hp2 := parts_le f
    have hkl3 : ks.length ≤ 2 := by omega
    have Ih := Lib.hid ih
    have Hrow := Lib.hid hrow
    have Hts := Lib.hid hts
    have Hkl := Lib.hid hkl2
    have hrk : ∀ p ∈ f.parts, p.rank < 100000 := fun p hp => by have := rank_le p; have := part_text_le hp; omega
    have Hrk := Lib.hid hrk
    have hfin := rank_eq f
    have hrl := rank_le f
    have Hfin := Lib.hid hfin
    clear ih hrow hts hkl hkl2 hr hrk hfin ht
    go_enter Try.func48, Try.ntmps48
    go_wp2_with fail
    go_loop [3, 11] (fun m i => ∃ k : Nat, k ≤ ks.length ∧ i = .int .i64 k ∧ m = .int .i64 ((f.parts.take k).foldl (fun m p => max m p.rank) 0 : Nat)) (fun _ i => ks.length - (intOf i).toNat)
    case atStart => exact ⟨0, Nat.zero_le _, rfl, rfl⟩
    case round =>
      obtain ⟨k, hk, rfl, rfl⟩ := hrel
      have hm : ((f.parts.take k).foldl (fun m p => max m p.rank) 0) < 100000 := foldmax_lt _ (by decide) (fun p hp => Hrk.out p (List.mem_of_mem_take hp))
      by_cases hlt : k < ks.length
      · obtain ⟨g, rfl, hcell⟩ := Hrow.out k hlt
        have hkf : k < f.parts.length := by rw [← Hkl.out]; exact hlt
        have hcell2 : w.cell? ⟨g, k, none⟩ = some (kidV ks[k]) := by rw [hcell, List.getElem?_map, List.getElem?_eq_getElem hlt]; rfl
        have hpk := Hts.out.2 k f.parts[k] ks[k] (List.getElem?_eq_getElem hkf) (List.getElem?_eq_getElem hlt)
        have hmem : f.parts[k] ∈ f.parts := List.getElem_mem hkf
        have hsz := Fm.size_parts hmem
        have hcall := Ih.out f.parts[k] ks[k] S w (by omega) hpk (by have := part_text_le hmem; omega)
        have Hcall := Lib.hid hcall
        have hrk2 := Hrk.out _ hmem
        have hsnoc : (f.parts.take (k + 1)).foldl (fun m p => max m p.rank) 0 = max ((f.parts.take k).foldl (fun m p => max m p.rank) 0) f.parts[k].rank := by
          rw [List.take_succ_eq_append_getElem hkf, List.foldl_append]; rfl
        have Hsnoc := Lib.hid hsnoc
        clear hcell hpk hmem hsz hcall hsnoc
        go_wp2_with (go_at_call 48; refine (Hcall.out).mono ?_; rintro e w' ⟨rfl, rfl⟩)
        go_round
        case rel => exact ⟨k + 1, by omega, by go_num, by rw [Hsnoc.out]; congr 1; split <;> omega⟩
        case measure => simp [intOf]; omega
      · have hk2 : k = ks.length := by omega
        have htk : f.parts.take k = f.parts := List.take_of_length_le (by rw [hk2, Hkl.out]; exact Nat.le_refl _)
        have Htk := Lib.hid htk
        clear htk hk2
        cases hco : isCoB f.op with
        | true =>
          have hadd : rankAdd f.op = f.op.toNat - 48 := by simp [rankAdd, hco]
          have hop : 50 ≤ f.op.toNat ∧ f.op.toNat ≤ 52 := by
            simp only [isCoB, Bool.or_eq_true, beq_iff_eq] at hco
            rcases hco with (h | h) | h <;> rw [h] <;> decide
          obtain ⟨hop1, hop2⟩ : 50 ≤ (f.op.toNat : Int) ∧ (f.op.toNat : Int) ≤ 52 := by omega
          have Hadd := Lib.hid hadd
          have Hco := Lib.hid hco
          clear hadd hco hop
          go_wp2_with (first | (go_at_call 61; refine (isCounting_at f.op _ Hco.out _ _ hc0).mono ?_; rintro e w' ⟨rfl, rfl⟩))
          go_ret
          refine ⟨ret_int ?_, rfl⟩
          rw [Hfin.out, Hadd.out, Htk.out]
          omega
        | false =>
          cases hqu : isQuB f.op with
          | true =>
            have hadd : rankAdd f.op = 1 := by simp [rankAdd, hco, hqu]
            have Hadd := Lib.hid hadd
            have Hco := Lib.hid hco
            have Hqu := Lib.hid hqu
            clear hadd hco hqu
            go_wp2_with (first | (go_at_call 61; refine (isCounting_at f.op _ Hco.out _ _ hc0).mono ?_; rintro e w' ⟨rfl, rfl⟩) | (go_at_call 62; refine (isQuantifier_at f.op _ Hqu.out _ _ hc0).mono ?_; rintro e w' ⟨rfl, rfl⟩))
            go_ret
            refine ⟨ret_int ?_, rfl⟩
            rw [Hfin.out, Hadd.out, Htk.out]
            omega
          | false =>
            have hadd : rankAdd f.op = 0 := by simp [rankAdd, hco, hqu]
            have Hadd := Lib.hid hadd
            have Hco := Lib.hid hco
            have Hqu := Lib.hid hqu
            clear hadd hco hqu
            go_wp2_with (first | (go_at_call 61; refine (isCounting_at f.op _ Hco.out _ _ hc0).mono ?_; rintro e w' ⟨rfl, rfl⟩) | (go_at_call 62; refine (isQuantifier_at f.op _ Hqu.out _ _ hc0).mono ?_; rintro e w' ⟨rfl, rfl⟩))
            go_ret
            refine ⟨ret_int ?_, rfl⟩
            rw [Hfin.out, Hadd.out, Htk.out]
            omega

/-- what a walk over the parts is told -/
def AnyPost (f : Fm) (e : Ending) : Prop := (f.parts.any Fm.counts = false ∧ e = .returned (.int .i64 (-1))) ∨ (f.parts.any Fm.counts = true ∧ ∃ k : Nat, k ≤ 2 ∧ e = .returned (.int .i64 k))

set_option maxHeartbeats 400000 in
theorem counts_calls (n : Nat) : ∀ (f : Fm) (b : Nat) (S : Nat → Prop) (w : World), f.size ≤ n → TreeIn S w f b →
    Calls Try.prog 51 #[kidV b] w fun e w' => e = .returned (.bool f.counts) ∧ w = w' := by
  induction n with
  | zero => intro f b S w hn _; cases f <;> simp [Fm.size] at hn
  | succ n ih =>
    intro f b S w hn ht
    obtain ⟨ks, vsv, psv, hc0, _, hc2, _, _, _, hr, hts⟩ := node_cells ht
    obtain ⟨a, cap, rfl, hkl, hrow⟩ := row_slice hr
    have hkl2 : ks.length = f.parts.length := hts.1
    have hp2 := parts_le f
    have hkl3 : ks.length ≤ 2 := by omega
    have Ih := Lib.hid ih
    have Hrow := Lib.hid hrow
    have Hts := Lib.hid hts
    have Hkl := Lib.hid hkl2
    have hfin := counts_eq f
    have Hfin := Lib.hid hfin
    clear ih hrow hts hkl hkl2 hr hfin ht
    have hidx : Calls Try.prog 71 #[.slice a ks.length cap, .func (.func 51) #[] #[]] w fun e w' => AnyPost f e ∧ w = w' := by
      go_enter Try.func71, Try.ntmps71
      go_wp2_with fail
      go_loop [8] (fun i => ∃ k : Nat, k ≤ ks.length ∧ i = .int .i64 k ∧ (f.parts.take k).any Fm.counts = false) (fun i => ks.length - (intOf i).toNat)
      case atStart => exact ⟨0, Nat.zero_le _, rfl, rfl⟩
      case round =>
        obtain ⟨k, hk, rfl, hno⟩ := hrel
        have Hno := Lib.hid hno
        clear hno
        by_cases hlt : k < ks.length
        · obtain ⟨g, rfl, hcell⟩ := Hrow.out k hlt
          have hkf : k < f.parts.length := by rw [← Hkl.out]; exact hlt
          have hcell2 : w.cell? ⟨g, k, none⟩ = some (kidV ks[k]) := by rw [hcell, List.getElem?_map, List.getElem?_eq_getElem hlt]; rfl
          have hpk := Hts.out.2 k f.parts[k] ks[k] (List.getElem?_eq_getElem hkf) (List.getElem?_eq_getElem hlt)
          have hmem : f.parts[k] ∈ f.parts := List.getElem_mem hkf
          have hsz := Fm.size_parts hmem
          have hcall := Ih.out f.parts[k] ks[k] S w (by omega) hpk
          have Hmem := Lib.hid hmem
          have hsnoc : (f.parts.take (k + 1)).any Fm.counts = ((f.parts.take k).any Fm.counts || f.parts[k].counts) := by
            rw [List.take_succ_eq_append_getElem hkf, List.any_append]; simp
          have Hsnoc := Lib.hid hsnoc
          clear hcell hpk hmem hsz hsnoc
          cases hcv : f.parts[k].counts with
          | true =>
            rw [hcv] at hcall
            have Hcall := Lib.hid hcall
            have Hcv := Lib.hid hcv
            clear hcall hcv
            go_wp2_with (go_at_call 51; refine (Hcall.out).mono ?_; rintro e w' ⟨rfl, rfl⟩)
            go_ret
            exact ⟨.inr ⟨List.any_eq_true.2 ⟨_, Hmem.out, Hcv.out⟩, k, by omega, rfl⟩, rfl⟩
          | false =>
            rw [hcv] at hcall
            have Hcall := Lib.hid hcall
            have Hcv := Lib.hid hcv
            clear hcall hcv
            go_wp2_with (go_at_call 51; refine (Hcall.out).mono ?_; rintro e w' ⟨rfl, rfl⟩)
            go_round
            case rel => exact ⟨k + 1, by omega, by go_num, by rw [Hsnoc.out, Hno.out, Hcv.out]; rfl⟩
            case measure => simp [intOf]; omega
        · have hk2 : k = ks.length := by omega
          have htk : f.parts.take k = f.parts := List.take_of_length_le (by rw [hk2, Hkl.out]; exact Nat.le_refl _)
          have Htk := Lib.hid htk
          clear htk hk2
          go_wp2_with fail
          go_ret
          exact ⟨.inl ⟨by rw [← Htk.out]; exact Hno.out, rfl⟩, rfl⟩
    have Hidx := Lib.hid hidx
    clear hidx
    cases hco : isCoB f.op with
    | true =>
      have hv : f.counts = true := by rw [Hfin.out, hco]; rfl
      rw [hv]
      have Hco := Lib.hid hco
      clear hco hv
      go_enter Try.func51, Try.ntmps51
      go_wp2_with (go_at_call 61; refine (isCounting_at f.op _ Hco.out _ _ hc0).mono ?_; rintro e w' ⟨rfl, rfl⟩)
      go_ret
      exact ⟨rfl, rfl⟩
    | false =>
      have hv : f.counts = f.parts.any Fm.counts := by rw [Hfin.out, hco]; rfl
      have hcf : Calls Try.prog 63 #[.slice a ks.length cap, .func (.func 51) #[] #[]] w fun e w' => e = .returned (.bool (f.parts.any Fm.counts)) ∧ w = w' := by
        go_enter Try.func63, Try.ntmps63
        go_wp2_with (go_at_call 71; refine (Hidx.out).mono ?_; rintro e w' ⟨⟨hno, rfl⟩ | ⟨hyes, k, hk, rfl⟩, rfl⟩)
        · go_ret
          exact ⟨ret_bool (by rw [hno]), rfl⟩
        · go_ret
          exact ⟨ret_bool (by rw [hyes]), rfl⟩
      have Hco := Lib.hid hco
      have Hcf := Lib.hid hcf
      have Hv := Lib.hid hv
      clear hco hcf hv
      go_enter Try.func51, Try.ntmps51
      go_wp2_with (first | (go_at_call 61; refine (isCounting_at f.op _ Hco.out _ _ hc0).mono ?_; rintro e w' ⟨rfl, rfl⟩) | (go_at_call 63; refine (Hcf.out).mono ?_; rintro e w' ⟨rfl, rfl⟩))
      go_ret
      exact ⟨ret_bool Hv.out.symm, rfl⟩

/-- a bit as the walk reckons it -/
theorem shr_bit (m k : Nat) (hm : m < 16) (hk : k < 4) : (bits .and .i64 ((m : Int) / 2 ^ k) 1 == 1) = m.testBit k := by
  have h : ∀ (m : Fin 16) (k : Fin 4), (bits .and .i64 ((m.val : Int) / 2 ^ k.val) 1 == 1) = m.val.testBit k.val := by decide +kernel
  exact h ⟨m, hm⟩ ⟨k, hk⟩

theorem abcd_at (k : Nat) (hk : k < 4) : (ByteArray.mk #[97, 98, 99, 100]).extract k (k + 1) = bs [UInt8.ofNat (97 + k)] := by
  apply eq_bs
  rw [Lib.extract_data]
  match k, hk with
  | 0, _ => rfl
  | 1, _ => rfl
  | 2, _ => rfl
  | 3, _ => rfl

set_option maxHeartbeats 400000 in
theorem varsText_calls (m : Nat) (hm : m < 16) (w : World) :
    Calls Try.prog 35 #[.int .i64 m] w fun e w' => e = .returned (.string (bs (varsL m 4))) ∧ w = w' := by
  go_enter Try.func35, Try.ntmps35
  go_wp2_with fail
  go_loop [3, 5] (fun o i => ∃ k : Nat, k ≤ 4 ∧ i = .int .i64 k ∧ o = .string (bs (varsL m k))) (fun _ i => 4 - (intOf i).toNat)
  case atStart => exact ⟨0, by omega, rfl, rfl⟩
  case round =>
    obtain ⟨k, hk, rfl, rfl⟩ := hrel
    have hsz : (bs (varsL m k)).size ≤ 4 := by rw [bs_size]; have := varsL_len m k; omega
    by_cases hlt : k < 4
    · have hbit := shr_bit m k hm hlt
      cases hb : m.testBit k with
      | true =>
        rw [hb] at hbit
        have Hb := Lib.hid hb
        clear hb
        go_wp2_with fail
        go_round
        case rel => exact ⟨k + 1, by omega, by go_num, str_eq (by rw [varsL_yes Hb.out, abcd_at k hlt, append_bs]; rfl)⟩
        case measure => simp [intOf]; omega
      | false =>
        rw [hb] at hbit
        have Hb := Lib.hid hb
        clear hb
        go_wp2_with fail
        go_round
        case rel => exact ⟨k + 1, by omega, by go_num, str_eq (by rw [varsL_no Hb.out])⟩
        case measure => simp [intOf]; omega
    · obtain rfl : k = 4 := by omega
      go_wp2_with fail
      go_ret
      exact ⟨rfl, rfl⟩

end Go.Proofs.Ytjmfldakfokoaaa
