/-
  Walks of the program's turned and push over a tree. Condition: the formula has at most 300000 bytes.
-/
import Derived.Test.YtjmfldakfokoaaaText
import Derived.Deep.CutBlock
namespace Go.Proofs.Ytjmfldakfokoaaa
open Go.RowKit
open Pl

/-- the operators that stay behind a negation -/
def keepB (b : UInt8) : Bool := ((b.toNat : Int) == 80) || ((b.toNat : Int) == 61) || ((b.toNat : Int) == 69) || ((b.toNat : Int) == 50) || ((b.toNat : Int) == 51) || ((b.toNat : Int) == 52)

/-- the operator that stands for another one behind a negation -/
def turnB (b : UInt8) : UInt8 := if b = 116 then 102 else if b = 102 then 116 else if b = 38 then 124 else if b = 124 then 38 else if b = 65 then 83 else if b = 83 then 65 else b

def pushL (o : Bool) (f : Fm) : List UInt8 := (f.push o).text

theorem push_neg (f : Fm) (h : f.op = 33) : ∃ p, f.parts = [p] ∧ ∀ o, pushL o f = pushL (!o) p := by
  cases f with
  | neg p => exact ⟨p, rfl, fun o => rfl⟩
  | qu k v p => cases k <;> simp [Fm.op, Qn.b] at h
  | _ => simp [Fm.op] at h

theorem push_keep (f : Fm) (h : keepB f.op = true) (o : Bool) : pushL o f = (if o then [33] else []) ++ (f.headL ++ (f.parts.map (pushL false)).flatten) := by
  cases f with
  | qu k v p => cases k <;> first | (simp [Fm.op, Qn.b, keepB] at h; done) | (cases o <;> simp [pushL, Fm.push, Fm.text, Fm.headL, Fm.op, Fm.vars, Fm.parts])
  | pr v => cases o <;> simp [pushL, Fm.push, Fm.text, Fm.headL, Fm.op, Fm.vars, Fm.parts]
  | eq v w => cases o <;> simp [pushL, Fm.push, Fm.text, Fm.headL, Fm.op, Fm.vars, Fm.parts]
  | rel v w => cases o <;> simp [pushL, Fm.push, Fm.text, Fm.headL, Fm.op, Fm.vars, Fm.parts]
  | _ => simp [Fm.op, keepB] at h

theorem push_turn (f : Fm) (h : keepB f.op = false) (h2 : f.op ≠ 33) (o : Bool) :
    pushL o f = ((if o then turnB f.op else f.op) :: f.vars.map vb) ++ (f.parts.map (pushL o)).flatten := by
  cases f with
  | qu k v p => cases k <;> first | (simp [Fm.op, Qn.b, keepB] at h; done) | (cases o <;> simp [pushL, Fm.push, Fm.text, Fm.op, Fm.vars, Fm.parts, turnB, Qn.b])
  | tru => cases o <;> simp [pushL, Fm.push, Fm.text, Fm.op, Fm.vars, Fm.parts, turnB]
  | fls => cases o <;> simp [pushL, Fm.push, Fm.text, Fm.op, Fm.vars, Fm.parts, turnB]
  | con p q => cases o <;> simp [pushL, Fm.push, Fm.text, Fm.op, Fm.vars, Fm.parts, turnB]
  | dis p q => cases o <;> simp [pushL, Fm.push, Fm.text, Fm.op, Fm.vars, Fm.parts, turnB]
  | neg p => exact absurd rfl h2
  | _ => simp [Fm.op, keepB] at h

theorem op_turn (f : Fm) (h : keepB f.op = false) (h2 : f.op ≠ 33) : f.op = 116 ∨ f.op = 102 ∨ f.op = 38 ∨ f.op = 124 ∨ f.op = 65 ∨ f.op = 83 := by
  cases f with
  | qu k v p => cases k <;> first | (simp [Fm.op, Qn.b, keepB] at h; done) | simp [Fm.op, Qn.b]
  | neg p => exact absurd rfl h2
  | tru => simp [Fm.op]
  | fls => simp [Fm.op]
  | con p q => simp [Fm.op]
  | dis p q => simp [Fm.op]
  | _ => simp [Fm.op, keepB] at h

theorem turned_calls (b : UInt8) (w : World) (h : b = 116 ∨ b = 102 ∨ b = 38 ∨ b = 124 ∨ b = 65 ∨ b = 83) :
    Calls Try.prog 56 #[.int .u8 b.toNat] w fun e w' => e = .returned (.int .u8 (turnB b).toNat) ∧ w = w' := by
  rcases h with rfl | rfl | rfl | rfl | rfl | rfl
  · have h : ∀ w, Calls Try.prog 65 #[.string ⟨#[116, 102, 38, 124, 65, 83]⟩, .int .u8 116] w fun e w' => e = .returned (.int .i64 0) ∧ w = w' := fun w => IndexByte_calls ⟨#[116, 102, 38, 124, 65, 83]⟩ 116 w
    have H := Lib.hid h
    clear h
    go_enter Try.func56, Try.ntmps56
    go_wp2_with (go_at_call 65; refine (H.out _).mono ?_; rintro e w' ⟨rfl, rfl⟩)
    go_ret
    exact ⟨rfl, rfl⟩
  · have h : ∀ w, Calls Try.prog 65 #[.string ⟨#[116, 102, 38, 124, 65, 83]⟩, .int .u8 102] w fun e w' => e = .returned (.int .i64 1) ∧ w = w' := fun w => IndexByte_calls ⟨#[116, 102, 38, 124, 65, 83]⟩ 102 w
    have H := Lib.hid h
    clear h
    go_enter Try.func56, Try.ntmps56
    go_wp2_with (go_at_call 65; refine (H.out _).mono ?_; rintro e w' ⟨rfl, rfl⟩)
    go_ret
    exact ⟨rfl, rfl⟩
  · have h : ∀ w, Calls Try.prog 65 #[.string ⟨#[116, 102, 38, 124, 65, 83]⟩, .int .u8 38] w fun e w' => e = .returned (.int .i64 2) ∧ w = w' := fun w => IndexByte_calls ⟨#[116, 102, 38, 124, 65, 83]⟩ 38 w
    have H := Lib.hid h
    clear h
    go_enter Try.func56, Try.ntmps56
    go_wp2_with (go_at_call 65; refine (H.out _).mono ?_; rintro e w' ⟨rfl, rfl⟩)
    go_ret
    exact ⟨rfl, rfl⟩
  · have h : ∀ w, Calls Try.prog 65 #[.string ⟨#[116, 102, 38, 124, 65, 83]⟩, .int .u8 124] w fun e w' => e = .returned (.int .i64 3) ∧ w = w' := fun w => IndexByte_calls ⟨#[116, 102, 38, 124, 65, 83]⟩ 124 w
    have H := Lib.hid h
    clear h
    go_enter Try.func56, Try.ntmps56
    go_wp2_with (go_at_call 65; refine (H.out _).mono ?_; rintro e w' ⟨rfl, rfl⟩)
    go_ret
    exact ⟨rfl, rfl⟩
  · have h : ∀ w, Calls Try.prog 65 #[.string ⟨#[116, 102, 38, 124, 65, 83]⟩, .int .u8 65] w fun e w' => e = .returned (.int .i64 4) ∧ w = w' := fun w => IndexByte_calls ⟨#[116, 102, 38, 124, 65, 83]⟩ 65 w
    have H := Lib.hid h
    clear h
    go_enter Try.func56, Try.ntmps56
    go_wp2_with (go_at_call 65; refine (H.out _).mono ?_; rintro e w' ⟨rfl, rfl⟩)
    go_ret
    exact ⟨rfl, rfl⟩
  · have h : ∀ w, Calls Try.prog 65 #[.string ⟨#[116, 102, 38, 124, 65, 83]⟩, .int .u8 83] w fun e w' => e = .returned (.int .i64 5) ∧ w = w' := fun w => IndexByte_calls ⟨#[116, 102, 38, 124, 65, 83]⟩ 83 w
    have H := Lib.hid h
    clear h
    go_enter Try.func56, Try.ntmps56
    go_wp2_with (go_at_call 65; refine (H.out _).mono ?_; rintro e w' ⟨rfl, rfl⟩)
    go_ret
    exact ⟨rfl, rfl⟩

theorem pushL_le (o : Bool) (f : Fm) : (pushL o f).length ≤ 2 * f.text.length := push_le f o

set_option maxHeartbeats 2000000 in
set_option maxRecDepth 100000 in
theorem push_calls (n : Nat) : ∀ (o : Bool) (f : Fm) (b : Nat) (S : Nat → Prop) (w : World), f.size ≤ n → TreeIn S w f b → f.text.length ≤ 300000 →
    Calls Try.prog 42 #[kidV b, .bool o] w fun e w' => e = .returned (.string (bs (pushL o f))) ∧ Below w.heap.size w w' := by
  induction n with
  | zero => intro o f b S w hn _ _; cases f <;> simp [Fm.size] at hn
  | succ n ih =>
    intro o f b S w hn ht hl
    have Ht := Lib.hid ht
    have Ih := Lib.hid ih
    clear ih
    obtain ⟨ks0, vsv, psv0, hc0, hc1, hc2, _, _, hr1, hr0, hts0⟩ := node_cells ht
    by_cases h33 : f.op = 33
    · obtain ⟨p, hp, hpush⟩ := push_neg f h33
      have hk0 := hts0.1
      rw [hp] at hk0
      obtain ⟨k0, rfl⟩ : ∃ k0, ks0 = [k0] := by
        match ks0, hk0 with
        | [k0], _ => exact ⟨k0, rfl⟩
      obtain ⟨g, cap, rfl, hcap, hcm, _, hglt, hcell⟩ := row_open hr0 (by simp)
      have hcl := hcell 0 (by simp)
      have hcell0 : w.cell? ⟨g, 0, none⟩ = some (kidV k0) := by rw [hcl]; rfl
      have hpk := hts0.2 0 p k0 (by rw [hp]; rfl) rfl
      have hmem : p ∈ f.parts := by rw [hp]; simp
      have hsz := Fm.size_parts hmem
      have hcall := Ih.out (!o) p k0 S w (by omega) hpk (by have := part_text_le hmem; omega)
      rw [← hpush o] at hcall
      have Hcall := Lib.hid hcall
      have hop : (f.op.toNat : Int) = 33 := by rw [h33]; rfl
      clear hcall hpush hp hk0 hcell hcl hr0 hts0 hpk hmem hsz hr1 ht hc1 h33
      go_enter Try.func42, Try.ntmps42
      go_wp2_with (go_at_call 42; refine (Hcall.out).mono ?_; rintro e w' ⟨rfl, hb2⟩)
      go_ret
      exact ⟨rfl, hb2⟩
    · have hop33 : ((f.op.toNat : Int) == 33) = false := by
        rw [beq_eq_false_iff_ne]
        intro e
        apply h33
        apply UInt8.toNat_inj.1
        show f.op.toNat = 33
        omega
      clear hr0 hts0
      cases hkeep : keepB f.op with
      | true =>
        have hpk := push_keep f hkeep o
        have Hpk := Lib.hid hpk
        have Hkeep := Lib.hid hkeep
        clear hpk hkeep h33
        have hcv1 : (convert 32 9 vsv).run Try.prog w.drew = .ok (.string (bs (f.vars.map vb))) w.drew := conv_row (w := w.drew) (base := 0) (n := f.vars.length) (by rw [← vars_bytes]; exact hr1)
        have hcv2 : ∀ o, (convert 32 9 vsv).run Try.prog (w.alloc o).drew = .ok (.string (bs (f.vars.map vb))) (w.alloc o).drew := fun o => conv_row (w := (w.alloc o).drew) (base := 0) (n := f.vars.length) (by rw [← vars_bytes]; exact ownsRow_world hr1 ((Below.refl _ _).alloc (Nat.le_refl _) _).drew)
        have hcv3 : (convert 32 9 (.slice (some ⟨w.heap.size, 0, none⟩) 1 1)).run Try.prog (w.alloc (.cells #[.int .u8 f.op.toNat] 5)).drew = .ok (.string (bs [f.op])) (w.alloc (.cells #[.int .u8 f.op.toNat] 5)).drew := conv_row (new_byte w f.op)
        have hlb := World.block_lt_of_cell? w _ hc0
        have ha0 : ∀ o, (w.alloc o).cell? ⟨b, 0, none⟩ = some (.int .u8 f.op.toNat) := fun o => (World.cell?_of_block (w := w) (Below.heap_alloc w o b hlb)).trans hc0
        have ha1 : ∀ o, (w.alloc o).cell? ⟨b, 1, none⟩ = some vsv := fun o => (World.cell?_of_block (w := w) (Below.heap_alloc w o b hlb)).trans hc1
        have hsz : (bs (f.vars.map vb)).size ≤ 2 := by rw [bs_size]; have := vars_le f; simp; omega
        have hsz1 : (bs [f.op]).size ≤ 1 := by rw [bs_size]; simp
        clear ht hr1
        go_enter Try.func42, Try.ntmps42
        go_upto_if 16 with (fail)
        go_step
        go_step
        go_cut [27] (fun v wx => v = .bool (keepB f.op) ∧ wx = w)
        case first =>
          go_wp2_with fail
          all_goals
            go_meet
            case rel => exact ⟨by congr 1; simp [keepB, *], rfl⟩
        case rest =>
          obtain ⟨rfl, rfl⟩ := hcut
          rw [Hkeep.out]
          go_upto_region 10 with (fail)
          go_cut [5] (fun s wx => s = .string (bs f.headL) ∧ Below wc.heap.size wc wx)
          case first =>
            go_region
            all_goals
              go_wp2_with fail
              go_meet
              case rel => exact ⟨str_eq (append_bs _ _), ((Below.refl _ _).alloc (Nat.le_refl _) _).drew⟩
          case rest =>
            cases o with
            | true =>
              obtain ⟨rfl, hbc⟩ := hcut
              have Hbc := Lib.hid hbc
              have ht2 := TreeIn.world Ht.out hbc
              clear hc0 hc1 hc2 hcv1 hcv2 hcv3 hlb ha0 ha1 hsz hsz1 hbc
              obtain ⟨ks, vsv2, psv, hc0, _, hc2, _, _, _, hr, hts⟩ := node_cells ht2
              obtain ⟨a, cap, rfl, hkl, hrow⟩ := row_slice hr
              have hkl2 : ks.length = f.parts.length := hts.1
              have hp2 := parts_le f
              have hkl3 : ks.length ≤ 2 := by omega
              have Hrow := Lib.hid hrow
              have Hts := Lib.hid hts
              have Hkl := Lib.hid hkl2
              clear hrow hts hkl hkl2 hr ht2
              go_wp2_with fail
              go_loopg [5, 51] ks.length (fun c o i wr => ∃ k : Nat, k + c = ks.length ∧ i = .int .i64 k ∧ o = .string (bs (headT f (f.headL) (pushL false) k)) ∧ Below wc.heap.size wc wr)
              case atStart => exact ⟨0, by omega, rfl, by rw [headT_zero], Below.refl _ _⟩
              case round =>
                obtain ⟨k, hk, rfl, rfl, hbr⟩ := hrel
                have Hbr := Lib.hid hbr
                clear hbr
                by_cases hlt : k < ks.length
                · obtain ⟨g, rfl, hcell⟩ := Hrow.out k hlt
                  have hkf : k < f.parts.length := by rw [← Hkl.out]; exact hlt
                  have hcell1 : wc.cell? ⟨g, k, none⟩ = some (kidV ks[k]) := by rw [hcell, List.getElem?_map, List.getElem?_eq_getElem hlt]; rfl
                  have hcell2 : wr.cell? ⟨g, k, none⟩ = some (kidV ks[k]) := (Hbr.out.cell (World.block_lt_of_cell? wc _ hcell1)).trans hcell1
                  have hpk := (Hts.out.world Hbr.out).2 k f.parts[k] ks[k] (List.getElem?_eq_getElem hkf) (List.getElem?_eq_getElem hlt)
                  have hmem : f.parts[k] ∈ f.parts := List.getElem_mem hkf
                  have hsz := Fm.size_parts hmem
                  have hcall := Ih.out false f.parts[k] ks[k] S wr (by omega) hpk (by have := part_text_le hmem; omega)
                  have Hcall := Lib.hid hcall
                  have hsnoc := headT_succ f (f.headL) (pushL false) k hkf
                  have hs1 : (bs ((pushL false) f.parts[k])).size ≤ 600000 := by rw [bs_size]; have := part_text_le hmem; have := pushL_le false f.parts[k]; omega
                  have hs2 : (bs (headT f (f.headL) (pushL false) k)).size ≤ 3 + 2 * 600000 := by rw [bs_size]; exact headT_len f (f.headL) (pushL false) k 3 600000 (head_len f) (fun p hp => by have := part_text_le hp; have := pushL_le false p; omega)
                  have Hsnoc := Lib.hid hsnoc
                  clear hcell hcell1 hpk hmem hsz hcall hsnoc
                  go_wp2_with (go_at_call 42; refine (Hcall.out).mono ?_; rintro e w' ⟨rfl, hb2⟩)
                  go_roundg (gk - 1)
                  case rel => exact ⟨k + 1, by omega, by go_num, str_eq (by rw [append_bs, Hsnoc.out, bs_data, bs_data]), Hbr.out.trans (hb2.mono Hbr.out.size)⟩
                  case measure => omega
                · have hk2 : k = ks.length := by omega
                  have htk := headT_all f (f.headL) (pushL false) k (by rw [hk2, Hkl.out]; exact Nat.le_refl _)
                  have Htk := Lib.hid htk
                  have hs2 : (bs (headT f (f.headL) (pushL false) k)).size ≤ 3 + 2 * 600000 := by rw [bs_size]; exact headT_len f (f.headL) (pushL false) k 3 600000 (head_len f) (fun p hp => by have := part_text_le hp; have := pushL_le false p; omega)
                  clear htk hk2
                  go_wp2_with fail
                  go_ret
                  refine ⟨?_, Hbc.out.trans (Hbr.out.mono Hbc.out.size)⟩
                  show Ending.returned (.string _) = .returned (.string _)
                  rw [Hpk.out]
                  first
                    | (rw [append_bs, bs_data, Htk.out]; rfl)
                    | (rw [Htk.out]; rfl)
            | false =>
              obtain ⟨rfl, hbc⟩ := hcut
              have Hbc := Lib.hid hbc
              have ht2 := TreeIn.world Ht.out hbc
              clear hc0 hc1 hc2 hcv1 hcv2 hcv3 hlb ha0 ha1 hsz hsz1 hbc
              obtain ⟨ks, vsv2, psv, hc0, _, hc2, _, _, _, hr, hts⟩ := node_cells ht2
              obtain ⟨a, cap, rfl, hkl, hrow⟩ := row_slice hr
              have hkl2 : ks.length = f.parts.length := hts.1
              have hp2 := parts_le f
              have hkl3 : ks.length ≤ 2 := by omega
              have Hrow := Lib.hid hrow
              have Hts := Lib.hid hts
              have Hkl := Lib.hid hkl2
              clear hrow hts hkl hkl2 hr ht2
              go_wp2_with fail
              go_loopg [5, 51] ks.length (fun c o i wr => ∃ k : Nat, k + c = ks.length ∧ i = .int .i64 k ∧ o = .string (bs (headT f (f.headL) (pushL false) k)) ∧ Below wc.heap.size wc wr)
              case atStart => exact ⟨0, by omega, rfl, by rw [headT_zero], Below.refl _ _⟩
              case round =>
                obtain ⟨k, hk, rfl, rfl, hbr⟩ := hrel
                have Hbr := Lib.hid hbr
                clear hbr
                by_cases hlt : k < ks.length
                · obtain ⟨g, rfl, hcell⟩ := Hrow.out k hlt
                  have hkf : k < f.parts.length := by rw [← Hkl.out]; exact hlt
                  have hcell1 : wc.cell? ⟨g, k, none⟩ = some (kidV ks[k]) := by rw [hcell, List.getElem?_map, List.getElem?_eq_getElem hlt]; rfl
                  have hcell2 : wr.cell? ⟨g, k, none⟩ = some (kidV ks[k]) := (Hbr.out.cell (World.block_lt_of_cell? wc _ hcell1)).trans hcell1
                  have hpk := (Hts.out.world Hbr.out).2 k f.parts[k] ks[k] (List.getElem?_eq_getElem hkf) (List.getElem?_eq_getElem hlt)
                  have hmem : f.parts[k] ∈ f.parts := List.getElem_mem hkf
                  have hsz := Fm.size_parts hmem
                  have hcall := Ih.out false f.parts[k] ks[k] S wr (by omega) hpk (by have := part_text_le hmem; omega)
                  have Hcall := Lib.hid hcall
                  have hsnoc := headT_succ f (f.headL) (pushL false) k hkf
                  have hs1 : (bs ((pushL false) f.parts[k])).size ≤ 600000 := by rw [bs_size]; have := part_text_le hmem; have := pushL_le false f.parts[k]; omega
                  have hs2 : (bs (headT f (f.headL) (pushL false) k)).size ≤ 3 + 2 * 600000 := by rw [bs_size]; exact headT_len f (f.headL) (pushL false) k 3 600000 (head_len f) (fun p hp => by have := part_text_le hp; have := pushL_le false p; omega)
                  have Hsnoc := Lib.hid hsnoc
                  clear hcell hcell1 hpk hmem hsz hcall hsnoc
                  go_wp2_with (go_at_call 42; refine (Hcall.out).mono ?_; rintro e w' ⟨rfl, hb2⟩)
                  go_roundg (gk - 1)
                  case rel => exact ⟨k + 1, by omega, by go_num, str_eq (by rw [append_bs, Hsnoc.out, bs_data, bs_data]), Hbr.out.trans (hb2.mono Hbr.out.size)⟩
                  case measure => omega
                · have hk2 : k = ks.length := by omega
                  have htk := headT_all f (f.headL) (pushL false) k (by rw [hk2, Hkl.out]; exact Nat.le_refl _)
                  have Htk := Lib.hid htk
                  have hs2 : (bs (headT f (f.headL) (pushL false) k)).size ≤ 3 + 2 * 600000 := by rw [bs_size]; exact headT_len f (f.headL) (pushL false) k 3 600000 (head_len f) (fun p hp => by have := part_text_le hp; have := pushL_le false p; omega)
                  clear htk hk2
                  go_wp2_with fail
                  go_ret
                  refine ⟨?_, Hbc.out.trans (Hbr.out.mono Hbc.out.size)⟩
                  show Ending.returned (.string _) = .returned (.string _)
                  rw [Hpk.out]
                  first
                    | (rw [append_bs, bs_data, Htk.out]; rfl)
                    | (rw [Htk.out]; rfl)
      | false =>
        have hopt := op_turn f hkeep h33
        have Hopt := Lib.hid hopt
        have hpk := push_turn f hkeep h33 o
        have Hpk := Lib.hid hpk
        have Hkeep := Lib.hid hkeep
        clear hpk hkeep h33 hopt
        cases o with
        | true =>
          have hcv1 : (convert 32 9 vsv).run Try.prog w.drew = .ok (.string (bs (f.vars.map vb))) w.drew := conv_row (w := w.drew) (base := 0) (n := f.vars.length) (by rw [← vars_bytes]; exact hr1)
          have hcv2 : ∀ o, (convert 32 9 vsv).run Try.prog (w.alloc o).drew = .ok (.string (bs (f.vars.map vb))) (w.alloc o).drew := fun o => conv_row (w := (w.alloc o).drew) (base := 0) (n := f.vars.length) (by rw [← vars_bytes]; exact ownsRow_world hr1 ((Below.refl _ _).alloc (Nat.le_refl _) _).drew)
          have hcv3 : (convert 32 9 (.slice (some ⟨w.heap.size, 0, none⟩) 1 1)).run Try.prog (w.alloc (.cells #[.int .u8 (turnB f.op).toNat] 5)).drew = .ok (.string (bs [(turnB f.op)])) (w.alloc (.cells #[.int .u8 (turnB f.op).toNat] 5)).drew := conv_row (new_byte w (turnB f.op))
          have hlb := World.block_lt_of_cell? w _ hc0
          have ha0 : ∀ o, (w.alloc o).cell? ⟨b, 0, none⟩ = some (.int .u8 f.op.toNat) := fun o => (World.cell?_of_block (w := w) (Below.heap_alloc w o b hlb)).trans hc0
          have ha1 : ∀ o, (w.alloc o).cell? ⟨b, 1, none⟩ = some vsv := fun o => (World.cell?_of_block (w := w) (Below.heap_alloc w o b hlb)).trans hc1
          have hsz : (bs (f.vars.map vb)).size ≤ 2 := by rw [bs_size]; have := vars_le f; simp; omega
          have hsz1 : (bs [(turnB f.op)]).size ≤ 1 := by rw [bs_size]; simp
          clear ht hr1
          go_enter Try.func42, Try.ntmps42
          go_upto_if 16 with (fail)
          go_step
          go_step
          go_cut [27] (fun v wx => v = .bool (keepB f.op) ∧ wx = w)
          case first =>
            go_wp2_with fail
            all_goals
              go_meet
              case rel => exact ⟨by congr 1; simp [keepB, *], rfl⟩
          case rest =>
            obtain ⟨rfl, rfl⟩ := hcut
            rw [Hkeep.out]
            go_upto_region 22 with (go_at_call 56; refine (turned_calls f.op _ Hopt.out).mono ?_; rintro e w' ⟨rfl, rfl⟩)
            go_cut [9] (fun s wx => s = .string (bs ((turnB f.op) :: f.vars.map vb)) ∧ Below wc.heap.size wc wx)
            case first =>
              go_region
              all_goals
                go_wp2_with fail
                go_meet
                case rel => exact ⟨str_eq (append_bs _ _), ((Below.refl _ _).alloc (Nat.le_refl _) _).drew⟩
            case rest =>
              obtain ⟨rfl, hbc⟩ := hcut
              have Hbc := Lib.hid hbc
              have ht2 := TreeIn.world Ht.out hbc
              clear hc0 hc1 hc2 hcv1 hcv2 hcv3 hlb ha0 ha1 hsz hsz1 hbc
              obtain ⟨ks, vsv2, psv, hc0, _, hc2, _, _, _, hr, hts⟩ := node_cells ht2
              obtain ⟨a, cap, rfl, hkl, hrow⟩ := row_slice hr
              have hkl2 : ks.length = f.parts.length := hts.1
              have hp2 := parts_le f
              have hkl3 : ks.length ≤ 2 := by omega
              have Hrow := Lib.hid hrow
              have Hts := Lib.hid hts
              have Hkl := Lib.hid hkl2
              clear hrow hts hkl hkl2 hr ht2
              go_wp2_with fail
              go_loopg [9, 85] ks.length (fun c o i wr => ∃ k : Nat, k + c = ks.length ∧ i = .int .i64 k ∧ o = .string (bs (headT f ((turnB f.op) :: f.vars.map vb) (pushL true) k)) ∧ Below wc.heap.size wc wr)
              case atStart => exact ⟨0, by omega, rfl, by rw [headT_zero], Below.refl _ _⟩
              case round =>
                obtain ⟨k, hk, rfl, rfl, hbr⟩ := hrel
                have Hbr := Lib.hid hbr
                clear hbr
                by_cases hlt : k < ks.length
                · obtain ⟨g, rfl, hcell⟩ := Hrow.out k hlt
                  have hkf : k < f.parts.length := by rw [← Hkl.out]; exact hlt
                  have hcell1 : wc.cell? ⟨g, k, none⟩ = some (kidV ks[k]) := by rw [hcell, List.getElem?_map, List.getElem?_eq_getElem hlt]; rfl
                  have hcell2 : wr.cell? ⟨g, k, none⟩ = some (kidV ks[k]) := (Hbr.out.cell (World.block_lt_of_cell? wc _ hcell1)).trans hcell1
                  have hpk := (Hts.out.world Hbr.out).2 k f.parts[k] ks[k] (List.getElem?_eq_getElem hkf) (List.getElem?_eq_getElem hlt)
                  have hmem : f.parts[k] ∈ f.parts := List.getElem_mem hkf
                  have hsz := Fm.size_parts hmem
                  have hcall := Ih.out true f.parts[k] ks[k] S wr (by omega) hpk (by have := part_text_le hmem; omega)
                  have Hcall := Lib.hid hcall
                  have hsnoc := headT_succ f ((turnB f.op) :: f.vars.map vb) (pushL true) k hkf
                  have hs1 : (bs ((pushL true) f.parts[k])).size ≤ 600000 := by rw [bs_size]; have := part_text_le hmem; have := pushL_le true f.parts[k]; omega
                  have hs2 : (bs (headT f ((turnB f.op) :: f.vars.map vb) (pushL true) k)).size ≤ 3 + 2 * 600000 := by rw [bs_size]; exact headT_len f ((turnB f.op) :: f.vars.map vb) (pushL true) k 3 600000 (by have := vars_le f; simp; omega) (fun p hp => by have := part_text_le hp; have := pushL_le true p; omega)
                  have Hsnoc := Lib.hid hsnoc
                  clear hcell hcell1 hpk hmem hsz hcall hsnoc
                  go_wp2_with (go_at_call 42; refine (Hcall.out).mono ?_; rintro e w' ⟨rfl, hb2⟩)
                  go_roundg (gk - 1)
                  case rel => exact ⟨k + 1, by omega, by go_num, str_eq (by rw [append_bs, Hsnoc.out, bs_data, bs_data]), Hbr.out.trans (hb2.mono Hbr.out.size)⟩
                  case measure => omega
                · have hk2 : k = ks.length := by omega
                  have htk := headT_all f ((turnB f.op) :: f.vars.map vb) (pushL true) k (by rw [hk2, Hkl.out]; exact Nat.le_refl _)
                  have Htk := Lib.hid htk
                  have hs2 : (bs (headT f ((turnB f.op) :: f.vars.map vb) (pushL true) k)).size ≤ 3 + 2 * 600000 := by rw [bs_size]; exact headT_len f ((turnB f.op) :: f.vars.map vb) (pushL true) k 3 600000 (by have := vars_le f; simp; omega) (fun p hp => by have := part_text_le hp; have := pushL_le true p; omega)
                  clear htk hk2
                  go_wp2_with fail
                  go_ret
                  refine ⟨?_, Hbc.out.trans (Hbr.out.mono Hbc.out.size)⟩
                  show Ending.returned (.string _) = .returned (.string _)
                  rw [Hpk.out, Htk.out]
                  first
                    | rfl
                    | simp
        | false =>
          have hcv1 : (convert 32 9 vsv).run Try.prog w.drew = .ok (.string (bs (f.vars.map vb))) w.drew := conv_row (w := w.drew) (base := 0) (n := f.vars.length) (by rw [← vars_bytes]; exact hr1)
          have hcv2 : ∀ o, (convert 32 9 vsv).run Try.prog (w.alloc o).drew = .ok (.string (bs (f.vars.map vb))) (w.alloc o).drew := fun o => conv_row (w := (w.alloc o).drew) (base := 0) (n := f.vars.length) (by rw [← vars_bytes]; exact ownsRow_world hr1 ((Below.refl _ _).alloc (Nat.le_refl _) _).drew)
          have hcv3 : (convert 32 9 (.slice (some ⟨w.heap.size, 0, none⟩) 1 1)).run Try.prog (w.alloc (.cells #[.int .u8 f.op.toNat] 5)).drew = .ok (.string (bs [f.op])) (w.alloc (.cells #[.int .u8 f.op.toNat] 5)).drew := conv_row (new_byte w f.op)
          have hlb := World.block_lt_of_cell? w _ hc0
          have ha0 : ∀ o, (w.alloc o).cell? ⟨b, 0, none⟩ = some (.int .u8 f.op.toNat) := fun o => (World.cell?_of_block (w := w) (Below.heap_alloc w o b hlb)).trans hc0
          have ha1 : ∀ o, (w.alloc o).cell? ⟨b, 1, none⟩ = some vsv := fun o => (World.cell?_of_block (w := w) (Below.heap_alloc w o b hlb)).trans hc1
          have hsz : (bs (f.vars.map vb)).size ≤ 2 := by rw [bs_size]; have := vars_le f; simp; omega
          have hsz1 : (bs [f.op]).size ≤ 1 := by rw [bs_size]; simp
          clear ht hr1
          go_enter Try.func42, Try.ntmps42
          go_upto_if 16 with (fail)
          go_step
          go_step
          go_cut [27] (fun v wx => v = .bool (keepB f.op) ∧ wx = w)
          case first =>
            go_wp2_with fail
            all_goals
              go_meet
              case rel => exact ⟨by congr 1; simp [keepB, *], rfl⟩
          case rest =>
            obtain ⟨rfl, rfl⟩ := hcut
            rw [Hkeep.out]
            go_upto_region 22 with (go_at_call 56; refine (turned_calls f.op _ Hopt.out).mono ?_; rintro e w' ⟨rfl, rfl⟩)
            go_cut [9] (fun s wx => s = .string (bs (f.op :: f.vars.map vb)) ∧ Below wc.heap.size wc wx)
            case first =>
              go_region
              all_goals
                go_wp2_with fail
                go_meet
                case rel => exact ⟨str_eq (append_bs _ _), ((Below.refl _ _).alloc (Nat.le_refl _) _).drew⟩
            case rest =>
              obtain ⟨rfl, hbc⟩ := hcut
              have Hbc := Lib.hid hbc
              have ht2 := TreeIn.world Ht.out hbc
              clear hc0 hc1 hc2 hcv1 hcv2 hcv3 hlb ha0 ha1 hsz hsz1 hbc
              obtain ⟨ks, vsv2, psv, hc0, _, hc2, _, _, _, hr, hts⟩ := node_cells ht2
              obtain ⟨a, cap, rfl, hkl, hrow⟩ := row_slice hr
              have hkl2 : ks.length = f.parts.length := hts.1
              have hp2 := parts_le f
              have hkl3 : ks.length ≤ 2 := by omega
              have Hrow := Lib.hid hrow
              have Hts := Lib.hid hts
              have Hkl := Lib.hid hkl2
              clear hrow hts hkl hkl2 hr ht2
              go_wp2_with fail
              go_loopg [9, 85] ks.length (fun c o i wr => ∃ k : Nat, k + c = ks.length ∧ i = .int .i64 k ∧ o = .string (bs (headT f (f.op :: f.vars.map vb) (pushL false) k)) ∧ Below wc.heap.size wc wr)
              case atStart => exact ⟨0, by omega, rfl, by rw [headT_zero], Below.refl _ _⟩
              case round =>
                obtain ⟨k, hk, rfl, rfl, hbr⟩ := hrel
                have Hbr := Lib.hid hbr
                clear hbr
                by_cases hlt : k < ks.length
                · obtain ⟨g, rfl, hcell⟩ := Hrow.out k hlt
                  have hkf : k < f.parts.length := by rw [← Hkl.out]; exact hlt
                  have hcell1 : wc.cell? ⟨g, k, none⟩ = some (kidV ks[k]) := by rw [hcell, List.getElem?_map, List.getElem?_eq_getElem hlt]; rfl
                  have hcell2 : wr.cell? ⟨g, k, none⟩ = some (kidV ks[k]) := (Hbr.out.cell (World.block_lt_of_cell? wc _ hcell1)).trans hcell1
                  have hpk := (Hts.out.world Hbr.out).2 k f.parts[k] ks[k] (List.getElem?_eq_getElem hkf) (List.getElem?_eq_getElem hlt)
                  have hmem : f.parts[k] ∈ f.parts := List.getElem_mem hkf
                  have hsz := Fm.size_parts hmem
                  have hcall := Ih.out false f.parts[k] ks[k] S wr (by omega) hpk (by have := part_text_le hmem; omega)
                  have Hcall := Lib.hid hcall
                  have hsnoc := headT_succ f (f.op :: f.vars.map vb) (pushL false) k hkf
                  have hs1 : (bs ((pushL false) f.parts[k])).size ≤ 600000 := by rw [bs_size]; have := part_text_le hmem; have := pushL_le false f.parts[k]; omega
                  have hs2 : (bs (headT f (f.op :: f.vars.map vb) (pushL false) k)).size ≤ 3 + 2 * 600000 := by rw [bs_size]; exact headT_len f (f.op :: f.vars.map vb) (pushL false) k 3 600000 (by have := vars_le f; simp; omega) (fun p hp => by have := part_text_le hp; have := pushL_le false p; omega)
                  have Hsnoc := Lib.hid hsnoc
                  clear hcell hcell1 hpk hmem hsz hcall hsnoc
                  go_wp2_with (go_at_call 42; refine (Hcall.out).mono ?_; rintro e w' ⟨rfl, hb2⟩)
                  go_roundg (gk - 1)
                  case rel => exact ⟨k + 1, by omega, by go_num, str_eq (by rw [append_bs, Hsnoc.out, bs_data, bs_data]), Hbr.out.trans (hb2.mono Hbr.out.size)⟩
                  case measure => omega
                · have hk2 : k = ks.length := by omega
                  have htk := headT_all f (f.op :: f.vars.map vb) (pushL false) k (by rw [hk2, Hkl.out]; exact Nat.le_refl _)
                  have Htk := Lib.hid htk
                  have hs2 : (bs (headT f (f.op :: f.vars.map vb) (pushL false) k)).size ≤ 3 + 2 * 600000 := by rw [bs_size]; exact headT_len f (f.op :: f.vars.map vb) (pushL false) k 3 600000 (by have := vars_le f; simp; omega) (fun p hp => by have := part_text_le hp; have := pushL_le false p; omega)
                  clear htk hk2
                  go_wp2_with fail
                  go_ret
                  refine ⟨?_, Hbc.out.trans (Hbr.out.mono Hbc.out.size)⟩
                  show Ending.returned (.string _) = .returned (.string _)
                  rw [Hpk.out, Htk.out]
                  first
                    | rfl
                    | simp

end Go.Proofs.Ytjmfldakfokoaaa
