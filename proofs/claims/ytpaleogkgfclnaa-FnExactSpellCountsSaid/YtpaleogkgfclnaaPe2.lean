/-
  Laws of the functions that the claim reaches, one after the other (packed by a program of the prover's: Repl, SRen, StPlain, Shapes, Bits, Struct, Elems, In, Mk, Reg). Conditions: texts below the reach.
-/
import Derived.Test.YtpaleogkgfclnaaPe1
import Derived.Laws.AppendOwnNone
import Derived.Maps.AppendAt
import Derived.OwnWalk
import Derived.KernelRfl
import Derived.Test.YtpaleogkgfclnaaTrimLay
import Derived.Test.YtpaleogkgfclnaaRows
import Derived.WalkKit
import Derived.Lib.Hide
import Derived.Below
import Derived.Lib.Strings
import Derived.WalkSpells
import Derived.WalkLawsBesides
import Derived.Deep.RegionHeld3
import Derived.Deep.RegionWith
import Derived.RegionTactic
import Derived.Deep.DrawnRows
import Derived.Deep.LoopGhost
import Derived.Deep.DeepCutAuto
import Derived.OrdersHeld
set_option linter.unusedSimpArgs false
set_option linter.unusedVariables false

namespace Go.Proofs.Ytpaleogkgfclnaa
open Go.RowKit
open Pl
set_option linter.unusedSimpArgs false
set_option linter.unusedVariables false

theorem own_zeroU (w : World) : (w.alloc (.cells #[] 5)).ownsRow w.heap.size 5 1 (.slice (some ⟨w.heap.size, 0, none⟩) 0 0) 0 [] :=
  ⟨rfl, .inr ⟨w.heap.size, 0, #[], rfl, Nat.le_refl _, heap_alloc_new w _, Nat.le_refl _, Nat.zero_le _, rfl, rfl⟩⟩
theorem app_oneU {w w1 : World} {v1 : Value} {n : Nat} {xs : List Value} (hown : w1.ownsRow w.heap.size 5 1 v1 (0 + n) ([] ++ xs)) (hg : (w.alloc (.cells #[] 5)).grownBy w1 (Value.ownBlock (.slice (some ⟨w.heap.size, 0, none⟩) 0 0))) :
    w1.ownsRow w.heap.size 5 1 v1 n xs ∧ Below w.heap.size w w1 := by
  refine ⟨by simpa using hown, ((Below.refl w.heap.size w).alloc (Nat.le_refl _) _).grown hg (by simp) (fun j hj => ?_)⟩
  simp [Value.ownBlock] at hj
  omega
theorem bytes_oneCell (l : List UInt8) : ∀ x ∈ l.map byteV, x.oneCell' = true := by
  intro x hx
  obtain ⟨y, _, rfl⟩ := List.mem_map.1 hx
  rfl
theorem row_news {w : World} {base g n cap : Nat} {bytes : List UInt8} (h : w.ownsRow base 5 1 (.slice (some ⟨g, 0, none⟩) n cap) n (bytes.map byteV)) : ∀ j x, (bytes.map byteV)[j]? = some x → w.cell? ((⟨g, 0, none⟩ : Addr).add j) = some x := by
  intro j x hj
  obtain ⟨a, c, e1, hl, hc⟩ := row_slice h
  have hjl : j < n := by
    have := (List.getElem?_eq_some_iff.1 hj).1
    omega
  injection e1 with e1 _ _
  obtain ⟨g', e2, h2⟩ := hc j hjl
  rw [← e1] at e2
  injection e2 with e2
  injection e2 with e2 _ _
  subst e2
  have e : ((⟨g, 0, none⟩ : Addr).add j) = ⟨g, j, none⟩ := by unfold Addr.add; split <;> simp_all
  rw [e, h2, hj]
theorem news_alloc {w : World} {o : Obj} {g j : Nat} {x : Value} (hg : g < w.heap.size) (h : w.cell? ((⟨g, 0, none⟩ : Addr).add j) = some x) : (w.alloc o).cell? ((⟨g, 0, none⟩ : Addr).add j) = some x := by
  have e : ((⟨g, 0, none⟩ : Addr).add j).block = g := by unfold Addr.add; split <;> rfl
  exact (World.cell?_of_block (w := w) (by rw [e]; exact Below.heap_alloc w o g hg)).trans h
theorem own_formU {w : World} {base n b : Nat} {v : Value} {v0 : Nat} {xs : List Value} (h : w.ownsRow base 5 1 v n xs) (hv : v.ownBlock = Value.ownBlock (.slice (some ⟨b, 0, none⟩) 0 0) ∨ v.ownBlock = some v0) : ∃ g cp, v = .slice (some ⟨g, 0, none⟩) n cp := by
  rcases h.2 with ⟨rfl, _⟩ | ⟨g, cp, _, rfl, _⟩
  · rcases hv with h | h <;> simp [Value.ownBlock] at h
  · exact ⟨g, cp, rfl⟩
theorem own_ge {w : World} {base g n cp : Nat} {e : TypeId} {xs : List Value} (h : w.ownsRow base e 1 (.slice (some ⟨g, 0, none⟩) n cp) n xs) : base ≤ g := by
  rcases h.2 with ⟨h, _⟩ | ⟨g', cp', _, h, hb, _⟩
  · cases h
  · injection h with h _ _
    injection h with h
    injection h with h _ _
    rw [h]; exact hb
theorem set_self {α : Type} {l : List α} {k : Nat} {x : α} (h : l[k]? = some x) : l.set k x = l := by
  apply List.ext_getElem?
  intro i
  by_cases e : i = k
  · subst e
    have hl := (List.getElem?_eq_some_iff.1 h).1
    rw [List.getElem?_set_self hl, h]
  · rw [List.getElem?_set_ne (Ne.symm e)]

set_option maxHeartbeats 4000000 in
set_option maxRecDepth 100000 in
theorem replace_calls (v u : Fin 4) (n : Nat) : ∀ (f : Fm) (b : Nat) (S : Nat → Prop) (w : World), f.size ≤ n → TreeIn S w f b → f.text.length ≤ 4000 →
    Calls Try.prog 16 #[kidV b, .int .u8 ((vb v).toNat : Nat), .int .u8 ((vb u).toNat : Nat)] w fun e w' => e = .returned (.string (bs (f.repl v u).text)) ∧ Below w.heap.size w w' := by
  obtain ⟨i0, hi, hz0, hz1, hz2⟩ := info_parts (P := Try.prog) (e := 5) (z := .int .u8 0) (size := 1) (bytes := 1) (by kernel_rfl)
  induction n with
  | zero => intro f b S w hn _ _; cases f <;> simp [Fm.size] at hn
  | succ n ih =>
    intro f b S w hn ht hl
    have Ht := Lib.hid ht
    have Ih := Lib.hid ih
    have hvl2 := vars_le f
    clear ih
    obtain ⟨ks0, vsv, psv0, hc0, hc1, hc2, _, _, hr1, _, _⟩ := node_cells ht
    rw [vars_bytes] at hr1
    cases hq : isQuB f.op with
    | true =>
      obtain ⟨x, hvx⟩ : ∃ x, f.vars = [x] := by
        cases f with
        | qu k y p => exact ⟨y, rfl⟩
        | _ => simp [Fm.op, isQuB] at hq
      have hvl : 0 < f.vars.length := by rw [hvx]; simp
      have Hr1 := Lib.hid hr1
      obtain ⟨g, cap, rfl, hcap, hcm, _, hglt, hcell⟩ := row_open hr1 hvl
      have hcx : w.cell? ⟨g, 0, none⟩ = some (.int .u8 ((vb x).toNat : Nat)) := by rw [hcell 0 hvl, hvx]; rfl
      have hvli : (0 : Int) < (f.vars.length : Int) := by omega
      by_cases hxv : x = v
      · subst hxv
        have hrp := repl_bound u hq (by rw [hvx]; rfl)
        have HT := Lib.hid (text_calls f.size f b S w (Nat.le_refl _) ht (by omega))
        have Hq := Lib.hid hq
        have Hrp := Lib.hid hrp
        clear hr1 hrp hq hvx hcell ht hc2
        go_enter Try.func16, Try.ntmps16
        go_wp2_with (first | (go_at_call 21; refine (isQuantifier_at f.op _ Hq.out _ _ hc0).mono ?_; rintro e w' ⟨rfl, rfl⟩) | (go_at_call 22; refine (HT.out).mono ?_; rintro e w' ⟨rfl, hb2⟩))
        go_ret
        refine ⟨?_, hb2⟩
        show Ending.returned (.string _) = .returned (.string _)
        rw [Hrp.out]
      · have hrp := repl_parts (f := f) (v := v) u (fun _ => by rw [hvx]; intro e; injection e with e; exact hxv e)
        have hxb : (((vb x).toNat : Int) == ((vb v).toNat : Int)) = false := by
          rw [beq_eq_false_iff_ne]
          intro e
          exact hxv (vb_inj (UInt8.toNat_inj.1 (by omega)))
        have Hq := Lib.hid hq
        have Hrp := Lib.hid hrp
        clear hr1 hrp hq hvx hcell ht hxv hc2
        go_enter Try.func16, Try.ntmps16
        go_upto_region 3 with (go_at_call 21; refine (isQuantifier_at f.op _ Hq.out _ _ hc0).mono ?_; rintro e w' ⟨rfl, rfl⟩)
        go_cut [7] (fun x wx => ∃ g cp, x = .slice (some ⟨g, 0, none⟩) f.vars.length cp ∧ wx.ownsRow w.heap.size 5 1 (.slice (some ⟨g, 0, none⟩) f.vars.length cp) f.vars.length ((f.vars.map vb).map byteV) ∧ Below w.heap.size w wx)
        case first =>
          have ha1 : (w.alloc (.cells #[] 5)).cell? ⟨b, 1, none⟩ = some (.slice (some ⟨g, 0, none⟩) f.vars.length cap) := (World.cell?_of_block (w := w) (Below.heap_alloc w _ b (World.block_lt_of_cell? w _ hc0))).trans hc1
          obtain ⟨hlt, hn1, hn2⟩ : g < w.heap.size ∧ True ∧ True := ⟨hglt, trivial, trivial⟩
          have Hnews := Lib.hid (row_news (bytes := f.vars.map vb) Hr1.out)
          clear hc0 hc1 hcx
          have Hnews2 := Lib.hid (fun j x hj => news_alloc (o := .cells #[] 5) hlt (Hnews.out j x hj))
          go_wp2_with (at_builtin; refine wpList_append_own_at _ rfl (.tmp 27) (.tmp 31) 35 rfl w.heap.size 5 i0 (.int .u8 0) 1 1 Try.underlying35 hi hz0 hz1 hz2 rfl (by decide) _ 0 [] rfl (own_zeroU w) ⟨g, 0, none⟩ f.vars.length cap ((f.vars.map vb).map byteV) rfl (by simp) (Hnews2.out) (bytes_oneCell _) (by unfold maxLen; omega) (by omega) (by simp) ?_; intro v5 w5 ho5 hg5 hn5 hat5; clear hn5; have A5 := Lib.hid (app_oneU ho5 hg5); have C5 := Lib.hid hat5; clear ho5 hg5 hat5)
          go_meet
          case rel =>
            obtain ⟨h1, h2⟩ := A5.out
            obtain ⟨g5, cp5, hv5⟩ := own_formU h1 C5.out
            subst hv5
            exact ⟨g5, cp5, rfl, h1, h2⟩
        case rest =>
          obtain ⟨g7, cp7, rfl, ho, hbc⟩ := hcut
          have O7 := Lib.hid ho
          have B7 := Lib.hid hbc
          clear ho hbc hc0 hc1 hcx hxb
          go_wp2_with fail
          go_loopg [35] f.vars.length (fun c iv wr => ∃ k : Nat, k + c = f.vars.length ∧ iv = .int .i64 (k : Nat) ∧ wr.ownsRow w.heap.size 5 1 (.slice (some ⟨g7, 0, none⟩) f.vars.length cp7) f.vars.length (((subTo v u f.vars k).map vb).map byteV) ∧ Below w.heap.size w wr)
          case atStart => exact ⟨0, by omega, rfl, by rw [subTo_zero]; exact O7.out, B7.out⟩
          case round =>
            clear O7 B7
            obtain ⟨k, hk, rfl, ho, hbl⟩ := hrel
            have O8 := Lib.hid ho
            have B8 := Lib.hid hbl
            clear ho hbl
            by_cases hlt : k < f.vars.length
            · obtain ⟨x, hx⟩ : ∃ x, x = f.vars[k] := ⟨_, rfl⟩
              have hcl : wr.cell? ⟨g7, k, none⟩ = some (.int .u8 ((vb x).toNat : Nat)) := by
                have h1 := O8.out.cellAt k (by omega)
                rw [List.getElem?_map, List.getElem?_map, subTo_at hlt, ← hx] at h1
                exact h1
              have hfz := O8.out.frozenAt k
              have Hx := Lib.hid hx
              have hli : (k : Int) < (f.vars.length : Int) := by omega
              clear hx
              by_cases he : x = v
              · subst he
                have Hst := Lib.hid (World.ownsRow.stored O8.out k (.int .u8 ((vb u).toNat : Nat))).1
                have B9 := Lib.hid (B8.out.setCell (p := ⟨g7, k, none⟩) (own_ge O8.out) (.int .u8 ((vb u).toNat : Nat)))
                go_wp2_with fail
                go_roundg (f.vars.length - k - 1)
                case rel => exact ⟨k + 1, by omega, by go_num, by
                  have h1 := Hst.out
                  rw [subTo_succ hlt, ← Hx.out, List.map_set, List.map_set, show subV x u x = u by simp [subV]]
                  exact h1, B9.out⟩
                case measure => omega
              · have heb : (((vb x).toNat : Int) == ((vb v).toNat : Int)) = false := by
                  rw [beq_eq_false_iff_ne]
                  intro e
                  exact he (vb_inj (UInt8.toNat_inj.1 (by omega)))
                have He := Lib.hid he
                clear he
                go_wp2_with fail
                go_roundg (f.vars.length - k - 1)
                case rel => exact ⟨k + 1, by omega, by go_num, by
                  rw [subTo_succ hlt, ← Hx.out, show subV v u x = x by simp [subV, He.out], set_self (by rw [subTo_at hlt, Hx.out])]
                  exact O8.out, B8.out⟩
                case measure => omega
            · obtain rfl : k = f.vars.length := by omega
              have hgk : gk = 0 := by omega
              subst hgk
              clear hlt hk
              obtain ⟨wo, hwo⟩ : ∃ x, x = wr := ⟨_, rfl⟩
              subst hwo
              obtain ⟨vs2, hvs2⟩ : ∃ vs2, vs2 = f.vars.map (subV v u) := ⟨_, rfl⟩
              have hvr : wo.ownsRow w.heap.size 5 1 (.slice (some ⟨g7, 0, none⟩) f.vars.length cp7) f.vars.length ((vs2.map vb).map byteV) := by have := O8.out; rwa [subTo_all, ← hvs2] at this
              have hvl4 : vs2.length ≤ 2 := by rw [hvs2]; simp; omega
              have Hvs2 := Lib.hid hvs2
              clear hvs2
              have ht2 := TreeIn.world Ht.out B8.out
              obtain ⟨ks, vsv2, psv, hc0, _, hc2, _, _, _, hr, hts⟩ := node_cells ht2
              have hcv1 : (convert 35 9 (.slice (some ⟨g7, 0, none⟩) f.vars.length cp7)).run Try.prog wo.drew = .ok (.string (bs (vs2.map vb))) wo.drew := conv_row (w := wo.drew) (base := w.heap.size) (n := f.vars.length) hvr
              have hcv2 : ∀ o, (convert 35 9 (.slice (some ⟨g7, 0, none⟩) f.vars.length cp7)).run Try.prog (wo.alloc o).drew = .ok (.string (bs (vs2.map vb))) (wo.alloc o).drew := fun o => conv_row (w := (wo.alloc o).drew) (base := w.heap.size) (n := f.vars.length) (ownsRow_world hvr ((Below.refl _ _).alloc (Nat.le_refl _) _).drew)
              have hcv3 : (convert 35 9 (.slice (some ⟨wo.heap.size, 0, none⟩) 1 1)).run Try.prog (wo.alloc (.cells #[.int .u8 f.op.toNat] 5)).drew = .ok (.string (bs [f.op])) (wo.alloc (.cells #[.int .u8 f.op.toNat] 5)).drew := conv_row (new_byte wo f.op)
              have hlb := World.block_lt_of_cell? wo _ hc0
              have ha0 : ∀ o, (wo.alloc o).cell? ⟨b, 0, none⟩ = some (.int .u8 f.op.toNat) := fun o => (World.cell?_of_block (w := wo) (Below.heap_alloc wo o b hlb)).trans hc0
              have hsz : (bs (vs2.map vb)).size ≤ 2 := by rw [bs_size]; simp; omega
              have hsz1 : (bs [f.op]).size ≤ 1 := by rw [bs_size]; simp
              have HrK := Lib.hid hr
              have HtsK := Lib.hid hts
              clear hvr ht2 hr hts
              go_upto_region 10 with (fail)
              go_cut [10] (fun s wx => s = .string (bs (f.op :: vs2.map vb)) ∧ Below w.heap.size w wx)
              case first =>
                go_region
                all_goals
                  go_wp2_with fail
                  go_meet
                  case rel => exact ⟨str_eq (append_bs _ _), (B8.out.alloc B8.out.size _).drew⟩
              case rest =>
                obtain ⟨rfl, hbc⟩ := hcut
                have Hbc := Lib.hid hbc
                have ht2 := TreeIn.world Ht.out hbc
                clear hc0 hc2 hcv1 hcv2 hcv3 hlb ha0 hsz hsz1 hbc HrK HtsK B8 O8
                obtain ⟨ks, vsv2, psv, hc0, _, hc2, _, _, _, hr, hts⟩ := node_cells ht2
                obtain ⟨a, cap, rfl, hkl, hrow⟩ := row_slice hr
                have hkl2 : ks.length = f.parts.length := hts.1
                have hp2 := parts_le f
                have hkl3 : ks.length ≤ 2 := by omega
                have Hrow := Lib.hid hrow
                have Hts := Lib.hid hts
                have Hkl := Lib.hid hkl2
                clear hrow hts hkl hkl2 hr ht2
                go_wp2_with fail
                go_loopg [10, 62] ks.length (fun c o i wr => ∃ k : Nat, k + c = ks.length ∧ i = .int .i64 k ∧ o = .string (bs (headT f (f.op :: vs2.map vb) (fun p => (p.repl v u).text) k)) ∧ Below wc.heap.size wc wr)
                case atStart => exact ⟨0, by omega, rfl, by rw [headT_zero], Below.refl _ _⟩
                case round =>
                  obtain ⟨k, hk, rfl, rfl, hbr⟩ := hrel
                  have Hbr := Lib.hid hbr
                  clear hbr
                  by_cases hlt : k < ks.length
                  · obtain ⟨g, rfl, hcell⟩ := Hrow.out k hlt
                    have hkf : k < f.parts.length := by rw [← Hkl.out]; exact hlt
                    have hcell1 : wc.cell? ⟨g, k, none⟩ = some (kidV ks[k]) := by rw [hcell, List.getElem?_map, List.getElem?_eq_getElem hlt]; rfl
                    have hcell2 : wr.cell? ⟨g, k, none⟩ = some (kidV ks[k]) := (Hbr.out.cell (World.block_lt_of_cell? wc _ hcell1)).trans hcell1
                    have hpk := (Hts.out.world Hbr.out).2 k f.parts[k] ks[k] (List.getElem?_eq_getElem hkf) (List.getElem?_eq_getElem hlt)
                    have hmem : f.parts[k] ∈ f.parts := List.getElem_mem hkf
                    have hsz := Fm.size_parts hmem
                    have hcall := Ih.out f.parts[k] ks[k] S wr (by omega) hpk (by have := part_text_le hmem; omega)
                    have Hcall := Lib.hid hcall
                    have hsnoc := headT_succ f (f.op :: vs2.map vb) (fun p => (p.repl v u).text) k hkf
                    have hs1 : (bs (f.parts[k].repl v u).text).size ≤ 8000 := by rw [bs_size]; have := part_text_le hmem; have := repl_len v u f.parts[k]; omega
                    have hs2 : (bs (headT f (f.op :: vs2.map vb) (fun p => (p.repl v u).text) k)).size ≤ 3 + 2 * 8000 := by rw [bs_size]; exact headT_len f (f.op :: vs2.map vb) (fun p => (p.repl v u).text) k 3 8000 (by simp; omega) (fun p hp => by have := part_text_le hp; have := repl_len v u p; show (p.repl v u).text.length ≤ 8000; omega)
                    have Hsnoc := Lib.hid hsnoc
                    clear hcell hcell1 hpk hmem hsz hcall hsnoc
                    go_wp2_with (go_at_call 16; refine (Hcall.out).mono ?_; rintro e w' ⟨rfl, hb2⟩)
                    go_roundg (gk - 1)
                    case rel => exact ⟨k + 1, by omega, by go_num, str_eq (by rw [append_bs, Hsnoc.out, bs_data, bs_data]), Hbr.out.trans (hb2.mono Hbr.out.size)⟩
                    case measure => omega
                  · have hk2 : k = ks.length := by omega
                    have htk := headT_all f (f.op :: vs2.map vb) (fun p => (p.repl v u).text) k (by rw [hk2, Hkl.out]; exact Nat.le_refl _)
                    have Htk := Lib.hid htk
                    clear htk hk2
                    go_wp2_with fail
                    go_ret
                    refine ⟨?_, Hbc.out.trans (Hbr.out.mono Hbc.out.size)⟩
                    show Ending.returned (.string _) = .returned (.string _)
                    rw [Hrp.out, Htk.out, ← Hvs2.out]
    | false =>
      have hrp := repl_parts (f := f) (v := v) u (fun h => by rw [hq] at h; cases h)
      have Hq := Lib.hid hq
      have Hrp := Lib.hid hrp
      have Hr1 := Lib.hid hr1
      clear hr1 hrp hq ht hc2
      go_enter Try.func16, Try.ntmps16
      go_upto_region 3 with (go_at_call 21; refine (isQuantifier_at f.op _ Hq.out _ _ hc0).mono ?_; rintro e w' ⟨rfl, rfl⟩)
      go_cut [7] (fun x wx => ∃ g cp, x = .slice (some ⟨g, 0, none⟩) f.vars.length cp ∧ wx.ownsRow w.heap.size 5 1 (.slice (some ⟨g, 0, none⟩) f.vars.length cp) f.vars.length ((f.vars.map vb).map byteV) ∧ Below w.heap.size w wx)
      case first =>
        have ha1 : (w.alloc (.cells #[] 5)).cell? ⟨b, 1, none⟩ = some vsv := (World.cell?_of_block (w := w) (Below.heap_alloc w _ b (World.block_lt_of_cell? w _ hc0))).trans hc1
        rcases Hr1.out.2 with ⟨rfl, hn0⟩ | ⟨g0, cap0, cur0, rfl, hg0, hb0, hn1, hn2, hcs, hxs⟩
        · have H0 := Lib.hid hn0
          clear hn0 hc0 hc1
          go_wp2_with (at_builtin; refine wpList_append_own_none rfl (.tmp 27) (.tmp 31) 35 rfl w.heap.size 5 i0 1 Try.underlying35 hi _ 0 [] rfl (own_zeroU w) rfl ?_)
          go_meet
          case rel =>
            have hv0 : f.vars = [] := List.eq_nil_of_length_eq_zero H0.out
            rw [hv0]
            exact ⟨_, _, rfl, own_zeroU w, (Below.refl _ _).alloc (Nat.le_refl _) _⟩
        · have Hnews := Lib.hid (row_news (bytes := f.vars.map vb) Hr1.out)
          have hlt : g0 < w.heap.size := block_lt hb0
          clear hcs hxs hb0 hc0 hc1
          have Hnews2 := Lib.hid (fun j x hj => news_alloc (o := .cells #[] 5) hlt (Hnews.out j x hj))
          go_wp2_with (at_builtin; refine wpList_append_own_at _ rfl (.tmp 27) (.tmp 31) 35 rfl w.heap.size 5 i0 (.int .u8 0) 1 1 Try.underlying35 hi hz0 hz1 hz2 rfl (by decide) _ 0 [] rfl (own_zeroU w) ⟨g0, 0, none⟩ f.vars.length cap0 ((f.vars.map vb).map byteV) rfl (by simp) (Hnews2.out) (bytes_oneCell _) (by unfold maxLen; omega) (by omega) (by simp) ?_; intro v5 w5 ho5 hg5 hn5 hat5; clear hn5; have A5 := Lib.hid (app_oneU ho5 hg5); have C5 := Lib.hid hat5; clear ho5 hg5 hat5)
          go_meet
          case rel =>
            obtain ⟨h1, h2⟩ := A5.out
            obtain ⟨g5, cp5, hv5⟩ := own_formU h1 C5.out
            subst hv5
            exact ⟨g5, cp5, rfl, h1, h2⟩
      case rest =>
        obtain ⟨g7, cp7, rfl, ho, hbc⟩ := hcut
        have O7 := Lib.hid ho
        have B7 := Lib.hid hbc
        clear ho hbc hc0 hc1
        go_wp2_with fail
        go_loopg [35] f.vars.length (fun c iv wr => ∃ k : Nat, k + c = f.vars.length ∧ iv = .int .i64 (k : Nat) ∧ wr.ownsRow w.heap.size 5 1 (.slice (some ⟨g7, 0, none⟩) f.vars.length cp7) f.vars.length (((subTo v u f.vars k).map vb).map byteV) ∧ Below w.heap.size w wr)
        case atStart => exact ⟨0, by omega, rfl, by rw [subTo_zero]; exact O7.out, B7.out⟩
        case round =>
          clear O7 B7
          obtain ⟨k, hk, rfl, ho, hbl⟩ := hrel
          have O8 := Lib.hid ho
          have B8 := Lib.hid hbl
          clear ho hbl
          by_cases hlt : k < f.vars.length
          · obtain ⟨x, hx⟩ : ∃ x, x = f.vars[k] := ⟨_, rfl⟩
            have hcl : wr.cell? ⟨g7, k, none⟩ = some (.int .u8 ((vb x).toNat : Nat)) := by
              have h1 := O8.out.cellAt k (by omega)
              rw [List.getElem?_map, List.getElem?_map, subTo_at hlt, ← hx] at h1
              exact h1
            have hfz := O8.out.frozenAt k
            have Hx := Lib.hid hx
            have hli : (k : Int) < (f.vars.length : Int) := by omega
            clear hx
            by_cases he : x = v
            · subst he
              have Hst := Lib.hid (World.ownsRow.stored O8.out k (.int .u8 ((vb u).toNat : Nat))).1
              have B9 := Lib.hid (B8.out.setCell (p := ⟨g7, k, none⟩) (own_ge O8.out) (.int .u8 ((vb u).toNat : Nat)))
              go_wp2_with fail
              go_roundg (f.vars.length - k - 1)
              case rel => exact ⟨k + 1, by omega, by go_num, by
                have h1 := Hst.out
                rw [subTo_succ hlt, ← Hx.out, List.map_set, List.map_set, show subV x u x = u by simp [subV]]
                exact h1, B9.out⟩
              case measure => omega
            · have heb : (((vb x).toNat : Int) == ((vb v).toNat : Int)) = false := by
                rw [beq_eq_false_iff_ne]
                intro e
                exact he (vb_inj (UInt8.toNat_inj.1 (by omega)))
              have He := Lib.hid he
              clear he
              go_wp2_with fail
              go_roundg (f.vars.length - k - 1)
              case rel => exact ⟨k + 1, by omega, by go_num, by
                rw [subTo_succ hlt, ← Hx.out, show subV v u x = x by simp [subV, He.out], set_self (by rw [subTo_at hlt, Hx.out])]
                exact O8.out, B8.out⟩
              case measure => omega
          · obtain rfl : k = f.vars.length := by omega
            have hgk : gk = 0 := by omega
            subst hgk
            clear hlt hk
            obtain ⟨wo, hwo⟩ : ∃ x, x = wr := ⟨_, rfl⟩
            subst hwo
            obtain ⟨vs2, hvs2⟩ : ∃ vs2, vs2 = f.vars.map (subV v u) := ⟨_, rfl⟩
            have hvr : wo.ownsRow w.heap.size 5 1 (.slice (some ⟨g7, 0, none⟩) f.vars.length cp7) f.vars.length ((vs2.map vb).map byteV) := by have := O8.out; rwa [subTo_all, ← hvs2] at this
            have hvl4 : vs2.length ≤ 2 := by rw [hvs2]; simp; omega
            have Hvs2 := Lib.hid hvs2
            clear hvs2
            have ht2 := TreeIn.world Ht.out B8.out
            obtain ⟨ks, vsv2, psv, hc0, _, hc2, _, _, _, hr, hts⟩ := node_cells ht2
            have hcv1 : (convert 35 9 (.slice (some ⟨g7, 0, none⟩) f.vars.length cp7)).run Try.prog wo.drew = .ok (.string (bs (vs2.map vb))) wo.drew := conv_row (w := wo.drew) (base := w.heap.size) (n := f.vars.length) hvr
            have hcv2 : ∀ o, (convert 35 9 (.slice (some ⟨g7, 0, none⟩) f.vars.length cp7)).run Try.prog (wo.alloc o).drew = .ok (.string (bs (vs2.map vb))) (wo.alloc o).drew := fun o => conv_row (w := (wo.alloc o).drew) (base := w.heap.size) (n := f.vars.length) (ownsRow_world hvr ((Below.refl _ _).alloc (Nat.le_refl _) _).drew)
            have hcv3 : (convert 35 9 (.slice (some ⟨wo.heap.size, 0, none⟩) 1 1)).run Try.prog (wo.alloc (.cells #[.int .u8 f.op.toNat] 5)).drew = .ok (.string (bs [f.op])) (wo.alloc (.cells #[.int .u8 f.op.toNat] 5)).drew := conv_row (new_byte wo f.op)
            have hlb := World.block_lt_of_cell? wo _ hc0
            have ha0 : ∀ o, (wo.alloc o).cell? ⟨b, 0, none⟩ = some (.int .u8 f.op.toNat) := fun o => (World.cell?_of_block (w := wo) (Below.heap_alloc wo o b hlb)).trans hc0
            have hsz : (bs (vs2.map vb)).size ≤ 2 := by rw [bs_size]; simp; omega
            have hsz1 : (bs [f.op]).size ≤ 1 := by rw [bs_size]; simp
            have HrK := Lib.hid hr
            have HtsK := Lib.hid hts
            clear hvr ht2 hr hts
            go_upto_region 10 with (fail)
            go_cut [10] (fun s wx => s = .string (bs (f.op :: vs2.map vb)) ∧ Below w.heap.size w wx)
            case first =>
              go_region
              all_goals
                go_wp2_with fail
                go_meet
                case rel => exact ⟨str_eq (append_bs _ _), (B8.out.alloc B8.out.size _).drew⟩
            case rest =>
              obtain ⟨rfl, hbc⟩ := hcut
              have Hbc := Lib.hid hbc
              have ht2 := TreeIn.world Ht.out hbc
              clear hc0 hc2 hcv1 hcv2 hcv3 hlb ha0 hsz hsz1 hbc HrK HtsK B8 O8
              obtain ⟨ks, vsv2, psv, hc0, _, hc2, _, _, _, hr, hts⟩ := node_cells ht2
              obtain ⟨a, cap, rfl, hkl, hrow⟩ := row_slice hr
              have hkl2 : ks.length = f.parts.length := hts.1
              have hp2 := parts_le f
              have hkl3 : ks.length ≤ 2 := by omega
              have Hrow := Lib.hid hrow
              have Hts := Lib.hid hts
              have Hkl := Lib.hid hkl2
              clear hrow hts hkl hkl2 hr ht2
              go_wp2_with fail
              go_loopg [10, 62] ks.length (fun c o i wr => ∃ k : Nat, k + c = ks.length ∧ i = .int .i64 k ∧ o = .string (bs (headT f (f.op :: vs2.map vb) (fun p => (p.repl v u).text) k)) ∧ Below wc.heap.size wc wr)
              case atStart => exact ⟨0, by omega, rfl, by rw [headT_zero], Below.refl _ _⟩
              case round =>
                obtain ⟨k, hk, rfl, rfl, hbr⟩ := hrel
                have Hbr := Lib.hid hbr
                clear hbr
                by_cases hlt : k < ks.length
                · obtain ⟨g, rfl, hcell⟩ := Hrow.out k hlt
                  have hkf : k < f.parts.length := by rw [← Hkl.out]; exact hlt
                  have hcell1 : wc.cell? ⟨g, k, none⟩ = some (kidV ks[k]) := by rw [hcell, List.getElem?_map, List.getElem?_eq_getElem hlt]; rfl
                  have hcell2 : wr.cell? ⟨g, k, none⟩ = some (kidV ks[k]) := (Hbr.out.cell (World.block_lt_of_cell? wc _ hcell1)).trans hcell1
                  have hpk := (Hts.out.world Hbr.out).2 k f.parts[k] ks[k] (List.getElem?_eq_getElem hkf) (List.getElem?_eq_getElem hlt)
                  have hmem : f.parts[k] ∈ f.parts := List.getElem_mem hkf
                  have hsz := Fm.size_parts hmem
                  have hcall := Ih.out f.parts[k] ks[k] S wr (by omega) hpk (by have := part_text_le hmem; omega)
                  have Hcall := Lib.hid hcall
                  have hsnoc := headT_succ f (f.op :: vs2.map vb) (fun p => (p.repl v u).text) k hkf
                  have hs1 : (bs (f.parts[k].repl v u).text).size ≤ 8000 := by rw [bs_size]; have := part_text_le hmem; have := repl_len v u f.parts[k]; omega
                  have hs2 : (bs (headT f (f.op :: vs2.map vb) (fun p => (p.repl v u).text) k)).size ≤ 3 + 2 * 8000 := by rw [bs_size]; exact headT_len f (f.op :: vs2.map vb) (fun p => (p.repl v u).text) k 3 8000 (by simp; omega) (fun p hp => by have := part_text_le hp; have := repl_len v u p; show (p.repl v u).text.length ≤ 8000; omega)
                  have Hsnoc := Lib.hid hsnoc
                  clear hcell hcell1 hpk hmem hsz hcall hsnoc
                  go_wp2_with (go_at_call 16; refine (Hcall.out).mono ?_; rintro e w' ⟨rfl, hb2⟩)
                  go_roundg (gk - 1)
                  case rel => exact ⟨k + 1, by omega, by go_num, str_eq (by rw [append_bs, Hsnoc.out, bs_data, bs_data]), Hbr.out.trans (hb2.mono Hbr.out.size)⟩
                  case measure => omega
                · have hk2 : k = ks.length := by omega
                  have htk := headT_all f (f.op :: vs2.map vb) (fun p => (p.repl v u).text) k (by rw [hk2, Hkl.out]; exact Nat.le_refl _)
                  have Htk := Lib.hid htk
                  clear htk hk2
                  go_wp2_with fail
                  go_ret
                  refine ⟨?_, Hbc.out.trans (Hbr.out.mono Hbc.out.size)⟩
                  show Ending.returned (.string _) = .returned (.string _)
                  rw [Hrp.out, Htk.out, ← Hvs2.out]

end Go.Proofs.Ytpaleogkgfclnaa

namespace Go.Proofs.Ytpaleogkgfclnaa
open Go.RowKit
open Pl
set_option linter.unusedSimpArgs false
set_option linter.unusedVariables false

theorem brow_make (w : World) (l : List UInt8) (n : Nat) (hn : l.length = n) : ∃ cap w', (convert 9 35 (.string (bs l))).run Try.prog w = .ok (.slice (some ⟨w.heap.size, 0, none⟩) n cap) w' ∧ BRow w' w.heap.size l ∧ Below w.heap.size w w' := by
  have hr := run_bytes_of_string (P := Try.prog) w 9 35 5 (bs l) Try.underlying9 Try.underlying35 Try.underlying5
  have hz : (bs l).size = n := by rw [bs_size]; exact hn
  have h := BRow.new w (bs l) (grownCap w (bs l).size 0 5)
  rw [bs_data] at h
  refine ⟨grownCap w (bs l).size 0 5, _, hr.trans ?_, h, ((Below.refl _ _).drew).alloc (Nat.le_refl _) _⟩
  rw [hz]

theorem ret_tri {a b c d e f : Value} (h1 : a = c) (h2 : b = d) (h3 : e = f := by rfl) : Ending.returned (.tuple #[a, b, e]) = .returned (.tuple #[c, d, f]) := by rw [h1, h2, h3]
theorem leaf_text {f : Fm} (h : f.parts = []) : f.text = f.op :: f.vars.map vb := by
  cases f <;> simp [Fm.parts] at h <;> rfl
theorem leaf_repl {f : Fm} (v u : Fin 4) (h : f.parts = []) (hq : isQuB f.op = false) : (f.repl v u).text = f.op :: (f.vars.map (subV v u)).map vb := by
  rw [repl_parts u (fun e => by rw [hq] at e; cases e), h]
  simp

set_option maxHeartbeats 4000000 in
set_option maxRecDepth 100000 in
theorem l2Rename_calls (v u : Fin 4) (n : Nat) : ∀ (f : Fm) (s : ByteArray) (k : Nat) (r : List UInt8) (m : Int) (w : World), f.size ≤ n → s.data.toList.drop k = f.text ++ r → s.size ≤ 1000000000 → f.allBits.testBit u.val = false → m = k →
    Calls Try.prog 19 #[.string s, .int .i64 m, .int .u8 (vb v).toNat, .int .u8 (vb u).toNat] w fun e w' => e = .returned (.tuple #[.string (bs (f.repl v u).text), .int .i64 (k + f.text.length : Nat), .bool true]) ∧ Below w.heap.size w w' := by
  induction n with
  | zero => intro f s k r m w hn; cases f <;> simp [Fm.size] at hn
  | succ n ih =>
    intro f s k r m w hn hd hs hu hm
    subst hm
    obtain ⟨hk1, hop, hle⟩ := at_op hd
    have hk := hk1
    have Ih := Lib.hid ih
    clear ih
    cases f with
    | tru =>
      have hk := hk1
      have hb : (s[k].toNat : Int) = 116 := by rw [hop]; rfl
      have hx := piece_eq hd (k + 1) (by simp [Fm.text])
      have hz := piece_size hd (k + 1) (by simp [Fm.text])
      have Hx := Lib.hid hx
      simp only [Fm.text, List.length_cons, List.length_nil] at hle hz
      clear hop hd hx
      go_enter Try.func19, Try.ntmps19
      go_wp2_with fail
      (first | go_ret2 | go_ret3)
      refine ⟨ret_tri (str_eq (eq_bs ?_)) (int_eq ?_), ?_⟩
      · simp [bs_data, Fm.repl, Fm.text, Hx.out]
      · simp [Fm.text] <;> omega
      · first
          | exact Below.refl _ _
          | exact below_drewN (Below.refl _ _) _
          | assumption
          | exact hb1.drew
          | exact (hb1.trans (hb2.mono hb1.size))
          | exact ((below_drewN (Below.refl _ _) _).trans hb1)
          | exact ((below_drewN (Below.refl _ _) _).trans (hb1.trans (hb2.mono hb1.size)))
    | fls =>
      have hk := hk1
      have hb : (s[k].toNat : Int) = 102 := by rw [hop]; rfl
      have hx := piece_eq hd (k + 1) (by simp [Fm.text])
      have hz := piece_size hd (k + 1) (by simp [Fm.text])
      have Hx := Lib.hid hx
      simp only [Fm.text, List.length_cons, List.length_nil] at hle hz
      clear hop hd hx
      go_enter Try.func19, Try.ntmps19
      go_wp2_with fail
      (first | go_ret2 | go_ret3)
      refine ⟨ret_tri (str_eq (eq_bs ?_)) (int_eq ?_), ?_⟩
      · simp [bs_data, Fm.repl, Fm.text, Hx.out]
      · simp [Fm.text] <;> omega
      · first
          | exact Below.refl _ _
          | exact below_drewN (Below.refl _ _) _
          | assumption
          | exact hb1.drew
          | exact (hb1.trans (hb2.mono hb1.size))
          | exact ((below_drewN (Below.refl _ _) _).trans hb1)
          | exact ((below_drewN (Below.refl _ _) _).trans (hb1.trans (hb2.mono hb1.size)))
    | pr a =>
      have hb : (s[k].toNat : Int) = 80 := by rw [hop]; rfl
      have hend : Calls Try.prog 11 #[.string s, .int .i64 k] w fun e w' => e = .returned (.int .i64 (endI s.data.toList k)) ∧ w = w' := l2End_calls s.size s k w (by omega) (by unfold maxLen; omega) (by omega)
      rw [endI_some hd, show k + (Fm.text (.pr a)).length = k + 2 from rfl] at hend
      have hq0 : ∀ w, Calls Try.prog 13 #[.int .u8 80] w fun e w' => e = .returned (.bool false) ∧ w = w' := fun w => l2Quant_calls 80 false rfl w
      have hx := piece_eq hd (k + 2) (by simp [Fm.text])
      have hz := piece_size hd (k + 2) (by simp [Fm.text])
      have hrt := leaf_repl (f := .pr a) v u rfl rfl
      have hlt := leaf_text (f := .pr a) rfl
      have hln : (Fm.text (.pr a)).length = 2 := rfl
      have hvl : (Fm.vars (.pr a)).length = 1 := rfl
      rw [hlt] at hx
      rw [hrt]
      rw [hln] at hz hle ⊢
      have hop2 : (Fm.op (.pr a)) = 80 := rfl
      rw [hop2] at hx ⊢
      have Hend := Lib.hid hend
      have Hx := Lib.hid hx
      have Hq0 := Lib.hid hq0
      clear hop hend hd hx hrt hlt hln hop2 hq0 hu hn
      generalize (Fm.vars (.pr a)) = vs at *
      obtain ⟨cap, wn, hcv, hbrw, hblw⟩ := brow_make w (80 :: vs.map vb) 2 (by simp; omega)
      rw [← Hx.out] at hcv
      have Hbrw := Lib.hid hbrw
      have Hblw := Lib.hid hblw
      obtain ⟨g, hg⟩ : ∃ g, g = w.heap.size := ⟨_, rfl⟩
      rw [← hg] at hcv
      have Hg := Lib.hid hg
      clear hbrw hblw hg
      go_enter Try.func19, Try.ntmps19
      go_wp2_with (first | (go_at_call 13; refine (Hq0.out _).mono ?_; rintro e w' ⟨rfl, rfl⟩) | (go_at_call 11; refine (Hend.out).mono ?_; rintro e w' ⟨rfl, rfl⟩))
      go_loopg [28] 1 (fun c iv wr => ∃ i : Nat, i + c = 2 ∧ 1 ≤ i ∧ iv = .int .i64 (i : Nat) ∧ BRow wr g (80 :: (subTo v u vs (i - 1)).map vb) ∧ Below w.heap.size w wr)
      case atStart => exact ⟨1, by omega, by omega, rfl, by rw [show 1 - 1 = 0 from rfl, subTo_zero, Hg.out]; exact Hbrw.out, Hblw.out⟩
      case round =>
        obtain ⟨i, hi, hi1, rfl, hbr, hbl⟩ := hrel
        have Hbr := Lib.hid hbr
        have Hbl := Lib.hid hbl
        clear hbr hbl Hbrw Hblw hcv
        by_cases hlt : i < 2
        · obtain ⟨j, hj⟩ : ∃ j, i = j + 1 := ⟨i - 1, by omega⟩
          have hjv : j < vs.length := by omega
          have hb0 : BRow wr g (80 :: (subTo v u vs j).map vb) := by have := Hbr.out; rwa [hj, Nat.add_sub_cancel] at this
          have hcl : wr.cell? ⟨g, i, none⟩ = some (.int .u8 ((vb vs[j]).toNat : Nat)) := by rw [hj]; exact brow_at hb0 hjv
          have hfz : wr.frozen? ⟨g, i, none⟩ = false := by rw [hj]; exact hb0.frozen (by simp [subTo_len]; exact hjv)
          obtain ⟨x, hx⟩ : ∃ x, x = vs[j] := ⟨_, rfl⟩
          rw [← hx] at hcl
          have Hx2 := Lib.hid hx
          have Hj := Lib.hid hj
          have Hb0 := Lib.hid hb0
          clear hx hj hb0
          by_cases he : x = v
          · subst he
            have Hst := Lib.hid (Hb0.out.set (j + 1) (vb u))
            have B9 := Lib.hid (Hbl.out.setCell (p := ⟨g, i, none⟩) (by rw [← Hg.out]; exact Nat.le_refl _) (.int .u8 ((vb u).toNat : Nat)))
            go_wp2_with fail
            go_roundg (1 - i)
            case rel => exact ⟨i + 1, by omega, by omega, by go_num, by
              have h1 := Hst.out
              rw [Nat.add_sub_cancel, Hj.out, subTo_succ hjv, ← Hx2.out, List.map_set, show subV x u x = u by simp [subV]]
              exact h1, B9.out⟩
            case measure => omega
          · have heb : (((vb x).toNat : Int) == ((vb v).toNat : Int)) = false := by
              rw [beq_eq_false_iff_ne]
              intro e
              exact he (vb_inj (UInt8.toNat_inj.1 (by omega)))
            have He := Lib.hid he
            clear he
            go_wp2_with fail
            go_roundg (1 - i)
            case rel => exact ⟨i + 1, by omega, by omega, by go_num, by
              rw [Nat.add_sub_cancel, Hj.out, subTo_succ hjv, ← Hx2.out, show subV v u x = x by simp [subV, He.out], set_self (by rw [subTo_at hjv, Hx2.out])]
              exact Hb0.out, Hbl.out⟩
            case measure => omega
        · obtain rfl : i = 2 := by omega
          have hall : BRow wr g (80 :: (vs.map (subV v u)).map vb) := by have := Hbr.out; rwa [show 2 - 1 = vs.length by omega, subTo_all] at this
          have hcb := fun cp => hall.conv (cap := cp) (n := 2) (by simp; omega)
          clear hall
          go_wp2_with fail
          (first | go_ret2 | go_ret3)
          exact ⟨ret_tri (str_eq (eq_bs (by simp [bs_data]))) (int_eq (by omega)), Hbl.out⟩
    | eq a c =>
      have hb : (s[k].toNat : Int) = 61 := by rw [hop]; rfl
      have hend : Calls Try.prog 11 #[.string s, .int .i64 k] w fun e w' => e = .returned (.int .i64 (endI s.data.toList k)) ∧ w = w' := l2End_calls s.size s k w (by omega) (by unfold maxLen; omega) (by omega)
      rw [endI_some hd, show k + (Fm.text (.eq a c)).length = k + 3 from rfl] at hend
      have hq0 : ∀ w, Calls Try.prog 13 #[.int .u8 61] w fun e w' => e = .returned (.bool false) ∧ w = w' := fun w => l2Quant_calls 61 false rfl w
      have hx := piece_eq hd (k + 3) (by simp [Fm.text])
      have hz := piece_size hd (k + 3) (by simp [Fm.text])
      have hrt := leaf_repl (f := .eq a c) v u rfl rfl
      have hlt := leaf_text (f := .eq a c) rfl
      have hln : (Fm.text (.eq a c)).length = 3 := rfl
      have hvl : (Fm.vars (.eq a c)).length = 2 := rfl
      rw [hlt] at hx
      rw [hrt]
      rw [hln] at hz hle ⊢
      have hop2 : (Fm.op (.eq a c)) = 61 := rfl
      rw [hop2] at hx ⊢
      have Hend := Lib.hid hend
      have Hx := Lib.hid hx
      have Hq0 := Lib.hid hq0
      clear hop hend hd hx hrt hlt hln hop2 hq0 hu hn
      generalize (Fm.vars (.eq a c)) = vs at *
      obtain ⟨cap, wn, hcv, hbrw, hblw⟩ := brow_make w (61 :: vs.map vb) 3 (by simp; omega)
      rw [← Hx.out] at hcv
      have Hbrw := Lib.hid hbrw
      have Hblw := Lib.hid hblw
      obtain ⟨g, hg⟩ : ∃ g, g = w.heap.size := ⟨_, rfl⟩
      rw [← hg] at hcv
      have Hg := Lib.hid hg
      clear hbrw hblw hg
      go_enter Try.func19, Try.ntmps19
      go_wp2_with (first | (go_at_call 13; refine (Hq0.out _).mono ?_; rintro e w' ⟨rfl, rfl⟩) | (go_at_call 11; refine (Hend.out).mono ?_; rintro e w' ⟨rfl, rfl⟩))
      go_loopg [28] 2 (fun c iv wr => ∃ i : Nat, i + c = 3 ∧ 1 ≤ i ∧ iv = .int .i64 (i : Nat) ∧ BRow wr g (61 :: (subTo v u vs (i - 1)).map vb) ∧ Below w.heap.size w wr)
      case atStart => exact ⟨1, by omega, by omega, rfl, by rw [show 1 - 1 = 0 from rfl, subTo_zero, Hg.out]; exact Hbrw.out, Hblw.out⟩
      case round =>
        obtain ⟨i, hi, hi1, rfl, hbr, hbl⟩ := hrel
        have Hbr := Lib.hid hbr
        have Hbl := Lib.hid hbl
        clear hbr hbl Hbrw Hblw hcv
        by_cases hlt : i < 3
        · obtain ⟨j, hj⟩ : ∃ j, i = j + 1 := ⟨i - 1, by omega⟩
          have hjv : j < vs.length := by omega
          have hb0 : BRow wr g (61 :: (subTo v u vs j).map vb) := by have := Hbr.out; rwa [hj, Nat.add_sub_cancel] at this
          have hcl : wr.cell? ⟨g, i, none⟩ = some (.int .u8 ((vb vs[j]).toNat : Nat)) := by rw [hj]; exact brow_at hb0 hjv
          have hfz : wr.frozen? ⟨g, i, none⟩ = false := by rw [hj]; exact hb0.frozen (by simp [subTo_len]; exact hjv)
          obtain ⟨x, hx⟩ : ∃ x, x = vs[j] := ⟨_, rfl⟩
          rw [← hx] at hcl
          have Hx2 := Lib.hid hx
          have Hj := Lib.hid hj
          have Hb0 := Lib.hid hb0
          clear hx hj hb0
          by_cases he : x = v
          · subst he
            have Hst := Lib.hid (Hb0.out.set (j + 1) (vb u))
            have B9 := Lib.hid (Hbl.out.setCell (p := ⟨g, i, none⟩) (by rw [← Hg.out]; exact Nat.le_refl _) (.int .u8 ((vb u).toNat : Nat)))
            go_wp2_with fail
            go_roundg (2 - i)
            case rel => exact ⟨i + 1, by omega, by omega, by go_num, by
              have h1 := Hst.out
              rw [Nat.add_sub_cancel, Hj.out, subTo_succ hjv, ← Hx2.out, List.map_set, show subV x u x = u by simp [subV]]
              exact h1, B9.out⟩
            case measure => omega
          · have heb : (((vb x).toNat : Int) == ((vb v).toNat : Int)) = false := by
              rw [beq_eq_false_iff_ne]
              intro e
              exact he (vb_inj (UInt8.toNat_inj.1 (by omega)))
            have He := Lib.hid he
            clear he
            go_wp2_with fail
            go_roundg (2 - i)
            case rel => exact ⟨i + 1, by omega, by omega, by go_num, by
              rw [Nat.add_sub_cancel, Hj.out, subTo_succ hjv, ← Hx2.out, show subV v u x = x by simp [subV, He.out], set_self (by rw [subTo_at hjv, Hx2.out])]
              exact Hb0.out, Hbl.out⟩
            case measure => omega
        · obtain rfl : i = 3 := by omega
          have hall : BRow wr g (61 :: (vs.map (subV v u)).map vb) := by have := Hbr.out; rwa [show 3 - 1 = vs.length by omega, subTo_all] at this
          have hcb := fun cp => hall.conv (cap := cp) (n := 3) (by simp; omega)
          clear hall
          go_wp2_with fail
          (first | go_ret2 | go_ret3)
          exact ⟨ret_tri (str_eq (eq_bs (by simp [bs_data]))) (int_eq (by omega)), Hbl.out⟩
    | rel a c =>
      have hb : (s[k].toNat : Int) = 69 := by rw [hop]; rfl
      have hend : Calls Try.prog 11 #[.string s, .int .i64 k] w fun e w' => e = .returned (.int .i64 (endI s.data.toList k)) ∧ w = w' := l2End_calls s.size s k w (by omega) (by unfold maxLen; omega) (by omega)
      rw [endI_some hd, show k + (Fm.text (.rel a c)).length = k + 3 from rfl] at hend
      have hq0 : ∀ w, Calls Try.prog 13 #[.int .u8 69] w fun e w' => e = .returned (.bool false) ∧ w = w' := fun w => l2Quant_calls 69 false rfl w
      have hx := piece_eq hd (k + 3) (by simp [Fm.text])
      have hz := piece_size hd (k + 3) (by simp [Fm.text])
      have hrt := leaf_repl (f := .rel a c) v u rfl rfl
      have hlt := leaf_text (f := .rel a c) rfl
      have hln : (Fm.text (.rel a c)).length = 3 := rfl
      have hvl : (Fm.vars (.rel a c)).length = 2 := rfl
      rw [hlt] at hx
      rw [hrt]
      rw [hln] at hz hle ⊢
      have hop2 : (Fm.op (.rel a c)) = 69 := rfl
      rw [hop2] at hx ⊢
      have Hend := Lib.hid hend
      have Hx := Lib.hid hx
      have Hq0 := Lib.hid hq0
      clear hop hend hd hx hrt hlt hln hop2 hq0 hu hn
      generalize (Fm.vars (.rel a c)) = vs at *
      obtain ⟨cap, wn, hcv, hbrw, hblw⟩ := brow_make w (69 :: vs.map vb) 3 (by simp; omega)
      rw [← Hx.out] at hcv
      have Hbrw := Lib.hid hbrw
      have Hblw := Lib.hid hblw
      obtain ⟨g, hg⟩ : ∃ g, g = w.heap.size := ⟨_, rfl⟩
      rw [← hg] at hcv
      have Hg := Lib.hid hg
      clear hbrw hblw hg
      go_enter Try.func19, Try.ntmps19
      go_wp2_with (first | (go_at_call 13; refine (Hq0.out _).mono ?_; rintro e w' ⟨rfl, rfl⟩) | (go_at_call 11; refine (Hend.out).mono ?_; rintro e w' ⟨rfl, rfl⟩))
      go_loopg [28] 2 (fun c iv wr => ∃ i : Nat, i + c = 3 ∧ 1 ≤ i ∧ iv = .int .i64 (i : Nat) ∧ BRow wr g (69 :: (subTo v u vs (i - 1)).map vb) ∧ Below w.heap.size w wr)
      case atStart => exact ⟨1, by omega, by omega, rfl, by rw [show 1 - 1 = 0 from rfl, subTo_zero, Hg.out]; exact Hbrw.out, Hblw.out⟩
      case round =>
        obtain ⟨i, hi, hi1, rfl, hbr, hbl⟩ := hrel
        have Hbr := Lib.hid hbr
        have Hbl := Lib.hid hbl
        clear hbr hbl Hbrw Hblw hcv
        by_cases hlt : i < 3
        · obtain ⟨j, hj⟩ : ∃ j, i = j + 1 := ⟨i - 1, by omega⟩
          have hjv : j < vs.length := by omega
          have hb0 : BRow wr g (69 :: (subTo v u vs j).map vb) := by have := Hbr.out; rwa [hj, Nat.add_sub_cancel] at this
          have hcl : wr.cell? ⟨g, i, none⟩ = some (.int .u8 ((vb vs[j]).toNat : Nat)) := by rw [hj]; exact brow_at hb0 hjv
          have hfz : wr.frozen? ⟨g, i, none⟩ = false := by rw [hj]; exact hb0.frozen (by simp [subTo_len]; exact hjv)
          obtain ⟨x, hx⟩ : ∃ x, x = vs[j] := ⟨_, rfl⟩
          rw [← hx] at hcl
          have Hx2 := Lib.hid hx
          have Hj := Lib.hid hj
          have Hb0 := Lib.hid hb0
          clear hx hj hb0
          by_cases he : x = v
          · subst he
            have Hst := Lib.hid (Hb0.out.set (j + 1) (vb u))
            have B9 := Lib.hid (Hbl.out.setCell (p := ⟨g, i, none⟩) (by rw [← Hg.out]; exact Nat.le_refl _) (.int .u8 ((vb u).toNat : Nat)))
            go_wp2_with fail
            go_roundg (2 - i)
            case rel => exact ⟨i + 1, by omega, by omega, by go_num, by
              have h1 := Hst.out
              rw [Nat.add_sub_cancel, Hj.out, subTo_succ hjv, ← Hx2.out, List.map_set, show subV x u x = u by simp [subV]]
              exact h1, B9.out⟩
            case measure => omega
          · have heb : (((vb x).toNat : Int) == ((vb v).toNat : Int)) = false := by
              rw [beq_eq_false_iff_ne]
              intro e
              exact he (vb_inj (UInt8.toNat_inj.1 (by omega)))
            have He := Lib.hid he
            clear he
            go_wp2_with fail
            go_roundg (2 - i)
            case rel => exact ⟨i + 1, by omega, by omega, by go_num, by
              rw [Nat.add_sub_cancel, Hj.out, subTo_succ hjv, ← Hx2.out, show subV v u x = x by simp [subV, He.out], set_self (by rw [subTo_at hjv, Hx2.out])]
              exact Hb0.out, Hbl.out⟩
            case measure => omega
        · obtain rfl : i = 3 := by omega
          have hall : BRow wr g (69 :: (vs.map (subV v u)).map vb) := by have := Hbr.out; rwa [show 3 - 1 = vs.length by omega, subTo_all] at this
          have hcb := fun cp => hall.conv (cap := cp) (n := 3) (by simp; omega)
          clear hall
          go_wp2_with fail
          (first | go_ret2 | go_ret3)
          exact ⟨ret_tri (str_eq (eq_bs (by simp [bs_data]))) (int_eq (by omega)), Hbl.out⟩
    | neg p =>
      have hb : (s[k].toNat : Int) = 33 := by rw [hop]; rfl
      have hcall := Ih.out p s (k + 1) r ((k : Int) + 1) w (by simp [Fm.size] at hn; omega) (at_one hd) hs (by simpa [Fm.allBits] using hu) (by omega)
      have Hcall := Lib.hid hcall
      have hp1 : (bs (p.repl v u).text).size ≤ 1000000000 := by rw [bs_size, repl_len]; have := hle; simp only [Fm.text, List.length_cons] at this; omega
      simp only [Fm.text, List.length_cons] at hle
      clear hop hcall hd hu
      go_enter Try.func19, Try.ntmps19
      go_wp2_with (go_at_call 19; refine (Hcall.out).mono ?_; rintro e w1 ⟨rfl, hb1⟩)
      (first | go_ret2 | go_ret3)
      refine ⟨ret_tri (str_eq (eq_bs ?_)) (int_eq ?_), ?_⟩
      · simp [bs_data, Fm.repl, Fm.text]
      · simp [Fm.text] <;> omega
      · first
          | exact Below.refl _ _
          | exact below_drewN (Below.refl _ _) _
          | assumption
          | exact hb1.drew
          | exact (hb1.trans (hb2.mono hb1.size))
          | exact ((below_drewN (Below.refl _ _) _).trans hb1)
          | exact ((below_drewN (Below.refl _ _) _).trans (hb1.trans (hb2.mono hb1.size)))
    | con p q =>
      have hb : (s[k].toNat : Int) = 38 := by rw [hop]; rfl
      obtain ⟨hd1, hd2⟩ := at_two hd
      have hup : p.allBits.testBit u.val = false ∧ q.allBits.testBit u.val = false := by simpa [Fm.allBits, Nat.testBit_or] using hu
      have hcall := fun w => Ih.out p s (k + 1) _ ((k : Int) + 1) w (by simp [Fm.size] at hn; omega) hd1 hs hup.1 (by omega)
      have hcall2 := fun w => Ih.out q s (k + 1 + p.text.length) _ ((k + 1 + p.text.length : Nat) : Int) w (by simp [Fm.size] at hn; omega) hd2 hs hup.2 rfl
      have hx := piece_eq (show s.data.toList.drop k = [38] ++ (p.text ++ q.text ++ r) by rw [hd]; simp [Fm.text]) (k + 1) rfl
      have hz := piece_size (show s.data.toList.drop k = [38] ++ (p.text ++ q.text ++ r) by rw [hd]; simp [Fm.text]) (k + 1) rfl
      have Hcall := Lib.hid hcall
      have Hcall2 := Lib.hid hcall2
      have Hx := Lib.hid hx
      simp only [Fm.text, List.length_cons, List.length_append, List.length_nil] at hle hz
      have hp1 : (bs (p.repl v u).text).size ≤ 1000000000 := by rw [bs_size, repl_len]; omega
      have hq1 : (bs (q.repl v u).text).size ≤ 1000000000 := by rw [bs_size, repl_len]; omega
      clear hop hcall hcall2 hd hd1 hd2 hx hu hup
      go_enter Try.func19, Try.ntmps19
      go_upto_region 8 with (go_at_call 19; refine (Hcall.out _).mono ?_; rintro e w1 ⟨rfl, hb1⟩)
      go_wp2_with (go_at_call 19; refine (Hcall2.out _).mono ?_; rintro e w2 ⟨rfl, hb2⟩)
      (first | go_ret2 | go_ret3)
      refine ⟨ret_tri (str_eq (eq_bs ?_)) (int_eq ?_), ?_⟩
      · simp [bs_data, Fm.repl, Fm.text, Hx.out]
      · simp [Fm.text] <;> omega
      · first
          | exact Below.refl _ _
          | exact below_drewN (Below.refl _ _) _
          | assumption
          | exact hb1.drew
          | exact (hb1.trans (hb2.mono hb1.size))
          | exact ((below_drewN (Below.refl _ _) _).trans hb1)
          | exact ((below_drewN (Below.refl _ _) _).trans (hb1.trans (hb2.mono hb1.size)))
    | dis p q =>
      have hb : (s[k].toNat : Int) = 124 := by rw [hop]; rfl
      obtain ⟨hd1, hd2⟩ := at_two hd
      have hup : p.allBits.testBit u.val = false ∧ q.allBits.testBit u.val = false := by simpa [Fm.allBits, Nat.testBit_or] using hu
      have hcall := fun w => Ih.out p s (k + 1) _ ((k : Int) + 1) w (by simp [Fm.size] at hn; omega) hd1 hs hup.1 (by omega)
      have hcall2 := fun w => Ih.out q s (k + 1 + p.text.length) _ ((k + 1 + p.text.length : Nat) : Int) w (by simp [Fm.size] at hn; omega) hd2 hs hup.2 rfl
      have hx := piece_eq (show s.data.toList.drop k = [124] ++ (p.text ++ q.text ++ r) by rw [hd]; simp [Fm.text]) (k + 1) rfl
      have hz := piece_size (show s.data.toList.drop k = [124] ++ (p.text ++ q.text ++ r) by rw [hd]; simp [Fm.text]) (k + 1) rfl
      have Hcall := Lib.hid hcall
      have Hcall2 := Lib.hid hcall2
      have Hx := Lib.hid hx
      simp only [Fm.text, List.length_cons, List.length_append, List.length_nil] at hle hz
      have hp1 : (bs (p.repl v u).text).size ≤ 1000000000 := by rw [bs_size, repl_len]; omega
      have hq1 : (bs (q.repl v u).text).size ≤ 1000000000 := by rw [bs_size, repl_len]; omega
      clear hop hcall hcall2 hd hd1 hd2 hx hu hup
      go_enter Try.func19, Try.ntmps19
      go_upto_region 8 with (go_at_call 19; refine (Hcall.out _).mono ?_; rintro e w1 ⟨rfl, hb1⟩)
      go_wp2_with (go_at_call 19; refine (Hcall2.out _).mono ?_; rintro e w2 ⟨rfl, hb2⟩)
      (first | go_ret2 | go_ret3)
      refine ⟨ret_tri (str_eq (eq_bs ?_)) (int_eq ?_), ?_⟩
      · simp [bs_data, Fm.repl, Fm.text, Hx.out]
      · simp [Fm.text] <;> omega
      · first
          | exact Below.refl _ _
          | exact below_drewN (Below.refl _ _) _
          | assumption
          | exact hb1.drew
          | exact (hb1.trans (hb2.mono hb1.size))
          | exact ((below_drewN (Below.refl _ _) _).trans hb1)
          | exact ((below_drewN (Below.refl _ _) _).trans (hb1.trans (hb2.mono hb1.size)))
    | qu q x p =>
      have hd1 := at_qu hd
      have hdx : s.data.toList.drop (k + 1) = vb x :: (p.text ++ r) := drop_add_of (p := [q.b]) (by simpa [Fm.text] using hd)
      have hup : p.allBits.testBit u.val = false ∧ x ≠ u := by
        have h1 := hu
        simp only [Fm.allBits, Nat.testBit_or, Bool.or_eq_false_iff] at h1
        refine ⟨h1.2, fun e => ?_⟩
        rw [e] at h1
        have h2 := h1.1
        rw [bit_one u u] at h2
        simp at h2
      have hcall := Ih.out p s (k + 2) _ ((k : Int) + 2) w (by simp [Fm.size] at hn; omega) hd1 hs hup.1 (by omega)
      have hfree := fun w => l2Free_big p.size p s (k + 2) _ ((k : Int) + 2) w (Nat.le_refl _) hd1 hs (by omega)
      have hend : Calls Try.prog 11 #[.string s, .int .i64 k] w fun e w' => e = .returned (.int .i64 (endI s.data.toList k)) ∧ w = w' := l2End_calls s.size s k w (by omega) (by unfold maxLen; omega) (by omega)
      rw [endI_some hd] at hend
      have hx := piece_eq hd (k + (Fm.text (.qu q x p)).length) rfl
      have hz := piece_size hd (k + (Fm.text (.qu q x p)).length) rfl
      have hu2 := piece_eq (show s.data.toList.drop k = [q.b, vb x] ++ (p.text ++ r) by rw [hd]; simp [Fm.text]) (k + 2) rfl
      have huz := piece_size (show s.data.toList.drop k = [q.b, vb x] ++ (p.text ++ r) by rw [hd]; simp [Fm.text]) (k + 2) rfl
      have hk2 : k + 1 < s.size := by have := hle; simp only [Fm.text, List.length_cons] at this; omega
      have hxb : (s[k + 1].toNat : Int) = ((vb x).toNat : Nat) := by
        have h1 := drop_at hk2
        rw [hdx] at h1
        rw [← (List.cons.inj h1).1]
      have hrp : (bs (p.repl v u).text).size ≤ 1000000000 := by rw [bs_size, repl_len]; have := hle; simp only [Fm.text, List.length_cons] at this; omega
      have hxu : (((vb x).toNat : Int) == ((vb u).toNat : Int)) = false := by
        rw [beq_eq_false_iff_ne]
        intro e
        exact hup.2 (vb_inj (UInt8.toNat_inj.1 (by omega)))
      have hxu2 : (((vb x).toNat : Int) != ((vb u).toNat : Int)) = true := by rw [bne, hxu]; rfl
      obtain ⟨T, hT⟩ : ∃ T, T = (Fm.text (.qu q x p)).length := ⟨_, rfl⟩
      rw [← hT] at hend hx hz hle ⊢
      have hT2 : T = p.text.length + 2 := by rw [hT]; simp [Fm.text]
      have HT := Lib.hid hT
      have Hcall := Lib.hid hcall
      have Hfree := Lib.hid hfree
      have Hend := Lib.hid hend
      have Hx := Lib.hid hx
      have Hu2 := Lib.hid hu2
      simp only [List.length_cons, List.length_nil] at huz
      clear hcall hfree hend hd hd1 hdx hx hu hup hu2 hT hn
      cases q with
      | A =>
        have hb : (s[k].toNat : Int) = 65 := by rw [hop]; rfl
        have hq0 : ∀ w, Calls Try.prog 13 #[.int .u8 65] w fun e w' => e = .returned (.bool true) ∧ w = w' := fun w => l2Quant_calls 65 true rfl w
        have Hq0 := Lib.hid hq0
        clear hop hq0
        by_cases he : x = v
        · have hev : (((vb x).toNat : Int) == ((vb v).toNat : Int)) = true := by rw [he]; exact beq_self_eq_true _
          have He := Lib.hid he
          clear he
          go_enter Try.func19, Try.ntmps19
          go_wp2_with (first | (go_at_call 13; refine (Hq0.out _).mono ?_; rintro e w' ⟨rfl, rfl⟩) | (go_at_call 11; refine (Hend.out).mono ?_; rintro e w' ⟨rfl, rfl⟩))
          (first | go_ret2 | go_ret3)
          refine ⟨ret_tri (str_eq (eq_bs ?_)) (int_eq ?_), ?_⟩
          · have h9 := Hx.out
            rw [hT2] at h9
            first | rw [Hx.out] | rw [h9]
            simp [bs_data, Fm.repl, He.out]
          · omega
          · exact Below.refl _ _
        · have hev : (((vb x).toNat : Int) == ((vb v).toNat : Int)) = false := by
            rw [beq_eq_false_iff_ne]
            intro e
            exact he (vb_inj (UInt8.toNat_inj.1 (by omega)))
          have He := Lib.hid he
          clear he
          go_enter Try.func19, Try.ntmps19
          go_upto_region 15 with (first | (go_at_call 13; refine (Hq0.out _).mono ?_; rintro e w' ⟨rfl, rfl⟩) | (go_at_call 19; refine (Hcall.out).mono ?_; rintro e w1 ⟨rfl, hb1⟩))
          go_upto_region 16 with (go_at_call 23; refine (Hfree.out _).mono ?_; rintro e w' ⟨rfl, rfl⟩)
          go_region
          all_goals
            go_wp2_with fail
            (first | go_ret2 | go_ret3)
            refine ⟨ret_tri (str_eq (eq_bs ?_)) (int_eq ?_), ?_⟩
            · simp [bs_data, Fm.repl, Fm.text, Qn.b, He.out, Hu2.out]
            · omega
            · exact hb1.drew
      | S =>
        have hb : (s[k].toNat : Int) = 83 := by rw [hop]; rfl
        have hq0 : ∀ w, Calls Try.prog 13 #[.int .u8 83] w fun e w' => e = .returned (.bool true) ∧ w = w' := fun w => l2Quant_calls 83 true rfl w
        have Hq0 := Lib.hid hq0
        clear hop hq0
        by_cases he : x = v
        · have hev : (((vb x).toNat : Int) == ((vb v).toNat : Int)) = true := by rw [he]; exact beq_self_eq_true _
          have He := Lib.hid he
          clear he
          go_enter Try.func19, Try.ntmps19
          go_wp2_with (first | (go_at_call 13; refine (Hq0.out _).mono ?_; rintro e w' ⟨rfl, rfl⟩) | (go_at_call 11; refine (Hend.out).mono ?_; rintro e w' ⟨rfl, rfl⟩))
          (first | go_ret2 | go_ret3)
          refine ⟨ret_tri (str_eq (eq_bs ?_)) (int_eq ?_), ?_⟩
          · have h9 := Hx.out
            rw [hT2] at h9
            first | rw [Hx.out] | rw [h9]
            simp [bs_data, Fm.repl, He.out]
          · omega
          · exact Below.refl _ _
        · have hev : (((vb x).toNat : Int) == ((vb v).toNat : Int)) = false := by
            rw [beq_eq_false_iff_ne]
            intro e
            exact he (vb_inj (UInt8.toNat_inj.1 (by omega)))
          have He := Lib.hid he
          clear he
          go_enter Try.func19, Try.ntmps19
          go_upto_region 15 with (first | (go_at_call 13; refine (Hq0.out _).mono ?_; rintro e w' ⟨rfl, rfl⟩) | (go_at_call 19; refine (Hcall.out).mono ?_; rintro e w1 ⟨rfl, hb1⟩))
          go_upto_region 16 with (go_at_call 23; refine (Hfree.out _).mono ?_; rintro e w' ⟨rfl, rfl⟩)
          go_region
          all_goals
            go_wp2_with fail
            (first | go_ret2 | go_ret3)
            refine ⟨ret_tri (str_eq (eq_bs ?_)) (int_eq ?_), ?_⟩
            · simp [bs_data, Fm.repl, Fm.text, Qn.b, He.out, Hu2.out]
            · omega
            · exact hb1.drew
      | c2 =>
        have hb : (s[k].toNat : Int) = 50 := by rw [hop]; rfl
        have hq0 : ∀ w, Calls Try.prog 13 #[.int .u8 50] w fun e w' => e = .returned (.bool true) ∧ w = w' := fun w => l2Quant_calls 50 true rfl w
        have Hq0 := Lib.hid hq0
        clear hop hq0
        by_cases he : x = v
        · have hev : (((vb x).toNat : Int) == ((vb v).toNat : Int)) = true := by rw [he]; exact beq_self_eq_true _
          have He := Lib.hid he
          clear he
          go_enter Try.func19, Try.ntmps19
          go_wp2_with (first | (go_at_call 13; refine (Hq0.out _).mono ?_; rintro e w' ⟨rfl, rfl⟩) | (go_at_call 11; refine (Hend.out).mono ?_; rintro e w' ⟨rfl, rfl⟩))
          (first | go_ret2 | go_ret3)
          refine ⟨ret_tri (str_eq (eq_bs ?_)) (int_eq ?_), ?_⟩
          · have h9 := Hx.out
            rw [hT2] at h9
            first | rw [Hx.out] | rw [h9]
            simp [bs_data, Fm.repl, He.out]
          · omega
          · exact Below.refl _ _
        · have hev : (((vb x).toNat : Int) == ((vb v).toNat : Int)) = false := by
            rw [beq_eq_false_iff_ne]
            intro e
            exact he (vb_inj (UInt8.toNat_inj.1 (by omega)))
          have He := Lib.hid he
          clear he
          go_enter Try.func19, Try.ntmps19
          go_upto_region 15 with (first | (go_at_call 13; refine (Hq0.out _).mono ?_; rintro e w' ⟨rfl, rfl⟩) | (go_at_call 19; refine (Hcall.out).mono ?_; rintro e w1 ⟨rfl, hb1⟩))
          go_upto_region 16 with (go_at_call 23; refine (Hfree.out _).mono ?_; rintro e w' ⟨rfl, rfl⟩)
          go_region
          all_goals
            go_wp2_with fail
            (first | go_ret2 | go_ret3)
            refine ⟨ret_tri (str_eq (eq_bs ?_)) (int_eq ?_), ?_⟩
            · simp [bs_data, Fm.repl, Fm.text, Qn.b, He.out, Hu2.out]
            · omega
            · exact hb1.drew
      | c3 =>
        have hb : (s[k].toNat : Int) = 51 := by rw [hop]; rfl
        have hq0 : ∀ w, Calls Try.prog 13 #[.int .u8 51] w fun e w' => e = .returned (.bool true) ∧ w = w' := fun w => l2Quant_calls 51 true rfl w
        have Hq0 := Lib.hid hq0
        clear hop hq0
        by_cases he : x = v
        · have hev : (((vb x).toNat : Int) == ((vb v).toNat : Int)) = true := by rw [he]; exact beq_self_eq_true _
          have He := Lib.hid he
          clear he
          go_enter Try.func19, Try.ntmps19
          go_wp2_with (first | (go_at_call 13; refine (Hq0.out _).mono ?_; rintro e w' ⟨rfl, rfl⟩) | (go_at_call 11; refine (Hend.out).mono ?_; rintro e w' ⟨rfl, rfl⟩))
          (first | go_ret2 | go_ret3)
          refine ⟨ret_tri (str_eq (eq_bs ?_)) (int_eq ?_), ?_⟩
          · have h9 := Hx.out
            rw [hT2] at h9
            first | rw [Hx.out] | rw [h9]
            simp [bs_data, Fm.repl, He.out]
          · omega
          · exact Below.refl _ _
        · have hev : (((vb x).toNat : Int) == ((vb v).toNat : Int)) = false := by
            rw [beq_eq_false_iff_ne]
            intro e
            exact he (vb_inj (UInt8.toNat_inj.1 (by omega)))
          have He := Lib.hid he
          clear he
          go_enter Try.func19, Try.ntmps19
          go_upto_region 15 with (first | (go_at_call 13; refine (Hq0.out _).mono ?_; rintro e w' ⟨rfl, rfl⟩) | (go_at_call 19; refine (Hcall.out).mono ?_; rintro e w1 ⟨rfl, hb1⟩))
          go_upto_region 16 with (go_at_call 23; refine (Hfree.out _).mono ?_; rintro e w' ⟨rfl, rfl⟩)
          go_region
          all_goals
            go_wp2_with fail
            (first | go_ret2 | go_ret3)
            refine ⟨ret_tri (str_eq (eq_bs ?_)) (int_eq ?_), ?_⟩
            · simp [bs_data, Fm.repl, Fm.text, Qn.b, He.out, Hu2.out]
            · omega
            · exact hb1.drew
      | c4 =>
        have hb : (s[k].toNat : Int) = 52 := by rw [hop]; rfl
        have hq0 : ∀ w, Calls Try.prog 13 #[.int .u8 52] w fun e w' => e = .returned (.bool true) ∧ w = w' := fun w => l2Quant_calls 52 true rfl w
        have Hq0 := Lib.hid hq0
        clear hop hq0
        by_cases he : x = v
        · have hev : (((vb x).toNat : Int) == ((vb v).toNat : Int)) = true := by rw [he]; exact beq_self_eq_true _
          have He := Lib.hid he
          clear he
          go_enter Try.func19, Try.ntmps19
          go_wp2_with (first | (go_at_call 13; refine (Hq0.out _).mono ?_; rintro e w' ⟨rfl, rfl⟩) | (go_at_call 11; refine (Hend.out).mono ?_; rintro e w' ⟨rfl, rfl⟩))
          (first | go_ret2 | go_ret3)
          refine ⟨ret_tri (str_eq (eq_bs ?_)) (int_eq ?_), ?_⟩
          · have h9 := Hx.out
            rw [hT2] at h9
            first | rw [Hx.out] | rw [h9]
            simp [bs_data, Fm.repl, He.out]
          · omega
          · exact Below.refl _ _
        · have hev : (((vb x).toNat : Int) == ((vb v).toNat : Int)) = false := by
            rw [beq_eq_false_iff_ne]
            intro e
            exact he (vb_inj (UInt8.toNat_inj.1 (by omega)))
          have He := Lib.hid he
          clear he
          go_enter Try.func19, Try.ntmps19
          go_upto_region 15 with (first | (go_at_call 13; refine (Hq0.out _).mono ?_; rintro e w' ⟨rfl, rfl⟩) | (go_at_call 19; refine (Hcall.out).mono ?_; rintro e w1 ⟨rfl, hb1⟩))
          go_upto_region 16 with (go_at_call 23; refine (Hfree.out _).mono ?_; rintro e w' ⟨rfl, rfl⟩)
          go_region
          all_goals
            go_wp2_with fail
            (first | go_ret2 | go_ret3)
            refine ⟨ret_tri (str_eq (eq_bs ?_)) (int_eq ?_), ?_⟩
            · simp [bs_data, Fm.repl, Fm.text, Qn.b, He.out, Hu2.out]
            · omega
            · exact hb1.drew
end Go.Proofs.Ytpaleogkgfclnaa

namespace Go.Proofs.Ytpaleogkgfclnaa
namespace Pl

/-- a structure -/
structure St where
  n : Nat
  set : List UInt8
  rel : List UInt8

def IsBit (b : UInt8) : Prop := b = 48 ∨ b = 49

structure St.ok (a : St) : Prop where
  lo : 1 ≤ a.n
  hi : a.n ≤ 8
  sl : a.set.length = a.n
  rl : a.rel.length = a.n * a.n
  sb : ∀ b ∈ a.set, IsBit b
  rb : ∀ b ∈ a.rel, IsBit b

/-- an element is in the set; two are related -/
def St.inS (a : St) (x : Nat) : Bool := a.set.getD x 0 == 49
def St.inR (a : St) (x y : Nat) : Bool := a.rel.getD (x * a.n + y) 0 == 49

def bitB (b : Bool) : UInt8 := if b then 49 else 48

theorem bitB_isBit (b : Bool) : IsBit (bitB b) := by cases b <;> simp [bitB, IsBit]
theorem bitB_49 (b : Bool) : (bitB b == 49) = b := by cases b <;> rfl
theorem bitB_of {b : UInt8} (h : IsBit b) : bitB (b == 49) = b := by rcases h with rfl | rfl <;> rfl
theorem bitB_inj {a b : Bool} (h : bitB a = bitB b) : a = b := by cases a <;> cases b <;> first | rfl | exact absurd h (by decide)

theorem sq_le {n : Nat} (h : n ≤ 8) : n * n ≤ 64 := Nat.mul_le_mul h h

theorem cell_lt {n x y : Nat} (hx : x < n) (hy : y < n) : x * n + y < n * n := by
  have h1 : (x + 1) * n ≤ n * n := Nat.mul_le_mul_right n hx
  rw [Nat.succ_mul] at h1
  omega

/-- the structure with some elements in the set, and some related -/
def mkSt (n : Nat) (f : Nat → Bool) (g : Nat → Nat → Bool) : St :=
  ⟨n, (List.range n).map fun x => bitB (f x), (List.range n).flatMap fun x => (List.range n).map fun y => bitB (g x y)⟩

theorem flat_get {m : Nat} (g : Nat → Nat → UInt8) : ∀ (k : Nat), ((List.range k).flatMap fun x => (List.range m).map fun y => g x y).length = k * m ∧
    ∀ x y, x < k → y < m → ((List.range k).flatMap fun x => (List.range m).map fun y => g x y)[x * m + y]? = some (g x y) := by
  intro k
  induction k with
  | zero => exact ⟨by simp, fun x y h => absurd h (Nat.not_lt_zero _)⟩
  | succ k ih =>
    obtain ⟨h1, h2⟩ := ih
    rw [List.range_succ, List.flatMap_append]
    refine ⟨by simp only [List.length_append, h1, List.flatMap_cons, List.flatMap_nil, List.append_nil, List.length_map, List.length_range, Nat.succ_mul], fun x y hx hy => ?_⟩
    by_cases hxk : x < k
    · have hlt : x * m + y < k * m := by
        have h3 : (x + 1) * m ≤ k * m := Nat.mul_le_mul_right m hxk
        rw [Nat.succ_mul] at h3
        omega
      rw [List.getElem?_append_left (by rw [h1]; exact hlt)]
      exact h2 x y hxk hy
    · obtain rfl : x = k := by omega
      rw [List.getElem?_append_right (by rw [h1]; omega), h1]
      have e : x * m + y - x * m = y := by omega
      rw [e]
      simp [hy]

theorem mkSt_n (n : Nat) (f : Nat → Bool) (g : Nat → Nat → Bool) : (mkSt n f g).n = n := rfl

theorem mkSt_inS {n : Nat} {f : Nat → Bool} {g : Nat → Nat → Bool} {x : Nat} (h : x < n) : (mkSt n f g).inS x = f x := by
  unfold St.inS mkSt
  simp only [List.getD_eq_getElem?_getD, List.getElem?_map, List.getElem?_range h, Option.map_some, Option.getD_some, bitB_49]

theorem mkSt_inR {n : Nat} {f : Nat → Bool} {g : Nat → Nat → Bool} {x y : Nat} (hx : x < n) (hy : y < n) : (mkSt n f g).inR x y = g x y := by
  have h := (flat_get (m := n) (fun x y => bitB (g x y)) n).2 x y hx hy
  unfold St.inR mkSt
  simp only [List.getD_eq_getElem?_getD, h, Option.getD_some, bitB_49]

theorem mkSt_ok {n : Nat} {f : Nat → Bool} {g : Nat → Nat → Bool} (h1 : 1 ≤ n) (h8 : n ≤ 8) : (mkSt n f g).ok where
  lo := h1
  hi := h8
  sl := by simp [mkSt]
  rl := (flat_get (m := n) (fun x y => bitB (g x y)) n).1
  sb := by
    intro b hb
    simp only [mkSt, List.mem_map] at hb
    obtain ⟨x, _, rfl⟩ := hb
    exact bitB_isBit _
  rb := by
    intro b hb
    simp only [mkSt, List.mem_flatMap, List.mem_map] at hb
    obtain ⟨x, _, y, _, rfl⟩ := hb
    exact bitB_isBit _

theorem St.ext' {a b : St} (ha : a.ok) (hb : b.ok) (hn : a.n = b.n) (hs : ∀ x, x < a.n → a.inS x = b.inS x) (hr : ∀ x y, x < a.n → y < a.n → a.inR x y = b.inR x y) : a = b := by
  have key : ∀ (l m : List UInt8), l.length = m.length → (∀ c ∈ l, IsBit c) → (∀ c ∈ m, IsBit c) → (∀ i, i < l.length → (l.getD i 0 == 49) = (m.getD i 0 == 49)) → l = m := by
    intro l m hl h1 h2 h
    apply List.ext_getElem hl
    intro i hi hi2
    have h3 := h i hi
    have e1 : l.getD i 0 = l[i] := by simp [List.getD, hi]
    have e2 : m.getD i 0 = m[i] := by simp [List.getD, hi2]
    rw [e1, e2] at h3
    rw [← bitB_of (h1 _ (List.getElem_mem hi)), ← bitB_of (h2 _ (List.getElem_mem hi2)), h3]
  obtain ⟨n, s, r⟩ := a
  obtain ⟨n', s', r'⟩ := b
  have hn' : n = n' := hn
  subst hn'
  have hsl : s.length = n := ha.sl
  have hrl : r.length = n * n := ha.rl
  have hlo : 1 ≤ n := ha.lo
  have e1 : s = s' := key s s' (ha.sl.trans hb.sl.symm) ha.sb hb.sb (fun i hi => hs i (show i < n by omega))
  have e2 : r = r' := key r r' (ha.rl.trans hb.rl.symm) ha.rb hb.rb (fun i hi => by
    have h4 : ((r.getD (i / n * n + i % n) 0) == 49) = ((r'.getD (i / n * n + i % n) 0) == 49) := hr (i / n) (i % n) (show i / n < n from Nat.div_lt_of_lt_mul (by omega)) (show i % n < n from Nat.mod_lt _ (by omega))
    have e : i / n * n + i % n = i := by rw [Nat.mul_comm]; exact Nat.div_add_mod i n
    rw [e] at h4
    exact h4)
  subst e1 e2
  rfl

theorem mkSt_self {a : St} (ha : a.ok) : mkSt a.n a.inS a.inR = a :=
  St.ext' (mkSt_ok ha.lo ha.hi) ha rfl (fun _ h => mkSt_inS h) (fun _ _ hx hy => mkSt_inR hx hy)

theorem inS_get {a : St} (ha : a.ok) {x : Nat} (hx : x < a.n) : ∃ h : x < a.set.length, a.set[x] = bitB (a.inS x) := by
  have hl : x < a.set.length := by rw [ha.sl]; exact hx
  refine ⟨hl, ?_⟩
  unfold St.inS
  have e1 : a.set.getD x 0 = a.set[x] := by simp [List.getD, hl]
  rw [e1, bitB_of (ha.sb _ (List.getElem_mem hl))]

theorem inR_get {a : St} (ha : a.ok) {x y : Nat} (hx : x < a.n) (hy : y < a.n) : ∃ h : x * a.n + y < a.rel.length, a.rel[x * a.n + y] = bitB (a.inR x y) := by
  have hl : x * a.n + y < a.rel.length := by rw [ha.rl]; exact cell_lt hx hy
  refine ⟨hl, ?_⟩
  unfold St.inR
  have e1 : a.rel.getD (x * a.n + y) 0 = a.rel[x * a.n + y] := by simp [List.getD, hl]
  rw [e1, bitB_of (ha.rb _ (List.getElem_mem hl))]

/-! ### the operations -/

def St.part (a : St) (l : List Nat) : St := mkSt l.length (fun x => a.inS (l.getD x 0)) (fun x y => a.inR (l.getD x 0) (l.getD y 0))
def St.other (a : St) : St := mkSt a.n (fun x => !a.inS x) (fun x y => !a.inR x y)
def St.turn (a : St) : St := mkSt a.n a.inS (fun x y => a.inR y x)

/-- the reference's l1Flip -/
def flipL (l : List UInt8) : List UInt8 := l.map fun b => bitB (b == 48)

theorem flip_bit {b : UInt8} (h : IsBit b) : bitB (b == 48) = bitB (!(b == 49)) := by rcases h with rfl | rfl <;> rfl

theorem other_set {a : St} (ha : a.ok) : a.other.set = flipL a.set := by
  unfold St.other mkSt flipL
  simp only
  apply List.ext_getElem (by simp [ha.sl])
  intro i h1 h2
  simp only [List.length_map, List.length_range] at h1
  obtain ⟨hl, e⟩ := inS_get ha h1
  simp only [List.getElem_map, List.getElem_range]
  rw [flip_bit (ha.sb _ (List.getElem_mem hl)), e, bitB_49]

theorem other_rel {a : St} (ha : a.ok) : a.other.rel = flipL a.rel := by
  have hok := mkSt_ok (f := fun x => !a.inS x) (g := fun x y => !a.inR x y) ha.lo ha.hi
  have hfl : (St.mk a.n (flipL a.set) (flipL a.rel)).ok := {
    lo := ha.lo, hi := ha.hi, sl := by simp [flipL, ha.sl], rl := by simp [flipL, ha.rl]
    sb := by intro b hb; simp only [flipL, List.mem_map] at hb; obtain ⟨x, _, rfl⟩ := hb; exact bitB_isBit _
    rb := by intro b hb; simp only [flipL, List.mem_map] at hb; obtain ⟨x, _, rfl⟩ := hb; exact bitB_isBit _ }
  have : mkSt a.n (fun x => !a.inS x) (fun x y => !a.inR x y) = St.mk a.n (flipL a.set) (flipL a.rel) := by
    refine St.ext' hok hfl rfl (fun x hx0 => ?_) (fun x y hx hy => ?_)
    · have hx : x < a.n := hx0
      rw [mkSt_inS hx]
      obtain ⟨hl, e⟩ := inS_get ha hx
      have e1 : (flipL a.set).getD x 0 = bitB (a.set[x] == 48) := by simp [flipL, List.getD, hl]
      show (!a.inS x) = ((flipL a.set).getD x 0 == 49)
      rw [e1, bitB_49, e]
      cases a.inS x <;> rfl
    · have hx' : x < a.n := hx
      have hy' : y < a.n := hy
      rw [mkSt_inR hx' hy']
      obtain ⟨hl, e⟩ := inR_get ha hx' hy'
      have e1 : (flipL a.rel).getD (x * a.n + y) 0 = bitB (a.rel[x * a.n + y] == 48) := by simp [flipL, List.getD, hl]
      show (!a.inR x y) = ((flipL a.rel).getD (x * a.n + y) 0 == 49)
      rw [e1, bitB_49, e]
      cases a.inR x y <;> rfl
  unfold St.other
  rw [this]

end Pl
end Go.Proofs.Ytpaleogkgfclnaa

namespace Go.Proofs.Ytpaleogkgfclnaa
namespace Pl

/-- an element behind an order is to the elements as the next element of the other structure -/
def fitsB (a b : St) (o : List Nat) (x : Nat) : Bool :=
  a.inS x == b.inS o.length && a.inR x x == b.inR o.length o.length && (List.range o.length).all fun k => a.inR x (o.getD k 0) == b.inR o.length k && a.inR (o.getD k 0) x == b.inR k o.length

/-- the element can be placed next -/
def nextB (a b : St) (o : List Nat) (x : Nat) : Bool := !o.contains x && fitsB a b o x

/-- all orders that begin with one, m elements more -/
def shapes (a b : St) : Nat → List Nat → List (List Nat)
  | 0, o => [o]
  | m + 1, o => (List.range a.n).flatMap fun x => if nextB a b o x then shapes a b m (o ++ [x]) else []

/-- some elements of a are to each other as the first ones of b -/
structure Fits (a b : St) (o : List Nat) : Prop where
  nodup : o.Nodup
  lt : ∀ x ∈ o, x < a.n
  set : ∀ i, i < o.length → a.inS (o.getD i 0) = b.inS i
  rel : ∀ i j, i < o.length → j < o.length → a.inR (o.getD i 0) (o.getD j 0) = b.inR i j

theorem Fits.nil (a b : St) : Fits a b [] := ⟨by simp, by simp, fun i h => absurd h (Nat.not_lt_zero _), fun i j h => absurd h (Nat.not_lt_zero _)⟩

theorem getD_snoc_lt {o : List Nat} {x i : Nat} (h : i < o.length) : (o ++ [x]).getD i 0 = o.getD i 0 := by
  simp [List.getD, List.getElem?_append_left h]
theorem getD_snoc_eq {o : List Nat} {x : Nat} : (o ++ [x]).getD o.length 0 = x := by
  simp [List.getD]

theorem fits_snoc {a b : St} {o : List Nat} {x : Nat} : Fits a b (o ++ [x]) ↔ Fits a b o ∧ x < a.n ∧ nextB a b o x = true := by
  unfold nextB fitsB
  simp only [Bool.and_eq_true, Bool.not_eq_true', List.contains_eq_mem, decide_eq_false_iff_not, beq_iff_eq, List.all_eq_true, List.mem_range]
  constructor
  · intro h
    have hnd := h.nodup
    rw [List.nodup_append] at hnd
    obtain ⟨h1, _, h3⟩ := hnd
    refine ⟨⟨h1, fun y hy => h.lt y (by simp [hy]), fun i hi => ?_, fun i j hi hj => ?_⟩, h.lt x (by simp), fun hx => h3 x hx x (by simp) rfl, ⟨?_, ?_⟩, fun k hk => ⟨?_, ?_⟩⟩
    · have := h.set i (by simp; omega)
      rwa [getD_snoc_lt hi] at this
    · have := h.rel i j (by simp; omega) (by simp; omega)
      rwa [getD_snoc_lt hi, getD_snoc_lt hj] at this
    · have := h.set o.length (by simp)
      rwa [getD_snoc_eq] at this
    · have := h.rel o.length o.length (by simp) (by simp)
      rwa [getD_snoc_eq] at this
    · have := h.rel o.length k (by simp) (by simp; omega)
      rwa [getD_snoc_eq, getD_snoc_lt hk] at this
    · have := h.rel k o.length (by simp; omega) (by simp)
      rwa [getD_snoc_eq, getD_snoc_lt hk] at this
  · rintro ⟨h, hx, hn, ⟨hs, hr⟩, hk⟩
    refine ⟨?_, ?_, fun i hi => ?_, fun i j hi hj => ?_⟩
    · rw [List.nodup_append]
      exact ⟨h.nodup, by simp, fun y hy z hz => by simp only [List.mem_singleton] at hz; subst hz; rintro rfl; exact hn hy⟩
    · intro y hy
      rcases List.mem_append.1 hy with hy | hy
      · exact h.lt y hy
      · simp only [List.mem_singleton] at hy; subst hy; exact hx
    · simp only [List.length_append, List.length_singleton] at hi
      by_cases e : i = o.length
      · subst e; rw [getD_snoc_eq]; exact hs
      · rw [getD_snoc_lt (by omega)]; exact h.set i (by omega)
    · simp only [List.length_append, List.length_singleton] at hi hj
      by_cases e : i = o.length
      · subst e
        by_cases e2 : j = o.length
        · subst e2; rw [getD_snoc_eq]; exact hr
        · rw [getD_snoc_eq, getD_snoc_lt (by omega)]; exact (hk j (by omega)).1
      · by_cases e2 : j = o.length
        · subst e2; rw [getD_snoc_eq, getD_snoc_lt (by omega)]; exact (hk i (by omega)).2
        · rw [getD_snoc_lt (by omega), getD_snoc_lt (by omega)]; exact h.rel i j (by omega) (by omega)

theorem Fits.prefix {a b : St} {o : List Nat} : ∀ (t : List Nat), Fits a b (o ++ t) → Fits a b o := by
  intro t
  induction t generalizing o with
  | nil => intro h; simpa using h
  | cons x t ih =>
    intro h
    have h2 : Fits a b ((o ++ [x]) ++ t) := by simpa using h
    exact (fits_snoc.1 (ih h2)).1

theorem mem_shapes {a b : St} : ∀ (m : Nat) (o l : List Nat), Fits a b o → (l ∈ shapes a b m o ↔ ∃ t, l = o ++ t ∧ t.length = m ∧ Fits a b l) := by
  intro m
  induction m with
  | zero =>
    intro o l h
    simp only [shapes, List.mem_singleton]
    constructor
    · rintro rfl; exact ⟨[], by simp, rfl, h⟩
    · rintro ⟨t, rfl, ht, _⟩; rw [List.eq_nil_of_length_eq_zero ht]; simp
  | succ m ih =>
    intro o l h
    simp only [shapes, List.mem_flatMap, List.mem_range]
    constructor
    · rintro ⟨x, hx, hl⟩
      by_cases hn : nextB a b o x = true
      · rw [if_pos hn] at hl
        obtain ⟨t, rfl, ht, hf⟩ := (ih _ _ (fits_snoc.2 ⟨h, hx, hn⟩)).1 hl
        exact ⟨x :: t, by simp, by simp [ht], hf⟩
      · rw [if_neg hn] at hl; cases hl
    · rintro ⟨t, rfl, ht, hf⟩
      match t, ht with
      | x :: t, ht =>
        have h2 : Fits a b ((o ++ [x]) ++ t) := by simpa using hf
        have h3 := fits_snoc.1 (Fits.prefix t h2)
        refine ⟨x, h3.2.1, ?_⟩
        rw [if_pos h3.2.2]
        exact (ih _ _ (Fits.prefix t h2)).2 ⟨t, by simp, by simpa using ht, hf⟩

theorem shapes_nodup {a b : St} : ∀ (m : Nat) (o : List Nat), Fits a b o → (shapes a b m o).Nodup := by
  intro m
  induction m with
  | zero => intro o _; simp [shapes]
  | succ m ih =>
    intro o h
    simp only [shapes]
    have key : ∀ (xs : List Nat), xs.Nodup → (∀ x ∈ xs, x < a.n) → (xs.flatMap fun x => if nextB a b o x then shapes a b m (o ++ [x]) else []).Nodup := by
      intro xs
      induction xs with
      | nil => intro _ _; simp
      | cons x xs ihx =>
        intro hnd hlt
        rw [List.flatMap_cons, List.nodup_append]
        obtain ⟨h1, h2⟩ := List.nodup_cons.1 hnd
        refine ⟨?_, ihx h2 (fun y hy => hlt y (by simp [hy])), ?_⟩
        · by_cases hn : nextB a b o x = true
          · rw [if_pos hn]; exact ih _ (fits_snoc.2 ⟨h, hlt x (by simp), hn⟩)
          · rw [if_neg hn]; simp
        · rintro l hl m' hm rfl
          by_cases hn : nextB a b o x = true
          · rw [if_pos hn] at hl
            obtain ⟨t, rfl, _, _⟩ := (mem_shapes m _ _ (fits_snoc.2 ⟨h, hlt x (by simp), hn⟩)).1 hl
            rw [List.mem_flatMap] at hm
            obtain ⟨y, hy, hm⟩ := hm
            by_cases hn2 : nextB a b o y = true
            · rw [if_pos hn2] at hm
              obtain ⟨t2, e, _, _⟩ := (mem_shapes m _ _ (fits_snoc.2 ⟨h, hlt y (by simp [hy]), hn2⟩)).1 hm
              have e2 : x = y := by simpa using congrArg (fun l => l.getD o.length 0) e
              subst e2
              exact h1 hy
            · rw [if_neg hn2] at hm; cases hm
          · rw [if_neg hn] at hl; cases hl
    exact key _ List.nodup_range (fun x hx => List.mem_range.1 hx)

/-- all orders that turn a into b -/
def isos (a b : St) : List (List Nat) := shapes a b a.n []

theorem mem_isos {a b : St} {l : List Nat} : l ∈ isos a b ↔ l.length = a.n ∧ Fits a b l := by
  unfold isos
  rw [mem_shapes _ _ _ (Fits.nil a b)]
  constructor
  · rintro ⟨t, rfl, ht, hf⟩; exact ⟨by simpa using ht, hf⟩
  · rintro ⟨ht, hf⟩; exact ⟨l, by simp, ht, hf⟩

theorem isos_nodup (a b : St) : (isos a b).Nodup := shapes_nodup _ _ (Fits.nil a b)

end Pl
end Go.Proofs.Ytpaleogkgfclnaa

namespace Go.Proofs.Ytpaleogkgfclnaa
open Go.RowKit
open Pl
set_option linter.unusedSimpArgs false

theorem bcell {W w1 : World} (hb : Below W.heap.size W w1) : (∀ b o, b < W.heap.size → w1.cell? ⟨b, o, none⟩ = W.cell? ⟨b, o, none⟩) ∧ (∀ b o, b < W.heap.size → w1.frozen? ⟨b, o, none⟩ = W.frozen? ⟨b, o, none⟩) :=
  ⟨fun b o h => hb.cell (p := ⟨b, o, none⟩) h, fun b o h => hb.frozen (p := ⟨b, o, none⟩) h⟩

/-- a box of three cells behind a call -/
theorem box3 {w wN : World} {a b c : Value} {t : TypeId} (h : Below (w.heap.size + 1) (w.alloc (.cells #[a, b, c] t)) wN) :
    wN.cell? ⟨w.heap.size, 0, none⟩ = some a ∧ wN.cell? ⟨w.heap.size, 1, none⟩ = some b ∧ wN.cell? ⟨w.heap.size, 2, none⟩ = some c := by
  have hk : ∀ o, wN.cell? ⟨w.heap.size, o, none⟩ = (w.alloc (.cells #[a, b, c] t)).cell? ⟨w.heap.size, o, none⟩ := fun o => h.cell (p := ⟨w.heap.size, o, none⟩) (Nat.lt_succ_self _)
  refine ⟨?_, ?_, ?_⟩ <;> rw [hk] <;> simp

theorem box_down {w wN : World} {o : Obj} (h : Below (w.heap.size + 1) (w.alloc o) wN) : Below w.heap.size w wN :=
  ((Below.refl w.heap.size w).alloc (Nat.le_refl _) o).trans (h.mono (Nat.le_succ _))

theorem box_refl (w : World) (o : Obj) : Below (w.heap.size + 1) (w.alloc o) (w.alloc o) := Below.refl _ _

theorem box_next {w w1 w2 : World} {o : Obj} (h : Below (w.heap.size + 1) (w.alloc o) w1) (h2 : Below w1.heap.size w1 w2) : Below (w.heap.size + 1) (w.alloc o) w2 :=
  h.trans (h2.mono (by have := h.size; simpa using this))

/-- all bytes are bits -/
def bitsL (l : List UInt8) : Bool := l.all fun b => b == 48 || b == 49

theorem dropWhile_nil {α : Type} (p : α → Bool) : ∀ l : List α, l.dropWhile p = [] ↔ l.all p = true := by
  intro l
  induction l with
  | nil => simp
  | cons x l ih =>
    by_cases h : p x = true
    · simp [List.dropWhile_cons, h, ih]
    · simp [List.dropWhile_cons, h]

theorem dropWhile_all {α : Type} (p : α → Bool) : ∀ l : List α, (l.dropWhile p).all p = l.all p := by
  intro l
  induction l with
  | nil => rfl
  | cons x l ih =>
    by_cases h : p x = true
    · simp [List.dropWhile_cons, h, ih]
    · simp [List.dropWhile_cons, h]

theorem trim_bits (l : List UInt8) : Lib.trimS l [48, 49] = [] ↔ bitsL l = true := by
  have hp : ∀ b : UInt8, ([48, 49] : List UInt8).contains b = (b == 48 || b == 49) := fun b => by
    simp only [List.contains_cons, List.contains_nil, Bool.or_false]
  have e : Lib.trimS l [48, 49] = ((l.reverse.dropWhile fun b => b == 48 || b == 49).reverse).dropWhile fun b => b == 48 || b == 49 := by
    unfold Lib.trimS Lib.trimLeftS Lib.trimRightS
    simp only [hp]
  rw [e, dropWhile_nil, List.all_reverse, dropWhile_all, List.all_reverse]
  rfl

/-- a text has n bytes that are bits -/
def bitsB (s : ByteArray) (n : Int) : Bool := decide ((s.size : Int) = n) && bitsL s.data.toList

end Go.Proofs.Ytpaleogkgfclnaa

namespace Go.Proofs.Ytpaleogkgfclnaa
open Go.RowKit
open Pl
set_option linter.unusedSimpArgs false
set_option linter.unusedVariables false

/-- a structure in Go -/
abbrev stV (i : Int) (s r : ByteArray) : Value := .agg #[.int .i64 i, .string s, .string r]

/-- a structure is valid -/
def okB (i : Int) (s r : ByteArray) : Bool := decide (1 ≤ i) && (decide (i ≤ 8) && (bitsB s i && bitsB r (i * i)))

theorem sq_bd {i : Int} (h1 : 1 ≤ i) (h2 : i ≤ 8) : 1 ≤ i * i ∧ i * i ≤ 64 := by
  have : i = 1 ∨ i = 2 ∨ i = 3 ∨ i = 4 ∨ i = 5 ∨ i = 6 ∨ i = 7 ∨ i = 8 := by omega
  rcases this with rfl | rfl | rfl | rfl | rfl | rfl | rfl | rfl <;> decide

theorem bits_get (s : ByteArray) (k : Nat) (h : k < s.size) : bitsL (s.data.toList.take (k + 1)) = (bitsL (s.data.toList.take k) && (s[k] == 48 || s[k] == 49)) := by
  unfold bitsL
  rw [List.take_succ_eq_append_getElem (by simpa using h), List.all_append]
  simp [List.all_cons]
  rfl

theorem bits_no (s : ByteArray) (k : Nat) (h : k < s.size) (hb : (s[k] == 48 || s[k] == 49) = false) : bitsL s.data.toList = false := by
  rw [Bool.eq_false_iff]
  intro e
  unfold bitsL at e
  have := List.all_eq_true.1 e s[k] (by rw [show s[k] = s.data.toList[k]'(by simpa using h) from rfl]; exact List.getElem_mem _)
  rw [hb] at this
  cases this

theorem bit_ne {b : UInt8} {m : Int} {c : UInt8} (hm : m = c.toNat) : ((b.toNat : Int) == m) = (b == c) := by
  subst hm
  rw [Bool.eq_iff_iff, beq_iff_eq, beq_iff_eq]
  exact ⟨fun h => UInt8.toNat_inj.1 (by omega), fun h => by rw [h]⟩

end Go.Proofs.Ytpaleogkgfclnaa

namespace Go.Proofs.Ytpaleogkgfclnaa
open Go.RowKit
open Pl
set_option linter.unusedSimpArgs false
set_option linter.unusedVariables false

/-- a valid structure in Go -/
abbrev stA (a : St) : Value := stV (a.n : Int) (bs a.set) (bs a.rel)

theorem bitsL_iff (l : List UInt8) : bitsL l = true ↔ ∀ b ∈ l, IsBit b := by
  unfold bitsL IsBit
  rw [List.all_eq_true]
  simp only [Bool.or_eq_true, beq_iff_eq]

theorem okB_true {a : St} (h : a.ok) : okB (a.n : Int) (bs a.set) (bs a.rel) = true := by
  have h1 := h.lo; have h8 := h.hi
  unfold okB bitsB
  rw [decide_eq_true (show (1 : Int) ≤ a.n by omega), decide_eq_true (show (a.n : Int) ≤ 8 by omega), bs_data, bs_data, (bitsL_iff _).2 h.sb, (bitsL_iff _).2 h.rb, bs_size, bs_size, h.sl, h.rl]
  simp

theorem ok_cases (i : Int) (s r : ByteArray) : okB i s r = false ∨ ∃ a : St, a.ok ∧ i = a.n ∧ s = bs a.set ∧ r = bs a.rel := by
  cases hb : okB i s r with
  | false => exact .inl rfl
  | true =>
    right
    unfold okB bitsB at hb
    simp only [Bool.and_eq_true, decide_eq_true_eq] at hb
    obtain ⟨h1, h8, ⟨h2, h3⟩, h4, h5⟩ := hb
    have hn : i = (i.toNat : Int) := by omega
    refine ⟨⟨i.toNat, s.data.toList, r.data.toList⟩, ⟨by show 1 ≤ i.toNat; omega, by show i.toNat ≤ 8; omega, ?_, ?_, (bitsL_iff _).1 h3, (bitsL_iff _).1 h5⟩, hn, (bs_of s).symm, (bs_of r).symm⟩
    · show s.data.toList.length = i.toNat
      rw [← Lib.size_eq]; omega
    · show r.data.toList.length = i.toNat * i.toNat
      rw [← Lib.size_eq]
      rw [hn] at h4
      have : ((i.toNat * i.toNat : Nat) : Int) = (i.toNat : Int) * (i.toNat : Int) := by simp
      omega

theorem bs_get (l : List UInt8) (k : Nat) (h : k < l.length) : ∃ h2 : k < (bs l).size, (bs l)[k] = l[k] := ⟨by rw [bs_size]; exact h, rfl⟩

theorem bit_49 (b : Bool) : (((bitB b).toNat : Int) == 49) = b := by cases b <;> rfl

/-- what a walk asks of the set's byte -/
theorem set_byte {a : St} (h : a.ok) {x : Nat} (hx : x < a.n) : ∃ S : ByteArray, S = bs a.set ∧ ∃ h2 : x < S.size, ((S[x].toNat : Int) == 49) = a.inS x := by
  obtain ⟨hl, hg⟩ := inS_get h hx
  refine ⟨_, rfl, by rw [bs_size]; exact hl, ?_⟩
  show ((a.set[x].toNat : Int) == 49) = _
  rw [hg, bit_49]

theorem rel_byte {a : St} (h : a.ok) {x y : Nat} (hx : x < a.n) (hy : y < a.n) : ∃ (R : ByteArray) (m : Nat), R = bs a.rel ∧ IntKind.i64.wrap ((x : Int) * (a.n : Int)) = m ∧ m ≤ 64 ∧ R.size ≤ 64 ∧ ∃ h2 : m + y < R.size, ((R[m + y].toNat : Int) == 49) = a.inR x y := by
  obtain ⟨hl, hg⟩ := inR_get h hx hy
  have h8 := sq_le h.hi
  have hrl := h.rl
  refine ⟨_, x * a.n, rfl, ?_, by omega, by rw [bs_size]; omega, by rw [bs_size]; exact hl, ?_⟩
  · rw [show ((x : Int) * (a.n : Int)) = ((x * a.n : Nat) : Int) by simp]
    exact IntWalk.i64_in _ (by omega)
  · show ((a.rel[x * a.n + y].toNat : Int) == 49) = _
    rw [hg, bit_49]

/-- a number is an element -/
def elB (i x : Int) : Bool := decide (0 ≤ x) && decide (x < i)

end Go.Proofs.Ytpaleogkgfclnaa

namespace Go.Proofs.Ytpaleogkgfclnaa
open Go.RowKit
open Pl
set_option linter.unusedSimpArgs false
set_option linter.unusedVariables false

/-- the structure that is meant -/
def ofSt (i : Int) (s r : ByteArray) : St := ⟨i.toNat, s.data.toList, r.data.toList⟩
theorem ofSt_eq (a : St) : ofSt (a.n : Int) (bs a.set) (bs a.rel) = a := rfl

def inSetV (i : Int) (s r : ByteArray) (x : Int) : Bool := okB i s r && (elB i x && (ofSt i s r).inS x.toNat)
def inRelV (i : Int) (s r : ByteArray) (x y : Int) : Bool := okB i s r && (elB i x && (elB i y && (ofSt i s r).inR x.toNat y.toNat))

theorem el_cases (n : Nat) (x : Int) : elB n x = false ∨ ∃ k : Nat, x = k ∧ k < n ∧ elB n x = true := by
  cases h : elB n x with
  | false => exact .inl rfl
  | true =>
    right
    unfold elB at h
    simp only [Bool.and_eq_true, decide_eq_true_eq] at h
    exact ⟨x.toNat, by omega, by omega, rfl⟩

theorem el_in {n : Nat} {x : Int} (h : 1 ≤ n) : (decide (0 ≤ x) && decide (x ≤ (n : Int) - 1)) = elB n x := by
  unfold elB
  rw [show decide (x ≤ (n : Int) - 1) = decide (x < (n : Int)) from by rw [decide_eq_decide]; omega]

theorem st_bounds {a : St} (ha : a.ok) : (bs a.set).size ≤ maxLen ∧ (bs a.rel).size ≤ maxLen := by
  have h8 := ha.hi; have h1 := ha.sl; have h2 := ha.rl; have h3 := sq_le h8
  rw [bs_size, bs_size]
  unfold maxLen
  constructor <;> omega

end Go.Proofs.Ytpaleogkgfclnaa

namespace Go.Proofs.Ytpaleogkgfclnaa
open Go.RowKit
open Pl
set_option linter.unusedSimpArgs false
set_option linter.unusedVariables false

/-- the set's bits up to k, the relation's bits up to row k, up to place j of row k -/
def setTo (f : Nat → Bool) (k : Nat) : List UInt8 := (List.range k).map fun x => bitB (f x)
def relTo (n : Nat) (g : Nat → Nat → Bool) (k : Nat) : List UInt8 := (List.range k).flatMap fun x => (List.range n).map fun y => bitB (g x y)
def relAt (n : Nat) (g : Nat → Nat → Bool) (k j : Nat) : List UInt8 := relTo n g k ++ (List.range j).map fun y => bitB (g k y)

theorem setTo_succ (f : Nat → Bool) (k : Nat) : setTo f (k + 1) = setTo f k ++ [bitB (f k)] := by simp [setTo, List.range_succ]
theorem relAt_succ (n : Nat) (g : Nat → Nat → Bool) (k j : Nat) : relAt n g k (j + 1) = relAt n g k j ++ [bitB (g k j)] := by simp [relAt, List.range_succ]
theorem relAt_zero (n : Nat) (g : Nat → Nat → Bool) (k : Nat) : relAt n g k 0 = relTo n g k := by simp [relAt]
theorem relTo_succ (n : Nat) (g : Nat → Nat → Bool) (k : Nat) : relTo n g (k + 1) = relAt n g k n := by simp [relTo, relAt, List.range_succ]
theorem setTo_len (f : Nat → Bool) (k : Nat) : (setTo f k).length = k := by simp [setTo]
theorem relTo_len (n : Nat) (g : Nat → Nat → Bool) (k : Nat) : (relTo n g k).length = k * n := (flat_get (fun x y => bitB (g x y)) k).1
theorem relAt_len (n : Nat) (g : Nat → Nat → Bool) (k j : Nat) : (relAt n g k j).length = k * n + j := by simp [relAt, relTo_len]

theorem enter_of {P : Program} {F : FuncId} {fn : Func} (hf : P.funcs[F]? = some fn) (hn : (fn.name == "runtime.NumGoroutine") = false) (hb : fn.body.isNone = false) : ∀ (args : Array Value) (w : World), (callFunc F args).run P w = .ok (.enter F args) w := by
  intro args w
  have hn2 : ¬ fn.name = "runtime.NumGoroutine" := beq_eq_false_iff_ne.1 hn
  have hb2 : ¬ fn.body = none := by intro e; rw [e] at hb; cases hb
  simp [callFunc, hf, hn2, hb2]

/-- a block that is known whole -/
def Bx (w : World) (g : Nat) (t : TypeId) (cs : Array Value) : Prop := w.heap[g]? = some (.cells cs t (0, 0))

theorem Bx.lt {w : World} {g : Nat} {t : TypeId} {cs : Array Value} (h : Bx w g t cs) : g < w.heap.size := by
  rcases Nat.lt_or_ge g w.heap.size with h1 | h1
  · exact h1
  · unfold Bx at h; rw [Array.getElem?_eq_none h1] at h; cases h
theorem Bx.cell {w : World} {g : Nat} {t : TypeId} {cs : Array Value} (h : Bx w g t cs) (i : Nat) : w.cell? ⟨g, i, none⟩ = cs[i]? := by
  unfold Bx at h; simp [World.cell?, h]
theorem Bx.free {w : World} {g : Nat} {t : TypeId} {cs : Array Value} (h : Bx w g t cs) (i : Nat) : w.frozen? ⟨g, i, none⟩ = false := by
  unfold Bx at h; simp [World.frozen?, h]
theorem Bx.new (w : World) (t : TypeId) (cs : Array Value) : Bx (w.alloc (.cells cs t)) w.heap.size t cs := heap_alloc_new w _
theorem bx_two (w : World) (o : Obj) (cs : Array Value) {t : TypeId} : Bx ((w.alloc o).alloc (.cells cs t)) (w.heap.size + 1) t cs := by
  have h := Bx.new (w.alloc o) t cs
  rwa [World.size_alloc] at h
theorem Bx.alloc {w : World} {g : Nat} {t : TypeId} {cs : Array Value} (h : Bx w g t cs) (o : Obj) : Bx (w.alloc o) g t cs := (Below.heap_alloc w o g h.lt).trans h
theorem Bx.drew {w : World} {g : Nat} {t : TypeId} {cs : Array Value} (h : Bx w g t cs) : Bx w.drew g t cs := h
theorem Bx.drewN {w : World} {g : Nat} {t : TypeId} {cs : Array Value} (h : Bx w g t cs) (k : Nat) : Bx (w.drewN k) g t cs := h
theorem Bx.below {w w' : World} {g B : Nat} {t : TypeId} {cs : Array Value} (h : Bx w g t cs) (hb : Below B w w') (hg : g < B) : Bx w' g t cs := (hb.block g hg).trans h
theorem Bx.call {w w' : World} {g : Nat} {t : TypeId} {cs : Array Value} (h : Bx w g t cs) (hb : Below w.heap.size w w') : Bx w' g t cs := h.below hb h.lt
theorem Bx.set {w : World} {g : Nat} {t : TypeId} {cs : Array Value} (h : Bx w g t cs) (i : Nat) (u : Value) : Bx (w.setCell ⟨g, i, none⟩ u) g t (cs.setIfInBounds i u) := by
  unfold Bx at h ⊢
  simp [World.setCell, Array.getElem?_modify, h]
theorem Bx.far {w : World} {g : Nat} {t : TypeId} {cs : Array Value} (h : Bx w g t cs) {p : Addr} (hp : g ≠ p.block) (u : Value) : Bx (w.setCell p u) g t cs := (Below.heap_setCell w p u g hp).trans h

end Go.Proofs.Ytpaleogkgfclnaa

namespace Go.Proofs.Ytpaleogkgfclnaa
open Go.RowKit
set_option linter.unusedVariables false

section
variable {P : Program} {ops : Array Oper} {Q : Exit → Act → World → Prop} {md : Region.Mode} {S : World → Prop}

/-- the order laid: numbers that are taken first where they yield, numbers that alone may come up -/
def schedOk (md : Region.Mode) (ops : Array Oper) : List (Nat × Bool) → Array Bool → Bool
  | [], listed => (Region.ready md ops listed).isEmpty
  | (i, true) :: is, listed => Region.free md ops listed i && ((Region.ready md ops listed).contains i && schedOk md ops is (listed.setIfInBounds i true))
  | (i, false) :: is, listed => (Region.ready md ops listed == [i]) && schedOk md ops is (listed.setIfInBounds i true)

def wpSched (P : Program) (ops : Array Oper) (Q : Exit → Act → World → Prop) (S : World → Prop) : List (Nat × Bool) → Act → World → Prop
  | [], a, w => Q .normal a w
  | (i, true) :: is, a, w => ∃ o v, ops[i]? = some o ∧ YieldsIf P ops S o v a ∧ wpSched P ops Q S is (a.put o.dst v) w
  | (i, false) :: is, a, w => wpOp P ops Q i (fun a' w' => S w' ∧ wpSched P ops Q S is a' w') a w

theorem wpAnyH_sched (hs : Region.noSelect ops = true) (hQ : ∀ t c a w, Q (.panic c) { a with tmps := t } w → Q (.panic c) a w) :
    ∀ (is : List (Nat × Bool)) (listed : Array Bool) (a : Act) (w : World), schedOk md ops is listed = true → S w → wpSched P ops Q S is a w → wpAnyH P md ops Q S is.length listed a w := by
  intro is
  induction is with
  | nil => intro listed a w h _ hw; exact ⟨by simpa [schedOk] using h, hw⟩
  | cons p is ih =>
    obtain ⟨i, b⟩ := p
    intro listed a w h hS hw
    cases b with
    | true =>
      simp only [schedOk, Bool.and_eq_true] at h
      obtain ⟨o, v, ho, hy, hr⟩ := hw
      exact wpAnyH_take ho hs h.1 h.2.1 (fun c a w h => by cases hd : o.dst with | none => rw [hd] at h; exact h | some d => rw [hd] at h; exact hQ _ c a w h) hy hS (ih _ _ _ h.2.2 hS hr)
    | false =>
      simp only [schedOk, Bool.and_eq_true, beq_iff_eq] at h
      refine wpAnyH_all h.1 (by simp) fun j hj => ?_
      obtain rfl : j = i := by simpa using hj
      exact wpOp_mono (fun a' w' hk => ⟨hk.1, ih _ _ _ h.2 hk.1 hk.2⟩) hw

/-- the same, behind a name that nothing unfolds -/
structure Sd (P : Program) (ops : Array Oper) (Q : Exit → Act → World → Prop) (S : World → Prop) (is : List (Nat × Bool)) (a : Act) (w : World) : Prop where
  out : wpSched P ops Q S is a w

/-- a region that draws, by an order that is laid; what follows stands behind a letter -/
theorem region_sched {id : Nat} {a : Act} {w : World} (is : List (Nat × Bool)) (S : World → Prop) (hm : P.follows .mixedOrders = true) (hs : Region.noSelect ops = true) (hl : is.length = ops.size)
    (hk : schedOk .any ops is (Array.replicate ops.size false) = true) (hQ : ∀ t c a w, Q (.panic c) { a with tmps := t } w → Q (.panic c) a w) (hS : S w.drew)
    (h : ∀ Q' : Exit → Act → World → Prop, Hid (∀ a' w', Q .normal a' w' → Q' .normal a' w') → Sd P ops Q' S is a w.drew) : (Code.region id ops true).wp P Q a w := by
  refine wp_region_held (S := S) hm ?_
  have h2 := wpAnyH_sched (md := .any) (S := S) hs hQ is (Array.replicate ops.size false) a w.drew hk hS (h Q (Lib.hid fun _ _ h => h)).out
  rw [hl] at h2
  exact h2

theorem sched_take {i : Nat} {is : List (Nat × Bool)} {a : Act} {w : World} {o : Oper} {v : Value} (ho : ops[i]? = some o) (hw : Region.wanted o (yielded ops a.tmps) = true) (hy : ∀ w, S w → (execOp a.eval o).run P w = .ok (.value v) w)
    (h : Sd P ops Q S is (a.put o.dst v) w) : Sd P ops Q S ((i, true) :: is) a w := ⟨⟨o, v, ho, .inl ⟨hw, hy⟩, h.out⟩⟩
theorem sched_skip {i : Nat} {is : List (Nat × Bool)} {a : Act} {w : World} {o : Oper} (ho : ops[i]? = some o) (hw : Region.wanted o (yielded ops a.tmps) = false)
    (h : Sd P ops Q S is (a.put o.dst undef) w) : Sd P ops Q S ((i, true) :: is) a w := ⟨⟨o, undef, ho, .inr ⟨hw, rfl⟩, h.out⟩⟩
theorem sched_call {i : Nat} {is : List (Nat × Bool)} {a : Act} {w : World} {o : Oper} (ho : ops[i]? = some o) (hw : Region.wanted o (yielded ops a.tmps) = true)
    (h : ∀ K : Act → World → Prop, Hid (∀ a' w', S w' → Sd P ops Q S is a' w' → K a' w') → o.wp P a w K Q) : Sd P ops Q S ((i, false) :: is) a w := by
  refine ⟨?_⟩
  show wpOp P ops Q i _ a w
  unfold wpOp
  simp only [ho, hw, if_true]
  exact .inl (h _ (Lib.hid fun _ _ h1 h2 => ⟨h1, h2.out⟩))
theorem sched_skipC {i : Nat} {is : List (Nat × Bool)} {a : Act} {w : World} {o : Oper} (ho : ops[i]? = some o) (hw : Region.wanted o (yielded ops a.tmps) = false) (hS : S w)
    (h : Sd P ops Q S is (a.put o.dst undef) w) : Sd P ops Q S ((i, false) :: is) a w := by
  refine ⟨?_⟩
  show wpOp P ops Q i _ a w
  unfold wpOp
  simp only [ho, hw]
  exact ⟨hS, h.out⟩
theorem sched_take' {i : Nat} {is : List (Nat × Bool)} {a : Act} {w : World} {o : Oper} {v : Value} {a' : Act} (ho : ops[i]? = some o) (hw : Region.wanted o (yielded ops a.tmps) = true) (hy : ∀ w, S w → (execOp a.eval o).run P w = .ok (.value v) w)
    {d : Tmp} (hd : o.dst = some d) (ha : a.put (some d) v = a') (h : Sd P ops Q S is a' w) : Sd P ops Q S ((i, true) :: is) a w := ⟨⟨o, v, ho, .inl ⟨hw, hy⟩, by rw [hd, ha]; exact h.out⟩⟩
theorem sched_skip' {i : Nat} {is : List (Nat × Bool)} {a : Act} {w : World} {o : Oper} {a' : Act} (ho : ops[i]? = some o) (hw : Region.wanted o (yielded ops a.tmps) = false) {d : Tmp} (hd : o.dst = some d) (ha : a.put (some d) undef = a')
    (h : Sd P ops Q S is a' w) : Sd P ops Q S ((i, true) :: is) a w := ⟨⟨o, undef, ho, .inr ⟨hw, rfl⟩, by rw [hd, ha]; exact h.out⟩⟩
theorem sched_lay {is : List (Nat × Bool)} {a a' : Act} {w : World} (ha : a = a') (h : Sd P ops Q S is a' w) : Sd P ops Q S is a w := by rw [ha]; exact h
theorem sched_skipC' {i : Nat} {is : List (Nat × Bool)} {a : Act} {w : World} {o : Oper} {a' : Act} (ho : ops[i]? = some o) (hw : Region.wanted o (yielded ops a.tmps) = false) (hS : S w) {d : Tmp} (hd : o.dst = some d) (ha : a.put (some d) undef = a')
    (h : Sd P ops Q S is a' w) : Sd P ops Q S ((i, false) :: is) a w := by
  refine ⟨?_⟩
  show wpOp P ops Q i _ a w
  unfold wpOp
  rw [← ha] at h
  simp only [ho, hw, hd] at *
  exact ⟨hS, h.out⟩
theorem sched_done {a : Act} {w : World} (h : Q .normal a w) : Sd P ops Q S [] a w := ⟨h⟩
end

end Go.Proofs.Ytpaleogkgfclnaa
