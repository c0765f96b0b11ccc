/-
  Laws of the functions that the claim reaches, one after the other (packed by a program of the prover's: Parse, Bs, Form, Rank, SpecRank, Strs, Text, Push, SpecPush, Join, Not, JoinF, Map, KeyP, Bits). Conditions: texts below the reach.
-/
import Derived.Test.YtpaleogkgfclnaaDoorPd0
import Derived.Deep.DeepCutAuto
import Derived.Deep.CutBlock
import Derived.Deep.LoopGhost
import Derived.Deep.RegionLawGrows
import Derived.Deep.AppendLies
import Derived.Lib.Strings
import Derived.Lib.Hide
import Derived.WalkKit
import Derived.OwnWalk
import Derived.Deep.QuietTactic
import Derived.BigQuiet
import Derived.WalkSmall
import Derived.Laws.OwnMore
import Derived.Below
import Derived.RegionTactic
import Derived.Maps.Own
import Derived.LaidEqlPtr
import Derived.Test.YtpaleogkgfclnaaDoorPd1
import Derived.Test.YtpaleogkgfclnaaDoorTrimLay
import Derived.Test.YtpaleogkgfclnaaDoorRows
import Derived.WalkSpells
import Derived.WalkLawsBesides
set_option linter.unusedSimpArgs false
set_option linter.unusedVariables false

namespace Go.Proofs.YtpaleogkgfclnaaDoor
open Go.RowKit
open Pl

theorem parsePart_empty (s : ByteArray) (w : World) (h : s.size = 0) :
    Calls Tryd.prog 49 #[.string s] w (PartPost s w) := by
  have hl : s.data.toList = [] := List.eq_nil_of_length_eq_zero (by rw [← Lib.size_eq]; exact h)
  have hl2 : s.toList = [] := by rw [ByteArray.toList_eq]; exact hl
  have e1 : (s.toList == []) = true := by rw [hl2]; rfl
  have e2 : s.toList.isEmpty = true := by rw [hl2]; rfl
  have Hl := Lib.hid hl
  clear hl hl2 h
  go_enter Tryd.func49, Tryd.ntmps49
  go_wp2_with fail
  go_ret2
  exact ⟨Below.refl _ _, .inl ⟨by rw [Hl.out]; exact parse_nil, s, rfl⟩⟩

set_option maxHeartbeats 1000000 in
set_option maxRecDepth 100000 in
theorem parsePart_calls (n : Nat) : ∀ (s : ByteArray) (w : World), s.size ≤ n → n ≤ 1000000000 →
    Calls Tryd.prog 49 #[.string s] w (PartPost s w) := by
  induction n with
  | zero =>
    intro s w hn _hs
    exact parsePart_empty s w (by omega)
  | succ n ih =>
    intro s w hn hs
    by_cases h0 : 0 < s.size
    · obtain ⟨hne2, hne3⟩ := empty_facts h0
      have Ih := Lib.hid ih
      clear ih
      go_enter Tryd.func49, Tryd.ntmps49
      have hb0 : s.data.toList = s[0] :: s.data.toList.drop 1 := drop_at (k := 0) h0
      have Hb0 := Lib.hid hb0
      clear hb0
      go_upto_block 0 with (fail)
      go_cut [5, 6] (fun v p wx => ∃ nv np : Nat, arity s[0] = some (nv, np) ∧ v = .int .i64 nv ∧ p = .int .i64 np ∧ wx = w.alloc (.cells #[.int .u8 s[0].toNat, .slice none 0 0, .slice none 0 0, .int .i64 0, .int .i64 0] 66))
      case first =>
        go_wp2_with fail
        all_goals first
          | (go_meet
             case rel => first
             | exact ⟨0, 0, ar_of (n := 116) (by assumption) rfl, rfl, rfl, rfl⟩
             | exact ⟨0, 0, ar_of (n := 102) (by assumption) rfl, rfl, rfl, rfl⟩
             | exact ⟨1, 0, ar_of (n := 80) (by assumption) rfl, rfl, rfl, rfl⟩
             | exact ⟨2, 0, ar_of (n := 61) (by assumption) rfl, rfl, rfl, rfl⟩
             | exact ⟨2, 0, ar_of (n := 69) (by assumption) rfl, rfl, rfl, rfl⟩
             | exact ⟨0, 1, ar_of (n := 33) (by assumption) rfl, rfl, rfl, rfl⟩
             | exact ⟨0, 2, ar_of (n := 38) (by assumption) rfl, rfl, rfl, rfl⟩
             | exact ⟨0, 2, ar_of (n := 124) (by assumption) rfl, rfl, rfl, rfl⟩
             | exact ⟨1, 1, ar_of (n := 65) (by assumption) rfl, rfl, rfl, rfl⟩
             | exact ⟨1, 1, ar_of (n := 83) (by assumption) rfl, rfl, rfl, rfl⟩
             | exact ⟨1, 1, ar_of (n := 50) (by assumption) rfl, rfl, rfl, rfl⟩
             | exact ⟨1, 1, ar_of (n := 51) (by assumption) rfl, rfl, rfl, rfl⟩
             | exact ⟨1, 1, ar_of (n := 52) (by assumption) rfl, rfl, rfl, rfl⟩
             done)
          | (go_ret2
             refine ⟨(Below.refl _ _).alloc (Nat.le_refl _) _, .inl ⟨?_, s, rfl⟩⟩
             rw [Hb0.out]
             refine parse_bad (arity_no fun n hn => ?_)
             simp only [List.mem_cons, List.not_mem_nil, or_false] at hn
             rcases hn with rfl | rfl | rfl | rfl | rfl | rfl | rfl | rfl | rfl | rfl | rfl | rfl | rfl <;> assumption)
      case rest =>
        obtain ⟨nv, np, har, rfl, rfl, rfl⟩ := hcut
        have Har := Lib.hid har
        clear har
        go_upto_block 1 with (fail)
        go_wp2_with fail
        go_loopg [0, 41] nv (fun k c i wr => ∃ (vs : List (Fin 4)) (cur : ByteArray), c = .string cur ∧ i = .int .i64 vs.length ∧ vs.length + k = nv ∧ s.data.toList.drop 1 = vs.map vb ++ cur.data.toList ∧ cur.size ≤ n ∧
          NodeIn (fun g => w.heap.size ≤ g) wr s[0] vs 0 (maskV vs) w.heap.size [] ∧ Below w.heap.size w wr)
        case atStart =>
          refine ⟨[], s.extract 1 s.size, rfl, rfl, by simp, by rw [Lib.extract_to_end]; rfl, by simp; omega, node_new w _ (Nat.le_refl _), (Below.refl _ _).alloc (Nat.le_refl _) _⟩
        case round =>
          obtain ⟨vs, cur, rfl, rfl, hk, htl, hcn, hnode, hbel⟩ := hrel
          have Htl := Lib.hid htl
          have Hk := Lib.hid hk
          have Hbel := Lib.hid hbel
          clear htl hk hbel
          by_cases hlt : vs.length < nv
          · by_cases hc0 : 0 < cur.size
            · obtain ⟨hce, hce2⟩ := empty_facts hc0
              cases hv : varOf cur[0] with
              | none =>
                have Hv := Lib.hid hv
                clear hv
                have hcontains : ∀ t w, t.data.toList = [cur[0]] → Calls Tryd.prog 74 #[.string ⟨#[97, 98, 99, 100]⟩, .string t] w fun e w' => e = .returned (.bool false) ∧ w = w' := fun t w ht => isVar_calls t _ false ht (by rw [Hv.out]; rfl) w
                have Hcon := Lib.hid hcontains
                have hext : (cur.extract 0 1).data.toList = [cur[0]] := by
                  rw [Lib.extract_data, drop_at hc0]; rfl
                have Hext := Lib.hid hext
                clear hcontains hext hnode
                go_wp2_with (go_at_call 74; refine (Hcon.out _ _ Hext.out).mono ?_; rintro e w' ⟨rfl, rfl⟩)
                go_ret2
                refine ⟨Hbel.out, .inl ⟨?_, cur, rfl⟩⟩
                rw [Hb0.out, Htl.out]
                refine parse_no_var Har.out vs _ hlt fun u r e => ?_
                have e2 := (drop_at (k := 0) hc0).symm.trans e
                simp only [List.cons.injEq] at e2
                have e3 := Hv.out
                rw [e2.1, varOf_vb] at e3
                cases e3
              | some v =>
                have Hv := Lib.hid hv
                clear hv
                have hcontains : ∀ t w, t.data.toList = [cur[0]] → Calls Tryd.prog 74 #[.string ⟨#[97, 98, 99, 100]⟩, .string t] w fun e w' => e = .returned (.bool true) ∧ w = w' := fun t w ht => isVar_calls t _ true ht (by rw [Hv.out]; rfl) w
                have Hcon := Lib.hid hcontains
                clear hcontains
                obtain ⟨_, vsv, psv, hB, hvs, hvS, hps, hpS⟩ := hnode
                have HvS := Lib.hid hvS
                have HpS := Lib.hid hpS
                clear hvS hpS
                have hc1 := cell_at hB 1
                have hc4 := cell_at hB 4
                have hf1 := free_at hB 1
                have hf4 := free_at hB 4
                have hlw := World.block_lt_of_cell? wr _ hc1
                simp only [List.getElem?_toArray, List.getElem?_cons_succ, List.getElem?_cons_zero] at hc1 hc4
                have hrow := ownsRow_ne hvs hB (by decide)
                have Hrow := Lib.hid hrow
                have HB := Lib.hid hB
                have Hvs := Lib.hid hvs
                have Hps := Lib.hid hps
                clear hB hvs hps hrow
                have hext : (cur.extract 0 1).data.toList = [cur[0]] := by
                  rw [Lib.extract_data, drop_at hc0]; rfl
                have Hext := Lib.hid hext
                clear hext
                obtain ⟨i0, hi0, hz0, hz1, hz2⟩ := info_parts Tryd.infoU8
                have hlen : vs.length < 1000000000 := by
                  have := congrArg List.length Htl.out
                  simp at this; omega
                have hcb : cur[0] = vb v := varOf_some.1 Hv.out
                have Hcb := Lib.hid hcb
                clear hcb
                go_upto_region 30 with (go_at_call 74; refine (Hcon.out _ _ Hext.out).mono ?_; rintro e w' ⟨rfl, rfl⟩)
                go_cut [] (fun wx => NodeIn (fun g => w.heap.size ≤ g) wx s[0] (vs ++ [v]) 0 (maskV vs) w.heap.size [] ∧ Below w.heap.size w wx)
                case first =>
                  go_region_law ((refine step_append_lies _ (by rfl) _ _ _ (by rfl) 0 5 i0 _ 1 1 Tryd.underlying22 hi0 hz0 hz1 hz2 rfl (by omega) vsv vs.length _ (by rfl) ((Hvs.out.alloc _).drew) ⟨wr.heap.size, 0, none⟩ 1 1 [byteV cur[0]] (by rfl) (by rfl) (World.news_of_block (cs := #[byteV cur[0]]) (t := 5) (fr := (0, 0)) (heap_alloc_new wr _)) (by simp [Value.oneCell', byteV]) (by omega) (by unfold maxLen; omega) (by omega) (Nat.zero_le _) (wr.heap.size + 1) (by simp) ?_; intro g cap w1 hown1 hgrow hat hlt1; have hB1 := grown_block hgrow HB.out Hrow.out; have hw1 := cell_at hB1 1; have hw4 := cell_at hB1 4; have gw1 := free_at hB1 1; have gw4 := free_at hB1 4; have HB1 := Lib.hid hB1; clear hB1))
                  all_goals
                    go_wp2_with fail
                    go_meet
                    case rel =>
                      refine ⟨?_, ?_⟩
                      · refine node_var v (Nat.le_refl _) HB1.out ?_ ?_ (row_grown Hps.out Hvs.out (by decide) hgrow) HpS.out
                        · rw [← Hcb.out]; exact hown1
                        · intro k hk
                          have e0 : g = k := by simpa [Value.ownBlock] using hk
                          subst e0
                          rcases hat with h | h
                          · exact HvS.out _ h
                          · omega
                      · refine Below.setCell (p := ⟨w.heap.size, 1, none⟩) ?_ (Nat.le_refl _) _
                        refine Below.grown (((Hbel.out).alloc (by omega) _).drew) hgrow (by simp; omega) HvS.out
                case rest =>
                  obtain ⟨hnode2, hbel2⟩ := hcut
                  have Hbel2 := Lib.hid hbel2
                  have hlwc := hbel2.size
                  clear hbel2
                  go_upto_region 31 with (fail)
                  have Hnode2 := Lib.hid hnode2
                  obtain ⟨_, vsv2, psv2, hB2, _, _, _, _⟩ := hnode2
                  have hd1 := cell_at hB2 1
                  have hd4 := cell_at hB2 4
                  have hg1 := free_at hB2 1
                  have hg4 := free_at hB2 4
                  simp only [List.getElem?_toArray, List.getElem?_cons_succ, List.getElem?_cons_zero] at hd1 hd4
                  clear hB2 hc1 hc4 hf1 hf4
                  obtain ⟨hcv, hv3⟩ : (cur[0].toNat : Int) = 97 + (v.val : Int) ∧ (v.val : Int) < 4 := by
                    rw [Hcb.out]
                    exact ⟨vb_int v, by omega⟩
                  go_cut [] (fun wx => NodeIn (fun g => w.heap.size ≤ g) wx s[0] (vs ++ [v]) 0 (maskV (vs ++ [v])) w.heap.size [] ∧ Below w.heap.size w wx)
                  case first =>
                    go_region
                    all_goals
                      go_wp2_with fail
                      go_meet
                      case rel =>
                        refine ⟨?_, Below.drew (Below.setCell (p := ⟨w.heap.size, 4, none⟩) Hbel2.out (Nat.le_refl _) _)⟩
                        rw [or_bit _ _ (maskV_lt vs), maskV_snoc]
                        exact NodeIn.setAll Hnode2.out _
                  case rest =>
                    obtain ⟨hnode3, hbel3⟩ := hcut
                    clear hcv
                    go_wp2_with fail
                    go_roundg (gk - 1)
                    case measure => have := Hk.out; omega
                    case rel =>
                      refine ⟨vs ++ [v], cur.extract 1 cur.size, rfl, by simp, ?_, ?_, ?_, hnode3, hbel3⟩
                      · have := Hk.out; simp; omega
                      · rw [Htl.out, Lib.extract_to_end, drop_at (k := 0) hc0 |> fun h => (by simpa using h : cur.data.toList = cur[0] :: cur.data.toList.drop 1), Hcb.out]
                        simp
                      · simp; omega
            · have hl : cur.data.toList = [] := List.eq_nil_of_length_eq_zero (by rw [← Lib.size_eq]; omega)
              have hl2 : cur.toList = [] := by rw [ByteArray.toList_eq]; exact hl
              have e1 : (cur.toList == []) = true := by rw [hl2]; rfl
              have e2 : cur.toList.isEmpty = true := by rw [hl2]; rfl
              have Hl := Lib.hid hl
              clear hl hl2 hc0 hnode
              go_wp2_with fail
              go_ret2
              refine ⟨Hbel.out, .inl ⟨?_, cur, rfl⟩⟩
              rw [Hb0.out, Htl.out]
              exact parse_no_var Har.out vs _ hlt fun u r e => by rw [Hl.out] at e; cases e
          · have hvl : vs.length = nv := by have := Hk.out; omega
            have Hvl := Lib.hid hvl
            clear hvl
            have hnt := NodeT.of hnode
            clear hnode
            have Hnt := Lib.hid hnt
            obtain ⟨_, _, _, hB, _, _, _, _, _⟩ := hnt
            have hc4 := cell_at hB 4
            have hc3 := cell_at hB 3
            have hf3 := free_at hB 3
            have hlw := block_lt hB
            simp only [List.getElem?_toArray, List.getElem?_cons_succ, List.getElem?_cons_zero] at hc3 hc4
            clear hB
            go_upto_if 85 with (fail)
            go_cut [] (fun wx => NodeT w.heap.size wx s[0] vs (if 0 < np then 0 else maskV vs) (maskV vs) [] ∧ Below w.heap.size w wx)
            case first =>
              by_cases hnp : 0 < np
              · go_wp2_with fail
                go_meet
                case rel =>
                  refine ⟨?_, Below.setCell (p := ⟨w.heap.size, 3, none⟩) (Below.setCell (p := ⟨w.heap.size, 3, none⟩) Hbel.out (Nat.le_refl _) _) (Nat.le_refl _) _⟩
                  rw [if_pos hnp]
                  exact NodeT.setFree (NodeT.setFree Hnt.out _) 0
              · go_wp2_with fail
                go_meet
                case rel =>
                  refine ⟨?_, Below.setCell (p := ⟨w.heap.size, 3, none⟩) Hbel.out (Nat.le_refl _) _⟩
                  rw [if_neg hnp]
                  exact NodeT.setFree Hnt.out _
            case rest =>
              obtain ⟨hnt1, hbel1⟩ := hcut
              clear hc4 hc3 hf3 hlw
              obtain ⟨F0, HF0, hF0⟩ : ∃ F0, Hid (F0 = if 0 < np then 0 else maskV vs) ∧ F0 < 16 := ⟨_, rfl, by split; decide; exact maskV_lt vs⟩
              rw [← HF0.out] at hnt1
              have Hnt1 := Lib.hid hnt1
              have Hbel1 := Lib.hid hbel1
              have hnp2 := (arity_le Har.out).2
              clear hnt1 hbel1
              go_upto_block 3 with (fail)
              go_wp2_with fail
              go_loopg [0, 90] np (fun k c i wr => ∃ (ps : List Fm) (cur2 : ByteArray), c = .string cur2 ∧ i = .int .i64 ps.length ∧ ps.length + k = np ∧ cur.data.toList = (ps.map Fm.text).flatten ++ cur2.data.toList ∧ cur2.size ≤ n ∧
                NodeT w.heap.size wr s[0] vs (orFree F0 ps) (orAll (maskV vs) ps) ps ∧ Below w.heap.size w wr)
              case atStart => exact ⟨[], cur, rfl, rfl, by simp, by simp, hcn, Hnt1.out, Hbel1.out⟩
              case round =>
                obtain ⟨ps, cur2, rfl, rfl, hk2, htl2, hcn2, hnt2, hbel2⟩ := hrel
                have Hk2 := Lib.hid hk2
                have Htl2 := Lib.hid htl2
                have Hnt2 := Lib.hid hnt2
                have Hbel2 := Lib.hid hbel2
                clear hk2 htl2 hnt2 hbel2
                by_cases hlt2 : ps.length < np
                · go_upto_region 42 with (go_at_call 49; refine (Ih.out _ _ hcn2 (by omega)).mono ?_; rintro e w1 ⟨hb1, ⟨hno, rest, rfl⟩ | ⟨f, rest, b, hp, htr, rfl⟩⟩)
                  · go_wp2_with fail
                    go_ret2
                    refine ⟨Hbel2.out.trans (hb1.mono Hbel2.out.size), .inl ⟨?_, rest, rfl⟩⟩
                    rw [Hb0.out, Htl.out, Htl2.out]
                    exact parse_no_part Har.out vs Hvl.out ps _ hlt2 hno
                  · have Hp := Lib.hid hp
                    have Hb1 := Lib.hid hb1
                    have hsz1 := hb1.size
                    obtain ⟨ks, vsv, psv, hB, h1, h2, h3, h4, h5⟩ := Hnt2.out
                    have hBlo := block_lt hB
                    have hB1 : w1.heap[w.heap.size]? = _ := (hb1.block _ hBlo).trans hB
                    have h1' := ownsRow_keep (base' := 0) h1 (fun g hg => ⟨hb1.block g (ownsRow_lt h1 hg).2, Nat.zero_le _⟩)
                    have h3' := ownsRow_keep (base' := 0) h3 (fun g hg => ⟨hb1.block g (ownsRow_lt h3 hg).2, Nat.zero_le _⟩)
                    have h4' : ∀ k, psv.ownBlock = some k → w.heap.size ≤ k ∧ k < wr.heap.size := fun k hk => ⟨h4 k hk, (ownsRow_lt h3 hk).2⟩
                    have h5' : TreesIn (fun g => w.heap.size < g ∧ psv.ownBlock ≠ some g ∧ g < wr.heap.size) w1 ps ks := h5.keep fun g hg hl => ⟨hb1.block g hl, hg.1, hg.2, hl⟩
                    have hkc := kidCells_of htr (B := w.heap.size) (by omega)
                    have hc2 := cell_at hB1 2
                    have hf2 := free_at hB1 2
                    simp only [List.getElem?_toArray, List.getElem?_cons_succ, List.getElem?_cons_zero] at hc2
                    have HB1 := Lib.hid hB1
                    have H1 := Lib.hid h1'
                    have H2 := Lib.hid h2
                    have H3 := Lib.hid h3'
                    have H4 := Lib.hid h4'
                    have H5 := Lib.hid h5'
                    have Htr := Lib.hid htr
                    have Hkc := Lib.hid hkc
                    clear hp hb1 hB h1 h2 h3 h4 h5 hB1 h1' h3' h4' h5' htr hkc
                    obtain ⟨i1, hi0, hz0, hz1, hz2⟩ := info_parts Tryd.infoPF
                    have hlks : ks.length < 1000000000 := by have := H5.out.1; have := (arity_le Har.out).2; omega
                    go_cut [] (fun wx => NodeT w.heap.size wx s[0] vs (orFree F0 ps) (orAll (maskV vs) ps) (ps ++ [f]) ∧ Below w.heap.size w wx ∧ KidCells wx w.heap.size b f)
                    case first =>
                      go_wp2_with (at_builtin; refine wpList_append_lies _ rfl _ _ _ rfl 0 52 i1 _ 1 8 Tryd.underlying64 hi0 hz0 hz1 hz2 rfl (by omega) psv ks.length _ rfl (H3.out.alloc _) ⟨w1.heap.size, 0, none⟩ 1 1 [kidV b] rfl rfl (World.news_of_block (cs := #[kidV b]) (t := 52) (fr := (0, 0)) (heap_alloc_new w1 _)) (by simp [Value.oneCell', kidV]) (by omega) (by unfold maxLen; omega) (by omega) (Nat.zero_le _) (w1.heap.size + 1) (by simp) ?_; intro g cap w2 hown1 hgrow hat hlt1; have hB2 := (grown_heap hgrow (Nat.lt_of_lt_of_le hBlo hsz1) (ownsRow_ne H3.out HB1.out (by decide))).trans HB1.out; have hw2 := cell_at hB2 2; have gw2 := free_at hB2 2; have HB2 := Lib.hid hB2; clear hB2)
                      go_meet
                      case rel =>
                        refine ⟨nodeT_part HB1.out H1.out H2.out H3.out H4.out H5.out hsz1 hBlo Htr.out hown1 hgrow hat, ?_, KidCells.set (kidCells_heap Hkc.out ?_) 2 _⟩
                        · exact Below.setCell (p := ⟨w.heap.size, 2, none⟩) (Below.grown ((Hbel2.out.trans (Hb1.out.mono Hbel2.out.size)).alloc (by have := Hbel2.out.size; omega) _) hgrow (by have := Hbel2.out.size; simp; omega) (fun k hk => (H4.out k hk).1)) (Nat.le_refl _) _
                        · obtain ⟨_, ⟨hS, _, _, hbb, _⟩, _⟩ := Htr.out.open
                          have hlo : wr.heap.size ≤ b := hS
                          exact grown_heap hgrow (block_lt hbb) (fun e => by have := (H4.out b e).2; omega)
                    case rest =>
                      obtain ⟨hnt3, hbel3, hkc3⟩ := hcut
                      clear hc2 hf2
                      have Hnt3 := Lib.hid hnt3
                      have Hbel3 := Lib.hid hbel3
                      have Hkc3 := Lib.hid hkc3
                      obtain ⟨_, _, _, hB, _, _, _, _, _⟩ := hnt3
                      obtain ⟨_, hk3, _⟩ := hkc3
                      have hc3 := cell_at hB 3
                      have hf3 := free_at hB 3
                      simp only [List.getElem?_toArray, List.getElem?_cons_succ, List.getElem?_cons_zero] at hc3
                      clear hB hbel3
                      go_upto_region 43 with (fail)
                      go_cut [] (fun wx => NodeT w.heap.size wx s[0] vs (orFree F0 (ps ++ [f])) (orAll (maskV vs) ps) (ps ++ [f]) ∧ Below w.heap.size w wx ∧ KidCells wx w.heap.size b f)
                      case first =>
                        go_region
                        all_goals
                          go_wp2_with fail
                          go_meet
                          case rel =>
                            rw [or_nat _ _ (orFree_lt hF0 ps) (freeBits_lt f), orFree_snoc]
                            exact ⟨NodeT.drew (NodeT.setFree Hnt3.out _), Below.drew (Below.setCell (p := ⟨w.heap.size, 3, none⟩) Hbel3.out (Nat.le_refl _) _), KidCells.drew (KidCells.set Hkc3.out 3 _)⟩
                      case rest =>
                        obtain ⟨hnt4, hbel4, hkc4⟩ := hcut
                        clear hc3 hf3 hk3
                        have Hnt4 := Lib.hid hnt4
                        have Hbel4 := Lib.hid hbel4
                        obtain ⟨_, _, _, hB, _, _, _, _, _⟩ := hnt4
                        obtain ⟨_, _, hk4⟩ := hkc4
                        have hc4 := cell_at hB 4
                        have hf4 := free_at hB 4
                        simp only [List.getElem?_toArray, List.getElem?_cons_succ, List.getElem?_cons_zero] at hc4
                        clear hB hbel4
                        go_upto_region 44 with (fail)
                        go_cut [] (fun wx => NodeT w.heap.size wx s[0] vs (orFree F0 (ps ++ [f])) (orAll (maskV vs) (ps ++ [f])) (ps ++ [f]) ∧ Below w.heap.size w wx)
                        case first =>
                          go_region
                          all_goals
                            go_wp2_with fail
                            go_meet
                            case rel =>
                              rw [or_nat _ _ (orAll_lt (maskV_lt vs) ps) (allBits_lt f), orAll_snoc]
                              exact ⟨NodeT.drew (NodeT.setAll Hnt4.out _), Below.drew (Below.setCell (p := ⟨w.heap.size, 4, none⟩) Hbel4.out (Nat.le_refl _) _)⟩
                        case rest =>
                          obtain ⟨hnt5, hbel5⟩ := hcut
                          clear hc4 hf4 hk4
                          have Hnt5 := Lib.hid hnt5
                          have Hbel5 := Lib.hid hbel5
                          clear hnt5 hbel5
                          go_wp2_with fail
                          go_roundg (gk - 1)
                          case measure => have := Hk2.out; omega
                          case rel =>
                            have e1 := parse_some.1 Hp.out
                            refine ⟨ps ++ [f], rest, rfl, by simp, ?_, ?_, ?_, Hnt5.out, Hbel5.out⟩
                            · have := Hk2.out; simp; omega
                            · rw [Htl2.out, e1]; simp
                            · have := congrArg List.length e1
                              rw [List.length_append, ← Lib.size_eq, ← Lib.size_eq] at this
                              omega
                · have hpl : ps.length = np := by have := Hk2.out; omega
                  have Hpl := Lib.hid hpl
                  clear hpl
                  have hhd : parse s.data.toList = parse (s[0] :: (vs.map vb ++ ((ps.map Fm.text).flatten ++ cur2.data.toList))) := by rw [Hb0.out, Htl.out, Htl2.out]
                  obtain ⟨f, ef1, ef2, ef3, ef4⟩ := parse_all Har.out vs Hvl.out ps Hpl.out cur2.data.toList
                  have Hpar := Lib.hid (hhd.trans ef4)
                  have Hf1 := Lib.hid ef1
                  have Hf2 := Lib.hid ef2
                  have Hf3 := Lib.hid ef3
                  clear hhd ef1 ef2 ef3 ef4
                  have hall := allBits_eq f
                  rw [Hf2.out, Hf3.out] at hall
                  have Hall := Lib.hid hall
                  clear hall
                  obtain ⟨_, vsv, _, hB, h1, _, _, _, _⟩ := Hnt2.out
                  have hc0 := cell_at hB 0
                  have hc1 := cell_at hB 1
                  have hc3 := cell_at hB 3
                  have hf3 := free_at hB 3
                  simp only [List.getElem?_toArray, List.getElem?_cons_succ, List.getElem?_cons_zero] at hc0 hc1 hc3
                  clear hB
                  have H1 := Lib.hid h1
                  clear h1
                  cases hq : isQuB s[0] with
                  | false =>
                    have hfree := freeBits_no f (by rw [Hf1.out]; exact hq)
                    rw [Hf2.out, Hf3.out, Hpl.out, ← HF0.out] at hfree
                    have Hfree := Lib.hid hfree
                    have Hq := Lib.hid hq
                    clear hfree hq
                    go_wp2_with (go_at_call 62; refine (isQuantifier_at s[0] _ Hq.out _ _ hc0).mono ?_; rintro e w' ⟨rfl, rfl⟩)
                    go_ret2
                    refine ⟨Hbel2.out, .inr ⟨f, cur2, w.heap.size, Hpar.out, tree_done ?_, rfl⟩⟩
                    rw [Hf1.out, Hf2.out, Hf3.out, Hall.out, Hfree.out]
                    exact Hnt2.out
                  | true =>
                    obtain ⟨v, hv, hfree⟩ := freeBits_yes f (by rw [Hf1.out]; exact hq)
                    rw [Hf2.out] at hv
                    rw [Hf2.out, Hf3.out, Hpl.out, ← HF0.out] at hfree
                    have Hfree := Lib.hid hfree
                    have Hq := Lib.hid hq
                    have Hv := Lib.hid hv
                    clear hfree hq hv
                    have hvl1 : vs.length = 1 := by rw [Hv.out]; rfl
                    obtain ⟨g, cap, rfl, hcap, hcm, _, hglt, hrow⟩ := row_open H1.out (by omega)
                    have hgc : wr.cell? ⟨g, 0, none⟩ = some (.int .u8 (vb v).toNat) := by
                      rw [hrow 0 (by omega), Hv.out]; rfl
                    clear hrow
                    obtain ⟨hcv, hv3⟩ : ((vb v).toNat : Int) = 97 + (v.val : Int) ∧ (v.val : Int) < 4 := ⟨vb_int v, by omega⟩
                    have hvl2 : 0 < vs.length := by omega
                    clear hvl1
                    go_upto_region 48 with (go_at_call 62; refine (isQuantifier_at s[0] _ Hq.out _ _ hc0).mono ?_; rintro e w' ⟨rfl, rfl⟩)
                    go_cut [] (fun wx => NodeT w.heap.size wx s[0] vs f.freeBits (orAll (maskV vs) ps) ps ∧ Below w.heap.size w wx)
                    case first =>
                      go_region
                      all_goals
                        go_wp2_with fail
                        go_meet
                        case rel =>
                          rw [andNot_bit _ _ (orFree_lt hF0 ps), ← Hfree.out]
                          exact ⟨NodeT.drew (NodeT.setFree Hnt2.out _), Below.drew (Below.setCell (p := ⟨w.heap.size, 3, none⟩) Hbel2.out (Nat.le_refl _) _)⟩
                    case rest =>
                      obtain ⟨hnt6, hbel6⟩ := hcut
                      have Hnt6 := Lib.hid hnt6
                      have Hbel6 := Lib.hid hbel6
                      clear hnt6 hbel6 hc0 hc1 hc3 hf3 hgc hcv
                      go_wp2_with fail
                      go_ret2
                      refine ⟨Hbel6.out, .inr ⟨f, cur2, w.heap.size, Hpar.out, tree_done ?_, rfl⟩⟩
                      rw [Hf1.out, Hf2.out, Hf3.out, Hall.out]
                      exact Hnt6.out
    · exact parsePart_empty s w (by omega)
end Go.Proofs.YtpaleogkgfclnaaDoor

namespace Go.Proofs.YtpaleogkgfclnaaDoor
open Go.RowKit

def bs (l : List UInt8) : ByteArray := ⟨l.toArray⟩
theorem bs_data (l : List UInt8) : (bs l).data.toList = l := rfl
theorem bs_size (l : List UInt8) : (bs l).size = l.length := by rw [Lib.size_eq]; rfl
theorem bs_of (s : ByteArray) : bs s.data.toList = s := Lib.mk_data s
theorem bs_inj {a b : List UInt8} (h : bs a = bs b) : a = b := by rw [← bs_data a, ← bs_data b, h]
theorem eq_bs {s : ByteArray} {l : List UInt8} (h : s.data.toList = l) : s = bs l := by rw [← h, bs_of]

theorem append_bs (a b : ByteArray) : a ++ b = bs (a.data.toList ++ b.data.toList) := by
  apply eq_bs
  simp

theorem ret_pair {a b c d : Value} (h1 : a = c) (h2 : b = d) : Ending.returned (.tuple #[a, b]) = .returned (.tuple #[c, d]) := by rw [h1, h2]
theorem str_eq {a b : ByteArray} (h : a = b) : Value.string a = .string b := by rw [h]

theorem size_le_of {s : ByteArray} {l : List UInt8} (h : s.data.toList = l) : s.size = l.length := by rw [Lib.size_eq, h]

end Go.Proofs.YtpaleogkgfclnaaDoor

namespace Go.Proofs.YtpaleogkgfclnaaDoor
open Go.RowKit
open Pl

/-- a tree of f was laid -/
def TreePost (f : Fm) (w : World) (e : Ending) (w' : World) : Prop := ∃ b, e = .returned (kidV b) ∧ TreeAt w.heap.size w' f b ∧ Below w.heap.size w w'

set_option maxHeartbeats 400000 in
theorem parseFormula_no (s : ByteArray) (w : World) (h : ¬ IsFm s.data.toList) :
    Calls Tryd.prog 29 #[.string s] w fun e w' => e = .returned (.pointer none) ∧ Below w.heap.size w w' := by
  have H := Lib.hid h
  clear h
  by_cases hs : s.size ≤ 4000
  · go_enter Tryd.func29, Tryd.ntmps29
    go_upto_region 4 with (go_at_call 49; refine (parsePart_calls s.size s w (Nat.le_refl _) (by omega)).mono ?_; rintro e w1 ⟨hb1, ⟨hno, rest, rfl⟩ | ⟨f, rest, b, hp, htr, rfl⟩⟩)
    · have Hb1 := Lib.hid hb1
      clear hno hb1
      go_wp2_with fail
      all_goals (go_ret; exact ⟨rfl, Hb1.out⟩)
    · have hr : rest.data.toList ≠ [] := by
        intro e
        apply H.out
        have e1 := parse_some.1 hp
        rw [e] at e1
        exact ⟨by rw [← Lib.size_eq]; exact hs, f, by simpa using e1⟩
      have hr0 : 0 < rest.size := by
        rw [Lib.size_eq]
        exact List.length_pos_iff.2 hr
      obtain ⟨hne, hne2⟩ := empty_facts hr0
      have Hb1 := Lib.hid hb1
      clear hp htr hb1 hr
      go_wp2_with fail
      go_ret
      exact ⟨rfl, Hb1.out⟩
  · go_enter Tryd.func29, Tryd.ntmps29
    go_wp2_with fail
    go_ret
    exact ⟨rfl, Below.refl _ _⟩

set_option maxHeartbeats 400000 in
theorem parseFormula_yes (s : ByteArray) (f : Fm) (w : World) (hs : s.size ≤ 4000) (h : s.data.toList = f.text) :
    Calls Tryd.prog 29 #[.string s] w (TreePost f w) := by
  have H := Lib.hid h
  clear h
  go_enter Tryd.func29, Tryd.ntmps29
  go_upto_region 4 with (go_at_call 49; refine (parsePart_calls s.size s w (Nat.le_refl _) (by omega)).mono ?_; rintro e w1 ⟨hb1, ⟨hno, rest, rfl⟩ | ⟨g, rest, b, hp, htr, rfl⟩⟩)
  · exact absurd (H.out.trans (List.append_nil _).symm) (parse_none.1 hno f [])
  · have e1 := parse_some.1 hp
    rw [H.out] at e1
    obtain ⟨rfl, e2⟩ := Fm.text_inj f g [] _ (by simpa using e1)
    have hl2 : rest.toList = [] := by rw [ByteArray.toList_eq]; exact e2.symm
    have g1 : (rest.toList == []) = true := by rw [hl2]; rfl
    have g2 : rest.toList.isEmpty = true := by rw [hl2]; rfl
    have Hb1 := Lib.hid hb1
    have Htr := Lib.hid htr
    clear hp htr hb1 e1 e2 hl2
    go_wp2_with fail
    go_ret
    exact ⟨b, rfl, Htr.out, Hb1.out⟩

end Go.Proofs.YtpaleogkgfclnaaDoor

namespace Go.Proofs.YtpaleogkgfclnaaDoor
open Go.RowKit
open Pl

/-- the cells of a node that a walk reads -/
theorem node_cells {S : Nat → Prop} {w : World} {f : Fm} {b : Nat} (h : TreeIn S w f b) :
    ∃ ks vsv psv, w.cell? ⟨b, 0, none⟩ = some (.int .u8 f.op.toNat) ∧ w.cell? ⟨b, 1, none⟩ = some vsv ∧ w.cell? ⟨b, 2, none⟩ = some psv ∧
      w.cell? ⟨b, 3, none⟩ = some (.int .i64 f.freeBits) ∧ w.cell? ⟨b, 4, none⟩ = some (.int .i64 f.allBits) ∧
      w.ownsRow 0 5 1 vsv f.vars.length (f.vars.map fun v => byteV (vb v)) ∧ w.ownsRow 0 52 1 psv ks.length (ks.map kidV) ∧ TreesIn S w f.parts ks := by
  obtain ⟨ks, ⟨_, vsv, psv, hb, h1, _, h2, _⟩, h3⟩ := h.open
  exact ⟨ks, vsv, psv, cell_at hb 0, cell_at hb 1, cell_at hb 2, cell_at hb 3, cell_at hb 4, h1, h2, h3⟩

/-- a row that may be empty, as a slice -/
theorem row_slice {w : World} {base : Nat} {e : TypeId} {v : Value} {n : Nat} {xs : List Value} (h : w.ownsRow base e 1 v n xs) :
    ∃ a cap, v = .slice a n cap ∧ xs.length = n ∧ (∀ j, j < n → ∃ g, a = some ⟨g, 0, none⟩ ∧ w.cell? ⟨g, j, none⟩ = xs[j]?) := by
  rcases Nat.eq_zero_or_pos n with h0 | h0
  · subst h0
    obtain ⟨hl, ⟨rfl, _⟩ | ⟨g, cap, cur, rfl, _⟩⟩ := h
    · exact ⟨_, _, rfl, by simpa using hl, fun j hj => absurd hj (Nat.not_lt_zero _)⟩
    · exact ⟨_, _, rfl, by simpa using hl, fun j hj => absurd hj (Nat.not_lt_zero _)⟩
  · obtain ⟨g, cap, rfl, _, _, _, _, hc⟩ := row_open h h0
    exact ⟨_, _, rfl, by simpa using h.1, fun j hj => ⟨g, rfl, hc j hj⟩⟩

theorem parts_le (f : Fm) : f.parts.length ≤ 2 := by cases f <;> simp [Fm.parts]
theorem vars_le (f : Fm) : f.vars.length ≤ 2 := by cases f <;> simp [Fm.vars]

theorem part_text_le {f p : Fm} (h : p ∈ f.parts) : p.text.length ≤ f.text.length := by
  cases f <;> simp [Fm.parts] at h
  case neg => subst h; simp [Fm.text]
  case con => rcases h with h | h <;> subst h <;> simp [Fm.text] <;> omega
  case dis => rcases h with h | h <;> subst h <;> simp [Fm.text] <;> omega
  case qu => subst h; simp [Fm.text]; omega

theorem foldmax_lt {m : Nat} : ∀ (ps : List Fm), m < 100000 → (∀ p ∈ ps, p.rank < 100000) → ps.foldl (fun m p => max m p.rank) m < 100000 := by
  intro ps
  induction ps generalizing m with
  | nil => intro h _; exact h
  | cons p ps ih =>
    intro h hp
    exact ih (Nat.max_lt.2 ⟨h, hp p (by simp)⟩) (fun q hq => hp q (by simp [hq]))

set_option maxHeartbeats 400000 in
theorem rank_calls (n : Nat) : ∀ (f : Fm) (b : Nat) (S : Nat → Prop) (w : World), f.size ≤ n → TreeIn S w f b → f.text.length ≤ 4000 →
    Calls Tryd.prog 38 #[kidV b] w fun e w' => e = .returned (.int .i64 f.rank) ∧ w = w' := by
  induction n with
  | zero => intro f b S w hn _ _; cases f <;> simp [Fm.size] at hn
  | succ n ih =>
    intro f b S w hn ht hl
    obtain ⟨ks, vsv, psv, hc0, _, hc2, _, _, _, hr, hts⟩ := node_cells ht
    obtain ⟨a, cap, rfl, hkl, hrow⟩ := row_slice hr
    have hkl2 : ks.length = f.parts.length := hts.1
    have hp2 := parts_le f
    have hkl3 : ks.length ≤ 2 := by omega
    have Ih := Lib.hid ih
    have Hrow := Lib.hid hrow
    have Hts := Lib.hid hts
    have Hkl := Lib.hid hkl2
    have hrk : ∀ p ∈ f.parts, p.rank < 100000 := fun p hp => by have := rank_le p; have := part_text_le hp; omega
    have Hrk := Lib.hid hrk
    have hfin := rank_eq f
    have hrl := rank_le f
    have Hfin := Lib.hid hfin
    clear ih hrow hts hkl hkl2 hr hrk hfin ht
    go_enter Tryd.func38, Tryd.ntmps38
    go_wp2_with fail
    go_loop [3, 11] (fun m i => ∃ k : Nat, k ≤ ks.length ∧ i = .int .i64 k ∧ m = .int .i64 ((f.parts.take k).foldl (fun m p => max m p.rank) 0 : Nat)) (fun _ i => ks.length - (intOf i).toNat)
    case atStart => exact ⟨0, Nat.zero_le _, rfl, rfl⟩
    case round =>
      obtain ⟨k, hk, rfl, rfl⟩ := hrel
      have hm : ((f.parts.take k).foldl (fun m p => max m p.rank) 0) < 100000 := foldmax_lt _ (by decide) (fun p hp => Hrk.out p (List.mem_of_mem_take hp))
      by_cases hlt : k < ks.length
      · obtain ⟨g, rfl, hcell⟩ := Hrow.out k hlt
        have hkf : k < f.parts.length := by rw [← Hkl.out]; exact hlt
        have hcell2 : w.cell? ⟨g, k, none⟩ = some (kidV ks[k]) := by rw [hcell, List.getElem?_map, List.getElem?_eq_getElem hlt]; rfl
        have hpk := Hts.out.2 k f.parts[k] ks[k] (List.getElem?_eq_getElem hkf) (List.getElem?_eq_getElem hlt)
        have hmem : f.parts[k] ∈ f.parts := List.getElem_mem hkf
        have hsz := Fm.size_parts hmem
        have hcall := Ih.out f.parts[k] ks[k] S w (by omega) hpk (by have := part_text_le hmem; omega)
        have Hcall := Lib.hid hcall
        have hrk2 := Hrk.out _ hmem
        have hsnoc : (f.parts.take (k + 1)).foldl (fun m p => max m p.rank) 0 = max ((f.parts.take k).foldl (fun m p => max m p.rank) 0) f.parts[k].rank := by
          rw [List.take_succ_eq_append_getElem hkf, List.foldl_append]; rfl
        have Hsnoc := Lib.hid hsnoc
        clear hcell hpk hmem hsz hcall hsnoc
        go_wp2_with (go_at_call 38; refine (Hcall.out).mono ?_; rintro e w' ⟨rfl, rfl⟩)
        go_round
        case rel => exact ⟨k + 1, by omega, by go_num, by rw [Hsnoc.out]; congr 1; first | (split <;> omega) | omega⟩
        case measure => simp [intOf]; omega
      · have hk2 : k = ks.length := by omega
        have htk : f.parts.take k = f.parts := List.take_of_length_le (by rw [hk2, Hkl.out]; exact Nat.le_refl _)
        have Htk := Lib.hid htk
        clear htk hk2
        cases hco : isCoB f.op with
        | true =>
          have hadd : rankAdd f.op = f.op.toNat - 48 := by simp [rankAdd, hco]
          have hop : 50 ≤ f.op.toNat ∧ f.op.toNat ≤ 52 := by
            simp only [isCoB, Bool.or_eq_true, beq_iff_eq] at hco
            rcases hco with (h | h) | h <;> rw [h] <;> decide
          obtain ⟨hop1, hop2⟩ : 50 ≤ (f.op.toNat : Int) ∧ (f.op.toNat : Int) ≤ 52 := by omega
          have Hadd := Lib.hid hadd
          have Hco := Lib.hid hco
          clear hadd hco hop
          go_wp2_with (first | (go_at_call 60; refine (isCounting_at f.op _ Hco.out _ _ hc0).mono ?_; rintro e w' ⟨rfl, rfl⟩))
          go_ret
          refine ⟨ret_int ?_, rfl⟩
          rw [Hfin.out, Hadd.out, Htk.out]
          omega
        | false =>
          cases hqu : isQuB f.op with
          | true =>
            have hadd : rankAdd f.op = 1 := by simp [rankAdd, hco, hqu]
            have Hadd := Lib.hid hadd
            have Hco := Lib.hid hco
            have Hqu := Lib.hid hqu
            clear hadd hco hqu
            go_wp2_with (first | (go_at_call 60; refine (isCounting_at f.op _ Hco.out _ _ hc0).mono ?_; rintro e w' ⟨rfl, rfl⟩) | (go_at_call 62; refine (isQuantifier_at f.op _ Hqu.out _ _ hc0).mono ?_; rintro e w' ⟨rfl, rfl⟩))
            go_ret
            refine ⟨ret_int ?_, rfl⟩
            rw [Hfin.out, Hadd.out, Htk.out]
            omega
          | false =>
            have hadd : rankAdd f.op = 0 := by simp [rankAdd, hco, hqu]
            have Hadd := Lib.hid hadd
            have Hco := Lib.hid hco
            have Hqu := Lib.hid hqu
            clear hadd hco hqu
            go_wp2_with (first | (go_at_call 60; refine (isCounting_at f.op _ Hco.out _ _ hc0).mono ?_; rintro e w' ⟨rfl, rfl⟩) | (go_at_call 62; refine (isQuantifier_at f.op _ Hqu.out _ _ hc0).mono ?_; rintro e w' ⟨rfl, rfl⟩))
            go_ret
            refine ⟨ret_int ?_, rfl⟩
            rw [Hfin.out, Hadd.out, Htk.out]
            omega

/-- what a walk over the parts is told -/
def AnyPost (f : Fm) (e : Ending) : Prop := (f.parts.any Fm.counts = false ∧ e = .returned (.int .i64 (-1))) ∨ (f.parts.any Fm.counts = true ∧ ∃ k : Nat, k ≤ 2 ∧ e = .returned (.int .i64 k))

set_option maxHeartbeats 400000 in
theorem counts_calls (n : Nat) : ∀ (f : Fm) (b : Nat) (S : Nat → Prop) (w : World), f.size ≤ n → TreeIn S w f b →
    Calls Tryd.prog 37 #[kidV b] w fun e w' => e = .returned (.bool f.counts) ∧ w = w' := by
  induction n with
  | zero => intro f b S w hn _; cases f <;> simp [Fm.size] at hn
  | succ n ih =>
    intro f b S w hn ht
    obtain ⟨ks, vsv, psv, hc0, _, hc2, _, _, _, hr, hts⟩ := node_cells ht
    obtain ⟨a, cap, rfl, hkl, hrow⟩ := row_slice hr
    have hkl2 : ks.length = f.parts.length := hts.1
    have hp2 := parts_le f
    have hkl3 : ks.length ≤ 2 := by omega
    have Ih := Lib.hid ih
    have Hrow := Lib.hid hrow
    have Hts := Lib.hid hts
    have Hkl := Lib.hid hkl2
    have hfin := counts_eq f
    have Hfin := Lib.hid hfin
    clear ih hrow hts hkl hkl2 hr hfin ht
    have hidx : Calls Tryd.prog 87 #[.slice a ks.length cap, .func (.func 37) #[] #[]] w fun e w' => AnyPost f e ∧ w = w' := by
      go_enter Tryd.func87, Tryd.ntmps87
      go_wp2_with fail
      go_loop [8] (fun i => ∃ k : Nat, k ≤ ks.length ∧ i = .int .i64 k ∧ (f.parts.take k).any Fm.counts = false) (fun i => ks.length - (intOf i).toNat)
      case atStart => exact ⟨0, Nat.zero_le _, rfl, rfl⟩
      case round =>
        obtain ⟨k, hk, rfl, hno⟩ := hrel
        have Hno := Lib.hid hno
        clear hno
        by_cases hlt : k < ks.length
        · obtain ⟨g, rfl, hcell⟩ := Hrow.out k hlt
          have hkf : k < f.parts.length := by rw [← Hkl.out]; exact hlt
          have hcell2 : w.cell? ⟨g, k, none⟩ = some (kidV ks[k]) := by rw [hcell, List.getElem?_map, List.getElem?_eq_getElem hlt]; rfl
          have hpk := Hts.out.2 k f.parts[k] ks[k] (List.getElem?_eq_getElem hkf) (List.getElem?_eq_getElem hlt)
          have hmem : f.parts[k] ∈ f.parts := List.getElem_mem hkf
          have hsz := Fm.size_parts hmem
          have hcall := Ih.out f.parts[k] ks[k] S w (by omega) hpk
          have Hmem := Lib.hid hmem
          have hsnoc : (f.parts.take (k + 1)).any Fm.counts = ((f.parts.take k).any Fm.counts || f.parts[k].counts) := by
            rw [List.take_succ_eq_append_getElem hkf, List.any_append]; simp
          have Hsnoc := Lib.hid hsnoc
          clear hcell hpk hmem hsz hsnoc
          cases hcv : f.parts[k].counts with
          | true =>
            rw [hcv] at hcall
            have Hcall := Lib.hid hcall
            have Hcv := Lib.hid hcv
            clear hcall hcv
            go_wp2_with (go_at_call 37; refine (Hcall.out).mono ?_; rintro e w' ⟨rfl, rfl⟩)
            go_ret
            exact ⟨.inr ⟨List.any_eq_true.2 ⟨_, Hmem.out, Hcv.out⟩, k, by omega, rfl⟩, rfl⟩
          | false =>
            rw [hcv] at hcall
            have Hcall := Lib.hid hcall
            have Hcv := Lib.hid hcv
            clear hcall hcv
            go_wp2_with (go_at_call 37; refine (Hcall.out).mono ?_; rintro e w' ⟨rfl, rfl⟩)
            go_round
            case rel => exact ⟨k + 1, by omega, by go_num, by rw [Hsnoc.out, Hno.out, Hcv.out]; rfl⟩
            case measure => simp [intOf]; omega
        · have hk2 : k = ks.length := by omega
          have htk : f.parts.take k = f.parts := List.take_of_length_le (by rw [hk2, Hkl.out]; exact Nat.le_refl _)
          have Htk := Lib.hid htk
          clear htk hk2
          go_wp2_with fail
          go_ret
          exact ⟨.inl ⟨by rw [← Htk.out]; exact Hno.out, rfl⟩, rfl⟩
    have Hidx := Lib.hid hidx
    clear hidx
    cases hco : isCoB f.op with
    | true =>
      have hv : f.counts = true := by rw [Hfin.out, hco]; rfl
      rw [hv]
      have Hco := Lib.hid hco
      clear hco hv
      go_enter Tryd.func37, Tryd.ntmps37
      go_wp2_with (go_at_call 60; refine (isCounting_at f.op _ Hco.out _ _ hc0).mono ?_; rintro e w' ⟨rfl, rfl⟩)
      go_ret
      exact ⟨rfl, rfl⟩
    | false =>
      have hv : f.counts = f.parts.any Fm.counts := by rw [Hfin.out, hco]; rfl
      have hcf : Calls Tryd.prog 61 #[.slice a ks.length cap, .func (.func 37) #[] #[]] w fun e w' => e = .returned (.bool (f.parts.any Fm.counts)) ∧ w = w' := by
        go_enter Tryd.func61, Tryd.ntmps61
        go_wp2_with (go_at_call 87; refine (Hidx.out).mono ?_; rintro e w' ⟨⟨hno, rfl⟩ | ⟨hyes, k, hk, rfl⟩, rfl⟩)
        · go_ret
          exact ⟨ret_bool (by rw [hno]), rfl⟩
        · go_ret
          exact ⟨ret_bool (by rw [hyes]), rfl⟩
      have Hco := Lib.hid hco
      have Hcf := Lib.hid hcf
      have Hv := Lib.hid hv
      clear hco hcf hv
      go_enter Tryd.func37, Tryd.ntmps37
      go_wp2_with (first | (go_at_call 60; refine (isCounting_at f.op _ Hco.out _ _ hc0).mono ?_; rintro e w' ⟨rfl, rfl⟩) | (go_at_call 61; refine (Hcf.out).mono ?_; rintro e w' ⟨rfl, rfl⟩))
      go_ret
      exact ⟨ret_bool Hv.out.symm, rfl⟩

/-- a bit as the walk reckons it -/
theorem shr_bit (m k : Nat) (hm : m < 16) (hk : k < 4) : (bits .and .i64 ((m : Int) / 2 ^ k) 1 == 1) = m.testBit k := by
  have h : ∀ (m : Fin 16) (k : Fin 4), (bits .and .i64 ((m.val : Int) / 2 ^ k.val) 1 == 1) = m.val.testBit k.val := by decide +kernel
  exact h ⟨m, hm⟩ ⟨k, hk⟩

theorem abcd_at (k : Nat) (hk : k < 4) : (ByteArray.mk #[97, 98, 99, 100]).extract k (k + 1) = bs [UInt8.ofNat (97 + k)] := by
  apply eq_bs
  rw [Lib.extract_data]
  match k, hk with
  | 0, _ => rfl
  | 1, _ => rfl
  | 2, _ => rfl
  | 3, _ => rfl

set_option maxHeartbeats 400000 in
theorem varsText_calls (m : Nat) (hm : m < 16) (w : World) :
    Calls Tryd.prog 39 #[.int .i64 m] w fun e w' => e = .returned (.string (bs (varsL m 4))) ∧ w = w' := by
  go_enter Tryd.func39, Tryd.ntmps39
  go_wp2_with fail
  go_loop [3, 5] (fun o i => ∃ k : Nat, k ≤ 4 ∧ i = .int .i64 k ∧ o = .string (bs (varsL m k))) (fun _ i => 4 - (intOf i).toNat)
  case atStart => exact ⟨0, by omega, rfl, rfl⟩
  case round =>
    obtain ⟨k, hk, rfl, rfl⟩ := hrel
    have hsz : (bs (varsL m k)).size ≤ 4 := by rw [bs_size]; have := varsL_len m k; omega
    by_cases hlt : k < 4
    · have hbit := shr_bit m k hm hlt
      cases hb : m.testBit k with
      | true =>
        rw [hb] at hbit
        have Hb := Lib.hid hb
        clear hb
        go_wp2_with fail
        go_round
        case rel => exact ⟨k + 1, by omega, by go_num, str_eq (by rw [varsL_yes Hb.out, abcd_at k hlt, append_bs]; rfl)⟩
        case measure => simp [intOf]; omega
      | false =>
        rw [hb] at hbit
        have Hb := Lib.hid hb
        clear hb
        go_wp2_with fail
        go_round
        case rel => exact ⟨k + 1, by omega, by go_num, str_eq (by rw [varsL_no Hb.out])⟩
        case measure => simp [intOf]; omega
    · obtain rfl : k = 4 := by omega
      go_wp2_with fail
      go_ret
      exact ⟨rfl, rfl⟩

end Go.Proofs.YtpaleogkgfclnaaDoor

namespace Go.Proofs.YtpaleogkgfclnaaDoor
open Go.RowKit
open Pl

theorem findB_quant (b : UInt8) : decide (0 ≤ findB b [65, 83, 50, 51, 52]) = isQuB b := by
  have h := findB_nonneg (c := b) (l := [65, 83, 50, 51, 52])
  rw [Bool.eq_iff_iff, decide_eq_true_iff, h]
  simp [isQuB, or_assoc]

theorem l2Quant_calls (b : UInt8) (r : Bool) (hr : isQuB b = r) (w : World) :
    Calls Tryd.prog 53 #[.int .u8 b.toNat] w fun e w' => e = .returned (.bool r) ∧ w = w' := by
  have Hr := Lib.hid hr
  clear hr
  go_enter Tryd.func53, Tryd.ntmps53
  go_wp2_with (go_at_call 77; refine (l15Find_calls _ b _ (by decide)).mono ?_; rintro e w' ⟨rfl, rfl⟩)
  go_ret
  exact ⟨ret_bool (by rw [← Hr.out]; exact findB_quant b), rfl⟩

/-- a formula at an index -/
theorem at_op {s : ByteArray} {k : Nat} {f : Fm} {r : List UInt8} (h : s.data.toList.drop k = f.text ++ r) :
    ∃ hk : k < s.size, s[k] = f.op ∧ k + f.text.length ≤ s.size := by
  have h1 := congrArg List.length h
  rw [List.length_drop, List.length_append, ← Lib.size_eq] at h1
  have hp := f.text_pos
  have hk : k < s.size := by omega
  refine ⟨hk, ?_, by omega⟩
  rw [drop_at hk, Fm.text_eq] at h
  simp only [List.cons_append, List.cons.injEq] at h
  exact h.1

theorem at_two {l : List UInt8} {k : Nat} {b : UInt8} {p q : Fm} {r : List UInt8} (h : l.drop k = b :: (p.text ++ q.text) ++ r) :
    l.drop (k + 1) = p.text ++ (q.text ++ r) ∧ l.drop (k + 1 + p.text.length) = q.text ++ r := by
  have h1 : l.drop (k + 1) = p.text ++ (q.text ++ r) := drop_add_of (p := [b]) (by simpa using h)
  exact ⟨h1, drop_add_of h1⟩

theorem at_one {l : List UInt8} {k : Nat} {b : UInt8} {p : Fm} {r : List UInt8} (h : l.drop k = b :: p.text ++ r) : l.drop (k + 1) = p.text ++ r := drop_add_of (p := [b]) (by simpa using h)
theorem at_qu {l : List UInt8} {k : Nat} {b c : UInt8} {p : Fm} {r : List UInt8} (h : l.drop k = b :: c :: p.text ++ r) : l.drop (k + 2) = p.text ++ r := drop_add_of (p := [b, c]) (by simpa using h)

/-- -1 for a text that is no formula, else a number -/
noncomputable def numV (l : List UInt8) (g : Fm → Nat) : Int := match parse l with | some (f, []) => if l.length ≤ 4000 then (g f : Int) else -1 | _ => -1

theorem numV_yes {l : List UInt8} {f : Fm} (g : Fm → Nat) (h : l = f.text) (hl : l.length ≤ 4000) : numV l g = g f := by
  unfold numV
  rw [parse_some.2 (show l = f.text ++ [] by rw [h]; simp)]
  simp [hl]

theorem numV_no {l : List UInt8} (g : Fm → Nat) (h : ¬ IsFm l) : numV l g = -1 := by
  unfold numV
  cases hp : parse l with
  | none => rfl
  | some x =>
    obtain ⟨f, r⟩ := x
    cases r with
    | nil =>
      have := parse_some.1 hp
      by_cases hl : l.length ≤ 4000
      · exact absurd ⟨hl, f, by simpa using this⟩ h
      · simp [hl]
    | cons a r => rfl

/-- a formula, or not -/
theorem fm_cases (s : ByteArray) : (fmB s.data.toList = false ∧ ¬ IsFm s.data.toList) ∨ ∃ f : Fm, fmB s.data.toList = true ∧ s.data.toList = f.text ∧ s.size ≤ 4000 ∧ f.text.length ≤ 4000 := by
  by_cases h : IsFm s.data.toList
  · obtain ⟨hl, f, hf⟩ := h
    exact .inr ⟨f, fmB_true.2 ⟨hl, f, hf⟩, hf, by rw [Lib.size_eq]; exact hl, by rw [← hf]; exact hl⟩
  · exact .inl ⟨fmB_false.2 h, h⟩

theorem RankOf_impl (s : ByteArray) (w : World) :
    Calls Tryd.prog 14 #[.string s] w fun e w' => e = .returned (.int .i64 (numV s.data.toList Fm.rank)) ∧ Below w.heap.size w w' := by
  rcases fm_cases s with ⟨hb, hno⟩ | ⟨f, hb, hf, hs4, hl4⟩
  · have hv := numV_no Fm.rank hno
    rw [hv]
    have Hno := Lib.hid hno
    clear hb hv hno
    go_enter Tryd.func14, Tryd.ntmps14
    go_wp2_with (go_at_call 29; refine (parseFormula_no s w Hno.out).mono ?_; rintro e w1 ⟨rfl, hb1⟩)
    go_ret
    exact ⟨rfl, hb1⟩
  · have hv := numV_yes Fm.rank hf (by rw [hf]; exact hl4)
    rw [hv]
    have Hf := Lib.hid hf
    clear hb hv hf
    go_enter Tryd.func14, Tryd.ntmps14
    go_wp2_with (first | (go_at_call 29; refine (parseFormula_yes s f w hs4 Hf.out).mono ?_; rintro e w1 ⟨b, rfl, htr, hb1⟩; have Htr := Lib.hid htr; clear htr) | (go_at_call 38; refine (rank_calls f.size f b _ _ (Nat.le_refl _) Htr.out hl4).mono ?_; rintro e w' ⟨rfl, rfl⟩))
    go_ret
    exact ⟨rfl, hb1⟩


end Go.Proofs.YtpaleogkgfclnaaDoor

namespace Go.Proofs.YtpaleogkgfclnaaDoor
open Go.RowKit
open Pl
set_option linter.unusedSimpArgs false

/-- the row of strings that a slice names -/
def SRow (w : World) (v : Value) (zs : List ByteArray) : Prop :=
  (v = .slice none 0 0 ∧ zs = []) ∨ ∃ (a : Addr) (cap : Nat), v = .slice (some a) zs.length cap ∧ zs.length ≤ cap ∧ cap ≤ maxLen ∧ (∀ i, i < zs.length → w.cell? (a.add i) = some (.string (zs.getD i ByteArray.empty))) ∧ ∀ s ∈ zs, s.size ≤ maxLen

/-- the bytes of a row of strings -/
def szL (zs : List ByteArray) : Nat := (zs.map ByteArray.size).sum

theorem szL_take {zs : List ByteArray} {k : Nat} (h : k < zs.length) : szL (zs.take (k + 1)) = szL (zs.take k) + (zs.getD k ByteArray.empty).size := by
  unfold szL
  rw [List.take_succ_eq_append_getElem h, List.map_append, List.sum_append]
  simp [List.getD, h]

theorem add_zero_at (g i : Nat) : (⟨g, 0, none⟩ : Addr).add i = ⟨g, i, none⟩ := by
  unfold Addr.add; split <;> simp_all

theorem SRow_of {w : World} {base g n : Nat} {xs : List Value} {zs : List ByteArray} (h : w.ownsRow base 9 1 (.slice (some ⟨g, 0, none⟩) n n) n xs) (hn : n = zs.length) (hm : n ≤ maxLen)
    (hx : ∀ j, j < n → xs[j]? = some (.string (zs.getD j ByteArray.empty))) (hs : ∀ s ∈ zs, s.size ≤ maxLen) : SRow w (.slice (some ⟨g, 0, none⟩) n n) zs := by
  subst hn
  refine .inr ⟨_, _, rfl, Nat.le_refl _, hm, fun i hi => ?_, hs⟩
  have := h.cellAt i (by omega)
  rw [hx i hi] at this
  rw [add_zero_at]; exact this

theorem SRow.lt {w : World} {v : Value} {zs : List ByteArray} (h : SRow w v zs) (w' : World) (hb : Below w.heap.size w w') : SRow w' v zs := by
  rcases h with h | ⟨a, cap, rfl, hle, hm, hc, hs⟩
  · exact .inl h
  · exact .inr ⟨a, cap, rfl, hle, hm, fun i hi => (hb.cell (World.block_lt_of_cell? w (a.add i) (hc i hi))).trans (hc i hi), hs⟩

end Go.Proofs.YtpaleogkgfclnaaDoor

namespace Go.Proofs.YtpaleogkgfclnaaDoor
open Go.RowKit
open Pl

theorem bytes_push : ∀ (bytes : List UInt8) (s : ByteArray), (bytes.map fun b => (b.toNat : Int)).foldl (fun r n => r.push (UInt8.ofNat n.toNat)) s = bs (s.data.toList ++ bytes) := by
  intro bytes
  induction bytes with
  | nil => intro s; simp [bs_of]
  | cons b bytes ih =>
    intro s
    rw [List.map_cons, List.foldl_cons, ih]
    congr 1
    simp

/-- a row of bytes as a text -/
theorem conv_row {w : World} {base : Nat} {v : Value} {n : Nat} {bytes : List UInt8} (h : w.ownsRow base 5 1 v n (bytes.map byteV)) :
    (convert 22 9 v).run Tryd.prog w = .ok (.string (bs bytes)) w := by
  obtain ⟨a, cap, rfl, hl, hc⟩ := row_slice h
  rw [run_convert_bytes_string w _ _ 5 a n cap Tryd.underlying22 Tryd.underlying5 Tryd.underlying9]
  have hl2 : bytes.length = n := by simpa using hl
  cases a with
  | none =>
    have hn : n = 0 := by
      rcases Nat.eq_zero_or_pos n with h0 | h0
      · exact h0
      · obtain ⟨g, hg, _⟩ := hc 0 h0
        cases hg
    have hb : bytes = [] := List.eq_nil_of_length_eq_zero (by omega)
    subst hb
    rfl
  | some x =>
    rw [run_bytesToString w x n cap (bytes.map fun b => (b.toNat : Int))]
    · rw [bytes_push]; rfl
    · have hcells := run_loadCells (P := Tryd.prog) (w := w) x n (fun j => byteV (bytes.getD j 0)) (fun j hj => by
        obtain ⟨g, hg, hcell⟩ := hc j hj
        injection hg with hg
        subst hg
        have e1 : (⟨g, 0, none⟩ : Addr).add j = ⟨g, j, none⟩ := by unfold Addr.add; split <;> simp_all
        rw [e1, hcell, List.getElem?_map, List.getElem?_eq_getElem (by omega)]
        simp [List.getD, List.getElem?_eq_getElem (show j < bytes.length by omega)])
      rw [hcells]
      congr 1
      apply Array.ext'
      simp only [List.map_map]
      apply List.ext_getElem?
      intro i
      by_cases hi : i < n
      · simp [List.getElem?_map, List.getElem?_eq_getElem (show i < bytes.length by omega), hi, byteV, List.getD]
      · simp [List.getElem?_eq_none (show bytes.length ≤ i by omega), hi]

/-- the bytes ahead of the parts -/
def Pl.Fm.headL (f : Fm) : List UInt8 := f.op :: f.vars.map vb

theorem head_len (f : Fm) : f.headL.length ≤ 3 := by have := vars_le f; simp [Fm.headL]; omega

/-- the bytes up to part k, the parts' own texts given -/
def headT (f : Fm) (h : List UInt8) (g : Fm → List UInt8) (k : Nat) : List UInt8 := h ++ ((f.parts.take k).map g).flatten

theorem headT_zero (f : Fm) (h : List UInt8) (g : Fm → List UInt8) : headT f h g 0 = h := by simp [headT]
theorem headT_succ (f : Fm) (h : List UInt8) (g : Fm → List UInt8) (k : Nat) (hk : k < f.parts.length) : headT f h g (k + 1) = headT f h g k ++ g f.parts[k] := by
  unfold headT
  rw [List.take_succ_eq_append_getElem hk, List.map_append, List.flatten_append, List.append_assoc]
  simp only [List.map_cons, List.map_nil, List.flatten_cons, List.flatten_nil, List.append_nil]
theorem headT_all (f : Fm) (h : List UInt8) (g : Fm → List UInt8) (k : Nat) (hk : f.parts.length ≤ k) : headT f h g k = h ++ (f.parts.map g).flatten := by
  unfold headT; rw [List.take_of_length_le hk]
theorem headT_len (f : Fm) (h : List UInt8) (g : Fm → List UInt8) (k m n : Nat) (hh : h.length ≤ m) (hg : ∀ p ∈ f.parts, (g p).length ≤ n) : (headT f h g k).length ≤ m + 2 * n := by
  unfold headT
  rw [List.length_append]
  have h2 : ∀ ps : List Fm, (∀ p ∈ ps, (g p).length ≤ n) → ((ps.map g).flatten).length ≤ ps.length * n := by
    intro ps
    induction ps with
    | nil => intro _; simp
    | cons p ps ih =>
      intro hp
      have h1 := hp p (by simp)
      have h3 := ih (fun q hq => hp q (by simp [hq]))
      simp only [List.map_cons, List.flatten_cons, List.length_append, List.length_cons, Nat.add_mul, Nat.one_mul]
      omega
  have h3 := h2 (f.parts.take k) (fun p hp => hg p (List.mem_of_mem_take hp))
  have h4 : (f.parts.take k).length ≤ 2 := by have := parts_le f; simp; omega
  have h5 := Nat.mul_le_mul_right n h4
  omega

theorem vars_bytes (f : Fm) : (f.vars.map fun v => byteV (vb v)) = (f.vars.map vb).map byteV := by simp

theorem ownsRow_world {w w' : World} {base : Nat} {e : TypeId} {size : Nat} {v : Value} {n : Nat} {xs : List Value} (h : w.ownsRow base e size v n xs) (hb : Below w.heap.size w w') : w'.ownsRow base e size v n xs :=
  ownsRow_keep h fun g hg => ⟨hb.block g (ownsRow_lt h hg).2, (ownsRow_lt h hg).1⟩

/-- a new slice of one byte -/
theorem new_byte (w : World) (b : UInt8) : ((w.alloc (.cells #[.int .u8 b.toNat] 5)).drew).ownsRow 0 5 1 (.slice (some ⟨w.heap.size, 0, none⟩) 1 1) 1 ([b].map byteV) :=
  ⟨rfl, .inr ⟨w.heap.size, 1, _, rfl, Nat.zero_le _, heap_alloc_new w _, Nat.le_refl _, by unfold maxLen; omega, rfl, rfl⟩⟩

theorem TreeIn.world {S : Nat → Prop} {w w' : World} {f : Fm} {b : Nat} (h : TreeIn S w f b) (hb : Below w.heap.size w w') : TreeIn S w' f b := TreeIn.keep (fun g hs hg => ⟨hb.block g hg, hs⟩) f b h

theorem TreesIn.world {S : Nat → Prop} {w w' : World} {ps : List Fm} {ks : List Nat} (h : TreesIn S w ps ks) (hb : Below w.heap.size w w') : TreesIn S w' ps ks := h.keep fun g hs hg => ⟨hb.block g hg, hs⟩

set_option maxHeartbeats 1000000 in
theorem text_calls (n : Nat) : ∀ (f : Fm) (b : Nat) (S : Nat → Prop) (w : World), f.size ≤ n → TreeIn S w f b → f.text.length ≤ 300000 →
    Calls Tryd.prog 75 #[kidV b] w fun e w' => e = .returned (.string (bs f.text)) ∧ Below w.heap.size w w' := by
  induction n with
  | zero => intro f b S w hn _ _; cases f <;> simp [Fm.size] at hn
  | succ n ih =>
    intro f b S w hn ht hl
    have Ht := Lib.hid ht
    obtain ⟨ks0, vsv, psv0, hc0, hc1, hc2, _, _, hr1, _, _⟩ := node_cells ht
    have hcv1 : (convert 22 9 vsv).run Tryd.prog w.drew = .ok (.string (bs (f.vars.map vb))) w.drew := conv_row (w := w.drew) (base := 0) (n := f.vars.length) (by rw [← vars_bytes]; exact hr1)
    have hcv2 : ∀ o, (convert 22 9 vsv).run Tryd.prog (w.alloc o).drew = .ok (.string (bs (f.vars.map vb))) (w.alloc o).drew := fun o => conv_row (w := (w.alloc o).drew) (base := 0) (n := f.vars.length) (by rw [← vars_bytes]; exact ownsRow_world hr1 ((Below.refl _ _).alloc (Nat.le_refl _) _).drew)
    have hcv3 : (convert 22 9 (.slice (some ⟨w.heap.size, 0, none⟩) 1 1)).run Tryd.prog (w.alloc (.cells #[.int .u8 f.op.toNat] 5)).drew = .ok (.string (bs [f.op])) (w.alloc (.cells #[.int .u8 f.op.toNat] 5)).drew := conv_row (new_byte w f.op)
    have hlb := World.block_lt_of_cell? w _ hc0
    have ha0 : ∀ o, (w.alloc o).cell? ⟨b, 0, none⟩ = some (.int .u8 f.op.toNat) := fun o => (World.cell?_of_block (w := w) (Below.heap_alloc w o b hlb)).trans hc0
    have ha1 : ∀ o, (w.alloc o).cell? ⟨b, 1, none⟩ = some vsv := fun o => (World.cell?_of_block (w := w) (Below.heap_alloc w o b hlb)).trans hc1
    have Ih := Lib.hid ih
    have hsz : (bs (f.vars.map vb)).size ≤ 2 := by rw [bs_size]; have := vars_le f; simp; omega
    have hsz1 : (bs [f.op]).size ≤ 1 := by rw [bs_size]; simp
    clear ih ht hr1
    go_enter Tryd.func75, Tryd.ntmps75
    go_upto_region 1 with (fail)
    go_cut [3] (fun s wx => s = .string (bs f.headL) ∧ Below w.heap.size w wx)
    case first =>
      go_region
      all_goals
        go_wp2_with fail
        go_meet
        case rel => exact ⟨str_eq (append_bs _ _), ((Below.refl _ _).alloc (Nat.le_refl _) _).drew⟩
    case rest =>
      obtain ⟨rfl, hbc⟩ := hcut
      have Hbc := Lib.hid hbc
      have ht2 := TreeIn.world Ht.out hbc
      clear hc0 hc1 hc2 hcv1 hcv2 hcv3 hlb ha0 ha1 hsz hsz1 hbc
      obtain ⟨ks, vsv2, psv, hc0, _, hc2, _, _, _, hr, hts⟩ := node_cells ht2
      obtain ⟨a, cap, rfl, hkl, hrow⟩ := row_slice hr
      have hkl2 : ks.length = f.parts.length := hts.1
      have hp2 := parts_le f
      have hkl3 : ks.length ≤ 2 := by omega
      have Hrow := Lib.hid hrow
      have Hts := Lib.hid hts
      have Hkl := Lib.hid hkl2
      clear hrow hts hkl hkl2 hr ht2
      go_wp2_with fail
      go_loopg [3, 23] ks.length (fun c o i wr => ∃ k : Nat, k + c = ks.length ∧ i = .int .i64 k ∧ o = .string (bs (headT f f.headL Fm.text k)) ∧ Below wc.heap.size wc wr)
      case atStart => exact ⟨0, by omega, rfl, by rw [headT_zero], Below.refl _ _⟩
      case round =>
        obtain ⟨k, hk, rfl, rfl, hbr⟩ := hrel
        have Hbr := Lib.hid hbr
        clear hbr
        by_cases hlt : k < ks.length
        · obtain ⟨g, rfl, hcell⟩ := Hrow.out k hlt
          have hkf : k < f.parts.length := by rw [← Hkl.out]; exact hlt
          have hcell1 : wc.cell? ⟨g, k, none⟩ = some (kidV ks[k]) := by rw [hcell, List.getElem?_map, List.getElem?_eq_getElem hlt]; rfl
          have hcell2 : wr.cell? ⟨g, k, none⟩ = some (kidV ks[k]) := (Hbr.out.cell (World.block_lt_of_cell? wc _ hcell1)).trans hcell1
          have hpk := (Hts.out.world Hbr.out).2 k f.parts[k] ks[k] (List.getElem?_eq_getElem hkf) (List.getElem?_eq_getElem hlt)
          have hmem : f.parts[k] ∈ f.parts := List.getElem_mem hkf
          have hsz := Fm.size_parts hmem
          have hcall := Ih.out f.parts[k] ks[k] S wr (by omega) hpk (by have := part_text_le hmem; omega)
          have Hcall := Lib.hid hcall
          have hsnoc := headT_succ f f.headL Fm.text k hkf
          have hs1 : (bs f.parts[k].text).size ≤ 300000 := by rw [bs_size]; have := part_text_le hmem; omega
          have hs2 : (bs (headT f f.headL Fm.text k)).size ≤ 600003 := by rw [bs_size]; have := headT_len f f.headL Fm.text k 3 300000 (head_len f) (fun p hp => by have := part_text_le hp; omega); omega
          have Hsnoc := Lib.hid hsnoc
          clear hcell hcell1 hpk hmem hsz hcall hsnoc
          go_wp2_with (go_at_call 75; refine (Hcall.out).mono ?_; rintro e w' ⟨rfl, hb2⟩)
          go_roundg (gk - 1)
          case rel => exact ⟨k + 1, by omega, by go_num, str_eq (by rw [append_bs, Hsnoc.out, bs_data, bs_data]), Hbr.out.trans (hb2.mono Hbr.out.size)⟩
          case measure => omega
        · have hk2 : k = ks.length := by omega
          have htk := headT_all f f.headL Fm.text k (by rw [hk2, Hkl.out]; exact Nat.le_refl _)
          have Htk := Lib.hid htk
          clear htk hk2
          go_wp2_with fail
          go_ret
          refine ⟨?_, Hbc.out.trans (Hbr.out.mono Hbc.out.size)⟩
          show Ending.returned (.string _) = .returned (.string _)
          rw [Htk.out, Fm.text_eq]
          rfl

end Go.Proofs.YtpaleogkgfclnaaDoor

namespace Go.Proofs.YtpaleogkgfclnaaDoor
open Go.RowKit
open Pl

/-- the operators that stay behind a negation -/
def keepB (b : UInt8) : Bool := ((b.toNat : Int) == 80) || ((b.toNat : Int) == 61) || ((b.toNat : Int) == 69) || ((b.toNat : Int) == 50) || ((b.toNat : Int) == 51) || ((b.toNat : Int) == 52)

/-- the operator that stands for another one behind a negation -/
def turnB (b : UInt8) : UInt8 := if b = 116 then 102 else if b = 102 then 116 else if b = 38 then 124 else if b = 124 then 38 else if b = 65 then 83 else if b = 83 then 65 else b

def pushL (o : Bool) (f : Fm) : List UInt8 := (f.push o).text

theorem push_neg (f : Fm) (h : f.op = 33) : ∃ p, f.parts = [p] ∧ ∀ o, pushL o f = pushL (!o) p := by
  cases f with
  | neg p => exact ⟨p, rfl, fun o => rfl⟩
  | qu k v p => cases k <;> simp [Fm.op, Qn.b] at h
  | _ => simp [Fm.op] at h

theorem push_keep (f : Fm) (h : keepB f.op = true) (o : Bool) : pushL o f = (if o then [33] else []) ++ (f.headL ++ (f.parts.map (pushL false)).flatten) := by
  cases f with
  | qu k v p => cases k <;> first | (simp [Fm.op, Qn.b, keepB] at h; done) | (cases o <;> simp [pushL, Fm.push, Fm.text, Fm.headL, Fm.op, Fm.vars, Fm.parts])
  | pr v => cases o <;> simp [pushL, Fm.push, Fm.text, Fm.headL, Fm.op, Fm.vars, Fm.parts]
  | eq v w => cases o <;> simp [pushL, Fm.push, Fm.text, Fm.headL, Fm.op, Fm.vars, Fm.parts]
  | rel v w => cases o <;> simp [pushL, Fm.push, Fm.text, Fm.headL, Fm.op, Fm.vars, Fm.parts]
  | _ => simp [Fm.op, keepB] at h

theorem push_turn (f : Fm) (h : keepB f.op = false) (h2 : f.op ≠ 33) (o : Bool) :
    pushL o f = ((if o then turnB f.op else f.op) :: f.vars.map vb) ++ (f.parts.map (pushL o)).flatten := by
  cases f with
  | qu k v p => cases k <;> first | (simp [Fm.op, Qn.b, keepB] at h; done) | (cases o <;> simp [pushL, Fm.push, Fm.text, Fm.op, Fm.vars, Fm.parts, turnB, Qn.b])
  | tru => cases o <;> simp [pushL, Fm.push, Fm.text, Fm.op, Fm.vars, Fm.parts, turnB]
  | fls => cases o <;> simp [pushL, Fm.push, Fm.text, Fm.op, Fm.vars, Fm.parts, turnB]
  | con p q => cases o <;> simp [pushL, Fm.push, Fm.text, Fm.op, Fm.vars, Fm.parts, turnB]
  | dis p q => cases o <;> simp [pushL, Fm.push, Fm.text, Fm.op, Fm.vars, Fm.parts, turnB]
  | neg p => exact absurd rfl h2
  | _ => simp [Fm.op, keepB] at h

theorem op_turn (f : Fm) (h : keepB f.op = false) (h2 : f.op ≠ 33) : f.op = 116 ∨ f.op = 102 ∨ f.op = 38 ∨ f.op = 124 ∨ f.op = 65 ∨ f.op = 83 := by
  cases f with
  | qu k v p => cases k <;> first | (simp [Fm.op, Qn.b, keepB] at h; done) | simp [Fm.op, Qn.b]
  | neg p => exact absurd rfl h2
  | tru => simp [Fm.op]
  | fls => simp [Fm.op]
  | con p q => simp [Fm.op]
  | dis p q => simp [Fm.op]
  | _ => simp [Fm.op, keepB] at h

theorem pushL_le (o : Bool) (f : Fm) : (pushL o f).length ≤ 2 * f.text.length := push_le f o

end Go.Proofs.YtpaleogkgfclnaaDoor

namespace Go.Proofs.YtpaleogkgfclnaaDoor
open Go.RowKit
open Pl
set_option linter.unusedSimpArgs false

theorem int_eq {k : IntKind} {a b : Int} (h : a = b) : Value.int k a = .int k b := by rw [h]

/-- a piece of a text -/
theorem piece {s : ByteArray} {k : Nat} {x r : List UInt8} (h : s.data.toList.drop k = x ++ r) (j : Nat) (hj : j = k + x.length) : (s.extract k j).data.toList = x := by
  subst hj
  rw [Lib.extract_data, h]
  simp

theorem piece_eq {s : ByteArray} {k : Nat} {x r : List UInt8} (h : s.data.toList.drop k = x ++ r) (j : Nat) (hj : j = k + x.length) : s.extract k j = bs x := eq_bs (piece h j hj)

theorem piece_size {s : ByteArray} {k : Nat} {x r : List UInt8} (h : s.data.toList.drop k = x ++ r) (j : Nat) (hj : j = k + x.length) : (s.extract k j).size = x.length := by
  rw [Lib.size_eq, piece h j hj]

end Go.Proofs.YtpaleogkgfclnaaDoor

namespace Go.Proofs.YtpaleogkgfclnaaDoor
open Go.RowKit
open Pl
set_option linter.unusedSimpArgs false

/-- the texts up to one, each behind the operator -/
def preL (c : UInt8) (zs : List ByteArray) (k : Nat) : List UInt8 := ((zs.take k).map fun z => c :: z.data.toList).flatten

theorem preL_zero (c : UInt8) (zs : List ByteArray) : preL c zs 0 = [] := by simp [preL]

theorem preL_succ (c : UInt8) {zs : List ByteArray} {k : Nat} (h : k < zs.length) : preL c zs (k + 1) = preL c zs k ++ c :: (zs.getD k ByteArray.empty).data.toList := by
  unfold preL
  have hg : zs.getD k ByteArray.empty = zs[k] := by simp [List.getD, h]
  rw [List.take_succ_eq_append_getElem h, List.map_append, List.flatten_append, hg]
  simp only [List.map_cons, List.map_nil, List.flatten_cons, List.flatten_nil, List.append_nil]

theorem preL_len (c : UInt8) (zs : List ByteArray) (hs : ∀ z ∈ zs, z.size ≤ 4000) (k : Nat) (hk : k ≤ zs.length) : (preL c zs k).length ≤ 4001 * k := by
  induction k with
  | zero => simp [preL]
  | succ k ih =>
    rw [preL_succ c (by omega)]
    have hg : zs.getD k ByteArray.empty = zs[k] := by simp [List.getD, show k < zs.length by omega]
    have h1 := hs zs[k] (List.getElem_mem _)
    rw [Lib.size_eq] at h1
    rw [hg]
    have := ih (by omega)
    simp only [List.length_append, List.length_cons]
    omega

/-- the texts joined -/
def joinL (c : UInt8) (zs : List ByteArray) : List UInt8 :=
  if zs.length = 0 then (if c = 38 then [116] else [102]) else preL c zs (zs.length - 1) ++ (zs.getD (zs.length - 1) ByteArray.empty).data.toList

theorem joined_calls (op : ByteArray) (c : UInt8) (g : Nat) {cp : Nat} (zs : List ByteArray) (w : World) (hop : op.data.toList = [c]) (hc : (c = 38 ∧ op = ⟨#[38]⟩) ∨ (c = 124 ∧ op = ⟨#[124]⟩)) (hn : zs.length ≤ 1048576) (hs : ∀ z ∈ zs, z.size ≤ 4000)
    (hv : SRow w (.slice (some ⟨g, 0, none⟩) zs.length cp) zs) :
    Calls Tryd.prog 68 #[.string op, .slice (some ⟨g, 0, none⟩) zs.length cp] w fun e w' => e = .returned (.string (bs (joinL c zs))) ∧ w = w' := by
  rcases hv with ⟨h, _⟩ | ⟨a, cap, e1, hcp, _, hcell, _⟩
  · simp at h
  simp only [Value.slice.injEq, Option.some.injEq] at e1
  obtain ⟨rfl, _, rfl⟩ := e1
  simp only [add_zero_at] at hcell
  have Hcell := Lib.hid hcell
  have Hs := Lib.hid hs
  clear hcell hs
  by_cases h0 : zs.length = 0
  · have hj : joinL c zs = if c = 38 then [116] else [102] := by unfold joinL; rw [if_pos h0]
    rw [hj, h0]
    rcases hc with ⟨rfl, rfl⟩ | ⟨rfl, rfl⟩
    · clear hj
      go_enter Tryd.func68, Tryd.ntmps68
      go_wp2_with fail
      go_ret
      exact ⟨rfl, rfl⟩
    · clear hj
      go_enter Tryd.func68, Tryd.ntmps68
      go_wp2_with fail
      go_ret
      exact ⟨rfl, rfl⟩
  · have hj : joinL c zs = preL c zs (zs.length - 1) ++ (zs.getD (zs.length - 1) ByteArray.empty).data.toList := by unfold joinL; rw [if_neg h0]
    have Hj := Lib.hid hj
    have hos : op.size = 1 := by rw [Lib.size_eq, hop]; rfl
    have Hop := Lib.hid hop
    clear hj hop hc
    have hlz := Hcell.out (zs.length - 1) (by omega)
    have hlz2 : (zs.getD (zs.length - 1) ByteArray.empty).size ≤ 4000 := by
      have hg : zs.getD (zs.length - 1) ByteArray.empty = zs[zs.length - 1] := by simp [List.getD, show zs.length - 1 < zs.length by omega]
      rw [hg]; exact Hs.out _ (List.getElem_mem _)
    obtain ⟨z, hz⟩ : ∃ z, z = zs.getD (zs.length - 1) ByteArray.empty := ⟨_, rfl⟩
    rw [← hz] at hlz hlz2
    have Hz := Lib.hid hz
    clear hz
    obtain ⟨n, hnn⟩ : ∃ n, zs.length = n + 1 := ⟨zs.length - 1, by omega⟩
    have hn1 : zs.length - 1 = n := by omega
    rw [hn1] at hlz
    rw [hnn] at hcp ⊢
    have Hn := Lib.hid hnn
    have hn2 : n < 1048576 := by omega
    clear hnn hn1 hn h0
    go_enter Tryd.func68, Tryd.ntmps68
    go_wp2_with fail
    go_loop [5, 19] (fun o i => ∃ k : Nat, k ≤ n ∧ i = .int .i64 k ∧ o = .string (bs (preL c zs k))) (fun _ i => n - (intOf i).toNat)
    case atStart => exact ⟨0, by omega, rfl, by rw [preL_zero]; rfl⟩
    case round =>
      obtain ⟨k, hk, rfl, rfl⟩ := hrel
      have hpl : (bs (preL c zs k)).size ≤ 4001 * k := by rw [bs_size]; exact preL_len c zs Hs.out k (by have := Hn.out; omega)
      by_cases hlt : k < n
      · have hcl := Hcell.out k (by have := Hn.out; omega)
        have hy2 : (zs.getD k ByteArray.empty).size ≤ 4000 := by
          have hkk : k < zs.length := by have := Hn.out; omega
          have hg : zs.getD k ByteArray.empty = zs[k] := by simp [List.getD, hkk]
          rw [hg]; exact Hs.out _ (List.getElem_mem _)
        have hsu := preL_succ c (zs := zs) (k := k) (by have := Hn.out; omega)
        generalize zs.getD k ByteArray.empty = y at hcl hy2 hsu
        have Hsu := Lib.hid hsu
        clear hsu
        go_wp2_with fail
        go_round
        case rel => exact ⟨k + 1, by omega, by go_num, str_eq (eq_bs (by simp [bs_data, Hsu.out, Hop.out]))⟩
        case measure => simp [intOf]; omega
      · obtain rfl : k = n := by omega
        go_wp2_with fail
        go_ret
        refine ⟨congrArg (fun x => Ending.returned (.string x)) (eq_bs ?_), rfl⟩
        rw [Hj.out, ← Hz.out, Hn.out]
        simp [bs_data]

theorem l2Join_calls (op : ByteArray) (c : UInt8) (g : Nat) {cp : Nat} (zs : List ByteArray) (w : World) (hop : op.data.toList = [c]) (hc : (c = 38 ∧ op = ⟨#[38]⟩) ∨ (c = 124 ∧ op = ⟨#[124]⟩)) (hn : zs.length ≤ 1048576) (hs : ∀ z ∈ zs, z.size ≤ 4000)
    (hv : SRow w (.slice (some ⟨g, 0, none⟩) zs.length cp) zs) :
    Calls Tryd.prog 65 #[.string op, .slice (some ⟨g, 0, none⟩) zs.length cp] w fun e w' => e = .returned (.string (bs (joinL c zs))) ∧ Below w.heap.size w w' := by
  rcases hv with ⟨h, _⟩ | ⟨a, cap, e1, hcp, _, hcell, _⟩
  · simp at h
  simp only [Value.slice.injEq, Option.some.injEq] at e1
  obtain ⟨rfl, _, rfl⟩ := e1
  simp only [add_zero_at] at hcell
  have Hcell := Lib.hid hcell
  have Hs := Lib.hid hs
  clear hcell hs
  by_cases h0 : zs.length = 0
  · have hj : joinL c zs = if c = 38 then [116] else [102] := by unfold joinL; rw [if_pos h0]
    rw [hj, h0]
    have hf1 : ∀ w, Calls Tryd.prog 77 #[.string ⟨#[38, 124]⟩, .int .u8 38] w fun e w' => e = .returned (.int .i64 0) ∧ w' = w := fun w => (l15Find_calls ⟨#[38, 124]⟩ 38 w (by decide)).mono (by rintro e w' ⟨rfl, rfl⟩; exact ⟨rfl, rfl⟩)
    have hf2 : ∀ w, Calls Tryd.prog 77 #[.string ⟨#[38, 124]⟩, .int .u8 124] w fun e w' => e = .returned (.int .i64 1) ∧ w' = w := fun w => (l15Find_calls ⟨#[38, 124]⟩ 124 w (by decide)).mono (by rintro e w' ⟨rfl, rfl⟩; exact ⟨rfl, rfl⟩)
    have Hf1 := Lib.hid hf1
    have Hf2 := Lib.hid hf2
    clear hf1 hf2
    rcases hc with ⟨rfl, rfl⟩ | ⟨rfl, rfl⟩
    · clear hj
      go_enter Tryd.func65, Tryd.ntmps65
      go_upto_region 2 with (fail)
      go_quiet ((go_at_call 77; exact Calls.quiet_of_same (Hf1.out _)))
      go_wp2_with fail
      go_ret
      exact ⟨rfl, below_drewN (Below.refl _ _) _⟩
    · clear hj
      go_enter Tryd.func65, Tryd.ntmps65
      go_upto_region 2 with (fail)
      go_quiet ((go_at_call 77; exact Calls.quiet_of_same (Hf2.out _)))
      go_wp2_with fail
      go_ret
      exact ⟨rfl, below_drewN (Below.refl _ _) _⟩
  · have hj : joinL c zs = preL c zs (zs.length - 1) ++ (zs.getD (zs.length - 1) ByteArray.empty).data.toList := by unfold joinL; rw [if_neg h0]
    have Hj := Lib.hid hj
    have hos : op.size = 1 := by rw [Lib.size_eq, hop]; rfl
    have Hop := Lib.hid hop
    clear hj hop hc
    obtain ⟨J, hJ⟩ : ∃ J, J = joinL c zs := ⟨_, rfl⟩
    rw [← hJ]
    have HJ := Lib.hid hJ
    clear hJ
    go_enter Tryd.func65, Tryd.ntmps65
    go_wp2_with fail
    go_loop [5, 6] (fun o i => ∃ k : Nat, k ≤ zs.length ∧ i = .int .i64 k ∧ ((k < zs.length ∧ o = .string (bs (preL c zs k))) ∨ (k = zs.length ∧ o = .string (bs J)))) (fun _ i => zs.length - (intOf i).toNat)
    case atStart => exact ⟨0, by omega, rfl, .inl ⟨by omega, by rw [preL_zero]; rfl⟩⟩
    case round =>
      obtain ⟨k, hk, rfl, ⟨hlt, rfl⟩ | ⟨rfl, rfl⟩⟩ := hrel
      · have hpl : (bs (preL c zs k)).size ≤ 4001 * k := by rw [bs_size]; exact preL_len c zs Hs.out k (by omega)
        have hcl := Hcell.out k hlt
        have hy2 : (zs.getD k ByteArray.empty).size ≤ 4000 := by
          have hg : zs.getD k ByteArray.empty = zs[k] := by simp [List.getD, hlt]
          rw [hg]; exact Hs.out _ (List.getElem_mem _)
        have hsu := preL_succ c (zs := zs) (k := k) hlt
        by_cases hk1 : k + 1 < zs.length
        · generalize zs.getD k ByteArray.empty = y at hcl hy2 hsu
          have Hsu := Lib.hid hsu
          clear hsu
          go_wp2_with fail
          go_round
          case rel => exact ⟨k + 1, by omega, by go_num, .inl ⟨hk1, str_eq (eq_bs (by simp [bs_data, Hsu.out, Hop.out]))⟩⟩
          case measure => simp [intOf]; omega
        · have hkz : zs.length - 1 = k := by omega
          have hJ2 : J = preL c zs k ++ (zs.getD k ByteArray.empty).data.toList := by rw [HJ.out, Hj.out, hkz]
          clear hsu
          generalize zs.getD k ByteArray.empty = y at hcl hy2 hJ2
          have HJ2 := Lib.hid hJ2
          clear hJ2
          go_wp2_with fail
          go_round
          case rel => exact ⟨k + 1, by omega, by go_num, .inr ⟨by omega, str_eq (eq_bs (by simp [bs_data, HJ2.out]))⟩⟩
          case measure => simp [intOf]; omega
      · go_wp2_with fail
        go_ret
        exact ⟨rfl, Below.refl _ _⟩

end Go.Proofs.YtpaleogkgfclnaaDoor

namespace Go.Proofs.YtpaleogkgfclnaaDoor
open Go.RowKit
open Pl

theorem shortFormula_no (s : ByteArray) (ok : Bool) (w : World) (h : ok = true → 4000 < s.size) :
    Calls Tryd.prog 31 #[.string s, .bool ok] w fun e w' => e = .returned (.tuple #[.string ⟨#[]⟩, .bool false]) ∧ w = w' := by
  cases ok with
  | false =>
    clear h
    go_enter Tryd.func31, Tryd.ntmps31
    go_wp2_with fail
    go_ret2
    exact ⟨rfl, rfl⟩
  | true =>
    have h2 := h rfl
    clear h
    go_enter Tryd.func31, Tryd.ntmps31
    go_wp2_with fail
    go_ret2
    exact ⟨rfl, rfl⟩

theorem shortFormula_yes (s : ByteArray) (w : World) (h : s.size ≤ 4000) :
    Calls Tryd.prog 31 #[.string s, .bool true] w fun e w' => e = .returned (.tuple #[.string s, .bool true]) ∧ w = w' := by
  go_enter Tryd.func31, Tryd.ntmps31
  go_wp2_with fail
  go_ret2
  exact ⟨rfl, rfl⟩

open Classical in
/-- what NotFormula returns -/
noncomputable def notV (l : List UInt8) : Value := if IsFm l ∧ l.length < 4000 then .tuple #[.string (bs (33 :: l)), .bool true] else .tuple #[.string ⟨#[]⟩, .bool false]

theorem notV_form (l : List UInt8) : ∃ (t : ByteArray) (b : Bool), notV l = .tuple #[.string t, .bool b] := by
  unfold notV
  split
  · exact ⟨_, _, rfl⟩
  · exact ⟨_, _, rfl⟩

end Go.Proofs.YtpaleogkgfclnaaDoor

namespace Go.Proofs.YtpaleogkgfclnaaDoor
open Go.RowKit
open Pl
set_option linter.unusedSimpArgs false

open Classical in
/-- formulas joined by an operator, and whether there is such a text -/
noncomputable def joinV (op : ByteArray) (zs : List ByteArray) : ByteArray × Bool :=
  if (op = ⟨#[38]⟩ ∨ op = ⟨#[124]⟩) ∧ (∀ z ∈ zs, IsFm z.data.toList) ∧ (joinL (op.data.toList.headD 0) zs).length ≤ 4000 then (bs (joinL (op.data.toList.headD 0) zs), true) else (bs [], false)

theorem joinV_no {op : ByteArray} {zs : List ByteArray} (h : ¬ ((op = ⟨#[38]⟩ ∨ op = ⟨#[124]⟩) ∧ (∀ z ∈ zs, IsFm z.data.toList) ∧ (joinL (op.data.toList.headD 0) zs).length ≤ 4000)) : joinV op zs = (bs [], false) := if_neg h
theorem joinV_yes {op : ByteArray} {zs : List ByteArray} (h : (op = ⟨#[38]⟩ ∨ op = ⟨#[124]⟩) ∧ (∀ z ∈ zs, IsFm z.data.toList) ∧ (joinL (op.data.toList.headD 0) zs).length ≤ 4000) : joinV op zs = (bs (joinL (op.data.toList.headD 0) zs), true) := if_pos h


end Go.Proofs.YtpaleogkgfclnaaDoor

namespace Go.Proofs.YtpaleogkgfclnaaDoor
open Go.ChangeMaps
set_option linter.unusedSimpArgs false
set_option linter.unusedVariables false

/-- keys of which it can be told whether they are the same -/
structure MKey (P : Program) (w : World) (k : TypeId) (S : Value → Prop) : Prop where
  check : ∀ (em : Bool) {v : Value}, S v → (Instr.checkKey em 10000 k v).run P w = .ok () w
  find : ∀ {x : Value}, S x → ∀ es : List MapEntry, (∀ e ∈ es, S e.key) →
    ((Instr.findKey k x es).run P w = .ok none w ∧ ∀ e ∈ es, e.key ≠ x) ∨ ∃ j e, (Instr.findKey k x es).run P w = .ok (some (j, e.val)) w ∧ es[j]? = some e ∧ e.key = x
  stays : ∀ {v : Value}, S v → (Instr.keyThatStays v v).run P w = .ok v w

/-- numbers as keys -/
def IKey (v : Value) : Prop := ∃ n : Nat, v = .int .i64 (n : Nat) ∧ n < 4096
/-- addresses of blocks as keys -/
def PKey (w : World) (v : Value) : Prop := ∃ b c t, v = .pointer (some ⟨b, 0, none⟩) ∧ w.heap[b]? = some (.cells c t (0, 0))

theorem ikey {P : Program} {w : World} {k : TypeId} (hk : P.underlying k = some (.int .i64)) : MKey P w k IKey := by
  have K := Maps.int_keyed hk
  have key : ∀ {v}, IKey v → ∃ l, keyOf P k v = some l := fun {v} ⟨n, hv, hn⟩ => by
    refine ⟨_, hv ▸ Maps.keyOf_int_mk hk (a := (n : Int)) ?_⟩
    simp [Lit.wf, IntKind.min, IntKind.max, IntKind.signed, IntKind.bits]
    omega
  exact ⟨fun em v h => by obtain ⟨l, hl⟩ := key h; exact K.check w em hl, fun {x} h es hes => by
    obtain ⟨l, hl⟩ := key h
    exact K.find w hl es fun e he => key (hes e he), fun {v} h => by obtain ⟨l, hl⟩ := key h; exact K.stays w hl⟩

theorem eq_ptr {P : Program} {w : World} {k e : TypeId} {j : TypeInfo} (hk : P.underlying k = some (.pointer e)) (he : P.info? e = some j) (hsz : j.size ≠ 0) {x y : Value} (hx : PKey w x) (hy : PKey w y) :
    ∃ r : Bool, (Op.equal k x y).run P w = .ok r w ∧ (r = true ↔ x = y) := by
  obtain ⟨a, ca, ta, rfl, ha⟩ := hx
  obtain ⟨b, cb, tb, rfl, hb⟩ := hy
  by_cases hab : a = b
  · subst hab
    refine ⟨true, ?_, by simp⟩
    have h : ∀ d : Nat, (Op.equalIn (d + 1) k (.pointer (some ⟨a, 0, none⟩)) (.pointer (some ⟨a, 0, none⟩))).run P w = .ok true w := fun d => by
      simp [Op.equalIn, run_underlying hk, sizeOf, typeInfo, he, run_sameAddr_same]
    simp only [Op.equal, Op.maxDepth]
    exact h 9999
  · refine ⟨false, ?_, by simp [hab]⟩
    have h := run_sameAddr_other (P := P) w (a := ⟨a, 0, none⟩) (b := ⟨b, 0, none⟩) (by simp [hab]) ha hb
    have h2 : ∀ d : Nat, (Op.equalIn (d + 1) k (.pointer (some ⟨a, 0, none⟩)) (.pointer (some ⟨b, 0, none⟩))).run P w = .ok false w := fun d => by
      simp [Op.equalIn, run_underlying hk, sizeOf, typeInfo, he, hsz, h]
    simp only [Op.equal, Op.maxDepth]
    exact h2 9999

theorem find_ptr {P : Program} {w : World} {k e : TypeId} {j : TypeInfo} (hk : P.underlying k = some (.pointer e)) (he : P.info? e = some j) (hsz : j.size ≠ 0) {x : Value} (hx : PKey w x) : ∀ (es : List MapEntry) (i : Nat), (∀ e ∈ es, PKey w e.key) →
    ((Instr.findAsking k x es i).run P w = .ok none w ∧ ∀ e ∈ es, e.key ≠ x) ∨ ∃ j e, (Instr.findAsking k x es i).run P w = .ok (some (i + j, e.val)) w ∧ es[j]? = some e ∧ e.key = x
  | [], i, _ => .inl ⟨by simp [Instr.findAsking], by simp⟩
  | y :: es, i, hall => by
    obtain ⟨r, hr, hiff⟩ := eq_ptr hk he hsz hx (hall y (by simp))
    cases r with
    | false =>
      have hne : y.key ≠ x := fun h => by have := hiff.2 h.symm; cases this
      rcases find_ptr hk he hsz hx es (i + 1) (fun z hz => hall z (by simp [hz])) with ⟨h1, h2⟩ | ⟨j, e', h1, h2, h3⟩
      · refine .inl ⟨by simp [Instr.findAsking, hr, h1], fun z hz => ?_⟩
        rcases List.mem_cons.1 hz with rfl | hz
        · exact hne
        · exact h2 z hz
      · exact .inr ⟨j + 1, e', by simp [Instr.findAsking, hr, h1, Nat.add_assoc, Nat.add_comm 1 j], by simpa using h2, h3⟩
    | true => exact .inr ⟨0, y, by simp [Instr.findAsking, hr], rfl, (hiff.1 rfl).symm⟩

theorem findNow_ptr {d : TypeId} {x : Value} : ∀ (es : List MapEntry) (i : Nat), Instr.findNow (.pointer d) x es i = if es = [] then some none else none
  | [], i => rfl
  | y :: es, i => by simp [Instr.findNow, Instr.sameNow]

theorem pkey {P : Program} {w : World} {k e : TypeId} {j : TypeInfo} (hk : P.underlying k = some (.pointer e)) (he : P.info? e = some j) (hsz : j.size ≠ 0) : MKey P w k (PKey w) := by
  refine ⟨fun em v ⟨b, c, t, hv, _⟩ => ?_, fun {x} hx es hes => ?_, fun {v} ⟨b, c, t, hv, _⟩ => ?_⟩
  · subst hv
    have h : ∀ n : Nat, (Instr.checkKey em (n + 1) k (.pointer (some ⟨b, 0, none⟩))).run P w = .ok () w := fun n => by
      simp [Instr.checkKey, run_underlying hk]
    exact h 9999
  · cases es with
    | nil => exact .inl ⟨by simp [Instr.findKey, run_underlying hk, findNow_ptr], by simp⟩
    | cons y es =>
      have hf : (Instr.findKey k x (y :: es)).run P w = (Instr.findAsking k x (y :: es)).run P w := by simp [Instr.findKey, run_underlying hk, findNow_ptr]
      rw [hf]
      rcases find_ptr hk he hsz hx (y :: es) 0 hes with h | ⟨j, e', h1, h2, h3⟩
      · exact .inl h
      · exact .inr ⟨j, e', by simpa using h1, h2, h3⟩
  · subst hv
    have h : ∀ n : Nat, Instr.sameBits (n + 1) (.pointer (some ⟨b, 0, none⟩)) (.pointer (some ⟨b, 0, none⟩)) = true := fun n => by
      simp [Instr.sameBits]
    simp only [Instr.keyThatStays, h 9999]
    simp

section
variable {P : Program} {w : World} {k t e : TypeId} {S : Value → Prop} {b : Nat} {es : Array MapEntry} {clock : Nat} {key : Value}

theorem mlook (c : Bool) (K : MKey P w k S) (ht : P.underlying t = some (.map k e)) {z : Value} (hz : (zeroValue e).run P w = .ok z w) (hb : w.heap[b]? = some (.map es clock)) (hS : ∀ x ∈ es.toList, S x.key) (hkey : S key) :
    ((Instr.lookup t (.map (some b)) key c).run P w = .ok (if c then .tuple #[z, .bool false] else z) w ∧ ∀ x ∈ es.toList, x.key ≠ key) ∨
    ∃ e0, e0 ∈ es.toList ∧ e0.key = key ∧ (Instr.lookup t (.map (some b)) key c).run P w = .ok (if c then .tuple #[e0.val, .bool true] else e0.val) w := by
  rcases K.find hkey es.toList hS with ⟨h1, h2⟩ | ⟨j, e0, h1, h2, h3⟩
  · exact .inl ⟨by simp [Instr.lookup, run_underlying ht, MapKept.run_getObj_map hb, K.check _ hkey, h1, hz, Result.andThen], h2⟩
  · exact .inr ⟨e0, List.mem_of_getElem? h2, h3, by simp [Instr.lookup, run_underlying ht, MapKept.run_getObj_map hb, K.check _ hkey, h1, Result.andThen]⟩

theorem mlook_nil (c : Bool) (K : MKey P w k S) (ht : P.underlying t = some (.map k e)) {z : Value} (hz : (zeroValue e).run P w = .ok z w) (hkey : S key) :
    (Instr.lookup t (.map none) key c).run P w = .ok (if c then .tuple #[z, .bool false] else z) w := by
  rcases K.find hkey [] (by simp) with ⟨h1, h2⟩ | ⟨j, e0, h1, h2, h3⟩
  · simp [Instr.lookup, run_underlying ht, K.check _ hkey, h1, hz, Result.andThen]
  · simp at h2

theorem mput (K : MKey P w k S) (ht : P.underlying t = some (.map k e)) (hb : w.heap[b]? = some (.map es clock)) (hS : ∀ x ∈ es.toList, S x.key) (hkey : S key) (val : Value) :
    ∃ es' clock', (Instr.mapUpdate t (.map (some b)) key val).run P w = .ok () (setBlock w b (.map es' clock')) ∧ (∀ x ∈ es'.toList, (x ∈ es.toList ∧ (x.key ≠ key ∨ ∃ y ∈ es'.toList, y.key = key ∧ y.val = val)) ∨ (x.key = key ∧ x.val = val)) ∧ ∃ x ∈ es'.toList, x.key = key ∧ x.val = val := by
  rcases K.find hkey es.toList hS with ⟨h1, h2⟩ | ⟨j, e0, h1, h2, h3⟩
  · refine ⟨es.push ⟨key, val, clock⟩, clock + 1, ?_, ?_, ⟨⟨key, val, clock⟩, by simp, rfl, rfl⟩⟩
    · simp [Instr.mapUpdate, run_underlying ht, MapKept.run_getObj_map hb, K.check false hkey, h1, MapKept.run_setObj_map _ hb, Result.andThen, setBlock]
    · intro x hx
      simp only [Array.toList_push, List.mem_append, List.mem_singleton] at hx
      rcases hx with hx | rfl
      · exact .inl ⟨hx, .inl (h2 x hx)⟩
      · exact .inr ⟨rfl, rfl⟩
  · have hj : es[j]? = some e0 := by simpa using h2
    have hkey2 : (((es[j]?).map (·.key)).getD key) = key := by rw [hj]; exact h3
    have hst := K.stays (v := key) hkey
    have hlt : j < es.size := (Array.getElem?_eq_some_iff.1 hj).1
    have hnew : ({ e0 with key := key, val := val } : MapEntry) ∈ (es.modify j fun x => { x with key, val := val }).toList := by
      have h : (es.modify j fun x => { x with key, val := val })[j]? = some { e0 with key := key, val := val } := by
        simp [Array.getElem?_modify, hj]
      exact Array.mem_toList_iff.2 (Array.mem_of_getElem? h)
    refine ⟨es.modify j fun x => { x with key, val := val }, clock, ?_, ?_, ⟨_, hnew, rfl, rfl⟩⟩
    · simp [Instr.mapUpdate, run_underlying ht, MapKept.run_getObj_map hb, K.check false hkey, h1, MapKept.run_setObj_map _ hb, Result.andThen, setBlock, hj, h3, hst]
    · intro x hx
      obtain ⟨i, hi, rfl⟩ := List.getElem_of_mem hx
      simp only [Array.getElem_toList, Array.getElem_modify]
      split
      · exact .inr ⟨rfl, rfl⟩
      · exact .inl ⟨by simp, .inr ⟨_, hnew, rfl, rfl⟩⟩

end

end Go.Proofs.YtpaleogkgfclnaaDoor

namespace Go.Proofs.YtpaleogkgfclnaaDoor
open Go.RowKit
open Pl
set_option linter.unusedSimpArgs false
set_option linter.unusedVariables false

/-- the elements of the first free variables as octal digits -/
def keyTo (fr : Nat) (e : Nat → Nat) : Nat → Nat
  | 0 => 0
  | k + 1 => if fr.testBit k then keyTo fr e k ||| (e k * 8 ^ k) else keyTo fr e k

theorem or_add {a x k : Nat} (h : a < 8 ^ k) : a ||| (x * 8 ^ k) = a + x * 8 ^ k := by
  have e : (8 : Nat) ^ k = 2 ^ (3 * k) := by rw [Nat.pow_mul]
  rw [e] at h ⊢
  have := Nat.shiftLeft_add_eq_or_of_lt h x
  rw [Nat.shiftLeft_eq] at this
  rw [Nat.or_comm, ← this, Nat.add_comm]

theorem keyTo_lt {fr : Nat} {e : Nat → Nat} (he : ∀ i, e i < 8) : ∀ k, keyTo fr e k < 8 ^ k
  | 0 => by simp [keyTo]
  | k + 1 => by
    have h := keyTo_lt (fr := fr) he k
    have hx := he k
    have hp : (8 : Nat) ^ (k + 1) = 8 * 8 ^ k := by rw [Nat.pow_succ, Nat.mul_comm]
    have hm : e k * 8 ^ k ≤ 7 * 8 ^ k := Nat.mul_le_mul_right _ (by omega)
    unfold keyTo
    split
    · rw [or_add h]; omega
    · omega

theorem keyTo_inj {fr : Nat} {e e' : Nat → Nat} (he : ∀ i, e i < 8) (he' : ∀ i, e' i < 8) : ∀ k, keyTo fr e k = keyTo fr e' k → ∀ i, i < k → fr.testBit i = true → e i = e' i
  | 0, _, i, hi, _ => absurd hi (Nat.not_lt_zero _)
  | k + 1, h, i, hi, hb => by
    have h1 := keyTo_lt (fr := fr) he k
    have h2 := keyTo_lt (fr := fr) he' k
    unfold keyTo at h
    cases hk : fr.testBit k with
    | false =>
      rw [hk] at h
      simp only [Bool.false_eq_true, if_false] at h
      have : i ≠ k := fun e => by rw [e, hk] at hb; cases hb
      exact keyTo_inj he he' k h i (by omega) hb
    | true =>
      rw [hk] at h
      simp only [if_true] at h
      rw [or_add h1, or_add h2] at h
      have hd1 : (keyTo fr e k + e k * 8 ^ k) / 8 ^ k = e k := by
        rw [Nat.add_mul_div_right _ _ (Nat.pow_pos (by decide)), Nat.div_eq_of_lt h1, Nat.zero_add]
      have hd2 : (keyTo fr e' k + e' k * 8 ^ k) / 8 ^ k = e' k := by
        rw [Nat.add_mul_div_right _ _ (Nat.pow_pos (by decide)), Nat.div_eq_of_lt h2, Nat.zero_add]
      have hk2 : e k = e' k := by rw [← hd1, ← hd2, h]
      by_cases hik : i = k
      · subst hik; exact hk2
      · refine keyTo_inj he he' k ?_ i (by omega) hb
        rw [hk2] at h
        omega

/-- an environment as a function of numbers -/
def eN (e : Env) (i : Nat) : Nat := if h : i < 4 then e ⟨i, h⟩ else 0
theorem eN_lt {e : Env} (he : ∀ v, e v < 8) (i : Nat) : eN e i < 8 := by
  unfold eN
  split
  · exact he _
  · omega
theorem eN_fin (e : Env) (v : Fin 4) : eN e v.val = e v := by simp [eN]
/-- the number under which truth is kept -/
def keyN (fr : Nat) (e : Env) : Nat := keyTo fr (eN e) 4
theorem keyN_lt {fr : Nat} {e : Env} (he : ∀ v, e v < 8) : keyN fr e < 4096 := keyTo_lt (eN_lt he) 4
theorem keyN_holds (a : St) (f : Fm) {e e' : Env} (he : ∀ v, e v < 8) (he' : ∀ v, e' v < 8) (h : keyN f.freeBits e = keyN f.freeBits e') : f.holds a e = f.holds a e' :=
  holds_free a f e e' fun v hv => by
    have := keyTo_inj (eN_lt he) (eN_lt he') 4 h v.val v.isLt hv
    rwa [eN_fin, eN_fin] at this

/-! ### one tree at most -/

theorem own_same {W : World} {base base' n n' : Nat} {e : TypeId} {v : Value} {xs xs' : List Value} (h : W.ownsRow base e 1 v n xs) (h' : W.ownsRow base' e 1 v n' xs') : xs = xs' := by
  obtain ⟨hl, h2⟩ := h
  obtain ⟨hl', h2'⟩ := h'
  rcases h2 with ⟨rfl, h0⟩ | ⟨g, cap, cur, rfl, _, hh, _, _, _, ht⟩
  · rcases h2' with ⟨_, h0'⟩ | ⟨g, cap, cur, hv, _⟩
    · have e1 : xs = [] := List.length_eq_zero_iff.1 (by rw [hl, h0])
      have e2 : xs' = [] := List.length_eq_zero_iff.1 (by rw [hl', h0'])
      rw [e1, e2]
    · cases hv
  · rcases h2' with ⟨hv, _⟩ | ⟨g', cap', cur', hv, _, hh', _, _, _, ht'⟩
    · cases hv
    · simp only [Value.slice.injEq, Option.some.injEq, Addr.mk.injEq] at hv
      obtain ⟨⟨rfl, _⟩, hn, _⟩ := hv
      rw [hh] at hh'
      simp only [Option.some.injEq, Obj.cells.injEq] at hh'
      obtain ⟨rfl, _⟩ := hh'
      rw [hn, ht'] at ht
      exact ht.symm

theorem vb_inj {v w : Fin 4} (h : byteV (vb v) = byteV (vb w)) : v = w := by
  unfold byteV at h
  injection h with _ h
  revert v w
  decide

theorem node_same {S S' : Nat → Prop} {w : World} {op op' : UInt8} {vars vars' : List (Fin 4)} {fr fr' al al' b : Nat} {ks ks' : List Nat} (h : NodeIn S w op vars fr al b ks) (h' : NodeIn S' w op' vars' fr' al' b ks') : op = op' ∧ vars = vars' ∧ ks = ks' := by
  obtain ⟨_, vs, ps, hh, hv, _, hp, _⟩ := h
  obtain ⟨_, vs', ps', hh', hv', _, hp', _⟩ := h'
  rw [hh] at hh'
  simp only [Option.some.injEq, Obj.cells.injEq, Array.mk.injEq, List.cons.injEq, Value.int.injEq, true_and, and_true] at hh'
  obtain ⟨h1, rfl, rfl, _⟩ := hh'
  refine ⟨UInt8.toNat_inj.1 (by omega), ?_, ?_⟩
  · exact (List.map_inj_right (fun a b hab => vb_inj hab)).1 (own_same hv hv')
  · exact (List.map_inj_right (fun a b hab => by injection hab with e; injection e with e; injection e)).1 (own_same hp hp')

theorem qb_inj {k l : Qn} (h : k.b = l.b) : k = l := by
  cases k <;> cases l <;> first | rfl | exact absurd h (by decide)
theorem qb_out (k : Qn) : k.b ≠ 116 ∧ k.b ≠ 102 ∧ k.b ≠ 80 ∧ k.b ≠ 61 ∧ k.b ≠ 69 ∧ k.b ≠ 33 ∧ k.b ≠ 38 ∧ k.b ≠ 124 := by
  cases k <;> decide
theorem fm_same {f g : Fm} (h1 : f.op = g.op) (h2 : f.vars = g.vars) (h3 : f.parts = g.parts) : f = g := by
  cases f <;> cases g <;> simp only [Fm.op] at h1 <;> first
    | exact absurd h1 (by decide)
    | (rename_i k _ _; have q := qb_out k; simp_all; done)
    | (rename_i k _ _ _; have q := qb_out k; simp_all; done)
    | (rename_i k _ _ _ _; have q := qb_out k; simp_all; done)
    | (rename_i k _ _; have q := qb_out k; obtain ⟨q1, q2, q3, q4, q5, q6, q7, q8⟩ := q; first | exact absurd h1 q1 | exact absurd h1.symm q1 | exact absurd h1 q2 | exact absurd h1.symm q2 | exact absurd h1 q3 | exact absurd h1 q4 | exact absurd h1 q5 | exact absurd h1 q6 | exact absurd h1 q7 | exact absurd h1 q8)
    | (simp_all [Fm.vars, Fm.parts]; done)
    | (obtain rfl := qb_inj h1; simp_all [Fm.vars, Fm.parts]; done)

theorem part_size {f p : Fm} (h : p ∈ f.parts) : p.size < f.size := by
  cases f <;> simp [Fm.parts] at h <;> (try rcases h with rfl | rfl) <;> (try subst h) <;> simp [Fm.size] <;> omega

theorem tree_same {S S' : Nat → Prop} {w : World} : ∀ (n : Nat) (f g : Fm) (b : Nat), f.size ≤ n → TreeIn S w f b → TreeIn S' w g b → f = g
  | 0, f, g, b, hn, _, _ => by cases f <;> simp [Fm.size] at hn
  | n + 1, f, g, b, hn, h, h' => by
    obtain ⟨ks, hf, hl, ht⟩ := h.open
    obtain ⟨ks', hg, hl', ht'⟩ := h'.open
    obtain ⟨h1, h2, rfl⟩ := node_same hf hg
    refine fm_same h1 h2 (List.ext_getElem (by omega) fun i hi hi' => ?_)
    have hk : i < ks.length := by omega
    exact tree_same n _ _ ks[i] (by have := part_size (List.getElem_mem hi); omega) (ht i _ _ (List.getElem?_eq_getElem hi) (List.getElem?_eq_getElem hk)) (ht' i _ _ (List.getElem?_eq_getElem hi') (List.getElem?_eq_getElem hk))

/-- what is kept at a number is right for whatever tree lies there -/
def Good (lo : Nat) (w0 : World) (a : St) (nb k : Nat) (v : Bool) : Prop := ∀ f, TreeAt lo w0 f nb → ∀ e : Env, (∀ u, e u < 8) → keyN f.freeBits e = k → f.holds a e = v
theorem good_new {lo : Nat} {w0 : World} (a : St) {f : Fm} {nb : Nat} (h : TreeAt lo w0 f nb) {e : Env} (he : ∀ u, e u < 8) : Good lo w0 a nb (keyN f.freeBits e) (f.holds a e) := fun g hg e' he' hk => by
  have := tree_same g.size g f nb (Nat.le_refl _) hg h
  subst this
  exact keyN_holds a g he' he hk

end Go.Proofs.YtpaleogkgfclnaaDoor

namespace Go.Proofs.YtpaleogkgfclnaaDoor
open Go.RowKit
open Pl
set_option linter.unusedSimpArgs false

theorem bcell {W w1 : World} (hb : Below W.heap.size W w1) : (∀ b o, b < W.heap.size → w1.cell? ⟨b, o, none⟩ = W.cell? ⟨b, o, none⟩) ∧ (∀ b o, b < W.heap.size → w1.frozen? ⟨b, o, none⟩ = W.frozen? ⟨b, o, none⟩) :=
  ⟨fun b o h => hb.cell (p := ⟨b, o, none⟩) h, fun b o h => hb.frozen (p := ⟨b, o, none⟩) h⟩

/-- a box of three cells behind a call -/
theorem box3 {w wN : World} {a b c : Value} {t : TypeId} (h : Below (w.heap.size + 1) (w.alloc (.cells #[a, b, c] t)) wN) :
    wN.cell? ⟨w.heap.size, 0, none⟩ = some a ∧ wN.cell? ⟨w.heap.size, 1, none⟩ = some b ∧ wN.cell? ⟨w.heap.size, 2, none⟩ = some c := by
  have hk : ∀ o, wN.cell? ⟨w.heap.size, o, none⟩ = (w.alloc (.cells #[a, b, c] t)).cell? ⟨w.heap.size, o, none⟩ := fun o => h.cell (p := ⟨w.heap.size, o, none⟩) (Nat.lt_succ_self _)
  refine ⟨?_, ?_, ?_⟩ <;> rw [hk] <;> simp

theorem box_down {w wN : World} {o : Obj} (h : Below (w.heap.size + 1) (w.alloc o) wN) : Below w.heap.size w wN :=
  ((Below.refl w.heap.size w).alloc (Nat.le_refl _) o).trans (h.mono (Nat.le_succ _))

theorem box_refl (w : World) (o : Obj) : Below (w.heap.size + 1) (w.alloc o) (w.alloc o) := Below.refl _ _

theorem box_next {w w1 w2 : World} {o : Obj} (h : Below (w.heap.size + 1) (w.alloc o) w1) (h2 : Below w1.heap.size w1 w2) : Below (w.heap.size + 1) (w.alloc o) w2 :=
  h.trans (h2.mono (by have := h.size; simpa using this))

/-- all bytes are bits -/
def bitsL (l : List UInt8) : Bool := l.all fun b => b == 48 || b == 49

theorem dropWhile_nil {α : Type} (p : α → Bool) : ∀ l : List α, l.dropWhile p = [] ↔ l.all p = true := by
  intro l
  induction l with
  | nil => simp
  | cons x l ih =>
    by_cases h : p x = true
    · simp [List.dropWhile_cons, h, ih]
    · simp [List.dropWhile_cons, h]

theorem dropWhile_all {α : Type} (p : α → Bool) : ∀ l : List α, (l.dropWhile p).all p = l.all p := by
  intro l
  induction l with
  | nil => rfl
  | cons x l ih =>
    by_cases h : p x = true
    · simp [List.dropWhile_cons, h, ih]
    · simp [List.dropWhile_cons, h]

theorem trim_bits (l : List UInt8) : Lib.trimS l [48, 49] = [] ↔ bitsL l = true := by
  have hp : ∀ b : UInt8, ([48, 49] : List UInt8).contains b = (b == 48 || b == 49) := fun b => by
    simp only [List.contains_cons, List.contains_nil, Bool.or_false]
  have e : Lib.trimS l [48, 49] = ((l.reverse.dropWhile fun b => b == 48 || b == 49).reverse).dropWhile fun b => b == 48 || b == 49 := by
    unfold Lib.trimS Lib.trimLeftS Lib.trimRightS
    simp only [hp]
  rw [e, dropWhile_nil, List.all_reverse, dropWhile_all, List.all_reverse]
  rfl

/-- a text has n bytes that are bits -/
def bitsB (s : ByteArray) (n : Int) : Bool := decide ((s.size : Int) = n) && bitsL s.data.toList

set_option maxHeartbeats 400000 in
theorem areBits_calls (s : ByteArray) (n : Int) (w : World) (hs : s.size ≤ maxLen) :
    Calls Tryd.prog 56 #[.string s, .int .i64 n] w fun e w' => e = .returned (.bool (bitsB s n)) ∧ Below w.heap.size w w' := by
  unfold maxLen at hs
  by_cases hn : (s.size : Int) = n
  · have hc : ∀ W, Calls Tryd.prog 82 #[.string s, .string ⟨#[48, 49]⟩] W fun e w' => e = .returned (.string ⟨(Lib.trimS s.data.toList [48, 49]).toArray⟩) ∧ Below W.heap.size W w' := fun W =>
      Any.strings_Trim_laid Tryd.lays160 (by kernel_rfl) s ⟨#[48, 49]⟩ W hs (by decide) (ascii_of_all (by decide))
    obtain ⟨l, hl⟩ : ∃ l, l = Lib.trimS s.data.toList [48, 49] := ⟨_, rfl⟩
    rw [← hl] at hc
    have hb : bitsB s n = decide (l = []) := by
      unfold bitsB
      rw [decide_eq_true hn, Bool.true_and, Bool.eq_iff_iff, decide_eq_true_eq, hl, trim_bits]
    rw [hb]
    have Hc := Lib.hid hc
    clear hc hl hb
    cases l with
    | nil =>
      subst hn
      go_enter Tryd.func56, Tryd.ntmps56
      go_wp2_with (go_at_call 82; refine (Hc.out _).mono ?_; rintro e w' ⟨rfl, hb1⟩)
      go_ret
      exact ⟨rfl, hb1⟩
    | cons b l =>
      subst hn
      go_enter Tryd.func56, Tryd.ntmps56
      go_wp2_with (go_at_call 82; refine (Hc.out _).mono ?_; rintro e w' ⟨rfl, hb1⟩)
      go_ret
      exact ⟨rfl, hb1⟩
  · have hb : bitsB s n = false := by unfold bitsB; rw [decide_eq_false hn, Bool.false_and]
    rw [hb]
    have h1 : ((s.size : Int) == n) = false := beq_eq_false_iff_ne.2 hn
    clear hb
    go_enter Tryd.func56, Tryd.ntmps56
    go_wp2_with fail
    go_ret
    exact ⟨rfl, Below.refl _ _⟩

end Go.Proofs.YtpaleogkgfclnaaDoor
