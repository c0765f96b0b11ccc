/-
  Laws of the functions that the claim reaches, one after the other (packed by a program of the prover's: Parse, Form, Rank, IsTrue, DecA). Conditions: texts below the reach.
-/
import Derived.Test.YteonanaihklgmaaDoorPp3
import Derived.Deep.DeepCutAuto
import Derived.Deep.CutBlock
import Derived.Deep.LoopGhost
import Derived.Deep.RegionLawGrows
import Derived.Deep.AppendLies
import Derived.Test.YteonanaihklgmaaDoorPp0
set_option linter.unusedSimpArgs false
set_option linter.unusedVariables false

namespace Go.Proofs.YteonanaihklgmaaDoor
open Go.RowKit
open Pl

theorem parsePart_empty (s : ByteArray) (w : World) (h : s.size = 0) :
    Calls Tryd.prog 67 #[.string s] w (PartPost s w) := by
  have hl : s.data.toList = [] := List.eq_nil_of_length_eq_zero (by rw [← Lib.size_eq]; exact h)
  have hl2 : s.toList = [] := by rw [ByteArray.toList_eq]; exact hl
  have e1 : (s.toList == []) = true := by rw [hl2]; rfl
  have e2 : s.toList.isEmpty = true := by rw [hl2]; rfl
  have Hl := Lib.hid hl
  clear hl hl2 h
  go_enter Tryd.func67, Tryd.ntmps67
  go_wp2_with fail
  go_ret2
  exact ⟨Below.refl _ _, .inl ⟨by rw [Hl.out]; exact parse_nil, s, rfl⟩⟩

set_option maxHeartbeats 1000000 in
set_option maxRecDepth 100000 in
theorem parsePart_calls (n : Nat) : ∀ (s : ByteArray) (w : World), s.size ≤ n → n ≤ 1000000000 →
    Calls Tryd.prog 67 #[.string s] w (PartPost s w) := by
  induction n with
  | zero =>
    intro s w hn _hs
    exact parsePart_empty s w (by omega)
  | succ n ih =>
    intro s w hn hs
    by_cases h0 : 0 < s.size
    · obtain ⟨hne2, hne3⟩ := empty_facts h0
      have Ih := Lib.hid ih
      clear ih
      go_enter Tryd.func67, Tryd.ntmps67
      have hb0 : s.data.toList = s[0] :: s.data.toList.drop 1 := drop_at (k := 0) h0
      have Hb0 := Lib.hid hb0
      clear hb0
      go_upto_block 0 with (fail)
      go_cut [5, 6] (fun v p wx => ∃ nv np : Nat, arity s[0] = some (nv, np) ∧ v = .int .i64 nv ∧ p = .int .i64 np ∧ wx = w.alloc (.cells #[.int .u8 s[0].toNat, .slice none 0 0, .slice none 0 0, .int .i64 0, .int .i64 0] 68))
      case first =>
        go_wp2_with fail
        all_goals first
          | (go_meet
             case rel => first
             | exact ⟨0, 0, ar_of (n := 116) (by assumption) rfl, rfl, rfl, rfl⟩
             | exact ⟨0, 0, ar_of (n := 102) (by assumption) rfl, rfl, rfl, rfl⟩
             | exact ⟨1, 0, ar_of (n := 80) (by assumption) rfl, rfl, rfl, rfl⟩
             | exact ⟨2, 0, ar_of (n := 61) (by assumption) rfl, rfl, rfl, rfl⟩
             | exact ⟨2, 0, ar_of (n := 69) (by assumption) rfl, rfl, rfl, rfl⟩
             | exact ⟨0, 1, ar_of (n := 33) (by assumption) rfl, rfl, rfl, rfl⟩
             | exact ⟨0, 2, ar_of (n := 38) (by assumption) rfl, rfl, rfl, rfl⟩
             | exact ⟨0, 2, ar_of (n := 124) (by assumption) rfl, rfl, rfl, rfl⟩
             | exact ⟨1, 1, ar_of (n := 65) (by assumption) rfl, rfl, rfl, rfl⟩
             | exact ⟨1, 1, ar_of (n := 83) (by assumption) rfl, rfl, rfl, rfl⟩
             | exact ⟨1, 1, ar_of (n := 50) (by assumption) rfl, rfl, rfl, rfl⟩
             | exact ⟨1, 1, ar_of (n := 51) (by assumption) rfl, rfl, rfl, rfl⟩
             | exact ⟨1, 1, ar_of (n := 52) (by assumption) rfl, rfl, rfl, rfl⟩
             done)
          | (go_ret2
             refine ⟨(Below.refl _ _).alloc (Nat.le_refl _) _, .inl ⟨?_, s, rfl⟩⟩
             rw [Hb0.out]
             refine parse_bad (arity_no fun n hn => ?_)
             simp only [List.mem_cons, List.not_mem_nil, or_false] at hn
             rcases hn with rfl | rfl | rfl | rfl | rfl | rfl | rfl | rfl | rfl | rfl | rfl | rfl | rfl <;> assumption)
      case rest =>
        obtain ⟨nv, np, har, rfl, rfl, rfl⟩ := hcut
        have Har := Lib.hid har
        clear har
        go_upto_block 1 with (fail)
        go_wp2_with fail
        go_loopg [0, 41] nv (fun k c i wr => ∃ (vs : List (Fin 4)) (cur : ByteArray), c = .string cur ∧ i = .int .i64 vs.length ∧ vs.length + k = nv ∧ s.data.toList.drop 1 = vs.map vb ++ cur.data.toList ∧ cur.size ≤ n ∧
          NodeIn (fun g => w.heap.size ≤ g) wr s[0] vs 0 (maskV vs) w.heap.size [] ∧ Below w.heap.size w wr)
        case atStart =>
          refine ⟨[], s.extract 1 s.size, rfl, rfl, by simp, by rw [Lib.extract_to_end]; rfl, by simp; omega, node_new w _ (Nat.le_refl _), (Below.refl _ _).alloc (Nat.le_refl _) _⟩
        case round =>
          obtain ⟨vs, cur, rfl, rfl, hk, htl, hcn, hnode, hbel⟩ := hrel
          have Htl := Lib.hid htl
          have Hk := Lib.hid hk
          have Hbel := Lib.hid hbel
          clear htl hk hbel
          by_cases hlt : vs.length < nv
          · by_cases hc0 : 0 < cur.size
            · obtain ⟨hce, hce2⟩ := empty_facts hc0
              cases hv : varOf cur[0] with
              | none =>
                have Hv := Lib.hid hv
                clear hv
                have hcontains : ∀ t w, t.data.toList = [cur[0]] → Calls Tryd.prog 91 #[.string ⟨#[97, 98, 99, 100]⟩, .string t] w fun e w' => e = .returned (.bool false) ∧ w = w' := fun t w ht => isVar_calls t _ false ht (by rw [Hv.out]; rfl) w
                have Hcon := Lib.hid hcontains
                have hext : (cur.extract 0 1).data.toList = [cur[0]] := by
                  rw [Lib.extract_data, drop_at hc0]; rfl
                have Hext := Lib.hid hext
                clear hcontains hext hnode
                go_wp2_with (go_at_call 91; refine (Hcon.out _ _ Hext.out).mono ?_; rintro e w' ⟨rfl, rfl⟩)
                go_ret2
                refine ⟨Hbel.out, .inl ⟨?_, cur, rfl⟩⟩
                rw [Hb0.out, Htl.out]
                refine parse_no_var Har.out vs _ hlt fun u r e => ?_
                have e2 := (drop_at (k := 0) hc0).symm.trans e
                simp only [List.cons.injEq] at e2
                have e3 := Hv.out
                rw [e2.1, varOf_vb] at e3
                cases e3
              | some v =>
                have Hv := Lib.hid hv
                clear hv
                have hcontains : ∀ t w, t.data.toList = [cur[0]] → Calls Tryd.prog 91 #[.string ⟨#[97, 98, 99, 100]⟩, .string t] w fun e w' => e = .returned (.bool true) ∧ w = w' := fun t w ht => isVar_calls t _ true ht (by rw [Hv.out]; rfl) w
                have Hcon := Lib.hid hcontains
                clear hcontains
                obtain ⟨_, vsv, psv, hB, hvs, hvS, hps, hpS⟩ := hnode
                have HvS := Lib.hid hvS
                have HpS := Lib.hid hpS
                clear hvS hpS
                have hc1 := cell_at hB 1
                have hc4 := cell_at hB 4
                have hf1 := free_at hB 1
                have hf4 := free_at hB 4
                have hlw := World.block_lt_of_cell? wr _ hc1
                simp only [List.getElem?_toArray, List.getElem?_cons_succ, List.getElem?_cons_zero] at hc1 hc4
                have hrow := ownsRow_ne hvs hB (by decide)
                have Hrow := Lib.hid hrow
                have HB := Lib.hid hB
                have Hvs := Lib.hid hvs
                have Hps := Lib.hid hps
                clear hB hvs hps hrow
                have hext : (cur.extract 0 1).data.toList = [cur[0]] := by
                  rw [Lib.extract_data, drop_at hc0]; rfl
                have Hext := Lib.hid hext
                clear hext
                obtain ⟨i0, hi0, hz0, hz1, hz2⟩ := info_parts Tryd.infoU8
                have hlen : vs.length < 1000000000 := by
                  have := congrArg List.length Htl.out
                  simp at this; omega
                have hcb : cur[0] = vb v := varOf_some.1 Hv.out
                have Hcb := Lib.hid hcb
                clear hcb
                go_upto_region 30 with (go_at_call 91; refine (Hcon.out _ _ Hext.out).mono ?_; rintro e w' ⟨rfl, rfl⟩)
                go_cut [] (fun wx => NodeIn (fun g => w.heap.size ≤ g) wx s[0] (vs ++ [v]) 0 (maskV vs) w.heap.size [] ∧ Below w.heap.size w wx)
                case first =>
                  go_region_law ((refine step_append_lies _ (by rfl) _ _ _ (by rfl) 0 5 i0 _ 1 1 Tryd.underlying22 hi0 hz0 hz1 hz2 rfl (by omega) vsv vs.length _ (by rfl) ((Hvs.out.alloc _).drew) ⟨wr.heap.size, 0, none⟩ 1 1 [byteV cur[0]] (by rfl) (by rfl) (World.news_of_block (cs := #[byteV cur[0]]) (t := 5) (fr := (0, 0)) (heap_alloc_new wr _)) (by simp [Value.oneCell', byteV]) (by omega) (by unfold maxLen; omega) (by omega) (Nat.zero_le _) (wr.heap.size + 1) (by simp) ?_; intro g cap w1 hown1 hgrow hat hlt1; have hB1 := grown_block hgrow HB.out Hrow.out; have hw1 := cell_at hB1 1; have hw4 := cell_at hB1 4; have gw1 := free_at hB1 1; have gw4 := free_at hB1 4; have HB1 := Lib.hid hB1; clear hB1))
                  all_goals
                    go_wp2_with fail
                    go_meet
                    case rel =>
                      refine ⟨?_, ?_⟩
                      · refine node_var v (Nat.le_refl _) HB1.out ?_ ?_ (row_grown Hps.out Hvs.out (by decide) hgrow) HpS.out
                        · rw [← Hcb.out]; exact hown1
                        · intro k hk
                          have e0 : g = k := by simpa [Value.ownBlock] using hk
                          subst e0
                          rcases hat with h | h
                          · exact HvS.out _ h
                          · omega
                      · refine Below.setCell (p := ⟨w.heap.size, 1, none⟩) ?_ (Nat.le_refl _) _
                        refine Below.grown (((Hbel.out).alloc (by omega) _).drew) hgrow (by simp; omega) HvS.out
                case rest =>
                  obtain ⟨hnode2, hbel2⟩ := hcut
                  have Hbel2 := Lib.hid hbel2
                  have hlwc := hbel2.size
                  clear hbel2
                  go_upto_region 31 with (fail)
                  have Hnode2 := Lib.hid hnode2
                  obtain ⟨_, vsv2, psv2, hB2, _, _, _, _⟩ := hnode2
                  have hd1 := cell_at hB2 1
                  have hd4 := cell_at hB2 4
                  have hg1 := free_at hB2 1
                  have hg4 := free_at hB2 4
                  simp only [List.getElem?_toArray, List.getElem?_cons_succ, List.getElem?_cons_zero] at hd1 hd4
                  clear hB2 hc1 hc4 hf1 hf4
                  obtain ⟨hcv, hv3⟩ : (cur[0].toNat : Int) = 97 + (v.val : Int) ∧ (v.val : Int) < 4 := by
                    rw [Hcb.out]
                    exact ⟨vb_int v, by omega⟩
                  go_cut [] (fun wx => NodeIn (fun g => w.heap.size ≤ g) wx s[0] (vs ++ [v]) 0 (maskV (vs ++ [v])) w.heap.size [] ∧ Below w.heap.size w wx)
                  case first =>
                    go_region
                    all_goals
                      go_wp2_with fail
                      go_meet
                      case rel =>
                        refine ⟨?_, Below.drew (Below.setCell (p := ⟨w.heap.size, 4, none⟩) Hbel2.out (Nat.le_refl _) _)⟩
                        rw [or_bit _ _ (maskV_lt vs), maskV_snoc]
                        exact NodeIn.setAll Hnode2.out _
                  case rest =>
                    obtain ⟨hnode3, hbel3⟩ := hcut
                    clear hcv
                    go_wp2_with fail
                    go_roundg (gk - 1)
                    case measure => have := Hk.out; omega
                    case rel =>
                      refine ⟨vs ++ [v], cur.extract 1 cur.size, rfl, by simp, ?_, ?_, ?_, hnode3, hbel3⟩
                      · have := Hk.out; simp; omega
                      · rw [Htl.out, Lib.extract_to_end, drop_at (k := 0) hc0 |> fun h => (by simpa using h : cur.data.toList = cur[0] :: cur.data.toList.drop 1), Hcb.out]
                        simp
                      · simp; omega
            · have hl : cur.data.toList = [] := List.eq_nil_of_length_eq_zero (by rw [← Lib.size_eq]; omega)
              have hl2 : cur.toList = [] := by rw [ByteArray.toList_eq]; exact hl
              have e1 : (cur.toList == []) = true := by rw [hl2]; rfl
              have e2 : cur.toList.isEmpty = true := by rw [hl2]; rfl
              have Hl := Lib.hid hl
              clear hl hl2 hc0 hnode
              go_wp2_with fail
              go_ret2
              refine ⟨Hbel.out, .inl ⟨?_, cur, rfl⟩⟩
              rw [Hb0.out, Htl.out]
              exact parse_no_var Har.out vs _ hlt fun u r e => by rw [Hl.out] at e; cases e
          · have hvl : vs.length = nv := by have := Hk.out; omega
            have Hvl := Lib.hid hvl
            clear hvl
            have hnt := NodeT.of hnode
            clear hnode
            have Hnt := Lib.hid hnt
            obtain ⟨_, _, _, hB, _, _, _, _, _⟩ := hnt
            have hc4 := cell_at hB 4
            have hc3 := cell_at hB 3
            have hf3 := free_at hB 3
            have hlw := block_lt hB
            simp only [List.getElem?_toArray, List.getElem?_cons_succ, List.getElem?_cons_zero] at hc3 hc4
            clear hB
            go_upto_if 85 with (fail)
            go_cut [] (fun wx => NodeT w.heap.size wx s[0] vs (if 0 < np then 0 else maskV vs) (maskV vs) [] ∧ Below w.heap.size w wx)
            case first =>
              by_cases hnp : 0 < np
              · go_wp2_with fail
                go_meet
                case rel =>
                  refine ⟨?_, Below.setCell (p := ⟨w.heap.size, 3, none⟩) (Below.setCell (p := ⟨w.heap.size, 3, none⟩) Hbel.out (Nat.le_refl _) _) (Nat.le_refl _) _⟩
                  rw [if_pos hnp]
                  exact NodeT.setFree (NodeT.setFree Hnt.out _) 0
              · go_wp2_with fail
                go_meet
                case rel =>
                  refine ⟨?_, Below.setCell (p := ⟨w.heap.size, 3, none⟩) Hbel.out (Nat.le_refl _) _⟩
                  rw [if_neg hnp]
                  exact NodeT.setFree Hnt.out _
            case rest =>
              obtain ⟨hnt1, hbel1⟩ := hcut
              clear hc4 hc3 hf3 hlw
              obtain ⟨F0, HF0, hF0⟩ : ∃ F0, Hid (F0 = if 0 < np then 0 else maskV vs) ∧ F0 < 16 := ⟨_, rfl, by split; decide; exact maskV_lt vs⟩
              rw [← HF0.out] at hnt1
              have Hnt1 := Lib.hid hnt1
              have Hbel1 := Lib.hid hbel1
              have hnp2 := (arity_le Har.out).2
              clear hnt1 hbel1
              go_upto_block 3 with (fail)
              go_wp2_with fail
              go_loopg [0, 90] np (fun k c i wr => ∃ (ps : List Fm) (cur2 : ByteArray), c = .string cur2 ∧ i = .int .i64 ps.length ∧ ps.length + k = np ∧ cur.data.toList = (ps.map Fm.text).flatten ++ cur2.data.toList ∧ cur2.size ≤ n ∧
                NodeT w.heap.size wr s[0] vs (orFree F0 ps) (orAll (maskV vs) ps) ps ∧ Below w.heap.size w wr)
              case atStart => exact ⟨[], cur, rfl, rfl, by simp, by simp, hcn, Hnt1.out, Hbel1.out⟩
              case round =>
                obtain ⟨ps, cur2, rfl, rfl, hk2, htl2, hcn2, hnt2, hbel2⟩ := hrel
                have Hk2 := Lib.hid hk2
                have Htl2 := Lib.hid htl2
                have Hnt2 := Lib.hid hnt2
                have Hbel2 := Lib.hid hbel2
                clear hk2 htl2 hnt2 hbel2
                by_cases hlt2 : ps.length < np
                · go_upto_region 42 with (go_at_call 67; refine (Ih.out _ _ hcn2 (by omega)).mono ?_; rintro e w1 ⟨hb1, ⟨hno, rest, rfl⟩ | ⟨f, rest, b, hp, htr, rfl⟩⟩)
                  · go_wp2_with fail
                    go_ret2
                    refine ⟨Hbel2.out.trans (hb1.mono Hbel2.out.size), .inl ⟨?_, rest, rfl⟩⟩
                    rw [Hb0.out, Htl.out, Htl2.out]
                    exact parse_no_part Har.out vs Hvl.out ps _ hlt2 hno
                  · have Hp := Lib.hid hp
                    have Hb1 := Lib.hid hb1
                    have hsz1 := hb1.size
                    obtain ⟨ks, vsv, psv, hB, h1, h2, h3, h4, h5⟩ := Hnt2.out
                    have hBlo := block_lt hB
                    have hB1 : w1.heap[w.heap.size]? = _ := (hb1.block _ hBlo).trans hB
                    have h1' := ownsRow_keep (base' := 0) h1 (fun g hg => ⟨hb1.block g (ownsRow_lt h1 hg).2, Nat.zero_le _⟩)
                    have h3' := ownsRow_keep (base' := 0) h3 (fun g hg => ⟨hb1.block g (ownsRow_lt h3 hg).2, Nat.zero_le _⟩)
                    have h4' : ∀ k, psv.ownBlock = some k → w.heap.size ≤ k ∧ k < wr.heap.size := fun k hk => ⟨h4 k hk, (ownsRow_lt h3 hk).2⟩
                    have h5' : TreesIn (fun g => w.heap.size < g ∧ psv.ownBlock ≠ some g ∧ g < wr.heap.size) w1 ps ks := h5.keep fun g hg hl => ⟨hb1.block g hl, hg.1, hg.2, hl⟩
                    have hkc := kidCells_of htr (B := w.heap.size) (by omega)
                    have hc2 := cell_at hB1 2
                    have hf2 := free_at hB1 2
                    simp only [List.getElem?_toArray, List.getElem?_cons_succ, List.getElem?_cons_zero] at hc2
                    have HB1 := Lib.hid hB1
                    have H1 := Lib.hid h1'
                    have H2 := Lib.hid h2
                    have H3 := Lib.hid h3'
                    have H4 := Lib.hid h4'
                    have H5 := Lib.hid h5'
                    have Htr := Lib.hid htr
                    have Hkc := Lib.hid hkc
                    clear hp hb1 hB h1 h2 h3 h4 h5 hB1 h1' h3' h4' h5' htr hkc
                    obtain ⟨i1, hi0, hz0, hz1, hz2⟩ := info_parts Tryd.infoPF
                    have hlks : ks.length < 1000000000 := by have := H5.out.1; have := (arity_le Har.out).2; omega
                    go_cut [] (fun wx => NodeT w.heap.size wx s[0] vs (orFree F0 ps) (orAll (maskV vs) ps) (ps ++ [f]) ∧ Below w.heap.size w wx ∧ KidCells wx w.heap.size b f)
                    case first =>
                      go_wp2_with (at_builtin; refine wpList_append_lies _ rfl _ _ _ rfl 0 55 i1 _ 1 8 Tryd.underlying66 hi0 hz0 hz1 hz2 rfl (by omega) psv ks.length _ rfl (H3.out.alloc _) ⟨w1.heap.size, 0, none⟩ 1 1 [kidV b] rfl rfl (World.news_of_block (cs := #[kidV b]) (t := 55) (fr := (0, 0)) (heap_alloc_new w1 _)) (by simp [Value.oneCell', kidV]) (by omega) (by unfold maxLen; omega) (by omega) (Nat.zero_le _) (w1.heap.size + 1) (by simp) ?_; intro g cap w2 hown1 hgrow hat hlt1; have hB2 := (grown_heap hgrow (Nat.lt_of_lt_of_le hBlo hsz1) (ownsRow_ne H3.out HB1.out (by decide))).trans HB1.out; have hw2 := cell_at hB2 2; have gw2 := free_at hB2 2; have HB2 := Lib.hid hB2; clear hB2)
                      go_meet
                      case rel =>
                        refine ⟨nodeT_part HB1.out H1.out H2.out H3.out H4.out H5.out hsz1 hBlo Htr.out hown1 hgrow hat, ?_, KidCells.set (kidCells_heap Hkc.out ?_) 2 _⟩
                        · exact Below.setCell (p := ⟨w.heap.size, 2, none⟩) (Below.grown ((Hbel2.out.trans (Hb1.out.mono Hbel2.out.size)).alloc (by have := Hbel2.out.size; omega) _) hgrow (by have := Hbel2.out.size; simp; omega) (fun k hk => (H4.out k hk).1)) (Nat.le_refl _) _
                        · obtain ⟨_, ⟨hS, _, _, hbb, _⟩, _⟩ := Htr.out.open
                          have hlo : wr.heap.size ≤ b := hS
                          exact grown_heap hgrow (block_lt hbb) (fun e => by have := (H4.out b e).2; omega)
                    case rest =>
                      obtain ⟨hnt3, hbel3, hkc3⟩ := hcut
                      clear hc2 hf2
                      have Hnt3 := Lib.hid hnt3
                      have Hbel3 := Lib.hid hbel3
                      have Hkc3 := Lib.hid hkc3
                      obtain ⟨_, _, _, hB, _, _, _, _, _⟩ := hnt3
                      obtain ⟨_, hk3, _⟩ := hkc3
                      have hc3 := cell_at hB 3
                      have hf3 := free_at hB 3
                      simp only [List.getElem?_toArray, List.getElem?_cons_succ, List.getElem?_cons_zero] at hc3
                      clear hB hbel3
                      go_upto_region 43 with (fail)
                      go_cut [] (fun wx => NodeT w.heap.size wx s[0] vs (orFree F0 (ps ++ [f])) (orAll (maskV vs) ps) (ps ++ [f]) ∧ Below w.heap.size w wx ∧ KidCells wx w.heap.size b f)
                      case first =>
                        go_region
                        all_goals
                          go_wp2_with fail
                          go_meet
                          case rel =>
                            rw [or_nat _ _ (orFree_lt hF0 ps) (freeBits_lt f), orFree_snoc]
                            exact ⟨NodeT.drew (NodeT.setFree Hnt3.out _), Below.drew (Below.setCell (p := ⟨w.heap.size, 3, none⟩) Hbel3.out (Nat.le_refl _) _), KidCells.drew (KidCells.set Hkc3.out 3 _)⟩
                      case rest =>
                        obtain ⟨hnt4, hbel4, hkc4⟩ := hcut
                        clear hc3 hf3 hk3
                        have Hnt4 := Lib.hid hnt4
                        have Hbel4 := Lib.hid hbel4
                        obtain ⟨_, _, _, hB, _, _, _, _, _⟩ := hnt4
                        obtain ⟨_, _, hk4⟩ := hkc4
                        have hc4 := cell_at hB 4
                        have hf4 := free_at hB 4
                        simp only [List.getElem?_toArray, List.getElem?_cons_succ, List.getElem?_cons_zero] at hc4
                        clear hB hbel4
                        go_upto_region 44 with (fail)
                        go_cut [] (fun wx => NodeT w.heap.size wx s[0] vs (orFree F0 (ps ++ [f])) (orAll (maskV vs) (ps ++ [f])) (ps ++ [f]) ∧ Below w.heap.size w wx)
                        case first =>
                          go_region
                          all_goals
                            go_wp2_with fail
                            go_meet
                            case rel =>
                              rw [or_nat _ _ (orAll_lt (maskV_lt vs) ps) (allBits_lt f), orAll_snoc]
                              exact ⟨NodeT.drew (NodeT.setAll Hnt4.out _), Below.drew (Below.setCell (p := ⟨w.heap.size, 4, none⟩) Hbel4.out (Nat.le_refl _) _)⟩
                        case rest =>
                          obtain ⟨hnt5, hbel5⟩ := hcut
                          clear hc4 hf4 hk4
                          have Hnt5 := Lib.hid hnt5
                          have Hbel5 := Lib.hid hbel5
                          clear hnt5 hbel5
                          go_wp2_with fail
                          go_roundg (gk - 1)
                          case measure => have := Hk2.out; omega
                          case rel =>
                            have e1 := parse_some.1 Hp.out
                            refine ⟨ps ++ [f], rest, rfl, by simp, ?_, ?_, ?_, Hnt5.out, Hbel5.out⟩
                            · have := Hk2.out; simp; omega
                            · rw [Htl2.out, e1]; simp
                            · have := congrArg List.length e1
                              rw [List.length_append, ← Lib.size_eq, ← Lib.size_eq] at this
                              omega
                · have hpl : ps.length = np := by have := Hk2.out; omega
                  have Hpl := Lib.hid hpl
                  clear hpl
                  have hhd : parse s.data.toList = parse (s[0] :: (vs.map vb ++ ((ps.map Fm.text).flatten ++ cur2.data.toList))) := by rw [Hb0.out, Htl.out, Htl2.out]
                  obtain ⟨f, ef1, ef2, ef3, ef4⟩ := parse_all Har.out vs Hvl.out ps Hpl.out cur2.data.toList
                  have Hpar := Lib.hid (hhd.trans ef4)
                  have Hf1 := Lib.hid ef1
                  have Hf2 := Lib.hid ef2
                  have Hf3 := Lib.hid ef3
                  clear hhd ef1 ef2 ef3 ef4
                  have hall := allBits_eq f
                  rw [Hf2.out, Hf3.out] at hall
                  have Hall := Lib.hid hall
                  clear hall
                  obtain ⟨_, vsv, _, hB, h1, _, _, _, _⟩ := Hnt2.out
                  have hc0 := cell_at hB 0
                  have hc1 := cell_at hB 1
                  have hc3 := cell_at hB 3
                  have hf3 := free_at hB 3
                  simp only [List.getElem?_toArray, List.getElem?_cons_succ, List.getElem?_cons_zero] at hc0 hc1 hc3
                  clear hB
                  have H1 := Lib.hid h1
                  clear h1
                  cases hq : isQuB s[0] with
                  | false =>
                    have hfree := freeBits_no f (by rw [Hf1.out]; exact hq)
                    rw [Hf2.out, Hf3.out, Hpl.out, ← HF0.out] at hfree
                    have Hfree := Lib.hid hfree
                    have Hq := Lib.hid hq
                    clear hfree hq
                    go_wp2_with (go_at_call 76; refine (isQuantifier_at s[0] _ Hq.out _ _ hc0).mono ?_; rintro e w' ⟨rfl, rfl⟩)
                    go_ret2
                    refine ⟨Hbel2.out, .inr ⟨f, cur2, w.heap.size, Hpar.out, tree_done ?_, rfl⟩⟩
                    rw [Hf1.out, Hf2.out, Hf3.out, Hall.out, Hfree.out]
                    exact Hnt2.out
                  | true =>
                    obtain ⟨v, hv, hfree⟩ := freeBits_yes f (by rw [Hf1.out]; exact hq)
                    rw [Hf2.out] at hv
                    rw [Hf2.out, Hf3.out, Hpl.out, ← HF0.out] at hfree
                    have Hfree := Lib.hid hfree
                    have Hq := Lib.hid hq
                    have Hv := Lib.hid hv
                    clear hfree hq hv
                    have hvl1 : vs.length = 1 := by rw [Hv.out]; rfl
                    obtain ⟨g, cap, rfl, hcap, hcm, _, hglt, hrow⟩ := row_open H1.out (by omega)
                    have hgc : wr.cell? ⟨g, 0, none⟩ = some (.int .u8 (vb v).toNat) := by
                      rw [hrow 0 (by omega), Hv.out]; rfl
                    clear hrow
                    obtain ⟨hcv, hv3⟩ : ((vb v).toNat : Int) = 97 + (v.val : Int) ∧ (v.val : Int) < 4 := ⟨vb_int v, by omega⟩
                    have hvl2 : 0 < vs.length := by omega
                    clear hvl1
                    go_upto_region 48 with (go_at_call 76; refine (isQuantifier_at s[0] _ Hq.out _ _ hc0).mono ?_; rintro e w' ⟨rfl, rfl⟩)
                    go_cut [] (fun wx => NodeT w.heap.size wx s[0] vs f.freeBits (orAll (maskV vs) ps) ps ∧ Below w.heap.size w wx)
                    case first =>
                      go_region
                      all_goals
                        go_wp2_with fail
                        go_meet
                        case rel =>
                          rw [andNot_bit _ _ (orFree_lt hF0 ps), ← Hfree.out]
                          exact ⟨NodeT.drew (NodeT.setFree Hnt2.out _), Below.drew (Below.setCell (p := ⟨w.heap.size, 3, none⟩) Hbel2.out (Nat.le_refl _) _)⟩
                    case rest =>
                      obtain ⟨hnt6, hbel6⟩ := hcut
                      have Hnt6 := Lib.hid hnt6
                      have Hbel6 := Lib.hid hbel6
                      clear hnt6 hbel6 hc0 hc1 hc3 hf3 hgc hcv
                      go_wp2_with fail
                      go_ret2
                      refine ⟨Hbel6.out, .inr ⟨f, cur2, w.heap.size, Hpar.out, tree_done ?_, rfl⟩⟩
                      rw [Hf1.out, Hf2.out, Hf3.out, Hall.out]
                      exact Hnt6.out
    · exact parsePart_empty s w (by omega)
end Go.Proofs.YteonanaihklgmaaDoor

namespace Go.Proofs.YteonanaihklgmaaDoor
open Go.RowKit
open Pl

/-- a tree of f was laid -/
def TreePost (f : Fm) (w : World) (e : Ending) (w' : World) : Prop := ∃ b, e = .returned (kidV b) ∧ TreeAt w.heap.size w' f b ∧ Below w.heap.size w w'

set_option maxHeartbeats 400000 in
theorem parseFormula_no (s : ByteArray) (w : World) (h : ¬ IsFm s.data.toList) :
    Calls Tryd.prog 33 #[.string s] w fun e w' => e = .returned (.pointer none) ∧ Below w.heap.size w w' := by
  have H := Lib.hid h
  clear h
  by_cases hs : s.size ≤ 4000
  · go_enter Tryd.func33, Tryd.ntmps33
    go_upto_region 4 with (go_at_call 67; refine (parsePart_calls s.size s w (Nat.le_refl _) (by omega)).mono ?_; rintro e w1 ⟨hb1, ⟨hno, rest, rfl⟩ | ⟨f, rest, b, hp, htr, rfl⟩⟩)
    · have Hb1 := Lib.hid hb1
      clear hno hb1
      go_wp2_with fail
      all_goals (go_ret; exact ⟨rfl, Hb1.out⟩)
    · have hr : rest.data.toList ≠ [] := by
        intro e
        apply H.out
        have e1 := parse_some.1 hp
        rw [e] at e1
        exact ⟨by rw [← Lib.size_eq]; exact hs, f, by simpa using e1⟩
      have hr0 : 0 < rest.size := by
        rw [Lib.size_eq]
        exact List.length_pos_iff.2 hr
      obtain ⟨hne, hne2⟩ := empty_facts hr0
      have Hb1 := Lib.hid hb1
      clear hp htr hb1 hr
      go_wp2_with fail
      go_ret
      exact ⟨rfl, Hb1.out⟩
  · go_enter Tryd.func33, Tryd.ntmps33
    go_wp2_with fail
    go_ret
    exact ⟨rfl, Below.refl _ _⟩

set_option maxHeartbeats 400000 in
theorem parseFormula_yes (s : ByteArray) (f : Fm) (w : World) (hs : s.size ≤ 4000) (h : s.data.toList = f.text) :
    Calls Tryd.prog 33 #[.string s] w (TreePost f w) := by
  have H := Lib.hid h
  clear h
  go_enter Tryd.func33, Tryd.ntmps33
  go_upto_region 4 with (go_at_call 67; refine (parsePart_calls s.size s w (Nat.le_refl _) (by omega)).mono ?_; rintro e w1 ⟨hb1, ⟨hno, rest, rfl⟩ | ⟨g, rest, b, hp, htr, rfl⟩⟩)
  · exact absurd (H.out.trans (List.append_nil _).symm) (parse_none.1 hno f [])
  · have e1 := parse_some.1 hp
    rw [H.out] at e1
    obtain ⟨rfl, e2⟩ := Fm.text_inj f g [] _ (by simpa using e1)
    have hl2 : rest.toList = [] := by rw [ByteArray.toList_eq]; exact e2.symm
    have g1 : (rest.toList == []) = true := by rw [hl2]; rfl
    have g2 : rest.toList.isEmpty = true := by rw [hl2]; rfl
    have Hb1 := Lib.hid hb1
    have Htr := Lib.hid htr
    clear hp htr hb1 e1 e2 hl2
    go_wp2_with fail
    go_ret
    exact ⟨b, rfl, Htr.out, Hb1.out⟩

end Go.Proofs.YteonanaihklgmaaDoor

namespace Go.Proofs.YteonanaihklgmaaDoor
open Go.RowKit
open Pl

/-- the cells of a node that a walk reads -/
theorem node_cells {S : Nat → Prop} {w : World} {f : Fm} {b : Nat} (h : TreeIn S w f b) :
    ∃ ks vsv psv, w.cell? ⟨b, 0, none⟩ = some (.int .u8 f.op.toNat) ∧ w.cell? ⟨b, 1, none⟩ = some vsv ∧ w.cell? ⟨b, 2, none⟩ = some psv ∧
      w.cell? ⟨b, 3, none⟩ = some (.int .i64 f.freeBits) ∧ w.cell? ⟨b, 4, none⟩ = some (.int .i64 f.allBits) ∧
      w.ownsRow 0 5 1 vsv f.vars.length (f.vars.map fun v => byteV (vb v)) ∧ w.ownsRow 0 55 1 psv ks.length (ks.map kidV) ∧ TreesIn S w f.parts ks := by
  obtain ⟨ks, ⟨_, vsv, psv, hb, h1, _, h2, _⟩, h3⟩ := h.open
  exact ⟨ks, vsv, psv, cell_at hb 0, cell_at hb 1, cell_at hb 2, cell_at hb 3, cell_at hb 4, h1, h2, h3⟩

/-- a row that may be empty, as a slice -/
theorem row_slice {w : World} {base : Nat} {e : TypeId} {v : Value} {n : Nat} {xs : List Value} (h : w.ownsRow base e 1 v n xs) :
    ∃ a cap, v = .slice a n cap ∧ xs.length = n ∧ (∀ j, j < n → ∃ g, a = some ⟨g, 0, none⟩ ∧ w.cell? ⟨g, j, none⟩ = xs[j]?) := by
  rcases Nat.eq_zero_or_pos n with h0 | h0
  · subst h0
    obtain ⟨hl, ⟨rfl, _⟩ | ⟨g, cap, cur, rfl, _⟩⟩ := h
    · exact ⟨_, _, rfl, by simpa using hl, fun j hj => absurd hj (Nat.not_lt_zero _)⟩
    · exact ⟨_, _, rfl, by simpa using hl, fun j hj => absurd hj (Nat.not_lt_zero _)⟩
  · obtain ⟨g, cap, rfl, _, _, _, _, hc⟩ := row_open h h0
    exact ⟨_, _, rfl, by simpa using h.1, fun j hj => ⟨g, rfl, hc j hj⟩⟩

theorem parts_le (f : Fm) : f.parts.length ≤ 2 := by cases f <;> simp [Fm.parts]
theorem vars_le (f : Fm) : f.vars.length ≤ 2 := by cases f <;> simp [Fm.vars]

theorem part_text_le {f p : Fm} (h : p ∈ f.parts) : p.text.length ≤ f.text.length := by
  cases f <;> simp [Fm.parts] at h
  case neg => subst h; simp [Fm.text]
  case con => rcases h with h | h <;> subst h <;> simp [Fm.text] <;> omega
  case dis => rcases h with h | h <;> subst h <;> simp [Fm.text] <;> omega
  case qu => subst h; simp [Fm.text]; omega

theorem foldmax_lt {m : Nat} : ∀ (ps : List Fm), m < 100000 → (∀ p ∈ ps, p.rank < 100000) → ps.foldl (fun m p => max m p.rank) m < 100000 := by
  intro ps
  induction ps generalizing m with
  | nil => intro h _; exact h
  | cons p ps ih =>
    intro h hp
    exact ih (Nat.max_lt.2 ⟨h, hp p (by simp)⟩) (fun q hq => hp q (by simp [hq]))

set_option maxHeartbeats 400000 in
theorem rank_calls (n : Nat) : ∀ (f : Fm) (b : Nat) (S : Nat → Prop) (w : World), f.size ≤ n → TreeIn S w f b → f.text.length ≤ 4000 →
    Calls Tryd.prog 41 #[kidV b] w fun e w' => e = .returned (.int .i64 f.rank) ∧ w = w' := by
  induction n with
  | zero => intro f b S w hn _ _; cases f <;> simp [Fm.size] at hn
  | succ n ih =>
    intro f b S w hn ht hl
    obtain ⟨ks, vsv, psv, hc0, _, hc2, _, _, _, hr, hts⟩ := node_cells ht
    obtain ⟨a, cap, rfl, hkl, hrow⟩ := row_slice hr
    have hkl2 : ks.length = f.parts.length := hts.1
    have hp2 := parts_le f
    have hkl3 : ks.length ≤ 2 := by omega
    have Ih := Lib.hid ih
    have Hrow := Lib.hid hrow
    have Hts := Lib.hid hts
    have Hkl := Lib.hid hkl2
    have hrk : ∀ p ∈ f.parts, p.rank < 100000 := fun p hp => by have := rank_le p; have := part_text_le hp; omega
    have Hrk := Lib.hid hrk
    have hfin := rank_eq f
    have hrl := rank_le f
    have Hfin := Lib.hid hfin
    clear ih hrow hts hkl hkl2 hr hrk hfin ht
    go_enter Tryd.func41, Tryd.ntmps41
    go_wp2_with fail
    go_loop [3, 11] (fun m i => ∃ k : Nat, k ≤ ks.length ∧ i = .int .i64 k ∧ m = .int .i64 ((f.parts.take k).foldl (fun m p => max m p.rank) 0 : Nat)) (fun _ i => ks.length - (intOf i).toNat)
    case atStart => exact ⟨0, Nat.zero_le _, rfl, rfl⟩
    case round =>
      obtain ⟨k, hk, rfl, rfl⟩ := hrel
      have hm : ((f.parts.take k).foldl (fun m p => max m p.rank) 0) < 100000 := foldmax_lt _ (by decide) (fun p hp => Hrk.out p (List.mem_of_mem_take hp))
      by_cases hlt : k < ks.length
      · obtain ⟨g, rfl, hcell⟩ := Hrow.out k hlt
        have hkf : k < f.parts.length := by rw [← Hkl.out]; exact hlt
        have hcell2 : w.cell? ⟨g, k, none⟩ = some (kidV ks[k]) := by rw [hcell, List.getElem?_map, List.getElem?_eq_getElem hlt]; rfl
        have hpk := Hts.out.2 k f.parts[k] ks[k] (List.getElem?_eq_getElem hkf) (List.getElem?_eq_getElem hlt)
        have hmem : f.parts[k] ∈ f.parts := List.getElem_mem hkf
        have hsz := Fm.size_parts hmem
        have hcall := Ih.out f.parts[k] ks[k] S w (by omega) hpk (by have := part_text_le hmem; omega)
        have Hcall := Lib.hid hcall
        have hrk2 := Hrk.out _ hmem
        have hsnoc : (f.parts.take (k + 1)).foldl (fun m p => max m p.rank) 0 = max ((f.parts.take k).foldl (fun m p => max m p.rank) 0) f.parts[k].rank := by
          rw [List.take_succ_eq_append_getElem hkf, List.foldl_append]; rfl
        have Hsnoc := Lib.hid hsnoc
        clear hcell hpk hmem hsz hcall hsnoc
        go_wp2_with (go_at_call 41; refine (Hcall.out).mono ?_; rintro e w' ⟨rfl, rfl⟩)
        go_round
        case rel => exact ⟨k + 1, by omega, by go_num, by rw [Hsnoc.out]; congr 1; first | (split <;> omega) | omega⟩
        case measure => simp [intOf]; omega
      · have hk2 : k = ks.length := by omega
        have htk : f.parts.take k = f.parts := List.take_of_length_le (by rw [hk2, Hkl.out]; exact Nat.le_refl _)
        have Htk := Lib.hid htk
        clear htk hk2
        cases hco : isCoB f.op with
        | true =>
          have hadd : rankAdd f.op = f.op.toNat - 48 := by simp [rankAdd, hco]
          have hop : 50 ≤ f.op.toNat ∧ f.op.toNat ≤ 52 := by
            simp only [isCoB, Bool.or_eq_true, beq_iff_eq] at hco
            rcases hco with (h | h) | h <;> rw [h] <;> decide
          obtain ⟨hop1, hop2⟩ : 50 ≤ (f.op.toNat : Int) ∧ (f.op.toNat : Int) ≤ 52 := by omega
          have Hadd := Lib.hid hadd
          have Hco := Lib.hid hco
          clear hadd hco hop
          go_wp2_with (first | (go_at_call 75; refine (isCounting_at f.op _ Hco.out _ _ hc0).mono ?_; rintro e w' ⟨rfl, rfl⟩))
          go_ret
          refine ⟨ret_int ?_, rfl⟩
          rw [Hfin.out, Hadd.out, Htk.out]
          omega
        | false =>
          cases hqu : isQuB f.op with
          | true =>
            have hadd : rankAdd f.op = 1 := by simp [rankAdd, hco, hqu]
            have Hadd := Lib.hid hadd
            have Hco := Lib.hid hco
            have Hqu := Lib.hid hqu
            clear hadd hco hqu
            go_wp2_with (first | (go_at_call 75; refine (isCounting_at f.op _ Hco.out _ _ hc0).mono ?_; rintro e w' ⟨rfl, rfl⟩) | (go_at_call 76; refine (isQuantifier_at f.op _ Hqu.out _ _ hc0).mono ?_; rintro e w' ⟨rfl, rfl⟩))
            go_ret
            refine ⟨ret_int ?_, rfl⟩
            rw [Hfin.out, Hadd.out, Htk.out]
            omega
          | false =>
            have hadd : rankAdd f.op = 0 := by simp [rankAdd, hco, hqu]
            have Hadd := Lib.hid hadd
            have Hco := Lib.hid hco
            have Hqu := Lib.hid hqu
            clear hadd hco hqu
            go_wp2_with (first | (go_at_call 75; refine (isCounting_at f.op _ Hco.out _ _ hc0).mono ?_; rintro e w' ⟨rfl, rfl⟩) | (go_at_call 76; refine (isQuantifier_at f.op _ Hqu.out _ _ hc0).mono ?_; rintro e w' ⟨rfl, rfl⟩))
            go_ret
            refine ⟨ret_int ?_, rfl⟩
            rw [Hfin.out, Hadd.out, Htk.out]
            omega

/-- what a walk over the parts is told -/
def AnyPost (f : Fm) (e : Ending) : Prop := (f.parts.any Fm.counts = false ∧ e = .returned (.int .i64 (-1))) ∨ (f.parts.any Fm.counts = true ∧ ∃ k : Nat, k ≤ 2 ∧ e = .returned (.int .i64 k))

/-- a bit as the walk reckons it -/
theorem shr_bit (m k : Nat) (hm : m < 16) (hk : k < 4) : (bits .and .i64 ((m : Int) / 2 ^ k) 1 == 1) = m.testBit k := by
  have h : ∀ (m : Fin 16) (k : Fin 4), (bits .and .i64 ((m.val : Int) / 2 ^ k.val) 1 == 1) = m.val.testBit k.val := by decide +kernel
  exact h ⟨m, hm⟩ ⟨k, hk⟩

theorem abcd_at (k : Nat) (hk : k < 4) : (ByteArray.mk #[97, 98, 99, 100]).extract k (k + 1) = bs [UInt8.ofNat (97 + k)] := by
  apply eq_bs
  rw [Lib.extract_data]
  match k, hk with
  | 0, _ => rfl
  | 1, _ => rfl
  | 2, _ => rfl
  | 3, _ => rfl

set_option maxHeartbeats 400000 in
theorem varsText_calls (m : Nat) (hm : m < 16) (w : World) :
    Calls Tryd.prog 42 #[.int .i64 m] w fun e w' => e = .returned (.string (bs (varsL m 4))) ∧ w = w' := by
  go_enter Tryd.func42, Tryd.ntmps42
  go_wp2_with fail
  go_loop [3, 5] (fun o i => ∃ k : Nat, k ≤ 4 ∧ i = .int .i64 k ∧ o = .string (bs (varsL m k))) (fun _ i => 4 - (intOf i).toNat)
  case atStart => exact ⟨0, by omega, rfl, rfl⟩
  case round =>
    obtain ⟨k, hk, rfl, rfl⟩ := hrel
    have hsz : (bs (varsL m k)).size ≤ 4 := by rw [bs_size]; have := varsL_len m k; omega
    by_cases hlt : k < 4
    · have hbit := shr_bit m k hm hlt
      cases hb : m.testBit k with
      | true =>
        rw [hb] at hbit
        have Hb := Lib.hid hb
        clear hb
        go_wp2_with fail
        go_round
        case rel => exact ⟨k + 1, by omega, by go_num, str_eq (by rw [varsL_yes Hb.out, abcd_at k hlt, append_bs]; rfl)⟩
        case measure => simp [intOf]; omega
      | false =>
        rw [hb] at hbit
        have Hb := Lib.hid hb
        clear hb
        go_wp2_with fail
        go_round
        case rel => exact ⟨k + 1, by omega, by go_num, str_eq (by rw [varsL_no Hb.out])⟩
        case measure => simp [intOf]; omega
    · obtain rfl : k = 4 := by omega
      go_wp2_with fail
      go_ret
      exact ⟨rfl, rfl⟩

end Go.Proofs.YteonanaihklgmaaDoor

namespace Go.Proofs.YteonanaihklgmaaDoor
open Go.RowKit
open Go.ChangeMaps
open Pl
set_option linter.unusedSimpArgs false
set_option linter.unusedVariables false

theorem or_at {fr : Nat} {e : Nat → Nat} (he : ∀ i, e i < 8) {k : Nat} (hk : k < 4) (hb : fr.testBit k = true) : bits .or .i64 ((keyTo fr e k : Nat) : Int) ((e k * 8 ^ k : Nat) : Int) = ((keyTo fr e (k + 1) : Nat) : Int) := by
  have h1 := keyTo_lt (fr := fr) he k
  have h2 := keyTo_lt (fr := fr) he (k + 1)
  have e1 : keyTo fr e (k + 1) = keyTo fr e k ||| (e k * 8 ^ k) := by rw [show keyTo fr e (k + 1) = if fr.testBit k then keyTo fr e k ||| (e k * 8 ^ k) else keyTo fr e k from rfl, hb]; rfl
  rw [e1] at h2 ⊢
  have hp : (8 : Nat) ^ (k + 1) ≤ 4096 := by
    have : k = 0 ∨ k = 1 ∨ k = 2 ∨ k = 3 := by omega
    rcases this with rfl | rfl | rfl | rfl <;> decide
  have hp1 : (8 : Nat) ^ (k + 1) = 8 * 8 ^ k := by rw [Nat.pow_succ, Nat.mul_comm]
  have hx : e k * 8 ^ k ≤ 7 * 8 ^ k := Nat.mul_le_mul_right _ (by have := he k; omega)
  generalize e k * 8 ^ k = y at *
  generalize keyTo fr e k = m at *
  have g1 : (BitVec.ofInt 64 (m : Int)).toNat = m := by
    rw [BitVec.ofInt_natCast, BitVec.toNat_ofNat]; exact Nat.mod_eq_of_lt (by omega)
  have g2 : (BitVec.ofInt 64 (y : Int)).toNat = y := by
    rw [BitVec.ofInt_natCast, BitVec.toNat_ofNat]; exact Nat.mod_eq_of_lt (by omega)
  show IntKind.i64.wrap ((BitVec.ofInt 64 (m : Int) ||| BitVec.ofInt 64 (y : Int)).toNat : Int) = _
  rw [BitVec.toNat_or, g1, g2, IntWalk.i64_in _ (by omega)]

theorem keyTo_no {fr : Nat} {e : Nat → Nat} {k : Nat} (hb : fr.testBit k = false) : keyTo fr e (k + 1) = keyTo fr e k := by
  rw [show keyTo fr e (k + 1) = if fr.testBit k then keyTo fr e k ||| (e k * 8 ^ k) else keyTo fr e k from rfl, hb]; rfl

theorem index4 (W : World) (E : Nat → Nat) (k : Nat) (hk : k < 4) : (Instr.index 78 (.agg #[.int .i64 (E 0 : Nat), .int .i64 (E 1 : Nat), .int .i64 (E 2 : Nat), .int .i64 (E 3 : Nat)]) (.int .i64 (k : Nat))).run Tryd.prog W = .ok (.int .i64 (E k : Nat)) W := by
  obtain ⟨i0, hi, hz0, hz1, hz2⟩ := info_parts (P := Tryd.prog) (e := 3) (z := .int .i64 0) (size := 1) (bytes := 8) (by kernel_rfl)
  have hu := Tryd.underlying78
  have : k = 0 ∨ k = 1 ∨ k = 2 ∨ k = 3 := by omega
  rcases this with rfl | rfl | rfl | rfl <;> simp [Instr.index, run_underlying hu, asIntOf, part, isAgg, sizeOf, typeInfo, hi, hz1, hz0, go_sem]

theorem eql_map (W : World) (m : Option Nat) : (binOp .eql 129 (.map m) (.map none)).run Tryd.prog W = .ok (.bool m.isNone) W := by
  have hu := Tryd.underlying129
  have h : ∀ d : Nat, (Op.equalIn (d + 1) 129 (.map m) (.map none)).run Tryd.prog W = .ok m.isNone W := fun d => by
    cases m <;> simp [Op.equalIn, run_underlying hu]
  simp only [binOp]
  simp [Op.equal, Op.maxDepth, h 9999]

/-- the holder, of a structure, for trees in a world -/
structure HoldW (lo : Nat) (w0 : World) (a : St) (hb : Nat) (w : World) : Prop where
  tr : Below w0.heap.size w0 w
  ge : w0.heap.size ≤ hb
  box : Bx w (hb + 1) 116 #[.int .i64 (a.n : Int), .string (bs a.set), .string (bs a.rel), .map (some hb)]
  cache : Cache (Good lo w0 a) hb w

theorem HoldW.step {lo : Nat} {w0 : World} {a : St} {hb : Nat} {w w' : World} (h : HoldW lo w0 a hb w) (hf : Fz hb w w') (hc : Cache (Good lo w0 a) hb w') : HoldW lo w0 a hb w' :=
  ⟨h.tr.trans (hf.below.mono h.ge), h.ge, hf.bx h.box, hc⟩
theorem HoldW.call {lo : Nat} {w0 : World} {a : St} {hb : Nat} {w w' : World} (h : HoldW lo w0 a hb w) (hf : Below w.heap.size w w') : HoldW lo w0 a hb w' :=
  h.step (Fz.call (Nat.le_of_lt h.cache.lt) hf) (h.cache.call hf)
theorem HoldW.alloc {lo : Nat} {w0 : World} {a : St} {hb : Nat} {w : World} (h : HoldW lo w0 a hb w) (o : Obj) : HoldW lo w0 a hb (w.alloc o) := h.call ((Below.refl _ _).alloc (Nat.le_refl _) o)
theorem HoldW.tree {lo : Nat} {w0 : World} {a : St} {hb : Nat} {w : World} (h : HoldW lo w0 a hb w) {f : Fm} {nb : Nat} (ht : TreeAt lo w0 f nb) : TreeAt lo w f nb := ht.below h.tr

/-- the elements of the four variables, as a value -/
def envA (e : Env) : Array Value := #[.int .i64 (e 0 : Nat), .int .i64 (e 1 : Nat), .int .i64 (e 2 : Nat), .int .i64 (e 3 : Nat)]

/-- what isTrue and decide give back for a formula -/
def HoldsBy (F : FuncId) (lo : Nat) (w0 : World) (a : St) (hb : Nat) (f : Fm) : Prop :=
  ∀ (nb : Nat) (e : Env) (w : World), TreeAt lo w0 f nb → (∀ v, e v < a.n) → HoldW lo w0 a hb w →
    Calls Tryd.prog F #[.pointer (some ⟨hb + 1, 0, none⟩), kidV nb, .agg (envA e)] w fun ed w' => ed = .returned (.bool (f.holds a e)) ∧ HoldW lo w0 a hb w' ∧ Fz hb w w'

set_option maxRecDepth 100000 in
set_option maxHeartbeats 4000000 in
theorem isTrue_of (lo : Nat) (w0 : World) (a : St) (ha : a.ok) (hb : Nat) (f : Fm) (hd : HoldsBy 105 lo w0 a hb f) : HoldsBy 85 lo w0 a hb f := by
  intro nb e w ht he hw
  have h8 := ha.hi
  have he8 : ∀ v, e v < 8 := fun v => Nat.lt_of_lt_of_le (he v) h8
  have hfr : f.freeBits < 16 := freeBits_lt f
  have hg := good_new a ht he8
  have hkl := keyN_lt (fr := f.freeBits) he8
  obtain ⟨E, hE⟩ : ∃ E, E = eN e := ⟨_, rfl⟩
  have hA : envA e = #[.int .i64 (E 0 : Nat), .int .i64 (E 1 : Nat), .int .i64 (E 2 : Nat), .int .i64 (E 3 : Nat)] := by rw [hE]; rfl
  have hd2 := fun (W : World) (hW : HoldW lo w0 a hb W) => hd nb e W ht he hW
  simp only [hA] at hd2 ⊢
  have Hd := Lib.hid hd2
  clear hd2 hA
  have Hnlt := Lib.hid (show nb < hb from by
    obtain ⟨ks, ⟨_, vs, ps, hh, _⟩, _⟩ := ht.open
    have h1 := (Array.getElem?_eq_some_iff.1 hh).1
    have h2 := hw.ge
    omega)
  have T0 := Lib.hid ht
  have W1 := Lib.hid (hw.alloc (.cells #[.int .i64 (E 0 : Nat), .int .i64 (E 1 : Nat), .int .i64 (E 2 : Nat), .int .i64 (E 3 : Nat)] 78))
  have hx := Bx.new w 78 #[.int .i64 (E 0 : Nat), .int .i64 (E 1 : Nat), .int .i64 (E 2 : Nat), .int .i64 (E 3 : Nat)]
  have F1 := Lib.hid (Fz.alloc (Nat.le_of_lt hw.cache.lt) (.cells #[.int .i64 (E 0 : Nat), .int .i64 (E 1 : Nat), .int .i64 (E 2 : Nat), .int .i64 (E 3 : Nat)] 78))
  obtain ⟨ks, vsv, psv, hc0, hc1, hc2, hc3, hc4, _⟩ := node_cells (W1.out.tree ht)
  obtain ⟨jf, hinf, hsz⟩ : ∃ j, Tryd.prog.info? 68 = some j ∧ j.size ≠ 0 := by
    have h : (Tryd.prog.info? 68).map (·.size) = some 5 := by kernel_rfl
    cases hi : Tryd.prog.info? 68 with
    | none => rw [hi] at h; cases h
    | some j => exact ⟨j, rfl, by rw [hi] at h; simp at h; omega⟩
  have hzm : ∀ W, (zeroValue 129).run Tryd.prog W = .ok (.map none) W := fun W => by kernel_rfl
  have hzb : ∀ W, (zeroValue 4).run Tryd.prog W = .ok (.bool false) W := fun W => by kernel_rfl
  obtain ⟨ks0, ⟨_, vs0, ps0, hbk, _⟩, _⟩ := (W1.out.tree ht).open
  have Hn := Lib.hid hbk
  clear hbk
  have b3 := W1.out.box.cell 3
  simp only [List.getElem?_toArray, List.getElem?_cons_zero, List.getElem?_cons_succ] at b3
  have v0 := hx.cell 0
  have v1 := hx.cell 1
  have v2 := hx.cell 2
  have v3 := hx.cell 3
  have Hx := Lib.hid hx
  have eE := eN_lt he8
  obtain ⟨fr, hfr2⟩ : ∃ fr, fr = f.freeBits := ⟨_, rfl⟩
  rw [← hfr2] at hc3 hfr
  rw [← hE] at eE
  have He8 := Lib.hid he8
  have Hg := Lib.hid hg
  have Hkl := Lib.hid hkl
  have HE := Lib.hid hE
  have Hfr := Lib.hid hfr2
  simp only [List.getElem?_toArray, List.getElem?_cons_zero, List.getElem?_cons_succ] at v0 v1 v2 v3
  clear hd ht hw hx hg hkl hE hfr2 he8 he h8 hc0 hc1 hc2 hc4
  go_enter Tryd.func85, Tryd.ntmps85
  go_wp2_with fail
  go_loop [7, 14] (fun o i => ∃ k : Nat, k ≤ 4 ∧ i = .int .i64 (k : Nat) ∧ o = .int .i64 (keyTo fr E k : Nat)) (fun _ i => 4 - (intOf i).toNat)
  case atStart => exact ⟨0, by omega, rfl, rfl⟩
  case round =>
    obtain ⟨k, hk, rfl, rfl⟩ := hrel
    by_cases hlt : k < 4
    · have hbit := shr_bit fr k hfr hlt
      have hx8 := eE k
      have hix := fun W => index4 W E k hlt
      have hor := fun h => or_at (fr := fr) eE hlt h
      have hno := fun h => keyTo_no (fr := fr) (e := E) (k := k) h
      have hsh : IntKind.i64.wrap (3 * (k : Int)) = ((3 * k : Nat) : Int) := by rw [IntWalk.i64_in _ (by omega)]; omega
      have hpw : wrap64 ((E k : Int) * 2 ^ (3 * k)) = ((E k * 8 ^ k : Nat) : Int) := by
        have hp : (8 : Nat) ^ k ≤ 512 := by
          have : k = 0 ∨ k = 1 ∨ k = 2 ∨ k = 3 := by omega
          rcases this with rfl | rfl | rfl | rfl <;> decide
        have e1 : ((E k : Int) * 2 ^ (3 * k)) = ((E k * 8 ^ k : Nat) : Int) := by rw [Int.natCast_mul, Int.natCast_pow, Int.pow_mul]; rfl
        have hm : E k * 8 ^ k ≤ 7 * 512 := Nat.mul_le_mul (by omega) hp
        rw [e1]
        unfold wrap64
        omega
      cases hb' : fr.testBit k with
      | true =>
        rw [hb'] at hbit
        have Hor := Lib.hid (hor hb')
        have Hpw := Lib.hid hpw
        clear hno hb' hor hpw
        go_wp2_with fail
        go_round
        case rel => exact ⟨k + 1, by omega, by go_num, congrArg _ (by rw [Hpw.out]; exact Hor.out)⟩
        case measure => simp [intOf]; omega
      | false =>
        rw [hb'] at hbit
        have hno := hno hb'
        have Hno := Lib.hid hno
        clear hor hb' hno
        go_wp2_with fail
        go_round
        case rel => exact ⟨k + 1, by omega, by go_num, by rw [Hno.out]⟩
        case measure => simp [intOf]; omega
    · obtain rfl : k = 4 := by omega
      obtain ⟨K, hK⟩ : ∃ K, K = keyTo fr E 4 := ⟨_, rfl⟩
      have hK2 : keyN f.freeBits e = K := by rw [hK, Hfr.out, HE.out]; rfl
      rw [← hK]
      rw [hK2] at Hg Hkl
      have HK := Lib.hid hK2
      clear hK hK2
      rcases W1.out.cache.look Tryd.underlying114 Tryd.underlying55 hinf hsz (hzm _) Hn.out with hr | ⟨ib, esi, ci, hr, hkept, hlt2, hi, hok⟩
      · have hr2 := inner_look_nil (P := Tryd.prog) (w := w.alloc (.cells #[.int .i64 (E 0 : Nat), .int .i64 (E 1 : Nat), .int .i64 (E 2 : Nat), .int .i64 (E 3 : Nat)] 78)) Tryd.underlying129 Tryd.underlying3 (hzb _) Hkl.out
        go_wp2_with fail
        refine (Hd.out _ W1.out).mono ?_
        clear hr hr2 b3
        rintro ed w2 ⟨rfl, hW2, hF2⟩
        have W2 := Lib.hid hW2
        have F2 := Lib.hid (F1.out.trans hF2)
        have b3 := hW2.box.cell 3
        simp only [List.getElem?_toArray, List.getElem?_cons_zero, List.getElem?_cons_succ] at b3
        have hq0 := eql_map w2 none
        have hq1 := fun m => eql_map w2 (some m)
        simp only [Option.isNone_none, Option.isNone_some] at hq0 hq1
        have hn2 := hF2.cells _ _ _ _ Hn.out
        clear hW2 hF2
        rcases W2.out.cache.look Tryd.underlying114 Tryd.underlying55 hinf hsz (hzm _) hn2 with hr | ⟨ib, esi, ci, hr, hkept, hlt, hi, hok⟩
        · obtain ⟨W, hr4, hcW, hfW, hin⟩ := W2.out.cache.grow Tryd.underlying114 Tryd.underlying55 hinf hsz hn2 Hnlt.out
          have W3 := Lib.hid (W2.out.step hfW hcW)
          obtain ⟨ib, esi, ci, hr5, hkept, hlt, hi, hok⟩ := hcW.found Tryd.underlying114 Tryd.underlying55 hinf hsz (hzm _) (hfW.cells _ _ _ _ hn2) hin
          obtain ⟨W', hr6, hcW', hfW'⟩ := hcW.put hkept hlt hi hok Tryd.underlying129 Tryd.underlying3 Hkl.out Hg.out
          have W4 := Lib.hid (W3.out.step hfW' hcW')
          have F4 := Lib.hid ((F2.out.trans hfW).trans hfW')
          have c3 := W3.out.box.cell 3
          have d3 := (W2.out.alloc (.map #[] 0)).box.cell 3
          simp only [List.getElem?_toArray, List.getElem?_cons_zero, List.getElem?_cons_succ] at c3 d3
          have hmk := run_makeMap (P := Tryd.prog) 129 w2
          clear hcW hfW hin hkept hlt hi hok hcW' hfW' hn2
          go_wp2_with fail
          go_ret
          exact ⟨rfl, W4.out, F4.out⟩
        · obtain ⟨W', hr6, hcW', hfW'⟩ := W2.out.cache.put hkept hlt hi hok Tryd.underlying129 Tryd.underlying3 Hkl.out Hg.out
          have W4 := Lib.hid (W2.out.step hfW' hcW')
          have F4 := Lib.hid (F2.out.trans hfW')
          clear hkept hlt hi hok hcW' hfW' hn2
          go_wp2_with fail
          go_ret
          exact ⟨rfl, W4.out, F4.out⟩
      · rcases inner_look (P := Tryd.prog) hi hok Tryd.underlying129 Tryd.underlying3 (hzb _) Hkl.out with hr2 | ⟨v, hr2, hv⟩
        · clear hkept hlt2 hi hok
          go_wp2_with fail
          refine (Hd.out _ W1.out).mono ?_
          clear hr hr2 b3
          rintro ed w2 ⟨rfl, hW2, hF2⟩
          have W2 := Lib.hid hW2
          have F2 := Lib.hid (F1.out.trans hF2)
          have b3 := hW2.box.cell 3
          simp only [List.getElem?_toArray, List.getElem?_cons_zero, List.getElem?_cons_succ] at b3
          have hq0 := eql_map w2 none
          have hq1 := fun m => eql_map w2 (some m)
          simp only [Option.isNone_none, Option.isNone_some] at hq0 hq1
          have hn2 := hF2.cells _ _ _ _ Hn.out
          clear hW2 hF2
          rcases W2.out.cache.look Tryd.underlying114 Tryd.underlying55 hinf hsz (hzm _) hn2 with hr | ⟨ib, esi, ci, hr, hkept, hlt, hi, hok⟩
          · obtain ⟨W, hr4, hcW, hfW, hin⟩ := W2.out.cache.grow Tryd.underlying114 Tryd.underlying55 hinf hsz hn2 Hnlt.out
            have W3 := Lib.hid (W2.out.step hfW hcW)
            obtain ⟨ib, esi, ci, hr5, hkept, hlt, hi, hok⟩ := hcW.found Tryd.underlying114 Tryd.underlying55 hinf hsz (hzm _) (hfW.cells _ _ _ _ hn2) hin
            obtain ⟨W', hr6, hcW', hfW'⟩ := hcW.put hkept hlt hi hok Tryd.underlying129 Tryd.underlying3 Hkl.out Hg.out
            have W4 := Lib.hid (W3.out.step hfW' hcW')
            have F4 := Lib.hid ((F2.out.trans hfW).trans hfW')
            have c3 := W3.out.box.cell 3
            have d3 := (W2.out.alloc (.map #[] 0)).box.cell 3
            simp only [List.getElem?_toArray, List.getElem?_cons_zero, List.getElem?_cons_succ] at c3 d3
            have hmk := run_makeMap (P := Tryd.prog) 129 w2
            clear hcW hfW hin hkept hlt hi hok hcW' hfW' hn2
            go_wp2_with fail
            go_ret
            exact ⟨rfl, W4.out, F4.out⟩
          · obtain ⟨W', hr6, hcW', hfW'⟩ := W2.out.cache.put hkept hlt hi hok Tryd.underlying129 Tryd.underlying3 Hkl.out Hg.out
            have W4 := Lib.hid (W2.out.step hfW' hcW')
            have F4 := Lib.hid (F2.out.trans hfW')
            clear hkept hlt hi hok hcW' hfW' hn2
            go_wp2_with fail
            go_ret
            exact ⟨rfl, W4.out, F4.out⟩
        · have hv2 := hv f T0.out e He8.out HK.out
          have Hv := Lib.hid hv2
          clear hkept hlt2 hi hok hv hv2
          go_wp2_with fail
          go_ret
          exact ⟨by rw [← Hv.out]; rfl, W1.out, F1.out⟩

end Go.Proofs.YteonanaihklgmaaDoor

namespace Go.Proofs.YteonanaihklgmaaDoor
open Go.RowKit
open Go.ChangeMaps
open Pl
set_option linter.unusedSimpArgs false
set_option linter.unusedVariables false

/-- the boxes of decide: the formula's address, the elements -/
structure DecB (w : World) (bn nb : Nat) (E : Nat → Nat) : Prop where
  node : Bx w bn 55 #[kidV nb]
  vals : Bx w (bn + 1) 78 #[.int .i64 (E 0 : Nat), .int .i64 (E 1 : Nat), .int .i64 (E 2 : Nat), .int .i64 (E 3 : Nat)]

theorem fin4 : ∀ v : Fin 4, v = 0 ∨ v = 1 ∨ v = 2 ∨ v = 3 := by decide

set_option maxRecDepth 100000 in
set_option maxHeartbeats 1000000 in
theorem at_calls {S : Nat → Prop} (f : Fm) (nb bn : Nat) (E : Nat → Nat) (w : World) (ht : TreeIn S w f nb) (hb : DecB w bn nb E) (i : Nat) (v : Fin 4) (hv : f.vars[i]? = some v) :
    Calls Tryd.prog 118 #[.int .i64 (i : Nat), .pointer (some ⟨bn + 1, 0, none⟩), .pointer (some ⟨bn, 0, none⟩)] w fun e w' => e = .returned (.int .i64 (E v.val : Nat)) ∧ w = w' := by
  obtain ⟨ks, vsv, psv, _, hc1, _, _, _, hrow, _⟩ := node_cells ht
  obtain ⟨a, cap, rfl, hl, hrow⟩ := row_slice hrow
  have hi : i < f.vars.length := (List.getElem?_eq_some_iff.1 hv).1
  have hl2 := vars_le f
  obtain ⟨g, rfl, hcell⟩ := hrow i hi
  have hcell2 : w.cell? ⟨g, i, none⟩ = some (byteV (vb v)) := by rw [hcell, List.getElem?_map, hv]; rfl
  have n0 := hb.node.cell 0
  have v0 := hb.vals.cell 0
  have v1 := hb.vals.cell 1
  have v2 := hb.vals.cell 2
  have v3 := hb.vals.cell 3
  simp only [List.getElem?_toArray, List.getElem?_cons_zero, List.getElem?_cons_succ] at n0 v0 v1 v2 v3
  unfold byteV at hcell2
  have i1 : (0 : Int) ≤ (i : Int) := by omega
  have i2 : (i : Int) < (f.vars.length : Int) := by omega
  generalize f.vars.length = nv at *
  clear hb ht hv hl hcell hrow hi hl2
  have : v = 0 ∨ v = 1 ∨ v = 2 ∨ v = 3 := fin4 v
  rcases this with rfl | rfl | rfl | rfl
  · have e : ((vb 0).toNat : Int) = 97 := by decide
    rw [e] at hcell2
    go_enter Tryd.func118, Tryd.ntmps118
    go_wp2_with fail
    go_ret
    exact ⟨rfl, rfl⟩
  · have e : ((vb 1).toNat : Int) = 98 := by decide
    rw [e] at hcell2
    go_enter Tryd.func118, Tryd.ntmps118
    go_wp2_with fail
    go_ret
    exact ⟨rfl, rfl⟩
  · have e : ((vb 2).toNat : Int) = 99 := by decide
    rw [e] at hcell2
    go_enter Tryd.func118, Tryd.ntmps118
    go_wp2_with fail
    go_ret
    exact ⟨rfl, rfl⟩
  · have e : ((vb 3).toNat : Int) = 100 := by decide
    rw [e] at hcell2
    go_enter Tryd.func118, Tryd.ntmps118
    go_wp2_with fail
    go_ret
    exact ⟨rfl, rfl⟩

end Go.Proofs.YteonanaihklgmaaDoor
