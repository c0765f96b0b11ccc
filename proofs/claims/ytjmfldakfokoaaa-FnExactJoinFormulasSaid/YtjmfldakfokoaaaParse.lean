/-
  The walk of the program's parsePart: it lays the tree of the formula with which a text begins. Condition: the text is below the reach.
-/
import Derived.Test.YtjmfldakfokoaaaParseA
import Derived.Deep.DeepCutAuto
import Derived.Deep.CutBlock
import Derived.Deep.LoopGhost
import Derived.Deep.RegionLawGrows
import Derived.Deep.AppendLies
namespace Go.Proofs.Ytjmfldakfokoaaa
open Go.RowKit
open Pl

theorem parsePart_empty (s : ByteArray) (w : World) (h : s.size = 0) :
    Calls Try.prog 54 #[.string s] w (PartPost s w) := by
  have hl : s.data.toList = [] := List.eq_nil_of_length_eq_zero (by rw [← Lib.size_eq]; exact h)
  have hl2 : s.toList = [] := by rw [ByteArray.toList_eq]; exact hl
  have e1 : (s.toList == []) = true := by rw [hl2]; rfl
  have e2 : s.toList.isEmpty = true := by rw [hl2]; rfl
  have Hl := Lib.hid hl
  clear hl hl2 h
  go_enter Try.func54, Try.ntmps54
  go_wp2_with fail
  go_ret2
  exact ⟨Below.refl _ _, .inl ⟨by rw [Hl.out]; exact parse_nil, s, rfl⟩⟩

set_option maxHeartbeats 1000000 in
set_option maxRecDepth 100000 in
theorem parsePart_calls (n : Nat) : ∀ (s : ByteArray) (w : World), s.size ≤ n → n ≤ 1000000000 →
    Calls Try.prog 54 #[.string s] w (PartPost s w) := by
  induction n with
  | zero =>
    intro s w hn _hs
    exact parsePart_empty s w (by omega)
  | succ n ih =>
    intro s w hn hs
    by_cases h0 : 0 < s.size
    · obtain ⟨hne2, hne3⟩ := empty_facts h0
      have Ih := Lib.hid ih
      clear ih
      go_enter Try.func54, Try.ntmps54
      have hb0 : s.data.toList = s[0] :: s.data.toList.drop 1 := drop_at (k := 0) h0
      have Hb0 := Lib.hid hb0
      clear hb0
      go_upto_block 0 with (fail)
      go_cut [5, 6] (fun v p wx => ∃ nv np : Nat, arity s[0] = some (nv, np) ∧ v = .int .i64 nv ∧ p = .int .i64 np ∧ wx = w.alloc (.cells #[.int .u8 s[0].toNat, .slice none 0 0, .slice none 0 0, .int .i64 0, .int .i64 0] 44))
      case first =>
        go_wp2_with fail
        all_goals first
          | (go_meet
             case rel => first
             | exact ⟨0, 0, ar_of (n := 116) (by assumption) rfl, rfl, rfl, rfl⟩
             | exact ⟨0, 0, ar_of (n := 102) (by assumption) rfl, rfl, rfl, rfl⟩
             | exact ⟨1, 0, ar_of (n := 80) (by assumption) rfl, rfl, rfl, rfl⟩
             | exact ⟨2, 0, ar_of (n := 61) (by assumption) rfl, rfl, rfl, rfl⟩
             | exact ⟨2, 0, ar_of (n := 69) (by assumption) rfl, rfl, rfl, rfl⟩
             | exact ⟨0, 1, ar_of (n := 33) (by assumption) rfl, rfl, rfl, rfl⟩
             | exact ⟨0, 2, ar_of (n := 38) (by assumption) rfl, rfl, rfl, rfl⟩
             | exact ⟨0, 2, ar_of (n := 124) (by assumption) rfl, rfl, rfl, rfl⟩
             | exact ⟨1, 1, ar_of (n := 65) (by assumption) rfl, rfl, rfl, rfl⟩
             | exact ⟨1, 1, ar_of (n := 83) (by assumption) rfl, rfl, rfl, rfl⟩
             | exact ⟨1, 1, ar_of (n := 50) (by assumption) rfl, rfl, rfl, rfl⟩
             | exact ⟨1, 1, ar_of (n := 51) (by assumption) rfl, rfl, rfl, rfl⟩
             | exact ⟨1, 1, ar_of (n := 52) (by assumption) rfl, rfl, rfl, rfl⟩
             done)
          | (go_ret2
             refine ⟨(Below.refl _ _).alloc (Nat.le_refl _) _, .inl ⟨?_, s, rfl⟩⟩
             rw [Hb0.out]
             refine parse_bad (arity_no fun n hn => ?_)
             simp only [List.mem_cons, List.not_mem_nil, or_false] at hn
             rcases hn with rfl | rfl | rfl | rfl | rfl | rfl | rfl | rfl | rfl | rfl | rfl | rfl | rfl <;> assumption)
      case rest =>
        obtain ⟨nv, np, har, rfl, rfl, rfl⟩ := hcut
        have Har := Lib.hid har
        clear har
        go_upto_block 1 with (fail)
        go_wp2_with fail
        go_loopg [0, 41] nv (fun k c i wr => ∃ (vs : List (Fin 4)) (cur : ByteArray), c = .string cur ∧ i = .int .i64 vs.length ∧ vs.length + k = nv ∧ s.data.toList.drop 1 = vs.map vb ++ cur.data.toList ∧ cur.size ≤ n ∧
          NodeIn (fun g => w.heap.size ≤ g) wr s[0] vs 0 (maskV vs) w.heap.size [] ∧ Below w.heap.size w wr)
        case atStart =>
          refine ⟨[], s.extract 1 s.size, rfl, rfl, by simp, by rw [Lib.extract_to_end]; rfl, by simp; omega, node_new w _ (Nat.le_refl _), (Below.refl _ _).alloc (Nat.le_refl _) _⟩
        case round =>
          obtain ⟨vs, cur, rfl, rfl, hk, htl, hcn, hnode, hbel⟩ := hrel
          have Htl := Lib.hid htl
          have Hk := Lib.hid hk
          have Hbel := Lib.hid hbel
          clear htl hk hbel
          by_cases hlt : vs.length < nv
          · by_cases hc0 : 0 < cur.size
            · obtain ⟨hce, hce2⟩ := empty_facts hc0
              cases hv : varOf cur[0] with
              | none =>
                have Hv := Lib.hid hv
                clear hv
                have hcontains : ∀ t w, t.data.toList = [cur[0]] → Calls Try.prog 64 #[.string ⟨#[97, 98, 99, 100]⟩, .string t] w fun e w' => e = .returned (.bool false) ∧ w = w' := fun t w ht => isVar_calls t _ false ht (by rw [Hv.out]; rfl) w
                have Hcon := Lib.hid hcontains
                have hext : (cur.extract 0 1).data.toList = [cur[0]] := by
                  rw [Lib.extract_data, drop_at hc0]; rfl
                have Hext := Lib.hid hext
                clear hcontains hext hnode
                go_wp2_with (go_at_call 64; refine (Hcon.out _ _ Hext.out).mono ?_; rintro e w' ⟨rfl, rfl⟩)
                go_ret2
                refine ⟨Hbel.out, .inl ⟨?_, cur, rfl⟩⟩
                rw [Hb0.out, Htl.out]
                refine parse_no_var Har.out vs _ hlt fun u r e => ?_
                have e2 := (drop_at (k := 0) hc0).symm.trans e
                simp only [List.cons.injEq] at e2
                have e3 := Hv.out
                rw [e2.1, varOf_vb] at e3
                cases e3
              | some v =>
                have Hv := Lib.hid hv
                clear hv
                have hcontains : ∀ t w, t.data.toList = [cur[0]] → Calls Try.prog 64 #[.string ⟨#[97, 98, 99, 100]⟩, .string t] w fun e w' => e = .returned (.bool true) ∧ w = w' := fun t w ht => isVar_calls t _ true ht (by rw [Hv.out]; rfl) w
                have Hcon := Lib.hid hcontains
                clear hcontains
                obtain ⟨_, vsv, psv, hB, hvs, hvS, hps, hpS⟩ := hnode
                have HvS := Lib.hid hvS
                have HpS := Lib.hid hpS
                clear hvS hpS
                have hc1 := cell_at hB 1
                have hc4 := cell_at hB 4
                have hf1 := free_at hB 1
                have hf4 := free_at hB 4
                have hlw := World.block_lt_of_cell? wr _ hc1
                simp only [List.getElem?_toArray, List.getElem?_cons_succ, List.getElem?_cons_zero] at hc1 hc4
                have hrow := ownsRow_ne hvs hB (by decide)
                have Hrow := Lib.hid hrow
                have HB := Lib.hid hB
                have Hvs := Lib.hid hvs
                have Hps := Lib.hid hps
                clear hB hvs hps hrow
                have hext : (cur.extract 0 1).data.toList = [cur[0]] := by
                  rw [Lib.extract_data, drop_at hc0]; rfl
                have Hext := Lib.hid hext
                clear hext
                obtain ⟨i0, hi0, hz0, hz1, hz2⟩ := info_parts Try.infoU8
                have hlen : vs.length < 1000000000 := by
                  have := congrArg List.length Htl.out
                  simp at this; omega
                have hcb : cur[0] = vb v := varOf_some.1 Hv.out
                have Hcb := Lib.hid hcb
                clear hcb
                go_upto_region 30 with (go_at_call 64; refine (Hcon.out _ _ Hext.out).mono ?_; rintro e w' ⟨rfl, rfl⟩)
                go_cut [] (fun wx => NodeIn (fun g => w.heap.size ≤ g) wx s[0] (vs ++ [v]) 0 (maskV vs) w.heap.size [] ∧ Below w.heap.size w wx)
                case first =>
                  go_region_law ((refine step_append_lies _ (by rfl) _ _ _ (by rfl) 0 5 i0 _ 1 1 Try.underlying32 hi0 hz0 hz1 hz2 rfl (by omega) vsv vs.length _ (by rfl) ((Hvs.out.alloc _).drew) ⟨wr.heap.size, 0, none⟩ 1 1 [byteV cur[0]] (by rfl) (by rfl) (World.news_of_block (cs := #[byteV cur[0]]) (t := 5) (fr := (0, 0)) (heap_alloc_new wr _)) (by simp [Value.oneCell', byteV]) (by omega) (by unfold maxLen; omega) (by omega) (Nat.zero_le _) (wr.heap.size + 1) (by simp) ?_; intro g cap w1 hown1 hgrow hat hlt1; have hB1 := grown_block hgrow HB.out Hrow.out; have hw1 := cell_at hB1 1; have hw4 := cell_at hB1 4; have gw1 := free_at hB1 1; have gw4 := free_at hB1 4; have HB1 := Lib.hid hB1; clear hB1))
                  all_goals
                    go_wp2_with fail
                    go_meet
                    case rel =>
                      refine ⟨?_, ?_⟩
                      · refine node_var v (Nat.le_refl _) HB1.out ?_ ?_ (row_grown Hps.out Hvs.out (by decide) hgrow) HpS.out
                        · rw [← Hcb.out]; exact hown1
                        · intro k hk
                          have e0 : g = k := by simpa [Value.ownBlock] using hk
                          subst e0
                          rcases hat with h | h
                          · exact HvS.out _ h
                          · omega
                      · refine Below.setCell (p := ⟨w.heap.size, 1, none⟩) ?_ (Nat.le_refl _) _
                        refine Below.grown (((Hbel.out).alloc (by omega) _).drew) hgrow (by simp; omega) HvS.out
                case rest =>
                  obtain ⟨hnode2, hbel2⟩ := hcut
                  have Hbel2 := Lib.hid hbel2
                  have hlwc := hbel2.size
                  clear hbel2
                  go_upto_region 31 with (fail)
                  have Hnode2 := Lib.hid hnode2
                  obtain ⟨_, vsv2, psv2, hB2, _, _, _, _⟩ := hnode2
                  have hd1 := cell_at hB2 1
                  have hd4 := cell_at hB2 4
                  have hg1 := free_at hB2 1
                  have hg4 := free_at hB2 4
                  simp only [List.getElem?_toArray, List.getElem?_cons_succ, List.getElem?_cons_zero] at hd1 hd4
                  clear hB2 hc1 hc4 hf1 hf4
                  obtain ⟨hcv, hv3⟩ : (cur[0].toNat : Int) = 97 + (v.val : Int) ∧ (v.val : Int) < 4 := by
                    rw [Hcb.out]
                    exact ⟨vb_int v, by omega⟩
                  go_cut [] (fun wx => NodeIn (fun g => w.heap.size ≤ g) wx s[0] (vs ++ [v]) 0 (maskV (vs ++ [v])) w.heap.size [] ∧ Below w.heap.size w wx)
                  case first =>
                    go_region
                    all_goals
                      go_wp2_with fail
                      go_meet
                      case rel =>
                        refine ⟨?_, Below.drew (Below.setCell (p := ⟨w.heap.size, 4, none⟩) Hbel2.out (Nat.le_refl _) _)⟩
                        rw [or_bit _ _ (maskV_lt vs), maskV_snoc]
                        exact NodeIn.setAll Hnode2.out _
                  case rest =>
                    obtain ⟨hnode3, hbel3⟩ := hcut
                    clear hcv
                    go_wp2_with fail
                    go_roundg (gk - 1)
                    case measure => have := Hk.out; omega
                    case rel =>
                      refine ⟨vs ++ [v], cur.extract 1 cur.size, rfl, by simp, ?_, ?_, ?_, hnode3, hbel3⟩
                      · have := Hk.out; simp; omega
                      · rw [Htl.out, Lib.extract_to_end, drop_at (k := 0) hc0 |> fun h => (by simpa using h : cur.data.toList = cur[0] :: cur.data.toList.drop 1), Hcb.out]
                        simp
                      · simp; omega
            · have hl : cur.data.toList = [] := List.eq_nil_of_length_eq_zero (by rw [← Lib.size_eq]; omega)
              have hl2 : cur.toList = [] := by rw [ByteArray.toList_eq]; exact hl
              have e1 : (cur.toList == []) = true := by rw [hl2]; rfl
              have e2 : cur.toList.isEmpty = true := by rw [hl2]; rfl
              have Hl := Lib.hid hl
              clear hl hl2 hc0 hnode
              go_wp2_with fail
              go_ret2
              refine ⟨Hbel.out, .inl ⟨?_, cur, rfl⟩⟩
              rw [Hb0.out, Htl.out]
              exact parse_no_var Har.out vs _ hlt fun u r e => by rw [Hl.out] at e; cases e
          · have hvl : vs.length = nv := by have := Hk.out; omega
            have Hvl := Lib.hid hvl
            clear hvl
            have hnt := NodeT.of hnode
            clear hnode
            have Hnt := Lib.hid hnt
            obtain ⟨_, _, _, hB, _, _, _, _, _⟩ := hnt
            have hc4 := cell_at hB 4
            have hc3 := cell_at hB 3
            have hf3 := free_at hB 3
            have hlw := block_lt hB
            simp only [List.getElem?_toArray, List.getElem?_cons_succ, List.getElem?_cons_zero] at hc3 hc4
            clear hB
            go_upto_if 85 with (fail)
            go_cut [] (fun wx => NodeT w.heap.size wx s[0] vs (if 0 < np then 0 else maskV vs) (maskV vs) [] ∧ Below w.heap.size w wx)
            case first =>
              by_cases hnp : 0 < np
              · go_wp2_with fail
                go_meet
                case rel =>
                  refine ⟨?_, Below.setCell (p := ⟨w.heap.size, 3, none⟩) (Below.setCell (p := ⟨w.heap.size, 3, none⟩) Hbel.out (Nat.le_refl _) _) (Nat.le_refl _) _⟩
                  rw [if_pos hnp]
                  exact NodeT.setFree (NodeT.setFree Hnt.out _) 0
              · go_wp2_with fail
                go_meet
                case rel =>
                  refine ⟨?_, Below.setCell (p := ⟨w.heap.size, 3, none⟩) Hbel.out (Nat.le_refl _) _⟩
                  rw [if_neg hnp]
                  exact NodeT.setFree Hnt.out _
            case rest =>
              obtain ⟨hnt1, hbel1⟩ := hcut
              clear hc4 hc3 hf3 hlw
              obtain ⟨F0, HF0, hF0⟩ : ∃ F0, Hid (F0 = if 0 < np then 0 else maskV vs) ∧ F0 < 16 := ⟨_, rfl, by split; decide; exact maskV_lt vs⟩
              rw [← HF0.out] at hnt1
              have Hnt1 := Lib.hid hnt1
              have Hbel1 := Lib.hid hbel1
              have hnp2 := (arity_le Har.out).2
              clear hnt1 hbel1
              go_upto_block 3 with (fail)
              go_wp2_with fail
              go_loopg [0, 90] np (fun k c i wr => ∃ (ps : List Fm) (cur2 : ByteArray), c = .string cur2 ∧ i = .int .i64 ps.length ∧ ps.length + k = np ∧ cur.data.toList = (ps.map Fm.text).flatten ++ cur2.data.toList ∧ cur2.size ≤ n ∧
                NodeT w.heap.size wr s[0] vs (orFree F0 ps) (orAll (maskV vs) ps) ps ∧ Below w.heap.size w wr)
              case atStart => exact ⟨[], cur, rfl, rfl, by simp, by simp, hcn, Hnt1.out, Hbel1.out⟩
              case round =>
                obtain ⟨ps, cur2, rfl, rfl, hk2, htl2, hcn2, hnt2, hbel2⟩ := hrel
                have Hk2 := Lib.hid hk2
                have Htl2 := Lib.hid htl2
                have Hnt2 := Lib.hid hnt2
                have Hbel2 := Lib.hid hbel2
                clear hk2 htl2 hnt2 hbel2
                by_cases hlt2 : ps.length < np
                · go_upto_region 42 with (go_at_call 54; refine (Ih.out _ _ hcn2 (by omega)).mono ?_; rintro e w1 ⟨hb1, ⟨hno, rest, rfl⟩ | ⟨f, rest, b, hp, htr, rfl⟩⟩)
                  · go_wp2_with fail
                    go_ret2
                    refine ⟨Hbel2.out.trans (hb1.mono Hbel2.out.size), .inl ⟨?_, rest, rfl⟩⟩
                    rw [Hb0.out, Htl.out, Htl2.out]
                    exact parse_no_part Har.out vs Hvl.out ps _ hlt2 hno
                  · have Hp := Lib.hid hp
                    have Hb1 := Lib.hid hb1
                    have hsz1 := hb1.size
                    obtain ⟨ks, vsv, psv, hB, h1, h2, h3, h4, h5⟩ := Hnt2.out
                    have hBlo := block_lt hB
                    have hB1 : w1.heap[w.heap.size]? = _ := (hb1.block _ hBlo).trans hB
                    have h1' := ownsRow_keep (base' := 0) h1 (fun g hg => ⟨hb1.block g (ownsRow_lt h1 hg).2, Nat.zero_le _⟩)
                    have h3' := ownsRow_keep (base' := 0) h3 (fun g hg => ⟨hb1.block g (ownsRow_lt h3 hg).2, Nat.zero_le _⟩)
                    have h4' : ∀ k, psv.ownBlock = some k → w.heap.size ≤ k ∧ k < wr.heap.size := fun k hk => ⟨h4 k hk, (ownsRow_lt h3 hk).2⟩
                    have h5' : TreesIn (fun g => w.heap.size < g ∧ psv.ownBlock ≠ some g ∧ g < wr.heap.size) w1 ps ks := h5.keep fun g hg hl => ⟨hb1.block g hl, hg.1, hg.2, hl⟩
                    have hkc := kidCells_of htr (B := w.heap.size) (by omega)
                    have hc2 := cell_at hB1 2
                    have hf2 := free_at hB1 2
                    simp only [List.getElem?_toArray, List.getElem?_cons_succ, List.getElem?_cons_zero] at hc2
                    have HB1 := Lib.hid hB1
                    have H1 := Lib.hid h1'
                    have H2 := Lib.hid h2
                    have H3 := Lib.hid h3'
                    have H4 := Lib.hid h4'
                    have H5 := Lib.hid h5'
                    have Htr := Lib.hid htr
                    have Hkc := Lib.hid hkc
                    clear hp hb1 hB h1 h2 h3 h4 h5 hB1 h1' h3' h4' h5' htr hkc
                    obtain ⟨i1, hi0, hz0, hz1, hz2⟩ := info_parts Try.infoPF
                    have hlks : ks.length < 1000000000 := by have := H5.out.1; have := (arity_le Har.out).2; omega
                    go_cut [] (fun wx => NodeT w.heap.size wx s[0] vs (orFree F0 ps) (orAll (maskV vs) ps) (ps ++ [f]) ∧ Below w.heap.size w wx ∧ KidCells wx w.heap.size b f)
                    case first =>
                      go_wp2_with (at_builtin; refine wpList_append_lies _ rfl _ _ _ rfl 0 39 i1 _ 1 8 Try.underlying42 hi0 hz0 hz1 hz2 rfl (by omega) psv ks.length _ rfl (H3.out.alloc _) ⟨w1.heap.size, 0, none⟩ 1 1 [kidV b] rfl rfl (World.news_of_block (cs := #[kidV b]) (t := 39) (fr := (0, 0)) (heap_alloc_new w1 _)) (by simp [Value.oneCell', kidV]) (by omega) (by unfold maxLen; omega) (by omega) (Nat.zero_le _) (w1.heap.size + 1) (by simp) ?_; intro g cap w2 hown1 hgrow hat hlt1; have hB2 := (grown_heap hgrow (Nat.lt_of_lt_of_le hBlo hsz1) (ownsRow_ne H3.out HB1.out (by decide))).trans HB1.out; have hw2 := cell_at hB2 2; have gw2 := free_at hB2 2; have HB2 := Lib.hid hB2; clear hB2)
                      go_meet
                      case rel =>
                        refine ⟨nodeT_part HB1.out H1.out H2.out H3.out H4.out H5.out hsz1 hBlo Htr.out hown1 hgrow hat, ?_, KidCells.set (kidCells_heap Hkc.out ?_) 2 _⟩
                        · exact Below.setCell (p := ⟨w.heap.size, 2, none⟩) (Below.grown ((Hbel2.out.trans (Hb1.out.mono Hbel2.out.size)).alloc (by have := Hbel2.out.size; omega) _) hgrow (by have := Hbel2.out.size; simp; omega) (fun k hk => (H4.out k hk).1)) (Nat.le_refl _) _
                        · obtain ⟨_, ⟨hS, _, _, hbb, _⟩, _⟩ := Htr.out.open
                          have hlo : wr.heap.size ≤ b := hS
                          exact grown_heap hgrow (block_lt hbb) (fun e => by have := (H4.out b e).2; omega)
                    case rest =>
                      obtain ⟨hnt3, hbel3, hkc3⟩ := hcut
                      clear hc2 hf2
                      have Hnt3 := Lib.hid hnt3
                      have Hbel3 := Lib.hid hbel3
                      have Hkc3 := Lib.hid hkc3
                      obtain ⟨_, _, _, hB, _, _, _, _, _⟩ := hnt3
                      obtain ⟨_, hk3, _⟩ := hkc3
                      have hc3 := cell_at hB 3
                      have hf3 := free_at hB 3
                      simp only [List.getElem?_toArray, List.getElem?_cons_succ, List.getElem?_cons_zero] at hc3
                      clear hB hbel3
                      go_upto_region 43 with (fail)
                      go_cut [] (fun wx => NodeT w.heap.size wx s[0] vs (orFree F0 (ps ++ [f])) (orAll (maskV vs) ps) (ps ++ [f]) ∧ Below w.heap.size w wx ∧ KidCells wx w.heap.size b f)
                      case first =>
                        go_region
                        all_goals
                          go_wp2_with fail
                          go_meet
                          case rel =>
                            rw [or_nat _ _ (orFree_lt hF0 ps) (freeBits_lt f), orFree_snoc]
                            exact ⟨NodeT.drew (NodeT.setFree Hnt3.out _), Below.drew (Below.setCell (p := ⟨w.heap.size, 3, none⟩) Hbel3.out (Nat.le_refl _) _), KidCells.drew (KidCells.set Hkc3.out 3 _)⟩
                      case rest =>
                        obtain ⟨hnt4, hbel4, hkc4⟩ := hcut
                        clear hc3 hf3 hk3
                        have Hnt4 := Lib.hid hnt4
                        have Hbel4 := Lib.hid hbel4
                        obtain ⟨_, _, _, hB, _, _, _, _, _⟩ := hnt4
                        obtain ⟨_, _, hk4⟩ := hkc4
                        have hc4 := cell_at hB 4
                        have hf4 := free_at hB 4
                        simp only [List.getElem?_toArray, List.getElem?_cons_succ, List.getElem?_cons_zero] at hc4
                        clear hB hbel4
                        go_upto_region 44 with (fail)
                        go_cut [] (fun wx => NodeT w.heap.size wx s[0] vs (orFree F0 (ps ++ [f])) (orAll (maskV vs) (ps ++ [f])) (ps ++ [f]) ∧ Below w.heap.size w wx)
                        case first =>
                          go_region
                          all_goals
                            go_wp2_with fail
                            go_meet
                            case rel =>
                              rw [or_nat _ _ (orAll_lt (maskV_lt vs) ps) (allBits_lt f), orAll_snoc]
                              exact ⟨NodeT.drew (NodeT.setAll Hnt4.out _), Below.drew (Below.setCell (p := ⟨w.heap.size, 4, none⟩) Hbel4.out (Nat.le_refl _) _)⟩
                        case rest =>
                          obtain ⟨hnt5, hbel5⟩ := hcut
                          clear hc4 hf4 hk4
                          have Hnt5 := Lib.hid hnt5
                          have Hbel5 := Lib.hid hbel5
                          clear hnt5 hbel5
                          go_wp2_with fail
                          go_roundg (gk - 1)
                          case measure => have := Hk2.out; omega
                          case rel =>
                            have e1 := parse_some.1 Hp.out
                            refine ⟨ps ++ [f], rest, rfl, by simp, ?_, ?_, ?_, Hnt5.out, Hbel5.out⟩
                            · have := Hk2.out; simp; omega
                            · rw [Htl2.out, e1]; simp
                            · have := congrArg List.length e1
                              rw [List.length_append, ← Lib.size_eq, ← Lib.size_eq] at this
                              omega
                · have hpl : ps.length = np := by have := Hk2.out; omega
                  have Hpl := Lib.hid hpl
                  clear hpl
                  have hhd : parse s.data.toList = parse (s[0] :: (vs.map vb ++ ((ps.map Fm.text).flatten ++ cur2.data.toList))) := by rw [Hb0.out, Htl.out, Htl2.out]
                  obtain ⟨f, ef1, ef2, ef3, ef4⟩ := parse_all Har.out vs Hvl.out ps Hpl.out cur2.data.toList
                  have Hpar := Lib.hid (hhd.trans ef4)
                  have Hf1 := Lib.hid ef1
                  have Hf2 := Lib.hid ef2
                  have Hf3 := Lib.hid ef3
                  clear hhd ef1 ef2 ef3 ef4
                  have hall := allBits_eq f
                  rw [Hf2.out, Hf3.out] at hall
                  have Hall := Lib.hid hall
                  clear hall
                  obtain ⟨_, vsv, _, hB, h1, _, _, _, _⟩ := Hnt2.out
                  have hc0 := cell_at hB 0
                  have hc1 := cell_at hB 1
                  have hc3 := cell_at hB 3
                  have hf3 := free_at hB 3
                  simp only [List.getElem?_toArray, List.getElem?_cons_succ, List.getElem?_cons_zero] at hc0 hc1 hc3
                  clear hB
                  have H1 := Lib.hid h1
                  clear h1
                  cases hq : isQuB s[0] with
                  | false =>
                    have hfree := freeBits_no f (by rw [Hf1.out]; exact hq)
                    rw [Hf2.out, Hf3.out, Hpl.out, ← HF0.out] at hfree
                    have Hfree := Lib.hid hfree
                    have Hq := Lib.hid hq
                    clear hfree hq
                    go_wp2_with (go_at_call 62; refine (isQuantifier_at s[0] _ Hq.out _ _ hc0).mono ?_; rintro e w' ⟨rfl, rfl⟩)
                    go_ret2
                    refine ⟨Hbel2.out, .inr ⟨f, cur2, w.heap.size, Hpar.out, tree_done ?_, rfl⟩⟩
                    rw [Hf1.out, Hf2.out, Hf3.out, Hall.out, Hfree.out]
                    exact Hnt2.out
                  | true =>
                    obtain ⟨v, hv, hfree⟩ := freeBits_yes f (by rw [Hf1.out]; exact hq)
                    rw [Hf2.out] at hv
                    rw [Hf2.out, Hf3.out, Hpl.out, ← HF0.out] at hfree
                    have Hfree := Lib.hid hfree
                    have Hq := Lib.hid hq
                    have Hv := Lib.hid hv
                    clear hfree hq hv
                    have hvl1 : vs.length = 1 := by rw [Hv.out]; rfl
                    obtain ⟨g, cap, rfl, hcap, hcm, _, hglt, hrow⟩ := row_open H1.out (by omega)
                    have hgc : wr.cell? ⟨g, 0, none⟩ = some (.int .u8 (vb v).toNat) := by
                      rw [hrow 0 (by omega), Hv.out]; rfl
                    clear hrow
                    obtain ⟨hcv, hv3⟩ : ((vb v).toNat : Int) = 97 + (v.val : Int) ∧ (v.val : Int) < 4 := ⟨vb_int v, by omega⟩
                    have hvl2 : 0 < vs.length := by omega
                    clear hvl1
                    go_upto_region 48 with (go_at_call 62; refine (isQuantifier_at s[0] _ Hq.out _ _ hc0).mono ?_; rintro e w' ⟨rfl, rfl⟩)
                    go_cut [] (fun wx => NodeT w.heap.size wx s[0] vs f.freeBits (orAll (maskV vs) ps) ps ∧ Below w.heap.size w wx)
                    case first =>
                      go_region
                      all_goals
                        go_wp2_with fail
                        go_meet
                        case rel =>
                          rw [andNot_bit _ _ (orFree_lt hF0 ps), ← Hfree.out]
                          exact ⟨NodeT.drew (NodeT.setFree Hnt2.out _), Below.drew (Below.setCell (p := ⟨w.heap.size, 3, none⟩) Hbel2.out (Nat.le_refl _) _)⟩
                    case rest =>
                      obtain ⟨hnt6, hbel6⟩ := hcut
                      have Hnt6 := Lib.hid hnt6
                      have Hbel6 := Lib.hid hbel6
                      clear hnt6 hbel6 hc0 hc1 hc3 hf3 hgc hcv
                      go_wp2_with fail
                      go_ret2
                      refine ⟨Hbel6.out, .inr ⟨f, cur2, w.heap.size, Hpar.out, tree_done ?_, rfl⟩⟩
                      rw [Hf1.out, Hf2.out, Hf3.out, Hall.out]
                      exact Hnt6.out
    · exact parsePart_empty s w (by omega)
end Go.Proofs.Ytjmfldakfokoaaa
