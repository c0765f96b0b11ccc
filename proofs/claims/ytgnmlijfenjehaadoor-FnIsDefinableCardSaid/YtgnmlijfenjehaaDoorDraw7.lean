/-
  Draws: an order of numbers. Condition: at most 2^39 numbers were drawn before.
-/
import Derived.Test.YtgnmlijfenjehaaDoorDraw6
import Derived.Test.YtgnmlijfenjehaaDoorReg3
import Derived.Test.YtgnmlijfenjehaaDoorApp
import Derived.Deep.AppendLies
namespace Go.Proofs.YtgnmlijfenjehaaDoor
open Go.RowKit
open Pl
set_option linter.unusedSimpArgs false
set_option linter.unusedVariables false

attribute [local go_sem ↓] Go.wp_at_zero Go.wp_at_succ

/-- a row of one's own behind a call that draws -/
theorem own_dw {W W' : World} {base rb n : Nat} {e : TypeId} {v : Value} {xs : List Value} (h : W.ownsRow base e 1 v n xs) (hg : W.grownBy W' (some rb)) (hrb : rb < base) : W'.ownsRow base e 1 v n xs := by
  obtain ⟨h1, h2⟩ := h
  refine ⟨h1, h2.imp id fun ⟨g, c, cur, hv, hb, hh, hr⟩ => ⟨g, c, cur, hv, hb, ?_, hr⟩⟩
  exact (hg.block g (Array.getElem?_eq_some_iff.1 hh).1 (by simp; omega)).trans hh
theorem own_cap {W : World} {base n g cp : Nat} {e : TypeId} {xs : List Value} (h : W.ownsRow base e 1 (.slice (some ⟨g, 0, none⟩) n cp) n xs) : n ≤ cp ∧ cp ≤ maxLen ∧ base ≤ g ∧ g < W.heap.size := by
  obtain ⟨_, ⟨h0, _⟩ | ⟨g', c, cur, hv, hb, hh, hn, hm, _⟩⟩ := h
  · cases h0
  · injection hv with h1 h2 h3
    injection h1 with h1
    injection h1 with h1
    subst h1; subst h3
    exact ⟨hn, hm, hb, (Array.getElem?_eq_some_iff.1 hh).1⟩
/-- the rest of a list, from an index on -/
theorem rest_cells {w : World} {g d : Nat} {L : List Nat} (h : LRow w (some ⟨g, 0, none⟩) (natsI L)) : ∀ j u, (intsV (natsI (L.drop d)))[j]? = some u → w.cell? ((⟨g, d, none⟩ : Addr).add j) = some u := by
  intro j u hj
  have hl : d + j < L.length := by
    have := (List.getElem?_eq_some_iff.1 hj).1
    simp [intsV, natsI] at this
    omega
  have h2 := LRow.news h (d + j) u (by
    rw [← hj]
    simp [intsV, natsI])
  have e1 : ((⟨g, d, none⟩ : Addr).add j) = ⟨g, d + j, none⟩ := by
    rcases Nat.eq_zero_or_pos j with h0 | h0
    · subst h0; rfl
    · simp [Addr.add]; omega
  have e2 : ((⟨g, 0, none⟩ : Addr).add (d + j)) = ⟨g, d + j, none⟩ := by
    rcases Nat.eq_zero_or_pos (d + j) with h0 | h0
    · rw [h0]; rfl
    · simp [Addr.add]; omega
  rw [e1, ← e2]
  exact h2

theorem own_low {w : World} {base base' n : Nat} {e : TypeId} {v : Value} {xs : List Value} (h : w.ownsRow base e 1 v n xs) (hb : base' ≤ base) : w.ownsRow base' e 1 v n xs :=
  ⟨h.1, h.2.imp (fun h => h) fun ⟨g, c, cur, h1, h2, h3⟩ => ⟨g, c, cur, h1, by omega, h3⟩⟩
theorem own_shape {w : World} {base n : Nat} {e : TypeId} {v : Value} {xs : List Value} (h : w.ownsRow base e 1 v n xs) (hn : 0 < n) : ∃ g cap, v = .slice (some ⟨g, 0, none⟩) n cap := by
  obtain ⟨_, ⟨_, h0⟩ | ⟨g, cap, _, hv, _⟩⟩ := h
  · omega
  · exact ⟨g, cap, hv⟩
theorem own_zero2 (w : World) (o : Obj) : ((w.alloc o).alloc (.cells #[] 3)).ownsRow w.heap.size 3 1 (.slice (some ⟨w.heap.size + 1, 0, none⟩) 0 0) 0 [] := by
  have h := own_zero (w.alloc o)
  rw [World.size_alloc] at h
  exact own_low h (Nat.le_succ _)
theorem take_row {w : World} {A : Option Addr} {L : List Nat} {d : Nat} (h : LRow w A (natsI L)) : LRow w A (natsI (L.take d)) := by
  have := h.take d
  unfold natsI at *
  rwa [List.map_take]
theorem next_order {W : World} {b b2 d k g cp : Nat} {L : List Nat} (hd : d ≤ L.length) (hL : L.length = k) (hlt : ∀ x ∈ L, x < k) (hnd : L.Nodup) (hb : b ≤ b2)
    (h : W.ownsRow b2 3 1 (.slice (some ⟨g, 0, none⟩) (d + 1 + (L.length - d)) cp) (d + 1 + (L.length - d)) ((intsV (natsI (L.take d))) ++ [.int .i64 (k : Nat)] ++ (intsV (natsI (L.drop d))))) :
    W.ownsRow b 3 1 (.slice (some ⟨g, 0, none⟩) (L.take d ++ k :: L.drop d).length cp) (L.take d ++ k :: L.drop d).length (intsV (natsI (L.take d ++ k :: L.drop d))) ∧ (L.take d ++ k :: L.drop d).length = k + 1 ∧ (∀ x ∈ L.take d ++ k :: L.drop d, x < k + 1) ∧ (L.take d ++ k :: L.drop d).Nodup := by
  have hn : (L.take d ++ k :: L.drop d).length = d + 1 + (L.length - d) := by simp; omega
  have hp : (L.take d ++ k :: L.drop d).Perm (k :: L) := by
    have := List.perm_middle (a := k) (l₁ := L.take d) (l₂ := L.drop d)
    rwa [List.take_append_drop] at this
  refine ⟨?_, by rw [hn]; omega, fun x hx => ?_, ?_⟩
  · rw [hn]
    have e : intsV (natsI (L.take d ++ k :: L.drop d)) = (intsV (natsI (L.take d))) ++ [.int .i64 (k : Nat)] ++ (intsV (natsI (L.drop d))) := by simp [intsV, natsI]
    rw [e]
    exact own_low h hb
  · rcases List.mem_cons.1 (hp.mem_iff.1 hx) with rfl | h2
    · omega
    · have := hlt x h2; omega
  · rw [hp.nodup_iff]
    exact List.nodup_cons.2 ⟨fun h2 => by have := hlt k h2; omega, hnd⟩

theorem next_order0 {W : World} {b b2 d k g cp : Nat} {L : List Nat} (hd : L.length = d) (hL : L.length = k) (hlt : ∀ x ∈ L, x < k) (hnd : L.Nodup) (hb : b ≤ b2)
    (h : W.ownsRow b2 3 1 (.slice (some ⟨g, 0, none⟩) (d + 1 + 0) cp) (d + 1 + 0) ((intsV (natsI (L.take d))) ++ [.int .i64 (k : Nat)] ++ [])) :
    W.ownsRow b 3 1 (.slice (some ⟨g, 0, none⟩) (L.take d ++ k :: L.drop d).length cp) (L.take d ++ k :: L.drop d).length (intsV (natsI (L.take d ++ k :: L.drop d))) ∧ (L.take d ++ k :: L.drop d).length = k + 1 ∧ (∀ x ∈ L.take d ++ k :: L.drop d, x < k + 1) ∧ (L.take d ++ k :: L.drop d).Nodup := by
  refine next_order (by omega) hL hlt hnd hb ?_
  have e : L.length - d = 0 := by omega
  have e2 : (intsV (natsI (L.drop d))) = [] := by rw [List.drop_of_length_le (by omega)]; rfl
  rw [e, e2]
  exact h

/-- an order that is drawn -/
def ShufS (w : World) (rb : Nat) (A : Option Addr) (n cap p m : Nat) (e : Ending) (w' : World) : Prop := ∃ (L : List Nat) (g cp : Nat), e = .returned (.slice (some ⟨g, 0, none⟩) L.length cp) ∧ L.length = m ∧ (∀ x ∈ L, x < m) ∧ L.Nodup ∧
  w'.ownsRow w.heap.size 3 1 (.slice (some ⟨g, 0, none⟩) L.length cp) L.length (intsV (natsI L)) ∧ Rd w' rb A n cap (p + m)

set_option maxHeartbeats 4000000 in
set_option maxRecDepth 100000 in
theorem l1Shuffle_calls (rb : Nat) (A : Option Addr) (n cap p m : Nat) (w : World) (h : Rd w rb A n cap p) (hp : p ≤ 549755800000) (hm : m ≤ 8) :
    Calls Tryd.prog 38 #[.pointer (some ⟨rb, 0, none⟩), .int .i64 (m : Nat)] w fun e w' => ShufS w rb A n cap p m e w' ∧ w.grownBy w' (some rb) := by
  obtain ⟨i0, hi, hz0, hz1, hz2⟩ := info_parts (P := Tryd.prog) (e := 3) (z := .int .i64 0) (size := 1) (bytes := 8) (by kernel_rfl)
  have hpk : ∀ (k : Int) (q : Nat) (V : World), k ≤ 100 → q ≤ p + 200 → Rd V rb A n cap q → Calls Tryd.prog 39 #[.pointer (some ⟨rb, 0, none⟩), .int .i64 k] V fun e w' => PickP k e ∧ Rd w' rb A n cap (q + 1) ∧ V.grownBy w' (some rb) := fun k q V hk hq hr => pick_calls rb A n cap q k V hr (by omega) (by omega)
  have hrl := h.box.lt
  have D0 := Lib.hid ((Dw.new h).alloc (.cells #[] 3))
  have O0 := Lib.hid (own_zero w)
  have Hpk := Lib.hid hpk
  clear hpk h
  go_enter Tryd.func38, Tryd.ntmps38
  go_wp2_with fail
  go_loopg [5, 6] m (fun c o i wr => ∃ (k : Nat) (L : List Nat) (g cp : Nat), k + c = m ∧ i = .int .i64 (k : Nat) ∧ o = .slice (some ⟨g, 0, none⟩) L.length cp ∧ L.length = k ∧ ((∀ x ∈ L, x < k) ∧ L.Nodup) ∧
    wr.ownsRow w.heap.size 3 1 (.slice (some ⟨g, 0, none⟩) L.length cp) L.length (intsV (natsI L)) ∧ Dw w rb A n cap (p + k) wr)
  case atStart => exact ⟨0, [], _, _, by omega, rfl, rfl, rfl, ⟨by simp, by simp⟩, O0.out, D0.out⟩
  case round =>
    obtain ⟨k, L, g, cp, hk, rfl, rfl, hL, hlt, ho, hd⟩ := hrel
    clear D0 O0
    have D1 := Lib.hid hd
    have O1 := Lib.hid ho
    have Hlt := Lib.hid hlt
    obtain ⟨hc1, hc2, hc3, hc4⟩ := own_cap ho
    clear hd ho hlt
    by_cases hkm : k < m
    · have hki : (k : Int) < (m : Int) := by omega
      have hl8 : (L.length : Int) ≤ 8 := by omega
      have hl0 : (0 : Int) ≤ (L.length : Int) := by omega
      have hLk := Lib.hid hL
      clear hL
      go_wp2_with fail
      refine (Hpk.out ((L.length : Int) + 1) (p + k) _ (by omega) (by omega) D1.out.rd).mono ?_
      rintro e w2 ⟨⟨d', rfl, hd0, hd1, _⟩, hr, hg⟩
      have hd2 := hd1 (by omega)
      obtain ⟨d, rfl⟩ : ∃ d : Nat, d' = d := ⟨d'.toNat, by omega⟩
      have hdL : d ≤ L.length := by omega
      have D2 := Lib.hid (D1.out.step hr hg)
      have O2 := Lib.hid (own_dw O1.out hg hrl)
      clear hr hg hd1
      unfold maxLen at hc2
      have e1 : (d : Int) ≤ (L.length : Int) := by omega
      have e2 : (0 : Int) ≤ (d : Int) := by omega
      have e3 : (L.length : Int) ≤ (cp : Int) := by omega
      have e4 : (d : Int) ≤ (cp : Int) := by omega
      clear hd0 hd2
      by_cases hdc : d = cp
      · subst hdc
        have hLd : L.length = d := by omega
        have HLd := Lib.hid hLd
        clear hLd
        go_upto_region 6 with (fail)
        refine R3.region_tree (.take 1 (.take 2 (.take 3 (.take 5 (.take 8 (.take 9 (.take 10 (.two 0 6 (.two 4 6 (.one 6 (.one 7 (.one 11 (.take 12 .nil)))) (.one 4 (.one 7 (.one 11 (.take 12 .nil))))) (.one 0 (.one 4 (.one 7 (.one 11 (.take 12 .nil)))))))))))))
          (fun _ => True) (by kernel_rfl) (by kernel_rfl) (by kernel_rfl) (fun _ _ _ _ h => h) trivial (fun Q1 hQ1 => ?_)
        refine R3.tree_take (v := ?_) (a' := ?_) rfl (by kernel_rfl) ?_ rfl ?_ ?_
        rotate_left 2
        · intro w hSw
          clear hSw
          go_simp
          try with_reducible rfl
        · (try simp only [Act.put, List.setIfInBounds_toArray, List.set_cons_zero, List.set_cons_succ])
          try rfl
        refine R3.tree_take (v := ?_) (a' := ?_) rfl (by kernel_rfl) ?_ rfl ?_ ?_
        rotate_left 2
        · intro w hSw
          clear hSw
          go_simp
          try with_reducible rfl
        · (try simp only [Act.put, List.setIfInBounds_toArray, List.set_cons_zero, List.set_cons_succ])
          try rfl
        refine R3.tree_take (v := ?_) (a' := ?_) rfl (by kernel_rfl) ?_ rfl ?_ ?_
        rotate_left 2
        · intro w hSw
          clear hSw
          go_simp
          try with_reducible rfl
        · (try simp only [Act.put, List.setIfInBounds_toArray, List.set_cons_zero, List.set_cons_succ])
          try rfl
        refine R3.tree_take (v := ?_) (a' := ?_) rfl (by kernel_rfl) ?_ rfl ?_ ?_
        rotate_left 2
        · intro w hSw
          clear hSw
          go_simp
          try with_reducible rfl
        · (try simp only [Act.put, List.setIfInBounds_toArray, List.set_cons_zero, List.set_cons_succ])
          try rfl
        refine R3.tree_take (v := ?_) (a' := ?_) rfl (by kernel_rfl) ?_ rfl ?_ ?_
        rotate_left 2
        · intro w hSw
          clear hSw
          go_simp
          try with_reducible rfl
        · (try simp only [Act.put, List.setIfInBounds_toArray, List.set_cons_zero, List.set_cons_succ])
          try rfl
        refine R3.tree_take (v := ?_) (a' := ?_) rfl (by kernel_rfl) ?_ rfl ?_ ?_
        rotate_left 2
        · intro w hSw
          clear hSw
          go_simp
          try with_reducible rfl
        · (try simp only [Act.put, List.setIfInBounds_toArray, List.set_cons_zero, List.set_cons_succ])
          try rfl
        refine R3.tree_take (v := ?_) (a' := ?_) rfl (by kernel_rfl) ?_ rfl ?_ ?_
        rotate_left 2
        · intro w hSw
          clear hSw
          go_simp
          try with_reducible rfl
        · (try simp only [Act.put, List.setIfInBounds_toArray, List.set_cons_zero, List.set_cons_succ])
          try rfl
        have D3 := Lib.hid D2.out.drew
        have O3 := Lib.hid (show w2.drew.ownsRow w.heap.size 3 1 (.slice (some ⟨g, 0, none⟩) L.length d) L.length (intsV (natsI L)) from O2.out)
        generalize w2.drew = V at *
        have L3 := Lib.hid (LRow_of O3.out)
        have Hnext := Lib.hid (fun (W : World) (g' cp' : Nat) => next_order0 (W := W) (b := w.heap.size) (b2 := V.heap.size) (g := g') (cp := cp') HLd.out hLk.out Hlt.out.1 Hlt.out.2 D3.out.gr.size)
        refine R3.tree_two ?_ ?_
        · refine R3.tree_one rfl (by kernel_rfl) (fun K1 hK1 => ?_)
          go_simp
          refine hK1.out _ _ trivial (R3.tree_lay (a' := ?_) ?_ ?_)
          rotate_left 1
          · (try simp only [Act.put, List.getElem_toArray, List.getElem_cons_succ, List.getElem_cons_zero, List.setIfInBounds_toArray, List.set_cons_zero, List.set_cons_succ])
            try rfl
          clear hK1 K1
          refine R3.tree_two ?_ ?_
          · refine R3.tree_one rfl (by kernel_rfl) (fun K1 hK1 => ?_)
            refine R3.wp_app (.tmp 19) (.tmp 22) 24 (by rfl) V.heap.size 3 i0 (.int .i64 0) 1 8 Tryd.underlying24 hi hz0 hz1 hz2 rfl (by decide) _ 0 [] (by rfl) (own_zero V) ⟨g, 0, none⟩ d _ (intsV (natsI (L.take d))) (by rfl) (by simp [intsV_len, natsI_len, List.length_take]; omega) (LRow.news (take_row (L3.out.alloc _))) (ints_oneCell .i64 _) (by unfold maxLen; omega) (by omega) (by first | (simp; done) | (simp; omega)) (fun v4 w4 ho hg => ?_)
            have O4 := Lib.hid (app_one ho hg).1
            have BB := Lib.hid (app_one ho hg).2
            clear ho hg
            refine hK1.out _ _ trivial (R3.tree_lay (a' := ?_) ?_ ?_)
            rotate_left 1
            · (try simp only [Act.put, List.getElem_toArray, List.getElem_cons_succ, List.getElem_cons_zero, List.setIfInBounds_toArray, List.set_cons_zero, List.set_cons_succ])
              try rfl
            clear hK1 K1
            refine R3.tree_one rfl (by kernel_rfl) (fun K1 hK1 => ?_)
            go_simp
            refine hK1.out _ _ trivial (R3.tree_lay (a' := ?_) ?_ ?_)
            rotate_left 1
            · (try simp only [Act.put, List.getElem_toArray, List.getElem_cons_succ, List.getElem_cons_zero, List.setIfInBounds_toArray, List.set_cons_zero, List.set_cons_succ])
              try rfl
            clear hK1 K1
            have O4 := Lib.hid (O4.out.alloc (.cells #[.int .i64 (k : Nat)] 3))
            have X4 := Lib.hid (Bx.new w4 3 #[.int .i64 (k : Nat)])
            have B4 := Lib.hid (BB.out.alloc BB.out.size (.cells #[.int .i64 (k : Nat)] 3))
            refine R3.tree_one rfl (by kernel_rfl) (fun K1 hK1 => ?_)
            refine R3.wp_app (.tmp 23) (.tmp 25) 24 (by rfl) V.heap.size 3 i0 (.int .i64 0) 1 8 Tryd.underlying24 hi hz0 hz1 hz2 rfl (by decide) _ d (intsV (natsI (L.take d))) (by rfl) O4.out ⟨w4.heap.size, 0, none⟩ 1 1 [.int .i64 (k : Nat)] (by rfl) rfl (World.news_of_block (cs := #[.int .i64 (k : Nat)]) X4.out) (ints_oneCell .i64 [((k : Nat) : Int)]) (by unfold maxLen; omega) (by omega) B4.out.size (fun v7 w7 ho hg => ?_)
            have O7 := Lib.hid ho
            have B7 := Lib.hid (B4.out.grown hg B4.out.size (fun j hj => (O4.out.lt j hj).1))
            clear ho hg
            refine hK1.out _ _ trivial (R3.tree_lay (a' := ?_) ?_ ?_)
            rotate_left 1
            · (try simp only [Act.put, List.getElem_toArray, List.getElem_cons_succ, List.getElem_cons_zero, List.setIfInBounds_toArray, List.set_cons_zero, List.set_cons_succ])
              try rfl
            clear hK1 K1
            refine R3.tree_one rfl (by kernel_rfl) (fun K1 hK1 => ?_)
            refine R3.wp_app (.tmp 26) (.tmp 29) 24 (by rfl) V.heap.size 3 i0 (.int .i64 0) 1 8 Tryd.underlying24 hi hz0 hz1 hz2 rfl (by decide) _ (d + 1) ((intsV (natsI (L.take d))) ++ [.int .i64 (k : Nat)]) (by rfl) O7.out ⟨g, 0, none⟩ 0 _ [] (by rfl) rfl (fun j u hj => by simp at hj) (fun u hu => by cases hu) (by unfold maxLen; omega) (by omega) B7.out.size (fun v11 w11 ho hg => ?_)
            have O11 := Lib.hid ho
            have B11 := Lib.hid (B7.out.grown hg B7.out.size (fun j hj => (O7.out.lt j hj).1))
            obtain ⟨g11, cp11, rfl⟩ := own_shape ho (by omega)
            clear ho hg
            refine hK1.out _ _ trivial (R3.tree_lay (a' := ?_) ?_ ?_)
            rotate_left 1
            · (try simp only [Act.put, List.getElem_toArray, List.getElem_cons_succ, List.getElem_cons_zero, List.setIfInBounds_toArray, List.set_cons_zero, List.set_cons_succ])
              try rfl
            clear hK1 K1
            refine R3.tree_take (v := ?_) (a' := ?_) rfl (by kernel_rfl) ?_ rfl ?_ ?_
            rotate_left 2
            · intro w hSw
              clear hSw
              go_simp
              try with_reducible rfl
            · (try simp only [Act.put, List.setIfInBounds_toArray, List.set_cons_zero, List.set_cons_succ])
              try rfl
            refine R3.tree_done (hQ1.out _ _ ?_)
            have D11 := Lib.hid (D3.out.call B11.out)
            obtain ⟨O12, hLl, hLlt, hLnd⟩ := Hnext.out _ _ _ O11.out
            have HO := Lib.hid O12
            clear O12
            have hn1 : (L.take d ++ k :: L.drop d).length = d + 1 + 0 := by have := HLd.out; simp; omega
            have HN := Lib.hid hn1
            clear hn1
            go_wp2_with fail
            go_roundg (m - k - 1)
            case rel => exact ⟨k + 1, L.take d ++ k :: L.drop d, g11, cp11, by omega, by go_num, by rw [HN.out], hLl, ⟨hLlt, hLnd⟩, HO.out, D11.out⟩
            case measure => omega
          · refine R3.tree_one rfl (by kernel_rfl) (fun K1 hK1 => ?_)
            go_simp
            refine hK1.out _ _ trivial (R3.tree_lay (a' := ?_) ?_ ?_)
            rotate_left 1
            · (try simp only [Act.put, List.getElem_toArray, List.getElem_cons_succ, List.getElem_cons_zero, List.setIfInBounds_toArray, List.set_cons_zero, List.set_cons_succ])
              try rfl
            clear hK1 K1
            refine R3.tree_one rfl (by kernel_rfl) (fun K1 hK1 => ?_)
            refine R3.wp_app (.tmp 19) (.tmp 22) 24 (by rfl) V.heap.size 3 i0 (.int .i64 0) 1 8 Tryd.underlying24 hi hz0 hz1 hz2 rfl (by decide) _ 0 [] (by rfl) ((own_zero V).alloc _) ⟨g, 0, none⟩ d _ (intsV (natsI (L.take d))) (by rfl) (by simp [intsV_len, natsI_len, List.length_take]; omega) (LRow.news (take_row ((L3.out.alloc _).alloc _))) (ints_oneCell .i64 _) (by unfold maxLen; omega) (by omega) (by first | (simp; done) | (simp; omega)) (fun v4 w4 ho hg => ?_)
            have O4 := Lib.hid (show w4.ownsRow V.heap.size 3 1 v4 d (intsV (natsI (L.take d))) from by simpa using ho)
            have X4 := Lib.hid ((bx_two V (.cells #[] 3) #[.int .i64 (k : Nat)] (t := 3)).grown hg (by simp [Value.ownBlock]))
            have B4 := Lib.hid ((((Below.refl V.heap.size V).alloc (Nat.le_refl _) (.cells #[] 3)).alloc (by simp) (.cells #[.int .i64 (k : Nat)] 3)).grown hg (by simp; omega) (fun j hj => by simp [Value.ownBlock] at hj; omega))
            clear ho hg
            refine hK1.out _ _ trivial (R3.tree_lay (a' := ?_) ?_ ?_)
            rotate_left 1
            · (try simp only [Act.put, List.getElem_toArray, List.getElem_cons_succ, List.getElem_cons_zero, List.setIfInBounds_toArray, List.set_cons_zero, List.set_cons_succ])
              try rfl
            clear hK1 K1
            refine R3.tree_one rfl (by kernel_rfl) (fun K1 hK1 => ?_)
            refine R3.wp_app (.tmp 23) (.tmp 25) 24 (by rfl) V.heap.size 3 i0 (.int .i64 0) 1 8 Tryd.underlying24 hi hz0 hz1 hz2 rfl (by decide) _ d (intsV (natsI (L.take d))) (by rfl) O4.out ⟨V.heap.size + 1, 0, none⟩ 1 1 [.int .i64 (k : Nat)] (by rfl) rfl (World.news_of_block (cs := #[.int .i64 (k : Nat)]) X4.out) (ints_oneCell .i64 [((k : Nat) : Int)]) (by unfold maxLen; omega) (by omega) B4.out.size (fun v7 w7 ho hg => ?_)
            have O7 := Lib.hid ho
            have B7 := Lib.hid (B4.out.grown hg B4.out.size (fun j hj => (O4.out.lt j hj).1))
            clear ho hg
            refine hK1.out _ _ trivial (R3.tree_lay (a' := ?_) ?_ ?_)
            rotate_left 1
            · (try simp only [Act.put, List.getElem_toArray, List.getElem_cons_succ, List.getElem_cons_zero, List.setIfInBounds_toArray, List.set_cons_zero, List.set_cons_succ])
              try rfl
            clear hK1 K1
            refine R3.tree_one rfl (by kernel_rfl) (fun K1 hK1 => ?_)
            refine R3.wp_app (.tmp 26) (.tmp 29) 24 (by rfl) V.heap.size 3 i0 (.int .i64 0) 1 8 Tryd.underlying24 hi hz0 hz1 hz2 rfl (by decide) _ (d + 1) ((intsV (natsI (L.take d))) ++ [.int .i64 (k : Nat)]) (by rfl) O7.out ⟨g, 0, none⟩ 0 _ [] (by rfl) rfl (fun j u hj => by simp at hj) (fun u hu => by cases hu) (by unfold maxLen; omega) (by omega) B7.out.size (fun v11 w11 ho hg => ?_)
            have O11 := Lib.hid ho
            have B11 := Lib.hid (B7.out.grown hg B7.out.size (fun j hj => (O7.out.lt j hj).1))
            obtain ⟨g11, cp11, rfl⟩ := own_shape ho (by omega)
            clear ho hg
            refine hK1.out _ _ trivial (R3.tree_lay (a' := ?_) ?_ ?_)
            rotate_left 1
            · (try simp only [Act.put, List.getElem_toArray, List.getElem_cons_succ, List.getElem_cons_zero, List.setIfInBounds_toArray, List.set_cons_zero, List.set_cons_succ])
              try rfl
            clear hK1 K1
            refine R3.tree_take (v := ?_) (a' := ?_) rfl (by kernel_rfl) ?_ rfl ?_ ?_
            rotate_left 2
            · intro w hSw
              clear hSw
              go_simp
              try with_reducible rfl
            · (try simp only [Act.put, List.setIfInBounds_toArray, List.set_cons_zero, List.set_cons_succ])
              try rfl
            refine R3.tree_done (hQ1.out _ _ ?_)
            have D11 := Lib.hid (D3.out.call B11.out)
            obtain ⟨O12, hLl, hLlt, hLnd⟩ := Hnext.out _ _ _ O11.out
            have HO := Lib.hid O12
            clear O12
            have hn1 : (L.take d ++ k :: L.drop d).length = d + 1 + 0 := by have := HLd.out; simp; omega
            have HN := Lib.hid hn1
            clear hn1
            go_wp2_with fail
            go_roundg (m - k - 1)
            case rel => exact ⟨k + 1, L.take d ++ k :: L.drop d, g11, cp11, by omega, by go_num, by rw [HN.out], hLl, ⟨hLlt, hLnd⟩, HO.out, D11.out⟩
            case measure => omega
        · refine R3.tree_one rfl (by kernel_rfl) (fun K1 hK1 => ?_)
          go_simp
          refine hK1.out _ _ trivial (R3.tree_lay (a' := ?_) ?_ ?_)
          rotate_left 1
          · (try simp only [Act.put, List.getElem_toArray, List.getElem_cons_succ, List.getElem_cons_zero, List.setIfInBounds_toArray, List.set_cons_zero, List.set_cons_succ])
            try rfl
          clear hK1 K1
          refine R3.tree_one rfl (by kernel_rfl) (fun K1 hK1 => ?_)
          go_simp
          refine hK1.out _ _ trivial (R3.tree_lay (a' := ?_) ?_ ?_)
          rotate_left 1
          · (try simp only [Act.put, List.getElem_toArray, List.getElem_cons_succ, List.getElem_cons_zero, List.setIfInBounds_toArray, List.set_cons_zero, List.set_cons_succ])
            try rfl
          clear hK1 K1
          refine R3.tree_one rfl (by kernel_rfl) (fun K1 hK1 => ?_)
          refine R3.wp_app (.tmp 19) (.tmp 22) 24 (by rfl) V.heap.size 3 i0 (.int .i64 0) 1 8 Tryd.underlying24 hi hz0 hz1 hz2 rfl (by decide) _ 0 [] (by rfl) (own_zero2 V _) ⟨g, 0, none⟩ d _ (intsV (natsI (L.take d))) (by rfl) (by simp [intsV_len, natsI_len, List.length_take]; omega) (LRow.news (take_row ((L3.out.alloc _).alloc _))) (ints_oneCell .i64 _) (by unfold maxLen; omega) (by omega) (by first | (simp; done) | (simp; omega)) (fun v4 w4 ho hg => ?_)
          have O4 := Lib.hid (show w4.ownsRow V.heap.size 3 1 v4 d (intsV (natsI (L.take d))) from by simpa using ho)
          have X4 := Lib.hid (((Bx.new V 3 #[.int .i64 (k : Nat)]).alloc (.cells #[] 3)).grown hg (by simp [Value.ownBlock]))
          have B4 := Lib.hid ((((Below.refl V.heap.size V).alloc (Nat.le_refl _) (.cells #[.int .i64 (k : Nat)] 3)).alloc (by simp) (.cells #[] 3)).grown hg (by simp; omega) (fun j hj => by simp [Value.ownBlock] at hj; omega))
          clear ho hg
          refine hK1.out _ _ trivial (R3.tree_lay (a' := ?_) ?_ ?_)
          rotate_left 1
          · (try simp only [Act.put, List.getElem_toArray, List.getElem_cons_succ, List.getElem_cons_zero, List.setIfInBounds_toArray, List.set_cons_zero, List.set_cons_succ])
            try rfl
          clear hK1 K1
          refine R3.tree_one rfl (by kernel_rfl) (fun K1 hK1 => ?_)
          refine R3.wp_app (.tmp 23) (.tmp 25) 24 (by rfl) V.heap.size 3 i0 (.int .i64 0) 1 8 Tryd.underlying24 hi hz0 hz1 hz2 rfl (by decide) _ d (intsV (natsI (L.take d))) (by rfl) O4.out ⟨V.heap.size, 0, none⟩ 1 1 [.int .i64 (k : Nat)] (by rfl) rfl (World.news_of_block (cs := #[.int .i64 (k : Nat)]) X4.out) (ints_oneCell .i64 [((k : Nat) : Int)]) (by unfold maxLen; omega) (by omega) B4.out.size (fun v7 w7 ho hg => ?_)
          have O7 := Lib.hid ho
          have B7 := Lib.hid (B4.out.grown hg B4.out.size (fun j hj => (O4.out.lt j hj).1))
          clear ho hg
          refine hK1.out _ _ trivial (R3.tree_lay (a' := ?_) ?_ ?_)
          rotate_left 1
          · (try simp only [Act.put, List.getElem_toArray, List.getElem_cons_succ, List.getElem_cons_zero, List.setIfInBounds_toArray, List.set_cons_zero, List.set_cons_succ])
            try rfl
          clear hK1 K1
          refine R3.tree_one rfl (by kernel_rfl) (fun K1 hK1 => ?_)
          refine R3.wp_app (.tmp 26) (.tmp 29) 24 (by rfl) V.heap.size 3 i0 (.int .i64 0) 1 8 Tryd.underlying24 hi hz0 hz1 hz2 rfl (by decide) _ (d + 1) ((intsV (natsI (L.take d))) ++ [.int .i64 (k : Nat)]) (by rfl) O7.out ⟨g, 0, none⟩ 0 _ [] (by rfl) rfl (fun j u hj => by simp at hj) (fun u hu => by cases hu) (by unfold maxLen; omega) (by omega) B7.out.size (fun v11 w11 ho hg => ?_)
          have O11 := Lib.hid ho
          have B11 := Lib.hid (B7.out.grown hg B7.out.size (fun j hj => (O7.out.lt j hj).1))
          obtain ⟨g11, cp11, rfl⟩ := own_shape ho (by omega)
          clear ho hg
          refine hK1.out _ _ trivial (R3.tree_lay (a' := ?_) ?_ ?_)
          rotate_left 1
          · (try simp only [Act.put, List.getElem_toArray, List.getElem_cons_succ, List.getElem_cons_zero, List.setIfInBounds_toArray, List.set_cons_zero, List.set_cons_succ])
            try rfl
          clear hK1 K1
          refine R3.tree_take (v := ?_) (a' := ?_) rfl (by kernel_rfl) ?_ rfl ?_ ?_
          rotate_left 2
          · intro w hSw
            clear hSw
            go_simp
            try with_reducible rfl
          · (try simp only [Act.put, List.setIfInBounds_toArray, List.set_cons_zero, List.set_cons_succ])
            try rfl
          refine R3.tree_done (hQ1.out _ _ ?_)
          have D11 := Lib.hid (D3.out.call B11.out)
          obtain ⟨O12, hLl, hLlt, hLnd⟩ := Hnext.out _ _ _ O11.out
          have HO := Lib.hid O12
          clear O12
          have hn1 : (L.take d ++ k :: L.drop d).length = d + 1 + 0 := by have := HLd.out; simp; omega
          have HN := Lib.hid hn1
          clear hn1
          go_wp2_with fail
          go_roundg (m - k - 1)
          case rel => exact ⟨k + 1, L.take d ++ k :: L.drop d, g11, cp11, by omega, by go_num, by rw [HN.out], hLl, ⟨hLlt, hLnd⟩, HO.out, D11.out⟩
          case measure => omega
      · have e5 : ¬ cp = d := fun e => hdc e.symm
        have e6 : ¬ (cp : Int) = (d : Int) := by omega
        have e7 : (d : Int) < (cp : Int) := by omega
        go_upto_region 6 with (fail)
        refine R3.region_tree (.take 1 (.take 2 (.take 3 (.take 5 (.take 8 (.take 9 (.take 10 (.two 0 6 (.two 4 6 (.one 6 (.one 7 (.one 11 (.take 12 .nil)))) (.one 4 (.one 7 (.one 11 (.take 12 .nil))))) (.one 0 (.one 4 (.one 7 (.one 11 (.take 12 .nil)))))))))))))
          (fun _ => True) (by kernel_rfl) (by kernel_rfl) (by kernel_rfl) (fun _ _ _ _ h => h) trivial (fun Q1 hQ1 => ?_)
        refine R3.tree_take (v := ?_) (a' := ?_) rfl (by kernel_rfl) ?_ rfl ?_ ?_
        rotate_left 2
        · intro w hSw
          clear hSw
          go_simp
          try with_reducible rfl
        · (try simp only [Act.put, List.setIfInBounds_toArray, List.set_cons_zero, List.set_cons_succ])
          try rfl
        refine R3.tree_take (v := ?_) (a' := ?_) rfl (by kernel_rfl) ?_ rfl ?_ ?_
        rotate_left 2
        · intro w hSw
          clear hSw
          go_simp
          try with_reducible rfl
        · (try simp only [Act.put, List.setIfInBounds_toArray, List.set_cons_zero, List.set_cons_succ])
          try rfl
        refine R3.tree_take (v := ?_) (a' := ?_) rfl (by kernel_rfl) ?_ rfl ?_ ?_
        rotate_left 2
        · intro w hSw
          clear hSw
          go_simp
          try with_reducible rfl
        · (try simp only [Act.put, List.setIfInBounds_toArray, List.set_cons_zero, List.set_cons_succ])
          try rfl
        refine R3.tree_take (v := ?_) (a' := ?_) rfl (by kernel_rfl) ?_ rfl ?_ ?_
        rotate_left 2
        · intro w hSw
          clear hSw
          go_simp
          try with_reducible rfl
        · (try simp only [Act.put, List.setIfInBounds_toArray, List.set_cons_zero, List.set_cons_succ])
          try rfl
        refine R3.tree_take (v := ?_) (a' := ?_) rfl (by kernel_rfl) ?_ rfl ?_ ?_
        rotate_left 2
        · intro w hSw
          clear hSw
          go_simp
          try with_reducible rfl
        · (try simp only [Act.put, List.setIfInBounds_toArray, List.set_cons_zero, List.set_cons_succ])
          try rfl
        refine R3.tree_take (v := ?_) (a' := ?_) rfl (by kernel_rfl) ?_ rfl ?_ ?_
        rotate_left 2
        · intro w hSw
          clear hSw
          go_simp
          try with_reducible rfl
        · (try simp only [Act.put, List.setIfInBounds_toArray, List.set_cons_zero, List.set_cons_succ])
          try rfl
        refine R3.tree_take (v := ?_) (a' := ?_) rfl (by kernel_rfl) ?_ rfl ?_ ?_
        rotate_left 2
        · intro w hSw
          clear hSw
          go_simp
          try with_reducible rfl
        · (try simp only [Act.put, List.setIfInBounds_toArray, List.set_cons_zero, List.set_cons_succ])
          try rfl
        have D3 := Lib.hid D2.out.drew
        have O3 := Lib.hid (show w2.drew.ownsRow w.heap.size 3 1 (.slice (some ⟨g, 0, none⟩) L.length cp) L.length (intsV (natsI L)) from O2.out)
        generalize w2.drew = V at *
        have L3 := Lib.hid (LRow_of O3.out)
        have HRest := Lib.hid (fun (W : World) (hb : Below V.heap.size V W) => rest_cells (d := d) ((LRow_of O3.out).call hb))
        have Hnext := Lib.hid (fun (W : World) (g' cp' : Nat) => next_order (W := W) (b := w.heap.size) (b2 := V.heap.size) (g := g') (cp := cp') hdL hLk.out Hlt.out.1 Hlt.out.2 D3.out.gr.size)
        refine R3.tree_two ?_ ?_
        · refine R3.tree_one rfl (by kernel_rfl) (fun K1 hK1 => ?_)
          go_simp
          refine hK1.out _ _ trivial (R3.tree_lay (a' := ?_) ?_ ?_)
          rotate_left 1
          · (try simp only [Act.put, List.getElem_toArray, List.getElem_cons_succ, List.getElem_cons_zero, List.setIfInBounds_toArray, List.set_cons_zero, List.set_cons_succ])
            try rfl
          clear hK1 K1
          refine R3.tree_two ?_ ?_
          · refine R3.tree_one rfl (by kernel_rfl) (fun K1 hK1 => ?_)
            refine R3.wp_app (.tmp 19) (.tmp 22) 24 (by rfl) V.heap.size 3 i0 (.int .i64 0) 1 8 Tryd.underlying24 hi hz0 hz1 hz2 rfl (by decide) _ 0 [] (by rfl) (own_zero V) ⟨g, 0, none⟩ d _ (intsV (natsI (L.take d))) (by rfl) (by simp [intsV_len, natsI_len, List.length_take]; omega) (LRow.news (take_row (L3.out.alloc _))) (ints_oneCell .i64 _) (by unfold maxLen; omega) (by omega) (by first | (simp; done) | (simp; omega)) (fun v4 w4 ho hg => ?_)
            have O4 := Lib.hid (app_one ho hg).1
            have BB := Lib.hid (app_one ho hg).2
            clear ho hg
            refine hK1.out _ _ trivial (R3.tree_lay (a' := ?_) ?_ ?_)
            rotate_left 1
            · (try simp only [Act.put, List.getElem_toArray, List.getElem_cons_succ, List.getElem_cons_zero, List.setIfInBounds_toArray, List.set_cons_zero, List.set_cons_succ])
              try rfl
            clear hK1 K1
            refine R3.tree_one rfl (by kernel_rfl) (fun K1 hK1 => ?_)
            go_simp
            refine hK1.out _ _ trivial (R3.tree_lay (a' := ?_) ?_ ?_)
            rotate_left 1
            · (try simp only [Act.put, List.getElem_toArray, List.getElem_cons_succ, List.getElem_cons_zero, List.setIfInBounds_toArray, List.set_cons_zero, List.set_cons_succ])
              try rfl
            clear hK1 K1
            have O4 := Lib.hid (O4.out.alloc (.cells #[.int .i64 (k : Nat)] 3))
            have X4 := Lib.hid (Bx.new w4 3 #[.int .i64 (k : Nat)])
            have B4 := Lib.hid (BB.out.alloc BB.out.size (.cells #[.int .i64 (k : Nat)] 3))
            refine R3.tree_one rfl (by kernel_rfl) (fun K1 hK1 => ?_)
            refine R3.wp_app (.tmp 23) (.tmp 25) 24 (by rfl) V.heap.size 3 i0 (.int .i64 0) 1 8 Tryd.underlying24 hi hz0 hz1 hz2 rfl (by decide) _ d (intsV (natsI (L.take d))) (by rfl) O4.out ⟨w4.heap.size, 0, none⟩ 1 1 [.int .i64 (k : Nat)] (by rfl) rfl (World.news_of_block (cs := #[.int .i64 (k : Nat)]) X4.out) (ints_oneCell .i64 [((k : Nat) : Int)]) (by unfold maxLen; omega) (by omega) B4.out.size (fun v7 w7 ho hg => ?_)
            have O7 := Lib.hid ho
            have B7 := Lib.hid (B4.out.grown hg B4.out.size (fun j hj => (O4.out.lt j hj).1))
            clear ho hg
            refine hK1.out _ _ trivial (R3.tree_lay (a' := ?_) ?_ ?_)
            rotate_left 1
            · (try simp only [Act.put, List.getElem_toArray, List.getElem_cons_succ, List.getElem_cons_zero, List.setIfInBounds_toArray, List.set_cons_zero, List.set_cons_succ])
              try rfl
            clear hK1 K1
            refine R3.tree_one rfl (by kernel_rfl) (fun K1 hK1 => ?_)
            refine R3.wp_app (.tmp 26) (.tmp 29) 24 (by rfl) V.heap.size 3 i0 (.int .i64 0) 1 8 Tryd.underlying24 hi hz0 hz1 hz2 rfl (by decide) _ (d + 1) ((intsV (natsI (L.take d))) ++ [.int .i64 (k : Nat)]) (by rfl) O7.out ⟨g, d, none⟩ (L.length - d) _ (intsV (natsI (L.drop d))) (by rfl) (by simp [intsV_len, natsI_len]) (HRest.out _ B7.out) (ints_oneCell .i64 _) (by unfold maxLen; omega) (by omega) B7.out.size (fun v11 w11 ho hg => ?_)
            have O11 := Lib.hid ho
            have B11 := Lib.hid (B7.out.grown hg B7.out.size (fun j hj => (O7.out.lt j hj).1))
            obtain ⟨g11, cp11, rfl⟩ := own_shape ho (by omega)
            clear ho hg
            refine hK1.out _ _ trivial (R3.tree_lay (a' := ?_) ?_ ?_)
            rotate_left 1
            · (try simp only [Act.put, List.getElem_toArray, List.getElem_cons_succ, List.getElem_cons_zero, List.setIfInBounds_toArray, List.set_cons_zero, List.set_cons_succ])
              try rfl
            clear hK1 K1
            refine R3.tree_take (v := ?_) (a' := ?_) rfl (by kernel_rfl) ?_ rfl ?_ ?_
            rotate_left 2
            · intro w hSw
              clear hSw
              go_simp
              try with_reducible rfl
            · (try simp only [Act.put, List.setIfInBounds_toArray, List.set_cons_zero, List.set_cons_succ])
              try rfl
            refine R3.tree_done (hQ1.out _ _ ?_)
            have D11 := Lib.hid (D3.out.call B11.out)
            obtain ⟨O12, hLl, hLlt, hLnd⟩ := Hnext.out _ _ _ O11.out
            have HO := Lib.hid O12
            clear O12
            have hn1 : (L.take d ++ k :: L.drop d).length = d + 1 + (L.length - d) := by simp; omega
            have HN := Lib.hid hn1
            clear hn1
            go_wp2_with fail
            go_roundg (m - k - 1)
            case rel => exact ⟨k + 1, L.take d ++ k :: L.drop d, g11, cp11, by omega, by go_num, by rw [HN.out], hLl, ⟨hLlt, hLnd⟩, HO.out, D11.out⟩
            case measure => omega
          · refine R3.tree_one rfl (by kernel_rfl) (fun K1 hK1 => ?_)
            go_simp
            refine hK1.out _ _ trivial (R3.tree_lay (a' := ?_) ?_ ?_)
            rotate_left 1
            · (try simp only [Act.put, List.getElem_toArray, List.getElem_cons_succ, List.getElem_cons_zero, List.setIfInBounds_toArray, List.set_cons_zero, List.set_cons_succ])
              try rfl
            clear hK1 K1
            refine R3.tree_one rfl (by kernel_rfl) (fun K1 hK1 => ?_)
            refine R3.wp_app (.tmp 19) (.tmp 22) 24 (by rfl) V.heap.size 3 i0 (.int .i64 0) 1 8 Tryd.underlying24 hi hz0 hz1 hz2 rfl (by decide) _ 0 [] (by rfl) ((own_zero V).alloc _) ⟨g, 0, none⟩ d _ (intsV (natsI (L.take d))) (by rfl) (by simp [intsV_len, natsI_len, List.length_take]; omega) (LRow.news (take_row ((L3.out.alloc _).alloc _))) (ints_oneCell .i64 _) (by unfold maxLen; omega) (by omega) (by first | (simp; done) | (simp; omega)) (fun v4 w4 ho hg => ?_)
            have O4 := Lib.hid (show w4.ownsRow V.heap.size 3 1 v4 d (intsV (natsI (L.take d))) from by simpa using ho)
            have X4 := Lib.hid ((bx_two V (.cells #[] 3) #[.int .i64 (k : Nat)] (t := 3)).grown hg (by simp [Value.ownBlock]))
            have B4 := Lib.hid ((((Below.refl V.heap.size V).alloc (Nat.le_refl _) (.cells #[] 3)).alloc (by simp) (.cells #[.int .i64 (k : Nat)] 3)).grown hg (by simp; omega) (fun j hj => by simp [Value.ownBlock] at hj; omega))
            clear ho hg
            refine hK1.out _ _ trivial (R3.tree_lay (a' := ?_) ?_ ?_)
            rotate_left 1
            · (try simp only [Act.put, List.getElem_toArray, List.getElem_cons_succ, List.getElem_cons_zero, List.setIfInBounds_toArray, List.set_cons_zero, List.set_cons_succ])
              try rfl
            clear hK1 K1
            refine R3.tree_one rfl (by kernel_rfl) (fun K1 hK1 => ?_)
            refine R3.wp_app (.tmp 23) (.tmp 25) 24 (by rfl) V.heap.size 3 i0 (.int .i64 0) 1 8 Tryd.underlying24 hi hz0 hz1 hz2 rfl (by decide) _ d (intsV (natsI (L.take d))) (by rfl) O4.out ⟨V.heap.size + 1, 0, none⟩ 1 1 [.int .i64 (k : Nat)] (by rfl) rfl (World.news_of_block (cs := #[.int .i64 (k : Nat)]) X4.out) (ints_oneCell .i64 [((k : Nat) : Int)]) (by unfold maxLen; omega) (by omega) B4.out.size (fun v7 w7 ho hg => ?_)
            have O7 := Lib.hid ho
            have B7 := Lib.hid (B4.out.grown hg B4.out.size (fun j hj => (O4.out.lt j hj).1))
            clear ho hg
            refine hK1.out _ _ trivial (R3.tree_lay (a' := ?_) ?_ ?_)
            rotate_left 1
            · (try simp only [Act.put, List.getElem_toArray, List.getElem_cons_succ, List.getElem_cons_zero, List.setIfInBounds_toArray, List.set_cons_zero, List.set_cons_succ])
              try rfl
            clear hK1 K1
            refine R3.tree_one rfl (by kernel_rfl) (fun K1 hK1 => ?_)
            refine R3.wp_app (.tmp 26) (.tmp 29) 24 (by rfl) V.heap.size 3 i0 (.int .i64 0) 1 8 Tryd.underlying24 hi hz0 hz1 hz2 rfl (by decide) _ (d + 1) ((intsV (natsI (L.take d))) ++ [.int .i64 (k : Nat)]) (by rfl) O7.out ⟨g, d, none⟩ (L.length - d) _ (intsV (natsI (L.drop d))) (by rfl) (by simp [intsV_len, natsI_len]) (HRest.out _ B7.out) (ints_oneCell .i64 _) (by unfold maxLen; omega) (by omega) B7.out.size (fun v11 w11 ho hg => ?_)
            have O11 := Lib.hid ho
            have B11 := Lib.hid (B7.out.grown hg B7.out.size (fun j hj => (O7.out.lt j hj).1))
            obtain ⟨g11, cp11, rfl⟩ := own_shape ho (by omega)
            clear ho hg
            refine hK1.out _ _ trivial (R3.tree_lay (a' := ?_) ?_ ?_)
            rotate_left 1
            · (try simp only [Act.put, List.getElem_toArray, List.getElem_cons_succ, List.getElem_cons_zero, List.setIfInBounds_toArray, List.set_cons_zero, List.set_cons_succ])
              try rfl
            clear hK1 K1
            refine R3.tree_take (v := ?_) (a' := ?_) rfl (by kernel_rfl) ?_ rfl ?_ ?_
            rotate_left 2
            · intro w hSw
              clear hSw
              go_simp
              try with_reducible rfl
            · (try simp only [Act.put, List.setIfInBounds_toArray, List.set_cons_zero, List.set_cons_succ])
              try rfl
            refine R3.tree_done (hQ1.out _ _ ?_)
            have D11 := Lib.hid (D3.out.call B11.out)
            obtain ⟨O12, hLl, hLlt, hLnd⟩ := Hnext.out _ _ _ O11.out
            have HO := Lib.hid O12
            clear O12
            have hn1 : (L.take d ++ k :: L.drop d).length = d + 1 + (L.length - d) := by simp; omega
            have HN := Lib.hid hn1
            clear hn1
            go_wp2_with fail
            go_roundg (m - k - 1)
            case rel => exact ⟨k + 1, L.take d ++ k :: L.drop d, g11, cp11, by omega, by go_num, by rw [HN.out], hLl, ⟨hLlt, hLnd⟩, HO.out, D11.out⟩
            case measure => omega
        · refine R3.tree_one rfl (by kernel_rfl) (fun K1 hK1 => ?_)
          go_simp
          refine hK1.out _ _ trivial (R3.tree_lay (a' := ?_) ?_ ?_)
          rotate_left 1
          · (try simp only [Act.put, List.getElem_toArray, List.getElem_cons_succ, List.getElem_cons_zero, List.setIfInBounds_toArray, List.set_cons_zero, List.set_cons_succ])
            try rfl
          clear hK1 K1
          refine R3.tree_one rfl (by kernel_rfl) (fun K1 hK1 => ?_)
          go_simp
          refine hK1.out _ _ trivial (R3.tree_lay (a' := ?_) ?_ ?_)
          rotate_left 1
          · (try simp only [Act.put, List.getElem_toArray, List.getElem_cons_succ, List.getElem_cons_zero, List.setIfInBounds_toArray, List.set_cons_zero, List.set_cons_succ])
            try rfl
          clear hK1 K1
          refine R3.tree_one rfl (by kernel_rfl) (fun K1 hK1 => ?_)
          refine R3.wp_app (.tmp 19) (.tmp 22) 24 (by rfl) V.heap.size 3 i0 (.int .i64 0) 1 8 Tryd.underlying24 hi hz0 hz1 hz2 rfl (by decide) _ 0 [] (by rfl) (own_zero2 V _) ⟨g, 0, none⟩ d _ (intsV (natsI (L.take d))) (by rfl) (by simp [intsV_len, natsI_len, List.length_take]; omega) (LRow.news (take_row ((L3.out.alloc _).alloc _))) (ints_oneCell .i64 _) (by unfold maxLen; omega) (by omega) (by first | (simp; done) | (simp; omega)) (fun v4 w4 ho hg => ?_)
          have O4 := Lib.hid (show w4.ownsRow V.heap.size 3 1 v4 d (intsV (natsI (L.take d))) from by simpa using ho)
          have X4 := Lib.hid (((Bx.new V 3 #[.int .i64 (k : Nat)]).alloc (.cells #[] 3)).grown hg (by simp [Value.ownBlock]))
          have B4 := Lib.hid ((((Below.refl V.heap.size V).alloc (Nat.le_refl _) (.cells #[.int .i64 (k : Nat)] 3)).alloc (by simp) (.cells #[] 3)).grown hg (by simp; omega) (fun j hj => by simp [Value.ownBlock] at hj; omega))
          clear ho hg
          refine hK1.out _ _ trivial (R3.tree_lay (a' := ?_) ?_ ?_)
          rotate_left 1
          · (try simp only [Act.put, List.getElem_toArray, List.getElem_cons_succ, List.getElem_cons_zero, List.setIfInBounds_toArray, List.set_cons_zero, List.set_cons_succ])
            try rfl
          clear hK1 K1
          refine R3.tree_one rfl (by kernel_rfl) (fun K1 hK1 => ?_)
          refine R3.wp_app (.tmp 23) (.tmp 25) 24 (by rfl) V.heap.size 3 i0 (.int .i64 0) 1 8 Tryd.underlying24 hi hz0 hz1 hz2 rfl (by decide) _ d (intsV (natsI (L.take d))) (by rfl) O4.out ⟨V.heap.size, 0, none⟩ 1 1 [.int .i64 (k : Nat)] (by rfl) rfl (World.news_of_block (cs := #[.int .i64 (k : Nat)]) X4.out) (ints_oneCell .i64 [((k : Nat) : Int)]) (by unfold maxLen; omega) (by omega) B4.out.size (fun v7 w7 ho hg => ?_)
          have O7 := Lib.hid ho
          have B7 := Lib.hid (B4.out.grown hg B4.out.size (fun j hj => (O4.out.lt j hj).1))
          clear ho hg
          refine hK1.out _ _ trivial (R3.tree_lay (a' := ?_) ?_ ?_)
          rotate_left 1
          · (try simp only [Act.put, List.getElem_toArray, List.getElem_cons_succ, List.getElem_cons_zero, List.setIfInBounds_toArray, List.set_cons_zero, List.set_cons_succ])
            try rfl
          clear hK1 K1
          refine R3.tree_one rfl (by kernel_rfl) (fun K1 hK1 => ?_)
          refine R3.wp_app (.tmp 26) (.tmp 29) 24 (by rfl) V.heap.size 3 i0 (.int .i64 0) 1 8 Tryd.underlying24 hi hz0 hz1 hz2 rfl (by decide) _ (d + 1) ((intsV (natsI (L.take d))) ++ [.int .i64 (k : Nat)]) (by rfl) O7.out ⟨g, d, none⟩ (L.length - d) _ (intsV (natsI (L.drop d))) (by rfl) (by simp [intsV_len, natsI_len]) (HRest.out _ B7.out) (ints_oneCell .i64 _) (by unfold maxLen; omega) (by omega) B7.out.size (fun v11 w11 ho hg => ?_)
          have O11 := Lib.hid ho
          have B11 := Lib.hid (B7.out.grown hg B7.out.size (fun j hj => (O7.out.lt j hj).1))
          obtain ⟨g11, cp11, rfl⟩ := own_shape ho (by omega)
          clear ho hg
          refine hK1.out _ _ trivial (R3.tree_lay (a' := ?_) ?_ ?_)
          rotate_left 1
          · (try simp only [Act.put, List.getElem_toArray, List.getElem_cons_succ, List.getElem_cons_zero, List.setIfInBounds_toArray, List.set_cons_zero, List.set_cons_succ])
            try rfl
          clear hK1 K1
          refine R3.tree_take (v := ?_) (a' := ?_) rfl (by kernel_rfl) ?_ rfl ?_ ?_
          rotate_left 2
          · intro w hSw
            clear hSw
            go_simp
            try with_reducible rfl
          · (try simp only [Act.put, List.setIfInBounds_toArray, List.set_cons_zero, List.set_cons_succ])
            try rfl
          refine R3.tree_done (hQ1.out _ _ ?_)
          have D11 := Lib.hid (D3.out.call B11.out)
          obtain ⟨O12, hLl, hLlt, hLnd⟩ := Hnext.out _ _ _ O11.out
          have HO := Lib.hid O12
          clear O12
          have hn1 : (L.take d ++ k :: L.drop d).length = d + 1 + (L.length - d) := by simp; omega
          have HN := Lib.hid hn1
          clear hn1
          go_wp2_with fail
          go_roundg (m - k - 1)
          case rel => exact ⟨k + 1, L.take d ++ k :: L.drop d, g11, cp11, by omega, by go_num, by rw [HN.out], hLl, ⟨hLlt, hLnd⟩, HO.out, D11.out⟩
          case measure => omega
    · have hki : ¬ (k : Int) < (m : Int) := by omega
      obtain rfl : m = k := by omega
      have HL := Lib.hid hL
      clear hL
      go_wp2_with fail
      go_ret
      exact ⟨⟨L, g, cp, rfl, HL.out, Hlt.out.1, Hlt.out.2, O1.out, D1.out.rd⟩, D1.out.gr⟩

end Go.Proofs.YtgnmlijfenjehaaDoor
