/-
  Laws of the functions that the claim reaches, one after the other (packed by a program of the prover's: Draw7, Draw10, FmDraw3, FmDraw5, Own, Hold4, LL, PtP, Lists, PtV, PtsI, SameI, SetP, DSetS). Conditions: texts below the reach.
-/
import Derived.Test.YteonanaihklgmaaDoorPp2
import Derived.Test.YteonanaihklgmaaDoorPp10
import Derived.Test.YteonanaihklgmaaDoorPp7
import Derived.Deep.AppendLies
import Derived.Test.YteonanaihklgmaaDoorPp8
import Derived.Test.YteonanaihklgmaaDoorPp0
import Derived.Test.YteonanaihklgmaaDoorPp3
import Derived.StillTailTactics
import Derived.Test.YteonanaihklgmaaDoorPp9
set_option linter.unusedSimpArgs false
set_option linter.unusedVariables false

namespace Go.Proofs.YteonanaihklgmaaDoor
open Go.RowKit
open Pl
set_option linter.unusedSimpArgs false
set_option linter.unusedVariables false

attribute [local go_sem ↓] Go.wp_at_zero Go.wp_at_succ

/-- a row of one's own behind a call that draws -/
theorem own_dw {W W' : World} {base rb n : Nat} {e : TypeId} {v : Value} {xs : List Value} (h : W.ownsRow base e 1 v n xs) (hg : W.grownBy W' (some rb)) (hrb : rb < base) : W'.ownsRow base e 1 v n xs := by
  obtain ⟨h1, h2⟩ := h
  refine ⟨h1, h2.imp id fun ⟨g, c, cur, hv, hb, hh, hr⟩ => ⟨g, c, cur, hv, hb, ?_, hr⟩⟩
  exact (hg.block g (Array.getElem?_eq_some_iff.1 hh).1 (by simp; omega)).trans hh
theorem own_cap {W : World} {base n g cp : Nat} {e : TypeId} {xs : List Value} (h : W.ownsRow base e 1 (.slice (some ⟨g, 0, none⟩) n cp) n xs) : n ≤ cp ∧ cp ≤ maxLen ∧ base ≤ g ∧ g < W.heap.size := by
  obtain ⟨_, ⟨h0, _⟩ | ⟨g', c, cur, hv, hb, hh, hn, hm, _⟩⟩ := h
  · cases h0
  · injection hv with h1 h2 h3
    injection h1 with h1
    injection h1 with h1
    subst h1; subst h3
    exact ⟨hn, hm, hb, (Array.getElem?_eq_some_iff.1 hh).1⟩
/-- the rest of a list, from an index on -/
theorem rest_cells {w : World} {g d : Nat} {L : List Nat} (h : LRow w (some ⟨g, 0, none⟩) (natsI L)) : ∀ j u, (intsV (natsI (L.drop d)))[j]? = some u → w.cell? ((⟨g, d, none⟩ : Addr).add j) = some u := by
  intro j u hj
  have hl : d + j < L.length := by
    have := (List.getElem?_eq_some_iff.1 hj).1
    simp [intsV, natsI] at this
    omega
  have h2 := LRow.news h (d + j) u (by
    rw [← hj]
    simp [intsV, natsI])
  have e1 : ((⟨g, d, none⟩ : Addr).add j) = ⟨g, d + j, none⟩ := by
    rcases Nat.eq_zero_or_pos j with h0 | h0
    · subst h0; rfl
    · simp [Addr.add]; omega
  have e2 : ((⟨g, 0, none⟩ : Addr).add (d + j)) = ⟨g, d + j, none⟩ := by
    rcases Nat.eq_zero_or_pos (d + j) with h0 | h0
    · rw [h0]; rfl
    · simp [Addr.add]; omega
  rw [e1, ← e2]
  exact h2

theorem own_low {w : World} {base base' n : Nat} {e : TypeId} {v : Value} {xs : List Value} (h : w.ownsRow base e 1 v n xs) (hb : base' ≤ base) : w.ownsRow base' e 1 v n xs :=
  ⟨h.1, h.2.imp (fun h => h) fun ⟨g, c, cur, h1, h2, h3⟩ => ⟨g, c, cur, h1, by omega, h3⟩⟩
theorem own_shape {w : World} {base n : Nat} {e : TypeId} {v : Value} {xs : List Value} (h : w.ownsRow base e 1 v n xs) (hn : 0 < n) : ∃ g cap, v = .slice (some ⟨g, 0, none⟩) n cap := by
  obtain ⟨_, ⟨_, h0⟩ | ⟨g, cap, _, hv, _⟩⟩ := h
  · omega
  · exact ⟨g, cap, hv⟩
theorem own_zero2 (w : World) (o : Obj) : ((w.alloc o).alloc (.cells #[] 3)).ownsRow w.heap.size 3 1 (.slice (some ⟨w.heap.size + 1, 0, none⟩) 0 0) 0 [] := by
  have h := own_zero (w.alloc o)
  rw [World.size_alloc] at h
  exact own_low h (Nat.le_succ _)
theorem take_row {w : World} {A : Option Addr} {L : List Nat} {d : Nat} (h : LRow w A (natsI L)) : LRow w A (natsI (L.take d)) := by
  have := h.take d
  unfold natsI at *
  rwa [List.map_take]
theorem next_order {W : World} {b b2 d k g cp : Nat} {L : List Nat} (hd : d ≤ L.length) (hL : L.length = k) (hlt : ∀ x ∈ L, x < k) (hnd : L.Nodup) (hb : b ≤ b2)
    (h : W.ownsRow b2 3 1 (.slice (some ⟨g, 0, none⟩) (d + 1 + (L.length - d)) cp) (d + 1 + (L.length - d)) ((intsV (natsI (L.take d))) ++ [.int .i64 (k : Nat)] ++ (intsV (natsI (L.drop d))))) :
    W.ownsRow b 3 1 (.slice (some ⟨g, 0, none⟩) (L.take d ++ k :: L.drop d).length cp) (L.take d ++ k :: L.drop d).length (intsV (natsI (L.take d ++ k :: L.drop d))) ∧ (L.take d ++ k :: L.drop d).length = k + 1 ∧ (∀ x ∈ L.take d ++ k :: L.drop d, x < k + 1) ∧ (L.take d ++ k :: L.drop d).Nodup := by
  have hn : (L.take d ++ k :: L.drop d).length = d + 1 + (L.length - d) := by simp; omega
  have hp : (L.take d ++ k :: L.drop d).Perm (k :: L) := by
    have := List.perm_middle (a := k) (l₁ := L.take d) (l₂ := L.drop d)
    rwa [List.take_append_drop] at this
  refine ⟨?_, by rw [hn]; omega, fun x hx => ?_, ?_⟩
  · rw [hn]
    have e : intsV (natsI (L.take d ++ k :: L.drop d)) = (intsV (natsI (L.take d))) ++ [.int .i64 (k : Nat)] ++ (intsV (natsI (L.drop d))) := by simp [intsV, natsI]
    rw [e]
    exact own_low h hb
  · rcases List.mem_cons.1 (hp.mem_iff.1 hx) with rfl | h2
    · omega
    · have := hlt x h2; omega
  · rw [hp.nodup_iff]
    exact List.nodup_cons.2 ⟨fun h2 => by have := hlt k h2; omega, hnd⟩

theorem next_order0 {W : World} {b b2 d k g cp : Nat} {L : List Nat} (hd : L.length = d) (hL : L.length = k) (hlt : ∀ x ∈ L, x < k) (hnd : L.Nodup) (hb : b ≤ b2)
    (h : W.ownsRow b2 3 1 (.slice (some ⟨g, 0, none⟩) (d + 1 + 0) cp) (d + 1 + 0) ((intsV (natsI (L.take d))) ++ [.int .i64 (k : Nat)] ++ [])) :
    W.ownsRow b 3 1 (.slice (some ⟨g, 0, none⟩) (L.take d ++ k :: L.drop d).length cp) (L.take d ++ k :: L.drop d).length (intsV (natsI (L.take d ++ k :: L.drop d))) ∧ (L.take d ++ k :: L.drop d).length = k + 1 ∧ (∀ x ∈ L.take d ++ k :: L.drop d, x < k + 1) ∧ (L.take d ++ k :: L.drop d).Nodup := by
  refine next_order (by omega) hL hlt hnd hb ?_
  have e : L.length - d = 0 := by omega
  have e2 : (intsV (natsI (L.drop d))) = [] := by rw [List.drop_of_length_le (by omega)]; rfl
  rw [e, e2]
  exact h

/-- an order that is drawn -/
def ShufS (w : World) (rb : Nat) (A : Option Addr) (n cap p m : Nat) (e : Ending) (w' : World) : Prop := ∃ (L : List Nat) (g cp : Nat), e = .returned (.slice (some ⟨g, 0, none⟩) L.length cp) ∧ L.length = m ∧ (∀ x ∈ L, x < m) ∧ L.Nodup ∧
  w'.ownsRow w.heap.size 3 1 (.slice (some ⟨g, 0, none⟩) L.length cp) L.length (intsV (natsI L)) ∧ Rd w' rb A n cap (p + m)

end Go.Proofs.YteonanaihklgmaaDoor

namespace Go.Proofs.YteonanaihklgmaaDoor
open Go.RowKit
open Pl
set_option linter.unusedSimpArgs false
set_option linter.unusedVariables false

attribute [local go_sem ↓] Go.wp_at_zero Go.wp_at_succ

/-- the reader where a row of another block grows -/
theorem Rd.app {V V' : World} {rb n cap p : Nat} {A : Option Addr} {row : Option Nat} (h : Rd V rb A n cap p) (hg : V.grownBy V' row) (hr : ∀ j, row = some j → rb < j) : Rd V' rb A n cap p := by
  have hlt := h.box.lt
  refine ⟨h.box.grown' hg (fun e => by have := hr rb e.symm; omega), ?_, h.small, h.sep⟩
  intro h0
  obtain ⟨x, rfl, hc⟩ := h.row h0
  have hx := h.sep h0 x rfl
  refine ⟨x, rfl, fun i hi => ?_⟩
  obtain ⟨b, hb, hcell⟩ := hc i hi
  refine ⟨b, hb, ?_⟩
  rw [← hcell]
  have hbl : (x.add i).block = x.block := by unfold Addr.add; split <;> rfl
  exact World.cell?_of_block (by rw [hbl]; exact hg.block x.block (by omega) (fun e => by have := hr x.block e.symm; omega))
theorem Fr.app {w V V' : World} {rb n cap p : Nat} {A : Option Addr} {row : Option Nat} (h : Fr w rb A n cap p V) (hg : V.grownBy V' row) (hr : ∀ j, row = some j → rb < j) : Fr w rb A n cap p V' :=
  ⟨h.rd.app hg hr, h.bel.grown hg h.bel.size (fun j hj => by have := hr j hj; have := h.rge; omega), h.rge⟩
/-- the first of a row -/
theorem own_first {W : World} {base n n' g cp : Nat} {e : TypeId} {xs : List Value} (h : W.ownsRow base e 1 (.slice (some ⟨g, 0, none⟩) n cp) n xs) (hn : n' ≤ n) : W.ownsRow base e 1 (.slice (some ⟨g, 0, none⟩) n' cp) n' (xs.take n') := by
  obtain ⟨h1, ⟨h0, _⟩ | ⟨g', c, cur, hv, hb, hh, hle, hm, hs, hx⟩⟩ := h
  · cases h0
  · refine ⟨by rw [List.length_take, h1]; omega, .inr ⟨g', c, cur, ?_, hb, hh, ?_, hm, hs, ?_⟩⟩
    · injection hv with e1 e2 e3
      rw [e1, e3]
    · omega
    · rw [← hx, List.take_take]
      congr 1
      omega
theorem intsV_take (zs : List Int) (k : Nat) : (intsV zs).take k = intsV (zs.take k) := by unfold intsV; rw [List.map_take]

/-- a structure and some numbers that are drawn -/
def StL (e : Ending) (w' : World) : Prop := ∃ (i : Int) (s r : ByteArray) (zs : List Int) (A : Option Addr) (c : Nat), e = .returned (.tuple #[stV i s r, .slice A zs.length c]) ∧ s.size ≤ 100 ∧ r.size ≤ 100 ∧ zs.length ≤ 10 ∧ zs.length ≤ c ∧ LRow w' A zs

end Go.Proofs.YteonanaihklgmaaDoor

namespace Go.Proofs.YteonanaihklgmaaDoor
open Go.RowKit
open Pl
set_option linter.unusedSimpArgs false
set_option linter.unusedVariables false

attribute [local go_sem ↓] Go.wp_at_zero Go.wp_at_succ

theorem txt_small (l : List UInt8) : (txtV l freeT).size ≤ 4 := by
  unfold txtV
  split
  · split
    · rw [bs_size]; exact varsL_len _ _
    · rw [bs_size]; simp
  · rw [bs_size]; simp

set_option maxHeartbeats 8000000 in
set_option maxRecDepth 100000 in
theorem l3Small_calls (rb : Nat) (A : Option Addr) (n cap p : Nat) (vs : ByteArray) (hv2 : 2 ≤ vs.size) (hv4 : vs.size ≤ 4) (w : World) (h : Rd w rb A n cap p) (hp : p ≤ 100000) :
    Calls Tryd.prog 43 #[.pointer (some ⟨rb, 0, none⟩), .string vs] w fun e w' => (∃ (i : Int) (s r t : ByteArray) (p' : Nat), e = .returned (.tuple #[stV i s r, .string t]) ∧ s.size ≤ 100 ∧ r.size ≤ 100 ∧ t.size ≤ 72 ∧ p' ≤ p + 800 ∧ Rd w' rb A n cap p') ∧ w.grownBy w' (some rb) := by
  have Hpk := Lib.hid (show ∀ (k : Int) (q : Nat) (V : World), k ≤ 1000 → q ≤ 1000000000000 → Rd V rb A n cap q → Calls Tryd.prog 44 #[.pointer (some ⟨rb, 0, none⟩), .int .i64 k] V fun e w' => PickP k e ∧ Rd w' rb A n cap (q + 1) ∧ V.grownBy w' (some rb) from fun k q V hk hq hr => pick_calls rb A n cap q k V hr (by omega) (by omega))
  have D0 := Lib.hid ((Dw.new h).alloc (.cells #[.int .i64 0, .string (bs []), .string (bs [])] 27))
  have X0 := Lib.hid (Bx.new w 27 #[.int .i64 0, .string (bs []), .string (bs [])])
  have hrl := h.box.lt
  clear h
  go_enter Tryd.func43, Tryd.ntmps43
  go_wp2_with fail
  refine (l1Open_calls rb A n cap p _ D0.out.rd (by omega)).mono ?_
  rintro e w1 ⟨⟨i, s, r, p1, rfl, _, hs, hr, hp1, hrd⟩, hg⟩
  have D1 := Lib.hid ((D0.out.step hrd hg).alloc (.cells #[.int .i64 i, .string s, .string r] 27))
  have X1 := Lib.hid ((X0.out.dw hg hrl).alloc (.cells #[.int .i64 i, .string s, .string r] 27))
  have Y1 := Lib.hid (Bx.new w1 27 #[.int .i64 i, .string s, .string r])
  have hws := (X0.out.dw hg hrl).lt
  have hrl1 : rb < w1.heap.size := by omega
  clear hrd hg
  go_wp2_with fail
  refine (Hpk.out 3 (p1) _ (by omega) (by omega) D1.out.rd).mono ?_
  rintro e w2 ⟨⟨m, rfl, m0, m1, _⟩, hr, hg⟩
  have D2 := Lib.hid (D1.out.step hr hg)
  have X2 := Lib.hid (X1.out.dw hg hrl)
  have Y2 := Lib.hid (Y1.out.dw hg hrl1)
  clear hr hg
  have m4 := m1 (by omega)
  clear m1
  go_wp2_with fail
  refine (Hpk.out 2 (p1 + 1) _ (by omega) (by omega) D2.out.rd).mono ?_
  rintro e w3 ⟨⟨b, rfl, b0, b1, _⟩, hr, hg⟩
  have D3 := Lib.hid (D2.out.step hr hg)
  have X3 := Lib.hid (X2.out.dw hg hrl)
  have Y3 := Lib.hid (Y2.out.dw hg hrl1)
  clear hr hg
  clear b1
  go_wp2_with fail
  refine (l2Draw_at rb A n cap (p1 + 1 + 1) vs (by omega) hv4 _ (1 + m) (by omega) (by omega) _ D3.out.rd (by omega)).mono ?_
  rintro e w4 ⟨⟨t, p4, rfl, t0, t1, hp4, hrd⟩, hg⟩
  have D4 := Lib.hid (D3.out.step hrd hg)
  have X4 := Lib.hid (X3.out.dw hg hrl)
  have Y4 := Lib.hid (Y3.out.dw hg hrl1)
  clear hrd hg
  go_wp2_with fail
  refine (FreeVars_spec t _ (by unfold maxLen; omega)).mono ?_
  rintro e w5 ⟨rfl, rfl⟩
  obtain ⟨V, hV⟩ : ∃ V, V = txtV t.data.toList freeT := ⟨_, rfl⟩
  have hVs : V.size ≤ 4 := by rw [hV]; exact txt_small _
  rw [← hV]
  clear hV
  go_wp2_with fail
  refine (Hpk.out 12 (p4) _ (by omega) (by omega) D4.out.rd).mono ?_
  rintro e w6 ⟨⟨x, rfl, x0, x1, _⟩, hr, hg⟩
  have D6 := Lib.hid (D4.out.step hr hg)
  have X6 := Lib.hid (X4.out.dw hg hrl)
  have Y6 := Lib.hid (Y4.out.dw hg hrl1)
  clear hr hg
  clear x1
  by_cases hx : 0 < x
  · go_wp2_with fail
    go_loopg [7, 9] (4 - vs.size) (fun c tv kv wr => ∃ (k : Nat) (t : ByteArray), k + c = 4 ∧ vs.size ≤ k ∧ kv = .int .i64 (k : Nat) ∧ tv = .string t ∧ 0 < t.size ∧ t.size ≤ 63 + 2 * k ∧ w6 = wr)
    case atStart => exact ⟨vs.size, t, by omega, Nat.le_refl _, rfl, rfl, t0, by omega, rfl⟩
    case round =>
      obtain ⟨k, t, hk, hvk, rfl, rfl, t0, t1, rfl⟩ := hrel
      by_cases hlt : k < 4
      · have hfc := fun W (c : UInt8) => l15Find_calls V c W (by unfold maxLen; omega)
        have Hfc := Lib.hid hfc
        clear hfc
        go_wp2_with fail
        refine (Hfc.out _ _).mono ?_
        rintro e w7 ⟨rfl, rfl⟩
        generalize findB _ _ = F
        by_cases hF : 0 ≤ F
        · go_wp2_with fail
          go_roundg (4 - k - 1)
          case rel => exact ⟨k + 1, _, by omega, by omega, by go_num, rfl, by simp only [ByteArray.size_append, ByteArray.size_extract]; omega, by simp only [ByteArray.size_append, ByteArray.size_extract]; have : (ByteArray.mk #[83]).size = 1 := rfl; omega, rfl⟩
          case measure => omega
        · go_wp2_with fail
          go_roundg (4 - k - 1)
          case rel => exact ⟨k + 1, t, by omega, by omega, by go_num, rfl, t0, by omega, rfl⟩
          case measure => omega
      · obtain rfl : k = 4 := by omega
        have hgk : gk = 0 := by omega
        subst hgk
        have D50 := Lib.hid D6.out.drew
        have X50 := Lib.hid (show Bx w6.drew w.heap.size 27 #[.int .i64 0, .string (bs []), .string (bs [])] from X6.out)
        have Y50 := Lib.hid (show Bx w6.drew w1.heap.size 27 #[.int .i64 i, .string s, .string r] from Y6.out)
        obtain ⟨m0, m1, m2⟩ := box_load Y50.out
        go_upto_region 10 with (fail)
        refine region_sched [(0, true), (1, true), (2, true), (3, false), (4, false), (5, true)] (fun w' : World => w'.cell? ⟨w1.heap.size, 0, none⟩ = some (.int .i64 i) ∧ w'.cell? ⟨w1.heap.size, 1, none⟩ = some (.string s) ∧ w'.cell? ⟨w1.heap.size, 2, none⟩ = some (.string r)) (by kernel_rfl) (by kernel_rfl) (by kernel_rfl) (by kernel_rfl) (fun _ _ _ _ h => h) ?_ (fun Q1 hQ1 => ?_)
        · exact ⟨m0, m1, m2⟩
        try simp only [List.append]
        refine sched_take' (v := .agg #[.int .i64 i, .string s, .string r]) (a' := ?_) rfl (by kernel_rfl) ?_ rfl ?_ ?_
        rotate_left 1
        · intro w hSw
          (try dsimp only at hSw)
          go_simp
          first | done | (obtain ⟨u0, u1, u2⟩ := hSw; simp [u0, u1, u2])
        · (try simp only [Act.put, List.setIfInBounds_toArray, List.set_cons_zero, List.set_cons_succ])
          try rfl
        refine sched_take' (v := ?_) (a' := ?_) rfl (by kernel_rfl) ?_ rfl ?_ ?_
        rotate_left 2
        · intro w hSw
          (try dsimp only at hSw)
          go_simp
          try with_reducible rfl
        · (try simp only [Act.put, List.setIfInBounds_toArray, List.set_cons_zero, List.set_cons_succ])
          try rfl
        refine sched_take' (v := ?_) (a' := ?_) rfl (by kernel_rfl) ?_ rfl ?_ ?_
        rotate_left 2
        · intro w hSw
          (try dsimp only at hSw)
          go_simp
          try with_reducible rfl
        · (try simp only [Act.put, List.setIfInBounds_toArray, List.set_cons_zero, List.set_cons_succ])
          try rfl
        refine sched_call rfl (by kernel_rfl) (fun K1 hK1 => ?_)
        go_simp
        refine (l2Bad_calls rb A n cap (p4 + 1) t (by omega) (by omega) _ D50.out.rd (by omega)).mono ?_
        rintro e w51 ⟨⟨tt, p51, rfl, tl, tp, hr⟩, hg⟩
        have D51 := Lib.hid (D50.out.step hr hg)
        have X51 := Lib.hid (X50.out.dw hg hrl)
        have Y51 := Lib.hid (Y50.out.dw hg hrl1)
        clear hr hg m0 m1 m2
        go_wp2_with fail
        refine hK1.out _ _ ?_ (sched_lay (a' := ?_) ?_ ?_)
        · exact box_load Y51.out
        rotate_left 1
        · (try simp only [Act.put, List.getElem_toArray, List.getElem_cons_succ, List.getElem_cons_zero, List.setIfInBounds_toArray, List.set_cons_zero, List.set_cons_succ])
          try rfl
        clear hK1 K1
        obtain ⟨c0, c1, c2⟩ := box_load X51.out
        have f0 := X51.out.free 0
        have f1 := X51.out.free 1
        have f2 := X51.out.free 2
        refine sched_call rfl (by kernel_rfl) (fun K1 hK1 => ?_)
        go_simp
        refine hK1.out _ _ ?_ (sched_lay (a' := ?_) ?_ ?_)
        · exact box_load (((Y51.out.far (p := ⟨w.heap.size, 0, none⟩) (by simp; omega) _).far (p := ⟨w.heap.size, 1, none⟩) (by simp; omega) _).far (p := ⟨w.heap.size, 2, none⟩) (by simp; omega) _)
        rotate_left 1
        · (try simp only [Act.put, List.getElem_toArray, List.getElem_cons_succ, List.getElem_cons_zero, List.setIfInBounds_toArray, List.set_cons_zero, List.set_cons_succ])
          try rfl
        clear hK1 K1
        refine sched_take' (v := ?_) (a' := ?_) rfl (by kernel_rfl) ?_ rfl ?_ ?_
        rotate_left 2
        · intro w hSw
          (try dsimp only at hSw)
          go_simp
          try with_reducible rfl
        · (try simp only [Act.put, List.setIfInBounds_toArray, List.set_cons_zero, List.set_cons_succ])
          try rfl
        refine sched_done (hQ1.out _ _ ?_)
        have D52 := Lib.hid (D51.out.puts (Nat.le_refl _) (.int .i64 i) (.string s) (.string r))
        obtain ⟨q0, q1, q2⟩ := box_load (X51.out.puts (.int .i64 i) (.string s) (.string r))
        go_wp2_with fail
        refine bodyPost_ret (v := .tuple #[stV i s r, .string tt]) ?_ rfl ⟨⟨i, s, r, tt, p51, rfl, hs, hr, by omega, by omega, D52.out.rd⟩, D52.out.gr⟩
        simp [results, Tryd.results43, go_sem, q0, q1, q2]
  ·
    have D50 := Lib.hid D6.out.drew
    have X50 := Lib.hid (show Bx w6.drew w.heap.size 27 #[.int .i64 0, .string (bs []), .string (bs [])] from X6.out)
    have Y50 := Lib.hid (show Bx w6.drew w1.heap.size 27 #[.int .i64 i, .string s, .string r] from Y6.out)
    obtain ⟨m0, m1, m2⟩ := box_load Y50.out
    go_upto_region 10 with (fail)
    refine region_sched [(0, true), (1, true), (2, true), (3, false), (4, false), (5, true)] (fun w' : World => w'.cell? ⟨w1.heap.size, 0, none⟩ = some (.int .i64 i) ∧ w'.cell? ⟨w1.heap.size, 1, none⟩ = some (.string s) ∧ w'.cell? ⟨w1.heap.size, 2, none⟩ = some (.string r)) (by kernel_rfl) (by kernel_rfl) (by kernel_rfl) (by kernel_rfl) (fun _ _ _ _ h => h) ?_ (fun Q1 hQ1 => ?_)
    · exact ⟨m0, m1, m2⟩
    try simp only [List.append]
    refine sched_take' (v := .agg #[.int .i64 i, .string s, .string r]) (a' := ?_) rfl (by kernel_rfl) ?_ rfl ?_ ?_
    rotate_left 1
    · intro w hSw
      (try dsimp only at hSw)
      go_simp
      first | done | (obtain ⟨u0, u1, u2⟩ := hSw; simp [u0, u1, u2])
    · (try simp only [Act.put, List.setIfInBounds_toArray, List.set_cons_zero, List.set_cons_succ])
      try rfl
    refine sched_take' (v := ?_) (a' := ?_) rfl (by kernel_rfl) ?_ rfl ?_ ?_
    rotate_left 2
    · intro w hSw
      (try dsimp only at hSw)
      go_simp
      try with_reducible rfl
    · (try simp only [Act.put, List.setIfInBounds_toArray, List.set_cons_zero, List.set_cons_succ])
      try rfl
    refine sched_take' (v := ?_) (a' := ?_) rfl (by kernel_rfl) ?_ rfl ?_ ?_
    rotate_left 2
    · intro w hSw
      (try dsimp only at hSw)
      go_simp
      try with_reducible rfl
    · (try simp only [Act.put, List.setIfInBounds_toArray, List.set_cons_zero, List.set_cons_succ])
      try rfl
    refine sched_call rfl (by kernel_rfl) (fun K1 hK1 => ?_)
    go_simp
    refine (l2Bad_calls rb A n cap (p4 + 1) t (by omega) (by omega) _ D50.out.rd (by omega)).mono ?_
    rintro e w51 ⟨⟨tt, p51, rfl, tl, tp, hr⟩, hg⟩
    have D51 := Lib.hid (D50.out.step hr hg)
    have X51 := Lib.hid (X50.out.dw hg hrl)
    have Y51 := Lib.hid (Y50.out.dw hg hrl1)
    clear hr hg m0 m1 m2
    go_wp2_with fail
    refine hK1.out _ _ ?_ (sched_lay (a' := ?_) ?_ ?_)
    · exact box_load Y51.out
    rotate_left 1
    · (try simp only [Act.put, List.getElem_toArray, List.getElem_cons_succ, List.getElem_cons_zero, List.setIfInBounds_toArray, List.set_cons_zero, List.set_cons_succ])
      try rfl
    clear hK1 K1
    obtain ⟨c0, c1, c2⟩ := box_load X51.out
    have f0 := X51.out.free 0
    have f1 := X51.out.free 1
    have f2 := X51.out.free 2
    refine sched_call rfl (by kernel_rfl) (fun K1 hK1 => ?_)
    go_simp
    refine hK1.out _ _ ?_ (sched_lay (a' := ?_) ?_ ?_)
    · exact box_load (((Y51.out.far (p := ⟨w.heap.size, 0, none⟩) (by simp; omega) _).far (p := ⟨w.heap.size, 1, none⟩) (by simp; omega) _).far (p := ⟨w.heap.size, 2, none⟩) (by simp; omega) _)
    rotate_left 1
    · (try simp only [Act.put, List.getElem_toArray, List.getElem_cons_succ, List.getElem_cons_zero, List.setIfInBounds_toArray, List.set_cons_zero, List.set_cons_succ])
      try rfl
    clear hK1 K1
    refine sched_take' (v := ?_) (a' := ?_) rfl (by kernel_rfl) ?_ rfl ?_ ?_
    rotate_left 2
    · intro w hSw
      (try dsimp only at hSw)
      go_simp
      try with_reducible rfl
    · (try simp only [Act.put, List.setIfInBounds_toArray, List.set_cons_zero, List.set_cons_succ])
      try rfl
    refine sched_done (hQ1.out _ _ ?_)
    have D52 := Lib.hid (D51.out.puts (Nat.le_refl _) (.int .i64 i) (.string s) (.string r))
    obtain ⟨q0, q1, q2⟩ := box_load (X51.out.puts (.int .i64 i) (.string s) (.string r))
    go_wp2_with fail
    refine bodyPost_ret (v := .tuple #[stV i s r, .string tt]) ?_ rfl ⟨⟨i, s, r, tt, p51, rfl, hs, hr, by omega, by omega, D52.out.rd⟩, D52.out.gr⟩
    simp [results, Tryd.results43, go_sem, q0, q1, q2]


/-- a structure, a text and a width that are drawn -/
def StFW (e : Ending) : Prop := ∃ (i : Int) (s r t : ByteArray) (x : Int), e = .returned (.tuple #[stV i s r, .string t, .int .i64 x]) ∧ s.size ≤ 100 ∧ r.size ≤ 100 ∧ t.size ≤ 72 ∧ -1 ≤ x ∧ x ≤ 4
theorem num_le4 {m : Int} (h : m ∈ [-1, 4, 0, 1]) : -1 ≤ m ∧ m ≤ 4 := by
  simp only [List.mem_cons, List.not_mem_nil, or_false] at h
  omega

end Go.Proofs.YteonanaihklgmaaDoor

namespace Go.Proofs.YteonanaihklgmaaDoor
open Go.RowKit
open Pl
set_option linter.unusedSimpArgs false
set_option linter.unusedVariables false

attribute [local go_sem ↓] Go.wp_at_zero Go.wp_at_succ

/-- a structure and two texts that are drawn -/
def StFG (e : Ending) : Prop := ∃ (i : Int) (s r t t2 : ByteArray), e = .returned (.tuple #[stV i s r, .string t, .string t2]) ∧ s.size ≤ 100 ∧ r.size ≤ 100 ∧ t.size ≤ 72 ∧ t2.size ≤ 144
/-- a structure and a text that are drawn -/
def StF (e : Ending) : Prop := ∃ (i : Int) (s r t : ByteArray), e = .returned (.tuple #[stV i s r, .string t]) ∧ s.size ≤ 100 ∧ r.size ≤ 100 ∧ t.size ≤ 72
theorem pushed_small (t : ByteArray) (ht : t.size ≤ 72) : (optV t.data.toList pushO).1.size ≤ 144 := by
  rcases fm_cases t with ⟨_, h⟩ | ⟨f, hb, hf, hs, hl⟩
  · rw [optV_no _ h, bs_size]; simp
  · have hp := pushL_le false f
    rw [← hf, ← Lib.size_eq] at hp
    rw [optV_yes (t := pushL false f) pushO hf (by rw [hf]; exact hl) rfl (by omega), bs_size]
    omega

set_option maxHeartbeats 8000000 in
set_option maxRecDepth 100000 in
theorem DrawSameIn_calls (A : Option Addr) (n cap : Nat) (w : World) (h : ByRow w A n) (hn : n ≤ 1048576) (hc : n ≤ cap) (hm : cap ≤ maxLen) :
    Calls Tryd.prog 16 #[.slice A n cap] w fun e w' => StFG e ∧ Below w.heap.size w w' := by
  have Ho := Lib.hid (fun W h => l15Open_calls A n cap W h hn hc hm)
  have H0 := Lib.hid (h.call ((Below.refl w.heap.size w).alloc (Nat.le_refl _) (.cells #[.int .i64 0, .string (bs []), .string (bs [])] 27)))
  have X0 := Lib.hid (Bx.new w 27 #[.int .i64 0, .string (bs []), .string (bs [])])
  have B0 := Lib.hid ((Below.refl w.heap.size w).alloc (Nat.le_refl _) (.cells #[.int .i64 0, .string (bs []), .string (bs [])] 27))
  clear h hn hc hm
  go_enter Tryd.func16, Tryd.ntmps16
  go_wp2_with fail
  refine (Ho.out _ H0.out).mono ?_
  rintro e w1 ⟨⟨A', n', cap', rfl, hr⟩, hb⟩
  have F1 := Lib.hid (Fr.new (rb := w.heap.size + 1) B0.out hr hb (by simp))
  have X1 := Lib.hid (X0.out.call hb)
  have hws := F1.out.rd.box.lt
  clear hr hb
  have Hpk := Lib.hid (show ∀ (k : Int) (q : Nat) (V : World), k ≤ 1000 → q ≤ 1000000000000 → Rd V (w.heap.size + 1) A' n' cap' q → Calls Tryd.prog 44 #[.pointer (some ⟨(w.heap.size + 1), 0, none⟩), .int .i64 k] V fun e w' => PickP k e ∧ Rd w' (w.heap.size + 1) A' n' cap' (q + 1) ∧ V.grownBy w' (some (w.heap.size + 1)) from fun k q V hk hq hr => pick_calls (w.heap.size + 1) A' n' cap' q k V hr (by omega) (by omega))
  have Hl3 := Lib.hid (fun (q : Nat) (W : World) (hq : q ≤ 100000) (h : Rd W (w.heap.size + 1) A' n' cap' q) => l3Small_calls (w.heap.size + 1) A' n' cap' q (⟨#[97, 98]⟩ : ByteArray) (by decide) (by decide) W h hq)
  go_wp2_with fail
  refine (Hl3.out _ _ (by omega) F1.out.rd).mono ?_
  rintro e wa ⟨⟨i, s, r, t, p5, rfl, hs, hr, ht, hp5, hrd⟩, hg⟩
  have F5 := Lib.hid (F1.out.step hrd hg)
  have X5 := Lib.hid (X1.out.grown' hg (by first | (simp; done) | (simp; omega)))
  clear hrd hg
  have HA := Lib.hid (show w.heap.size + 1 < wa.heap.size from F5.out.rd.box.lt)
  have F6 := Lib.hid (F5.out.alloc (.cells #[.int .i64 i, .string s, .string r] 27))
  have X6 := Lib.hid (X5.out.alloc (.cells #[.int .i64 i, .string s, .string r] 27))
  have Y6 := Lib.hid (Bx.new wa 27 #[.int .i64 i, .string s, .string r])
  go_wp2_with fail
  refine (Hpk.out 3 _ _ (by omega) (by omega) F6.out.rd).mono ?_
  rintro e w9 ⟨⟨m, rfl, _, _, _⟩, hrd, hg⟩
  have F9 := Lib.hid (F6.out.step hrd hg)
  have X9 := Lib.hid (X6.out.grown' hg (by first | (simp; done) | (simp; omega)))
  have Y9 := Lib.hid (Y6.out.grown' hg (by have := HA.out; simp; omega))
  clear hrd hg
  have HB := Lib.hid (show wa.heap.size < w9.heap.size from Y9.out.lt)
  by_cases e0 : m = 0
  · subst e0
    go_wp2_with fail
    refine (PushNot_spec t _ (by unfold maxLen; omega)).mono ?_
    rintro e w10 ⟨rfl, hz⟩
    have hpt := pushed_small t ht
    obtain ⟨g, hgg⟩ : ∃ g, g = (optV t.data.toList pushO).1 := ⟨_, rfl⟩
    obtain ⟨b, hbb⟩ : ∃ b, b = (optV t.data.toList pushO).2 := ⟨_, rfl⟩
    rw [← hgg] at hpt ⊢
    rw [← hbb]
    clear hgg hbb
    have F10 := Lib.hid (F9.out.call hz)
    have X10 := Lib.hid (X9.out.call hz)
    have Y10 := Lib.hid (Y9.out.call hz)
    clear hz
    cases b with
    | true =>
      obtain ⟨c0, c1, c2⟩ := box_load X10.out
      obtain ⟨m0, m1, m2⟩ := box_load Y10.out
      have f0 := X10.out.free 0
      have f1 := X10.out.free 1
      have f2 := X10.out.free 2
      have E1 := Lib.hid (below_puts F10.out.bel (Nat.le_refl _) (.int .i64 i) (.string s) (.string r))
      obtain ⟨q0, q1, q2⟩ := box_load (X10.out.puts (.int .i64 i) (.string s) (.string r))
      go_wp2_with fail
      refine bodyPost_ret (v := .tuple #[stV i s r, .string t, .string (g)]) ?_ rfl ⟨⟨i, s, r, t, _, rfl, hs, hr, ht, hpt⟩, E1.out⟩
      simp [results, Tryd.results16, go_sem, q0, q1, q2]
    | false =>
      clear F9 X9 Y9 HB
      have F9 := F10
      have X9 := X10
      have Y9 := Y10
      clear F10 X10 Y10
      go_wp2_with fail
      refine (Hl3.out _ _ (by omega) F9.out.rd).mono ?_
      rintro e wc ⟨⟨i2, s2, r2, t2, p8, rfl, _, _, ht2, hp8, hrd⟩, hg⟩
      have F11 := Lib.hid (F9.out.step hrd hg)
      have X11 := Lib.hid (X9.out.grown' hg (by first | (simp; done) | (simp; omega)))
      have Y11 := Lib.hid (Y9.out.grown' hg (by have := HA.out; simp; omega))
      clear hrd hg
      have HC := Lib.hid (show w.heap.size + 1 < wc.heap.size from F11.out.rd.box.lt)
      have HAC := Lib.hid (show wa.heap.size < wc.heap.size from Y11.out.lt)
      have F12 := Lib.hid (F11.out.alloc (.cells #[.int .i64 i2, .string s2, .string r2] 27))
      have X12 := Lib.hid (X11.out.alloc (.cells #[.int .i64 i2, .string s2, .string r2] 27))
      have Y12 := Lib.hid (Y11.out.alloc (.cells #[.int .i64 i2, .string s2, .string r2] 27))
      obtain ⟨c0, c1, c2⟩ := box_load X12.out
      obtain ⟨m0, m1, m2⟩ := box_load Y12.out
      have f0 := X12.out.free 0
      have f1 := X12.out.free 1
      have f2 := X12.out.free 2
      have E1 := Lib.hid (below_puts F12.out.bel (Nat.le_refl _) (.int .i64 i) (.string s) (.string r))
      obtain ⟨q0, q1, q2⟩ := box_load (X12.out.puts (.int .i64 i) (.string s) (.string r))
      go_wp2_with fail
      refine bodyPost_ret (v := .tuple #[stV i s r, .string t, .string (t2)]) ?_ rfl ⟨⟨i, s, r, t, _, rfl, hs, hr, ht, by omega⟩, E1.out⟩
      simp [results, Tryd.results16, go_sem, q0, q1, q2]
  · have f0 : (m == 0) = false := by rw [beq_eq_false_iff_ne]; exact e0
    go_wp2_with fail
    refine (Hl3.out _ _ (by omega) F9.out.rd).mono ?_
    rintro e wc ⟨⟨i2, s2, r2, t2, p8, rfl, _, _, ht2, hp8, hrd⟩, hg⟩
    have F11 := Lib.hid (F9.out.step hrd hg)
    have X11 := Lib.hid (X9.out.grown' hg (by first | (simp; done) | (simp; omega)))
    have Y11 := Lib.hid (Y9.out.grown' hg (by have := HA.out; simp; omega))
    clear hrd hg
    have HC := Lib.hid (show w.heap.size + 1 < wc.heap.size from F11.out.rd.box.lt)
    have HAC := Lib.hid (show wa.heap.size < wc.heap.size from Y11.out.lt)
    have F12 := Lib.hid (F11.out.alloc (.cells #[.int .i64 i2, .string s2, .string r2] 27))
    have X12 := Lib.hid (X11.out.alloc (.cells #[.int .i64 i2, .string s2, .string r2] 27))
    have Y12 := Lib.hid (Y11.out.alloc (.cells #[.int .i64 i2, .string s2, .string r2] 27))
    obtain ⟨c0, c1, c2⟩ := box_load X12.out
    obtain ⟨m0, m1, m2⟩ := box_load Y12.out
    have f0 := X12.out.free 0
    have f1 := X12.out.free 1
    have f2 := X12.out.free 2
    have E1 := Lib.hid (below_puts F12.out.bel (Nat.le_refl _) (.int .i64 i) (.string s) (.string r))
    obtain ⟨q0, q1, q2⟩ := box_load (X12.out.puts (.int .i64 i) (.string s) (.string r))
    go_wp2_with fail
    refine bodyPost_ret (v := .tuple #[stV i s r, .string t, .string (t2)]) ?_ rfl ⟨⟨i, s, r, t, _, rfl, hs, hr, ht, by omega⟩, E1.out⟩
    simp [results, Tryd.results16, go_sem, q0, q1, q2]


set_option maxHeartbeats 8000000 in
set_option maxRecDepth 100000 in
theorem DrawDefinedRel_calls (A : Option Addr) (n cap : Nat) (w : World) (h : ByRow w A n) (hn : n ≤ 1048576) (hc : n ≤ cap) (hm : cap ≤ maxLen) :
    Calls Tryd.prog 25 #[.slice A n cap] w fun e w' => StF e ∧ Below w.heap.size w w' := by
  have Ho := Lib.hid (fun W h => l15Open_calls A n cap W h hn hc hm)
  have H0 := Lib.hid (h.call ((Below.refl w.heap.size w).alloc (Nat.le_refl _) (.cells #[.int .i64 0, .string (bs []), .string (bs [])] 27)))
  have X0 := Lib.hid (Bx.new w 27 #[.int .i64 0, .string (bs []), .string (bs [])])
  have B0 := Lib.hid ((Below.refl w.heap.size w).alloc (Nat.le_refl _) (.cells #[.int .i64 0, .string (bs []), .string (bs [])] 27))
  clear h hn hc hm
  go_enter Tryd.func25, Tryd.ntmps25
  go_wp2_with fail
  refine (Ho.out _ H0.out).mono ?_
  rintro e w1 ⟨⟨A', n', cap', rfl, hr⟩, hb⟩
  have F1 := Lib.hid (Fr.new (rb := w.heap.size + 1) B0.out hr hb (by simp))
  have X1 := Lib.hid (X0.out.call hb)
  have hws := F1.out.rd.box.lt
  clear hr hb
  have Hl3 := Lib.hid (fun (q : Nat) (W : World) (hq : q ≤ 100000) (h : Rd W (w.heap.size + 1) A' n' cap' q) => l3Small_calls (w.heap.size + 1) A' n' cap' q (⟨#[97, 98]⟩ : ByteArray) (by decide) (by decide) W h hq)
  go_wp2_with fail
  refine (Hl3.out _ _ (by omega) F1.out.rd).mono ?_
  rintro e wa ⟨⟨i, s, r, t, p5, rfl, hs, hr, ht, hp5, hrd⟩, hg⟩
  have F5 := Lib.hid (F1.out.step hrd hg)
  have X5 := Lib.hid (X1.out.grown' hg (by first | (simp; done) | (simp; omega)))
  clear hrd hg
  obtain ⟨c0, c1, c2⟩ := box_load X5.out
  have f0 := X5.out.free 0
  have f1 := X5.out.free 1
  have f2 := X5.out.free 2
  have E1 := Lib.hid (below_puts F5.out.bel (Nat.le_refl _) (.int .i64 i) (.string s) (.string r))
  obtain ⟨q0, q1, q2⟩ := box_load (X5.out.puts (.int .i64 i) (.string s) (.string r))
  go_wp2_with fail
  refine bodyPost_ret (v := .tuple #[stV i s r, .string t]) ?_ rfl ⟨⟨i, s, r, t, rfl, hs, hr, ht⟩, E1.out⟩
  simp [results, Tryd.results25, go_sem, q0, q1, q2]

end Go.Proofs.YteonanaihklgmaaDoor

namespace Go.Proofs.YteonanaihklgmaaDoor
open Go.RowKit
open Pl
set_option linter.unusedSimpArgs false
set_option linter.unusedVariables false

/-- the elements below k that are marked -/
def rk (f : Nat → Bool) (k : Nat) : List Nat := (List.range k).filter f
theorem rk_succ (f : Nat → Bool) (k : Nat) : rk f (k + 1) = if f k then rk f k ++ [k] else rk f k := by
  unfold rk
  rw [List.range_succ, List.filter_append]
  cases h : f k <;> simp [h]
theorem rk_len (f : Nat → Bool) (k : Nat) : (rk f k).length ≤ k := by
  have := List.length_filter_le f (List.range k)
  simpa [rk] using this

theorem own_openZ {W : World} {base : Nat} {v : Value} {zs : List Int} (h : W.ownsRow base 3 1 v zs.length (intsV zs)) : ∃ A cap, v = .slice A zs.length cap ∧ zs.length ≤ cap ∧ LRow W A zs := by
  have h0 := h
  rcases h.2 with ⟨rfl, hn⟩ | ⟨g, cap, cur, rfl, _, _, hc, _⟩
  · exact ⟨none, 0, by rw [hn], by omega, fun hl => by omega⟩
  · exact ⟨some ⟨g, 0, none⟩, cap, rfl, hc, LRow_of h0⟩
theorem own_call {W W' : World} {base n : Nat} {e : TypeId} {v : Value} {xs : List Value} (h : W.ownsRow base e 1 v n xs) (hb : Below W.heap.size W W') : W'.ownsRow base e 1 v n xs := by
  obtain ⟨h1, h2⟩ := h
  refine ⟨h1, ?_⟩
  rcases h2 with h2 | ⟨g, c, cur, hv, hg, hh, hr⟩
  · exact .inl h2
  · exact .inr ⟨g, c, cur, hv, hg, (hb.block g (Array.getElem?_eq_some_iff.1 hh).1).trans hh, hr⟩
theorem own_others {W W' : World} {base n : Nat} {e : TypeId} {v : Value} {xs : List Value} {row : Option Nat} (h : W.ownsRow base e 1 v n xs) (hg : W.grownBy W' row) (hne : v.ownBlock ≠ row ∨ v.ownBlock = none) : W'.ownsRow base e 1 v n xs := by
  obtain ⟨h1, h2⟩ := h
  refine ⟨h1, ?_⟩
  rcases h2 with h2 | ⟨g, c, cur, hv, hb, hh, hr⟩
  · exact .inl h2
  · refine .inr ⟨g, c, cur, hv, hb, (hg.block g (Array.getElem?_eq_some_iff.1 hh).1 (fun e => ?_)).trans hh, hr⟩
    rcases hne with hne | hne
    · exact hne (by rw [hv]; exact e)
    · rw [hv] at hne; cases hne
/-- two lists do not share a block -/
def Apart (v u : Value) : Prop := v.ownBlock ≠ u.ownBlock ∨ v.ownBlock = none
theorem Apart.next {W : World} {base n H : Nat} {e : TypeId} {v u u' : Value} {xs : List Value} (h : Apart v u) (ho : W.ownsRow base e 1 v n xs) (hH : W.heap.size ≤ H) (hat : u'.ownBlock = u.ownBlock ∨ u'.ownBlock = some H) : Apart v u' := by
  rcases h with h | h
  · rcases hat with hat | hat
    · exact .inl (by rw [hat]; exact h)
    · refine .inl fun e => ?_
      rw [hat] at e
      have := (ho.lt _ e).2
      omega
  · exact .inr h
theorem Apart.symm {v u : Value} (h : Apart v u) : Apart u v := by
  cases hu : u.ownBlock with
  | none => exact .inr hu
  | some g =>
    rcases h with h | h
    · exact .inl (Ne.symm h)
    · exact .inl (by rw [h, hu]; simp)
theorem Apart.new {W W' : World} {base base' n n' : Nat} {e : TypeId} {v u : Value} {xs ys : List Value} (hv : W.ownsRow base e 1 v n xs) (hu : W'.ownsRow base' e 1 u n' ys) (hb : W.heap.size ≤ base') : Apart v u := by
  cases h : v.ownBlock with
  | none => exact .inr h
  | some g =>
    refine .inl fun e => ?_
    have h1 := (hv.lt g h).2
    have h2 := (hu.lt g (by rw [← e, h])).1
    omega
theorem natsI_snoc (l : List Nat) (k : Nat) : intsV (natsI (l ++ [k])) = intsV (natsI l) ++ [.int .i64 (k : Nat)] := by simp [intsV, natsI]
theorem intsV_snoc (l : List Int) (k : Int) : intsV (l ++ [k]) = intsV l ++ [.int .i64 k] := by simp [intsV]
theorem mod_at {n m : Nat} : (n : Int).tmod (m : Int) = ((n % m : Nat) : Int) := by rw [Int.ofNat_tmod]

theorem own_cells {W : World} {base n : Nat} {e : TypeId} {v : Value} {xs : List Value} (h : W.ownsRow base e 1 v n xs) {k : Nat} (hk : v.ownBlock = some k) : ∃ c t, W.heap[k]? = some (.cells c t (0, 0)) := by
  rcases h.2 with ⟨rfl, _⟩ | ⟨g, cap, cur, rfl, _, hh, _⟩
  · simp [Value.ownBlock] at hk
  · simp [Value.ownBlock] at hk
    subst hk
    exact ⟨cur, e, hh⟩
theorem own_base {W : World} {base base' n : Nat} {e : TypeId} {v : Value} {xs : List Value} (h : W.ownsRow base e 1 v n xs) (hb : base' ≤ base) : W.ownsRow base' e 1 v n xs :=
  ⟨h.1, h.2.imp (fun h => h) fun ⟨g, c, cur, h1, h2, h3⟩ => ⟨g, c, cur, h1, Nat.le_trans hb h2, h3⟩⟩
/-- lists of things of other types do not share a block -/
theorem Apart.types {W : World} {base base' n n' : Nat} {e e' : TypeId} {v u : Value} {xs ys : List Value} (hv : W.ownsRow base e 1 v n xs) (hu : W.ownsRow base' e' 1 u n' ys) (he : e ≠ e') : Apart v u := by
  cases h : v.ownBlock with
  | none => exact .inr h
  | some g =>
    refine .inl fun e2 => ?_
    rcases hv.2 with ⟨rfl, _⟩ | ⟨g1, c1, cur1, rfl, _, h1, _⟩
    · simp [Value.ownBlock] at h
    · rcases hu.2 with ⟨rfl, _⟩ | ⟨g2, c2, cur2, rfl, _, h2, _⟩
      · simp [Value.ownBlock] at e2
      · simp [Value.ownBlock] at e2
        subst e2
        rw [h1] at h2
        injection h2 with h2
        injection h2 with _ h2 _
        exact he h2
theorem own_zeroO (w : World) {t : TypeId} : (w.alloc (.cells #[] t)).ownsRow w.heap.size t 1 (.slice (some ⟨w.heap.size, 0, none⟩) 0 0) 0 [] :=
  ⟨rfl, .inr ⟨_, 0, #[], rfl, Nat.le_refl _, Bx.new w _ _, Nat.le_refl _, Nat.zero_le _, rfl, rfl⟩⟩

end Go.Proofs.YteonanaihklgmaaDoor

namespace Go.Proofs.YteonanaihklgmaaDoor
open Go.RowKit
open Pl
set_option linter.unusedSimpArgs false
set_option linter.unusedVariables false

theorem own_fz {W W' : World} {B base n : Nat} {e : TypeId} {v : Value} {xs : List Value} (h : W.ownsRow base e 1 v n xs) (hf : Fz B W W') : W'.ownsRow base e 1 v n xs := by
  obtain ⟨h1, h2⟩ := h
  refine ⟨h1, ?_⟩
  rcases h2 with h2 | ⟨g, c, cur, hv, hg, hh, hr⟩
  · exact .inl h2
  · exact .inr ⟨g, c, cur, hv, hg, hf.cells _ _ _ _ hh, hr⟩
theorem HoldW.own {lo : Nat} {w0 : World} {a : St} {hb : Nat} {W W' : World} (h : HoldW lo w0 a hb W) {base n : Nat} {e : TypeId} {v : Value} {xs : List Value} (ho : W.ownsRow base e 1 v n xs) (hb2 : hb + 1 < base) (hg : W.grownBy W' v.ownBlock) : HoldW lo w0 a hb W' :=
  h.app hg fun k hk => ⟨by have := (ho.lt k hk).1; omega, own_cells ho hk⟩
theorem LRow_fz {W W' : World} {B : Nat} {A : Option Addr} {zs : List Int} (h : LRow W A zs) (hf : Fz B W W') : LRow W' A zs := fun hn => by
  obtain ⟨g, rfl, hc⟩ := h hn
  exact ⟨g, rfl, fun i hi => hf.cell (hc i hi)⟩
theorem LRow_one (W : World) (x : Nat) : LRow (W.alloc (.cells #[.int .i64 (x : Nat)] 3)) (some ⟨W.heap.size, 0, none⟩) (natsI [x]) := fun _ => ⟨_, rfl, fun i hi => by
  have : i = 0 := by simp [natsI] at hi; omega
  subst this
  exact ((Bx.new W 3 #[.int .i64 (x : Nat)]).cell 0)⟩
theorem LRow_two (W : World) (x y : Nat) : LRow (W.alloc (.cells #[.int .i64 (x : Nat), .int .i64 (y : Nat)] 3)) (some ⟨W.heap.size, 0, none⟩) (natsI [x, y]) := fun _ => ⟨_, rfl, fun i hi => by
  have : i = 0 ∨ i = 1 := by simp [natsI] at hi; omega
  rcases this with rfl | rfl
  · exact ((Bx.new W 3 #[.int .i64 (x : Nat), .int .i64 (y : Nat)]).cell 0)
  · exact ((Bx.new W 3 #[.int .i64 (x : Nat), .int .i64 (y : Nat)]).cell 1)⟩

end Go.Proofs.YteonanaihklgmaaDoor

namespace Go.Proofs.YteonanaihklgmaaDoor
open Go.RowKit
open Pl
set_option linter.unusedSimpArgs false
set_option linter.unusedVariables false

/-- one of the lists -/
def Inn (W : World) (base : Nat) (v : Value) (L : List Nat) : Prop := ∃ g cap, v = .slice (some ⟨g, 0, none⟩) L.length cap ∧ W.ownsRow base 3 1 v L.length (intsV (natsI L))
/-- the lists -/
def Inns (W : World) (base : Nat) (vals : List Value) (Ls : List (List Nat)) : Prop := vals.length = Ls.length ∧ ∀ (i : Nat) (v : Value) (L : List Nat), vals[i]? = some v → Ls[i]? = some L → Inn W base v L
/-- a list of lists -/
def LL (W : World) (base : Nat) (v : Value) (Ls : List (List Nat)) : Prop := (∃ g cap, v = .slice (some ⟨g, 0, none⟩) Ls.length cap) ∧ ∃ vals, W.ownsRow base 30 1 v Ls.length vals ∧ Inns W base vals Ls

theorem Inn.call {W W' : World} {base : Nat} {v : Value} {L : List Nat} (h : Inn W base v L) (hb : Below W.heap.size W W') : Inn W' base v L := by
  obtain ⟨g, cap, h1, h2⟩ := h
  exact ⟨g, cap, h1, own_call h2 hb⟩
theorem Inn.base {W : World} {base base' : Nat} {v : Value} {L : List Nat} (h : Inn W base v L) (hb : base' ≤ base) : Inn W base' v L := by
  obtain ⟨g, cap, h1, h2⟩ := h
  exact ⟨g, cap, h1, own_base h2 hb⟩
theorem Inn.grown {W W' : World} {base base2 n : Nat} {v u : Value} {L : List Nat} {xs : List Value} (h : Inn W base v L) (hu : W.ownsRow base2 30 1 u n xs) (hg : W.grownBy W' u.ownBlock) : Inn W' base v L := by
  obtain ⟨g, cap, h1, h2⟩ := h
  exact ⟨g, cap, h1, own_others h2 hg (Apart.types h2 hu (by decide))⟩
theorem Inns.call {W W' : World} {base : Nat} {vals : List Value} {Ls : List (List Nat)} (h : Inns W base vals Ls) (hb : Below W.heap.size W W') : Inns W' base vals Ls :=
  ⟨h.1, fun i v L h1 h2 => (h.2 i v L h1 h2).call hb⟩
theorem Inns.grown {W W' : World} {base base2 n : Nat} {vals : List Value} {u : Value} {Ls : List (List Nat)} {xs : List Value} (h : Inns W base vals Ls) (hu : W.ownsRow base2 30 1 u n xs) (hg : W.grownBy W' u.ownBlock) : Inns W' base vals Ls :=
  ⟨h.1, fun i v L h1 h2 => (h.2 i v L h1 h2).grown hu hg⟩
theorem Inns.snoc {W : World} {base : Nat} {vals : List Value} {Ls : List (List Nat)} {v : Value} {L : List Nat} (h : Inns W base vals Ls) (hv : Inn W base v L) : Inns W base (vals ++ [v]) (Ls ++ [L]) := by
  refine ⟨by simp [h.1], fun i u M h1 h2 => ?_⟩
  by_cases hi : i < vals.length
  · rw [List.getElem?_append_left hi] at h1
    rw [List.getElem?_append_left (by rw [← h.1]; exact hi)] at h2
    exact h.2 i u M h1 h2
  · rw [List.getElem?_append_right (by omega)] at h1
    rw [List.getElem?_append_right (by rw [← h.1]; omega)] at h2
    rw [← h.1] at h2
    have h0 : i - vals.length = 0 := by
      rcases Nat.eq_zero_or_pos (i - vals.length) with h0 | h0
      · exact h0
      · rw [List.getElem?_eq_none (by simp; omega)] at h1; cases h1
    rw [h0] at h1 h2
    simp at h1 h2
    subst h1 h2
    exact hv
theorem Inns.nil (W : World) (base : Nat) : Inns W base [] [] := ⟨rfl, fun i v L h => by simp at h⟩
theorem LL.call {W W' : World} {base : Nat} {v : Value} {Ls : List (List Nat)} (h : LL W base v Ls) (hb : Below W.heap.size W W') : LL W' base v Ls := by
  obtain ⟨hf, vals, h1, h2⟩ := h
  exact ⟨hf, vals, own_call h1 hb, h2.call hb⟩
theorem LL.alloc {W : World} {base : Nat} {v : Value} {Ls : List (List Nat)} (h : LL W base v Ls) (o : Obj) : LL (W.alloc o) base v Ls := h.call ((Below.refl _ _).alloc (Nat.le_refl _) _)
theorem LL.base {W : World} {base base' : Nat} {v : Value} {Ls : List (List Nat)} (h : LL W base v Ls) (hb : base' ≤ base) : LL W base' v Ls := by
  obtain ⟨hf, vals, h1, h2⟩ := h
  exact ⟨hf, vals, own_base h1 hb, h2.1, fun i v L g1 g2 => (h2.2 i v L g1 g2).base hb⟩
theorem Inn.fz {W W' : World} {B base : Nat} {v : Value} {L : List Nat} (h : Inn W base v L) (hf : Fz B W W') : Inn W' base v L := by
  obtain ⟨g, cap, h1, h2, h3⟩ := h
  refine ⟨g, cap, h1, h2, h3.imp (fun h => h) fun ⟨g, c, cur, hv, hg, hh, hr⟩ => ⟨g, c, cur, hv, hg, hf.cells _ _ _ _ hh, hr⟩⟩
theorem LL.fz {W W' : World} {B base : Nat} {v : Value} {Ls : List (List Nat)} (h : LL W base v Ls) (hf : Fz B W W') : LL W' base v Ls := by
  obtain ⟨hv, vals, ⟨h2, h3⟩, h4, h5⟩ := h
  exact ⟨hv, vals, ⟨h2, h3.imp (fun h => h) fun ⟨g, c, cur, hv, hg, hh, hr⟩ => ⟨g, c, cur, hv, hg, hf.cells _ _ _ _ hh, hr⟩⟩, h4, fun i v L g1 g2 => (h5 i v L g1 g2).fz hf⟩
/-- a list of lists beside another one that grows -/
theorem LL.others {W W' : World} {base base2 n : Nat} {v u : Value} {Ls : List (List Nat)} {xs : List Value} (h : LL W base v Ls) (hu : W.ownsRow base2 30 1 u n xs) (hg : W.grownBy W' u.ownBlock) (ha : Apart v u) : LL W' base v Ls := by
  obtain ⟨hf, vals, h1, h2⟩ := h
  exact ⟨hf, vals, own_others h1 hg ha, h2.grown hu hg⟩
/-- one list more -/
theorem LL.push {W W' : World} {base : Nat} {v v' u : Value} {Ls : List (List Nat)} {L : List Nat} {vals : List Value} (h1 : W.ownsRow base 30 1 v Ls.length vals) (h2 : Inns W base vals Ls) (hL : Inn W base u L) (ho : W'.ownsRow base 30 1 v' (Ls.length + 1) (vals ++ [u])) (hg : W.grownBy W' v.ownBlock) : LL W' base v' (Ls ++ [L]) :=
  ⟨by rw [List.length_append, List.length_singleton]; exact own_form ho, vals ++ [u], by rw [List.length_append, List.length_singleton]; exact ho, (h2.grown h1 hg).snoc (hL.grown h1 hg)⟩
theorem LL.new (W : World) : LL (W.alloc (.cells #[] 30)) W.heap.size (.slice (some ⟨W.heap.size, 0, none⟩) 0 0) [] := ⟨⟨_, _, rfl⟩, [], own_zeroO W, Inns.nil _ _⟩
/-- what a place of a list of lists holds -/
theorem LL.get {W : World} {base : Nat} {v : Value} {Ls : List (List Nat)} (h : LL W base v Ls) {k : Nat} (hk : k < Ls.length) :
    ∃ g cap gi ci, v = .slice (some ⟨g, 0, none⟩) Ls.length cap ∧ Ls.length ≤ cap ∧ W.cell? ⟨g, k, none⟩ = some (.slice (some ⟨gi, 0, none⟩) (Ls.getD k []).length ci) ∧ Inn W base (.slice (some ⟨gi, 0, none⟩) (Ls.getD k []).length ci) (Ls.getD k []) := by
  obtain ⟨_, vals, h1, h2⟩ := h
  obtain ⟨g, cap, rfl, hc1, _, _, _, hc⟩ := row_open h1 (by omega)
  have hkv : k < vals.length := by rw [h2.1]; exact hk
  have e1 : vals[k]? = some vals[k] := List.getElem?_eq_getElem hkv
  have e2 : Ls[k]? = some (Ls.getD k []) := by rw [List.getD_eq_getElem?_getD, List.getElem?_eq_getElem hk]; rfl
  obtain ⟨gi, ci, e3, e4⟩ := h2.2 k _ _ e1 e2
  refine ⟨g, cap, gi, ci, rfl, hc1, ?_, gi, ci, rfl, ?_⟩
  · rw [hc k hk, e1, e3]
  · rw [← e3]; exact e4
theorem LL.form {W : World} {base : Nat} {v : Value} {Ls : List (List Nat)} (h : LL W base v Ls) : ∃ g cap, v = .slice (some ⟨g, 0, none⟩) Ls.length cap := h.1
theorem Inn.row {W : World} {base : Nat} {v : Value} {L : List Nat} (h : Inn W base v L) : ∃ g cap, v = .slice (some ⟨g, 0, none⟩) L.length cap ∧ LRow W (some ⟨g, 0, none⟩) (natsI L) := by
  obtain ⟨g, cap, rfl, h2⟩ := h
  exact ⟨g, cap, rfl, LRow_of h2⟩
/-- behind one number more, the list whole -/
theorem app_twoI {w w1 w2 : World} {v1 v2 : Value} {o : List Nat} {x n : Nat} (hl : o.length = n) (hb : Below w.heap.size w w1) (hown1 : w1.ownsRow w.heap.size 3 1 v1 n (intsV (natsI o)))
    (hown : w2.ownsRow w.heap.size 3 1 v2 (n + 1) (intsV (natsI o) ++ [.int .i64 (x : Nat)])) (hg : (w1.alloc (.cells #[.int .i64 (x : Nat)] 3)).grownBy w2 v1.ownBlock) :
    ∃ g cap, v2 = .slice (some ⟨g, 0, none⟩) (n + 1) cap ∧ Inn w2 w.heap.size v2 (o ++ [x]) ∧ Below w.heap.size w w2 := by
  obtain ⟨g, cap, rfl⟩ := own_form hown
  refine ⟨g, cap, rfl, ⟨g, cap, by simp [hl], ?_⟩, (hb.alloc hb.size _).grown hg (by have := hb.size; simp; omega) (fun j hj => (hown1.lt j hj).1)⟩
  rw [show intsV (natsI (o ++ [x])) = intsV (natsI o) ++ [.int .i64 (x : Nat)] by simp [intsV, natsI], List.length_append, List.length_singleton, hl]
  exact hown

end Go.Proofs.YteonanaihklgmaaDoor

namespace Go.Proofs.YteonanaihklgmaaDoor
open Pl

/-- the list with a number -/
def ptK (n : Nat) : Nat → Nat → List Nat
  | 0, _ => []
  | w + 1, k => ptK n w (k / n) ++ [k % n]
/-- a list's lists of one element more -/
def extL (n : Nat) (l : List Nat) : List (List Nat) := (List.range n).map fun x => l ++ [x]
/-- all lists of so many elements -/
def listsK (n : Nat) : Nat → List (List Nat)
  | 0 => [[]]
  | w + 1 => (listsK n w).flatMap (extL n)

theorem ptK_len (n : Nat) : ∀ w k, (ptK n w k).length = w
  | 0, _ => rfl
  | w + 1, k => by simp [ptK, ptK_len n w]
theorem ptK_lt {n : Nat} (hn : 0 < n) : ∀ w k, ∀ x ∈ ptK n w k, x < n
  | 0, _, x, h => by simp [ptK] at h
  | w + 1, k, x, h => by
    simp only [ptK, List.mem_append, List.mem_singleton] at h
    rcases h with h | rfl
    · exact ptK_lt hn w _ x h
    · exact Nat.mod_lt _ hn
theorem range_mul (m n : Nat) : List.range (m * n) = (List.range m).flatMap fun j => (List.range n).map fun x => j * n + x := by
  induction m with
  | zero => simp
  | succ m ih =>
    rw [List.range_succ, List.flatMap_append, ← ih, Nat.succ_mul, List.range_add]
    simp
theorem listsK_eq {n : Nat} (hn : 0 < n) : ∀ w, listsK n w = (List.range (n ^ w)).map (ptK n w)
  | 0 => by simp [listsK, ptK]
  | w + 1 => by
    rw [listsK, listsK_eq hn w, Nat.pow_succ, range_mul, List.map_flatMap, List.flatMap_map]
    refine congrArg (fun f => List.flatMap f (List.range (n ^ w))) (funext fun j => ?_)
    unfold extL
    rw [List.map_map]
    refine List.map_congr_left fun x hx => ?_
    have hx := List.mem_range.1 hx
    simp only [Function.comp, ptK]
    rw [Nat.mul_comm j n, Nat.mul_add_div hn, Nat.div_eq_of_lt hx, Nat.mul_add_mod, Nat.mod_eq_of_lt hx, Nat.add_zero]
theorem listsK_len {n : Nat} (hn : 0 < n) (w : Nat) : (listsK n w).length = n ^ w := by rw [listsK_eq hn]; simp
theorem listsK_mem {n : Nat} (hn : 0 < n) {w : Nat} {l : List Nat} (h : l ∈ listsK n w) : l.length = w ∧ ∀ x ∈ l, x < n := by
  rw [listsK_eq hn] at h
  obtain ⟨k, _, rfl⟩ := List.mem_map.1 h
  exact ⟨ptK_len n w k, ptK_lt hn w k⟩
theorem ptK_get {n : Nat} (hn : 0 < n) : ∀ w k p, p < w → (ptK n w k).getD p 0 = (k / n ^ (w - 1 - p)) % n
  | 0, _, p, h => by omega
  | w + 1, k, p, h => by
    simp only [ptK]
    by_cases hp : p = w
    · subst hp
      rw [List.getD_eq_getElem?_getD, List.getElem?_append_right (by rw [ptK_len]; exact Nat.le_refl _), ptK_len]
      simp
    · rw [List.getD_eq_getElem?_getD, List.getElem?_append_left (by rw [ptK_len]; omega), ← List.getD_eq_getElem?_getD, ptK_get hn w (k / n) p (by omega), Nat.div_div_eq_div_mul, ← Nat.pow_succ']
      congr 3
      omega

/-- all lists so far -/
def flatK (n : Nat) (Ls : List (List Nat)) (j x : Nat) : List (List Nat) := (Ls.take j).flatMap (extL n) ++ (List.range x).map fun y => Ls.getD j [] ++ [y]
theorem flatK_zero (n : Nat) (Ls : List (List Nat)) : flatK n Ls 0 0 = [] := rfl
theorem flatK_succ (n : Nat) (Ls : List (List Nat)) (j x : Nat) : flatK n Ls j (x + 1) = flatK n Ls j x ++ [Ls.getD j [] ++ [x]] := by
  unfold flatK
  rw [List.range_succ, List.map_append, ← List.append_assoc]
  rfl
theorem flatK_next {n : Nat} {Ls : List (List Nat)} {j : Nat} (hj : j < Ls.length) : flatK n Ls j n = flatK n Ls (j + 1) 0 := by
  unfold flatK
  rw [List.take_add_one, List.flatMap_append, List.getElem?_eq_getElem hj, List.getD_eq_getElem?_getD, List.getElem?_eq_getElem hj]
  simp [extL]
theorem flatK_all (n : Nat) (Ls : List (List Nat)) : flatK n Ls Ls.length 0 = Ls.flatMap (extL n) := by
  unfold flatK
  rw [List.take_length]
  simp
theorem flatK_len {n : Nat} (Ls : List (List Nat)) (j x : Nat) (hj : j ≤ Ls.length) : (flatK n Ls j x).length = j * n + x := by
  unfold flatK
  rw [List.length_append, List.length_flatMap]
  have : ((Ls.take j).map fun l => (extL n l).length) = List.replicate j n := by
    rw [List.eq_replicate_iff]
    refine ⟨by simp; omega, fun b hb => ?_⟩
    obtain ⟨l, _, rfl⟩ := List.mem_map.1 hb
    simp [extL]
  rw [this]
  simp

end Go.Proofs.YteonanaihklgmaaDoor

namespace Go.Proofs.YteonanaihklgmaaDoor
open Go.RowKit
open Pl
set_option linter.unusedSimpArgs false
set_option linter.unusedVariables false

attribute [local go_sem ↓] Go.wp_at_zero Go.wp_at_succ

set_option maxHeartbeats 4000000 in
set_option maxRecDepth 100000 in
theorem listsOf_calls (n wd : Nat) (hn0 : 0 < n) (hn : n ≤ 8) (hwd : wd ≤ 3) (w : World) :
    Calls Tryd.prog 80 #[.int .i64 (n : Nat), .int .i64 (wd : Nat)] w fun e w' => (∃ v, e = .returned v ∧ LL w' w.heap.size v (listsK n wd)) ∧ Below w.heap.size w w' := by
  obtain ⟨i0, hi, hz0, hz1, hz2⟩ := info_parts (P := Tryd.prog) (e := 3) (z := .int .i64 0) (size := 1) (bytes := 8) (by kernel_rfl)
  obtain ⟨i1, hi', hz0', hz1', hz2'⟩ := info_parts (P := Tryd.prog) (e := 30) (z := .slice none 0 0) (size := 1) (bytes := 24) (by kernel_rfl)
  have L0 : LL ((w.alloc (.cells #[] 3)).alloc (.cells #[.slice (some ⟨w.heap.size, 0, none⟩) 0 0] 30)) w.heap.size (.slice (some ⟨w.heap.size + 1, 0, none⟩) 1 1) [[]] := by
    have hx : Bx ((w.alloc (.cells #[] 3)).alloc (.cells #[.slice (some ⟨w.heap.size, 0, none⟩) 0 0] 30)) (w.heap.size + 1) 30 #[.slice (some ⟨w.heap.size, 0, none⟩) 0 0] := bx_two w _ _
    refine ⟨⟨_, _, rfl⟩, [.slice (some ⟨w.heap.size, 0, none⟩) 0 0], ⟨rfl, .inr ⟨_, 1, _, rfl, by omega, hx, by simp, by unfold maxLen; omega, rfl, rfl⟩⟩, rfl, fun i v L h1 h2 => ?_⟩
    have h0 : i = 0 := by
      rcases Nat.eq_zero_or_pos i with h0 | h0
      · exact h0
      · rw [List.getElem?_eq_none (by simp; omega)] at h1; cases h1
    subst h0
    simp at h1 h2
    subst h1 h2
    exact ⟨_, _, rfl, (own_zeroO w).alloc _⟩
  have HL := Lib.hid L0
  have B0 := Lib.hid (show Below w.heap.size w ((w.alloc (.cells #[] 3)).alloc (.cells #[.slice (some ⟨w.heap.size, 0, none⟩) 0 0] 30)) from ((Below.refl _ _).alloc (Nat.le_refl _) _).alloc (by simp) _)
  clear L0
  go_enter Tryd.func80, Tryd.ntmps80
  go_wp2_with fail
  go_loopg [5, 13] wd (fun c v i wr => ∃ k : Nat, k + c = wd ∧ i = .int .i64 (k : Nat) ∧ LL wr w.heap.size v (listsK n k) ∧ Below w.heap.size w wr)
  case atStart => exact ⟨0, by omega, rfl, HL.out, B0.out⟩
  case round =>
    clear HL B0
    obtain ⟨wo, rfl⟩ : ∃ x, x = wr := ⟨wr, rfl⟩
    obtain ⟨k, hk, rfl, hll, hbl⟩ := hrel
    obtain ⟨Ls, hLs⟩ : ∃ Ls, Ls = listsK n k := ⟨_, rfl⟩
    rw [← hLs] at hll
    have hln : Ls.length = n ^ k := by rw [hLs]; exact listsK_len hn0 k
    by_cases hlt : k < wd
    · have h64 : n ^ k ≤ 64 := by
        have h1 : n ^ k ≤ 8 ^ k := Nat.pow_le_pow_left hn k
        have h2 : 8 ^ k ≤ 8 ^ 2 := Nat.pow_le_pow_right (by omega) (by omega)
        omega
      have hl64 : Ls.length ≤ 64 := by omega
      have hsucc : listsK n (k + 1) = Ls.flatMap (extL n) := by rw [hLs]; rfl
      obtain ⟨gA, cap0, rfl⟩ := hll.form
      obtain ⟨Bn, hBn⟩ : ∃ Bn, Bn = wo.heap.size := ⟨_, rfl⟩
      have Hll := Lib.hid hll
      have Hbl := Lib.hid hbl
      have Hsucc := Lib.hid hsucc
      have HLs := Lib.hid hLs
      have HBn := Lib.hid hBn
      have hls := hbl.size
      have Hls := Lib.hid hls
      clear hll hbl hsucc hLs hBn h64 hls hln
      have NL := Lib.hid (LL.new wo)
      have NB := Lib.hid ((Below.refl wo.heap.size wo).alloc (Nat.le_refl _) (.cells #[] 30))
      go_wp2_with fail
      go_loopg [6, 18] Ls.length (fun c v i wx => ∃ j : Nat, j + c = Ls.length ∧ i = .int .i64 (j : Nat) ∧ LL wx wo.heap.size v (flatK n Ls j 0) ∧ Below wo.heap.size wo wx)
      case atStart => exact ⟨0, by omega, rfl, by rw [flatK_zero]; exact NL.out, NB.out⟩
      case round =>
        clear NL NB
        obtain ⟨j, hj, rfl, hll, hbl⟩ := hrel
        have Nll := Lib.hid hll
        have Nbl := Lib.hid hbl
        clear hll hbl
        by_cases hjl : j < Ls.length
        · obtain ⟨g, cap, gi, ci, e1, hcl, hcell, hinn⟩ := (Hll.out.call Nbl.out).get hjl
          simp only [Value.slice.injEq, Option.some.injEq, Addr.mk.injEq, and_true, true_and] at e1
          obtain ⟨rfl, rfl⟩ := e1
          have j1 : (0 : Int) ≤ (j : Int) := by omega
          have j2 : (j : Int) < (Ls.length : Int) := by omega
          have hnx := fun x => flatK_succ n Ls j x
          have hnn := @flatK_next n Ls j hjl
          have hfl := fun x => @flatK_len n Ls j x (Nat.le_of_lt hjl)
          obtain ⟨L0, hL0⟩ : ∃ L0, L0 = Ls.getD j [] := ⟨_, rfl⟩
          simp only [← hL0] at hcell hinn hnx
          obtain ⟨lq, hlq⟩ : ∃ lq, L0.length = lq := ⟨_, rfl⟩
          rw [hlq] at hcell hinn
          have hlq3 : lq ≤ 3 := by
            have hm : L0 ∈ listsK n k := by rw [hL0, ← HLs.out, List.getD_eq_getElem?_getD, List.getElem?_eq_getElem hjl]; exact List.getElem_mem hjl
            have := (listsK_mem hn0 hm).1
            omega
          have Hinn := Lib.hid hinn
          have Hnx := Lib.hid hnx
          have Hnn := Lib.hid hnn
          have Hfl := Lib.hid hfl
          have Hlq := Lib.hid hlq
          have HL0 := Lib.hid hL0
          have hjn : j * n ≤ 63 * n := Nat.mul_le_mul_right n (by omega)
          have Hjn := Lib.hid (show j * n + n ≤ 600 by omega)
          clear hinn hnx hnn hfl hlq hL0 hjn
          go_wp2_with fail
          go_loopg [6, 23] n (fun c v i wy => ∃ x : Nat, x + c = n ∧ i = .int .i64 (x : Nat) ∧ LL wy wo.heap.size v (flatK n Ls j x) ∧ Below wo.heap.size wo wy ∧ Inn wy w.heap.size (.slice (some ⟨gi, 0, none⟩) lq ci) L0)
          case atStart => exact ⟨0, by omega, rfl, Nll.out, Nbl.out, Hinn.out⟩
          case round =>
            clear Nll Nbl Hinn hcell
            obtain ⟨wy, rfl⟩ : ∃ x, x = wr := ⟨wr, rfl⟩
            obtain ⟨x, hx, rfl, hll, hbl, hinn⟩ := hrel
            by_cases hxl : x < n
            · obtain ⟨⟨gn, cn, rfl⟩, vals, hrow, hins⟩ := hll
              have hfx := Hfl.out x
              have hL0 := LRow_of (show wy.ownsRow w.heap.size 3 1 (.slice (some ⟨gi, 0, none⟩) lq ci) lq (intsV (natsI L0)) from by obtain ⟨_, _, _, h2⟩ := hinn; rw [Hlq.out] at h2; exact h2)
              obtain ⟨FL, hFL⟩ : ∃ FL, FL = flatK n Ls j x := ⟨_, rfl⟩
              rw [← hFL] at hrow hins hfx ⊢
              obtain ⟨fl, hfl⟩ : ∃ fl, FL.length = fl := ⟨_, rfl⟩
              rw [hfl] at hfx hrow ⊢
              have hf600 : fl ≤ 600 := by have := Hjn.out; omega
              have x1 : (0 : Int) ≤ (x : Int) := by omega
              have Row := Lib.hid hrow
              have Ins := Lib.hid hins
              have Bl := Lib.hid hbl
              have In0 := Lib.hid hinn
              have HL0r := Lib.hid hL0
              have HFL := Lib.hid hFL
              have Hflen := Lib.hid hfl
              have hsz := hbl.size
              have Hsz := Lib.hid hsz
              clear hrow hins hbl hinn hL0 hFL hfl hsz hfx
              go_wp2_with (first | (at_builtin; refine wpList_append_own_at _ rfl (.tmp 27) (.tmp 28) 30 rfl wy.heap.size 3 i0 (.int .i64 0) 1 8 Tryd.underlying30 hi hz0 hz1 hz2 rfl (by decide) _ 0 [] rfl (own_zero wy) ⟨gi, 0, none⟩ lq _ (intsV (natsI L0)) rfl (by simp [intsV_len, natsI_len, Hlq.out]) (LRow.news (HL0r.out.alloc _)) (ints_oneCell .i64 _) (by unfold maxLen; omega) (by omega) (by simp) ?_; intro v1 w1 ho1 hg1 hnn hat1; clear hnn hat1; have O1 := Lib.hid (app_one ho1 hg1).1; have B2 := Lib.hid (app_one ho1 hg1).2; clear ho1 hg1) | (at_builtin; refine wpList_append_own_at _ rfl (.tmp 29) (.tmp 31) 30 rfl wy.heap.size 3 i0 (.int .i64 0) 1 8 Tryd.underlying30 hi hz0 hz1 hz2 rfl (by decide) _ lq (intsV (natsI L0)) rfl (O1.out.alloc _) ⟨w1.heap.size, 0, none⟩ 1 1 [.int .i64 (x : Nat)] rfl rfl (cell_one_new _ _ _) (ints_oneCell .i64 [((x : Nat) : Int)]) (by unfold maxLen; omega) (by omega) (by have := B2.out.size; simp; omega) ?_; intro v2 w2 ho2 hg2 hnn hat2; clear hnn hat2; obtain ⟨g2, cp2, rfl, hI2, hY2⟩ := app_twoI Hlq.out B2.out O1.out ho2 hg2; have I2 := Lib.hid hI2; have Y2 := Lib.hid hY2; have Row2 := Lib.hid (own_call Row.out hY2); have Bl2 := Lib.hid (Bl.out.trans (hY2.mono Bl.out.size)); clear ho2 hg2 hI2 hY2) | (at_builtin; refine wpList_append_own_at _ rfl (.tmp 26) (.tmp 33) 71 rfl wo.heap.size 30 i1 (.slice none 0 0) 1 24 Tryd.underlying71 hi' hz0' hz1' hz2' rfl (by decide) _ fl vals rfl (Row2.out.alloc _) ⟨w2.heap.size, 0, none⟩ 1 1 [.slice (some ⟨g2, 0, none⟩) (lq + 1) cp2] rfl rfl (cell_one_new _ _ _) (fun u hu => by simp at hu; subst hu; rfl) (by unfold maxLen; omega) (by omega) (by have := Bl2.out.size; simp; omega) ?_; intro v3 w3 ho3 hg3 hnn hat3; clear hnn hat3))
              go_roundg (n - x - 1)
              case rel =>
                refine ⟨x + 1, by omega, by go_num, ?_, (Bl2.out.alloc Bl2.out.size _).grown hg3 (by have := Bl2.out.size; simp; omega) (fun q hq => (Row2.out.lt q hq).1), ?_⟩
                · rw [Hnx.out x, ← HFL.out]
                  exact LL.push (by rw [Hflen.out]; exact Row2.out.alloc _) ((Ins.out.call Y2.out).call ((Below.refl _ _).alloc (Nat.le_refl _) _)) ((I2.out.base Bl.out.size).call ((Below.refl _ _).alloc (Nat.le_refl _) _)) (by rw [Hflen.out]; exact ho3) hg3
                · exact ((In0.out.call Y2.out).call ((Below.refl _ _).alloc (Nat.le_refl _) _)).grown (Row2.out.alloc _) hg3
              case measure => omega
            · obtain rfl : x = n := by omega
              have Bl := Lib.hid hbl
              have Lx := Lib.hid hll
              clear hbl hll hinn
              go_wp2_with fail
              go_roundg (Ls.length - j - 1)
              case rel => exact ⟨j + 1, by omega, by go_num, by rw [← Hnn.out]; exact Lx.out, Bl.out⟩
              case measure => omega
        · obtain rfl : j = Ls.length := by omega
          go_wp2_with fail
          go_roundg (wd - k - 1)
          case rel => exact ⟨k + 1, by omega, by go_num, by rw [Hsucc.out, ← flatK_all]; exact Nll.out.base Hls.out, Hbl.out.trans (Nbl.out.mono Hls.out)⟩
          case measure => omega
    · obtain rfl : k = wd := by omega
      have Hll := Lib.hid hll
      have Hbl := Lib.hid hbl
      have HLs := Lib.hid hLs
      clear hll hbl hLs hln
      go_wp2_with fail
      go_ret
      exact ⟨⟨_, rfl, by rw [← HLs.out]; exact Hll.out⟩, Hbl.out⟩

end Go.Proofs.YteonanaihklgmaaDoor

namespace Go.Proofs.YteonanaihklgmaaDoor
open Go.RowKit
open Pl
set_option linter.unusedSimpArgs false
set_option linter.unusedVariables false

noncomputable def ptB (i : Int) (s r f : ByteArray) (x : Int) : Bool := decide (0 ≤ x) && (decide (x ≤ 3) && rdyB i s r f x.toNat)
noncomputable def ptL (i : Int) (s r f : ByteArray) (x : Int) : List (List Nat) := if ptB i s r f x then (listsK (ofSt i s r).n x.toNat).filter (truV i s r f) else []
noncomputable def cptV (i : Int) (s r f : ByteArray) (x : Int) : Int := if ptB i s r f x then ((ptL i s r f x).length : Int) else -1
noncomputable def fstV (i : Int) (s r f : ByteArray) (x : Int) : List Nat := (ptL i s r f x).headD []
noncomputable def fstB (i : Int) (s r f : ByteArray) (x : Int) : Bool := ptB i s r f x && !(ptL i s r f x).isEmpty
noncomputable def sameV (i : Int) (s r f g : ByteArray) : Bool := (rdyB i s r f 3 && rdyB i s r g 3) && decide (ptL i s r f 3 = ptL i s r g 3)
theorem pt_neg {i : Int} {s r f : ByteArray} {x : Int} (h : ¬ 0 ≤ x) : ptB i s r f x = false := by unfold ptB; rw [decide_eq_false h]; rfl
theorem pt_big {i : Int} {s r f : ByteArray} {x : Int} (h : ¬ x ≤ 3) : ptB i s r f x = false := by unfold ptB; rw [decide_eq_false h]; simp
theorem pt_nat (i : Int) (s r f : ByteArray) {k : Nat} (h : k ≤ 3) : ptB i s r f (k : Nat) = rdyB i s r f k := by
  unfold ptB
  rw [decide_eq_true (show (0 : Int) ≤ (k : Nat) by omega), decide_eq_true (show ((k : Nat) : Int) ≤ 3 by omega)]
  rfl
theorem pt_cases {i : Int} {s r f : ByteArray} {x : Int} (h : ptB i s r f x = true) : ∃ k : Nat, x = (k : Nat) ∧ k ≤ 3 ∧ rdyB i s r f k = true := by
  unfold ptB at h
  simp only [Bool.and_eq_true, decide_eq_true_eq] at h
  refine ⟨x.toNat, by omega, by omega, h.2.2⟩
theorem ptL_no {i : Int} {s r f : ByteArray} {x : Int} (h : ptB i s r f x = false) : ptL i s r f x = [] := by unfold ptL; rw [h]; rfl
theorem ptL_yes {a : St} {f : ByteArray} {g : Fm} {k : Nat} (hf : f.data.toList = g.text) (h : ptB a.n (bs a.set) (bs a.rel) f (k : Nat) = true) : ptL a.n (bs a.set) (bs a.rel) f (k : Nat) = (listsK a.n k).filter fun l => g.holds a (envL l) := by
  unfold ptL
  rw [h]
  simp only [if_true, ofSt_eq]
  refine List.filter_congr fun l _ => ?_
  rw [tru_of hf]
theorem ptL_len (i : Int) (s r f : ByteArray) (x : Int) : ∀ l ∈ ptL i s r f x, l.length ≤ 3 := by
  intro l hl
  unfold ptL at hl
  split at hl
  · rename_i h
    obtain ⟨k, rfl, hk, hr⟩ := pt_cases h
    have hn : 0 < (ofSt i s r).n := by
      rcases ok_cases i s r with h1 | ⟨a, ha, rfl, rfl, rfl⟩
      · rw [rdy_noSt h1] at hr; cases hr
      · rw [ofSt_eq]; exact ha.lo
    have := (listsK_mem hn (List.mem_filter.1 hl).1).1
    simp at this
    omega
  · simp at hl
theorem fst_le (i : Int) (s r f : ByteArray) (x : Int) : (fstV i s r f x).length ≤ 8 := by
  unfold fstV
  cases h : ptL i s r f x with
  | nil => simp
  | cons l t =>
    have := ptL_len i s r f x l (by rw [h]; simp)
    simp; omega
/-- the lists so far -/
def ftK (P : List Nat → Bool) (Ls : List (List Nat)) (j : Nat) : List (List Nat) := (Ls.take j).filter P
theorem ftK_succ (P : List Nat → Bool) (Ls : List (List Nat)) (j : Nat) (hj : j < Ls.length) : ftK P Ls (j + 1) = if P (Ls.getD j []) then ftK P Ls j ++ [Ls.getD j []] else ftK P Ls j := by
  unfold ftK
  rw [List.take_add_one, List.getD_eq_getElem?_getD, List.getElem?_eq_getElem hj, List.filter_append]
  cases h : P Ls[j] <;> simp [h]
theorem ftK_all (P : List Nat → Bool) (Ls : List (List Nat)) : ftK P Ls Ls.length = Ls.filter P := by unfold ftK; rw [List.take_length]
theorem ftK_le (P : List Nat → Bool) (Ls : List (List Nat)) (j : Nat) : (ftK P Ls j).length ≤ Ls.length := by
  unfold ftK
  exact Nat.le_trans (List.length_filter_le _ _) (by simp; omega)

end Go.Proofs.YteonanaihklgmaaDoor

namespace Go.Proofs.YteonanaihklgmaaDoor
open Go.RowKit
open Pl
set_option linter.unusedSimpArgs false
set_option linter.unusedVariables false

attribute [local go_sem ↓] Go.wp_at_zero Go.wp_at_succ

set_option maxHeartbeats 4000000 in
set_option maxRecDepth 100000 in
theorem pointsOf_no (i : Int) (s r f : ByteArray) (x : Int) (w : World) (hs : s.size ≤ maxLen) (hr : r.size ≤ maxLen) (h : ptB i s r f x = false) :
    Calls Tryd.prog 45 #[stV i s r, .string f, .int .i64 x] w fun e w' => e = .returned (.tuple #[.slice none 0 0, .bool false]) ∧ Below w.heap.size w w' := by
  have HcI := fun W => isStructure_calls i s r W hs hr
  have B0 := Lib.hid (show Below w.heap.size w (w.alloc (.cells #[.int .i64 i, .string s, .string r] 27)) from (Below.refl _ _).alloc (Nat.le_refl _) _)
  have Xa := Lib.hid (Bx.new w 27 #[.int .i64 i, .string s, .string r])
  clear hs hr
  rcases fm_cases f with ⟨hb, hno⟩ | ⟨g, hb, hf, hs4, hl4⟩
  · have Hno := Lib.hid hno
    clear hb hno HcI h
    go_enter Tryd.func45, Tryd.ntmps45
    go_wp2_with fail
    refine (parseFormula_no f _ Hno.out).mono ?_
    rintro e w1 ⟨rfl, hz⟩
    have B1 := Lib.hid (B0.out.trans (hz.mono (by simp)))
    clear hz
    go_wp2_with fail
    go_ret2
    exact ⟨rfl, B1.out⟩
  have Hf := Lib.hid hf
  have Hb := Lib.hid hb
  have hfr : g.freeBits < 16 := freeBits_lt g
  clear hf hb
  cases hok : okB i s r
  case false =>
    simp only [hok] at HcI
    clear hok h
    have CI := Lib.hid HcI
    clear HcI
    go_enter Tryd.func45, Tryd.ntmps45
    go_wp2_with fail
    refine (parseFormula_yes f g _ hs4 Hf.out).mono ?_
    rintro e w1 ⟨b, rfl, htr, hz⟩
    have B1 := Lib.hid (B0.out.trans (hz.mono (by simp)))
    have X1 := Lib.hid (Xa.out.call hz)
    have T1 := Lib.hid htr
    clear hz htr
    obtain ⟨k0, k1, k2⟩ := box_load X1.out
    go_wp2_with fail
    refine (CI.out _).mono ?_
    rintro e w2 ⟨rfl, hz⟩
    have B2 := Lib.hid (B1.out.trans (hz.mono B1.out.size))
    have X2 := Lib.hid (X1.out.call hz)
    have T2 := Lib.hid (T1.out.below hz)
    have D2 := Lib.hid hz
    clear hz k0 k1 k2
    go_wp2_with fail
    go_ret2
    exact ⟨rfl, B2.out⟩
  case true =>
  simp only [hok] at HcI
  have CI := Lib.hid HcI
  clear HcI
  by_cases hx0 : 0 ≤ x
  case neg =>
    clear hok h
    go_enter Tryd.func45, Tryd.ntmps45
    go_wp2_with fail
    refine (parseFormula_yes f g _ hs4 Hf.out).mono ?_
    rintro e w1 ⟨b, rfl, htr, hz⟩
    have B1 := Lib.hid (B0.out.trans (hz.mono (by simp)))
    have X1 := Lib.hid (Xa.out.call hz)
    have T1 := Lib.hid htr
    clear hz htr
    obtain ⟨k0, k1, k2⟩ := box_load X1.out
    go_wp2_with fail
    refine (CI.out _).mono ?_
    rintro e w2 ⟨rfl, hz⟩
    have B2 := Lib.hid (B1.out.trans (hz.mono B1.out.size))
    have X2 := Lib.hid (X1.out.call hz)
    have T2 := Lib.hid (T1.out.below hz)
    have D2 := Lib.hid hz
    clear hz k0 k1 k2
    go_wp2_with fail
    go_ret2
    exact ⟨rfl, B2.out⟩
  case pos =>
  by_cases hx3 : x ≤ 3
  case neg =>
    clear hok h
    go_enter Tryd.func45, Tryd.ntmps45
    go_wp2_with fail
    refine (parseFormula_yes f g _ hs4 Hf.out).mono ?_
    rintro e w1 ⟨b, rfl, htr, hz⟩
    have B1 := Lib.hid (B0.out.trans (hz.mono (by simp)))
    have X1 := Lib.hid (Xa.out.call hz)
    have T1 := Lib.hid htr
    clear hz htr
    obtain ⟨k0, k1, k2⟩ := box_load X1.out
    go_wp2_with fail
    refine (CI.out _).mono ?_
    rintro e w2 ⟨rfl, hz⟩
    have B2 := Lib.hid (B1.out.trans (hz.mono B1.out.size))
    have X2 := Lib.hid (X1.out.call hz)
    have T2 := Lib.hid (T1.out.below hz)
    have D2 := Lib.hid hz
    clear hz k0 k1 k2
    go_wp2_with fail
    go_ret2
    exact ⟨rfl, B2.out⟩
  case pos =>
  obtain ⟨k, rfl⟩ : ∃ k : Nat, x = (k : Nat) := ⟨x.toNat, by omega⟩
  obtain ⟨a, ha, rfl, rfl, rfl⟩ := st_of hok
  rw [pt_nat _ _ _ _ (by omega), rdy_of Hb.out Hf.out ha k] at h
  have hne : ((g.freeBits : Int) / 2 ^ k != 0) = true := by rw [div_nat, bne_iff_ne]; have := of_decide_eq_false h; omega
  clear hok h
  go_enter Tryd.func45, Tryd.ntmps45
  go_wp2_with fail
  refine (parseFormula_yes f g _ hs4 Hf.out).mono ?_
  rintro e w1 ⟨b, rfl, htr, hz⟩
  have B1 := Lib.hid (B0.out.trans (hz.mono (by simp)))
  have X1 := Lib.hid (Xa.out.call hz)
  have T1 := Lib.hid htr
  clear hz htr
  obtain ⟨k0, k1, k2⟩ := box_load X1.out
  go_wp2_with fail
  refine (CI.out _).mono ?_
  rintro e w2 ⟨rfl, hz⟩
  have B2 := Lib.hid (B1.out.trans (hz.mono B1.out.size))
  have X2 := Lib.hid (X1.out.call hz)
  have T2 := Lib.hid (T1.out.below hz)
  have D2 := Lib.hid hz
  clear hz k0 k1 k2
  obtain ⟨_, _, _, _, _, _, hc3, _⟩ := node_cells T2.out
  go_wp2_with fail
  go_ret2
  exact ⟨rfl, B2.out⟩

set_option maxHeartbeats 4000000 in
set_option maxRecDepth 100000 in
theorem pointsOf_yes (i : Int) (s r f : ByteArray) (x : Int) (w : World) (hs : s.size ≤ maxLen) (hr : r.size ≤ maxLen) (h : ptB i s r f x = true) :
    Calls Tryd.prog 45 #[stV i s r, .string f, .int .i64 x] w fun e w' => (∃ v, e = .returned (.tuple #[v, .bool true]) ∧ LL w' w.heap.size v (ptL i s r f x)) ∧ Below w.heap.size w w' := by
  obtain ⟨i1, hi', hz0', hz1', hz2'⟩ := info_parts (P := Tryd.prog) (e := 30) (z := .slice none 0 0) (size := 1) (bytes := 24) (by kernel_rfl)
  have HcI := fun W => isStructure_calls i s r W hs hr
  have B0 := Lib.hid (show Below w.heap.size w (w.alloc (.cells #[.int .i64 i, .string s, .string r] 27)) from (Below.refl _ _).alloc (Nat.le_refl _) _)
  have Xa := Lib.hid (Bx.new w 27 #[.int .i64 i, .string s, .string r])
  clear hs hr
  obtain ⟨k, rfl, hk3, hry⟩ := pt_cases h
  rcases fm_cases f with ⟨hb, hno⟩ | ⟨g, hb, hf, hs4, hl4⟩
  · rw [rdy_noFm hb] at hry; cases hry
  cases hok : okB i s r
  case false => rw [rdy_noSt hok] at hry; cases hry
  case true =>
  simp only [hok] at HcI
  have CI := Lib.hid HcI
  obtain ⟨a, ha, rfl, rfl, rfl⟩ := st_of hok
  rw [ptL_yes hf h]
  rw [rdy_of hb hf ha k] at hry
  have heq : (g.freeBits : Int) / 2 ^ k = 0 := by rw [div_nat]; have := of_decide_eq_true hry; omega
  have hfr : g.freeBits < 16 := freeBits_lt g
  have hk0 : (0 : Int) ≤ (k : Int) := by omega
  have hk3i : (k : Int) ≤ 3 := by omega
  have h8 := ha.hi
  have hlo := ha.lo
  have Hf := Lib.hid hf
  obtain ⟨PP, hPP⟩ : ∃ PP : List Nat → Bool, PP = fun l => g.holds a (envL l) := ⟨_, rfl⟩
  rw [← hPP]
  have HPP := Lib.hid hPP
  obtain ⟨Ls, hLs⟩ : ∃ Ls, Ls = listsK a.n k := ⟨_, rfl⟩
  rw [← hLs]
  have hmem : ∀ l ∈ Ls, l.length = k ∧ ∀ y ∈ l, y < a.n := fun l hl => listsK_mem hlo (by rw [← hLs]; exact hl)
  have hl512 : Ls.length ≤ 512 := by
    rw [hLs, listsK_len hlo]
    have h1 : a.n ^ k ≤ 8 ^ k := Nat.pow_le_pow_left h8 k
    have h2 : 8 ^ k ≤ 8 ^ 3 := Nat.pow_le_pow_right (by omega) hk3
    omega
  have cl := fun W => listsOf_calls a.n k hlo h8 hk3 W
  simp only [← hLs] at cl
  have CLs := Lib.hid cl
  have Hmem := Lib.hid hmem
  clear HcI hok h hry hb hf hPP hLs hmem cl hl4
  go_enter Tryd.func45, Tryd.ntmps45
  go_wp2_with fail
  refine (parseFormula_yes f g _ hs4 Hf.out).mono ?_
  rintro e w1 ⟨b, rfl, htr, hz⟩
  have B1 := Lib.hid (B0.out.trans (hz.mono (by simp)))
  have X1 := Lib.hid (Xa.out.call hz)
  have T1 := Lib.hid htr
  clear hz htr
  obtain ⟨k0, k1, k2⟩ := box_load X1.out
  go_wp2_with fail
  refine (CI.out _).mono ?_
  rintro e w2 ⟨rfl, hz⟩
  have B2 := Lib.hid (B1.out.trans (hz.mono B1.out.size))
  have X2 := Lib.hid (X1.out.call hz)
  have T2 := Lib.hid (T1.out.below hz)
  have D2 := Lib.hid hz
  clear hz k0 k1 k2
  obtain ⟨_, _, _, _, _, _, hc3, _⟩ := node_cells T2.out
  obtain ⟨k0, k1, k2⟩ := box_load X2.out
  go_wp2_with fail
  refine (newHolder_calls (w.alloc (.cells #[.int .i64 (a.n : Int), .string (bs a.set), .string (bs a.rel)] 27)).heap.size w1 a w2 D2.out).mono ?_
  rintro e w3 ⟨rfl, hW, hz⟩
  have B3 := Lib.hid ((B2.out.trans (hz.mono B2.out.size)).alloc (B2.out.trans (hz.mono B2.out.size)).size (.cells #[] 30))
  have X3 := Lib.hid ((X2.out.call hz).alloc (.cells #[] 30))
  have W3 := Lib.hid (hW.alloc (.cells #[] 30))
  have Hlt3 := Lib.hid hW.box.lt
  have HS23 := Lib.hid B2.out.size
  have HS3 := Lib.hid (show w.heap.size ≤ w3.heap.size from Nat.le_trans B2.out.size hz.size)
  have N3 := Lib.hid (LL.new w3)
  clear hz k0 k1 k2 hc3 hW
  generalize hhb : w2.heap.size + 1 = hb at *
  have Hhb := Lib.hid hhb
  clear hhb
  obtain ⟨k0, k1, k2⟩ := box_load X3.out
  go_wp2_with fail
  refine (CLs.out _).mono ?_
  rintro e w4 ⟨⟨v4, rfl, hL4⟩, hz⟩
  have B4 := Lib.hid (B3.out.trans (hz.mono B3.out.size))
  have W4 := Lib.hid (W3.out.call hz)
  have N4 := Lib.hid (N3.out.call hz)
  have L4 := Lib.hid hL4
  have A4 := Lib.hid (show Apart v4 (.slice (some ⟨w3.heap.size, 0, none⟩) 0 0) from Apart.symm (Apart.new N3.out.2.choose_spec.1 hL4.2.choose_spec.1 (Nat.le_refl _)))
  have S4 := Lib.hid (show w3.heap.size ≤ w4.heap.size from by have := hz.size; simp at this; omega)
  clear hz k0 k1 k2 hL4
  obtain ⟨gl, cl, rfl⟩ := L4.out.form
  go_wp2_with fail
  go_loopg [10, 47] Ls.length (fun c o xi wr => ∃ j : Nat, j + c = Ls.length ∧ xi = .int .i64 (j : Nat) ∧ LL wr w3.heap.size o (ftK PP Ls j) ∧ LL wr (w3.heap.size + 1) (.slice (some ⟨gl, 0, none⟩) Ls.length cl) Ls ∧ Apart (.slice (some ⟨gl, 0, none⟩) Ls.length cl) o ∧ HoldW (w.alloc (.cells #[.int .i64 (a.n : Int), .string (bs a.set), .string (bs a.rel)] 27)).heap.size w1 a hb wr ∧ Below w.heap.size w wr)
  case atStart => exact ⟨0, by omega, rfl, N4.out, by have := L4.out; rwa [World.size_alloc] at this, A4.out, W4.out, B4.out⟩
  case round =>
    clear N4 L4 A4 W4 B4 N3 X3 W3
    obtain ⟨j, hj, rfl, ho, hl, hap, hWr, hbl⟩ := hrel
    have Hl := Lib.hid hl
    have Hap := Lib.hid hap
    have HWr := Lib.hid hWr
    have Hbl := Lib.hid hbl
    clear hl hap hWr hbl
    by_cases hjl : j < Ls.length
    · obtain ⟨g1, c1, gi, ci, e1, hcl, hcell, hinn⟩ := Hl.out.get hjl
      simp only [Value.slice.injEq, Option.some.injEq, Addr.mk.injEq, and_true, true_and] at e1
      obtain ⟨rfl, rfl⟩ := e1
      have j1 : (0 : Int) ≤ (j : Int) := by omega
      have j2 : (j : Int) < (Ls.length : Int) := by omega
      have hsucc := ftK_succ PP Ls j hjl
      have hle := ftK_le PP Ls j
      obtain ⟨L0, hL0⟩ : ∃ L0, L0 = Ls.getD j [] := ⟨_, rfl⟩
      have hm0 := Hmem.out L0 (by rw [hL0, List.getD_eq_getElem?_getD, List.getElem?_eq_getElem hjl]; exact List.getElem_mem hjl)
      simp only [← hL0] at hcell hinn hsucc
      obtain ⟨FK, hFK⟩ : ∃ FK, FK = ftK PP Ls j := ⟨_, rfl⟩
      rw [← hFK] at ho hsucc hle
      obtain ⟨⟨go, co, rfl⟩, vals, hrow, hins⟩ := ho
      obtain ⟨fl, hfl⟩ : ∃ fl, FK.length = fl := ⟨_, rfl⟩
      rw [hfl] at hrow hle Hap
      have hL0l : L0.length = k := hm0.1
      rw [hL0l] at hcell hinn
      have hLR := LRow_of (show wr.ownsRow (w3.heap.size + 1) 3 1 (.slice (some ⟨gi, 0, none⟩) k ci) k (intsV (natsI L0)) from by obtain ⟨_, _, _, h2⟩ := hinn; rw [hL0l] at h2; exact h2)
      have hcall := holds_calls (w.alloc (.cells #[.int .i64 (a.n : Int), .string (bs a.set), .string (bs a.rel)] 27)).heap.size w1 a ha hb g b L0 (some ⟨gi, 0, none⟩) ci wr T1.out hm0.2 (by omega) hLR HWr.out
      rw [show g.holds a (envL L0) = PP L0 by rw [HPP.out], hL0l] at hcall
      have HC := Lib.hid hcall
      have Row := Lib.hid hrow
      have Ins := Lib.hid hins
      have In0 := Lib.hid hinn
      have Hfl := Lib.hid hfl
      have HFK := Lib.hid hFK
      have Hsucc := Lib.hid hsucc
      clear hcall hrow hins hinn hfl hFK hsucc hL0 hm0 hLR hL0l
      rw [Hfl.out]
      cases hq : PP L0 with
      | false =>
        rw [hq] at HC
        have hs2 := Hsucc.out
        rw [hq] at hs2
        have Hs2 := Lib.hid hs2
        clear hs2 hq
        go_wp2_with fail
        refine (HC.out).mono ?_
        rintro e w5 ⟨rfl, hW5, hF⟩
        have W5 := Lib.hid hW5
        have F5 := Lib.hid (Hbl.out.trans (hF.below.mono (by have := HS23.out; have := Hhb.out; omega)))
        have L5 := Lib.hid (Hl.out.fz hF)
        have O5 := Lib.hid (show LL w5 w3.heap.size (.slice (some ⟨go, 0, none⟩) fl co) FK from LL.fz ⟨⟨_, _, by rw [Hfl.out]⟩, vals, by rw [Hfl.out]; exact Row.out, Ins.out⟩ hF)
        clear hW5 hF hcell
        go_wp2_with fail
        go_roundg (Ls.length - j - 1)
        case rel => exact ⟨j + 1, by omega, by go_num, by rw [Hs2.out]; exact O5.out, L5.out, Hap.out, W5.out, F5.out⟩
        case measure => omega
      | true =>
        rw [hq] at HC
        have hs2 := Hsucc.out
        rw [hq] at hs2
        have Hs2 := Lib.hid hs2
        clear hs2 hq
        go_wp2_with fail
        refine (HC.out).mono ?_
        rintro e w5 ⟨rfl, hW5, hF⟩
        have W5 := Lib.hid hW5
        have F5 := Lib.hid (Hbl.out.trans (hF.below.mono (by have := HS23.out; have := Hhb.out; omega)))
        have L5 := Lib.hid (Hl.out.fz hF)
        have R5 := Lib.hid (own_fz Row.out hF)
        have I5 := Lib.hid (show Inns w5 w3.heap.size vals FK from (show LL w5 w3.heap.size (.slice (some ⟨go, 0, none⟩) fl co) FK from LL.fz ⟨⟨_, _, by rw [Hfl.out]⟩, vals, by rw [Hfl.out]; exact Row.out, Ins.out⟩ hF) |> fun _ => ⟨Ins.out.1, fun q v L h1 h2 => (Ins.out.2 q v L h1 h2).fz hF⟩)
        have Z5 := Lib.hid (show Inn w5 w3.heap.size (.slice (some ⟨gi, 0, none⟩) k ci) L0 from (In0.out.fz hF).base (by omega))
        have S5 := Lib.hid (show w3.heap.size ≤ w5.heap.size from by have := (R5.out.lt go rfl); omega)
        clear hW5 hF
        have hcell5 := hcell
        clear hcell hcell5
        go_wp2_with (at_builtin; refine wpList_append_own_at _ rfl (.tmp 55) (.tmp 57) 71 rfl w3.heap.size 30 i1 (.slice none 0 0) 1 24 Tryd.underlying71 hi' hz0' hz1' hz2' rfl (by decide) _ fl vals rfl (R5.out.alloc _) ⟨w5.heap.size, 0, none⟩ 1 1 [.slice (some ⟨gi, 0, none⟩) k ci] rfl rfl (cell_one_new _ _ _) (fun u hu => by simp at hu; subst hu; rfl) (by unfold maxLen; omega) (by omega) (by have := S5.out; simp; omega) ?_; intro v6 w6 ho6 hg6 hnn hat6; clear hnn; have W6 := Lib.hid ((W5.out.alloc _).own (R5.out.alloc _) (by have := Hlt3.out; omega) hg6); have A6 := Lib.hid hat6; clear hat6)
        go_roundg (Ls.length - j - 1)
        case rel =>
          refine ⟨j + 1, by omega, by go_num, ?_, ?_, ?_, W6.out, ?_⟩
          · rw [Hs2.out]
            exact LL.push (W := w5.alloc (.cells #[.slice (some ⟨gi, 0, none⟩) k ci] 30)) (v := .slice (some ⟨go, 0, none⟩) fl co) (by rw [Hfl.out]; exact R5.out.alloc _) (I5.out.call ((Below.refl _ _).alloc (Nat.le_refl _) _)) (Z5.out.call ((Below.refl _ _).alloc (Nat.le_refl _) _)) (by rw [Hfl.out]; exact ho6) hg6
          · exact (L5.out.alloc _).others (R5.out.alloc _) hg6 Hap.out
          · exact Hap.out.next (L5.out.alloc _).2.choose_spec.1 (Nat.le_refl _) A6.out
          · exact (F5.out.alloc F5.out.size _).grown hg6 (by have := F5.out.size; simp; omega) (fun q hq => by have h1 := (R5.out.lt q hq).1; have h2 := HS3.out; omega)
        case measure => omega
    · obtain rfl : j = Ls.length := by omega
      obtain ⟨go, co, rfl⟩ := ho.form
      have Ho := Lib.hid ho
      clear ho
      go_wp2_with fail
      go_ret2
      exact ⟨⟨_, rfl, by rw [← ftK_all]; exact Ho.out.base HS3.out⟩, Hbl.out⟩

set_option maxRecDepth 100000 in
set_option maxHeartbeats 1000000 in
theorem CountPoints_impl (i : Int) (s r f : ByteArray) (x : Int) (w : World) (hs : s.size ≤ maxLen) (hr : r.size ≤ maxLen) :
    Calls Tryd.prog 19 #[stV i s r, .string f, .int .i64 x] w fun e w' => e = .returned (.int .i64 (cptV i s r f x)) ∧ Below w.heap.size w w' := by
  have B0 := Lib.hid (show Below w.heap.size w (w.alloc (.cells #[.int .i64 i, .string s, .string r] 27)) from (Below.refl _ _).alloc (Nat.le_refl _) _)
  obtain ⟨k0, k1, k2⟩ := box_load (Bx.new w 27 #[.int .i64 i, .string s, .string r])
  unfold cptV
  cases hp : ptB i s r f x
  case false =>
    have CP := Lib.hid (fun W => pointsOf_no i s r f x W hs hr hp)
    clear hs hr hp
    go_enter Tryd.func19, Tryd.ntmps19
    go_wp2_with fail
    refine (CP.out _).mono ?_
    rintro e w1 ⟨rfl, hz⟩
    have B1 := Lib.hid (B0.out.trans (hz.mono B0.out.size))
    clear hz k0 k1 k2
    go_wp2_with fail
    go_ret
    exact ⟨rfl, B1.out⟩
  case true =>
    have CP := Lib.hid (fun W => pointsOf_yes i s r f x W hs hr hp)
    clear hs hr hp
    go_enter Tryd.func19, Tryd.ntmps19
    go_wp2_with fail
    refine (CP.out _).mono ?_
    rintro e w1 ⟨⟨v, rfl, hL⟩, hz⟩
    have B1 := Lib.hid (B0.out.trans (hz.mono B0.out.size))
    obtain ⟨gl, cl, rfl⟩ := hL.form
    clear hz k0 k1 k2 hL
    go_wp2_with fail
    go_ret
    exact ⟨rfl, B1.out⟩

end Go.Proofs.YteonanaihklgmaaDoor

namespace Go.Proofs.YteonanaihklgmaaDoor
open Go.RowKit
open Pl
set_option linter.unusedSimpArgs false
set_option linter.unusedVariables false

theorem getD_ext {l m : List Nat} (hl : l.length = m.length) (h : ∀ j, j < l.length → l.getD j 0 = m.getD j 0) : l = m := by
  refine List.ext_getElem hl fun j h1 h2 => ?_
  have := h j h1
  rwa [List.getD_eq_getElem?_getD, List.getD_eq_getElem?_getD, List.getElem?_eq_getElem h1, List.getElem?_eq_getElem h2] at this
theorem getD_extL {l m : List (List Nat)} (hl : l.length = m.length) (h : ∀ j, j < l.length → l.getD j [] = m.getD j []) : l = m := by
  refine List.ext_getElem hl fun j h1 h2 => ?_
  have := h j h1
  rwa [List.getD_eq_getElem?_getD, List.getD_eq_getElem?_getD, List.getElem?_eq_getElem h1, List.getElem?_eq_getElem h2] at this

set_option maxHeartbeats 2000000 in
set_option maxRecDepth 100000 in
theorem Equal_calls (g1 g2 : Nat) (c1 c2 : Nat) (xs ys : List Nat) (w : World) (hx : xs.length ≤ 100) (hy : ys.length ≤ 100) (h1 : LRow w (some ⟨g1, 0, none⟩) (natsI xs)) (h2 : LRow w (some ⟨g2, 0, none⟩) (natsI ys)) :
    Calls Tryd.prog 47 #[.slice (some ⟨g1, 0, none⟩) xs.length c1, .slice (some ⟨g2, 0, none⟩) ys.length c2] w fun e w' => e = .returned (.bool (decide (xs = ys))) ∧ Below w.heap.size w w' := by
  obtain ⟨R, hR⟩ : ∃ R, R = decide (xs = ys) := ⟨_, rfl⟩
  rw [← hR]
  have H1 := Lib.hid h1
  have H2 := Lib.hid h2
  have HR := Lib.hid hR
  clear h1 h2 hR
  by_cases hl : xs.length = ys.length
  case neg =>
    have hR2 : R = false := by rw [HR.out]; exact decide_eq_false fun e => hl (by rw [e])
    have hne : ((xs.length : Int) != (ys.length : Int)) = true := by rw [bne_iff_ne]; omega
    subst hR2
    clear hl
    go_enter Tryd.func47, Tryd.ntmps47
    go_wp2_with fail
    go_ret
    exact ⟨rfl, Below.refl _ _⟩
  case pos =>
  have HL := Lib.hid hl
  obtain ⟨n, hn⟩ : ∃ n, n = xs.length := ⟨_, rfl⟩
  have hyn : ys.length = n := by rw [hn, hl]
  rw [hyn, ← hn]
  have Hn := Lib.hid hn
  have Hyn := Lib.hid hyn
  have hn100 : n ≤ 100 := by omega
  clear hl hn hyn hx hy
  go_enter Tryd.func47, Tryd.ntmps47
  go_wp2_with fail
  go_loopg [13] n (fun c xi wr => ∃ j : Nat, j + c = n ∧ xi = .int .i64 (j : Nat) ∧ (∀ q, q < j → xs.getD q 0 = ys.getD q 0) ∧ Below w.heap.size w wr)
  case atStart => exact ⟨0, by omega, rfl, fun q hq => absurd hq (Nat.not_lt_zero _), Below.refl _ _⟩
  case round =>
    obtain ⟨j, hj, rfl, hno, hbl⟩ := hrel
    have Hno := Lib.hid hno
    have HB := Lib.hid hbl
    clear hno hbl
    by_cases hjl : j < n
    · obtain ⟨_, e1, d1⟩ := LRow.nats (H1.out.call HB.out) (k := j) (by have := Hn.out; omega)
      obtain ⟨_, e2, d2⟩ := LRow.nats (H2.out.call HB.out) (k := j) (by have := Hyn.out; omega)
      simp only [Option.some.injEq, Addr.mk.injEq, and_true] at e1 e2
      subst e1 e2
      obtain ⟨x, hx⟩ : ∃ x, x = xs.getD j 0 := ⟨_, rfl⟩
      obtain ⟨y, hy⟩ : ∃ y, y = ys.getD j 0 := ⟨_, rfl⟩
      rw [← hx] at d1
      rw [← hy] at d2
      have Hx := Lib.hid hx
      have Hy := Lib.hid hy
      have j1 : (0 : Int) ≤ (j : Int) := by omega
      have j2 : (j : Int) < (n : Int) := by omega
      clear hx hy
      by_cases hxy : x = y
      · subst hxy
        go_upto_region 6 with (fail)
        refine region_sched [(0, true), (1, true), (2, true), (3, true), (4, true), (5, true), (6, true), (7, true), (8, true)] (fun w' : World => w'.cell? ⟨g1, j, none⟩ = some (.int .i64 (x : Nat)) ∧ w'.cell? ⟨g2, j, none⟩ = some (.int .i64 (x : Nat))) (by kernel_rfl) (by kernel_rfl) (by kernel_rfl) (by kernel_rfl) (fun _ _ _ _ h => h) ?_ (fun Q1 hQ1 => ?_)
        · exact ⟨d1, d2⟩
        try simp only [List.append]
        refine sched_take' (v := ?_) (a' := ?_) rfl (by kernel_rfl) ?_ rfl ?_ ?_
        rotate_left 2
        · intro w hSw
          (try dsimp only at hSw)
          go_simp
          try with_reducible rfl
        · (try simp only [Act.put, List.setIfInBounds_toArray, List.set_cons_zero, List.set_cons_succ])
          try rfl
        refine sched_take' (v := ?_) (a' := ?_) rfl (by kernel_rfl) ?_ rfl ?_ ?_
        rotate_left 2
        · intro w hSw
          (try dsimp only at hSw)
          go_simp
          try with_reducible rfl
        · (try simp only [Act.put, List.setIfInBounds_toArray, List.set_cons_zero, List.set_cons_succ])
          try rfl
        refine sched_take' (v := ?_) (a' := ?_) rfl (by kernel_rfl) ?_ rfl ?_ ?_
        rotate_left 2
        · intro w hSw
          (try dsimp only at hSw)
          go_simp
          try with_reducible rfl
        · (try simp only [Act.put, List.setIfInBounds_toArray, List.set_cons_zero, List.set_cons_succ])
          try rfl
        refine sched_take' (v := .int .i64 (x : Nat)) (a' := ?_) rfl (by kernel_rfl) ?_ rfl ?_ ?_
        rotate_left 1
        · intro w hSw
          (try dsimp only at hSw)
          go_simp
          first | done | (obtain ⟨u0, u1⟩ := hSw; simp [*])
        · (try simp only [Act.put, List.setIfInBounds_toArray, List.set_cons_zero, List.set_cons_succ])
          try rfl
        refine sched_take' (v := ?_) (a' := ?_) rfl (by kernel_rfl) ?_ rfl ?_ ?_
        rotate_left 2
        · intro w hSw
          (try dsimp only at hSw)
          go_simp
          try with_reducible rfl
        · (try simp only [Act.put, List.setIfInBounds_toArray, List.set_cons_zero, List.set_cons_succ])
          try rfl
        refine sched_take' (v := ?_) (a' := ?_) rfl (by kernel_rfl) ?_ rfl ?_ ?_
        rotate_left 2
        · intro w hSw
          (try dsimp only at hSw)
          go_simp
          try with_reducible rfl
        · (try simp only [Act.put, List.setIfInBounds_toArray, List.set_cons_zero, List.set_cons_succ])
          try rfl
        refine sched_take' (v := ?_) (a' := ?_) rfl (by kernel_rfl) ?_ rfl ?_ ?_
        rotate_left 2
        · intro w hSw
          (try dsimp only at hSw)
          go_simp
          try with_reducible rfl
        · (try simp only [Act.put, List.setIfInBounds_toArray, List.set_cons_zero, List.set_cons_succ])
          try rfl
        refine sched_take' (v := .int .i64 (x : Nat)) (a' := ?_) rfl (by kernel_rfl) ?_ rfl ?_ ?_
        rotate_left 1
        · intro w hSw
          (try dsimp only at hSw)
          go_simp
          first | done | (obtain ⟨u0, u1⟩ := hSw; simp [*])
        · (try simp only [Act.put, List.setIfInBounds_toArray, List.set_cons_zero, List.set_cons_succ])
          try rfl
        refine sched_take' (v := ?_) (a' := ?_) rfl (by kernel_rfl) ?_ rfl ?_ ?_
        rotate_left 2
        · intro w hSw
          (try dsimp only at hSw)
          go_simp
          try with_reducible rfl
        · (try simp only [Act.put, List.setIfInBounds_toArray, List.set_cons_zero, List.set_cons_succ])
          try rfl
        refine sched_done (hQ1.out _ _ ?_)
        go_wp2_with fail
        go_roundg (n - j - 1)
        case rel => exact ⟨j + 1, by omega, by go_num, fun q hq => by
          by_cases hqj : q = j
          · subst hqj; rw [← Hx.out, ← Hy.out]
          · exact Hno.out q (by omega), HB.out.drew⟩
        case measure => omega
      · have hne : ((x : Int) != (y : Int)) = true := by rw [bne_iff_ne]; omega
        have hR2 : R = false := by rw [HR.out]; exact decide_eq_false fun e => hxy (by rw [Hx.out, Hy.out, e])
        subst hR2
        clear hxy
        go_upto_region 6 with (fail)
        refine region_sched [(0, true), (1, true), (2, true), (3, true), (4, true), (5, true), (6, true), (7, true), (8, true)] (fun w' : World => w'.cell? ⟨g1, j, none⟩ = some (.int .i64 (x : Nat)) ∧ w'.cell? ⟨g2, j, none⟩ = some (.int .i64 (y : Nat))) (by kernel_rfl) (by kernel_rfl) (by kernel_rfl) (by kernel_rfl) (fun _ _ _ _ h => h) ?_ (fun Q1 hQ1 => ?_)
        · exact ⟨d1, d2⟩
        try simp only [List.append]
        refine sched_take' (v := ?_) (a' := ?_) rfl (by kernel_rfl) ?_ rfl ?_ ?_
        rotate_left 2
        · intro w hSw
          (try dsimp only at hSw)
          go_simp
          try with_reducible rfl
        · (try simp only [Act.put, List.setIfInBounds_toArray, List.set_cons_zero, List.set_cons_succ])
          try rfl
        refine sched_take' (v := ?_) (a' := ?_) rfl (by kernel_rfl) ?_ rfl ?_ ?_
        rotate_left 2
        · intro w hSw
          (try dsimp only at hSw)
          go_simp
          try with_reducible rfl
        · (try simp only [Act.put, List.setIfInBounds_toArray, List.set_cons_zero, List.set_cons_succ])
          try rfl
        refine sched_take' (v := ?_) (a' := ?_) rfl (by kernel_rfl) ?_ rfl ?_ ?_
        rotate_left 2
        · intro w hSw
          (try dsimp only at hSw)
          go_simp
          try with_reducible rfl
        · (try simp only [Act.put, List.setIfInBounds_toArray, List.set_cons_zero, List.set_cons_succ])
          try rfl
        refine sched_take' (v := .int .i64 (x : Nat)) (a' := ?_) rfl (by kernel_rfl) ?_ rfl ?_ ?_
        rotate_left 1
        · intro w hSw
          (try dsimp only at hSw)
          go_simp
          first | done | (obtain ⟨u0, u1⟩ := hSw; simp [*])
        · (try simp only [Act.put, List.setIfInBounds_toArray, List.set_cons_zero, List.set_cons_succ])
          try rfl
        refine sched_take' (v := ?_) (a' := ?_) rfl (by kernel_rfl) ?_ rfl ?_ ?_
        rotate_left 2
        · intro w hSw
          (try dsimp only at hSw)
          go_simp
          try with_reducible rfl
        · (try simp only [Act.put, List.setIfInBounds_toArray, List.set_cons_zero, List.set_cons_succ])
          try rfl
        refine sched_take' (v := ?_) (a' := ?_) rfl (by kernel_rfl) ?_ rfl ?_ ?_
        rotate_left 2
        · intro w hSw
          (try dsimp only at hSw)
          go_simp
          try with_reducible rfl
        · (try simp only [Act.put, List.setIfInBounds_toArray, List.set_cons_zero, List.set_cons_succ])
          try rfl
        refine sched_take' (v := ?_) (a' := ?_) rfl (by kernel_rfl) ?_ rfl ?_ ?_
        rotate_left 2
        · intro w hSw
          (try dsimp only at hSw)
          go_simp
          try with_reducible rfl
        · (try simp only [Act.put, List.setIfInBounds_toArray, List.set_cons_zero, List.set_cons_succ])
          try rfl
        refine sched_take' (v := .int .i64 (y : Nat)) (a' := ?_) rfl (by kernel_rfl) ?_ rfl ?_ ?_
        rotate_left 1
        · intro w hSw
          (try dsimp only at hSw)
          go_simp
          first | done | (obtain ⟨u0, u1⟩ := hSw; simp [*])
        · (try simp only [Act.put, List.setIfInBounds_toArray, List.set_cons_zero, List.set_cons_succ])
          try rfl
        refine sched_take' (v := ?_) (a' := ?_) rfl (by kernel_rfl) ?_ rfl ?_ ?_
        rotate_left 2
        · intro w hSw
          (try dsimp only at hSw)
          go_simp
          try with_reducible rfl
        · (try simp only [Act.put, List.setIfInBounds_toArray, List.set_cons_zero, List.set_cons_succ])
          try rfl
        refine sched_done (hQ1.out _ _ ?_)
        go_wp2_with fail
        go_ret
        exact ⟨rfl, HB.out.drew⟩
    · obtain rfl : j = n := by omega
      have hR2 : R = true := by rw [HR.out]; exact decide_eq_true (getD_ext HL.out fun q hq => Hno.out q (by have := Hn.out; omega))
      subst hR2
      go_wp2_with fail
      go_ret
      exact ⟨rfl, HB.out⟩

theorem enter_equal : ∀ (args : Array Value) (w : World), (callFunc 47 args).run Tryd.prog w = .ok (.enter 47 args) w := enter_of Tryd.func47 (by kernel_rfl) (by kernel_rfl)

set_option maxHeartbeats 2000000 in
set_option maxRecDepth 100000 in
theorem EqualFunc_calls (b1 b2 : Nat) (v1 v2 : Value) (xs ys : List (List Nat)) (w : World) (hx : xs.length ≤ 1000) (hy : ys.length ≤ 1000) (hx3 : ∀ l ∈ xs, l.length ≤ 3) (hy3 : ∀ l ∈ ys, l.length ≤ 3) (h1 : LL w b1 v1 xs) (h2 : LL w b2 v2 ys) :
    Calls Tryd.prog 46 #[v1, v2, .func (.func 47) #[] #[]] w fun e w' => e = .returned (.bool (decide (xs = ys))) ∧ Below w.heap.size w w' := by
  obtain ⟨R, hR⟩ : ∃ R, R = decide (xs = ys) := ⟨_, rfl⟩
  rw [← hR]
  obtain ⟨g1, c1, rfl⟩ := h1.form
  obtain ⟨g2, c2, rfl⟩ := h2.form
  have H1 := Lib.hid h1
  have H2 := Lib.hid h2
  have HR := Lib.hid hR
  have HX := Lib.hid hx3
  have HY := Lib.hid hy3
  clear h1 h2 hR hx3 hy3
  by_cases hl : xs.length = ys.length
  case neg =>
    have hR2 : R = false := by rw [HR.out]; exact decide_eq_false fun e => hl (by rw [e])
    have hne : ((xs.length : Int) != (ys.length : Int)) = true := by rw [bne_iff_ne]; omega
    subst hR2
    clear hl
    go_enter Tryd.func46, Tryd.ntmps46
    go_wp2_with fail
    go_ret
    exact ⟨rfl, Below.refl _ _⟩
  case pos =>
  have HL := Lib.hid hl
  obtain ⟨n, hn⟩ : ∃ n, n = xs.length := ⟨_, rfl⟩
  have hyn : ys.length = n := by rw [hn, hl]
  rw [hyn, ← hn]
  have Hn := Lib.hid hn
  have Hyn := Lib.hid hyn
  have hn100 : n ≤ 1000 := by omega
  have hen := enter_equal
  have Hen := Lib.hid hen
  clear hl hn hyn hx hy hen
  go_enter Tryd.func46, Tryd.ntmps46
  go_wp2_with fail
  go_loopg [17] n (fun c xi wr => ∃ j : Nat, j + c = n ∧ xi = .int .i64 (j : Nat) ∧ (∀ q, q < j → xs.getD q [] = ys.getD q []) ∧ Below w.heap.size w wr)
  case atStart => exact ⟨0, by omega, rfl, fun q hq => absurd hq (Nat.not_lt_zero _), Below.refl _ _⟩
  case round =>
    obtain ⟨j, hj, rfl, hno, hbl⟩ := hrel
    have Hno := Lib.hid hno
    have HB := Lib.hid hbl
    clear hno hbl
    by_cases hjl : j < n
    · obtain ⟨_, _, gi, ci, e1, hc1, d1, in1⟩ := LL.get (H1.out.call HB.out) (k := j) (by have := Hn.out; omega)
      obtain ⟨_, _, gk2, ck, e2, hc2, d2, in2⟩ := LL.get (H2.out.call HB.out) (k := j) (by have := Hyn.out; omega)
      simp only [Value.slice.injEq, Option.some.injEq, Addr.mk.injEq, and_true, true_and] at e1 e2
      obtain ⟨rfl, rfl⟩ := e1
      obtain ⟨rfl, rfl⟩ := e2
      have lx := HX.out (xs.getD j []) (by rw [List.getD_eq_getElem?_getD, List.getElem?_eq_getElem (by have := Hn.out; omega)]; exact List.getElem_mem _)
      have ly := HY.out (ys.getD j []) (by rw [List.getD_eq_getElem?_getD, List.getElem?_eq_getElem (by have := Hyn.out; omega)]; exact List.getElem_mem _)
      obtain ⟨x, hx⟩ : ∃ x, x = xs.getD j [] := ⟨_, rfl⟩
      obtain ⟨y, hy⟩ : ∃ y, y = ys.getD j [] := ⟨_, rfl⟩
      rw [← hx] at d1 in1 lx
      rw [← hy] at d2 in2 ly
      obtain ⟨_, _, f1, r1⟩ := in1.row
      obtain ⟨_, _, f2, r2⟩ := in2.row
      simp only [Value.slice.injEq, Option.some.injEq, Addr.mk.injEq, and_true, true_and] at f1 f2
      obtain ⟨rfl, rfl⟩ := f1
      obtain ⟨rfl, rfl⟩ := f2
      have heq := Equal_calls gi gk2 ci ck x y wr (by omega) (by omega) r1 r2
      have Hx := Lib.hid hx
      have Hy := Lib.hid hy
      have j1 : (0 : Int) ≤ (j : Int) := by omega
      have j2 : (j : Int) < (n : Int) := by omega
      have hcl := Hn.out
      have hcl2 := Hyn.out
      have hcc : n ≤ c1 := by omega
      have hcc2 : n ≤ c2 := by omega
      clear hx hy in1 in2 r1 r2 hc1 hc2 hcl hcl2
      by_cases hxy : x = y
      · rw [decide_eq_true hxy] at heq
        have HE := Lib.hid heq
        have Hxy := Lib.hid hxy
        clear heq hxy
        go_wp2_with fail
        refine (show Calls Tryd.prog 47 #[.slice (some ⟨gi, 0, none⟩) x.length ci, .slice (some ⟨gk2, 0, none⟩) y.length ck] wr _ from HE.out.mono ?_)
        rintro e w2 ⟨rfl, hz⟩
        have B2 := Lib.hid (HB.out.trans (hz.mono HB.out.size))
        clear hz d1 d2
        go_wp2_with fail
        go_roundg (n - j - 1)
        case rel => exact ⟨j + 1, by omega, by go_num, fun q hq => by
          by_cases hqj : q = j
          · subst hqj; rw [← Hx.out, ← Hy.out, Hxy.out]
          · exact Hno.out q (by omega), B2.out⟩
        case measure => omega
      · rw [decide_eq_false hxy] at heq
        have HE := Lib.hid heq
        have hR2 : R = false := by rw [HR.out]; exact decide_eq_false fun e => hxy (by rw [Hx.out, Hy.out, e])
        subst hR2
        clear heq hxy
        go_wp2_with fail
        refine (show Calls Tryd.prog 47 #[.slice (some ⟨gi, 0, none⟩) x.length ci, .slice (some ⟨gk2, 0, none⟩) y.length ck] wr _ from HE.out.mono ?_)
        rintro e w2 ⟨rfl, hz⟩
        have B2 := Lib.hid (HB.out.trans (hz.mono HB.out.size))
        clear hz d1 d2
        go_wp2_with fail
        go_ret
        exact ⟨rfl, B2.out⟩
    · obtain rfl : j = n := by omega
      have hR2 : R = true := by rw [HR.out]; exact decide_eq_true (getD_extL HL.out fun q hq => Hno.out q (by have := Hn.out; omega))
      subst hR2
      go_wp2_with fail
      go_ret
      exact ⟨rfl, HB.out⟩

theorem ptL_512 (i : Int) (s r f : ByteArray) (x : Int) : (ptL i s r f x).length ≤ 512 := by
  unfold ptL
  split
  · rename_i h
    obtain ⟨k, rfl, hk, hr⟩ := pt_cases h
    rcases ok_cases i s r with h1 | ⟨a, ha, rfl, rfl, rfl⟩
    · rw [rdy_noSt h1] at hr; cases hr
    · rw [ofSt_eq]
      refine Nat.le_trans (List.length_filter_le _ _) ?_
      rw [listsK_len ha.lo]
      have h1 : a.n ^ k ≤ 8 ^ k := Nat.pow_le_pow_left ha.hi k
      have h2 : 8 ^ k ≤ 8 ^ 3 := Nat.pow_le_pow_right (by omega) hk
      simp only [Int.toNat_natCast]
      omega
  · simp
theorem pt_three (i : Int) (s r f : ByteArray) : ptB i s r f 3 = rdyB i s r f 3 := pt_nat i s r f (k := 3) (by omega)

set_option maxHeartbeats 2000000 in
set_option maxRecDepth 100000 in
theorem SameIn_impl (i : Int) (s r f f2 : ByteArray) (w : World) (hs : s.size ≤ maxLen) (hr : r.size ≤ maxLen) :
    Calls Tryd.prog 17 #[stV i s r, .string f, .string f2] w fun e w' => e = .returned (.tuple #[.bool (sameV i s r f f2), .bool (rdyB i s r f 3 && rdyB i s r f2 3)]) ∧ Below w.heap.size w w' := by
  have B0 := Lib.hid (show Below w.heap.size w (w.alloc (.cells #[.int .i64 i, .string s, .string r] 27)) from (Below.refl _ _).alloc (Nat.le_refl _) _)
  have Xa := Lib.hid (Bx.new w 27 #[.int .i64 i, .string s, .string r])
  obtain ⟨k0, k1, k2⟩ := box_load Xa.out
  unfold sameV
  cases hry : rdyB i s r f 3
  case false =>
    have CP := Lib.hid (fun W => pointsOf_no i s r f 3 W hs hr (by rw [pt_three, hry]))
    cases hry2 : rdyB i s r f2 3
    case false =>
      have CQ := Lib.hid (fun W => pointsOf_no i s r f2 3 W hs hr (by rw [pt_three, hry2]))
      clear hs hr hry hry2
      go_enter Tryd.func17, Tryd.ntmps17
      go_wp2_with fail
      refine (CP.out _).mono ?_
      rintro e w1 ⟨rfl, hz⟩
      have B1 := Lib.hid (B0.out.trans (hz.mono B0.out.size))
      have X1 := Lib.hid (Xa.out.call hz)
      clear hz k0 k1 k2
      obtain ⟨k0, k1, k2⟩ := box_load X1.out
      go_wp2_with fail
      refine (CQ.out _).mono ?_
      rintro e w2 ⟨rfl, hz⟩
      have B2 := Lib.hid (B1.out.trans (hz.mono B1.out.size))
      clear hz k0 k1 k2
      go_wp2_with fail
      go_ret2
      exact ⟨rfl, B2.out⟩
    case true =>
      have CQ := Lib.hid (fun W => pointsOf_yes i s r f2 3 W hs hr (by rw [pt_three, hry2]))
      clear hs hr hry hry2
      go_enter Tryd.func17, Tryd.ntmps17
      go_wp2_with fail
      refine (CP.out _).mono ?_
      rintro e w1 ⟨rfl, hz⟩
      have B1 := Lib.hid (B0.out.trans (hz.mono B0.out.size))
      have X1 := Lib.hid (Xa.out.call hz)
      clear hz k0 k1 k2
      obtain ⟨k0, k1, k2⟩ := box_load X1.out
      go_wp2_with fail
      refine (CQ.out _).mono ?_
      rintro e w2 ⟨⟨v, rfl, hL⟩, hz⟩
      have B2 := Lib.hid (B1.out.trans (hz.mono B1.out.size))
      clear hz k0 k1 k2 hL
      go_wp2_with fail
      go_ret2
      exact ⟨rfl, B2.out⟩
  case true =>
    have cp := fun W => pointsOf_yes i s r f 3 W hs hr (by rw [pt_three, hry])
    have l1 := ptL_512 i s r f 3
    have m1 := ptL_len i s r f 3
    obtain ⟨Q1, hQ1⟩ : ∃ Q, Q = ptL i s r f 3 := ⟨_, rfl⟩
    simp only [← hQ1] at cp l1 m1
    rw [← hQ1]
    have CP := Lib.hid cp
    clear cp hQ1
    cases hry2 : rdyB i s r f2 3
    case false =>
      have CQ := Lib.hid (fun W => pointsOf_no i s r f2 3 W hs hr (by rw [pt_three, hry2]))
      clear hs hr hry hry2 l1 m1
      go_enter Tryd.func17, Tryd.ntmps17
      go_wp2_with fail
      refine (CP.out _).mono ?_
      rintro e w1 ⟨⟨v, rfl, hL⟩, hz⟩
      have B1 := Lib.hid (B0.out.trans (hz.mono B0.out.size))
      have X1 := Lib.hid (Xa.out.call hz)
      clear hz k0 k1 k2 hL
      obtain ⟨k0, k1, k2⟩ := box_load X1.out
      go_wp2_with fail
      refine (CQ.out _).mono ?_
      rintro e w2 ⟨rfl, hz⟩
      have B2 := Lib.hid (B1.out.trans (hz.mono B1.out.size))
      clear hz k0 k1 k2
      go_wp2_with fail
      go_ret2
      exact ⟨rfl, B2.out⟩
    case true =>
      have cq := fun W => pointsOf_yes i s r f2 3 W hs hr (by rw [pt_three, hry2])
      have l2 := ptL_512 i s r f2 3
      have m2 := ptL_len i s r f2 3
      obtain ⟨Q2, hQ2⟩ : ∃ Q, Q = ptL i s r f2 3 := ⟨_, rfl⟩
      simp only [← hQ2] at cq l2 m2
      rw [← hQ2]
      have CQ := Lib.hid cq
      have ce := fun (b1 b2 : Nat) (v1 v2 : Value) W h1 h2 => EqualFunc_calls b1 b2 v1 v2 Q1 Q2 W (by omega) (by omega) m1 m2 h1 h2
      obtain ⟨R, hR⟩ : ∃ R, R = decide (Q1 = Q2) := ⟨_, rfl⟩
      simp only [← hR] at ce
      rw [← hR]
      have CE := Lib.hid ce
      clear hs hr hry hry2 l1 m1 l2 m2 cq hQ2 ce hR
      go_enter Tryd.func17, Tryd.ntmps17
      go_wp2_with fail
      refine (CP.out _).mono ?_
      rintro e w1 ⟨⟨v, rfl, hL⟩, hz⟩
      have B1 := Lib.hid (B0.out.trans (hz.mono B0.out.size))
      have X1 := Lib.hid (Xa.out.call hz)
      have L1 := Lib.hid hL
      clear hz k0 k1 k2 hL
      obtain ⟨k0, k1, k2⟩ := box_load X1.out
      go_wp2_with fail
      refine (CQ.out _).mono ?_
      rintro e w2 ⟨⟨v2, rfl, hL⟩, hz⟩
      have B2 := Lib.hid (B1.out.trans (hz.mono B1.out.size))
      have M1 := Lib.hid (L1.out.call hz)
      have M2 := Lib.hid hL
      clear hz k0 k1 k2 hL
      go_wp2_with fail
      refine (CE.out _ _ _ _ _ M1.out M2.out).mono ?_
      rintro e w3 ⟨rfl, hz⟩
      have B3 := Lib.hid (B2.out.trans (hz.mono B2.out.size))
      clear hz
      go_wp2_with fail
      go_ret2
      exact ⟨rfl, B3.out⟩

end Go.Proofs.YteonanaihklgmaaDoor

namespace Go.Proofs.YteonanaihklgmaaDoor
open Go.RowKit
open Pl
set_option linter.unusedSimpArgs false
set_option linter.unusedVariables false

/-- the elements for which a formula is true -/
noncomputable def setV (i : Int) (s r f : ByteArray) : List Nat := if rdyB i s r f 1 then rk (fun x => truV i s r f [x]) (ofSt i s r).n else []
theorem set_no {i : Int} {s r f : ByteArray} (h : rdyB i s r f 1 = false) : setV i s r f = [] := by unfold setV; rw [h]; rfl
theorem set_yes {a : St} {f : ByteArray} {g : Fm} (hf : f.data.toList = g.text) (h : rdyB a.n (bs a.set) (bs a.rel) f 1 = true) : setV a.n (bs a.set) (bs a.rel) f = rk (fun x => g.holds a (envL [x])) a.n := by
  unfold setV
  rw [h]
  simp only [tru_of hf, ofSt_eq, if_true]
theorem set_le (i : Int) (s r f : ByteArray) : (setV i s r f).length ≤ 8 := by
  unfold setV
  split
  · rename_i h
    rcases ok_cases i s r with h1 | ⟨a, ha, rfl, rfl, rfl⟩
    · rw [rdy_noSt h1] at h; cases h
    · have h8 := ha.hi
      rw [ofSt_eq]
      exact Nat.le_trans (rk_len _ _) h8
  · simp

end Go.Proofs.YteonanaihklgmaaDoor

namespace Go.Proofs.YteonanaihklgmaaDoor
open Go.RowKit
open Pl
set_option linter.unusedSimpArgs false
set_option linter.unusedVariables false

attribute [local go_sem ↓] Go.wp_at_zero Go.wp_at_succ

theorem l2True_one (a : St) (ha : a.ok) (f : ByteArray) (g : Fm) (x : Nat) (w : World) (hf : f.data.toList = g.text) (hs : f.size ≤ 4000) (hx : x < a.n) :
    Calls Tryd.prog 51 #[stA a, .string f, .agg #[.int .i64 (x : Nat), .int .i64 0, .int .i64 0, .int .i64 0]] w fun ed w' => ed = .returned (.bool (g.holds a (envL [x]))) ∧ Below w.heap.size w w' :=
  l2True_calls a ha f g (envL [x]) w hf hs (env_lt ha fun y hy => by simp at hy; subst hy; exact hx)
theorem rdy_fm {i : Int} {s r f : ByteArray} {k : Nat} (h : rdyB i s r f k = true) : ∃ (a : St) (g : Fm), a.ok ∧ i = a.n ∧ s = bs a.set ∧ r = bs a.rel ∧ f.data.toList = g.text ∧ f.size ≤ 4000 := by
  rcases ok_cases i s r with h1 | ⟨a, ha, h2, h3, h4⟩
  · rw [rdy_noSt h1] at h; cases h
  · rcases fm_cases f with ⟨hb, _⟩ | ⟨g, hb, hf, hs4, _⟩
    · rw [rdy_noFm hb] at h; cases h
    · exact ⟨a, g, ha, h2, h3, h4, hf, hs4⟩

end Go.Proofs.YteonanaihklgmaaDoor
