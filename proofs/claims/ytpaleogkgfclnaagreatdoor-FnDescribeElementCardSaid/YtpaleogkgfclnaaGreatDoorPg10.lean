/-
  Laws of the functions that the claim reaches, one after the other (packed by a program of the prover's: DesB, DesG, DesC, DesD). Conditions: texts below the reach.
-/
import Derived.Test.YtpaleogkgfclnaaGreatDoorPg9
import Derived.Test.YtpaleogkgfclnaaGreatDoorPg1
import Derived.Test.YtpaleogkgfclnaaGreatDoorPg4
set_option linter.unusedSimpArgs false
set_option linter.unusedVariables false

namespace Go.Proofs.YtpaleogkgfclnaaGreatDoor
open Go.RowKit
open Pl
set_option linter.unusedSimpArgs false
set_option linter.unusedVariables false
attribute [local go_sem ↓] Go.wp_at_zero Go.wp_at_succ

def rowL (S : Nat → Bool) (R : Nat → Nat → Bool) (k j : Nat) : List ByteArray := txs ((tellIn S R noQ k j).map sgnP)
theorem rowL_len (S : Nat → Bool) (R : Nat → Nat → Bool) (k j : Nat) : (rowL S R k j).length = 2 + 3 * j := by unfold rowL; rw [txs, List.length_map, List.length_map, tellIn_len]
theorem rowL_zero (S : Nat → Bool) (R : Nat → Nat → Bool) (k : Nat) : strsV (rowL S R k 0) = [.string (bs (sgn (S k) (.pr (vf k))).text), .string (bs (sgn (R k k) (.rel (vf k) (vf k))).text)] := rfl
theorem rowL_succ (S : Nat → Bool) (R : Nat → Nat → Bool) (k j : Nat) : strsV (rowL S R k (j + 1)) = strsV (rowL S R k j) ++ [.string (bs (sgn false (.eq (vf j) (vf k))).text), .string (bs (sgn (R j k) (.rel (vf j) (vf k))).text), .string (bs (sgn (R k j) (.rel (vf k) (vf j))).text)] := by
  unfold rowL
  rw [tellIn_succ, List.map_append, txs, List.map_append, strsV, List.map_append]
  rfl
theorem rowL_all (S : Nat → Bool) (R : Nat → Nat → Bool) (k : Nat) : rowL S R k k = txs (factsAt S R noQ k) := by unfold rowL; rw [tellIn_facts]
theorem app_cell {w : World} {g k : Nat} {m : List Nat} (h : LRow w (some ⟨g, 0, none⟩) (natsI m)) (hk : k < m.length) : w.cell? ⟨g, k, none⟩ = some (.int .i64 (app m k : Nat)) := by
  obtain ⟨g', e, hc⟩ := LRow.nats h hk
  cases e
  exact hc
theorem three_str (a b c : ByteArray) : ∀ u ∈ [Value.string a, .string b, .string c], u.oneCell' = true := by
  intro u hu
  simp at hu
  rcases hu with rfl | rfl | rfl <;> rfl
theorem own_lit (w : World) (t : TypeId) (a b : Value) : (w.alloc (.cells #[a, b] t)).ownsRow w.heap.size t 1 (.slice (some ⟨w.heap.size, 0, none⟩) 2 2) 2 [a, b] :=
  ⟨rfl, .inr ⟨_, 2, #[a, b], rfl, Nat.le_refl _, Bx.new w _ _, Nat.le_refl _, by unfold maxLen; omega, rfl, rfl⟩⟩
theorem l3Atom_at (f : Fm) (t : ByteArray) (b : Bool) (ht : t = bs f.text) (hl : f.text.length ≤ 3) (w : World) : Calls Tryz.prog 98 #[.bool b, .string t] w fun e w' => e = .returned (.string (bs (sgn b f).text)) ∧ w = w' := by
  subst ht
  exact l3Atom_calls f b hl w
/-- what l3Facts gives back -/
def RowP (B n : Nat) (zs : List ByteArray) (e : Ending) (w' : World) : Prop := ∃ g cp, e = .returned (.slice (some ⟨g, 0, none⟩) n cp) ∧ w'.ownsRow B 9 1 (.slice (some ⟨g, 0, none⟩) n cp) n (strsV zs)

set_option maxHeartbeats 16000000 in
set_option maxRecDepth 100000 in
theorem l3Facts_calls (a : St) (ha : a.ok) (m : List Nat) (hm : IsPerm a.n m) (h4 : a.n ≤ 4) (k : Nat) (hk : k < a.n) (g cap : Nat) (hcap : a.n ≤ cap) (w : World) (hA : LRow w (some ⟨g, 0, none⟩) (natsI m)) :
    Calls Tryz.prog 81 #[stV (a.n : Int) (bs a.set) (bs a.rel), .slice (some ⟨g, 0, none⟩) (k + 1) cap] w fun e w' => RowP w.heap.size (2 + 3 * k) (txs (factsAt (fun i => a.inS (app m i)) (fun i j => a.inR (app m i) (app m j)) noQ k)) e w' ∧ Below w.heap.size w w' := by
  obtain ⟨i0, hi, hz0, hz1, hz2⟩ := info_parts (P := Tryz.prog) (e := 9) (z := .string ⟨#[]⟩) (size := 1) (bytes := 16) (by kernel_rfl)
  have hml := hm.len
  have hk4 : k < 4 := by omega
  have hkm : k < m.length := by omega
  have hmk := hm.app_lt hk
  have HSE := Lib.hid (fun W => l1Set_calls a ha (app m k) hmk W)
  have HRE := Lib.hid (fun W => l1Rel_calls a ha (app m k) (app m k) hmk hmk W)
  have hat := l3Atom_at
  have HAT := Lib.hid hat
  have hnm := nm_cut hk4
  have hb1 : (k : Int) < (k : Int) + 1 := by omega
  have hs1 := nm_size k
  obtain ⟨S, hS⟩ : ∃ S : Nat → Bool, S = fun i => a.inS (app m i) := ⟨_, rfl⟩
  obtain ⟨R, hR⟩ : ∃ R : Nat → Nat → Bool, R = fun i j => a.inR (app m i) (app m j) := ⟨_, rfl⟩
  rw [← hS, ← hR]
  have hSk : S k = a.inS (app m k) := by rw [hS]
  have hRk : ∀ i j, R i j = a.inR (app m i) (app m j) := fun i j => by rw [hR]
  have HSK := Lib.hid hSk
  have HRK0 := Lib.hid hRk
  have HA := Lib.hid hA
  have HM := Lib.hid hm
  have HR1 := Lib.hid (fun (j : Nat) (hj : j < a.n) (W : World) => l1Rel_calls a ha (app m j) (app m k) (hm.app_lt hj) hmk W)
  have HR2 := Lib.hid (fun (j : Nat) (hj : j < a.n) (W : World) => l1Rel_calls a ha (app m k) (app m j) hmk (hm.app_lt hj) W)
  have X0 := Lib.hid (Bx.new w 24 #[.int .i64 (a.n : Int), .string (bs a.set), .string (bs a.rel)])
  have B0 := Lib.hid ((Below.refl w.heap.size w).alloc (Nat.le_refl _) (.cells #[.int .i64 (a.n : Int), .string (bs a.set), .string (bs a.rel)] 24))
  clear hS hR hSk hRk hA hat hmk hm
  go_enter Tryz.func81, Tryz.ntmps81
  go_upto_region 3 with (fail)
  have X1 := Lib.hid X0.out.drew
  have B1 := Lib.hid B0.out.drew
  have A1 := Lib.hid (HA.out.call B1.out)
  refine region_sched [(0, true), (1, true), (2, true), (3, true), (4, true), (6, true), (7, true), (9, true), (10, true), (11, true), (12, true), (13, true), (14, true), (15, true), (16, true), (17, true), (19, true), (20, true), (21, true), (22, true), (5, false), (8, false), (18, false), (23, false), (24, false), (25, true)] (fun w' : World => (w'.cell? ⟨w.heap.size, 0, none⟩ = some (.int .i64 (a.n : Int)) ∧ w'.cell? ⟨w.heap.size, 1, none⟩ = some (.string (bs a.set)) ∧ w'.cell? ⟨w.heap.size, 2, none⟩ = some (.string (bs a.rel))) ∧ w'.cell? ⟨g, k, none⟩ = some (.int .i64 (app m k : Nat))) (by kernel_rfl) (by kernel_rfl) (by kernel_rfl) (by kernel_rfl) (fun _ _ _ _ h => h) ?_ (fun Q1 hQ1 => ?_)
  · exact ⟨box_load X1.out, app_cell A1.out hkm⟩
  try simp only [List.append]
  refine sched_take' (v := .agg #[.int .i64 (a.n : Int), .string (bs a.set), .string (bs a.rel)]) (a' := ?_) rfl (by kernel_rfl) ?_ rfl ?_ ?_
  rotate_left 1
  · intro w hSw
    (try dsimp only at hSw)
    go_simp
    first | done | (obtain ⟨⟨u0, u1, u2⟩, u3⟩ := hSw; simp [*])
  · (try simp only [Act.put, List.setIfInBounds_toArray, List.set_cons_zero, List.set_cons_succ])
    try rfl
  refine sched_take' (v := ?_) (a' := ?_) rfl (by kernel_rfl) ?_ rfl ?_ ?_
  rotate_left 2
  · intro w hSw
    (try dsimp only at hSw)
    go_simp
    try with_reducible rfl
  · (try simp only [Act.put, List.setIfInBounds_toArray, List.set_cons_zero, List.set_cons_succ])
    try rfl
  refine sched_take' (v := ?_) (a' := ?_) rfl (by kernel_rfl) ?_ rfl ?_ ?_
  rotate_left 2
  · intro w hSw
    (try dsimp only at hSw)
    go_simp
    try with_reducible rfl
  · (try simp only [Act.put, List.setIfInBounds_toArray, List.set_cons_zero, List.set_cons_succ])
    try rfl
  refine sched_take' (v := ?_) (a' := ?_) rfl (by kernel_rfl) ?_ rfl ?_ ?_
  rotate_left 2
  · intro w hSw
    (try dsimp only at hSw)
    go_simp
    try with_reducible rfl
  · (try simp only [Act.put, List.setIfInBounds_toArray, List.set_cons_zero, List.set_cons_succ])
    try rfl
  refine sched_take' (v := .int .i64 (app m k : Nat)) (a' := ?_) rfl (by kernel_rfl) ?_ rfl ?_ ?_
  rotate_left 1
  · intro w hSw
    (try dsimp only at hSw)
    go_simp
    first | done | (obtain ⟨⟨u0, u1, u2⟩, u3⟩ := hSw; simp [*])
  · (try simp only [Act.put, List.setIfInBounds_toArray, List.set_cons_zero, List.set_cons_succ])
    try rfl
  refine sched_take' (v := ?_) (a' := ?_) rfl (by kernel_rfl) ?_ rfl ?_ ?_
  rotate_left 2
  · intro w hSw
    (try dsimp only at hSw)
    go_simp
    try with_reducible rfl
  · (try simp only [Act.put, List.setIfInBounds_toArray, List.set_cons_zero, List.set_cons_succ])
    try rfl
  refine sched_take' (v := .string (⟨#[80]⟩ ++ nmT k)) (a' := ?_) rfl (by kernel_rfl) ?_ rfl ?_ ?_
  rotate_left 1
  · intro w hSw
    (try dsimp only at hSw)
    go_simp
    first | done | omega | (rw [if_neg (by omega)]) | (simp; omega)
  · (try simp only [Act.put, List.setIfInBounds_toArray, List.set_cons_zero, List.set_cons_succ])
    try rfl
  refine sched_take' (v := .agg #[.int .i64 (a.n : Int), .string (bs a.set), .string (bs a.rel)]) (a' := ?_) rfl (by kernel_rfl) ?_ rfl ?_ ?_
  rotate_left 1
  · intro w hSw
    (try dsimp only at hSw)
    go_simp
    first | done | (obtain ⟨⟨u0, u1, u2⟩, u3⟩ := hSw; simp [*])
  · (try simp only [Act.put, List.setIfInBounds_toArray, List.set_cons_zero, List.set_cons_succ])
    try rfl
  refine sched_take' (v := ?_) (a' := ?_) rfl (by kernel_rfl) ?_ rfl ?_ ?_
  rotate_left 2
  · intro w hSw
    (try dsimp only at hSw)
    go_simp
    try with_reducible rfl
  · (try simp only [Act.put, List.setIfInBounds_toArray, List.set_cons_zero, List.set_cons_succ])
    try rfl
  refine sched_take' (v := ?_) (a' := ?_) rfl (by kernel_rfl) ?_ rfl ?_ ?_
  rotate_left 2
  · intro w hSw
    (try dsimp only at hSw)
    go_simp
    try with_reducible rfl
  · (try simp only [Act.put, List.setIfInBounds_toArray, List.set_cons_zero, List.set_cons_succ])
    try rfl
  refine sched_take' (v := ?_) (a' := ?_) rfl (by kernel_rfl) ?_ rfl ?_ ?_
  rotate_left 2
  · intro w hSw
    (try dsimp only at hSw)
    go_simp
    try with_reducible rfl
  · (try simp only [Act.put, List.setIfInBounds_toArray, List.set_cons_zero, List.set_cons_succ])
    try rfl
  refine sched_take' (v := .int .i64 (app m k : Nat)) (a' := ?_) rfl (by kernel_rfl) ?_ rfl ?_ ?_
  rotate_left 1
  · intro w hSw
    (try dsimp only at hSw)
    go_simp
    first | done | (obtain ⟨⟨u0, u1, u2⟩, u3⟩ := hSw; simp [*])
  · (try simp only [Act.put, List.setIfInBounds_toArray, List.set_cons_zero, List.set_cons_succ])
    try rfl
  refine sched_take' (v := ?_) (a' := ?_) rfl (by kernel_rfl) ?_ rfl ?_ ?_
  rotate_left 2
  · intro w hSw
    (try dsimp only at hSw)
    go_simp
    try with_reducible rfl
  · (try simp only [Act.put, List.setIfInBounds_toArray, List.set_cons_zero, List.set_cons_succ])
    try rfl
  refine sched_take' (v := ?_) (a' := ?_) rfl (by kernel_rfl) ?_ rfl ?_ ?_
  rotate_left 2
  · intro w hSw
    (try dsimp only at hSw)
    go_simp
    try with_reducible rfl
  · (try simp only [Act.put, List.setIfInBounds_toArray, List.set_cons_zero, List.set_cons_succ])
    try rfl
  refine sched_take' (v := ?_) (a' := ?_) rfl (by kernel_rfl) ?_ rfl ?_ ?_
  rotate_left 2
  · intro w hSw
    (try dsimp only at hSw)
    go_simp
    try with_reducible rfl
  · (try simp only [Act.put, List.setIfInBounds_toArray, List.set_cons_zero, List.set_cons_succ])
    try rfl
  refine sched_take' (v := .int .i64 (app m k : Nat)) (a' := ?_) rfl (by kernel_rfl) ?_ rfl ?_ ?_
  rotate_left 1
  · intro w hSw
    (try dsimp only at hSw)
    go_simp
    first | done | (obtain ⟨⟨u0, u1, u2⟩, u3⟩ := hSw; simp [*])
  · (try simp only [Act.put, List.setIfInBounds_toArray, List.set_cons_zero, List.set_cons_succ])
    try rfl
  refine sched_take' (v := ?_) (a' := ?_) rfl (by kernel_rfl) ?_ rfl ?_ ?_
  rotate_left 2
  · intro w hSw
    (try dsimp only at hSw)
    go_simp
    try with_reducible rfl
  · (try simp only [Act.put, List.setIfInBounds_toArray, List.set_cons_zero, List.set_cons_succ])
    try rfl
  refine sched_take' (v := .string (⟨#[69]⟩ ++ nmT k)) (a' := ?_) rfl (by kernel_rfl) ?_ rfl ?_ ?_
  rotate_left 1
  · intro w hSw
    (try dsimp only at hSw)
    go_simp
    first | done | omega | (rw [if_neg (by omega)]) | (simp; omega)
  · (try simp only [Act.put, List.setIfInBounds_toArray, List.set_cons_zero, List.set_cons_succ])
    try rfl
  refine sched_take' (v := ?_) (a' := ?_) rfl (by kernel_rfl) ?_ rfl ?_ ?_
  rotate_left 2
  · intro w hSw
    (try dsimp only at hSw)
    go_simp
    try with_reducible rfl
  · (try simp only [Act.put, List.setIfInBounds_toArray, List.set_cons_zero, List.set_cons_succ])
    try rfl
  refine sched_take' (v := .string (⟨#[69]⟩ ++ nmT k ++ nmT k)) (a' := ?_) rfl (by kernel_rfl) ?_ rfl ?_ ?_
  rotate_left 1
  · intro w hSw
    (try dsimp only at hSw)
    go_simp
    first | done | omega | (rw [if_neg (by omega)]) | (simp; omega)
  · (try simp only [Act.put, List.setIfInBounds_toArray, List.set_cons_zero, List.set_cons_succ])
    try rfl
  refine sched_call rfl (by kernel_rfl) (fun K1 hK1 => ?_)
  go_simp
  refine (HSE.out _).mono ?_
  rintro e w2 ⟨rfl, hz⟩
  have X2 := Lib.hid (X1.out.call hz)
  have A2 := Lib.hid (A1.out.call hz)
  have B2 := Lib.hid (B1.out.trans (hz.mono B1.out.size))
  clear hz
  go_wp2_with fail
  refine hK1.out _ _ ?_ (sched_lay (a' := ?_) ?_ ?_)
  · exact ⟨box_load X2.out, app_cell A2.out hkm⟩
  rotate_left 1
  · (try simp only [Act.put, List.getElem_toArray, List.getElem_cons_succ, List.getElem_cons_zero, List.setIfInBounds_toArray, List.set_cons_zero, List.set_cons_succ])
    try rfl
  clear hK1 K1
  refine sched_call rfl (by kernel_rfl) (fun K1 hK1 => ?_)
  go_simp
  refine (HAT.out (.pr (vf k)) _ _ (pr_text k) (by simp [Fm.text]) _).mono ?_
  rintro e wx ⟨rfl, rfl⟩
  go_wp2_with fail
  refine hK1.out _ _ ?_ (sched_lay (a' := ?_) ?_ ?_)
  · exact ⟨box_load X2.out, app_cell A2.out hkm⟩
  rotate_left 1
  · (try simp only [Act.put, List.getElem_toArray, List.getElem_cons_succ, List.getElem_cons_zero, List.setIfInBounds_toArray, List.set_cons_zero, List.set_cons_succ])
    try rfl
  clear hK1 K1
  refine sched_call rfl (by kernel_rfl) (fun K1 hK1 => ?_)
  go_simp
  refine (HRE.out _).mono ?_
  rintro e w3 ⟨rfl, hz⟩
  have X3 := Lib.hid (X2.out.call hz)
  have A3 := Lib.hid (A2.out.call hz)
  have B3 := Lib.hid (B2.out.trans (hz.mono B2.out.size))
  clear hz
  go_wp2_with fail
  refine hK1.out _ _ ?_ (sched_lay (a' := ?_) ?_ ?_)
  · exact ⟨box_load X3.out, app_cell A3.out hkm⟩
  rotate_left 1
  · (try simp only [Act.put, List.getElem_toArray, List.getElem_cons_succ, List.getElem_cons_zero, List.setIfInBounds_toArray, List.set_cons_zero, List.set_cons_succ])
    try rfl
  clear hK1 K1
  refine sched_call rfl (by kernel_rfl) (fun K1 hK1 => ?_)
  go_simp
  refine (HAT.out (.rel (vf k) (vf k)) _ _ (rel_text k k) (by simp [Fm.text]) _).mono ?_
  rintro e wx ⟨rfl, rfl⟩
  go_wp2_with fail
  refine hK1.out _ _ ?_ (sched_lay (a' := ?_) ?_ ?_)
  · exact ⟨box_load X3.out, app_cell A3.out hkm⟩
  rotate_left 1
  · (try simp only [Act.put, List.getElem_toArray, List.getElem_cons_succ, List.getElem_cons_zero, List.setIfInBounds_toArray, List.set_cons_zero, List.set_cons_succ])
    try rfl
  clear hK1 K1
  refine sched_call rfl (by kernel_rfl) (fun K1 hK1 => ?_)
  go_simp
  refine hK1.out _ _ ?_ (sched_lay (a' := ?_) ?_ ?_)
  · exact ⟨box_load (X3.out.alloc _), app_cell (A3.out.alloc _) hkm⟩
  rotate_left 1
  · (try simp only [Act.put, List.getElem_toArray, List.getElem_cons_succ, List.getElem_cons_zero, List.setIfInBounds_toArray, List.set_cons_zero, List.set_cons_succ])
    try rfl
  clear hK1 K1
  refine sched_take' (v := ?_) (a' := ?_) rfl (by kernel_rfl) ?_ rfl ?_ ?_
  rotate_left 2
  · intro w hSw
    (try dsimp only at hSw)
    go_simp
    try with_reducible rfl
  · (try simp only [Act.put, List.setIfInBounds_toArray, List.set_cons_zero, List.set_cons_succ])
    try rfl
  refine sched_done (hQ1.out _ _ ?_)
  have Q4 := Lib.hid (show (w3.alloc (.cells #[.string (bs (sgn (a.inS (app m k)) (.pr (vf k))).text), .string (bs (sgn (a.inR (app m k) (app m k)) (.rel (vf k) (vf k))).text)] 9)).ownsRow w.heap.size 9 1 (.slice (some ⟨w3.heap.size, 0, none⟩) (2 + 3 * 0) 2) (2 + 3 * 0) (strsV (rowL S R k 0)) from by
    rw [rowL_zero, HSK.out, HRK0.out]
    exact own_base (own_lit w3 9 _ _) B3.out.size)
  have X4 := Lib.hid (X3.out.alloc (.cells #[.string (bs (sgn (a.inS (app m k)) (.pr (vf k))).text), .string (bs (sgn (a.inR (app m k) (app m k)) (.rel (vf k) (vf k))).text)] 9))
  have B4 := Lib.hid (B3.out.alloc B3.out.size (.cells #[.string (bs (sgn (a.inS (app m k)) (.pr (vf k))).text), .string (bs (sgn (a.inR (app m k) (app m k)) (.rel (vf k) (vf k))).text)] 9))
  clear X0 X1 X2 X3 B0 B1 B2 B3 A1 A2 A3 HSE HRE
  go_wp2_with fail
  go_loopg [7, 8] k (fun q ov iv wr => ∃ (j g' cp : Nat), j + q = k ∧ iv = .int .i64 (j : Nat) ∧ ov = .slice (some ⟨g', 0, none⟩) (2 + 3 * j) cp ∧ wr.ownsRow w.heap.size 9 1 (.slice (some ⟨g', 0, none⟩) (2 + 3 * j) cp) (2 + 3 * j) (strsV (rowL S R k j)) ∧ Bx wr w.heap.size 24 #[.int .i64 (a.n : Int), .string (bs a.set), .string (bs a.rel)] ∧ Below w.heap.size w wr)
  case atStart => exact ⟨0, _, 2, by omega, rfl, rfl, Q4.out, X4.out, B4.out⟩
  case round =>
    clear Q4 X4 B4
    obtain ⟨j, g', cp, hj, rfl, rfl, ho, hx, hb⟩ := hrel
    have O0 := Lib.hid ho
    have X0 := Lib.hid hx
    have B0 := Lib.hid hb
    clear ho hx hb
    obtain ⟨wo, rfl⟩ : ∃ x, x = wr := ⟨wr, rfl⟩
    by_cases hlt : j < k
    · have hj4 : j < 4 := by omega
      have hjm : j < m.length := by omega
      have hjn : j < a.n := by omega
      have hnj := nm_cut hj4
      have hb2 : (j : Int) < (k : Int) + 1 := by omega
      have hs2 := nm_size j
      have HRJ := Lib.hid (HR1.out j hjn)
      have HRK := Lib.hid (HR2.out j hjn)
      have heq : (((app m j : Nat) : Int) == ((app m k : Nat) : Int)) = false := by
        rw [beq_eq_false_iff_ne]
        intro e
        have := HM.out.inj hjn hk (by omega)
        omega
      go_upto_region 8 with (fail)
      have O1 := Lib.hid (own_call O0.out (Below.refl _ _).drew)
      have X1 := Lib.hid X0.out.drew
      have B1 := Lib.hid B0.out.drew
      have A1 := Lib.hid (HA.out.call B1.out)
      refine region_sched [(0, true), (1, true), (2, true), (3, true), (4, true), (5, true), (6, true), (7, true), (8, true), (9, true), (10, true), (11, true), (12, true), (13, true), (15, true), (16, true), (17, true), (18, true), (19, true), (20, true), (21, true), (22, true), (23, true), (25, true), (26, true), (27, true), (28, true), (30, true), (31, true), (32, true), (33, true), (34, true), (35, true), (36, true), (37, true), (38, true), (40, true), (41, true), (42, true), (43, true), (14, false), (24, false), (29, false), (39, false), (44, false), (45, false), (46, false), (47, true)] (fun w' : World => (w'.cell? ⟨w.heap.size, 0, none⟩ = some (.int .i64 (a.n : Int)) ∧ w'.cell? ⟨w.heap.size, 1, none⟩ = some (.string (bs a.set)) ∧ w'.cell? ⟨w.heap.size, 2, none⟩ = some (.string (bs a.rel))) ∧ w'.cell? ⟨g, k, none⟩ = some (.int .i64 (app m k : Nat)) ∧ w'.cell? ⟨g, j, none⟩ = some (.int .i64 (app m j : Nat))) (by kernel_rfl) (by kernel_rfl) (by kernel_rfl) (by kernel_rfl) (fun _ _ _ _ h => h) ?_ (fun Q1 hQ1 => ?_)
      · exact ⟨box_load X1.out, app_cell A1.out hkm, app_cell A1.out hjm⟩
      try simp only [List.append]
      refine sched_take' (v := ?_) (a' := ?_) rfl (by kernel_rfl) ?_ rfl ?_ ?_
      rotate_left 2
      · intro w hSw
        (try dsimp only at hSw)
        go_simp
        try with_reducible rfl
      · (try simp only [Act.put, List.setIfInBounds_toArray, List.set_cons_zero, List.set_cons_succ])
        try rfl
      refine sched_take' (v := ?_) (a' := ?_) rfl (by kernel_rfl) ?_ rfl ?_ ?_
      rotate_left 2
      · intro w hSw
        (try dsimp only at hSw)
        go_simp
        try with_reducible rfl
      · (try simp only [Act.put, List.setIfInBounds_toArray, List.set_cons_zero, List.set_cons_succ])
        try rfl
      refine sched_take' (v := ?_) (a' := ?_) rfl (by kernel_rfl) ?_ rfl ?_ ?_
      rotate_left 2
      · intro w hSw
        (try dsimp only at hSw)
        go_simp
        try with_reducible rfl
      · (try simp only [Act.put, List.setIfInBounds_toArray, List.set_cons_zero, List.set_cons_succ])
        try rfl
      refine sched_take' (v := ?_) (a' := ?_) rfl (by kernel_rfl) ?_ rfl ?_ ?_
      rotate_left 2
      · intro w hSw
        (try dsimp only at hSw)
        go_simp
        try with_reducible rfl
      · (try simp only [Act.put, List.setIfInBounds_toArray, List.set_cons_zero, List.set_cons_succ])
        try rfl
      refine sched_take' (v := .int .i64 (app m j : Nat)) (a' := ?_) rfl (by kernel_rfl) ?_ rfl ?_ ?_
      rotate_left 1
      · intro w hSw
        (try dsimp only at hSw)
        go_simp
        first | done | (obtain ⟨⟨u0, u1, u2⟩, u3, u4⟩ := hSw; simp [*])
      · (try simp only [Act.put, List.setIfInBounds_toArray, List.set_cons_zero, List.set_cons_succ])
        try rfl
      refine sched_take' (v := ?_) (a' := ?_) rfl (by kernel_rfl) ?_ rfl ?_ ?_
      rotate_left 2
      · intro w hSw
        (try dsimp only at hSw)
        go_simp
        try with_reducible rfl
      · (try simp only [Act.put, List.setIfInBounds_toArray, List.set_cons_zero, List.set_cons_succ])
        try rfl
      refine sched_take' (v := ?_) (a' := ?_) rfl (by kernel_rfl) ?_ rfl ?_ ?_
      rotate_left 2
      · intro w hSw
        (try dsimp only at hSw)
        go_simp
        try with_reducible rfl
      · (try simp only [Act.put, List.setIfInBounds_toArray, List.set_cons_zero, List.set_cons_succ])
        try rfl
      refine sched_take' (v := ?_) (a' := ?_) rfl (by kernel_rfl) ?_ rfl ?_ ?_
      rotate_left 2
      · intro w hSw
        (try dsimp only at hSw)
        go_simp
        try with_reducible rfl
      · (try simp only [Act.put, List.setIfInBounds_toArray, List.set_cons_zero, List.set_cons_succ])
        try rfl
      refine sched_take' (v := .int .i64 (app m k : Nat)) (a' := ?_) rfl (by kernel_rfl) ?_ rfl ?_ ?_
      rotate_left 1
      · intro w hSw
        (try dsimp only at hSw)
        go_simp
        first | done | (obtain ⟨⟨u0, u1, u2⟩, u3, u4⟩ := hSw; simp [*])
      · (try simp only [Act.put, List.setIfInBounds_toArray, List.set_cons_zero, List.set_cons_succ])
        try rfl
      refine sched_take' (v := .bool false) (a' := ?_) rfl (by kernel_rfl) ?_ rfl ?_ ?_
      rotate_left 1
      · intro w hSw
        (try dsimp only at hSw)
        go_simp
        first | done | exact heq | (simp [heq]; done) | (rw [heq])
      · (try simp only [Act.put, List.setIfInBounds_toArray, List.set_cons_zero, List.set_cons_succ])
        try rfl
      refine sched_take' (v := ?_) (a' := ?_) rfl (by kernel_rfl) ?_ rfl ?_ ?_
      rotate_left 2
      · intro w hSw
        (try dsimp only at hSw)
        go_simp
        try with_reducible rfl
      · (try simp only [Act.put, List.setIfInBounds_toArray, List.set_cons_zero, List.set_cons_succ])
        try rfl
      refine sched_take' (v := .string (⟨#[61]⟩ ++ nmT j)) (a' := ?_) rfl (by kernel_rfl) ?_ rfl ?_ ?_
      rotate_left 1
      · intro w hSw
        (try dsimp only at hSw)
        go_simp
        first | done | omega | (rw [if_neg (by omega)]) | (simp; omega)
      · (try simp only [Act.put, List.setIfInBounds_toArray, List.set_cons_zero, List.set_cons_succ])
        try rfl
      refine sched_take' (v := ?_) (a' := ?_) rfl (by kernel_rfl) ?_ rfl ?_ ?_
      rotate_left 2
      · intro w hSw
        (try dsimp only at hSw)
        go_simp
        try with_reducible rfl
      · (try simp only [Act.put, List.setIfInBounds_toArray, List.set_cons_zero, List.set_cons_succ])
        try rfl
      refine sched_take' (v := .string (⟨#[61]⟩ ++ nmT j ++ nmT k)) (a' := ?_) rfl (by kernel_rfl) ?_ rfl ?_ ?_
      rotate_left 1
      · intro w hSw
        (try dsimp only at hSw)
        go_simp
        first | done | omega | (rw [if_neg (by omega)]) | (simp; omega)
      · (try simp only [Act.put, List.setIfInBounds_toArray, List.set_cons_zero, List.set_cons_succ])
        try rfl
      refine sched_take' (v := .agg #[.int .i64 (a.n : Int), .string (bs a.set), .string (bs a.rel)]) (a' := ?_) rfl (by kernel_rfl) ?_ rfl ?_ ?_
      rotate_left 1
      · intro w hSw
        (try dsimp only at hSw)
        go_simp
        first | done | (obtain ⟨⟨u0, u1, u2⟩, u3, u4⟩ := hSw; simp [*])
      · (try simp only [Act.put, List.setIfInBounds_toArray, List.set_cons_zero, List.set_cons_succ])
        try rfl
      refine sched_take' (v := ?_) (a' := ?_) rfl (by kernel_rfl) ?_ rfl ?_ ?_
      rotate_left 2
      · intro w hSw
        (try dsimp only at hSw)
        go_simp
        try with_reducible rfl
      · (try simp only [Act.put, List.setIfInBounds_toArray, List.set_cons_zero, List.set_cons_succ])
        try rfl
      refine sched_take' (v := ?_) (a' := ?_) rfl (by kernel_rfl) ?_ rfl ?_ ?_
      rotate_left 2
      · intro w hSw
        (try dsimp only at hSw)
        go_simp
        try with_reducible rfl
      · (try simp only [Act.put, List.setIfInBounds_toArray, List.set_cons_zero, List.set_cons_succ])
        try rfl
      refine sched_take' (v := ?_) (a' := ?_) rfl (by kernel_rfl) ?_ rfl ?_ ?_
      rotate_left 2
      · intro w hSw
        (try dsimp only at hSw)
        go_simp
        try with_reducible rfl
      · (try simp only [Act.put, List.setIfInBounds_toArray, List.set_cons_zero, List.set_cons_succ])
        try rfl
      refine sched_take' (v := .int .i64 (app m j : Nat)) (a' := ?_) rfl (by kernel_rfl) ?_ rfl ?_ ?_
      rotate_left 1
      · intro w hSw
        (try dsimp only at hSw)
        go_simp
        first | done | (obtain ⟨⟨u0, u1, u2⟩, u3, u4⟩ := hSw; simp [*])
      · (try simp only [Act.put, List.setIfInBounds_toArray, List.set_cons_zero, List.set_cons_succ])
        try rfl
      refine sched_take' (v := ?_) (a' := ?_) rfl (by kernel_rfl) ?_ rfl ?_ ?_
      rotate_left 2
      · intro w hSw
        (try dsimp only at hSw)
        go_simp
        try with_reducible rfl
      · (try simp only [Act.put, List.setIfInBounds_toArray, List.set_cons_zero, List.set_cons_succ])
        try rfl
      refine sched_take' (v := ?_) (a' := ?_) rfl (by kernel_rfl) ?_ rfl ?_ ?_
      rotate_left 2
      · intro w hSw
        (try dsimp only at hSw)
        go_simp
        try with_reducible rfl
      · (try simp only [Act.put, List.setIfInBounds_toArray, List.set_cons_zero, List.set_cons_succ])
        try rfl
      refine sched_take' (v := ?_) (a' := ?_) rfl (by kernel_rfl) ?_ rfl ?_ ?_
      rotate_left 2
      · intro w hSw
        (try dsimp only at hSw)
        go_simp
        try with_reducible rfl
      · (try simp only [Act.put, List.setIfInBounds_toArray, List.set_cons_zero, List.set_cons_succ])
        try rfl
      refine sched_take' (v := .int .i64 (app m k : Nat)) (a' := ?_) rfl (by kernel_rfl) ?_ rfl ?_ ?_
      rotate_left 1
      · intro w hSw
        (try dsimp only at hSw)
        go_simp
        first | done | (obtain ⟨⟨u0, u1, u2⟩, u3, u4⟩ := hSw; simp [*])
      · (try simp only [Act.put, List.setIfInBounds_toArray, List.set_cons_zero, List.set_cons_succ])
        try rfl
      refine sched_take' (v := ?_) (a' := ?_) rfl (by kernel_rfl) ?_ rfl ?_ ?_
      rotate_left 2
      · intro w hSw
        (try dsimp only at hSw)
        go_simp
        try with_reducible rfl
      · (try simp only [Act.put, List.setIfInBounds_toArray, List.set_cons_zero, List.set_cons_succ])
        try rfl
      refine sched_take' (v := .string (⟨#[69]⟩ ++ nmT j)) (a' := ?_) rfl (by kernel_rfl) ?_ rfl ?_ ?_
      rotate_left 1
      · intro w hSw
        (try dsimp only at hSw)
        go_simp
        first | done | omega | (rw [if_neg (by omega)]) | (simp; omega)
      · (try simp only [Act.put, List.setIfInBounds_toArray, List.set_cons_zero, List.set_cons_succ])
        try rfl
      refine sched_take' (v := ?_) (a' := ?_) rfl (by kernel_rfl) ?_ rfl ?_ ?_
      rotate_left 2
      · intro w hSw
        (try dsimp only at hSw)
        go_simp
        try with_reducible rfl
      · (try simp only [Act.put, List.setIfInBounds_toArray, List.set_cons_zero, List.set_cons_succ])
        try rfl
      refine sched_take' (v := .string (⟨#[69]⟩ ++ nmT j ++ nmT k)) (a' := ?_) rfl (by kernel_rfl) ?_ rfl ?_ ?_
      rotate_left 1
      · intro w hSw
        (try dsimp only at hSw)
        go_simp
        first | done | omega | (rw [if_neg (by omega)]) | (simp; omega)
      · (try simp only [Act.put, List.setIfInBounds_toArray, List.set_cons_zero, List.set_cons_succ])
        try rfl
      refine sched_take' (v := .agg #[.int .i64 (a.n : Int), .string (bs a.set), .string (bs a.rel)]) (a' := ?_) rfl (by kernel_rfl) ?_ rfl ?_ ?_
      rotate_left 1
      · intro w hSw
        (try dsimp only at hSw)
        go_simp
        first | done | (obtain ⟨⟨u0, u1, u2⟩, u3, u4⟩ := hSw; simp [*])
      · (try simp only [Act.put, List.setIfInBounds_toArray, List.set_cons_zero, List.set_cons_succ])
        try rfl
      refine sched_take' (v := ?_) (a' := ?_) rfl (by kernel_rfl) ?_ rfl ?_ ?_
      rotate_left 2
      · intro w hSw
        (try dsimp only at hSw)
        go_simp
        try with_reducible rfl
      · (try simp only [Act.put, List.setIfInBounds_toArray, List.set_cons_zero, List.set_cons_succ])
        try rfl
      refine sched_take' (v := ?_) (a' := ?_) rfl (by kernel_rfl) ?_ rfl ?_ ?_
      rotate_left 2
      · intro w hSw
        (try dsimp only at hSw)
        go_simp
        try with_reducible rfl
      · (try simp only [Act.put, List.setIfInBounds_toArray, List.set_cons_zero, List.set_cons_succ])
        try rfl
      refine sched_take' (v := ?_) (a' := ?_) rfl (by kernel_rfl) ?_ rfl ?_ ?_
      rotate_left 2
      · intro w hSw
        (try dsimp only at hSw)
        go_simp
        try with_reducible rfl
      · (try simp only [Act.put, List.setIfInBounds_toArray, List.set_cons_zero, List.set_cons_succ])
        try rfl
      refine sched_take' (v := .int .i64 (app m k : Nat)) (a' := ?_) rfl (by kernel_rfl) ?_ rfl ?_ ?_
      rotate_left 1
      · intro w hSw
        (try dsimp only at hSw)
        go_simp
        first | done | (obtain ⟨⟨u0, u1, u2⟩, u3, u4⟩ := hSw; simp [*])
      · (try simp only [Act.put, List.setIfInBounds_toArray, List.set_cons_zero, List.set_cons_succ])
        try rfl
      refine sched_take' (v := ?_) (a' := ?_) rfl (by kernel_rfl) ?_ rfl ?_ ?_
      rotate_left 2
      · intro w hSw
        (try dsimp only at hSw)
        go_simp
        try with_reducible rfl
      · (try simp only [Act.put, List.setIfInBounds_toArray, List.set_cons_zero, List.set_cons_succ])
        try rfl
      refine sched_take' (v := ?_) (a' := ?_) rfl (by kernel_rfl) ?_ rfl ?_ ?_
      rotate_left 2
      · intro w hSw
        (try dsimp only at hSw)
        go_simp
        try with_reducible rfl
      · (try simp only [Act.put, List.setIfInBounds_toArray, List.set_cons_zero, List.set_cons_succ])
        try rfl
      refine sched_take' (v := ?_) (a' := ?_) rfl (by kernel_rfl) ?_ rfl ?_ ?_
      rotate_left 2
      · intro w hSw
        (try dsimp only at hSw)
        go_simp
        try with_reducible rfl
      · (try simp only [Act.put, List.setIfInBounds_toArray, List.set_cons_zero, List.set_cons_succ])
        try rfl
      refine sched_take' (v := .int .i64 (app m j : Nat)) (a' := ?_) rfl (by kernel_rfl) ?_ rfl ?_ ?_
      rotate_left 1
      · intro w hSw
        (try dsimp only at hSw)
        go_simp
        first | done | (obtain ⟨⟨u0, u1, u2⟩, u3, u4⟩ := hSw; simp [*])
      · (try simp only [Act.put, List.setIfInBounds_toArray, List.set_cons_zero, List.set_cons_succ])
        try rfl
      refine sched_take' (v := ?_) (a' := ?_) rfl (by kernel_rfl) ?_ rfl ?_ ?_
      rotate_left 2
      · intro w hSw
        (try dsimp only at hSw)
        go_simp
        try with_reducible rfl
      · (try simp only [Act.put, List.setIfInBounds_toArray, List.set_cons_zero, List.set_cons_succ])
        try rfl
      refine sched_take' (v := .string (⟨#[69]⟩ ++ nmT k)) (a' := ?_) rfl (by kernel_rfl) ?_ rfl ?_ ?_
      rotate_left 1
      · intro w hSw
        (try dsimp only at hSw)
        go_simp
        first | done | omega | (rw [if_neg (by omega)]) | (simp; omega)
      · (try simp only [Act.put, List.setIfInBounds_toArray, List.set_cons_zero, List.set_cons_succ])
        try rfl
      refine sched_take' (v := ?_) (a' := ?_) rfl (by kernel_rfl) ?_ rfl ?_ ?_
      rotate_left 2
      · intro w hSw
        (try dsimp only at hSw)
        go_simp
        try with_reducible rfl
      · (try simp only [Act.put, List.setIfInBounds_toArray, List.set_cons_zero, List.set_cons_succ])
        try rfl
      refine sched_take' (v := .string (⟨#[69]⟩ ++ nmT k ++ nmT j)) (a' := ?_) rfl (by kernel_rfl) ?_ rfl ?_ ?_
      rotate_left 1
      · intro w hSw
        (try dsimp only at hSw)
        go_simp
        first | done | omega | (rw [if_neg (by omega)]) | (simp; omega)
      · (try simp only [Act.put, List.setIfInBounds_toArray, List.set_cons_zero, List.set_cons_succ])
        try rfl
      refine sched_call rfl (by kernel_rfl) (fun K1 hK1 => ?_)
      go_simp
      refine (HAT.out (.eq (vf j) (vf k)) _ _ (eq_text j k) (by simp [Fm.text]) _).mono ?_
      rintro e wx ⟨rfl, rfl⟩
      go_wp2_with fail
      refine hK1.out _ _ ?_ (sched_lay (a' := ?_) ?_ ?_)
      · exact ⟨box_load X1.out, app_cell A1.out hkm, app_cell A1.out hjm⟩
      rotate_left 1
      · (try simp only [Act.put, List.getElem_toArray, List.getElem_cons_succ, List.getElem_cons_zero, List.setIfInBounds_toArray, List.set_cons_zero, List.set_cons_succ])
        try rfl
      clear hK1 K1
      refine sched_call rfl (by kernel_rfl) (fun K1 hK1 => ?_)
      go_simp
      refine (HRJ.out _).mono ?_
      rintro e w2 ⟨rfl, hz⟩
      have X2 := Lib.hid (X1.out.call hz)
      have A2 := Lib.hid (A1.out.call hz)
      have B2 := Lib.hid (B1.out.trans (hz.mono B1.out.size))
      have O2 := Lib.hid (own_call O1.out hz)
      clear hz
      go_wp2_with fail
      refine hK1.out _ _ ?_ (sched_lay (a' := ?_) ?_ ?_)
      · exact ⟨box_load X2.out, app_cell A2.out hkm, app_cell A2.out hjm⟩
      rotate_left 1
      · (try simp only [Act.put, List.getElem_toArray, List.getElem_cons_succ, List.getElem_cons_zero, List.setIfInBounds_toArray, List.set_cons_zero, List.set_cons_succ])
        try rfl
      clear hK1 K1
      refine sched_call rfl (by kernel_rfl) (fun K1 hK1 => ?_)
      go_simp
      refine (HAT.out (.rel (vf j) (vf k)) _ _ (rel_text j k) (by simp [Fm.text]) _).mono ?_
      rintro e wx ⟨rfl, rfl⟩
      go_wp2_with fail
      refine hK1.out _ _ ?_ (sched_lay (a' := ?_) ?_ ?_)
      · exact ⟨box_load X2.out, app_cell A2.out hkm, app_cell A2.out hjm⟩
      rotate_left 1
      · (try simp only [Act.put, List.getElem_toArray, List.getElem_cons_succ, List.getElem_cons_zero, List.setIfInBounds_toArray, List.set_cons_zero, List.set_cons_succ])
        try rfl
      clear hK1 K1
      refine sched_call rfl (by kernel_rfl) (fun K1 hK1 => ?_)
      go_simp
      refine (HRK.out _).mono ?_
      rintro e w3 ⟨rfl, hz⟩
      have X3 := Lib.hid (X2.out.call hz)
      have A3 := Lib.hid (A2.out.call hz)
      have B3 := Lib.hid (B2.out.trans (hz.mono B2.out.size))
      have O3 := Lib.hid (own_call O2.out hz)
      clear hz
      go_wp2_with fail
      refine hK1.out _ _ ?_ (sched_lay (a' := ?_) ?_ ?_)
      · exact ⟨box_load X3.out, app_cell A3.out hkm, app_cell A3.out hjm⟩
      rotate_left 1
      · (try simp only [Act.put, List.getElem_toArray, List.getElem_cons_succ, List.getElem_cons_zero, List.setIfInBounds_toArray, List.set_cons_zero, List.set_cons_succ])
        try rfl
      clear hK1 K1
      refine sched_call rfl (by kernel_rfl) (fun K1 hK1 => ?_)
      go_simp
      refine (HAT.out (.rel (vf k) (vf j)) _ _ (rel_text k j) (by simp [Fm.text]) _).mono ?_
      rintro e wx ⟨rfl, rfl⟩
      go_wp2_with fail
      refine hK1.out _ _ ?_ (sched_lay (a' := ?_) ?_ ?_)
      · exact ⟨box_load X3.out, app_cell A3.out hkm, app_cell A3.out hjm⟩
      rotate_left 1
      · (try simp only [Act.put, List.getElem_toArray, List.getElem_cons_succ, List.getElem_cons_zero, List.setIfInBounds_toArray, List.set_cons_zero, List.set_cons_succ])
        try rfl
      clear hK1 K1
      refine sched_call rfl (by kernel_rfl) (fun K1 hK1 => ?_)
      go_simp
      have X4 := Lib.hid (X3.out.alloc (.cells #[.string (bs (sgn false (.eq (vf j) (vf k))).text), .string (bs (sgn (a.inR (app m j) (app m k)) (.rel (vf j) (vf k))).text), .string (bs (sgn (a.inR (app m k) (app m j)) (.rel (vf k) (vf j))).text)] 9))
      have A4 := Lib.hid (A3.out.alloc (.cells #[.string (bs (sgn false (.eq (vf j) (vf k))).text), .string (bs (sgn (a.inR (app m j) (app m k)) (.rel (vf j) (vf k))).text), .string (bs (sgn (a.inR (app m k) (app m j)) (.rel (vf k) (vf j))).text)] 9))
      have B4 := Lib.hid (B3.out.alloc B3.out.size (.cells #[.string (bs (sgn false (.eq (vf j) (vf k))).text), .string (bs (sgn (a.inR (app m j) (app m k)) (.rel (vf j) (vf k))).text), .string (bs (sgn (a.inR (app m k) (app m j)) (.rel (vf k) (vf j))).text)] 9))
      have O4 := Lib.hid (O3.out.alloc (.cells #[.string (bs (sgn false (.eq (vf j) (vf k))).text), .string (bs (sgn (a.inR (app m j) (app m k)) (.rel (vf j) (vf k))).text), .string (bs (sgn (a.inR (app m k) (app m j)) (.rel (vf k) (vf j))).text)] 9))
      obtain ⟨bk, hbk⟩ : ∃ bk, bk = w3.heap.size := ⟨_, rfl⟩
      have Y4 := Lib.hid (show Bx (w3.alloc (.cells #[.string (bs (sgn false (.eq (vf j) (vf k))).text), .string (bs (sgn (a.inR (app m j) (app m k)) (.rel (vf j) (vf k))).text), .string (bs (sgn (a.inR (app m k) (app m j)) (.rel (vf k) (vf j))).text)] 9)) bk 9 #[.string (bs (sgn false (.eq (vf j) (vf k))).text), .string (bs (sgn (a.inR (app m j) (app m k)) (.rel (vf j) (vf k))).text), .string (bs (sgn (a.inR (app m k) (app m j)) (.rel (vf k) (vf j))).text)] from by rw [hbk]; exact Bx.new w3 9 #[.string (bs (sgn false (.eq (vf j) (vf k))).text), .string (bs (sgn (a.inR (app m j) (app m k)) (.rel (vf j) (vf k))).text), .string (bs (sgn (a.inR (app m k) (app m j)) (.rel (vf k) (vf j))).text)])
      rw [← hbk]
      clear hbk
      refine hK1.out _ _ ?_ (sched_lay (a' := ?_) ?_ ?_)
      · exact ⟨box_load X4.out, app_cell A4.out hkm, app_cell A4.out hjm⟩
      rotate_left 1
      · (try simp only [Act.put, List.getElem_toArray, List.getElem_cons_succ, List.getElem_cons_zero, List.setIfInBounds_toArray, List.set_cons_zero, List.set_cons_succ])
        try rfl
      clear hK1 K1
      refine sched_call rfl (by kernel_rfl) (fun K1 hK1 => ?_)
      refine R3.wp_app (.tmp 51) (.tmp 96) 80 (by rfl) w.heap.size 9 i0 (.string ⟨#[]⟩) 1 16 Tryz.underlying80 hi hz0 hz1 hz2 rfl (by decide) _ (2 + 3 * j) (strsV (rowL S R k j)) (by rfl) O4.out ⟨bk, 0, none⟩ 3 3 [.string (bs (sgn false (.eq (vf j) (vf k))).text), .string (bs (sgn (a.inR (app m j) (app m k)) (.rel (vf j) (vf k))).text), .string (bs (sgn (a.inR (app m k) (app m j)) (.rel (vf k) (vf j))).text)] (by rfl) rfl (World.news_of_block (cs := #[.string (bs (sgn false (.eq (vf j) (vf k))).text), .string (bs (sgn (a.inR (app m j) (app m k)) (.rel (vf j) (vf k))).text), .string (bs (sgn (a.inR (app m k) (app m j)) (.rel (vf k) (vf j))).text)]) Y4.out) (three_str _ _ _) (by unfold maxLen; omega) (by omega) B4.out.size (fun v8 w8 ho hg => ?_)
      obtain ⟨g8, cp8, rfl⟩ := shape_pos ho (by omega)
      have O8 := Lib.hid ho
      have X8 := Lib.hid (X4.out.grown hg (own_apart O4.out X4.out (by decide)))
      have B8 := Lib.hid (B4.out.grown hg B4.out.size (fun j hj => (O4.out.lt j hj).1))
      have A8 := Lib.hid (HA.out.call B8.out)
      clear ho hg
      refine hK1.out _ _ ?_ (sched_lay (a' := ?_) ?_ ?_)
      · exact ⟨box_load X8.out, app_cell A8.out hkm, app_cell A8.out hjm⟩
      rotate_left 1
      · (try simp only [Act.put, List.getElem_toArray, List.getElem_cons_succ, List.getElem_cons_zero, List.setIfInBounds_toArray, List.set_cons_zero, List.set_cons_succ])
        try rfl
      clear hK1 K1
      refine sched_take' (v := ?_) (a' := ?_) rfl (by kernel_rfl) ?_ rfl ?_ ?_
      rotate_left 2
      · intro w hSw
        (try dsimp only at hSw)
        go_simp
        try with_reducible rfl
      · (try simp only [Act.put, List.setIfInBounds_toArray, List.set_cons_zero, List.set_cons_succ])
        try rfl
      refine sched_done (hQ1.out _ _ ?_)
      go_wp2_with fail
      go_roundg (k - j - 1)
      case rel => exact ⟨j + 1, g8, cp8, by omega, by go_num, rfl, by rw [rowL_succ, HRK0.out, HRK0.out]; exact O8.out, X8.out, B8.out⟩
      case measure => omega
    · obtain rfl : j = k := by omega
      have hgk : gk = 0 := by omega
      subst hgk
      clear hlt hj
      go_wp2_with fail
      go_ret
      exact ⟨⟨g', cp, rfl, by rw [← rowL_all]; exact O0.out⟩, B0.out⟩

end Go.Proofs.YtpaleogkgfclnaaGreatDoor

namespace Go.Proofs.YtpaleogkgfclnaaGreatDoor
open Go.RowKit
open Pl
set_option linter.unusedSimpArgs false
set_option linter.unusedVariables false
attribute [local go_sem ↓] Go.wp_at_zero Go.wp_at_succ

set_option maxHeartbeats 4000000 in
set_option maxRecDepth 100000 in
theorem listOfAll_calls (c : St) (hc : c.ok) (w : World) :
    Calls Tryz.prog 56 #[stV (c.n : Int) (bs c.set) (bs c.rel)] w fun e w' => (∃ g cap, e = .returned (.slice (some ⟨g, 0, none⟩) c.n cap) ∧ c.n ≤ cap ∧ LRow w' (some ⟨g, 0, none⟩) (natsI (List.range c.n))) ∧ Below w.heap.size w w' := by
  obtain ⟨i0, hi, hz0, hz1, hz2⟩ := info_parts (P := Tryz.prog) (e := 3) (z := .int .i64 0) (size := 1) (bytes := 8) (by kernel_rfl)
  have h8 := hc.hi
  have B1 := Lib.hid (((Below.refl w.heap.size w).alloc (Nat.le_refl _) (.cells #[.int .i64 (c.n : Int), .string (bs c.set), .string (bs c.rel)] 24)).alloc (by simp) (.cells #[] 3))
  have O1 := Lib.hid (show ((w.alloc (.cells #[.int .i64 (c.n : Int), .string (bs c.set), .string (bs c.rel)] 24)).alloc (.cells #[] 3)).ownsRow w.heap.size 3 1 (.slice (some ⟨w.heap.size + 1, 0, none⟩) 0 0) 0 (intsV (natsI (List.range 0))) from by
    have h := own_zeroO (w.alloc (.cells #[.int .i64 (c.n : Int), .string (bs c.set), .string (bs c.rel)] 24)) (t := 3)
    rw [World.size_alloc] at h
    exact own_base h (Nat.le_succ _))
  go_enter Tryz.func56, Tryz.ntmps56
  go_wp2_with fail
  go_loopg [3, 8] c.n (fun q ov xv wr => ∃ (k g cp : Nat), k + q = c.n ∧ xv = .int .i64 (k : Nat) ∧ ov = .slice (some ⟨g, 0, none⟩) k cp ∧ wr.ownsRow w.heap.size 3 1 (.slice (some ⟨g, 0, none⟩) k cp) k (intsV (natsI (List.range k))) ∧ Below w.heap.size w wr)
  case atStart => exact ⟨0, _, 0, by omega, rfl, rfl, O1.out, B1.out⟩
  case round =>
    clear O1 B1
    obtain ⟨k, g, cp, hk, rfl, rfl, ho, hb⟩ := hrel
    have O1 := Lib.hid ho
    have HB := Lib.hid hb
    clear ho hb
    obtain ⟨wo, rfl⟩ : ∃ x, x = wr := ⟨wr, rfl⟩
    by_cases hlt : k < c.n
    · go_wp2_with (at_builtin; refine wpList_append_own_at _ rfl (.tmp 11) (.tmp 13) 31 rfl w.heap.size 3 i0 (.int .i64 0) 1 8 Tryz.underlying31 hi hz0 hz1 hz2 rfl (by decide) _ k (intsV (natsI (List.range k))) rfl (O1.out.alloc _) ⟨wo.heap.size, 0, none⟩ 1 1 [.int .i64 (k : Nat)] rfl rfl (cell_one_new _ _ _) (ints_oneCell .i64 [((k : Nat) : Int)]) (by unfold maxLen; omega) (by omega) (by have := HB.out.size; first | omega | (simp; omega)) ?_; intro v5 w5 ho5 hg5 hn5 hat5; clear hn5 hat5; obtain ⟨g5, cp5, rfl⟩ := own_form ho5; have E5 := Lib.hid ((HB.out.alloc HB.out.size (.cells #[.int .i64 (k : Nat)] 3)).grown hg5 (by have := HB.out.size; simp; omega) (fun j hj => (O1.out.lt j hj).1)); have Z5 := Lib.hid ho5; clear ho5 hg5)
      go_roundg (c.n - k - 1)
      case rel => exact ⟨k + 1, g5, cp5, by omega, by go_num, rfl, by rw [List.range_succ, natsI_snoc]; exact Z5.out, E5.out⟩
      case measure => omega
    · obtain rfl : k = c.n := by omega
      have hgk : gk = 0 := by omega
      subst hgk
      clear hlt hk
      have hcp : c.n ≤ cp := by
        rcases O1.out.2 with ⟨e, _⟩ | ⟨g', c', cur, e, _, _, h5, _⟩
        · cases e
        · injection e with _ _ e
          subst e
          exact h5
      go_wp2_with fail
      go_ret
      exact ⟨⟨g, cp, rfl, hcp, LRow_of O1.out⟩, HB.out⟩

theorem txs_short {L : List Fm} (h : ∀ f ∈ L, Short f) : ∀ z ∈ txs L, z.size ≤ 4000 := fun z hz => by
  obtain ⟨f, hf, rfl⟩ := List.mem_map.1 hz
  have := h f hf
  unfold Short at this
  show (bs f.text).size ≤ 4000
  rw [bs_size]
  omega
theorem joined_con (L : List Fm) (n g cp base : Nat) (W : World) (hn : L.length = n) (hl : n ≤ 100) (hs : ∀ f ∈ L, Short f) (h : W.ownsRow base 9 1 (.slice (some ⟨g, 0, none⟩) n cp) n (strsV (txs L))) :
    Calls Tryz.prog 57 #[.string ⟨#[38]⟩, .slice (some ⟨g, 0, none⟩) n cp] W fun e w' => e = .returned (.string (bs (conF L).text)) ∧ W = w' := by
  have hz := txs_short hs
  have hr := srow_own h (by rw [txs_len, hn]) (fun z h => by have := hz z h; unfold maxLen; omega)
  rw [conF_text]
  have hn2 : (txs L).length = n := by rw [txs_len, hn]
  have h2 := joined_calls ⟨#[38]⟩ 38 g (cp := cp) (txs L) W rfl (.inl ⟨rfl, rfl⟩) (by rw [hn2]; omega) hz (by rw [hn2]; exact hr)
  rwa [hn2] at h2
theorem joined_dis (L : List Fm) (n g cp base : Nat) (W : World) (hn : L.length = n) (hl : n ≤ 100) (hs : ∀ f ∈ L, Short f) (h : W.ownsRow base 9 1 (.slice (some ⟨g, 0, none⟩) n cp) n (strsV (txs L))) :
    Calls Tryz.prog 57 #[.string ⟨#[124]⟩, .slice (some ⟨g, 0, none⟩) n cp] W fun e w' => e = .returned (.string (bs (disF L).text)) ∧ W = w' := by
  have hz := txs_short hs
  have hr := srow_own h (by rw [txs_len, hn]) (fun z h => by have := hz z h; unfold maxLen; omega)
  rw [disF_text]
  have hn2 : (txs L).length = n := by rw [txs_len, hn]
  have h2 := joined_calls ⟨#[124]⟩ 124 g (cp := cp) (txs L) W rfl (.inr ⟨rfl, rfl⟩) (by rw [hn2]; omega) hz (by rw [hn2]; exact hr)
  rwa [hn2] at h2

set_option maxHeartbeats 8000000 in
set_option maxRecDepth 100000 in
theorem factsFormula_calls (c : St) (hc : c.ok) (h4 : c.n ≤ 4) (g cap : Nat) (w : World) (hcap : c.n ≤ cap) (hA : LRow w (some ⟨g, 0, none⟩) (natsI (List.range c.n))) :
    Calls Tryz.prog 55 #[stV (c.n : Int) (bs c.set) (bs c.rel), .slice (some ⟨g, 0, none⟩) c.n cap] w fun e w' => e = .returned (.string (bs (conF (factsTo c.inS c.inR noQ c.n)).text)) ∧ Below w.heap.size w w' := by
  obtain ⟨LL, hLL⟩ : ∃ LL, LL = tellTo c.inS c.inR noQ c.n := ⟨_, rfl⟩
  have hfl : LL.map sgnP = factsTo c.inS c.inR noQ c.n := by rw [hLL]; exact tellTo_facts _ _ _ _
  have hll : LL.length ≤ 26 := by rw [hLL]; exact tellTo_len _ _ _ h4
  have hsh : ∀ p ∈ LL, p.1.text.length ≤ 3 := fun p hp => by rw [hLL] at hp; exact tellTo_short hp
  have hs4 : ∀ f ∈ LL.map sgnP, Short f := fun f hf => by rw [hfl] at hf; exact facts_short hf
  rw [← hfl]
  have HS4 := Lib.hid hs4
  have hff := fun W h => factsOf_calls c hc h4 g cap W hcap h
  rw [← hLL] at hff
  have HFF := Lib.hid hff
  have B1 := Lib.hid ((Below.refl w.heap.size w).alloc (Nat.le_refl _) (.cells #[.int .i64 (c.n : Int), .string (bs c.set), .string (bs c.rel)] 24))
  have X1 := Lib.hid (Bx.new w 24 #[.int .i64 (c.n : Int), .string (bs c.set), .string (bs c.rel)])
  have HA := Lib.hid (hA.call B1.out)
  have HSH := Lib.hid hsh
  clear hff hLL hfl hsh hs4 hA
  go_enter Tryz.func55, Tryz.ntmps55
  obtain ⟨x0, x1, x2⟩ := box_load X1.out
  go_wp2_with fail
  refine (HFF.out _ HA.out).mono ?_
  clear x0 x1 x2
  rintro e w1 ⟨⟨g1, c1, g2, c2, rfl, hr1, hr2⟩, hz⟩
  have B2 := Lib.hid (B1.out.trans (hz.mono B1.out.size))
  have R1 := Lib.hid (own_base hr1 (by simp : w.heap.size ≤ (w.alloc (.cells #[.int .i64 (c.n : Int), .string (bs c.set), .string (bs c.rel)] 24)).heap.size))
  have RB := Lib.hid (own_base hr2 (by simp : w.heap.size ≤ (w.alloc (.cells #[.int .i64 (c.n : Int), .string (bs c.set), .string (bs c.rel)] 24)).heap.size))
  clear hz hr1 hr2
  go_wp2_with fail
  go_loopg [16] LL.length (fun q xv wr => ∃ k : Nat, k + q = LL.length ∧ xv = .int .i64 (k : Nat) ∧ wr.ownsRow w.heap.size 9 1 (.slice (some ⟨g1, 0, none⟩) LL.length c1) LL.length (strsV (mixL LL k)) ∧ wr.ownsRow w.heap.size 4 1 (.slice (some ⟨g2, 0, none⟩) LL.length c2) LL.length (isV (fis LL)) ∧ Below w.heap.size w wr)
  case atStart => exact ⟨0, by omega, rfl, by rw [mix_zero]; exact R1.out, RB.out, B2.out⟩
  case round =>
    clear R1 RB B2
    obtain ⟨k, hk, rfl, hr1, hr2, hb⟩ := hrel
    have R1 := Lib.hid hr1
    have RB := Lib.hid hr2
    have HB := Lib.hid hb
    clear hr1 hr2 hb
    obtain ⟨wo, rfl⟩ : ∃ x, x = wr := ⟨wr, rfl⟩
    by_cases hlt : k < LL.length
    · have hq1 := R1.out.cellAt k (by omega)
      have hq2 := RB.out.cellAt k (by omega)
      have hfz := R1.out.frozenAt k
      have hmk := mix_at hlt
      rw [show (strsV (mixL LL k))[k]? = some (.string (bs LL[k].1.text)) by rw [strsV, List.getElem?_map, hmk]; rfl] at hq1
      rw [show (isV (fis LL))[k]? = some (.bool LL[k].2) by rw [isV, fis, List.getElem?_map, List.getElem?_map, List.getElem?_eq_getElem hlt]; rfl] at hq2
      have hms := mix_set hlt
      have hpl := HSH.out LL[k] (List.getElem_mem hlt)
      obtain ⟨p, hp⟩ : ∃ p, p = LL[k] := ⟨_, rfl⟩
      rw [← hp] at hq1 hq2 hms hpl
      have hsg := fun W => signed_calls p.1 p.2 hpl W
      have HSG := Lib.hid hsg
      have HMS := Lib.hid hms
      have HP := Lib.hid hp
      have d1 : wo.drew.cell? ⟨g1, k, none⟩ = some (.string (bs p.1.text)) := hq1
      have d2 : wo.drew.cell? ⟨g2, k, none⟩ = some (.bool p.2) := hq2
      have f1 : wo.drew.frozen? ⟨g1, k, none⟩ = false := hfz
      have hpz : (bs p.1.text).size ≤ 3 := by rw [bs_size]; exact hpl
      clear hq1 hq2 hms hp hsg hfz hmk hpl
      go_upto_region 5 with (fail)
      refine R2.region_sched [(0, true), (1, true), (2, true), (3, true), (4, true), (5, true), (6, true), (7, true), (8, true), (9, true), (10, false), (11, true), (12, false)] 12 (fun w' : World => w'.cell? ⟨g1, k, none⟩ = some (.string (bs p.1.text)) ∧ w'.cell? ⟨g2, k, none⟩ = some (.bool p.2)) (by kernel_rfl) (by kernel_rfl) (by kernel_rfl) (by kernel_rfl) (by kernel_rfl) (fun _ _ _ _ h => h) ?_ (fun Q1 hQ1 => ?_)
      · exact ⟨d1, d2⟩
      try simp only [List.append]
      refine R2.sched_take' (v := ?_) (a' := ?_) rfl (by kernel_rfl) ?_ rfl ?_ ?_
      rotate_left 2
      · intro w hSw
        (try dsimp only at hSw)
        go_simp
        try with_reducible rfl
      · (try simp only [Act.put, List.setIfInBounds_toArray, List.set_cons_zero, List.set_cons_succ])
        try rfl
      refine R2.sched_take' (v := ?_) (a' := ?_) rfl (by kernel_rfl) ?_ rfl ?_ ?_
      rotate_left 2
      · intro w hSw
        (try dsimp only at hSw)
        go_simp
        try with_reducible rfl
      · (try simp only [Act.put, List.setIfInBounds_toArray, List.set_cons_zero, List.set_cons_succ])
        try rfl
      refine R2.sched_take' (v := ?_) (a' := ?_) rfl (by kernel_rfl) ?_ rfl ?_ ?_
      rotate_left 2
      · intro w hSw
        (try dsimp only at hSw)
        go_simp
        try with_reducible rfl
      · (try simp only [Act.put, List.setIfInBounds_toArray, List.set_cons_zero, List.set_cons_succ])
        try rfl
      refine R2.sched_take' (v := ?_) (a' := ?_) rfl (by kernel_rfl) ?_ rfl ?_ ?_
      rotate_left 2
      · intro w hSw
        (try dsimp only at hSw)
        go_simp
        try with_reducible rfl
      · (try simp only [Act.put, List.setIfInBounds_toArray, List.set_cons_zero, List.set_cons_succ])
        try rfl
      refine R2.sched_take' (v := ?_) (a' := ?_) rfl (by kernel_rfl) ?_ rfl ?_ ?_
      rotate_left 2
      · intro w hSw
        (try dsimp only at hSw)
        go_simp
        try with_reducible rfl
      · (try simp only [Act.put, List.setIfInBounds_toArray, List.set_cons_zero, List.set_cons_succ])
        try rfl
      refine R2.sched_take' (v := .string (bs p.1.text)) (a' := ?_) rfl (by kernel_rfl) ?_ rfl ?_ ?_
      rotate_left 1
      · intro w hSw
        (try dsimp only at hSw)
        go_simp
        first | done | (obtain ⟨u0, u1⟩ := hSw; simp [*])
      · (try simp only [Act.put, List.setIfInBounds_toArray, List.set_cons_zero, List.set_cons_succ])
        try rfl
      refine R2.sched_take' (v := ?_) (a' := ?_) rfl (by kernel_rfl) ?_ rfl ?_ ?_
      rotate_left 2
      · intro w hSw
        (try dsimp only at hSw)
        go_simp
        try with_reducible rfl
      · (try simp only [Act.put, List.setIfInBounds_toArray, List.set_cons_zero, List.set_cons_succ])
        try rfl
      refine R2.sched_take' (v := ?_) (a' := ?_) rfl (by kernel_rfl) ?_ rfl ?_ ?_
      rotate_left 2
      · intro w hSw
        (try dsimp only at hSw)
        go_simp
        try with_reducible rfl
      · (try simp only [Act.put, List.setIfInBounds_toArray, List.set_cons_zero, List.set_cons_succ])
        try rfl
      refine R2.sched_take' (v := ?_) (a' := ?_) rfl (by kernel_rfl) ?_ rfl ?_ ?_
      rotate_left 2
      · intro w hSw
        (try dsimp only at hSw)
        go_simp
        try with_reducible rfl
      · (try simp only [Act.put, List.setIfInBounds_toArray, List.set_cons_zero, List.set_cons_succ])
        try rfl
      refine R2.sched_take' (v := .bool p.2) (a' := ?_) rfl (by kernel_rfl) ?_ rfl ?_ ?_
      rotate_left 1
      · intro w hSw
        (try dsimp only at hSw)
        go_simp
        first | done | (obtain ⟨u0, u1⟩ := hSw; simp [*])
      · (try simp only [Act.put, List.setIfInBounds_toArray, List.set_cons_zero, List.set_cons_succ])
        try rfl
      refine R2.sched_call rfl (by kernel_rfl) (fun K1 hK1 => ?_)
      go_simp
      refine (HSG.out _).mono ?_
      rintro e w2 ⟨rfl, rfl⟩
      go_wp2_with fail
      refine hK1.out _ _ ?_ (R2.sched_lay (a' := ?_) ?_ ?_)
      · exact ⟨d1, d2⟩
      rotate_left 1
      · (try simp only [Act.put, List.getElem_toArray, List.getElem_cons_succ, List.getElem_cons_zero, List.setIfInBounds_toArray, List.set_cons_zero, List.set_cons_succ])
        try rfl
      clear hK1 K1
      refine R2.sched_take' (v := ?_) (a' := ?_) rfl (by kernel_rfl) ?_ rfl ?_ ?_
      rotate_left 2
      · intro w hSw
        (try dsimp only at hSw)
        go_simp
        try with_reducible rfl
      · (try simp only [Act.put, List.setIfInBounds_toArray, List.set_cons_zero, List.set_cons_succ])
        try rfl
      refine R2.sched_last rfl (by kernel_rfl) (fun K1 hK1 => ?_)
      go_simp
      refine hK1.out _ _ (R2.sched_lay (a' := ?_) ?_ ?_)
      rotate_left 1
      · (try simp only [Act.put, List.getElem_toArray, List.getElem_cons_succ, List.getElem_cons_zero, List.setIfInBounds_toArray, List.set_cons_zero, List.set_cons_succ])
        try rfl
      clear hK1 K1
      refine R2.sched_done (hQ1.out _ _ ?_)
      go_wp2_with fail
      go_roundg (LL.length - k - 1)
      case rel =>
        obtain ⟨h1, h2⟩ := (own_call R1.out (Below.refl _ _).drew).stored k (.string (bs (sgn p.2 p.1).text))
        refine ⟨k + 1, by omega, by go_num, ?_, own_others (own_call RB.out (Below.refl _ _).drew) h2 (Apart.types RB.out R1.out (by decide)), HB.out.drew.grown h2 HB.out.drew.size (fun j hj => (R1.out.lt j hj).1)⟩
        rw [strsV_set, show sgn p.2 p.1 = sgnP p from rfl, HMS.out] at h1
        exact h1
      case measure => omega
    · obtain rfl : k = LL.length := by omega
      have hgk : gk = 0 := by omega
      subst hgk
      have hj := fun h => joined_con (LL.map sgnP) LL.length g1 c1 w.heap.size wo (by simp) (by omega) HS4.out h
      rw [← mix_all] at hj
      have HJ := Lib.hid (hj R1.out)
      clear hj hlt hk
      go_wp2_with fail
      refine (HJ.out).mono ?_
      rintro e w2 ⟨rfl, rfl⟩
      go_wp2_with fail
      go_ret
      exact ⟨rfl, HB.out⟩

theorem eqs_snoc (n k : Nat) : strsV (txs (eqsF n (k + 1))) = strsV (txs (eqsF n k)) ++ [.string (⟨#[61]⟩ ++ nmT k ++ nmT n)] := by
  rw [eqsF_succ, txs, List.map_append]
  show strsV (txs (eqsF n k) ++ [bs (Fm.eq (vf k) (vf n)).text]) = _
  rw [strsV_snoc, eq_text]
theorem all_name (i : Nat) : (⟨#[65]⟩ : ByteArray) ++ nmT i = bs [65, vb (vf i)] := eq_bs (by rw [ByteArray.data_append, Array.toList_append, nm_list]; rfl)

set_option maxHeartbeats 8000000 in
set_option maxRecDepth 100000 in
theorem describedBy_calls (c : St) (hc : c.ok) (h4 : c.n ≤ 4) (w : World) :
    Calls Tryz.prog 30 #[stV (c.n : Int) (bs c.set) (bs c.rel)] w fun e w' => e = .returned (.string (bs (desF c.n c.inS c.inR noQ).text)) ∧ Below w.heap.size w w' := by
  obtain ⟨i0, hi, hz0, hz1, hz2⟩ := info_parts (P := Tryz.prog) (e := 9) (z := .string ⟨#[]⟩) (size := 1) (bytes := 16) (by kernel_rfl)
  have HLA := Lib.hid (fun W => listOfAll_calls c hc W)
  have HFO := Lib.hid (fun (g cap : Nat) (W : World) (h : c.n ≤ cap) (k : LRow W (some ⟨g, 0, none⟩) (natsI (List.range c.n))) => factsFormula_calls c hc h4 g cap W h k)
  have hlo := hc.lo
  have hcl : (conF (factsTo c.inS c.inR noQ c.n)).text.length ≤ 200 := by
    have h1 := conF_len (factsTo c.inS c.inR noQ c.n) fun f hf => facts_short hf
    have h2 := factsTo_len c.inS c.inR noQ h4
    omega
  have hdl : (disF (eqsF c.n c.n)).text.length ≤ 200 := by
    have h1 := disF_len (eqsF c.n c.n) fun f hf => eqsF_short hf
    rw [eqsF_len] at h1
    omega
  have hd4 : c.n = 4 → desF c.n c.inS c.inR noQ = conF (factsTo c.inS c.inR noQ c.n) := fun e => by unfold desF; rw [if_pos e]
  have hd3 : c.n ≠ 4 → (desF c.n c.inS c.inR noQ).text = 38 :: ((conF (factsTo c.inS c.inR noQ c.n)).text ++ 65 :: vb (vf c.n) :: (disF (eqsF c.n c.n)).text) := fun e => by rw [des_less e]; rfl
  obtain ⟨CF, hCF⟩ : ∃ CF, CF = bs (conF (factsTo c.inS c.inR noQ c.n)).text := ⟨_, rfl⟩
  have hCz : CF.size ≤ 200 := by rw [hCF, bs_size]; exact hcl
  obtain ⟨DF, hDF⟩ : ∃ DF, DF = bs (disF (eqsF c.n c.n)).text := ⟨_, rfl⟩
  have hDz : DF.size ≤ 200 := by rw [hDF, bs_size]; exact hdl
  have HCF := Lib.hid hCF
  have HDF := Lib.hid hDF
  have HD4 := Lib.hid hd4
  have HD3 := Lib.hid hd3
  have X0 := Lib.hid (Bx.new w 24 #[.int .i64 (c.n : Int), .string (bs c.set), .string (bs c.rel)])
  have B0 := Lib.hid ((Below.refl w.heap.size w).alloc (Nat.le_refl _) (.cells #[.int .i64 (c.n : Int), .string (bs c.set), .string (bs c.rel)] 24))
  rw [← hCF] at HFO
  clear hCF hDF hd4 hd3 hcl hdl
  go_enter Tryz.func30, Tryz.ntmps30
  go_upto_region 1 with (fail)
  have X1 := Lib.hid X0.out.drew
  have B1 := Lib.hid B0.out.drew
  refine region_sched [(0, true), (1, true), (2, false), (3, false), (4, true)] (fun w' : World => w'.cell? ⟨w.heap.size, 0, none⟩ = some (.int .i64 (c.n : Int)) ∧ w'.cell? ⟨w.heap.size, 1, none⟩ = some (.string (bs c.set)) ∧ w'.cell? ⟨w.heap.size, 2, none⟩ = some (.string (bs c.rel))) (by kernel_rfl) (by kernel_rfl) (by kernel_rfl) (by kernel_rfl) (fun _ _ _ _ h => h) ?_ (fun Q1 hQ1 => ?_)
  · exact box_load X1.out
  try simp only [List.append]
  refine sched_take' (v := .agg #[.int .i64 (c.n : Int), .string (bs c.set), .string (bs c.rel)]) (a' := ?_) rfl (by kernel_rfl) ?_ rfl ?_ ?_
  rotate_left 1
  · intro w hSw
    (try dsimp only at hSw)
    go_simp
    first | done | (obtain ⟨u0, u1, u2⟩ := hSw; simp [*])
  · (try simp only [Act.put, List.setIfInBounds_toArray, List.set_cons_zero, List.set_cons_succ])
    try rfl
  refine sched_take' (v := .agg #[.int .i64 (c.n : Int), .string (bs c.set), .string (bs c.rel)]) (a' := ?_) rfl (by kernel_rfl) ?_ rfl ?_ ?_
  rotate_left 1
  · intro w hSw
    (try dsimp only at hSw)
    go_simp
    first | done | (obtain ⟨u0, u1, u2⟩ := hSw; simp [*])
  · (try simp only [Act.put, List.setIfInBounds_toArray, List.set_cons_zero, List.set_cons_succ])
    try rfl
  refine sched_call rfl (by kernel_rfl) (fun K1 hK1 => ?_)
  go_simp
  refine (HLA.out _).mono ?_
  rintro e w1 ⟨⟨g, cap, rfl, hgc, hrw⟩, hz⟩
  have X2 := Lib.hid (X1.out.call hz)
  have B2 := Lib.hid (B1.out.trans (hz.mono B1.out.size))
  have HRW := Lib.hid hrw
  clear hz hrw
  go_wp2_with fail
  refine hK1.out _ _ ?_ (sched_lay (a' := ?_) ?_ ?_)
  · exact box_load X2.out
  rotate_left 1
  · (try simp only [Act.put, List.getElem_toArray, List.getElem_cons_succ, List.getElem_cons_zero, List.setIfInBounds_toArray, List.set_cons_zero, List.set_cons_succ])
    try rfl
  clear hK1 K1
  refine sched_call rfl (by kernel_rfl) (fun K1 hK1 => ?_)
  go_simp
  refine (HFO.out g cap _ hgc HRW.out).mono ?_
  rintro e w2 ⟨rfl, hz⟩
  have X3 := Lib.hid (X2.out.call hz)
  have B3 := Lib.hid (B2.out.trans (hz.mono B2.out.size))
  clear hz
  go_wp2_with fail
  refine hK1.out _ _ ?_ (sched_lay (a' := ?_) ?_ ?_)
  · exact box_load X3.out
  rotate_left 1
  · (try simp only [Act.put, List.getElem_toArray, List.getElem_cons_succ, List.getElem_cons_zero, List.setIfInBounds_toArray, List.set_cons_zero, List.set_cons_succ])
    try rfl
  clear hK1 K1
  refine sched_take' (v := ?_) (a' := ?_) rfl (by kernel_rfl) ?_ rfl ?_ ?_
  rotate_left 2
  · intro w hSw
    (try dsimp only at hSw)
    go_simp
    try with_reducible rfl
  · (try simp only [Act.put, List.setIfInBounds_toArray, List.set_cons_zero, List.set_cons_succ])
    try rfl
  refine sched_done (hQ1.out _ _ ?_)
  obtain ⟨x0, x1, x2⟩ := box_load X3.out
  clear X0 X1 X2 B0 B1 B2 HRW
  by_cases hn : c.n = 4
  · have hni : ((c.n : Nat) : Int) = 4 := by omega
    have HN := Lib.hid hn
    clear hn
    go_wp2_with fail
    go_ret
    exact ⟨by rw [HD4.out HN.out, ← HCF.out]; rfl, B3.out⟩
  · have hn4 : c.n < 4 := by omega
    have hni : (((c.n : Nat) : Int) == 4) = false := by rw [beq_eq_false_iff_ne]; omega
    have hs0 := nm_size c.n
    have HN := Lib.hid hn
    clear hn
    have B4 := Lib.hid (B3.out.alloc B3.out.size (.cells #[] 9))
    have O4 := Lib.hid (show (w2.alloc (.cells #[] 9)).ownsRow w.heap.size 9 1 (.slice (some ⟨w2.heap.size, 0, none⟩) 0 0) 0 (strsV (txs (eqsF c.n 0))) from own_base (own_zeroO w2 (t := 9)) B3.out.size)
    obtain ⟨y0, y1, y2⟩ := box_load (X3.out.alloc (.cells #[] 9))
    go_wp2_with fail
    refine (nameOf_calls c.n hn4 _).mono ?_
    rintro e w3 ⟨rfl, rfl⟩
    go_wp2_with fail
    go_loopg [5, 21] c.n (fun q ov xv wr => ∃ (k g cp : Nat), k + q = c.n ∧ xv = .int .i64 (k : Nat) ∧ ov = .slice (some ⟨g, 0, none⟩) k cp ∧ wr.ownsRow w.heap.size 9 1 (.slice (some ⟨g, 0, none⟩) k cp) k (strsV (txs (eqsF c.n k))) ∧ Below w.heap.size w wr)
    case atStart => exact ⟨0, _, 0, by omega, rfl, rfl, O4.out, B4.out⟩
    case round =>
      clear O4 B4 B3 X3 x0 x1 x2 y0 y1 y2
      obtain ⟨k, g, cp, hk, rfl, rfl, ho, hb⟩ := hrel
      have O1 := Lib.hid ho
      have HB := Lib.hid hb
      clear ho hb
      obtain ⟨wo, rfl⟩ : ∃ x, x = wr := ⟨wr, rfl⟩
      by_cases hlt : k < c.n
      · have hk4 : k < 4 := by omega
        have hs1 := nm_size k
        go_wp2_with fail
        refine (nameOf_calls k hk4 _).mono ?_
        rintro e w3 ⟨rfl, rfl⟩
        go_wp2_with (at_builtin; refine wpList_append_own_at _ rfl (.tmp 24) (.tmp 30) 80 rfl w.heap.size 9 i0 (.string ⟨#[]⟩) 1 16 Tryz.underlying80 hi hz0 hz1 hz2 rfl (by decide) _ k (strsV (txs (eqsF c.n k))) rfl (O1.out.alloc _) ⟨wo.heap.size, 0, none⟩ 1 1 [.string (⟨#[61]⟩ ++ nmT k ++ nmT c.n)] rfl rfl (cell_one_new _ _ _) (one_str _) (by unfold maxLen; omega) (by omega) (by have := HB.out.size; first | omega | (simp; omega)) ?_; intro v5 w5 ho5 hg5 hn5 hat5; clear hn5 hat5; obtain ⟨g5, cp5, rfl⟩ := own_form ho5; have E5 := Lib.hid ((HB.out.alloc HB.out.size (.cells #[.string (⟨#[61]⟩ ++ nmT k ++ nmT c.n)] 9)).grown hg5 (by have := HB.out.size; simp; omega) (fun j hj => (O1.out.lt j hj).1)); have Z5 := Lib.hid ho5; clear ho5 hg5)
        go_roundg (c.n - k - 1)
        case rel => exact ⟨k + 1, g5, cp5, by omega, by go_num, rfl, by rw [eqs_snoc]; exact Z5.out, E5.out⟩
        case measure => omega
      · obtain rfl : k = c.n := by omega
        have hgk : gk = 0 := by omega
        subst hgk
        clear hlt hk
        have HJ := Lib.hid (joined_dis (eqsF c.n c.n) c.n g cp w.heap.size wo (eqsF_len _ _) (by omega) (fun f hf => eqsF_short hf) O1.out)
        rw [← HDF.out] at HJ
        go_wp2_with fail
        refine (HJ.out).mono ?_
        rintro e w3 ⟨rfl, rfl⟩
        go_wp2_with fail
        go_ret
        refine ⟨congrArg (fun x => Ending.returned (.string x)) (eq_bs ?_), HB.out⟩
        rw [HD3.out HN.out, HCF.out, HDF.out]
        simp [bs_data, nm_list]

end Go.Proofs.YtpaleogkgfclnaaGreatDoor

namespace Go.Proofs.YtpaleogkgfclnaaGreatDoor
open Go.RowKit
open Pl
set_option linter.unusedSimpArgs false
set_option linter.unusedVariables false
attribute [local go_sem ↓] Go.wp_at_zero Go.wp_at_succ

set_option maxHeartbeats 4000000 in
set_option maxRecDepth 100000 in
theorem l3All_calls (n : Nat) (h8 : n ≤ 8) (w : World) :
    Calls Tryz.prog 33 #[.int .i64 (n : Nat)] w fun e w' => (∃ g cap, e = .returned (.slice (some ⟨g, 0, none⟩) n cap) ∧ n ≤ cap ∧ LRow w' (some ⟨g, 0, none⟩) (natsI (List.range n))) ∧ Below w.heap.size w w' := by
  obtain ⟨i0, hi, hz0, hz1, hz2⟩ := info_parts (P := Tryz.prog) (e := 3) (z := .int .i64 0) (size := 1) (bytes := 8) (by kernel_rfl)
  have B1 := Lib.hid ((Below.refl w.heap.size w).alloc (Nat.le_refl _) (.cells #[] 3))
  have O1 := Lib.hid (show (w.alloc (.cells #[] 3)).ownsRow w.heap.size 3 1 (.slice (some ⟨w.heap.size, 0, none⟩) 0 0) 0 (intsV (natsI (List.range 0))) from own_zeroO w (t := 3))
  go_enter Tryz.func33, Tryz.ntmps33
  go_wp2_with fail
  go_loopg [3, 4] n (fun q ov xv wr => ∃ (k g cp : Nat), k + q = n ∧ xv = .int .i64 (k : Nat) ∧ ov = .slice (some ⟨g, 0, none⟩) k cp ∧ wr.ownsRow w.heap.size 3 1 (.slice (some ⟨g, 0, none⟩) k cp) k (intsV (natsI (List.range k))) ∧ Below w.heap.size w wr)
  case atStart => exact ⟨0, _, 0, by omega, rfl, rfl, O1.out, B1.out⟩
  case round =>
    clear O1 B1
    obtain ⟨k, g, cp, hk, rfl, rfl, ho, hb⟩ := hrel
    have O1 := Lib.hid ho
    have HB := Lib.hid hb
    clear ho hb
    obtain ⟨wo, rfl⟩ : ∃ x, x = wr := ⟨wr, rfl⟩
    by_cases hlt : k < n
    · go_wp2_with (at_builtin; refine wpList_append_own_at _ rfl (.tmp 11) (.tmp 13) 31 rfl w.heap.size 3 i0 (.int .i64 0) 1 8 Tryz.underlying31 hi hz0 hz1 hz2 rfl (by decide) _ k (intsV (natsI (List.range k))) rfl (O1.out.alloc _) ⟨wo.heap.size, 0, none⟩ 1 1 [.int .i64 (k : Nat)] rfl rfl (cell_one_new _ _ _) (ints_oneCell .i64 [((k : Nat) : Int)]) (by unfold maxLen; omega) (by omega) (by have := HB.out.size; first | omega | (simp; omega)) ?_; intro v5 w5 ho5 hg5 hn5 hat5; clear hn5 hat5; obtain ⟨g5, cp5, rfl⟩ := own_form ho5; have E5 := Lib.hid ((HB.out.alloc HB.out.size (.cells #[.int .i64 (k : Nat)] 3)).grown hg5 (by have := HB.out.size; simp; omega) (fun j hj => (O1.out.lt j hj).1)); have Z5 := Lib.hid ho5; clear ho5 hg5)
      go_roundg (n - k - 1)
      case rel => exact ⟨k + 1, g5, cp5, by omega, by go_num, rfl, by rw [List.range_succ, natsI_snoc]; exact Z5.out, E5.out⟩
      case measure => omega
    · obtain rfl : k = n := by omega
      have hgk : gk = 0 := by omega
      subst hgk
      clear hlt hk
      have hcp : k ≤ cp := by
        rcases O1.out.2 with ⟨e, _⟩ | ⟨g', c', cur, e, _, _, h5, _⟩
        · cases e
        · injection e with _ _ e
          subst e
          exact h5
      go_wp2_with fail
      go_ret
      exact ⟨⟨g, cp, rfl, hcp, LRow_of O1.out⟩, HB.out⟩

theorem strs_one (zs : List ByteArray) : ∀ u ∈ strsV zs, u.oneCell' = true := fun u hu => by
  obtain ⟨z, _, rfl⟩ := List.mem_map.1 hu
  rfl
theorem l2Join_con (L : List Fm) (n g cp base : Nat) (W : World) (hn : L.length = n) (hl : n ≤ 100) (hs : ∀ f ∈ L, f.text.length ≤ 4000) (h : W.ownsRow base 9 1 (.slice (some ⟨g, 0, none⟩) n cp) n (strsV (txs L))) :
    Calls Tryz.prog 60 #[.string ⟨#[38]⟩, .slice (some ⟨g, 0, none⟩) n cp] W fun e w' => e = .returned (.string (bs (conF L).text)) ∧ Below W.heap.size W w' := by
  have hz : ∀ z ∈ txs L, z.size ≤ 4000 := fun z hz => by
    obtain ⟨f, hf, rfl⟩ := List.mem_map.1 hz
    show (bs f.text).size ≤ 4000
    rw [bs_size]; exact hs f hf
  have hr := srow_own h (by rw [txs_len, hn]) (fun z h => by have := hz z h; unfold maxLen; omega)
  rw [conF_text]
  have hn2 : (txs L).length = n := by rw [txs_len, hn]
  have h2 := l2Join_calls ⟨#[38]⟩ 38 g (cp := cp) (txs L) W rfl (.inl ⟨rfl, rfl⟩) (by rw [hn2]; omega) hz (by rw [hn2]; exact hr)
  rwa [hn2] at h2
theorem l2Join_dis (L : List Fm) (n g cp base : Nat) (W : World) (hn : L.length = n) (hl : n ≤ 100) (hs : ∀ f ∈ L, f.text.length ≤ 4000) (h : W.ownsRow base 9 1 (.slice (some ⟨g, 0, none⟩) n cp) n (strsV (txs L))) :
    Calls Tryz.prog 60 #[.string ⟨#[124]⟩, .slice (some ⟨g, 0, none⟩) n cp] W fun e w' => e = .returned (.string (bs (disF L).text)) ∧ Below W.heap.size W w' := by
  have hz : ∀ z ∈ txs L, z.size ≤ 4000 := fun z hz => by
    obtain ⟨f, hf, rfl⟩ := List.mem_map.1 hz
    show (bs f.text).size ≤ 4000
    rw [bs_size]; exact hs f hf
  have hr := srow_own h (by rw [txs_len, hn]) (fun z h => by have := hz z h; unfold maxLen; omega)
  rw [disF_text]
  have hn2 : (txs L).length = n := by rw [txs_len, hn]
  have h2 := l2Join_calls ⟨#[124]⟩ 124 g (cp := cp) (txs L) W rfl (.inr ⟨rfl, rfl⟩) (by rw [hn2]; omega) hz (by rw [hn2]; exact hr)
  rwa [hn2] at h2
theorem short_len {f : Fm} (h : Short f) : f.text.length ≤ 4000 := by unfold Short at h; omega
theorem row_len (S : Nat → Bool) (R : Nat → Nat → Bool) (k : Nat) : (factsAt S R noQ k).length = 2 + 3 * k := by rw [← tellIn_facts, List.length_map, tellIn_len]

set_option maxHeartbeats 8000000 in
set_option maxRecDepth 100000 in
theorem l3Describe_calls (a : St) (ha : a.ok) (m : List Nat) (hm : IsPerm a.n m) (h4 : a.n ≤ 4) (g cap : Nat) (hcap : a.n ≤ cap) (w : World) (hA : LRow w (some ⟨g, 0, none⟩) (natsI m)) :
    Calls Tryz.prog 59 #[stV (a.n : Int) (bs a.set) (bs a.rel), .slice (some ⟨g, 0, none⟩) a.n cap] w fun e w' => e = .returned (.string (bs (conF (factsTo (fun i => a.inS (app m i)) (fun i j => a.inR (app m i) (app m j)) noQ a.n)).text)) ∧ Below w.heap.size w w' := by
  obtain ⟨i0, hi, hz0, hz1, hz2⟩ := info_parts (P := Tryz.prog) (e := 9) (z := .string ⟨#[]⟩) (size := 1) (bytes := 16) (by kernel_rfl)
  have hfa := fun (k : Nat) (hk : k < a.n) (W : World) (h : LRow W (some ⟨g, 0, none⟩) (natsI m)) => l3Facts_calls a ha m hm h4 k hk g cap hcap W h
  obtain ⟨S, hS⟩ : ∃ S : Nat → Bool, S = fun i => a.inS (app m i) := ⟨_, rfl⟩
  obtain ⟨R, hR⟩ : ∃ R : Nat → Nat → Bool, R = fun i j => a.inR (app m i) (app m j) := ⟨_, rfl⟩
  simp only [← hS, ← hR] at hfa ⊢
  have HFA := Lib.hid hfa
  have HA := Lib.hid hA
  have hlo := ha.lo
  have B1 := Lib.hid (((Below.refl w.heap.size w).alloc (Nat.le_refl _) (.cells #[.int .i64 (a.n : Int), .string (bs a.set), .string (bs a.rel)] 24)).alloc (by simp) (.cells #[] 9))
  have X1 := Lib.hid ((Bx.new w 24 #[.int .i64 (a.n : Int), .string (bs a.set), .string (bs a.rel)]).alloc (.cells #[] 9))
  have O1 := Lib.hid (show ((w.alloc (.cells #[.int .i64 (a.n : Int), .string (bs a.set), .string (bs a.rel)] 24)).alloc (.cells #[] 9)).ownsRow w.heap.size 9 1 (.slice (some ⟨w.heap.size + 1, 0, none⟩) 0 0) 0 (strsV (txs (factsTo S R noQ 0))) from by
    have h := own_zeroO (w.alloc (.cells #[.int .i64 (a.n : Int), .string (bs a.set), .string (bs a.rel)] 24)) (t := 9)
    rw [World.size_alloc] at h
    exact own_base h (Nat.le_succ _))
  clear hS hR hfa hA hm
  go_enter Tryz.func59, Tryz.ntmps59
  go_wp2_with fail
  go_loopg [5, 6] a.n (fun q ov xv wr => ∃ (k n0 g' cp : Nat), k + q = a.n ∧ n0 = (factsTo S R noQ k).length ∧ xv = .int .i64 ((k + 1 : Nat) : Int) ∧ ov = .slice (some ⟨g', 0, none⟩) n0 cp ∧ wr.ownsRow w.heap.size 9 1 (.slice (some ⟨g', 0, none⟩) n0 cp) n0 (strsV (txs (factsTo S R noQ k))) ∧ Bx wr w.heap.size 24 #[.int .i64 (a.n : Int), .string (bs a.set), .string (bs a.rel)] ∧ Below w.heap.size w wr)
  case atStart => exact ⟨0, 0, _, 0, by omega, rfl, rfl, rfl, O1.out, X1.out, B1.out⟩
  case round =>
    clear O1 B1 X1
    obtain ⟨k, n0, g', cp, hk, hn0, rfl, rfl, ho, hx, hb⟩ := hrel
    have O0 := Lib.hid ho
    have X0 := Lib.hid hx
    have B0 := Lib.hid hb
    have hn26 : n0 ≤ 26 := by rw [hn0]; exact factsTo_len S R noQ (by omega)
    have HN0 := Lib.hid hn0
    clear ho hx hb hn0
    obtain ⟨wo, rfl⟩ : ∃ x, x = wr := ⟨wr, rfl⟩
    by_cases hlt : k < a.n
    · have HL5 := Lib.hid (row_len S R k)
      have hb1 : (k : Int) + 1 ≤ (a.n : Int) := by omega
      have hb2 : (k : Int) + 1 ≤ (cap : Int) := by omega
      go_upto_region 5 with (fail)
      have O1 := Lib.hid (own_call O0.out (Below.refl _ _).drew)
      have X1 := Lib.hid X0.out.drew
      have B1 := Lib.hid B0.out.drew
      have A1 := Lib.hid (HA.out.call B1.out)
      refine region_sched [(0, true), (1, true), (2, true), (3, true), (4, true), (5, false), (6, false), (7, true)] (fun w' : World => w'.cell? ⟨w.heap.size, 0, none⟩ = some (.int .i64 (a.n : Int)) ∧ w'.cell? ⟨w.heap.size, 1, none⟩ = some (.string (bs a.set)) ∧ w'.cell? ⟨w.heap.size, 2, none⟩ = some (.string (bs a.rel))) (by kernel_rfl) (by kernel_rfl) (by kernel_rfl) (by kernel_rfl) (fun _ _ _ _ h => h) ?_ (fun Q1 hQ1 => ?_)
      · exact box_load X1.out
      try simp only [List.append]
      refine sched_take' (v := ?_) (a' := ?_) rfl (by kernel_rfl) ?_ rfl ?_ ?_
      rotate_left 2
      · intro w hSw
        (try dsimp only at hSw)
        go_simp
        try with_reducible rfl
      · (try simp only [Act.put, List.setIfInBounds_toArray, List.set_cons_zero, List.set_cons_succ])
        try rfl
      refine sched_take' (v := .agg #[.int .i64 (a.n : Int), .string (bs a.set), .string (bs a.rel)]) (a' := ?_) rfl (by kernel_rfl) ?_ rfl ?_ ?_
      rotate_left 1
      · intro w hSw
        (try dsimp only at hSw)
        go_simp
        first | done | (obtain ⟨u0, u1, u2⟩ := hSw; simp [*])
      · (try simp only [Act.put, List.setIfInBounds_toArray, List.set_cons_zero, List.set_cons_succ])
        try rfl
      refine sched_take' (v := ?_) (a' := ?_) rfl (by kernel_rfl) ?_ rfl ?_ ?_
      rotate_left 2
      · intro w hSw
        (try dsimp only at hSw)
        go_simp
        try with_reducible rfl
      · (try simp only [Act.put, List.setIfInBounds_toArray, List.set_cons_zero, List.set_cons_succ])
        try rfl
      refine sched_take' (v := ?_) (a' := ?_) rfl (by kernel_rfl) ?_ rfl ?_ ?_
      rotate_left 2
      · intro w hSw
        (try dsimp only at hSw)
        go_simp
        try with_reducible rfl
      · (try simp only [Act.put, List.setIfInBounds_toArray, List.set_cons_zero, List.set_cons_succ])
        try rfl
      refine sched_take' (v := .slice (some ⟨g, 0, none⟩) (k + 1) cap) (a' := ?_) rfl (by kernel_rfl) ?_ rfl ?_ ?_
      rotate_left 1
      · intro w hSw
        (try dsimp only at hSw)
        go_simp
        first | done | (intro h; exfalso; omega) | (rw [if_pos (by omega)])
      · (try simp only [Act.put, List.setIfInBounds_toArray, List.set_cons_zero, List.set_cons_succ])
        try rfl
      refine sched_call rfl (by kernel_rfl) (fun K1 hK1 => ?_)
      go_simp
      refine (HFA.out k hlt _ A1.out).mono ?_
      rintro e w2 ⟨⟨g5, cp5, rfl, hr5⟩, hz⟩
      have X2 := Lib.hid (X1.out.call hz)
      have B2 := Lib.hid (B1.out.trans (hz.mono B1.out.size))
      have O2 := Lib.hid (own_call O1.out hz)
      have R5 := Lib.hid hr5
      clear hz hr5
      go_wp2_with fail
      refine hK1.out _ _ ?_ (sched_lay (a' := ?_) ?_ ?_)
      · exact box_load X2.out
      rotate_left 1
      · (try simp only [Act.put, List.getElem_toArray, List.getElem_cons_succ, List.getElem_cons_zero, List.setIfInBounds_toArray, List.set_cons_zero, List.set_cons_succ])
        try rfl
      clear hK1 K1
      refine sched_call rfl (by kernel_rfl) (fun K1 hK1 => ?_)
      refine R3.wp_app (.tmp 14) (.tmp 19) 80 (by rfl) w.heap.size 9 i0 (.string ⟨#[]⟩) 1 16 Tryz.underlying80 hi hz0 hz1 hz2 rfl (by decide) _ n0 (strsV (txs (factsTo S R noQ k))) (by rfl) O2.out ⟨g5, 0, none⟩ (2 + 3 * k) cp5 (strsV (txs (factsAt S R noQ k))) (by rfl) (by rw [strsV_len, txs_len, HL5.out]; omega) (R5.out.cells rfl) (strs_one _) (by unfold maxLen; omega) (by omega) B2.out.size (fun v8 w8 ho hg => ?_)
      obtain ⟨g8, cp8, rfl⟩ := shape_pos ho (by omega)
      have O8 := Lib.hid ho
      have X8 := Lib.hid (X2.out.grown hg (own_apart O2.out X2.out (by decide)))
      have B8 := Lib.hid (B2.out.grown hg B2.out.size (fun j hj => (O2.out.lt j hj).1))
      clear ho hg
      refine hK1.out _ _ ?_ (sched_lay (a' := ?_) ?_ ?_)
      · exact box_load X8.out
      rotate_left 1
      · (try simp only [Act.put, List.getElem_toArray, List.getElem_cons_succ, List.getElem_cons_zero, List.setIfInBounds_toArray, List.set_cons_zero, List.set_cons_succ])
        try rfl
      clear hK1 K1
      refine sched_take' (v := ?_) (a' := ?_) rfl (by kernel_rfl) ?_ rfl ?_ ?_
      rotate_left 2
      · intro w hSw
        (try dsimp only at hSw)
        go_simp
        try with_reducible rfl
      · (try simp only [Act.put, List.setIfInBounds_toArray, List.set_cons_zero, List.set_cons_succ])
        try rfl
      refine sched_done (hQ1.out _ _ ?_)
      go_wp2_with fail
      go_roundg (a.n - k - 1)
      case rel => exact ⟨k + 1, n0 + (2 + 3 * k), g8, cp8, by omega, by rw [facts_succ, List.length_append, ← HN0.out, HL5.out], by go_num, rfl, by rw [facts_succ, txs, List.map_append, strsV, List.map_append]; exact O8.out, X8.out, B8.out⟩
      case measure => omega
    · obtain rfl : k = a.n := by omega
      have hgk : gk = 0 := by omega
      subst hgk
      have HJ := Lib.hid (l2Join_con (factsTo S R noQ a.n) n0 g' cp w.heap.size wo HN0.out.symm (by omega) (fun f hf => short_len (facts_short hf)) O0.out)
      have hb1 : (a.n : Int) < (a.n : Int) + 1 := by omega
      clear hlt hk
      go_wp2_with fail
      refine (HJ.out).mono ?_
      rintro e w3 ⟨rfl, hz⟩
      have B3 := Lib.hid (B0.out.trans (hz.mono B0.out.size))
      clear hz
      go_wp2_with fail
      go_ret
      exact ⟨rfl, B3.out⟩


end Go.Proofs.YtpaleogkgfclnaaGreatDoor

namespace Go.Proofs.YtpaleogkgfclnaaGreatDoor
open Go.RowKit
open Pl
set_option linter.unusedSimpArgs false
set_option linter.unusedVariables false
attribute [local go_sem ↓] Go.wp_at_zero Go.wp_at_succ

set_option maxHeartbeats 16000000 in
set_option maxRecDepth 100000 in
theorem l3Closed_calls (a : St) (ha : a.ok) (m : List Nat) (hm : IsPerm a.n m) (h4 : a.n ≤ 4) (j : Nat) (hj : j ≤ a.n) (g cap : Nat) (hcap : a.n ≤ cap) (w : World) (hA : LRow w (some ⟨g, 0, none⟩) (natsI m)) :
    Calls Tryz.prog 32 #[stV (a.n : Int) (bs a.set) (bs a.rel), .slice (some ⟨g, 0, none⟩) a.n cap, .int .i64 (j : Nat)] w fun e w' => e = .returned (.string (bs (quL j (a.n - j) ++ (desF a.n (fun i => a.inS (app m i)) (fun i j => a.inR (app m i) (app m j)) noQ).text))) ∧ Below w.heap.size w w' := by
  obtain ⟨i0, hi, hz0, hz1, hz2⟩ := info_parts (P := Tryz.prog) (e := 9) (z := .string ⟨#[]⟩) (size := 1) (bytes := 16) (by kernel_rfl)
  have hdc := fun (W : World) (h : LRow W (some ⟨g, 0, none⟩) (natsI m)) => l3Describe_calls a ha m hm h4 g cap hcap W h
  have hlo := ha.lo
  have hd4 : a.n = 4 → (desF a.n (fun i => a.inS (app m i)) (fun i j => a.inR (app m i) (app m j)) noQ).text = (conF (factsTo (fun i => a.inS (app m i)) (fun i j => a.inR (app m i) (app m j)) noQ a.n)).text := fun e => by unfold desF; rw [if_pos e]
  have hd3 : a.n ≠ 4 → desF a.n (fun i => a.inS (app m i)) (fun i j => a.inR (app m i) (app m j)) noQ = conF [conF (factsTo (fun i => a.inS (app m i)) (fun i j => a.inR (app m i) (app m j)) noQ a.n), .qu .A (vf a.n) (disF (eqsF a.n a.n))] := fun e => by rw [des_less e]; rfl
  have hdl := des_len h4 (fun i => a.inS (app m i)) (fun i j => a.inR (app m i) (app m j)) noQ
  have hcl : (conF (factsTo (fun i => a.inS (app m i)) (fun i j => a.inR (app m i) (app m j)) noQ a.n)).text.length ≤ 200 := by
    have h1 := conF_len (factsTo (fun i => a.inS (app m i)) (fun i j => a.inR (app m i) (app m j)) noQ a.n) fun f hf => facts_short hf
    have h2 := factsTo_len (fun i => a.inS (app m i)) (fun i j => a.inR (app m i) (app m j)) noQ h4
    omega
  have hfl : (disF (eqsF a.n a.n)).text.length ≤ 200 := by
    have h1 := disF_len (eqsF a.n a.n) fun f hf => eqsF_short hf
    rw [eqsF_len] at h1
    omega
  obtain ⟨FC, hFC⟩ : ∃ FC, FC = conF (factsTo (fun i => a.inS (app m i)) (fun i j => a.inR (app m i) (app m j)) noQ a.n) := ⟨_, rfl⟩
  obtain ⟨DE, hDE⟩ : ∃ DE, DE = desF a.n (fun i => a.inS (app m i)) (fun i j => a.inR (app m i) (app m j)) noQ := ⟨_, rfl⟩
  simp only [← hFC, ← hDE] at hdc hd4 hd3 hdl hcl ⊢
  obtain ⟨DT, hDT⟩ : ∃ DT, DT = DE.text := ⟨_, rfl⟩
  rw [← hDT] at hd4 hdl ⊢
  obtain ⟨CF, hCF⟩ : ∃ CF, CF = bs FC.text := ⟨_, rfl⟩
  have hCz : CF.size ≤ 200 := by rw [hCF, bs_size]; exact hcl
  obtain ⟨DF, hDF⟩ : ∃ DF, DF = bs (disF (eqsF a.n a.n)).text := ⟨_, rfl⟩
  have hDz : DF.size ≤ 200 := by rw [hDF, bs_size]; exact hfl
  rw [← hCF] at hdc
  have HDC := Lib.hid hdc
  have HCF := Lib.hid hCF
  have HDF := Lib.hid hDF
  have HD4 := Lib.hid hd4
  have HD3 := Lib.hid hd3
  have HDT := Lib.hid hDT
  have HCL := Lib.hid hcl
  have HFL := Lib.hid hfl
  have HA := Lib.hid hA
  have X0 := Lib.hid (Bx.new w 24 #[.int .i64 (a.n : Int), .string (bs a.set), .string (bs a.rel)])
  have B0 := Lib.hid ((Below.refl w.heap.size w).alloc (Nat.le_refl _) (.cells #[.int .i64 (a.n : Int), .string (bs a.set), .string (bs a.rel)] 24))
  clear hdc hFC hDE hCF hDF hd4 hd3 hDT hA hm hcl hfl
  go_enter Tryz.func32, Tryz.ntmps32
  obtain ⟨x0, x1, x2⟩ := box_load X0.out
  by_cases hn : a.n = 4
  · have hni : (((a.n : Nat) : Int) == 4) = true := by rw [hn]; rfl
    have HN := Lib.hid hn
    have A0 := Lib.hid (HA.out.call B0.out)
    clear hn
    go_wp2_with fail
    refine (HDC.out _ A0.out).mono ?_
    rintro e w2 ⟨rfl, hz⟩
    have B2 := Lib.hid (B0.out.trans (hz.mono B0.out.size))
    clear hz x0 x1 x2
    have hcd : CF = bs DT := by rw [HCF.out, HD4.out HN.out]
    have HCD := Lib.hid hcd
    clear hcd
    go_wp2_with fail
    go_loopg [7, 8] (a.n - j) (fun q ov iv wr => ∃ (k : Nat) (z : Int), k + q = a.n - j ∧ z + k + 1 = a.n ∧ ov = .string (bs (quL (a.n - k) k ++ DT)) ∧ iv = .int .i64 z ∧ wr = w2)
    case atStart => exact ⟨0, (a.n : Int) - 1, by omega, by omega, by rw [HCD.out]; rfl, by rw [HN.out]; rfl, rfl⟩
    case round =>
      obtain ⟨k, z, hk, hz, rfl, rfl, rfl⟩ := hrel
      have hqz : (bs (quL (a.n - k) k ++ DT)).size ≤ 400 := by rw [bs_size, List.length_append, quL_len]; omega
      by_cases hlt : k < a.n - j
      · obtain ⟨i, hi⟩ : ∃ i : Nat, z = (i : Nat) := ⟨z.toNat, by omega⟩
        subst hi
        have hi4 : i < 4 := by omega
        have hge : (j : Int) ≤ (i : Int) := by omega
        have hnm := nm_cut hi4
        have hs1 := nm_size i
        have hni : a.n - k = i + 1 := by omega
        have hni2 : a.n - (k + 1) = i := by omega
        have HN1 := Lib.hid hni
        have HN2 := Lib.hid hni2
        have HZ := Lib.hid hz
        clear hni hni2 hz
        go_wp2_with fail
        go_roundg (a.n - j - k - 1)
        case rel => exact ⟨k + 1, (i : Int) - 1, by omega, by have := HZ.out; omega, str_eq (by rw [HN2.out, HN1.out, quL_front, qu_name]; exact eq_bs (by simp [bs_data])), by go_num, rfl⟩
        case measure => omega
      · obtain rfl : k = a.n - j := by omega
        have hgk : gk = 0 := by omega
        subst hgk
        have hl2 : z < (j : Int) := by omega
        have hkj : a.n - (a.n - j) = j := by omega
        have HKJ := Lib.hid hkj
        clear hlt hk hkj hz
        go_wp2_with fail
        go_ret
        exact ⟨by rw [HKJ.out]; rfl, B2.out⟩
  · have hn4 : a.n < 4 := by omega
    have hni : (((a.n : Nat) : Int) == 4) = false := by rw [beq_eq_false_iff_ne]; omega
    have HN := Lib.hid hn
    clear hn
    have hnn := nm_cut hn4
    have hs0 := nm_size a.n
    have B1 := Lib.hid (B0.out.alloc B0.out.size (.cells #[] 9))
    have X1 := Lib.hid (X0.out.alloc (.cells #[] 9))
    have O1 := Lib.hid (show ((w.alloc (.cells #[.int .i64 (a.n : Int), .string (bs a.set), .string (bs a.rel)] 24)).alloc (.cells #[] 9)).ownsRow w.heap.size 9 1 (.slice (some ⟨w.heap.size + 1, 0, none⟩) 0 0) 0 (strsV (txs (eqsF a.n 0))) from by
      have h := own_zeroO (w.alloc (.cells #[.int .i64 (a.n : Int), .string (bs a.set), .string (bs a.rel)] 24)) (t := 9)
      rw [World.size_alloc] at h
      exact own_base h (Nat.le_succ _))
    go_wp2_with fail
    go_loopg [9, 10] a.n (fun q ov xv wr => ∃ (k g' cp : Nat), k + q = a.n ∧ xv = .int .i64 (k : Nat) ∧ ov = .slice (some ⟨g', 0, none⟩) k cp ∧ wr.ownsRow w.heap.size 9 1 (.slice (some ⟨g', 0, none⟩) k cp) k (strsV (txs (eqsF a.n k))) ∧ Bx wr w.heap.size 24 #[.int .i64 (a.n : Int), .string (bs a.set), .string (bs a.rel)] ∧ Below w.heap.size w wr)
    case atStart => exact ⟨0, _, 0, by omega, rfl, rfl, O1.out, X1.out, B1.out⟩
    case round =>
      clear O1 B1 X1 X0 B0 x0 x1 x2
      obtain ⟨k, g', cp, hk, rfl, rfl, ho, hx, hb⟩ := hrel
      have O0 := Lib.hid ho
      have X0 := Lib.hid hx
      have B0 := Lib.hid hb
      clear ho hx hb
      obtain ⟨wo, rfl⟩ : ∃ x, x = wr := ⟨wr, rfl⟩
      obtain ⟨x0, x1, x2⟩ := box_load X0.out
      by_cases hlt : k < a.n
      · have hk4 : k < 4 := by omega
        have hnk := nm_cut hk4
        have hs1 := nm_size k
        go_upto_region 12 with (fail)
        have O1 := Lib.hid (own_call O0.out (Below.refl _ _).drew)
        have X1 := Lib.hid X0.out.drew
        have B1 := Lib.hid B0.out.drew
        clear x0 x1 x2
        refine region_sched [(0, true), (1, true), (2, true), (3, true), (4, true), (5, true), (6, true), (7, true), (8, true), (9, true), (10, true), (11, true), (12, true), (13, false), (14, false), (15, true)] (fun w' : World => w'.cell? ⟨w.heap.size, 0, none⟩ = some (.int .i64 (a.n : Int)) ∧ w'.cell? ⟨w.heap.size, 1, none⟩ = some (.string (bs a.set)) ∧ w'.cell? ⟨w.heap.size, 2, none⟩ = some (.string (bs a.rel))) (by kernel_rfl) (by kernel_rfl) (by kernel_rfl) (by kernel_rfl) (fun _ _ _ _ h => h) ?_ (fun Q1 hQ1 => ?_)
        · exact box_load X1.out
        try simp only [List.append]
        refine sched_take' (v := ?_) (a' := ?_) rfl (by kernel_rfl) ?_ rfl ?_ ?_
        rotate_left 2
        · intro w hSw
          (try dsimp only at hSw)
          go_simp
          try with_reducible rfl
        · (try simp only [Act.put, List.setIfInBounds_toArray, List.set_cons_zero, List.set_cons_succ])
          try rfl
        refine sched_take' (v := ?_) (a' := ?_) rfl (by kernel_rfl) ?_ rfl ?_ ?_
        rotate_left 2
        · intro w hSw
          (try dsimp only at hSw)
          go_simp
          try with_reducible rfl
        · (try simp only [Act.put, List.setIfInBounds_toArray, List.set_cons_zero, List.set_cons_succ])
          try rfl
        refine sched_take' (v := ?_) (a' := ?_) rfl (by kernel_rfl) ?_ rfl ?_ ?_
        rotate_left 2
        · intro w hSw
          (try dsimp only at hSw)
          go_simp
          try with_reducible rfl
        · (try simp only [Act.put, List.setIfInBounds_toArray, List.set_cons_zero, List.set_cons_succ])
          try rfl
        refine sched_take' (v := .int .i64 ((k : Int) + 1)) (a' := ?_) rfl (by kernel_rfl) ?_ rfl ?_ ?_
        rotate_left 1
        · intro w hSw
          (try dsimp only at hSw)
          go_simp
          first | done | (rw [IntWalk.i64_in _ (by omega)])
        · (try simp only [Act.put, List.setIfInBounds_toArray, List.set_cons_zero, List.set_cons_succ])
          try rfl
        refine sched_take' (v := .string (nmT k)) (a' := ?_) rfl (by kernel_rfl) ?_ rfl ?_ ?_
        rotate_left 1
        · intro w hSw
          (try dsimp only at hSw)
          go_simp
          first | done | (rw [if_pos ⟨by omega, by omega⟩, if_pos (by omega)])
        · (try simp only [Act.put, List.setIfInBounds_toArray, List.set_cons_zero, List.set_cons_succ])
          try rfl
        refine sched_take' (v := .string (ByteArray.mk #[61] ++ nmT k)) (a' := ?_) rfl (by kernel_rfl) ?_ rfl ?_ ?_
        rotate_left 1
        · intro w hSw
          (try dsimp only at hSw)
          go_simp
          first | done | omega | (rw [if_neg (by omega)]) | (simp; omega)
        · (try simp only [Act.put, List.setIfInBounds_toArray, List.set_cons_zero, List.set_cons_succ])
          try rfl
        refine sched_take' (v := ?_) (a' := ?_) rfl (by kernel_rfl) ?_ rfl ?_ ?_
        rotate_left 2
        · intro w hSw
          (try dsimp only at hSw)
          go_simp
          try with_reducible rfl
        · (try simp only [Act.put, List.setIfInBounds_toArray, List.set_cons_zero, List.set_cons_succ])
          try rfl
        refine sched_take' (v := .int .i64 (a.n : Int)) (a' := ?_) rfl (by kernel_rfl) ?_ rfl ?_ ?_
        rotate_left 1
        · intro w hSw
          (try dsimp only at hSw)
          go_simp
          first | done | (obtain ⟨u0, u1, u2⟩ := hSw; simp [*])
        · (try simp only [Act.put, List.setIfInBounds_toArray, List.set_cons_zero, List.set_cons_succ])
          try rfl
        refine sched_take' (v := ?_) (a' := ?_) rfl (by kernel_rfl) ?_ rfl ?_ ?_
        rotate_left 2
        · intro w hSw
          (try dsimp only at hSw)
          go_simp
          try with_reducible rfl
        · (try simp only [Act.put, List.setIfInBounds_toArray, List.set_cons_zero, List.set_cons_succ])
          try rfl
        refine sched_take' (v := .int .i64 (a.n : Int)) (a' := ?_) rfl (by kernel_rfl) ?_ rfl ?_ ?_
        rotate_left 1
        · intro w hSw
          (try dsimp only at hSw)
          go_simp
          first | done | (obtain ⟨u0, u1, u2⟩ := hSw; simp [*])
        · (try simp only [Act.put, List.setIfInBounds_toArray, List.set_cons_zero, List.set_cons_succ])
          try rfl
        refine sched_take' (v := .int .i64 ((a.n : Int) + 1)) (a' := ?_) rfl (by kernel_rfl) ?_ rfl ?_ ?_
        rotate_left 1
        · intro w hSw
          (try dsimp only at hSw)
          go_simp
          first | done | (rw [IntWalk.i64_in _ (by omega)])
        · (try simp only [Act.put, List.setIfInBounds_toArray, List.set_cons_zero, List.set_cons_succ])
          try rfl
        refine sched_take' (v := .string (nmT a.n)) (a' := ?_) rfl (by kernel_rfl) ?_ rfl ?_ ?_
        rotate_left 1
        · intro w hSw
          (try dsimp only at hSw)
          go_simp
          first | done | (rw [if_pos ⟨by omega, by omega⟩, if_pos (by omega)])
        · (try simp only [Act.put, List.setIfInBounds_toArray, List.set_cons_zero, List.set_cons_succ])
          try rfl
        refine sched_take' (v := .string (ByteArray.mk #[61] ++ nmT k ++ nmT a.n)) (a' := ?_) rfl (by kernel_rfl) ?_ rfl ?_ ?_
        rotate_left 1
        · intro w hSw
          (try dsimp only at hSw)
          go_simp
          first | done | omega | (rw [if_neg (by omega)]) | (simp; omega)
        · (try simp only [Act.put, List.setIfInBounds_toArray, List.set_cons_zero, List.set_cons_succ])
          try rfl
        refine sched_call rfl (by kernel_rfl) (fun K1 hK1 => ?_)
        go_simp
        have X4 := Lib.hid (X1.out.alloc (.cells #[.string (ByteArray.mk #[61] ++ nmT k ++ nmT a.n)] 9))
        have B4 := Lib.hid (B1.out.alloc B1.out.size (.cells #[.string (ByteArray.mk #[61] ++ nmT k ++ nmT a.n)] 9))
        have O4 := Lib.hid (O1.out.alloc (.cells #[.string (ByteArray.mk #[61] ++ nmT k ++ nmT a.n)] 9))
        obtain ⟨bk, hbk⟩ : ∃ bk, bk = wo.drew.heap.size := ⟨_, rfl⟩
        have Y4 := Lib.hid (show Bx (wo.drew.alloc (.cells #[.string (ByteArray.mk #[61] ++ nmT k ++ nmT a.n)] 9)) bk 9 #[.string (ByteArray.mk #[61] ++ nmT k ++ nmT a.n)] from by rw [hbk]; exact Bx.new wo.drew 9 #[.string (ByteArray.mk #[61] ++ nmT k ++ nmT a.n)])
        have hbk2 : bk = wo.heap.size := hbk
        first | rw [← hbk] | rw [← hbk2]
        clear hbk hbk2
        refine hK1.out _ _ ?_ (sched_lay (a' := ?_) ?_ ?_)
        · exact box_load X4.out
        rotate_left 1
        · (try simp only [Act.put, List.getElem_toArray, List.getElem_cons_succ, List.getElem_cons_zero, List.setIfInBounds_toArray, List.set_cons_zero, List.set_cons_succ])
          try rfl
        clear hK1 K1
        refine sched_call rfl (by kernel_rfl) (fun K1 hK1 => ?_)
        refine R3.wp_app (.tmp 39) (.tmp 52) 80 (by rfl) w.heap.size 9 i0 (.string ⟨#[]⟩) 1 16 Tryz.underlying80 hi hz0 hz1 hz2 rfl (by decide) _ k (strsV (txs (eqsF a.n k))) (by rfl) O4.out ⟨bk, 0, none⟩ 1 1 [.string (ByteArray.mk #[61] ++ nmT k ++ nmT a.n)] (by rfl) rfl (World.news_of_block (cs := #[.string (ByteArray.mk #[61] ++ nmT k ++ nmT a.n)]) Y4.out) (one_str _) (by unfold maxLen; omega) (by omega) B4.out.size (fun v8 w8 ho hg => ?_)
        obtain ⟨g8, cp8, rfl⟩ := shape_pos ho (by omega)
        have O8 := Lib.hid ho
        have X8 := Lib.hid (X4.out.grown hg (own_apart O4.out X4.out (by decide)))
        have B8 := Lib.hid (B4.out.grown hg B4.out.size (fun j hj => (O4.out.lt j hj).1))
        clear ho hg
        refine hK1.out _ _ ?_ (sched_lay (a' := ?_) ?_ ?_)
        · exact box_load X8.out
        rotate_left 1
        · (try simp only [Act.put, List.getElem_toArray, List.getElem_cons_succ, List.getElem_cons_zero, List.setIfInBounds_toArray, List.set_cons_zero, List.set_cons_succ])
          try rfl
        clear hK1 K1
        refine sched_take' (v := ?_) (a' := ?_) rfl (by kernel_rfl) ?_ rfl ?_ ?_
        rotate_left 2
        · intro w hSw
          (try dsimp only at hSw)
          go_simp
          try with_reducible rfl
        · (try simp only [Act.put, List.setIfInBounds_toArray, List.set_cons_zero, List.set_cons_succ])
          try rfl
        refine sched_done (hQ1.out _ _ ?_)
        go_wp2_with fail
        go_roundg (a.n - k - 1)
        case rel => exact ⟨k + 1, g8, cp8, by omega, by go_num, rfl, by rw [eqs_snoc]; exact O8.out, X8.out, B8.out⟩
        case measure => omega
      · obtain rfl : k = a.n := by omega
        have hgk : gk = 0 := by omega
        subst hgk
        clear hlt hk
        have hjd := fun (W : World) (h : W.ownsRow w.heap.size 9 1 (.slice (some ⟨g', 0, none⟩) a.n cp) a.n (strsV (txs (eqsF a.n a.n)))) => l2Join_dis (eqsF a.n a.n) a.n g' cp w.heap.size W (eqsF_len _ _) (by omega) (fun f hf => short_len (eqsF_short hf)) h
        rw [← HDF.out] at hjd
        have HJD := Lib.hid hjd
        have htx : bs (Fm.qu .A (vf a.n) (disF (eqsF a.n a.n))).text = ByteArray.mk #[65] ++ nmT a.n ++ DF := by rw [HDF.out]; exact (eq_bs (by simp [bs_data, nm_list, Fm.text, Qn.b])).symm
        have hjc : ∀ (W : World) (g2 B : Nat), W.ownsRow B 9 1 (.slice (some ⟨g2, 0, none⟩) 2 2) 2 [.string CF, .string (ByteArray.mk #[65] ++ nmT a.n ++ DF)] → Calls Tryz.prog 60 #[.string ⟨#[38]⟩, .slice (some ⟨g2, 0, none⟩) 2 2] W fun e w' => e = .returned (.string (bs DT)) ∧ Below W.heap.size W w' := fun W g2 B h => by
          rw [HCF.out, ← htx] at h
          have h2 := l2Join_con [FC, .qu .A (vf a.n) (disF (eqsF a.n a.n))] 2 g2 2 B W rfl (by omega) (fun f hf => by
            simp only [List.mem_cons, List.not_mem_nil, or_false] at hf
            have e1 := HCL.out
            have e2 := HFL.out
            rcases hf with rfl | rfl
            · omega
            · simp only [Fm.text, List.length_cons]; omega) h
          rwa [← HD3.out HN.out, ← HDT.out] at h2
        have HJC := Lib.hid hjc
        clear hjd htx hjc
        go_upto_region 13 with (fail)
        have O1 := Lib.hid (own_call O0.out (Below.refl _ _).drew)
        have X1 := Lib.hid X0.out.drew
        have B1 := Lib.hid B0.out.drew
        have A1 := Lib.hid (HA.out.call B1.out)
        clear x0 x1 x2
        refine region_sched [(0, true), (1, true), (3, true), (4, true), (5, true), (6, true), (7, true), (8, true), (9, true), (10, true), (2, false), (11, false), (12, true), (13, false), (14, false), (15, true)] (fun w' : World => w'.cell? ⟨w.heap.size, 0, none⟩ = some (.int .i64 (a.n : Int)) ∧ w'.cell? ⟨w.heap.size, 1, none⟩ = some (.string (bs a.set)) ∧ w'.cell? ⟨w.heap.size, 2, none⟩ = some (.string (bs a.rel))) (by kernel_rfl) (by kernel_rfl) (by kernel_rfl) (by kernel_rfl) (fun _ _ _ _ h => h) ?_ (fun Q1 hQ1 => ?_)
        · exact box_load X1.out
        try simp only [List.append]
        refine sched_take' (v := .agg #[.int .i64 (a.n : Int), .string (bs a.set), .string (bs a.rel)]) (a' := ?_) rfl (by kernel_rfl) ?_ rfl ?_ ?_
        rotate_left 1
        · intro w hSw
          (try dsimp only at hSw)
          go_simp
          first | done | (obtain ⟨u0, u1, u2⟩ := hSw; simp [*])
        · (try simp only [Act.put, List.setIfInBounds_toArray, List.set_cons_zero, List.set_cons_succ])
          try rfl
        refine sched_take' (v := ?_) (a' := ?_) rfl (by kernel_rfl) ?_ rfl ?_ ?_
        rotate_left 2
        · intro w hSw
          (try dsimp only at hSw)
          go_simp
          try with_reducible rfl
        · (try simp only [Act.put, List.setIfInBounds_toArray, List.set_cons_zero, List.set_cons_succ])
          try rfl
        refine sched_take' (v := ?_) (a' := ?_) rfl (by kernel_rfl) ?_ rfl ?_ ?_
        rotate_left 2
        · intro w hSw
          (try dsimp only at hSw)
          go_simp
          try with_reducible rfl
        · (try simp only [Act.put, List.setIfInBounds_toArray, List.set_cons_zero, List.set_cons_succ])
          try rfl
        refine sched_take' (v := .int .i64 (a.n : Int)) (a' := ?_) rfl (by kernel_rfl) ?_ rfl ?_ ?_
        rotate_left 1
        · intro w hSw
          (try dsimp only at hSw)
          go_simp
          first | done | (obtain ⟨u0, u1, u2⟩ := hSw; simp [*])
        · (try simp only [Act.put, List.setIfInBounds_toArray, List.set_cons_zero, List.set_cons_succ])
          try rfl
        refine sched_take' (v := ?_) (a' := ?_) rfl (by kernel_rfl) ?_ rfl ?_ ?_
        rotate_left 2
        · intro w hSw
          (try dsimp only at hSw)
          go_simp
          try with_reducible rfl
        · (try simp only [Act.put, List.setIfInBounds_toArray, List.set_cons_zero, List.set_cons_succ])
          try rfl
        refine sched_take' (v := .int .i64 (a.n : Int)) (a' := ?_) rfl (by kernel_rfl) ?_ rfl ?_ ?_
        rotate_left 1
        · intro w hSw
          (try dsimp only at hSw)
          go_simp
          first | done | (obtain ⟨u0, u1, u2⟩ := hSw; simp [*])
        · (try simp only [Act.put, List.setIfInBounds_toArray, List.set_cons_zero, List.set_cons_succ])
          try rfl
        refine sched_take' (v := .int .i64 ((a.n : Int) + 1)) (a' := ?_) rfl (by kernel_rfl) ?_ rfl ?_ ?_
        rotate_left 1
        · intro w hSw
          (try dsimp only at hSw)
          go_simp
          first | done | (rw [IntWalk.i64_in _ (by omega)])
        · (try simp only [Act.put, List.setIfInBounds_toArray, List.set_cons_zero, List.set_cons_succ])
          try rfl
        refine sched_take' (v := .string (nmT a.n)) (a' := ?_) rfl (by kernel_rfl) ?_ rfl ?_ ?_
        rotate_left 1
        · intro w hSw
          (try dsimp only at hSw)
          go_simp
          first | done | (rw [if_pos ⟨by omega, by omega⟩, if_pos (by omega)])
        · (try simp only [Act.put, List.setIfInBounds_toArray, List.set_cons_zero, List.set_cons_succ])
          try rfl
        refine sched_take' (v := .string (ByteArray.mk #[65] ++ nmT a.n)) (a' := ?_) rfl (by kernel_rfl) ?_ rfl ?_ ?_
        rotate_left 1
        · intro w hSw
          (try dsimp only at hSw)
          go_simp
          first | done | omega | (rw [if_neg (by omega)]) | (simp; omega)
        · (try simp only [Act.put, List.setIfInBounds_toArray, List.set_cons_zero, List.set_cons_succ])
          try rfl
        refine sched_take' (v := ?_) (a' := ?_) rfl (by kernel_rfl) ?_ rfl ?_ ?_
        rotate_left 2
        · intro w hSw
          (try dsimp only at hSw)
          go_simp
          try with_reducible rfl
        · (try simp only [Act.put, List.setIfInBounds_toArray, List.set_cons_zero, List.set_cons_succ])
          try rfl
        refine sched_call rfl (by kernel_rfl) (fun K1 hK1 => ?_)
        go_simp
        refine (HDC.out _ A1.out).mono ?_
        rintro e w2 ⟨rfl, hz⟩
        have X2 := Lib.hid (X1.out.call hz)
        have B2 := Lib.hid (B1.out.trans (hz.mono B1.out.size))
        have O2 := Lib.hid (own_call O1.out hz)
        clear hz
        go_wp2_with fail
        refine hK1.out _ _ ?_ (sched_lay (a' := ?_) ?_ ?_)
        · exact box_load X2.out
        rotate_left 1
        · (try simp only [Act.put, List.getElem_toArray, List.getElem_cons_succ, List.getElem_cons_zero, List.setIfInBounds_toArray, List.set_cons_zero, List.set_cons_succ])
          try rfl
        clear hK1 K1
        refine sched_call rfl (by kernel_rfl) (fun K1 hK1 => ?_)
        go_simp
        refine (HJD.out _ O2.out).mono ?_
        rintro e w3 ⟨rfl, hz⟩
        have X3 := Lib.hid (X2.out.call hz)
        have B3 := Lib.hid (B2.out.trans (hz.mono B2.out.size))
        clear hz
        go_wp2_with fail
        refine hK1.out _ _ ?_ (sched_lay (a' := ?_) ?_ ?_)
        · exact box_load X3.out
        rotate_left 1
        · (try simp only [Act.put, List.getElem_toArray, List.getElem_cons_succ, List.getElem_cons_zero, List.setIfInBounds_toArray, List.set_cons_zero, List.set_cons_succ])
          try rfl
        clear hK1 K1
        refine sched_take' (v := .string (ByteArray.mk #[65] ++ nmT a.n ++ DF)) (a' := ?_) rfl (by kernel_rfl) ?_ rfl ?_ ?_
        rotate_left 1
        · intro w hSw
          (try dsimp only at hSw)
          go_simp
          first | done | omega | (rw [if_neg (by omega)]) | (simp; omega)
        · (try simp only [Act.put, List.setIfInBounds_toArray, List.set_cons_zero, List.set_cons_succ])
          try rfl
        refine sched_call rfl (by kernel_rfl) (fun K1 hK1 => ?_)
        go_simp
        have X4 := Lib.hid (X3.out.alloc (.cells #[.string CF, .string (ByteArray.mk #[65] ++ nmT a.n ++ DF)] 9))
        have B4 := Lib.hid (B3.out.alloc B3.out.size (.cells #[.string CF, .string (ByteArray.mk #[65] ++ nmT a.n ++ DF)] 9))
        have Q4 := Lib.hid (own_lit w3 9 (.string CF) (.string (ByteArray.mk #[65] ++ nmT a.n ++ DF)))
        refine hK1.out _ _ ?_ (sched_lay (a' := ?_) ?_ ?_)
        · exact box_load X4.out
        rotate_left 1
        · (try simp only [Act.put, List.getElem_toArray, List.getElem_cons_succ, List.getElem_cons_zero, List.setIfInBounds_toArray, List.set_cons_zero, List.set_cons_succ])
          try rfl
        clear hK1 K1
        refine sched_call rfl (by kernel_rfl) (fun K1 hK1 => ?_)
        go_simp
        refine (HJC.out _ _ _ Q4.out).mono ?_
        rintro e w5 ⟨rfl, hz⟩
        have X5 := Lib.hid (X4.out.call hz)
        have B5 := Lib.hid (B4.out.trans (hz.mono B4.out.size))
        clear hz
        go_wp2_with fail
        refine hK1.out _ _ ?_ (sched_lay (a' := ?_) ?_ ?_)
        · exact box_load X5.out
        rotate_left 1
        · (try simp only [Act.put, List.getElem_toArray, List.getElem_cons_succ, List.getElem_cons_zero, List.setIfInBounds_toArray, List.set_cons_zero, List.set_cons_succ])
          try rfl
        clear hK1 K1
        refine sched_take' (v := ?_) (a' := ?_) rfl (by kernel_rfl) ?_ rfl ?_ ?_
        rotate_left 2
        · intro w hSw
          (try dsimp only at hSw)
          go_simp
          try with_reducible rfl
        · (try simp only [Act.put, List.setIfInBounds_toArray, List.set_cons_zero, List.set_cons_succ])
          try rfl
        refine sched_done (hQ1.out _ _ ?_)
        obtain ⟨x0, x1, x2⟩ := box_load X5.out
        clear X0 X1 X2 X3 X4 B0 B1 B2 B3 B4 Q4 HJC HJD
        go_wp2_with fail
        go_loopg [11, 12] (a.n - j) (fun q ov iv wr => ∃ (k : Nat) (z : Int), k + q = a.n - j ∧ z + k + 1 = a.n ∧ ov = .string (bs (quL (a.n - k) k ++ DT)) ∧ iv = .int .i64 z ∧ wr = w5)
        case atStart => exact ⟨0, (a.n : Int) - 1, by omega, by omega, rfl, by go_num, rfl⟩
        case round =>
          obtain ⟨k, z, hk, hz, rfl, rfl, rfl⟩ := hrel
          have hqz : (bs (quL (a.n - k) k ++ DT)).size ≤ 400 := by rw [bs_size, List.length_append, quL_len]; omega
          by_cases hlt : k < a.n - j
          · obtain ⟨i, hi⟩ : ∃ i : Nat, z = (i : Nat) := ⟨z.toNat, by omega⟩
            subst hi
            have hi4 : i < 4 := by omega
            have hge : (j : Int) ≤ (i : Int) := by omega
            have hnm := nm_cut hi4
            have hs1 := nm_size i
            have hni : a.n - k = i + 1 := by omega
            have hni2 : a.n - (k + 1) = i := by omega
            have HN1 := Lib.hid hni
            have HN2 := Lib.hid hni2
            have HZ := Lib.hid hz
            clear hni hni2 hz
            go_wp2_with fail
            go_roundg (a.n - j - k - 1)
            case rel => exact ⟨k + 1, (i : Int) - 1, by omega, by have := HZ.out; omega, str_eq (by rw [HN2.out, HN1.out, quL_front, qu_name]; exact eq_bs (by simp [bs_data])), by go_num, rfl⟩
            case measure => omega
          · obtain rfl : k = a.n - j := by omega
            have hgk : gk = 0 := by omega
            subst hgk
            have hl2 : z < (j : Int) := by omega
            have hkj : a.n - (a.n - j) = j := by omega
            have HKJ := Lib.hid hkj
            clear hlt hk hkj hz
            go_wp2_with fail
            go_ret
            exact ⟨by rw [HKJ.out]; rfl, B5.out⟩

end Go.Proofs.YtpaleogkgfclnaaGreatDoor
