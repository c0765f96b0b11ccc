/-
  Laws of the functions that the claim reaches, one after the other (packed by a program of the prover's: DecQu, Holds, Part). Conditions: texts below the reach.
-/
import Derived.Test.YtpaleogkgfclnaaGreatDoorPg5
import Derived.Test.YtpaleogkgfclnaaGreatDoorPg0
set_option linter.unusedSimpArgs false
set_option linter.unusedVariables false

namespace Go.Proofs.YtpaleogkgfclnaaGreatDoor
open Go.RowKit
open Go.ChangeMaps
open Pl
set_option linter.unusedSimpArgs false
set_option linter.unusedVariables false

theorem var_one {lo : Nat} {w0 : World} {a : St} {hb : Nat} {W : World} (h : HoldW lo w0 a hb W) {f : Fm} {v : Fin 4} {nb : Nat} (ht : TreeAt lo w0 f nb) (hf : f.vars = [v]) :
    ∃ g cap, W.cell? ⟨nb, 1, none⟩ = some (.slice (some ⟨g, 0, none⟩) 1 cap) ∧ W.cell? ⟨g, 0, none⟩ = some (byteV (vb v)) := by
  obtain ⟨ks, vsv, psv, _, hc1, _, _, _, hrow, _⟩ := node_cells (h.tree ht)
  rw [hf] at hrow
  obtain ⟨g, cap, rfl, _, _, _, _, hc⟩ := row_open hrow (by simp)
  exact ⟨g, cap, hc1, by simpa using hc 0 (by simp)⟩

section
variable (lo : Nat) (w0 : World) (a : St) (hb : Nat)

set_option maxRecDepth 100000 in
set_option maxHeartbeats 8000000 in
theorem decide_qu0 (ha : a.ok) (q : Qn) (p : Fm) (ih : HoldsBy 74 lo w0 a hb p) : HoldsBy 88 lo w0 a hb (.qu q 0 p) := by
  intro nb e w ht he hw
  obtain ⟨E, hE⟩ : ∃ E, E = eN e := ⟨_, rfl⟩
  have hA : envA e = #[.int .i64 (E 0 : Nat), .int .i64 (E 1 : Nat), .int .i64 (E 2 : Nat), .int .i64 (E 3 : Nat)] := by rw [hE]; rfl
  rw [hA]
  have hV := (hw.alloc (.cells #[kidV nb] 60)).alloc (.cells #[.int .i64 (E 0 : Nat), .int .i64 (E 1 : Nat), .int .i64 (E 2 : Nat), .int .i64 (E 3 : Nat)] 99)
  have hD : DecB ((w.alloc (.cells #[kidV nb] 60)).alloc (.cells #[.int .i64 (E 0 : Nat), .int .i64 (E 1 : Nat), .int .i64 (E 2 : Nat), .int .i64 (E 3 : Nat)] 99)) w.heap.size nb E := ⟨(Bx.new w 60 #[kidV nb]).alloc _, bx_two w _ _⟩
  have HV := Lib.hid hV
  have HD := Lib.hid hD
  have HT := Lib.hid (hV.tree ht)
  have F1 := Lib.hid ((Fz.alloc (Nat.le_of_lt hw.cache.lt) (.cells #[kidV nb] 60)).trans (Fz.alloc (by have := hw.cache.lt; simp; omega) (.cells #[.int .i64 (E 0 : Nat), .int .i64 (E 1 : Nat), .int .i64 (E 2 : Nat), .int .i64 (E 3 : Nat)] 99)))
  obtain ⟨ks, vsv, psv, hc00, _⟩ := node_cells HT.out
  have hc0 : ((w.alloc (.cells #[kidV nb] 60)).alloc (.cells #[.int .i64 (E 0 : Nat), .int .i64 (E 1 : Nat), .int .i64 (E 2 : Nat), .int .i64 (E 3 : Nat)] 99)).cell? ⟨nb, 0, none⟩ = some (.int .u8 q.b.toNat) := hc00
  clear hc00
  have n0 := hD.node.cell 0
  simp only [List.getElem?_toArray, List.getElem?_cons_zero, List.getElem?_cons_succ] at n0
  have HE := Lib.hid hE
  have He := Lib.hid he
  have HTw := Lib.hid ht
  have hbl := hw.box.lt
  have hbl2 := hw.cache.lt
  clear hE hA hV hD ht he hw
  obtain ⟨o, ho⟩ : ∃ o : Int, o = (q.b.toNat : Int) := ⟨_, rfl⟩
  have hq : (o == 116) = false ∧ (o == 102) = false ∧ (o == 80) = false ∧ (o == 61) = false ∧ (o == 69) = false ∧ (o == 33) = false ∧ (o == 38) = false ∧ (o == 124) = false := by
    rw [ho]; cases q <;> decide
  obtain ⟨q1, q2, q3, q4, q5, q6, q7, q8⟩ := hq
  rw [← ho] at hc0
  have Ho := Lib.hid ho
  have h8 := ha.hi
  have h0 := HV.out.box.cell 0
  simp only [List.getElem?_toArray, List.getElem?_cons_zero, List.getElem?_cons_succ] at h0
  have Ih := Lib.hid ih
  clear ih ho
  go_enter Tryz.func88, Tryz.ntmps88
  go_wp2_with fail
  go_loopg [8, 107] a.n (fun c cn xi wr => ∃ x : Nat, x + c = a.n ∧ xi = .int .i64 (x : Nat) ∧ cn = .int .i64 (Pl.cnt x (fun y => p.holds a (upd e 0 y)) : Nat) ∧ HoldW lo w0 a hb wr ∧ Bx wr w.heap.size 60 #[kidV nb] ∧ (∃ E' : Nat → Nat, (∀ i, i ≠ 0 → E' i = E i) ∧ Bx wr (w.heap.size + 1) 99 #[.int .i64 (E' 0 : Nat), .int .i64 (E' 1 : Nat), .int .i64 (E' 2 : Nat), .int .i64 (E' 3 : Nat)]) ∧ Fz hb w wr)
  case atStart => exact ⟨0, by omega, rfl, rfl, HV.out, HD.out.node, ⟨E, fun _ _ => rfl, HD.out.vals⟩, F1.out⟩
  case round =>
    obtain ⟨x, hx, rfl, rfl, hH, hN, ⟨E', hE', hVl⟩, hf⟩ := hrel
    have HVl := Lib.hid hVl
    have HN := Lib.hid hN
    have HE' := Lib.hid hE'
    have hcn := cnt_le x (fun y => p.holds a (upd e 0 y))
    by_cases hlt : x < a.n
    · obtain ⟨gv, capv, y0, y10⟩ := var_one hH HTw.out (f := .qu q 0 p) rfl
      have y1 : wr.cell? ⟨gv, 0, none⟩ = some (.int .u8 97) := y10
      clear y10
      have H2 := Lib.hid (hH.set hVl (by omega) 0 (.int .i64 (x : Nat)))
      have FS := Lib.hid (hf.set (by omega) (by omega) (g := w.heap.size + 1) 0 (.int .i64 (x : Nat)))
      have XN0 := Lib.hid (show Bx (wr.setCell ⟨w.heap.size + 1, 0, none⟩ (.int .i64 (x : Nat))).drew w.heap.size 60 #[kidV nb] from (hN.far (by simp) _).drew)
      have XV0 := Lib.hid (show Bx (wr.setCell ⟨w.heap.size + 1, 0, none⟩ (.int .i64 (x : Nat))).drew (w.heap.size + 1) 99 #[.int .i64 (x : Nat), .int .i64 (E' 1 : Nat), .int .i64 (E' 2 : Nat), .int .i64 (E' 3 : Nat)] from (by have := (hVl.set 0 (.int .i64 (x : Nat))).drew; simpa using this))
      have n0w := hN.cell 0
      have fv := hVl.free 0
      have cv := hVl.cell 0
      simp only [List.getElem?_toArray, List.getElem?_cons_zero, List.getElem?_cons_succ] at n0w cv
      clear hH hN hVl hf hE'
      go_upto_region 24 with (fail)
      have n0 := XN0.out.cell 0
      have v0 := XV0.out.cell 0
      have v1 := XV0.out.cell 1
      have v2 := XV0.out.cell 2
      have v3 := XV0.out.cell 3
      simp only [List.getElem?_toArray, List.getElem?_cons_zero, List.getElem?_cons_succ] at n0 v0 v1 v2 v3
      obtain ⟨k, g, cap, p0, k0, htk⟩ := kid_one H2.out.drew HTw.out (f := .qu q 0 p) rfl
      have hAx : envA (upd e 0 x) = #[.int .i64 (x : Nat), .int .i64 (E' 1 : Nat), .int .i64 (E' 2 : Nat), .int .i64 (E' 3 : Nat)] := by
        have gg : ∀ i : Fin 4, i.val ≠ 0 → e i = E' i.val := fun i hi => by rw [HE'.out _ hi, HE.out, eN_fin]
        unfold envA upd
        rw [gg 1 (by decide), gg 2 (by decide), gg 3 (by decide)]
        first | (simp; done) | (simp; rfl)
      have ck := fun (W : World) (hW : HoldW lo w0 a hb W) => Ih.out k (upd e 0 x) W htk (fun u => by unfold upd; split; exact hlt; exact He.out u) hW
      simp only [hAx] at ck
      clear hAx htk
      have hcs := cnt_succ x (fun y => p.holds a (upd e 0 y))
      cases hp : p.holds a (upd e 0 x) with
      | false =>
        simp only [hp] at ck hcs
        have CK := Lib.hid ck
        have Hcs := Lib.hid hcs
        clear ck hcs hp
        refine region_sched [(0, true), (1, true), (2, true), (3, true), (4, true), (5, true), (6, true), (7, true), (8, false)] (fun w' : World => w'.cell? ⟨w.heap.size, 0, none⟩ = some (kidV nb) ∧ w'.cell? ⟨nb, 2, none⟩ = some (.slice (some ⟨g, 0, none⟩) 1 cap) ∧ w'.cell? ⟨g, 0, none⟩ = some (kidV k) ∧ w'.cell? ⟨w.heap.size + 1, 0, none⟩ = some (.int .i64 (x : Nat)) ∧ w'.cell? ⟨w.heap.size + 1, 1, none⟩ = some (.int .i64 (E' 1 : Nat)) ∧ w'.cell? ⟨w.heap.size + 1, 2, none⟩ = some (.int .i64 (E' 2 : Nat)) ∧ w'.cell? ⟨w.heap.size + 1, 3, none⟩ = some (.int .i64 (E' 3 : Nat))) (by kernel_rfl) (by kernel_rfl) (by kernel_rfl) (by kernel_rfl) (fun _ _ _ _ h => h) ?_ (fun Q1 hQ1 => ?_)
        · exact ⟨n0, p0, k0, v0, v1, v2, v3⟩
        try simp only [List.append]
        refine sched_take' (v := ?_) (a' := ?_) rfl (by kernel_rfl) ?_ rfl ?_ ?_
        rotate_left 2
        · intro w hSw
          (try dsimp only at hSw)
          go_simp
          try with_reducible rfl
        · (try simp only [Act.put, List.setIfInBounds_toArray, List.set_cons_zero, List.set_cons_succ])
          try rfl
        refine sched_take' (v := kidV nb) (a' := ?_) rfl (by kernel_rfl) ?_ rfl ?_ ?_
        rotate_left 1
        · intro w hSw
          (try dsimp only at hSw)
          go_simp
          first | done | (obtain ⟨un, up, uk, uv0, uv1, uv2, uv3⟩ := hSw; simp [*])
        · (try simp only [Act.put, List.setIfInBounds_toArray, List.set_cons_zero, List.set_cons_succ])
          try rfl
        refine sched_take' (v := ?_) (a' := ?_) rfl (by kernel_rfl) ?_ rfl ?_ ?_
        rotate_left 2
        · intro w hSw
          (try dsimp only at hSw)
          go_simp
          try with_reducible rfl
        · (try simp only [Act.put, List.setIfInBounds_toArray, List.set_cons_zero, List.set_cons_succ])
          try rfl
        refine sched_take' (v := ?_) (a' := ?_) rfl (by kernel_rfl) ?_ rfl ?_ ?_
        rotate_left 2
        · intro w hSw
          (try dsimp only at hSw)
          go_simp
          try with_reducible rfl
        · (try simp only [Act.put, List.setIfInBounds_toArray, List.set_cons_zero, List.set_cons_succ])
          try rfl
        refine sched_take' (v := .slice (some ⟨g, 0, none⟩) 1 cap) (a' := ?_) rfl (by kernel_rfl) ?_ rfl ?_ ?_
        rotate_left 1
        · intro w hSw
          (try dsimp only at hSw)
          go_simp
          first | done | (obtain ⟨un, up, uk, uv0, uv1, uv2, uv3⟩ := hSw; simp [*])
        · (try simp only [Act.put, List.setIfInBounds_toArray, List.set_cons_zero, List.set_cons_succ])
          try rfl
        refine sched_take' (v := ?_) (a' := ?_) rfl (by kernel_rfl) ?_ rfl ?_ ?_
        rotate_left 2
        · intro w hSw
          (try dsimp only at hSw)
          go_simp
          try with_reducible rfl
        · (try simp only [Act.put, List.setIfInBounds_toArray, List.set_cons_zero, List.set_cons_succ])
          try rfl
        refine sched_take' (v := kidV k) (a' := ?_) rfl (by kernel_rfl) ?_ rfl ?_ ?_
        rotate_left 1
        · intro w hSw
          (try dsimp only at hSw)
          go_simp
          first | done | (obtain ⟨un, up, uk, uv0, uv1, uv2, uv3⟩ := hSw; simp [*])
        · (try simp only [Act.put, List.setIfInBounds_toArray, List.set_cons_zero, List.set_cons_succ])
          try rfl
        refine sched_take' (v := .agg #[.int .i64 (x : Nat), .int .i64 (E' 1 : Nat), .int .i64 (E' 2 : Nat), .int .i64 (E' 3 : Nat)]) (a' := ?_) rfl (by kernel_rfl) ?_ rfl ?_ ?_
        rotate_left 1
        · intro w hSw
          (try dsimp only at hSw)
          go_simp
          first | done | (obtain ⟨un, up, uk, uv0, uv1, uv2, uv3⟩ := hSw; simp [*])
        · (try simp only [Act.put, List.setIfInBounds_toArray, List.set_cons_zero, List.set_cons_succ])
          try rfl
        refine sched_call rfl (by kernel_rfl) (fun K1 hK1 => ?_)
        go_simp
        refine (CK.out _ H2.out.drew).mono ?_
        rintro ed w1 ⟨rfl, hW, hF⟩
        have HW := Lib.hid hW
        have F2 := Lib.hid (FS.out.drew.trans hF)
        have n1 := hF.cell n0
        have p1 := hF.cell p0
        have k1 := hF.cell k0
        have x0 := hF.cell v0
        have x1 := hF.cell v1
        have x2 := hF.cell v2
        have x3 := hF.cell v3
        have XN := Lib.hid (hF.bx XN0.out)
        have XV := Lib.hid (hF.bx XV0.out)
        clear hW hF
        go_wp2_with fail
        refine hK1.out _ _ ?_ (sched_lay (a' := ?_) ?_ ?_)
        · exact ⟨n1, p1, k1, x0, x1, x2, x3⟩
        rotate_left 1
        · (try simp only [Act.put, List.getElem_toArray, List.getElem_cons_succ, List.getElem_cons_zero, List.setIfInBounds_toArray, List.set_cons_zero, List.set_cons_succ])
          try rfl
        clear hK1 K1
        refine sched_done (hQ1.out _ _ ?_)
        go_wp2_with fail
        go_roundg (a.n - x - 1)
        case rel => exact ⟨x + 1, by omega, by go_num, by rw [Hcs.out]; rfl, HW.out, XN.out, ⟨fun i => if i = 0 then x else E' i, fun i hi => (if_neg hi).trans (HE'.out i hi), XV.out⟩, F2.out⟩
        case measure => omega
      | true =>
        simp only [hp] at ck hcs
        have CK := Lib.hid ck
        have Hcs := Lib.hid hcs
        clear ck hcs hp
        refine region_sched [(0, true), (1, true), (2, true), (3, true), (4, true), (5, true), (6, true), (7, true), (8, false)] (fun w' : World => w'.cell? ⟨w.heap.size, 0, none⟩ = some (kidV nb) ∧ w'.cell? ⟨nb, 2, none⟩ = some (.slice (some ⟨g, 0, none⟩) 1 cap) ∧ w'.cell? ⟨g, 0, none⟩ = some (kidV k) ∧ w'.cell? ⟨w.heap.size + 1, 0, none⟩ = some (.int .i64 (x : Nat)) ∧ w'.cell? ⟨w.heap.size + 1, 1, none⟩ = some (.int .i64 (E' 1 : Nat)) ∧ w'.cell? ⟨w.heap.size + 1, 2, none⟩ = some (.int .i64 (E' 2 : Nat)) ∧ w'.cell? ⟨w.heap.size + 1, 3, none⟩ = some (.int .i64 (E' 3 : Nat))) (by kernel_rfl) (by kernel_rfl) (by kernel_rfl) (by kernel_rfl) (fun _ _ _ _ h => h) ?_ (fun Q1 hQ1 => ?_)
        · exact ⟨n0, p0, k0, v0, v1, v2, v3⟩
        try simp only [List.append]
        refine sched_take' (v := ?_) (a' := ?_) rfl (by kernel_rfl) ?_ rfl ?_ ?_
        rotate_left 2
        · intro w hSw
          (try dsimp only at hSw)
          go_simp
          try with_reducible rfl
        · (try simp only [Act.put, List.setIfInBounds_toArray, List.set_cons_zero, List.set_cons_succ])
          try rfl
        refine sched_take' (v := kidV nb) (a' := ?_) rfl (by kernel_rfl) ?_ rfl ?_ ?_
        rotate_left 1
        · intro w hSw
          (try dsimp only at hSw)
          go_simp
          first | done | (obtain ⟨un, up, uk, uv0, uv1, uv2, uv3⟩ := hSw; simp [*])
        · (try simp only [Act.put, List.setIfInBounds_toArray, List.set_cons_zero, List.set_cons_succ])
          try rfl
        refine sched_take' (v := ?_) (a' := ?_) rfl (by kernel_rfl) ?_ rfl ?_ ?_
        rotate_left 2
        · intro w hSw
          (try dsimp only at hSw)
          go_simp
          try with_reducible rfl
        · (try simp only [Act.put, List.setIfInBounds_toArray, List.set_cons_zero, List.set_cons_succ])
          try rfl
        refine sched_take' (v := ?_) (a' := ?_) rfl (by kernel_rfl) ?_ rfl ?_ ?_
        rotate_left 2
        · intro w hSw
          (try dsimp only at hSw)
          go_simp
          try with_reducible rfl
        · (try simp only [Act.put, List.setIfInBounds_toArray, List.set_cons_zero, List.set_cons_succ])
          try rfl
        refine sched_take' (v := .slice (some ⟨g, 0, none⟩) 1 cap) (a' := ?_) rfl (by kernel_rfl) ?_ rfl ?_ ?_
        rotate_left 1
        · intro w hSw
          (try dsimp only at hSw)
          go_simp
          first | done | (obtain ⟨un, up, uk, uv0, uv1, uv2, uv3⟩ := hSw; simp [*])
        · (try simp only [Act.put, List.setIfInBounds_toArray, List.set_cons_zero, List.set_cons_succ])
          try rfl
        refine sched_take' (v := ?_) (a' := ?_) rfl (by kernel_rfl) ?_ rfl ?_ ?_
        rotate_left 2
        · intro w hSw
          (try dsimp only at hSw)
          go_simp
          try with_reducible rfl
        · (try simp only [Act.put, List.setIfInBounds_toArray, List.set_cons_zero, List.set_cons_succ])
          try rfl
        refine sched_take' (v := kidV k) (a' := ?_) rfl (by kernel_rfl) ?_ rfl ?_ ?_
        rotate_left 1
        · intro w hSw
          (try dsimp only at hSw)
          go_simp
          first | done | (obtain ⟨un, up, uk, uv0, uv1, uv2, uv3⟩ := hSw; simp [*])
        · (try simp only [Act.put, List.setIfInBounds_toArray, List.set_cons_zero, List.set_cons_succ])
          try rfl
        refine sched_take' (v := .agg #[.int .i64 (x : Nat), .int .i64 (E' 1 : Nat), .int .i64 (E' 2 : Nat), .int .i64 (E' 3 : Nat)]) (a' := ?_) rfl (by kernel_rfl) ?_ rfl ?_ ?_
        rotate_left 1
        · intro w hSw
          (try dsimp only at hSw)
          go_simp
          first | done | (obtain ⟨un, up, uk, uv0, uv1, uv2, uv3⟩ := hSw; simp [*])
        · (try simp only [Act.put, List.setIfInBounds_toArray, List.set_cons_zero, List.set_cons_succ])
          try rfl
        refine sched_call rfl (by kernel_rfl) (fun K1 hK1 => ?_)
        go_simp
        refine (CK.out _ H2.out.drew).mono ?_
        rintro ed w1 ⟨rfl, hW, hF⟩
        have HW := Lib.hid hW
        have F2 := Lib.hid (FS.out.drew.trans hF)
        have n1 := hF.cell n0
        have p1 := hF.cell p0
        have k1 := hF.cell k0
        have x0 := hF.cell v0
        have x1 := hF.cell v1
        have x2 := hF.cell v2
        have x3 := hF.cell v3
        have XN := Lib.hid (hF.bx XN0.out)
        have XV := Lib.hid (hF.bx XV0.out)
        clear hW hF
        go_wp2_with fail
        refine hK1.out _ _ ?_ (sched_lay (a' := ?_) ?_ ?_)
        · exact ⟨n1, p1, k1, x0, x1, x2, x3⟩
        rotate_left 1
        · (try simp only [Act.put, List.getElem_toArray, List.getElem_cons_succ, List.getElem_cons_zero, List.setIfInBounds_toArray, List.set_cons_zero, List.set_cons_succ])
          try rfl
        clear hK1 K1
        refine sched_done (hQ1.out _ _ ?_)
        go_wp2_with fail
        go_roundg (a.n - x - 1)
        case rel => exact ⟨x + 1, by omega, by go_num, by rw [Hcs.out]; rfl, HW.out, XN.out, ⟨fun i => if i = 0 then x else E' i, fun i hi => (if_neg hi).trans (HE'.out i hi), XV.out⟩, F2.out⟩
        case measure => omega
    · have hxe : x = a.n := by omega
      have hxi : ¬ (x : Int) < (a.n : Int) := by omega
      have HH := Lib.hid hH
      have HF := Lib.hid hf
      have m0 := hN.cell 0
      have b0 := hH.box.cell 0
      simp only [List.getElem?_toArray, List.getElem?_cons_zero, List.getElem?_cons_succ] at m0 b0
      obtain ⟨ks', vsv', psv', hd0, _⟩ := node_cells (hH.tree HTw.out)
      have hd1 : wr.cell? ⟨nb, 0, none⟩ = some (.int .u8 (q.b.toNat : Int)) := hd0
      have HX := Lib.hid hxe
      obtain ⟨C, hC⟩ : ∃ C, C = Pl.cnt x (fun y => p.holds a (upd e 0 y)) := ⟨_, rfl⟩
      rw [← hC] at hcn ⊢
      have HC := Lib.hid hC
      clear hd0 hH hf hN hVl hE' hxe hC
      cases q
      case A => 
        have hd2 : wr.cell? ⟨nb, 0, none⟩ = some (.int .u8 65) := hd1
        clear hd1
        go_wp2_with fail
        go_ret
        refine ⟨?_, HH.out, HF.out⟩
        show _ = Ending.returned (.bool (Qn.says _ a.n (Pl.cnt a.n fun y => p.holds a (upd e 0 y))))
        rw [← HX.out, ← HC.out]
        exact congrArg (fun b => Ending.returned (Value.bool b)) (show ((C : Int) == (x : Int)) = (C == x) by rw [Bool.eq_iff_iff, beq_iff_eq, beq_iff_eq]; omega)
      case S => 
        have hd2 : wr.cell? ⟨nb, 0, none⟩ = some (.int .u8 83) := hd1
        clear hd1
        go_wp2_with fail
        go_ret
        refine ⟨?_, HH.out, HF.out⟩
        show _ = Ending.returned (.bool (Qn.says _ a.n (Pl.cnt a.n fun y => p.holds a (upd e 0 y))))
        rw [← HX.out, ← HC.out]
        exact congrArg (fun b => Ending.returned (Value.bool b)) (show decide (0 < C) = Qn.says .S x C from rfl)
      case c2 => 
        have hd2 : wr.cell? ⟨nb, 0, none⟩ = some (.int .u8 50) := hd1
        clear hd1
        go_wp2_with fail
        go_ret
        refine ⟨?_, HH.out, HF.out⟩
        show _ = Ending.returned (.bool (Qn.says _ a.n (Pl.cnt a.n fun y => p.holds a (upd e 0 y))))
        rw [← HX.out, ← HC.out]
        exact congrArg (fun b => Ending.returned (Value.bool b)) (show decide ((2 : Int) ≤ (C : Int)) = decide (2 ≤ C) from decide_eq_decide.2 (by omega))
      case c3 => 
        have hd2 : wr.cell? ⟨nb, 0, none⟩ = some (.int .u8 51) := hd1
        clear hd1
        go_wp2_with fail
        go_ret
        refine ⟨?_, HH.out, HF.out⟩
        show _ = Ending.returned (.bool (Qn.says _ a.n (Pl.cnt a.n fun y => p.holds a (upd e 0 y))))
        rw [← HX.out, ← HC.out]
        exact congrArg (fun b => Ending.returned (Value.bool b)) (show decide ((3 : Int) ≤ (C : Int)) = decide (3 ≤ C) from decide_eq_decide.2 (by omega))
      case c4 => 
        have hd2 : wr.cell? ⟨nb, 0, none⟩ = some (.int .u8 52) := hd1
        clear hd1
        go_wp2_with fail
        go_ret
        refine ⟨?_, HH.out, HF.out⟩
        show _ = Ending.returned (.bool (Qn.says _ a.n (Pl.cnt a.n fun y => p.holds a (upd e 0 y))))
        rw [← HX.out, ← HC.out]
        exact congrArg (fun b => Ending.returned (Value.bool b)) (show decide ((4 : Int) ≤ (C : Int)) = decide (4 ≤ C) from decide_eq_decide.2 (by omega))

set_option maxRecDepth 100000 in
set_option maxHeartbeats 8000000 in
theorem decide_qu1 (ha : a.ok) (q : Qn) (p : Fm) (ih : HoldsBy 74 lo w0 a hb p) : HoldsBy 88 lo w0 a hb (.qu q 1 p) := by
  intro nb e w ht he hw
  obtain ⟨E, hE⟩ : ∃ E, E = eN e := ⟨_, rfl⟩
  have hA : envA e = #[.int .i64 (E 0 : Nat), .int .i64 (E 1 : Nat), .int .i64 (E 2 : Nat), .int .i64 (E 3 : Nat)] := by rw [hE]; rfl
  rw [hA]
  have hV := (hw.alloc (.cells #[kidV nb] 60)).alloc (.cells #[.int .i64 (E 0 : Nat), .int .i64 (E 1 : Nat), .int .i64 (E 2 : Nat), .int .i64 (E 3 : Nat)] 99)
  have hD : DecB ((w.alloc (.cells #[kidV nb] 60)).alloc (.cells #[.int .i64 (E 0 : Nat), .int .i64 (E 1 : Nat), .int .i64 (E 2 : Nat), .int .i64 (E 3 : Nat)] 99)) w.heap.size nb E := ⟨(Bx.new w 60 #[kidV nb]).alloc _, bx_two w _ _⟩
  have HV := Lib.hid hV
  have HD := Lib.hid hD
  have HT := Lib.hid (hV.tree ht)
  have F1 := Lib.hid ((Fz.alloc (Nat.le_of_lt hw.cache.lt) (.cells #[kidV nb] 60)).trans (Fz.alloc (by have := hw.cache.lt; simp; omega) (.cells #[.int .i64 (E 0 : Nat), .int .i64 (E 1 : Nat), .int .i64 (E 2 : Nat), .int .i64 (E 3 : Nat)] 99)))
  obtain ⟨ks, vsv, psv, hc00, _⟩ := node_cells HT.out
  have hc0 : ((w.alloc (.cells #[kidV nb] 60)).alloc (.cells #[.int .i64 (E 0 : Nat), .int .i64 (E 1 : Nat), .int .i64 (E 2 : Nat), .int .i64 (E 3 : Nat)] 99)).cell? ⟨nb, 0, none⟩ = some (.int .u8 q.b.toNat) := hc00
  clear hc00
  have n0 := hD.node.cell 0
  simp only [List.getElem?_toArray, List.getElem?_cons_zero, List.getElem?_cons_succ] at n0
  have HE := Lib.hid hE
  have He := Lib.hid he
  have HTw := Lib.hid ht
  have hbl := hw.box.lt
  have hbl2 := hw.cache.lt
  clear hE hA hV hD ht he hw
  obtain ⟨o, ho⟩ : ∃ o : Int, o = (q.b.toNat : Int) := ⟨_, rfl⟩
  have hq : (o == 116) = false ∧ (o == 102) = false ∧ (o == 80) = false ∧ (o == 61) = false ∧ (o == 69) = false ∧ (o == 33) = false ∧ (o == 38) = false ∧ (o == 124) = false := by
    rw [ho]; cases q <;> decide
  obtain ⟨q1, q2, q3, q4, q5, q6, q7, q8⟩ := hq
  rw [← ho] at hc0
  have Ho := Lib.hid ho
  have h8 := ha.hi
  have h0 := HV.out.box.cell 0
  simp only [List.getElem?_toArray, List.getElem?_cons_zero, List.getElem?_cons_succ] at h0
  have Ih := Lib.hid ih
  clear ih ho
  go_enter Tryz.func88, Tryz.ntmps88
  go_wp2_with fail
  go_loopg [8, 107] a.n (fun c cn xi wr => ∃ x : Nat, x + c = a.n ∧ xi = .int .i64 (x : Nat) ∧ cn = .int .i64 (Pl.cnt x (fun y => p.holds a (upd e 1 y)) : Nat) ∧ HoldW lo w0 a hb wr ∧ Bx wr w.heap.size 60 #[kidV nb] ∧ (∃ E' : Nat → Nat, (∀ i, i ≠ 1 → E' i = E i) ∧ Bx wr (w.heap.size + 1) 99 #[.int .i64 (E' 0 : Nat), .int .i64 (E' 1 : Nat), .int .i64 (E' 2 : Nat), .int .i64 (E' 3 : Nat)]) ∧ Fz hb w wr)
  case atStart => exact ⟨0, by omega, rfl, rfl, HV.out, HD.out.node, ⟨E, fun _ _ => rfl, HD.out.vals⟩, F1.out⟩
  case round =>
    obtain ⟨x, hx, rfl, rfl, hH, hN, ⟨E', hE', hVl⟩, hf⟩ := hrel
    have HVl := Lib.hid hVl
    have HN := Lib.hid hN
    have HE' := Lib.hid hE'
    have hcn := cnt_le x (fun y => p.holds a (upd e 1 y))
    by_cases hlt : x < a.n
    · obtain ⟨gv, capv, y0, y10⟩ := var_one hH HTw.out (f := .qu q 1 p) rfl
      have y1 : wr.cell? ⟨gv, 0, none⟩ = some (.int .u8 98) := y10
      clear y10
      have H2 := Lib.hid (hH.set hVl (by omega) 1 (.int .i64 (x : Nat)))
      have FS := Lib.hid (hf.set (by omega) (by omega) (g := w.heap.size + 1) 1 (.int .i64 (x : Nat)))
      have XN0 := Lib.hid (show Bx (wr.setCell ⟨w.heap.size + 1, 1, none⟩ (.int .i64 (x : Nat))).drew w.heap.size 60 #[kidV nb] from (hN.far (by simp) _).drew)
      have XV0 := Lib.hid (show Bx (wr.setCell ⟨w.heap.size + 1, 1, none⟩ (.int .i64 (x : Nat))).drew (w.heap.size + 1) 99 #[.int .i64 (E' 0 : Nat), .int .i64 (x : Nat), .int .i64 (E' 2 : Nat), .int .i64 (E' 3 : Nat)] from (by have := (hVl.set 1 (.int .i64 (x : Nat))).drew; simpa using this))
      have n0w := hN.cell 0
      have fv := hVl.free 1
      have cv := hVl.cell 1
      simp only [List.getElem?_toArray, List.getElem?_cons_zero, List.getElem?_cons_succ] at n0w cv
      clear hH hN hVl hf hE'
      go_upto_region 24 with (fail)
      have n0 := XN0.out.cell 0
      have v0 := XV0.out.cell 0
      have v1 := XV0.out.cell 1
      have v2 := XV0.out.cell 2
      have v3 := XV0.out.cell 3
      simp only [List.getElem?_toArray, List.getElem?_cons_zero, List.getElem?_cons_succ] at n0 v0 v1 v2 v3
      obtain ⟨k, g, cap, p0, k0, htk⟩ := kid_one H2.out.drew HTw.out (f := .qu q 1 p) rfl
      have hAx : envA (upd e 1 x) = #[.int .i64 (E' 0 : Nat), .int .i64 (x : Nat), .int .i64 (E' 2 : Nat), .int .i64 (E' 3 : Nat)] := by
        have gg : ∀ i : Fin 4, i.val ≠ 1 → e i = E' i.val := fun i hi => by rw [HE'.out _ hi, HE.out, eN_fin]
        unfold envA upd
        rw [gg 0 (by decide), gg 2 (by decide), gg 3 (by decide)]
        first | (simp; done) | (simp; rfl)
      have ck := fun (W : World) (hW : HoldW lo w0 a hb W) => Ih.out k (upd e 1 x) W htk (fun u => by unfold upd; split; exact hlt; exact He.out u) hW
      simp only [hAx] at ck
      clear hAx htk
      have hcs := cnt_succ x (fun y => p.holds a (upd e 1 y))
      cases hp : p.holds a (upd e 1 x) with
      | false =>
        simp only [hp] at ck hcs
        have CK := Lib.hid ck
        have Hcs := Lib.hid hcs
        clear ck hcs hp
        refine region_sched [(0, true), (1, true), (2, true), (3, true), (4, true), (5, true), (6, true), (7, true), (8, false)] (fun w' : World => w'.cell? ⟨w.heap.size, 0, none⟩ = some (kidV nb) ∧ w'.cell? ⟨nb, 2, none⟩ = some (.slice (some ⟨g, 0, none⟩) 1 cap) ∧ w'.cell? ⟨g, 0, none⟩ = some (kidV k) ∧ w'.cell? ⟨w.heap.size + 1, 0, none⟩ = some (.int .i64 (E' 0 : Nat)) ∧ w'.cell? ⟨w.heap.size + 1, 1, none⟩ = some (.int .i64 (x : Nat)) ∧ w'.cell? ⟨w.heap.size + 1, 2, none⟩ = some (.int .i64 (E' 2 : Nat)) ∧ w'.cell? ⟨w.heap.size + 1, 3, none⟩ = some (.int .i64 (E' 3 : Nat))) (by kernel_rfl) (by kernel_rfl) (by kernel_rfl) (by kernel_rfl) (fun _ _ _ _ h => h) ?_ (fun Q1 hQ1 => ?_)
        · exact ⟨n0, p0, k0, v0, v1, v2, v3⟩
        try simp only [List.append]
        refine sched_take' (v := ?_) (a' := ?_) rfl (by kernel_rfl) ?_ rfl ?_ ?_
        rotate_left 2
        · intro w hSw
          (try dsimp only at hSw)
          go_simp
          try with_reducible rfl
        · (try simp only [Act.put, List.setIfInBounds_toArray, List.set_cons_zero, List.set_cons_succ])
          try rfl
        refine sched_take' (v := kidV nb) (a' := ?_) rfl (by kernel_rfl) ?_ rfl ?_ ?_
        rotate_left 1
        · intro w hSw
          (try dsimp only at hSw)
          go_simp
          first | done | (obtain ⟨un, up, uk, uv0, uv1, uv2, uv3⟩ := hSw; simp [*])
        · (try simp only [Act.put, List.setIfInBounds_toArray, List.set_cons_zero, List.set_cons_succ])
          try rfl
        refine sched_take' (v := ?_) (a' := ?_) rfl (by kernel_rfl) ?_ rfl ?_ ?_
        rotate_left 2
        · intro w hSw
          (try dsimp only at hSw)
          go_simp
          try with_reducible rfl
        · (try simp only [Act.put, List.setIfInBounds_toArray, List.set_cons_zero, List.set_cons_succ])
          try rfl
        refine sched_take' (v := ?_) (a' := ?_) rfl (by kernel_rfl) ?_ rfl ?_ ?_
        rotate_left 2
        · intro w hSw
          (try dsimp only at hSw)
          go_simp
          try with_reducible rfl
        · (try simp only [Act.put, List.setIfInBounds_toArray, List.set_cons_zero, List.set_cons_succ])
          try rfl
        refine sched_take' (v := .slice (some ⟨g, 0, none⟩) 1 cap) (a' := ?_) rfl (by kernel_rfl) ?_ rfl ?_ ?_
        rotate_left 1
        · intro w hSw
          (try dsimp only at hSw)
          go_simp
          first | done | (obtain ⟨un, up, uk, uv0, uv1, uv2, uv3⟩ := hSw; simp [*])
        · (try simp only [Act.put, List.setIfInBounds_toArray, List.set_cons_zero, List.set_cons_succ])
          try rfl
        refine sched_take' (v := ?_) (a' := ?_) rfl (by kernel_rfl) ?_ rfl ?_ ?_
        rotate_left 2
        · intro w hSw
          (try dsimp only at hSw)
          go_simp
          try with_reducible rfl
        · (try simp only [Act.put, List.setIfInBounds_toArray, List.set_cons_zero, List.set_cons_succ])
          try rfl
        refine sched_take' (v := kidV k) (a' := ?_) rfl (by kernel_rfl) ?_ rfl ?_ ?_
        rotate_left 1
        · intro w hSw
          (try dsimp only at hSw)
          go_simp
          first | done | (obtain ⟨un, up, uk, uv0, uv1, uv2, uv3⟩ := hSw; simp [*])
        · (try simp only [Act.put, List.setIfInBounds_toArray, List.set_cons_zero, List.set_cons_succ])
          try rfl
        refine sched_take' (v := .agg #[.int .i64 (E' 0 : Nat), .int .i64 (x : Nat), .int .i64 (E' 2 : Nat), .int .i64 (E' 3 : Nat)]) (a' := ?_) rfl (by kernel_rfl) ?_ rfl ?_ ?_
        rotate_left 1
        · intro w hSw
          (try dsimp only at hSw)
          go_simp
          first | done | (obtain ⟨un, up, uk, uv0, uv1, uv2, uv3⟩ := hSw; simp [*])
        · (try simp only [Act.put, List.setIfInBounds_toArray, List.set_cons_zero, List.set_cons_succ])
          try rfl
        refine sched_call rfl (by kernel_rfl) (fun K1 hK1 => ?_)
        go_simp
        refine (CK.out _ H2.out.drew).mono ?_
        rintro ed w1 ⟨rfl, hW, hF⟩
        have HW := Lib.hid hW
        have F2 := Lib.hid (FS.out.drew.trans hF)
        have n1 := hF.cell n0
        have p1 := hF.cell p0
        have k1 := hF.cell k0
        have x0 := hF.cell v0
        have x1 := hF.cell v1
        have x2 := hF.cell v2
        have x3 := hF.cell v3
        have XN := Lib.hid (hF.bx XN0.out)
        have XV := Lib.hid (hF.bx XV0.out)
        clear hW hF
        go_wp2_with fail
        refine hK1.out _ _ ?_ (sched_lay (a' := ?_) ?_ ?_)
        · exact ⟨n1, p1, k1, x0, x1, x2, x3⟩
        rotate_left 1
        · (try simp only [Act.put, List.getElem_toArray, List.getElem_cons_succ, List.getElem_cons_zero, List.setIfInBounds_toArray, List.set_cons_zero, List.set_cons_succ])
          try rfl
        clear hK1 K1
        refine sched_done (hQ1.out _ _ ?_)
        go_wp2_with fail
        go_roundg (a.n - x - 1)
        case rel => exact ⟨x + 1, by omega, by go_num, by rw [Hcs.out]; rfl, HW.out, XN.out, ⟨fun i => if i = 1 then x else E' i, fun i hi => (if_neg hi).trans (HE'.out i hi), XV.out⟩, F2.out⟩
        case measure => omega
      | true =>
        simp only [hp] at ck hcs
        have CK := Lib.hid ck
        have Hcs := Lib.hid hcs
        clear ck hcs hp
        refine region_sched [(0, true), (1, true), (2, true), (3, true), (4, true), (5, true), (6, true), (7, true), (8, false)] (fun w' : World => w'.cell? ⟨w.heap.size, 0, none⟩ = some (kidV nb) ∧ w'.cell? ⟨nb, 2, none⟩ = some (.slice (some ⟨g, 0, none⟩) 1 cap) ∧ w'.cell? ⟨g, 0, none⟩ = some (kidV k) ∧ w'.cell? ⟨w.heap.size + 1, 0, none⟩ = some (.int .i64 (E' 0 : Nat)) ∧ w'.cell? ⟨w.heap.size + 1, 1, none⟩ = some (.int .i64 (x : Nat)) ∧ w'.cell? ⟨w.heap.size + 1, 2, none⟩ = some (.int .i64 (E' 2 : Nat)) ∧ w'.cell? ⟨w.heap.size + 1, 3, none⟩ = some (.int .i64 (E' 3 : Nat))) (by kernel_rfl) (by kernel_rfl) (by kernel_rfl) (by kernel_rfl) (fun _ _ _ _ h => h) ?_ (fun Q1 hQ1 => ?_)
        · exact ⟨n0, p0, k0, v0, v1, v2, v3⟩
        try simp only [List.append]
        refine sched_take' (v := ?_) (a' := ?_) rfl (by kernel_rfl) ?_ rfl ?_ ?_
        rotate_left 2
        · intro w hSw
          (try dsimp only at hSw)
          go_simp
          try with_reducible rfl
        · (try simp only [Act.put, List.setIfInBounds_toArray, List.set_cons_zero, List.set_cons_succ])
          try rfl
        refine sched_take' (v := kidV nb) (a' := ?_) rfl (by kernel_rfl) ?_ rfl ?_ ?_
        rotate_left 1
        · intro w hSw
          (try dsimp only at hSw)
          go_simp
          first | done | (obtain ⟨un, up, uk, uv0, uv1, uv2, uv3⟩ := hSw; simp [*])
        · (try simp only [Act.put, List.setIfInBounds_toArray, List.set_cons_zero, List.set_cons_succ])
          try rfl
        refine sched_take' (v := ?_) (a' := ?_) rfl (by kernel_rfl) ?_ rfl ?_ ?_
        rotate_left 2
        · intro w hSw
          (try dsimp only at hSw)
          go_simp
          try with_reducible rfl
        · (try simp only [Act.put, List.setIfInBounds_toArray, List.set_cons_zero, List.set_cons_succ])
          try rfl
        refine sched_take' (v := ?_) (a' := ?_) rfl (by kernel_rfl) ?_ rfl ?_ ?_
        rotate_left 2
        · intro w hSw
          (try dsimp only at hSw)
          go_simp
          try with_reducible rfl
        · (try simp only [Act.put, List.setIfInBounds_toArray, List.set_cons_zero, List.set_cons_succ])
          try rfl
        refine sched_take' (v := .slice (some ⟨g, 0, none⟩) 1 cap) (a' := ?_) rfl (by kernel_rfl) ?_ rfl ?_ ?_
        rotate_left 1
        · intro w hSw
          (try dsimp only at hSw)
          go_simp
          first | done | (obtain ⟨un, up, uk, uv0, uv1, uv2, uv3⟩ := hSw; simp [*])
        · (try simp only [Act.put, List.setIfInBounds_toArray, List.set_cons_zero, List.set_cons_succ])
          try rfl
        refine sched_take' (v := ?_) (a' := ?_) rfl (by kernel_rfl) ?_ rfl ?_ ?_
        rotate_left 2
        · intro w hSw
          (try dsimp only at hSw)
          go_simp
          try with_reducible rfl
        · (try simp only [Act.put, List.setIfInBounds_toArray, List.set_cons_zero, List.set_cons_succ])
          try rfl
        refine sched_take' (v := kidV k) (a' := ?_) rfl (by kernel_rfl) ?_ rfl ?_ ?_
        rotate_left 1
        · intro w hSw
          (try dsimp only at hSw)
          go_simp
          first | done | (obtain ⟨un, up, uk, uv0, uv1, uv2, uv3⟩ := hSw; simp [*])
        · (try simp only [Act.put, List.setIfInBounds_toArray, List.set_cons_zero, List.set_cons_succ])
          try rfl
        refine sched_take' (v := .agg #[.int .i64 (E' 0 : Nat), .int .i64 (x : Nat), .int .i64 (E' 2 : Nat), .int .i64 (E' 3 : Nat)]) (a' := ?_) rfl (by kernel_rfl) ?_ rfl ?_ ?_
        rotate_left 1
        · intro w hSw
          (try dsimp only at hSw)
          go_simp
          first | done | (obtain ⟨un, up, uk, uv0, uv1, uv2, uv3⟩ := hSw; simp [*])
        · (try simp only [Act.put, List.setIfInBounds_toArray, List.set_cons_zero, List.set_cons_succ])
          try rfl
        refine sched_call rfl (by kernel_rfl) (fun K1 hK1 => ?_)
        go_simp
        refine (CK.out _ H2.out.drew).mono ?_
        rintro ed w1 ⟨rfl, hW, hF⟩
        have HW := Lib.hid hW
        have F2 := Lib.hid (FS.out.drew.trans hF)
        have n1 := hF.cell n0
        have p1 := hF.cell p0
        have k1 := hF.cell k0
        have x0 := hF.cell v0
        have x1 := hF.cell v1
        have x2 := hF.cell v2
        have x3 := hF.cell v3
        have XN := Lib.hid (hF.bx XN0.out)
        have XV := Lib.hid (hF.bx XV0.out)
        clear hW hF
        go_wp2_with fail
        refine hK1.out _ _ ?_ (sched_lay (a' := ?_) ?_ ?_)
        · exact ⟨n1, p1, k1, x0, x1, x2, x3⟩
        rotate_left 1
        · (try simp only [Act.put, List.getElem_toArray, List.getElem_cons_succ, List.getElem_cons_zero, List.setIfInBounds_toArray, List.set_cons_zero, List.set_cons_succ])
          try rfl
        clear hK1 K1
        refine sched_done (hQ1.out _ _ ?_)
        go_wp2_with fail
        go_roundg (a.n - x - 1)
        case rel => exact ⟨x + 1, by omega, by go_num, by rw [Hcs.out]; rfl, HW.out, XN.out, ⟨fun i => if i = 1 then x else E' i, fun i hi => (if_neg hi).trans (HE'.out i hi), XV.out⟩, F2.out⟩
        case measure => omega
    · have hxe : x = a.n := by omega
      have hxi : ¬ (x : Int) < (a.n : Int) := by omega
      have HH := Lib.hid hH
      have HF := Lib.hid hf
      have m0 := hN.cell 0
      have b0 := hH.box.cell 0
      simp only [List.getElem?_toArray, List.getElem?_cons_zero, List.getElem?_cons_succ] at m0 b0
      obtain ⟨ks', vsv', psv', hd0, _⟩ := node_cells (hH.tree HTw.out)
      have hd1 : wr.cell? ⟨nb, 0, none⟩ = some (.int .u8 (q.b.toNat : Int)) := hd0
      have HX := Lib.hid hxe
      obtain ⟨C, hC⟩ : ∃ C, C = Pl.cnt x (fun y => p.holds a (upd e 1 y)) := ⟨_, rfl⟩
      rw [← hC] at hcn ⊢
      have HC := Lib.hid hC
      clear hd0 hH hf hN hVl hE' hxe hC
      cases q
      case A => 
        have hd2 : wr.cell? ⟨nb, 0, none⟩ = some (.int .u8 65) := hd1
        clear hd1
        go_wp2_with fail
        go_ret
        refine ⟨?_, HH.out, HF.out⟩
        show _ = Ending.returned (.bool (Qn.says _ a.n (Pl.cnt a.n fun y => p.holds a (upd e 1 y))))
        rw [← HX.out, ← HC.out]
        exact congrArg (fun b => Ending.returned (Value.bool b)) (show ((C : Int) == (x : Int)) = (C == x) by rw [Bool.eq_iff_iff, beq_iff_eq, beq_iff_eq]; omega)
      case S => 
        have hd2 : wr.cell? ⟨nb, 0, none⟩ = some (.int .u8 83) := hd1
        clear hd1
        go_wp2_with fail
        go_ret
        refine ⟨?_, HH.out, HF.out⟩
        show _ = Ending.returned (.bool (Qn.says _ a.n (Pl.cnt a.n fun y => p.holds a (upd e 1 y))))
        rw [← HX.out, ← HC.out]
        exact congrArg (fun b => Ending.returned (Value.bool b)) (show decide (0 < C) = Qn.says .S x C from rfl)
      case c2 => 
        have hd2 : wr.cell? ⟨nb, 0, none⟩ = some (.int .u8 50) := hd1
        clear hd1
        go_wp2_with fail
        go_ret
        refine ⟨?_, HH.out, HF.out⟩
        show _ = Ending.returned (.bool (Qn.says _ a.n (Pl.cnt a.n fun y => p.holds a (upd e 1 y))))
        rw [← HX.out, ← HC.out]
        exact congrArg (fun b => Ending.returned (Value.bool b)) (show decide ((2 : Int) ≤ (C : Int)) = decide (2 ≤ C) from decide_eq_decide.2 (by omega))
      case c3 => 
        have hd2 : wr.cell? ⟨nb, 0, none⟩ = some (.int .u8 51) := hd1
        clear hd1
        go_wp2_with fail
        go_ret
        refine ⟨?_, HH.out, HF.out⟩
        show _ = Ending.returned (.bool (Qn.says _ a.n (Pl.cnt a.n fun y => p.holds a (upd e 1 y))))
        rw [← HX.out, ← HC.out]
        exact congrArg (fun b => Ending.returned (Value.bool b)) (show decide ((3 : Int) ≤ (C : Int)) = decide (3 ≤ C) from decide_eq_decide.2 (by omega))
      case c4 => 
        have hd2 : wr.cell? ⟨nb, 0, none⟩ = some (.int .u8 52) := hd1
        clear hd1
        go_wp2_with fail
        go_ret
        refine ⟨?_, HH.out, HF.out⟩
        show _ = Ending.returned (.bool (Qn.says _ a.n (Pl.cnt a.n fun y => p.holds a (upd e 1 y))))
        rw [← HX.out, ← HC.out]
        exact congrArg (fun b => Ending.returned (Value.bool b)) (show decide ((4 : Int) ≤ (C : Int)) = decide (4 ≤ C) from decide_eq_decide.2 (by omega))

set_option maxRecDepth 100000 in
set_option maxHeartbeats 8000000 in
theorem decide_qu2 (ha : a.ok) (q : Qn) (p : Fm) (ih : HoldsBy 74 lo w0 a hb p) : HoldsBy 88 lo w0 a hb (.qu q 2 p) := by
  intro nb e w ht he hw
  obtain ⟨E, hE⟩ : ∃ E, E = eN e := ⟨_, rfl⟩
  have hA : envA e = #[.int .i64 (E 0 : Nat), .int .i64 (E 1 : Nat), .int .i64 (E 2 : Nat), .int .i64 (E 3 : Nat)] := by rw [hE]; rfl
  rw [hA]
  have hV := (hw.alloc (.cells #[kidV nb] 60)).alloc (.cells #[.int .i64 (E 0 : Nat), .int .i64 (E 1 : Nat), .int .i64 (E 2 : Nat), .int .i64 (E 3 : Nat)] 99)
  have hD : DecB ((w.alloc (.cells #[kidV nb] 60)).alloc (.cells #[.int .i64 (E 0 : Nat), .int .i64 (E 1 : Nat), .int .i64 (E 2 : Nat), .int .i64 (E 3 : Nat)] 99)) w.heap.size nb E := ⟨(Bx.new w 60 #[kidV nb]).alloc _, bx_two w _ _⟩
  have HV := Lib.hid hV
  have HD := Lib.hid hD
  have HT := Lib.hid (hV.tree ht)
  have F1 := Lib.hid ((Fz.alloc (Nat.le_of_lt hw.cache.lt) (.cells #[kidV nb] 60)).trans (Fz.alloc (by have := hw.cache.lt; simp; omega) (.cells #[.int .i64 (E 0 : Nat), .int .i64 (E 1 : Nat), .int .i64 (E 2 : Nat), .int .i64 (E 3 : Nat)] 99)))
  obtain ⟨ks, vsv, psv, hc00, _⟩ := node_cells HT.out
  have hc0 : ((w.alloc (.cells #[kidV nb] 60)).alloc (.cells #[.int .i64 (E 0 : Nat), .int .i64 (E 1 : Nat), .int .i64 (E 2 : Nat), .int .i64 (E 3 : Nat)] 99)).cell? ⟨nb, 0, none⟩ = some (.int .u8 q.b.toNat) := hc00
  clear hc00
  have n0 := hD.node.cell 0
  simp only [List.getElem?_toArray, List.getElem?_cons_zero, List.getElem?_cons_succ] at n0
  have HE := Lib.hid hE
  have He := Lib.hid he
  have HTw := Lib.hid ht
  have hbl := hw.box.lt
  have hbl2 := hw.cache.lt
  clear hE hA hV hD ht he hw
  obtain ⟨o, ho⟩ : ∃ o : Int, o = (q.b.toNat : Int) := ⟨_, rfl⟩
  have hq : (o == 116) = false ∧ (o == 102) = false ∧ (o == 80) = false ∧ (o == 61) = false ∧ (o == 69) = false ∧ (o == 33) = false ∧ (o == 38) = false ∧ (o == 124) = false := by
    rw [ho]; cases q <;> decide
  obtain ⟨q1, q2, q3, q4, q5, q6, q7, q8⟩ := hq
  rw [← ho] at hc0
  have Ho := Lib.hid ho
  have h8 := ha.hi
  have h0 := HV.out.box.cell 0
  simp only [List.getElem?_toArray, List.getElem?_cons_zero, List.getElem?_cons_succ] at h0
  have Ih := Lib.hid ih
  clear ih ho
  go_enter Tryz.func88, Tryz.ntmps88
  go_wp2_with fail
  go_loopg [8, 107] a.n (fun c cn xi wr => ∃ x : Nat, x + c = a.n ∧ xi = .int .i64 (x : Nat) ∧ cn = .int .i64 (Pl.cnt x (fun y => p.holds a (upd e 2 y)) : Nat) ∧ HoldW lo w0 a hb wr ∧ Bx wr w.heap.size 60 #[kidV nb] ∧ (∃ E' : Nat → Nat, (∀ i, i ≠ 2 → E' i = E i) ∧ Bx wr (w.heap.size + 1) 99 #[.int .i64 (E' 0 : Nat), .int .i64 (E' 1 : Nat), .int .i64 (E' 2 : Nat), .int .i64 (E' 3 : Nat)]) ∧ Fz hb w wr)
  case atStart => exact ⟨0, by omega, rfl, rfl, HV.out, HD.out.node, ⟨E, fun _ _ => rfl, HD.out.vals⟩, F1.out⟩
  case round =>
    obtain ⟨x, hx, rfl, rfl, hH, hN, ⟨E', hE', hVl⟩, hf⟩ := hrel
    have HVl := Lib.hid hVl
    have HN := Lib.hid hN
    have HE' := Lib.hid hE'
    have hcn := cnt_le x (fun y => p.holds a (upd e 2 y))
    by_cases hlt : x < a.n
    · obtain ⟨gv, capv, y0, y10⟩ := var_one hH HTw.out (f := .qu q 2 p) rfl
      have y1 : wr.cell? ⟨gv, 0, none⟩ = some (.int .u8 99) := y10
      clear y10
      have H2 := Lib.hid (hH.set hVl (by omega) 2 (.int .i64 (x : Nat)))
      have FS := Lib.hid (hf.set (by omega) (by omega) (g := w.heap.size + 1) 2 (.int .i64 (x : Nat)))
      have XN0 := Lib.hid (show Bx (wr.setCell ⟨w.heap.size + 1, 2, none⟩ (.int .i64 (x : Nat))).drew w.heap.size 60 #[kidV nb] from (hN.far (by simp) _).drew)
      have XV0 := Lib.hid (show Bx (wr.setCell ⟨w.heap.size + 1, 2, none⟩ (.int .i64 (x : Nat))).drew (w.heap.size + 1) 99 #[.int .i64 (E' 0 : Nat), .int .i64 (E' 1 : Nat), .int .i64 (x : Nat), .int .i64 (E' 3 : Nat)] from (by have := (hVl.set 2 (.int .i64 (x : Nat))).drew; simpa using this))
      have n0w := hN.cell 0
      have fv := hVl.free 2
      have cv := hVl.cell 2
      simp only [List.getElem?_toArray, List.getElem?_cons_zero, List.getElem?_cons_succ] at n0w cv
      clear hH hN hVl hf hE'
      go_upto_region 24 with (fail)
      have n0 := XN0.out.cell 0
      have v0 := XV0.out.cell 0
      have v1 := XV0.out.cell 1
      have v2 := XV0.out.cell 2
      have v3 := XV0.out.cell 3
      simp only [List.getElem?_toArray, List.getElem?_cons_zero, List.getElem?_cons_succ] at n0 v0 v1 v2 v3
      obtain ⟨k, g, cap, p0, k0, htk⟩ := kid_one H2.out.drew HTw.out (f := .qu q 2 p) rfl
      have hAx : envA (upd e 2 x) = #[.int .i64 (E' 0 : Nat), .int .i64 (E' 1 : Nat), .int .i64 (x : Nat), .int .i64 (E' 3 : Nat)] := by
        have gg : ∀ i : Fin 4, i.val ≠ 2 → e i = E' i.val := fun i hi => by rw [HE'.out _ hi, HE.out, eN_fin]
        unfold envA upd
        rw [gg 0 (by decide), gg 1 (by decide), gg 3 (by decide)]
        first | (simp; done) | (simp; rfl)
      have ck := fun (W : World) (hW : HoldW lo w0 a hb W) => Ih.out k (upd e 2 x) W htk (fun u => by unfold upd; split; exact hlt; exact He.out u) hW
      simp only [hAx] at ck
      clear hAx htk
      have hcs := cnt_succ x (fun y => p.holds a (upd e 2 y))
      cases hp : p.holds a (upd e 2 x) with
      | false =>
        simp only [hp] at ck hcs
        have CK := Lib.hid ck
        have Hcs := Lib.hid hcs
        clear ck hcs hp
        refine region_sched [(0, true), (1, true), (2, true), (3, true), (4, true), (5, true), (6, true), (7, true), (8, false)] (fun w' : World => w'.cell? ⟨w.heap.size, 0, none⟩ = some (kidV nb) ∧ w'.cell? ⟨nb, 2, none⟩ = some (.slice (some ⟨g, 0, none⟩) 1 cap) ∧ w'.cell? ⟨g, 0, none⟩ = some (kidV k) ∧ w'.cell? ⟨w.heap.size + 1, 0, none⟩ = some (.int .i64 (E' 0 : Nat)) ∧ w'.cell? ⟨w.heap.size + 1, 1, none⟩ = some (.int .i64 (E' 1 : Nat)) ∧ w'.cell? ⟨w.heap.size + 1, 2, none⟩ = some (.int .i64 (x : Nat)) ∧ w'.cell? ⟨w.heap.size + 1, 3, none⟩ = some (.int .i64 (E' 3 : Nat))) (by kernel_rfl) (by kernel_rfl) (by kernel_rfl) (by kernel_rfl) (fun _ _ _ _ h => h) ?_ (fun Q1 hQ1 => ?_)
        · exact ⟨n0, p0, k0, v0, v1, v2, v3⟩
        try simp only [List.append]
        refine sched_take' (v := ?_) (a' := ?_) rfl (by kernel_rfl) ?_ rfl ?_ ?_
        rotate_left 2
        · intro w hSw
          (try dsimp only at hSw)
          go_simp
          try with_reducible rfl
        · (try simp only [Act.put, List.setIfInBounds_toArray, List.set_cons_zero, List.set_cons_succ])
          try rfl
        refine sched_take' (v := kidV nb) (a' := ?_) rfl (by kernel_rfl) ?_ rfl ?_ ?_
        rotate_left 1
        · intro w hSw
          (try dsimp only at hSw)
          go_simp
          first | done | (obtain ⟨un, up, uk, uv0, uv1, uv2, uv3⟩ := hSw; simp [*])
        · (try simp only [Act.put, List.setIfInBounds_toArray, List.set_cons_zero, List.set_cons_succ])
          try rfl
        refine sched_take' (v := ?_) (a' := ?_) rfl (by kernel_rfl) ?_ rfl ?_ ?_
        rotate_left 2
        · intro w hSw
          (try dsimp only at hSw)
          go_simp
          try with_reducible rfl
        · (try simp only [Act.put, List.setIfInBounds_toArray, List.set_cons_zero, List.set_cons_succ])
          try rfl
        refine sched_take' (v := ?_) (a' := ?_) rfl (by kernel_rfl) ?_ rfl ?_ ?_
        rotate_left 2
        · intro w hSw
          (try dsimp only at hSw)
          go_simp
          try with_reducible rfl
        · (try simp only [Act.put, List.setIfInBounds_toArray, List.set_cons_zero, List.set_cons_succ])
          try rfl
        refine sched_take' (v := .slice (some ⟨g, 0, none⟩) 1 cap) (a' := ?_) rfl (by kernel_rfl) ?_ rfl ?_ ?_
        rotate_left 1
        · intro w hSw
          (try dsimp only at hSw)
          go_simp
          first | done | (obtain ⟨un, up, uk, uv0, uv1, uv2, uv3⟩ := hSw; simp [*])
        · (try simp only [Act.put, List.setIfInBounds_toArray, List.set_cons_zero, List.set_cons_succ])
          try rfl
        refine sched_take' (v := ?_) (a' := ?_) rfl (by kernel_rfl) ?_ rfl ?_ ?_
        rotate_left 2
        · intro w hSw
          (try dsimp only at hSw)
          go_simp
          try with_reducible rfl
        · (try simp only [Act.put, List.setIfInBounds_toArray, List.set_cons_zero, List.set_cons_succ])
          try rfl
        refine sched_take' (v := kidV k) (a' := ?_) rfl (by kernel_rfl) ?_ rfl ?_ ?_
        rotate_left 1
        · intro w hSw
          (try dsimp only at hSw)
          go_simp
          first | done | (obtain ⟨un, up, uk, uv0, uv1, uv2, uv3⟩ := hSw; simp [*])
        · (try simp only [Act.put, List.setIfInBounds_toArray, List.set_cons_zero, List.set_cons_succ])
          try rfl
        refine sched_take' (v := .agg #[.int .i64 (E' 0 : Nat), .int .i64 (E' 1 : Nat), .int .i64 (x : Nat), .int .i64 (E' 3 : Nat)]) (a' := ?_) rfl (by kernel_rfl) ?_ rfl ?_ ?_
        rotate_left 1
        · intro w hSw
          (try dsimp only at hSw)
          go_simp
          first | done | (obtain ⟨un, up, uk, uv0, uv1, uv2, uv3⟩ := hSw; simp [*])
        · (try simp only [Act.put, List.setIfInBounds_toArray, List.set_cons_zero, List.set_cons_succ])
          try rfl
        refine sched_call rfl (by kernel_rfl) (fun K1 hK1 => ?_)
        go_simp
        refine (CK.out _ H2.out.drew).mono ?_
        rintro ed w1 ⟨rfl, hW, hF⟩
        have HW := Lib.hid hW
        have F2 := Lib.hid (FS.out.drew.trans hF)
        have n1 := hF.cell n0
        have p1 := hF.cell p0
        have k1 := hF.cell k0
        have x0 := hF.cell v0
        have x1 := hF.cell v1
        have x2 := hF.cell v2
        have x3 := hF.cell v3
        have XN := Lib.hid (hF.bx XN0.out)
        have XV := Lib.hid (hF.bx XV0.out)
        clear hW hF
        go_wp2_with fail
        refine hK1.out _ _ ?_ (sched_lay (a' := ?_) ?_ ?_)
        · exact ⟨n1, p1, k1, x0, x1, x2, x3⟩
        rotate_left 1
        · (try simp only [Act.put, List.getElem_toArray, List.getElem_cons_succ, List.getElem_cons_zero, List.setIfInBounds_toArray, List.set_cons_zero, List.set_cons_succ])
          try rfl
        clear hK1 K1
        refine sched_done (hQ1.out _ _ ?_)
        go_wp2_with fail
        go_roundg (a.n - x - 1)
        case rel => exact ⟨x + 1, by omega, by go_num, by rw [Hcs.out]; rfl, HW.out, XN.out, ⟨fun i => if i = 2 then x else E' i, fun i hi => (if_neg hi).trans (HE'.out i hi), XV.out⟩, F2.out⟩
        case measure => omega
      | true =>
        simp only [hp] at ck hcs
        have CK := Lib.hid ck
        have Hcs := Lib.hid hcs
        clear ck hcs hp
        refine region_sched [(0, true), (1, true), (2, true), (3, true), (4, true), (5, true), (6, true), (7, true), (8, false)] (fun w' : World => w'.cell? ⟨w.heap.size, 0, none⟩ = some (kidV nb) ∧ w'.cell? ⟨nb, 2, none⟩ = some (.slice (some ⟨g, 0, none⟩) 1 cap) ∧ w'.cell? ⟨g, 0, none⟩ = some (kidV k) ∧ w'.cell? ⟨w.heap.size + 1, 0, none⟩ = some (.int .i64 (E' 0 : Nat)) ∧ w'.cell? ⟨w.heap.size + 1, 1, none⟩ = some (.int .i64 (E' 1 : Nat)) ∧ w'.cell? ⟨w.heap.size + 1, 2, none⟩ = some (.int .i64 (x : Nat)) ∧ w'.cell? ⟨w.heap.size + 1, 3, none⟩ = some (.int .i64 (E' 3 : Nat))) (by kernel_rfl) (by kernel_rfl) (by kernel_rfl) (by kernel_rfl) (fun _ _ _ _ h => h) ?_ (fun Q1 hQ1 => ?_)
        · exact ⟨n0, p0, k0, v0, v1, v2, v3⟩
        try simp only [List.append]
        refine sched_take' (v := ?_) (a' := ?_) rfl (by kernel_rfl) ?_ rfl ?_ ?_
        rotate_left 2
        · intro w hSw
          (try dsimp only at hSw)
          go_simp
          try with_reducible rfl
        · (try simp only [Act.put, List.setIfInBounds_toArray, List.set_cons_zero, List.set_cons_succ])
          try rfl
        refine sched_take' (v := kidV nb) (a' := ?_) rfl (by kernel_rfl) ?_ rfl ?_ ?_
        rotate_left 1
        · intro w hSw
          (try dsimp only at hSw)
          go_simp
          first | done | (obtain ⟨un, up, uk, uv0, uv1, uv2, uv3⟩ := hSw; simp [*])
        · (try simp only [Act.put, List.setIfInBounds_toArray, List.set_cons_zero, List.set_cons_succ])
          try rfl
        refine sched_take' (v := ?_) (a' := ?_) rfl (by kernel_rfl) ?_ rfl ?_ ?_
        rotate_left 2
        · intro w hSw
          (try dsimp only at hSw)
          go_simp
          try with_reducible rfl
        · (try simp only [Act.put, List.setIfInBounds_toArray, List.set_cons_zero, List.set_cons_succ])
          try rfl
        refine sched_take' (v := ?_) (a' := ?_) rfl (by kernel_rfl) ?_ rfl ?_ ?_
        rotate_left 2
        · intro w hSw
          (try dsimp only at hSw)
          go_simp
          try with_reducible rfl
        · (try simp only [Act.put, List.setIfInBounds_toArray, List.set_cons_zero, List.set_cons_succ])
          try rfl
        refine sched_take' (v := .slice (some ⟨g, 0, none⟩) 1 cap) (a' := ?_) rfl (by kernel_rfl) ?_ rfl ?_ ?_
        rotate_left 1
        · intro w hSw
          (try dsimp only at hSw)
          go_simp
          first | done | (obtain ⟨un, up, uk, uv0, uv1, uv2, uv3⟩ := hSw; simp [*])
        · (try simp only [Act.put, List.setIfInBounds_toArray, List.set_cons_zero, List.set_cons_succ])
          try rfl
        refine sched_take' (v := ?_) (a' := ?_) rfl (by kernel_rfl) ?_ rfl ?_ ?_
        rotate_left 2
        · intro w hSw
          (try dsimp only at hSw)
          go_simp
          try with_reducible rfl
        · (try simp only [Act.put, List.setIfInBounds_toArray, List.set_cons_zero, List.set_cons_succ])
          try rfl
        refine sched_take' (v := kidV k) (a' := ?_) rfl (by kernel_rfl) ?_ rfl ?_ ?_
        rotate_left 1
        · intro w hSw
          (try dsimp only at hSw)
          go_simp
          first | done | (obtain ⟨un, up, uk, uv0, uv1, uv2, uv3⟩ := hSw; simp [*])
        · (try simp only [Act.put, List.setIfInBounds_toArray, List.set_cons_zero, List.set_cons_succ])
          try rfl
        refine sched_take' (v := .agg #[.int .i64 (E' 0 : Nat), .int .i64 (E' 1 : Nat), .int .i64 (x : Nat), .int .i64 (E' 3 : Nat)]) (a' := ?_) rfl (by kernel_rfl) ?_ rfl ?_ ?_
        rotate_left 1
        · intro w hSw
          (try dsimp only at hSw)
          go_simp
          first | done | (obtain ⟨un, up, uk, uv0, uv1, uv2, uv3⟩ := hSw; simp [*])
        · (try simp only [Act.put, List.setIfInBounds_toArray, List.set_cons_zero, List.set_cons_succ])
          try rfl
        refine sched_call rfl (by kernel_rfl) (fun K1 hK1 => ?_)
        go_simp
        refine (CK.out _ H2.out.drew).mono ?_
        rintro ed w1 ⟨rfl, hW, hF⟩
        have HW := Lib.hid hW
        have F2 := Lib.hid (FS.out.drew.trans hF)
        have n1 := hF.cell n0
        have p1 := hF.cell p0
        have k1 := hF.cell k0
        have x0 := hF.cell v0
        have x1 := hF.cell v1
        have x2 := hF.cell v2
        have x3 := hF.cell v3
        have XN := Lib.hid (hF.bx XN0.out)
        have XV := Lib.hid (hF.bx XV0.out)
        clear hW hF
        go_wp2_with fail
        refine hK1.out _ _ ?_ (sched_lay (a' := ?_) ?_ ?_)
        · exact ⟨n1, p1, k1, x0, x1, x2, x3⟩
        rotate_left 1
        · (try simp only [Act.put, List.getElem_toArray, List.getElem_cons_succ, List.getElem_cons_zero, List.setIfInBounds_toArray, List.set_cons_zero, List.set_cons_succ])
          try rfl
        clear hK1 K1
        refine sched_done (hQ1.out _ _ ?_)
        go_wp2_with fail
        go_roundg (a.n - x - 1)
        case rel => exact ⟨x + 1, by omega, by go_num, by rw [Hcs.out]; rfl, HW.out, XN.out, ⟨fun i => if i = 2 then x else E' i, fun i hi => (if_neg hi).trans (HE'.out i hi), XV.out⟩, F2.out⟩
        case measure => omega
    · have hxe : x = a.n := by omega
      have hxi : ¬ (x : Int) < (a.n : Int) := by omega
      have HH := Lib.hid hH
      have HF := Lib.hid hf
      have m0 := hN.cell 0
      have b0 := hH.box.cell 0
      simp only [List.getElem?_toArray, List.getElem?_cons_zero, List.getElem?_cons_succ] at m0 b0
      obtain ⟨ks', vsv', psv', hd0, _⟩ := node_cells (hH.tree HTw.out)
      have hd1 : wr.cell? ⟨nb, 0, none⟩ = some (.int .u8 (q.b.toNat : Int)) := hd0
      have HX := Lib.hid hxe
      obtain ⟨C, hC⟩ : ∃ C, C = Pl.cnt x (fun y => p.holds a (upd e 2 y)) := ⟨_, rfl⟩
      rw [← hC] at hcn ⊢
      have HC := Lib.hid hC
      clear hd0 hH hf hN hVl hE' hxe hC
      cases q
      case A => 
        have hd2 : wr.cell? ⟨nb, 0, none⟩ = some (.int .u8 65) := hd1
        clear hd1
        go_wp2_with fail
        go_ret
        refine ⟨?_, HH.out, HF.out⟩
        show _ = Ending.returned (.bool (Qn.says _ a.n (Pl.cnt a.n fun y => p.holds a (upd e 2 y))))
        rw [← HX.out, ← HC.out]
        exact congrArg (fun b => Ending.returned (Value.bool b)) (show ((C : Int) == (x : Int)) = (C == x) by rw [Bool.eq_iff_iff, beq_iff_eq, beq_iff_eq]; omega)
      case S => 
        have hd2 : wr.cell? ⟨nb, 0, none⟩ = some (.int .u8 83) := hd1
        clear hd1
        go_wp2_with fail
        go_ret
        refine ⟨?_, HH.out, HF.out⟩
        show _ = Ending.returned (.bool (Qn.says _ a.n (Pl.cnt a.n fun y => p.holds a (upd e 2 y))))
        rw [← HX.out, ← HC.out]
        exact congrArg (fun b => Ending.returned (Value.bool b)) (show decide (0 < C) = Qn.says .S x C from rfl)
      case c2 => 
        have hd2 : wr.cell? ⟨nb, 0, none⟩ = some (.int .u8 50) := hd1
        clear hd1
        go_wp2_with fail
        go_ret
        refine ⟨?_, HH.out, HF.out⟩
        show _ = Ending.returned (.bool (Qn.says _ a.n (Pl.cnt a.n fun y => p.holds a (upd e 2 y))))
        rw [← HX.out, ← HC.out]
        exact congrArg (fun b => Ending.returned (Value.bool b)) (show decide ((2 : Int) ≤ (C : Int)) = decide (2 ≤ C) from decide_eq_decide.2 (by omega))
      case c3 => 
        have hd2 : wr.cell? ⟨nb, 0, none⟩ = some (.int .u8 51) := hd1
        clear hd1
        go_wp2_with fail
        go_ret
        refine ⟨?_, HH.out, HF.out⟩
        show _ = Ending.returned (.bool (Qn.says _ a.n (Pl.cnt a.n fun y => p.holds a (upd e 2 y))))
        rw [← HX.out, ← HC.out]
        exact congrArg (fun b => Ending.returned (Value.bool b)) (show decide ((3 : Int) ≤ (C : Int)) = decide (3 ≤ C) from decide_eq_decide.2 (by omega))
      case c4 => 
        have hd2 : wr.cell? ⟨nb, 0, none⟩ = some (.int .u8 52) := hd1
        clear hd1
        go_wp2_with fail
        go_ret
        refine ⟨?_, HH.out, HF.out⟩
        show _ = Ending.returned (.bool (Qn.says _ a.n (Pl.cnt a.n fun y => p.holds a (upd e 2 y))))
        rw [← HX.out, ← HC.out]
        exact congrArg (fun b => Ending.returned (Value.bool b)) (show decide ((4 : Int) ≤ (C : Int)) = decide (4 ≤ C) from decide_eq_decide.2 (by omega))

set_option maxRecDepth 100000 in
set_option maxHeartbeats 8000000 in
theorem decide_qu3 (ha : a.ok) (q : Qn) (p : Fm) (ih : HoldsBy 74 lo w0 a hb p) : HoldsBy 88 lo w0 a hb (.qu q 3 p) := by
  intro nb e w ht he hw
  obtain ⟨E, hE⟩ : ∃ E, E = eN e := ⟨_, rfl⟩
  have hA : envA e = #[.int .i64 (E 0 : Nat), .int .i64 (E 1 : Nat), .int .i64 (E 2 : Nat), .int .i64 (E 3 : Nat)] := by rw [hE]; rfl
  rw [hA]
  have hV := (hw.alloc (.cells #[kidV nb] 60)).alloc (.cells #[.int .i64 (E 0 : Nat), .int .i64 (E 1 : Nat), .int .i64 (E 2 : Nat), .int .i64 (E 3 : Nat)] 99)
  have hD : DecB ((w.alloc (.cells #[kidV nb] 60)).alloc (.cells #[.int .i64 (E 0 : Nat), .int .i64 (E 1 : Nat), .int .i64 (E 2 : Nat), .int .i64 (E 3 : Nat)] 99)) w.heap.size nb E := ⟨(Bx.new w 60 #[kidV nb]).alloc _, bx_two w _ _⟩
  have HV := Lib.hid hV
  have HD := Lib.hid hD
  have HT := Lib.hid (hV.tree ht)
  have F1 := Lib.hid ((Fz.alloc (Nat.le_of_lt hw.cache.lt) (.cells #[kidV nb] 60)).trans (Fz.alloc (by have := hw.cache.lt; simp; omega) (.cells #[.int .i64 (E 0 : Nat), .int .i64 (E 1 : Nat), .int .i64 (E 2 : Nat), .int .i64 (E 3 : Nat)] 99)))
  obtain ⟨ks, vsv, psv, hc00, _⟩ := node_cells HT.out
  have hc0 : ((w.alloc (.cells #[kidV nb] 60)).alloc (.cells #[.int .i64 (E 0 : Nat), .int .i64 (E 1 : Nat), .int .i64 (E 2 : Nat), .int .i64 (E 3 : Nat)] 99)).cell? ⟨nb, 0, none⟩ = some (.int .u8 q.b.toNat) := hc00
  clear hc00
  have n0 := hD.node.cell 0
  simp only [List.getElem?_toArray, List.getElem?_cons_zero, List.getElem?_cons_succ] at n0
  have HE := Lib.hid hE
  have He := Lib.hid he
  have HTw := Lib.hid ht
  have hbl := hw.box.lt
  have hbl2 := hw.cache.lt
  clear hE hA hV hD ht he hw
  obtain ⟨o, ho⟩ : ∃ o : Int, o = (q.b.toNat : Int) := ⟨_, rfl⟩
  have hq : (o == 116) = false ∧ (o == 102) = false ∧ (o == 80) = false ∧ (o == 61) = false ∧ (o == 69) = false ∧ (o == 33) = false ∧ (o == 38) = false ∧ (o == 124) = false := by
    rw [ho]; cases q <;> decide
  obtain ⟨q1, q2, q3, q4, q5, q6, q7, q8⟩ := hq
  rw [← ho] at hc0
  have Ho := Lib.hid ho
  have h8 := ha.hi
  have h0 := HV.out.box.cell 0
  simp only [List.getElem?_toArray, List.getElem?_cons_zero, List.getElem?_cons_succ] at h0
  have Ih := Lib.hid ih
  clear ih ho
  go_enter Tryz.func88, Tryz.ntmps88
  go_wp2_with fail
  go_loopg [8, 107] a.n (fun c cn xi wr => ∃ x : Nat, x + c = a.n ∧ xi = .int .i64 (x : Nat) ∧ cn = .int .i64 (Pl.cnt x (fun y => p.holds a (upd e 3 y)) : Nat) ∧ HoldW lo w0 a hb wr ∧ Bx wr w.heap.size 60 #[kidV nb] ∧ (∃ E' : Nat → Nat, (∀ i, i ≠ 3 → E' i = E i) ∧ Bx wr (w.heap.size + 1) 99 #[.int .i64 (E' 0 : Nat), .int .i64 (E' 1 : Nat), .int .i64 (E' 2 : Nat), .int .i64 (E' 3 : Nat)]) ∧ Fz hb w wr)
  case atStart => exact ⟨0, by omega, rfl, rfl, HV.out, HD.out.node, ⟨E, fun _ _ => rfl, HD.out.vals⟩, F1.out⟩
  case round =>
    obtain ⟨x, hx, rfl, rfl, hH, hN, ⟨E', hE', hVl⟩, hf⟩ := hrel
    have HVl := Lib.hid hVl
    have HN := Lib.hid hN
    have HE' := Lib.hid hE'
    have hcn := cnt_le x (fun y => p.holds a (upd e 3 y))
    by_cases hlt : x < a.n
    · obtain ⟨gv, capv, y0, y10⟩ := var_one hH HTw.out (f := .qu q 3 p) rfl
      have y1 : wr.cell? ⟨gv, 0, none⟩ = some (.int .u8 100) := y10
      clear y10
      have H2 := Lib.hid (hH.set hVl (by omega) 3 (.int .i64 (x : Nat)))
      have FS := Lib.hid (hf.set (by omega) (by omega) (g := w.heap.size + 1) 3 (.int .i64 (x : Nat)))
      have XN0 := Lib.hid (show Bx (wr.setCell ⟨w.heap.size + 1, 3, none⟩ (.int .i64 (x : Nat))).drew w.heap.size 60 #[kidV nb] from (hN.far (by simp) _).drew)
      have XV0 := Lib.hid (show Bx (wr.setCell ⟨w.heap.size + 1, 3, none⟩ (.int .i64 (x : Nat))).drew (w.heap.size + 1) 99 #[.int .i64 (E' 0 : Nat), .int .i64 (E' 1 : Nat), .int .i64 (E' 2 : Nat), .int .i64 (x : Nat)] from (by have := (hVl.set 3 (.int .i64 (x : Nat))).drew; simpa using this))
      have n0w := hN.cell 0
      have fv := hVl.free 3
      have cv := hVl.cell 3
      simp only [List.getElem?_toArray, List.getElem?_cons_zero, List.getElem?_cons_succ] at n0w cv
      clear hH hN hVl hf hE'
      go_upto_region 24 with (fail)
      have n0 := XN0.out.cell 0
      have v0 := XV0.out.cell 0
      have v1 := XV0.out.cell 1
      have v2 := XV0.out.cell 2
      have v3 := XV0.out.cell 3
      simp only [List.getElem?_toArray, List.getElem?_cons_zero, List.getElem?_cons_succ] at n0 v0 v1 v2 v3
      obtain ⟨k, g, cap, p0, k0, htk⟩ := kid_one H2.out.drew HTw.out (f := .qu q 3 p) rfl
      have hAx : envA (upd e 3 x) = #[.int .i64 (E' 0 : Nat), .int .i64 (E' 1 : Nat), .int .i64 (E' 2 : Nat), .int .i64 (x : Nat)] := by
        have gg : ∀ i : Fin 4, i.val ≠ 3 → e i = E' i.val := fun i hi => by rw [HE'.out _ hi, HE.out, eN_fin]
        unfold envA upd
        rw [gg 0 (by decide), gg 1 (by decide), gg 2 (by decide)]
        first | (simp; done) | (simp; rfl)
      have ck := fun (W : World) (hW : HoldW lo w0 a hb W) => Ih.out k (upd e 3 x) W htk (fun u => by unfold upd; split; exact hlt; exact He.out u) hW
      simp only [hAx] at ck
      clear hAx htk
      have hcs := cnt_succ x (fun y => p.holds a (upd e 3 y))
      cases hp : p.holds a (upd e 3 x) with
      | false =>
        simp only [hp] at ck hcs
        have CK := Lib.hid ck
        have Hcs := Lib.hid hcs
        clear ck hcs hp
        refine region_sched [(0, true), (1, true), (2, true), (3, true), (4, true), (5, true), (6, true), (7, true), (8, false)] (fun w' : World => w'.cell? ⟨w.heap.size, 0, none⟩ = some (kidV nb) ∧ w'.cell? ⟨nb, 2, none⟩ = some (.slice (some ⟨g, 0, none⟩) 1 cap) ∧ w'.cell? ⟨g, 0, none⟩ = some (kidV k) ∧ w'.cell? ⟨w.heap.size + 1, 0, none⟩ = some (.int .i64 (E' 0 : Nat)) ∧ w'.cell? ⟨w.heap.size + 1, 1, none⟩ = some (.int .i64 (E' 1 : Nat)) ∧ w'.cell? ⟨w.heap.size + 1, 2, none⟩ = some (.int .i64 (E' 2 : Nat)) ∧ w'.cell? ⟨w.heap.size + 1, 3, none⟩ = some (.int .i64 (x : Nat))) (by kernel_rfl) (by kernel_rfl) (by kernel_rfl) (by kernel_rfl) (fun _ _ _ _ h => h) ?_ (fun Q1 hQ1 => ?_)
        · exact ⟨n0, p0, k0, v0, v1, v2, v3⟩
        try simp only [List.append]
        refine sched_take' (v := ?_) (a' := ?_) rfl (by kernel_rfl) ?_ rfl ?_ ?_
        rotate_left 2
        · intro w hSw
          (try dsimp only at hSw)
          go_simp
          try with_reducible rfl
        · (try simp only [Act.put, List.setIfInBounds_toArray, List.set_cons_zero, List.set_cons_succ])
          try rfl
        refine sched_take' (v := kidV nb) (a' := ?_) rfl (by kernel_rfl) ?_ rfl ?_ ?_
        rotate_left 1
        · intro w hSw
          (try dsimp only at hSw)
          go_simp
          first | done | (obtain ⟨un, up, uk, uv0, uv1, uv2, uv3⟩ := hSw; simp [*])
        · (try simp only [Act.put, List.setIfInBounds_toArray, List.set_cons_zero, List.set_cons_succ])
          try rfl
        refine sched_take' (v := ?_) (a' := ?_) rfl (by kernel_rfl) ?_ rfl ?_ ?_
        rotate_left 2
        · intro w hSw
          (try dsimp only at hSw)
          go_simp
          try with_reducible rfl
        · (try simp only [Act.put, List.setIfInBounds_toArray, List.set_cons_zero, List.set_cons_succ])
          try rfl
        refine sched_take' (v := ?_) (a' := ?_) rfl (by kernel_rfl) ?_ rfl ?_ ?_
        rotate_left 2
        · intro w hSw
          (try dsimp only at hSw)
          go_simp
          try with_reducible rfl
        · (try simp only [Act.put, List.setIfInBounds_toArray, List.set_cons_zero, List.set_cons_succ])
          try rfl
        refine sched_take' (v := .slice (some ⟨g, 0, none⟩) 1 cap) (a' := ?_) rfl (by kernel_rfl) ?_ rfl ?_ ?_
        rotate_left 1
        · intro w hSw
          (try dsimp only at hSw)
          go_simp
          first | done | (obtain ⟨un, up, uk, uv0, uv1, uv2, uv3⟩ := hSw; simp [*])
        · (try simp only [Act.put, List.setIfInBounds_toArray, List.set_cons_zero, List.set_cons_succ])
          try rfl
        refine sched_take' (v := ?_) (a' := ?_) rfl (by kernel_rfl) ?_ rfl ?_ ?_
        rotate_left 2
        · intro w hSw
          (try dsimp only at hSw)
          go_simp
          try with_reducible rfl
        · (try simp only [Act.put, List.setIfInBounds_toArray, List.set_cons_zero, List.set_cons_succ])
          try rfl
        refine sched_take' (v := kidV k) (a' := ?_) rfl (by kernel_rfl) ?_ rfl ?_ ?_
        rotate_left 1
        · intro w hSw
          (try dsimp only at hSw)
          go_simp
          first | done | (obtain ⟨un, up, uk, uv0, uv1, uv2, uv3⟩ := hSw; simp [*])
        · (try simp only [Act.put, List.setIfInBounds_toArray, List.set_cons_zero, List.set_cons_succ])
          try rfl
        refine sched_take' (v := .agg #[.int .i64 (E' 0 : Nat), .int .i64 (E' 1 : Nat), .int .i64 (E' 2 : Nat), .int .i64 (x : Nat)]) (a' := ?_) rfl (by kernel_rfl) ?_ rfl ?_ ?_
        rotate_left 1
        · intro w hSw
          (try dsimp only at hSw)
          go_simp
          first | done | (obtain ⟨un, up, uk, uv0, uv1, uv2, uv3⟩ := hSw; simp [*])
        · (try simp only [Act.put, List.setIfInBounds_toArray, List.set_cons_zero, List.set_cons_succ])
          try rfl
        refine sched_call rfl (by kernel_rfl) (fun K1 hK1 => ?_)
        go_simp
        refine (CK.out _ H2.out.drew).mono ?_
        rintro ed w1 ⟨rfl, hW, hF⟩
        have HW := Lib.hid hW
        have F2 := Lib.hid (FS.out.drew.trans hF)
        have n1 := hF.cell n0
        have p1 := hF.cell p0
        have k1 := hF.cell k0
        have x0 := hF.cell v0
        have x1 := hF.cell v1
        have x2 := hF.cell v2
        have x3 := hF.cell v3
        have XN := Lib.hid (hF.bx XN0.out)
        have XV := Lib.hid (hF.bx XV0.out)
        clear hW hF
        go_wp2_with fail
        refine hK1.out _ _ ?_ (sched_lay (a' := ?_) ?_ ?_)
        · exact ⟨n1, p1, k1, x0, x1, x2, x3⟩
        rotate_left 1
        · (try simp only [Act.put, List.getElem_toArray, List.getElem_cons_succ, List.getElem_cons_zero, List.setIfInBounds_toArray, List.set_cons_zero, List.set_cons_succ])
          try rfl
        clear hK1 K1
        refine sched_done (hQ1.out _ _ ?_)
        go_wp2_with fail
        go_roundg (a.n - x - 1)
        case rel => exact ⟨x + 1, by omega, by go_num, by rw [Hcs.out]; rfl, HW.out, XN.out, ⟨fun i => if i = 3 then x else E' i, fun i hi => (if_neg hi).trans (HE'.out i hi), XV.out⟩, F2.out⟩
        case measure => omega
      | true =>
        simp only [hp] at ck hcs
        have CK := Lib.hid ck
        have Hcs := Lib.hid hcs
        clear ck hcs hp
        refine region_sched [(0, true), (1, true), (2, true), (3, true), (4, true), (5, true), (6, true), (7, true), (8, false)] (fun w' : World => w'.cell? ⟨w.heap.size, 0, none⟩ = some (kidV nb) ∧ w'.cell? ⟨nb, 2, none⟩ = some (.slice (some ⟨g, 0, none⟩) 1 cap) ∧ w'.cell? ⟨g, 0, none⟩ = some (kidV k) ∧ w'.cell? ⟨w.heap.size + 1, 0, none⟩ = some (.int .i64 (E' 0 : Nat)) ∧ w'.cell? ⟨w.heap.size + 1, 1, none⟩ = some (.int .i64 (E' 1 : Nat)) ∧ w'.cell? ⟨w.heap.size + 1, 2, none⟩ = some (.int .i64 (E' 2 : Nat)) ∧ w'.cell? ⟨w.heap.size + 1, 3, none⟩ = some (.int .i64 (x : Nat))) (by kernel_rfl) (by kernel_rfl) (by kernel_rfl) (by kernel_rfl) (fun _ _ _ _ h => h) ?_ (fun Q1 hQ1 => ?_)
        · exact ⟨n0, p0, k0, v0, v1, v2, v3⟩
        try simp only [List.append]
        refine sched_take' (v := ?_) (a' := ?_) rfl (by kernel_rfl) ?_ rfl ?_ ?_
        rotate_left 2
        · intro w hSw
          (try dsimp only at hSw)
          go_simp
          try with_reducible rfl
        · (try simp only [Act.put, List.setIfInBounds_toArray, List.set_cons_zero, List.set_cons_succ])
          try rfl
        refine sched_take' (v := kidV nb) (a' := ?_) rfl (by kernel_rfl) ?_ rfl ?_ ?_
        rotate_left 1
        · intro w hSw
          (try dsimp only at hSw)
          go_simp
          first | done | (obtain ⟨un, up, uk, uv0, uv1, uv2, uv3⟩ := hSw; simp [*])
        · (try simp only [Act.put, List.setIfInBounds_toArray, List.set_cons_zero, List.set_cons_succ])
          try rfl
        refine sched_take' (v := ?_) (a' := ?_) rfl (by kernel_rfl) ?_ rfl ?_ ?_
        rotate_left 2
        · intro w hSw
          (try dsimp only at hSw)
          go_simp
          try with_reducible rfl
        · (try simp only [Act.put, List.setIfInBounds_toArray, List.set_cons_zero, List.set_cons_succ])
          try rfl
        refine sched_take' (v := ?_) (a' := ?_) rfl (by kernel_rfl) ?_ rfl ?_ ?_
        rotate_left 2
        · intro w hSw
          (try dsimp only at hSw)
          go_simp
          try with_reducible rfl
        · (try simp only [Act.put, List.setIfInBounds_toArray, List.set_cons_zero, List.set_cons_succ])
          try rfl
        refine sched_take' (v := .slice (some ⟨g, 0, none⟩) 1 cap) (a' := ?_) rfl (by kernel_rfl) ?_ rfl ?_ ?_
        rotate_left 1
        · intro w hSw
          (try dsimp only at hSw)
          go_simp
          first | done | (obtain ⟨un, up, uk, uv0, uv1, uv2, uv3⟩ := hSw; simp [*])
        · (try simp only [Act.put, List.setIfInBounds_toArray, List.set_cons_zero, List.set_cons_succ])
          try rfl
        refine sched_take' (v := ?_) (a' := ?_) rfl (by kernel_rfl) ?_ rfl ?_ ?_
        rotate_left 2
        · intro w hSw
          (try dsimp only at hSw)
          go_simp
          try with_reducible rfl
        · (try simp only [Act.put, List.setIfInBounds_toArray, List.set_cons_zero, List.set_cons_succ])
          try rfl
        refine sched_take' (v := kidV k) (a' := ?_) rfl (by kernel_rfl) ?_ rfl ?_ ?_
        rotate_left 1
        · intro w hSw
          (try dsimp only at hSw)
          go_simp
          first | done | (obtain ⟨un, up, uk, uv0, uv1, uv2, uv3⟩ := hSw; simp [*])
        · (try simp only [Act.put, List.setIfInBounds_toArray, List.set_cons_zero, List.set_cons_succ])
          try rfl
        refine sched_take' (v := .agg #[.int .i64 (E' 0 : Nat), .int .i64 (E' 1 : Nat), .int .i64 (E' 2 : Nat), .int .i64 (x : Nat)]) (a' := ?_) rfl (by kernel_rfl) ?_ rfl ?_ ?_
        rotate_left 1
        · intro w hSw
          (try dsimp only at hSw)
          go_simp
          first | done | (obtain ⟨un, up, uk, uv0, uv1, uv2, uv3⟩ := hSw; simp [*])
        · (try simp only [Act.put, List.setIfInBounds_toArray, List.set_cons_zero, List.set_cons_succ])
          try rfl
        refine sched_call rfl (by kernel_rfl) (fun K1 hK1 => ?_)
        go_simp
        refine (CK.out _ H2.out.drew).mono ?_
        rintro ed w1 ⟨rfl, hW, hF⟩
        have HW := Lib.hid hW
        have F2 := Lib.hid (FS.out.drew.trans hF)
        have n1 := hF.cell n0
        have p1 := hF.cell p0
        have k1 := hF.cell k0
        have x0 := hF.cell v0
        have x1 := hF.cell v1
        have x2 := hF.cell v2
        have x3 := hF.cell v3
        have XN := Lib.hid (hF.bx XN0.out)
        have XV := Lib.hid (hF.bx XV0.out)
        clear hW hF
        go_wp2_with fail
        refine hK1.out _ _ ?_ (sched_lay (a' := ?_) ?_ ?_)
        · exact ⟨n1, p1, k1, x0, x1, x2, x3⟩
        rotate_left 1
        · (try simp only [Act.put, List.getElem_toArray, List.getElem_cons_succ, List.getElem_cons_zero, List.setIfInBounds_toArray, List.set_cons_zero, List.set_cons_succ])
          try rfl
        clear hK1 K1
        refine sched_done (hQ1.out _ _ ?_)
        go_wp2_with fail
        go_roundg (a.n - x - 1)
        case rel => exact ⟨x + 1, by omega, by go_num, by rw [Hcs.out]; rfl, HW.out, XN.out, ⟨fun i => if i = 3 then x else E' i, fun i hi => (if_neg hi).trans (HE'.out i hi), XV.out⟩, F2.out⟩
        case measure => omega
    · have hxe : x = a.n := by omega
      have hxi : ¬ (x : Int) < (a.n : Int) := by omega
      have HH := Lib.hid hH
      have HF := Lib.hid hf
      have m0 := hN.cell 0
      have b0 := hH.box.cell 0
      simp only [List.getElem?_toArray, List.getElem?_cons_zero, List.getElem?_cons_succ] at m0 b0
      obtain ⟨ks', vsv', psv', hd0, _⟩ := node_cells (hH.tree HTw.out)
      have hd1 : wr.cell? ⟨nb, 0, none⟩ = some (.int .u8 (q.b.toNat : Int)) := hd0
      have HX := Lib.hid hxe
      obtain ⟨C, hC⟩ : ∃ C, C = Pl.cnt x (fun y => p.holds a (upd e 3 y)) := ⟨_, rfl⟩
      rw [← hC] at hcn ⊢
      have HC := Lib.hid hC
      clear hd0 hH hf hN hVl hE' hxe hC
      cases q
      case A => 
        have hd2 : wr.cell? ⟨nb, 0, none⟩ = some (.int .u8 65) := hd1
        clear hd1
        go_wp2_with fail
        go_ret
        refine ⟨?_, HH.out, HF.out⟩
        show _ = Ending.returned (.bool (Qn.says _ a.n (Pl.cnt a.n fun y => p.holds a (upd e 3 y))))
        rw [← HX.out, ← HC.out]
        exact congrArg (fun b => Ending.returned (Value.bool b)) (show ((C : Int) == (x : Int)) = (C == x) by rw [Bool.eq_iff_iff, beq_iff_eq, beq_iff_eq]; omega)
      case S => 
        have hd2 : wr.cell? ⟨nb, 0, none⟩ = some (.int .u8 83) := hd1
        clear hd1
        go_wp2_with fail
        go_ret
        refine ⟨?_, HH.out, HF.out⟩
        show _ = Ending.returned (.bool (Qn.says _ a.n (Pl.cnt a.n fun y => p.holds a (upd e 3 y))))
        rw [← HX.out, ← HC.out]
        exact congrArg (fun b => Ending.returned (Value.bool b)) (show decide (0 < C) = Qn.says .S x C from rfl)
      case c2 => 
        have hd2 : wr.cell? ⟨nb, 0, none⟩ = some (.int .u8 50) := hd1
        clear hd1
        go_wp2_with fail
        go_ret
        refine ⟨?_, HH.out, HF.out⟩
        show _ = Ending.returned (.bool (Qn.says _ a.n (Pl.cnt a.n fun y => p.holds a (upd e 3 y))))
        rw [← HX.out, ← HC.out]
        exact congrArg (fun b => Ending.returned (Value.bool b)) (show decide ((2 : Int) ≤ (C : Int)) = decide (2 ≤ C) from decide_eq_decide.2 (by omega))
      case c3 => 
        have hd2 : wr.cell? ⟨nb, 0, none⟩ = some (.int .u8 51) := hd1
        clear hd1
        go_wp2_with fail
        go_ret
        refine ⟨?_, HH.out, HF.out⟩
        show _ = Ending.returned (.bool (Qn.says _ a.n (Pl.cnt a.n fun y => p.holds a (upd e 3 y))))
        rw [← HX.out, ← HC.out]
        exact congrArg (fun b => Ending.returned (Value.bool b)) (show decide ((3 : Int) ≤ (C : Int)) = decide (3 ≤ C) from decide_eq_decide.2 (by omega))
      case c4 => 
        have hd2 : wr.cell? ⟨nb, 0, none⟩ = some (.int .u8 52) := hd1
        clear hd1
        go_wp2_with fail
        go_ret
        refine ⟨?_, HH.out, HF.out⟩
        show _ = Ending.returned (.bool (Qn.says _ a.n (Pl.cnt a.n fun y => p.holds a (upd e 3 y))))
        rw [← HX.out, ← HC.out]
        exact congrArg (fun b => Ending.returned (Value.bool b)) (show decide ((4 : Int) ≤ (C : Int)) = decide (4 ≤ C) from decide_eq_decide.2 (by omega))

end

end Go.Proofs.YtpaleogkgfclnaaGreatDoor

namespace Go.Proofs.YtpaleogkgfclnaaGreatDoor
open Go.RowKit
open Go.ChangeMaps
open Pl
set_option linter.unusedSimpArgs false
set_option linter.unusedVariables false

theorem isTrue_calls (lo : Nat) (w0 : World) (a : St) (ha : a.ok) (hb : Nat) : ∀ (n : Nat) (f : Fm), f.size ≤ n → HoldsBy 74 lo w0 a hb f
  | 0, f, h => by cases f <;> simp [Fm.size] at h
  | n + 1, f, h => isTrue_of lo w0 a ha hb f (by
    have ih := isTrue_calls lo w0 a ha hb n
    cases f with
    | tru => exact decide_tru lo w0 a hb
    | fls => exact decide_fls lo w0 a hb
    | pr v => exact decide_pr lo w0 a hb ha v
    | eq v u => exact decide_eq lo w0 a hb v u
    | rel v u => exact decide_rel lo w0 a hb ha v u
    | neg p => exact decide_neg lo w0 a hb p (ih p (by simp [Fm.size] at h; omega))
    | con p q => exact decide_con lo w0 a hb p q (ih p (by simp [Fm.size] at h; omega)) (ih q (by simp [Fm.size] at h; omega))
    | dis p q => exact decide_dis lo w0 a hb p q (ih p (by simp [Fm.size] at h; omega)) (ih q (by simp [Fm.size] at h; omega))
    | qu k v p =>
      have ihp := ih p (by simp [Fm.size] at h; omega)
      rcases fin4 v with rfl | rfl | rfl | rfl
      · exact decide_qu0 lo w0 a hb ha k p ihp
      · exact decide_qu1 lo w0 a hb ha k p ihp
      · exact decide_qu2 lo w0 a hb ha k p ihp
      · exact decide_qu3 lo w0 a hb ha k p ihp)

end Go.Proofs.YtpaleogkgfclnaaGreatDoor

namespace Go.Proofs.YtpaleogkgfclnaaGreatDoor
open Go.RowKit
open Pl
set_option linter.unusedSimpArgs false
set_option linter.unusedVariables false

theorem notEl_calls (i x : Int) (s r : ByteArray) (bb : Nat) (w : World) (hb : Bx w bb 24 #[.int .i64 i, .string s, .string r]) :
    Calls Tryz.prog 76 #[.int .i64 x, .pointer (some ⟨bb, 0, none⟩)] w fun e w' => e = .returned (.bool (!elB i x)) ∧ Below w.heap.size w w' := by
  obtain ⟨k0, k1, k2⟩ := box_load hb
  clear hb
  unfold elB
  by_cases h0 : 0 ≤ x
  · have d0 : decide (x < 0) = false := decide_eq_false (by omega)
    rw [decide_eq_true h0]
    have hv : (!(true && decide (x < i))) = decide (i ≤ x) := by
      rw [Bool.true_and, ← decide_not, decide_eq_decide]; omega
    rw [hv]
    clear hv
    go_enter Tryz.func76, Tryz.ntmps76
    go_wp2_with fail
    all_goals
      go_ret
      exact ⟨rfl, Below.refl _ _⟩
  · have d0 : decide (x < 0) = true := decide_eq_true (by omega)
    rw [decide_eq_false h0]
    go_enter Tryz.func76, Tryz.ntmps76
    go_wp2_with fail
    all_goals
      go_ret
      exact ⟨rfl, Below.refl _ _⟩

set_option maxHeartbeats 400000 in
theorem IndexFunc_calls (A : Option Addr) (zs : List Int) (cap : Nat) (p : Int → Bool) (F : FuncId) (fF cF : Array Value) (w : World) (hn : zs.length ≤ 1048576) (hA : LRow w A zs)
    (eF : ∀ (args : Array Value) (W : World), (callFunc F args).run Tryz.prog W = .ok (.enter F args) W)
    (hF : ∀ (x : Int) (W : World), x ∈ zs → Below w.heap.size w W → Calls Tryz.prog F (fF.push (.int .i64 x) ++ cF) W fun e W' => e = .returned (.bool (p x)) ∧ Below W.heap.size W W') :
    Calls Tryz.prog 89 #[.slice A zs.length cap, .func (.func F) fF cF] w fun e w' => (∃ m : Int, e = .returned (.int .i64 m) ∧ (0 ≤ m ↔ zs.any p = true)) ∧ Below w.heap.size w w' := by
  have HA := Lib.hid hA
  have HF := Lib.hid hF
  clear hA hF
  go_enter Tryz.func89, Tryz.ntmps89
  go_wp2_with fail
  go_loopg [8] zs.length (fun c i wr => ∃ k : Nat, k + c = zs.length ∧ i = .int .i64 k ∧ (zs.take k).any p = false ∧ Below w.heap.size w wr)
  case atStart => exact ⟨0, by omega, rfl, rfl, Below.refl _ _⟩
  case round =>
    obtain ⟨k, hk, rfl, hno, hbr⟩ := hrel
    have Hno := Lib.hid hno
    have Hbr := Lib.hid hbr
    clear hno hbr
    by_cases hlt : k < zs.length
    · obtain ⟨g, rfl, hc⟩ := (HA.out.call Hbr.out) (by omega)
      have hck := hc k hlt
      have hmem := getD_mem hlt
      have htk : (zs.take (k + 1)).any p = ((zs.take k).any p || p (zs.getD k 0)) := by
        rw [List.take_succ_eq_append_getElem hlt, List.any_append]
        simp [List.getD, hlt]
      obtain ⟨z, hz⟩ : ∃ z, z = zs.getD k 0 := ⟨_, rfl⟩
      rw [← hz] at hck hmem htk
      have hcall := HF.out z wr hmem Hbr.out
      clear hc hz
      cases hp : p z with
      | true =>
        rw [hp] at hcall
        have hany : zs.any p = true := List.any_eq_true.2 ⟨z, hmem, hp⟩
        have Hany := Lib.hid hany
        have Hcall := Lib.hid hcall
        clear hcall hmem htk hp hany
        go_wp2_with fail
        refine (Hcall.out).mono ?_
        rintro e w2 ⟨rfl, hb2⟩
        go_wp2_with fail
        go_ret
        exact ⟨⟨_, rfl, ⟨fun _ => Hany.out, fun _ => by omega⟩⟩, Hbr.out.trans (hb2.mono Hbr.out.size)⟩
      | false =>
        rw [hp] at hcall htk
        have Hcall := Lib.hid hcall
        have Htk := Lib.hid htk
        clear hcall hmem htk hp
        go_wp2_with fail
        refine (Hcall.out).mono ?_
        rintro e w2 ⟨rfl, hb2⟩
        have Hb2 := Lib.hid hb2
        clear hb2
        go_wp2_with fail
        go_roundg (gk - 1)
        case rel => exact ⟨k + 1, by omega, by go_num, by rw [Htk.out, Hno.out]; rfl, Hbr.out.trans (Hb2.out.mono Hbr.out.size)⟩
        case measure => omega
    · have hall : zs.any p = false := by
        have := Hno.out
        rwa [List.take_of_length_le (by omega)] at this
      have Hall := Lib.hid hall
      clear hall
      go_wp2_with fail
      go_ret
      exact ⟨⟨_, rfl, ⟨fun h => absurd h (by decide), fun h => by rw [Hall.out] at h; cases h⟩⟩, Hbr.out⟩

theorem ContainsFunc_calls (A : Option Addr) (zs : List Int) (cap : Nat) (p : Int → Bool) (F : FuncId) (fF cF : Array Value) (w : World) (hn : zs.length ≤ 1048576) (hA : LRow w A zs)
    (eF : ∀ (args : Array Value) (W : World), (callFunc F args).run Tryz.prog W = .ok (.enter F args) W)
    (hF : ∀ (x : Int) (W : World), x ∈ zs → Below w.heap.size w W → Calls Tryz.prog F (fF.push (.int .i64 x) ++ cF) W fun e W' => e = .returned (.bool (p x)) ∧ Below W.heap.size W W') :
    Calls Tryz.prog 75 #[.slice A zs.length cap, .func (.func F) fF cF] w fun e w' => e = .returned (.bool (zs.any p)) ∧ Below w.heap.size w w' := by
  have hc := IndexFunc_calls A zs cap p F fF cF w hn hA eF hF
  have Hc := Lib.hid hc
  clear hc hA hF
  go_enter Tryz.func75, Tryz.ntmps75
  go_wp2_with fail
  refine (Hc.out).mono ?_
  rintro e w' ⟨⟨m, rfl, hm⟩, hb⟩
  have Hm := Lib.hid hm
  have Hb := Lib.hid hb
  clear hm hb
  go_wp2_with fail
  go_ret
  refine ⟨?_, Hb.out⟩
  show Ending.returned (.bool (decide (0 ≤ m))) = _
  congr 2
  rw [Bool.eq_iff_iff, decide_eq_true_eq]
  exact Hm.out

def elAll (i : Int) (zs : List Int) : Bool := zs.all (elB i)
def nodB (zs : List Int) : Bool := decide zs.Nodup

theorem enter_notEl : ∀ (args : Array Value) (w : World), (callFunc 76 args).run Tryz.prog w = .ok (.enter 76 args) w := enter_of Tryz.func76 (by kernel_rfl) (by kernel_rfl)

theorem areElements_calls (i : Int) (s r : ByteArray) (A : Option Addr) (zs : List Int) (cap : Nat) (w : World) (hn : zs.length ≤ 1048576) (hA : LRow w A zs) :
    Calls Tryz.prog 47 #[stV i s r, .slice A zs.length cap] w fun e w' => e = .returned (.bool (elAll i zs)) ∧ Below w.heap.size w w' := by
  have hx := Bx.new w 24 #[.int .i64 i, .string s, .string r]
  have hc := ContainsFunc_calls A zs cap (fun x => !elB i x) 76 #[] #[.pointer (some ⟨w.heap.size, 0, none⟩)] (w.alloc (.cells #[.int .i64 i, .string s, .string r] 24)) hn (hA.alloc _) enter_notEl
    (fun x W _ hW => notEl_calls i x s r w.heap.size W (hx.call hW))
  have hv : (!(zs.any fun x => !elB i x)) = elAll i zs := by
    unfold elAll
    rw [Bool.eq_iff_iff]
    simp [List.any_eq_true, List.all_eq_true]
  obtain ⟨b, hb⟩ : ∃ b, b = zs.any fun x => !elB i x := ⟨_, rfl⟩
  rw [← hb] at hc hv
  rw [← hv]
  have Hc := Lib.hid hc
  clear hc hA hx hv hb
  go_enter Tryz.func47, Tryz.ntmps47
  go_wp2_with fail
  refine (Hc.out).mono ?_
  rintro e w' ⟨rfl, hb⟩
  have HB := Lib.hid (box_next (box_refl w _) hb)
  clear hb
  go_wp2_with fail
  go_ret
  exact ⟨rfl, box_down HB.out⟩

set_option maxHeartbeats 400000 in
theorem allDifferent_calls (A : Option Addr) (zs : List Int) (cap : Nat) (w : World) (hn : zs.length ≤ 1048576) (hcap : zs.length ≤ cap) (hA : LRow w A zs) :
    Calls Tryz.prog 64 #[.slice A zs.length cap] w fun e w' => e = .returned (.bool (nodB zs)) ∧ w = w' := by
  have HA := Lib.hid hA
  clear hA
  obtain ⟨V, hV⟩ : ∃ V, V = nodB zs := ⟨_, rfl⟩
  rw [← hV]
  have HV := Lib.hid hV
  clear hV
  go_enter Tryz.func64, Tryz.ntmps64
  go_wp2_with fail
  go_loop [7] (fun i => ∃ k : Nat, k ≤ zs.length ∧ i = .int .i64 k ∧ (zs.take k).Nodup) (fun i => zs.length - (intOf i).toNat)
  case atStart => exact ⟨0, Nat.zero_le _, rfl, by simp⟩
  case round =>
    obtain ⟨k, hk, rfl, hnd⟩ := hrel
    have Hnd := Lib.hid hnd
    clear hnd
    by_cases hlt : k < zs.length
    · have hcon := Contains_calls A (zs.take k) cap (zs.getD k 0) w (by rw [List.length_take]; omega) (HA.out.take k)
      rw [List.length_take, Nat.min_eq_left (by omega)] at hcon
      have hstep : (zs.take (k + 1)).Nodup ↔ (zs.take k).Nodup ∧ ¬ zs.getD k 0 ∈ zs.take k := by
        rw [List.take_succ_eq_append_getElem hlt, List.nodup_append]
        have e : zs.getD k 0 = zs[k] := by simp [List.getD, hlt]
        rw [e]
        simp only [List.mem_singleton]
        constructor
        · rintro ⟨h1, _, h2⟩; exact ⟨h1, fun h => h2 _ h _ rfl rfl⟩
        · rintro ⟨h1, h2⟩; exact ⟨h1, by simp, fun x hx y hy e => by subst hy; subst e; exact h2 hx⟩
      obtain ⟨g, rfl, hc⟩ := HA.out (by omega)
      have hck := hc k hlt
      have hwh : zs.Nodup → (zs.take (k + 1)).Nodup := fun h => h.sublist (List.take_sublist _ _)
      have hkc : (k : Int) ≤ (cap : Int) := by omega
      obtain ⟨z, hz⟩ : ∃ z, z = zs.getD k 0 := ⟨_, rfl⟩
      rw [← hz] at hcon hck hstep
      clear hc hz
      by_cases hin : z ∈ zs.take k
      · rw [decide_eq_true hin] at hcon
        have hno : nodB zs = false := decide_eq_false fun h => (hstep.1 (hwh h)).2 hin
        have Hno := Lib.hid hno
        have Hcon := Lib.hid hcon
        clear hcon hstep hwh hin hno
        go_wp2_with fail
        refine (Hcon.out).mono ?_
        rintro e w' ⟨rfl, rfl⟩
        go_wp2_with fail
        go_ret
        exact ⟨by rw [HV.out, Hno.out]; rfl, rfl⟩
      · rw [decide_eq_false hin] at hcon
        have hnext := hstep.2 ⟨Hnd.out, hin⟩
        have Hnext := Lib.hid hnext
        have Hcon := Lib.hid hcon
        clear hcon hstep hwh hin hnext
        go_wp2_with fail
        refine (Hcon.out).mono ?_
        rintro e w' ⟨rfl, rfl⟩
        go_wp2_with fail
        go_round
        case rel => exact ⟨k + 1, by omega, by go_num, Hnext.out⟩
        case measure => simp [intOf]; omega
    · have hall : nodB zs = true := by
        have := Hnd.out
        rw [List.take_of_length_le (by omega)] at this
        exact decide_eq_true this
      have Hall := Lib.hid hall
      clear hall
      go_wp2_with fail
      go_ret
      exact ⟨by rw [HV.out, Hall.out]; rfl, rfl⟩

/-- numbers that are elements, as natural numbers -/
def natsI (ns : List Nat) : List Int := ns.map fun x : Nat => (x : Int)
theorem natsI_len (ns : List Nat) : (natsI ns).length = ns.length := by simp [natsI]
theorem natsI_get (ns : List Nat) (k : Nat) : (natsI ns).getD k 0 = ((ns.getD k 0 : Nat) : Int) := by
  unfold natsI
  simp only [List.getD_eq_getElem?_getD, List.getElem?_map]
  cases ns[k]? <;> rfl

theorem LRow.nats {w : World} {A : Option Addr} {ns : List Nat} (h : LRow w A (natsI ns)) {k : Nat} (hk : k < ns.length) : ∃ g, A = some ⟨g, 0, none⟩ ∧ w.cell? ⟨g, k, none⟩ = some (.int .i64 ((ns.getD k 0 : Nat) : Int)) := by
  obtain ⟨g, rfl, hc⟩ := h (by rw [natsI_len]; omega)
  exact ⟨g, rfl, by rw [hc k (by rw [natsI_len]; exact hk), natsI_get]⟩

theorem getD_lt {n : Nat} {ns : List Nat} (h : ∀ x ∈ ns, x < n) {k : Nat} (hk : k < ns.length) : ns.getD k 0 < n := h _ (by
  simp only [List.getD_eq_getElem?_getD, List.getElem?_eq_getElem hk, Option.getD_some]
  exact List.getElem_mem hk)

set_option maxHeartbeats 1000000 in
theorem part1_calls (a : St) (ha : a.ok) (ns : List Nat) (hns : ∀ x ∈ ns, x < a.n) (hl : ns.length ≤ 8) (A : Option Addr) (cap : Nat) (x : Nat) (hx : x < ns.length) (ba bl : Nat) (w : World)
    (hb : Bx w ba 24 #[.int .i64 a.n, .string (bs a.set), .string (bs a.rel)]) (hbl : Bx w bl 31 #[.slice A ns.length cap]) (hA : LRow w A (natsI ns)) :
    Calls Tryz.prog 70 #[.int .i64 x, .pointer (some ⟨ba, 0, none⟩), .pointer (some ⟨bl, 0, none⟩)] w fun e w' => e = .returned (.bool (a.inS (ns.getD x 0))) ∧ Below w.heap.size w w' := by
  obtain ⟨k0, k1, k2⟩ := box_load hb
  have l0 := hbl.cell 0
  simp at l0
  obtain ⟨g, rfl, c0⟩ := hA.nats hx
  have hlt := getD_lt hns hx
  have hcall := fun W => inSet_calls a ha (ns.getD x 0) hlt W
  generalize ns.getD x 0 = y at c0 hlt hcall
  generalize ns.length = n at l0 hx hl
  have Hcall := Lib.hid hcall
  have i1 : (0 : Int) ≤ (x : Int) := by omega
  have i2 : (x : Int) < (n : Int) := by omega
  clear hb hbl hA hcall
  go_enter Tryz.func70, Tryz.ntmps70
  go_wp2_with fail
  go_region_held3 (fun w' => w'.cell? ⟨ba, 0, none⟩ = some (.int .i64 a.n) ∧ w'.cell? ⟨ba, 1, none⟩ = some (.string (bs a.set)) ∧ w'.cell? ⟨ba, 2, none⟩ = some (.string (bs a.rel)) ∧ w'.cell? ⟨bl, 0, none⟩ = some (.slice (some ⟨g, 0, none⟩) n cap) ∧ w'.cell? ⟨g, x, none⟩ = some (.int .i64 y)) (first | go_keep | exact ⟨m0, m1, m2, m3, m4⟩) (first | (go_at_call 71; (with_reducible refine (Hcall.out _).mono ?_); rintro e w2 ⟨rfl, hz⟩; have m0 := (hz.cell (World.block_lt_of_cell? _ _ k0)).trans k0; have m1 := (hz.cell (World.block_lt_of_cell? _ _ k1)).trans k1; have m2 := (hz.cell (World.block_lt_of_cell? _ _ k2)).trans k2; have m3 := (hz.cell (World.block_lt_of_cell? _ _ l0)).trans l0; have m4 := (hz.cell (World.block_lt_of_cell? _ _ c0)).trans c0; have Hz := Lib.hid hz; clear hz))
  all_goals
    go_wp2_with fail
    go_ret
    exact ⟨rfl, (Below.refl w.heap.size w).drew.trans (Hz.out.mono (Nat.le_refl _))⟩

set_option maxHeartbeats 1000000 in
theorem part2_calls (a : St) (ha : a.ok) (ns : List Nat) (hns : ∀ x ∈ ns, x < a.n) (hl : ns.length ≤ 8) (A : Option Addr) (cap : Nat) (x x2 : Nat) (hx : x < ns.length) (hx2 : x2 < ns.length) (ba bl : Nat) (w : World)
    (hb : Bx w ba 24 #[.int .i64 a.n, .string (bs a.set), .string (bs a.rel)]) (hbl : Bx w bl 31 #[.slice A ns.length cap]) (hA : LRow w A (natsI ns)) :
    Calls Tryz.prog 72 #[.int .i64 x, .int .i64 x2, .pointer (some ⟨ba, 0, none⟩), .pointer (some ⟨bl, 0, none⟩)] w fun e w' => e = .returned (.bool (a.inR (ns.getD x 0) (ns.getD x2 0))) ∧ Below w.heap.size w w' := by
  obtain ⟨k0, k1, k2⟩ := box_load hb
  have l0 := hbl.cell 0
  simp at l0
  obtain ⟨g, rfl, c0⟩ := hA.nats hx
  obtain ⟨g', hg', c1⟩ := hA.nats hx2
  obtain rfl : g = g' := by injection hg' with h; injection h
  have hlt := getD_lt hns hx
  have hlt2 := getD_lt hns hx2
  have hcall := fun W => inRel_calls a ha (ns.getD x 0) (ns.getD x2 0) hlt hlt2 W
  generalize ns.getD x 0 = y at c0 hlt hcall
  generalize ns.getD x2 0 = y2 at c1 hlt2 hcall
  generalize ns.length = n at l0 hx hx2 hl
  have Hcall := Lib.hid hcall
  have i1 : (0 : Int) ≤ (x : Int) := by omega
  have i2 : (x : Int) < (n : Int) := by omega
  have i3 : (0 : Int) ≤ (x2 : Int) := by omega
  have i4 : (x2 : Int) < (n : Int) := by omega
  clear hb hbl hA hcall hg'
  go_enter Tryz.func72, Tryz.ntmps72
  go_wp2_with fail
  go_region_held3 (fun w' => w'.cell? ⟨ba, 0, none⟩ = some (.int .i64 a.n) ∧ w'.cell? ⟨ba, 1, none⟩ = some (.string (bs a.set)) ∧ w'.cell? ⟨ba, 2, none⟩ = some (.string (bs a.rel)) ∧ w'.cell? ⟨bl, 0, none⟩ = some (.slice (some ⟨g, 0, none⟩) n cap) ∧ w'.cell? ⟨g, x, none⟩ = some (.int .i64 y) ∧ w'.cell? ⟨g, x2, none⟩ = some (.int .i64 y2)) (first | go_keep | exact ⟨m0, m1, m2, m3, m4, m5⟩) (first | (go_at_call 73; (with_reducible refine (Hcall.out _).mono ?_); rintro e w2 ⟨rfl, hz⟩; have m0 := (hz.cell (World.block_lt_of_cell? _ _ k0)).trans k0; have m1 := (hz.cell (World.block_lt_of_cell? _ _ k1)).trans k1; have m2 := (hz.cell (World.block_lt_of_cell? _ _ k2)).trans k2; have m3 := (hz.cell (World.block_lt_of_cell? _ _ l0)).trans l0; have m4 := (hz.cell (World.block_lt_of_cell? _ _ c0)).trans c0; have m5 := (hz.cell (World.block_lt_of_cell? _ _ c1)).trans c1; have Hz := Lib.hid hz; clear hz))
  all_goals
    go_wp2_with fail
    go_ret
    exact ⟨rfl, (Below.refl w.heap.size w).drew.trans (Hz.out.mono (Nat.le_refl _))⟩

theorem enter_part1 : ∀ (args : Array Value) (w : World), (callFunc 70 args).run Tryz.prog w = .ok (.enter 70 args) w := enter_of Tryz.func70 (by kernel_rfl) (by kernel_rfl)
theorem enter_part2 : ∀ (args : Array Value) (w : World), (callFunc 72 args).run Tryz.prog w = .ok (.enter 72 args) w := enter_of Tryz.func72 (by kernel_rfl) (by kernel_rfl)

set_option maxHeartbeats 1000000 in
theorem partOf_calls (a : St) (ha : a.ok) (ns : List Nat) (hns : ∀ x ∈ ns, x < a.n) (hl : ns.length ≤ 8) (A : Option Addr) (cap : Nat) (w : World) (hA : LRow w A (natsI ns)) :
    Calls Tryz.prog 43 #[stA a, .slice A ns.length cap] w fun e w' => e = .returned (stA (a.part ns)) ∧ Below w.heap.size w w' := by
  have HA := Lib.hid hA
  clear hA
  have hmk : ∀ W, Below (w.heap.size + 2) ((w.alloc (.cells #[.int .i64 a.n, .string (bs a.set), .string (bs a.rel)] 24)).alloc (.cells #[.slice A ns.length cap] 31)) W → Calls Tryz.prog 69 #[.int .i64 ns.length, .func (.func 70) #[] #[.pointer (some ⟨w.heap.size, 0, none⟩), .pointer (some ⟨w.heap.size + 1, 0, none⟩)], .func (.func 72) #[] #[.pointer (some ⟨w.heap.size, 0, none⟩), .pointer (some ⟨w.heap.size + 1, 0, none⟩)]] W fun e w' => e = .returned (stA (a.part ns)) ∧ Below W.heap.size W w' := fun W hW => by
    have x0 := ((Bx.new w 24 #[.int .i64 a.n, .string (bs a.set), .string (bs a.rel)]).alloc (.cells #[.slice A ns.length cap] 31)).below hW (by omega)
    have x1 := (bx_two w (.cells #[.int .i64 a.n, .string (bs a.set), .string (bs a.rel)] 24) #[.slice A ns.length cap] (t := 31)).below hW (by omega)
    have hA1 : LRow W A (natsI ns) := ((HA.out.alloc _).alloc _).call (hW.mono (by simp))
    exact makeStructure_calls ns.length hl (fun x => a.inS (ns.getD x 0)) (fun x y => a.inR (ns.getD x 0) (ns.getD y 0)) 70 72 #[] #[.pointer (some ⟨w.heap.size, 0, none⟩), .pointer (some ⟨w.heap.size + 1, 0, none⟩)] #[] #[.pointer (some ⟨w.heap.size, 0, none⟩), .pointer (some ⟨w.heap.size + 1, 0, none⟩)] W enter_part1 enter_part2
      (fun x V hx hV => part1_calls a ha ns hns hl A cap x hx _ _ V (x0.call hV) (x1.call hV) (hA1.call hV))
      (fun x y V hx hy hV => part2_calls a ha ns hns hl A cap x y hx hy _ _ V (x0.call hV) (x1.call hV) (hA1.call hV))
  have Hmk := Lib.hid hmk
  clear hmk
  have hn8 : (ns.length : Int) ≤ 8 := by omega
  go_enter Tryz.func43, Tryz.ntmps43
  go_wp2_with fail
  refine (Hmk.out _ ((Below.refl _ _).alloc (by simp) _)).mono ?_
  rintro e w2 ⟨rfl, hz⟩
  have xr : Bx w2 (w.heap.size + 2) 24 #[.int .i64 0, .string (bs []), .string (bs [])] := by
    have h := Bx.new ((w.alloc (.cells #[.int .i64 a.n, .string (bs a.set), .string (bs a.rel)] 24)).alloc (.cells #[.slice A ns.length cap] 31)) 24 #[.int .i64 0, .string (bs []), .string (bs [])]
    rw [World.size_alloc, World.size_alloc] at h
    exact h.call hz
  have HB := Lib.hid ((((((Below.refl w.heap.size w).alloc (Nat.le_refl _) (.cells #[.int .i64 a.n, .string (bs a.set), .string (bs a.rel)] 24)).alloc (by simp) (.cells #[.slice A ns.length cap] 31)).alloc (by simp; omega) (.cells #[.int .i64 0, .string (bs []), .string (bs [])] 24)).trans (hz.mono (by simp; omega))))
  obtain ⟨d0, d1, d2⟩ := box_load xr
  have f0 := xr.free 0
  have f1 := xr.free 1
  have f2 := xr.free 2
  have Xr := Lib.hid xr
  clear hz xr
  go_wp2_with fail
  have y1 := ((Xr.out.set 0 (.int .i64 (a.part ns).n)).set 1 (.string (bs (a.part ns).set))).set 2 (.string (bs (a.part ns).rel))
  obtain ⟨q0, q1, q2⟩ := box_load (a := .int .i64 (a.part ns).n) (b := .string (bs (a.part ns).set)) (c := .string (bs (a.part ns).rel)) y1
  refine bodyPost_ret (v := stA (a.part ns)) ?_ rfl ⟨rfl, ?_⟩
  · simp [results, Tryz.results43, go_sem, q0, q1, q2]
  · exact ((HB.out.setCell (by simp; omega) _).setCell (by simp; omega) _).setCell (by simp; omega) _

end Go.Proofs.YtpaleogkgfclnaaGreatDoor
