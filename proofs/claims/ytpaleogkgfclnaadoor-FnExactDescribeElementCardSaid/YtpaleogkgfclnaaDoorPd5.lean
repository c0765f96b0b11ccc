/-
  Laws of the functions that the claim reaches, one after the other (packed by a program of the prover's: DecQu, Holds, List, Turn, Part, Placed, EachA). Conditions: texts below the reach.
-/
import Derived.Test.YtpaleogkgfclnaaDoorPd4
import Derived.Test.YtpaleogkgfclnaaDoorPd3
import Derived.Laws.MakeOwn
import Derived.Laws.OwnMore
import Derived.OwnWalk
import Derived.Deep.QuietTactic
import Derived.BigQuiet
import Derived.Deep.DrawnRows
import Derived.Test.YtpaleogkgfclnaaDoorPd0
import Derived.Maps.AppendAt
set_option linter.unusedSimpArgs false
set_option linter.unusedVariables false

namespace Go.Proofs.YtpaleogkgfclnaaDoor
open Go.RowKit
open Go.ChangeMaps
open Pl
set_option linter.unusedSimpArgs false
set_option linter.unusedVariables false

theorem var_one {lo : Nat} {w0 : World} {a : St} {hb : Nat} {W : World} (h : HoldW lo w0 a hb W) {f : Fm} {v : Fin 4} {nb : Nat} (ht : TreeAt lo w0 f nb) (hf : f.vars = [v]) :
    ∃ g cap, W.cell? ⟨nb, 1, none⟩ = some (.slice (some ⟨g, 0, none⟩) 1 cap) ∧ W.cell? ⟨g, 0, none⟩ = some (byteV (vb v)) := by
  obtain ⟨ks, vsv, psv, _, hc1, _, _, _, hrow, _⟩ := node_cells (h.tree ht)
  rw [hf] at hrow
  obtain ⟨g, cap, rfl, _, _, _, _, hc⟩ := row_open hrow (by simp)
  exact ⟨g, cap, hc1, by simpa using hc 0 (by simp)⟩

section
variable (lo : Nat) (w0 : World) (a : St) (hb : Nat)

set_option maxRecDepth 100000 in
set_option maxHeartbeats 8000000 in
theorem decide_qu0 (ha : a.ok) (q : Qn) (p : Fm) (ih : HoldsBy 85 lo w0 a hb p) : HoldsBy 103 lo w0 a hb (.qu q 0 p) := by
  intro nb e w ht he hw
  obtain ⟨E, hE⟩ : ∃ E, E = eN e := ⟨_, rfl⟩
  have hA : envA e = #[.int .i64 (E 0 : Nat), .int .i64 (E 1 : Nat), .int .i64 (E 2 : Nat), .int .i64 (E 3 : Nat)] := by rw [hE]; rfl
  rw [hA]
  have hV := (hw.alloc (.cells #[kidV nb] 52)).alloc (.cells #[.int .i64 (E 0 : Nat), .int .i64 (E 1 : Nat), .int .i64 (E 2 : Nat), .int .i64 (E 3 : Nat)] 106)
  have hD : DecB ((w.alloc (.cells #[kidV nb] 52)).alloc (.cells #[.int .i64 (E 0 : Nat), .int .i64 (E 1 : Nat), .int .i64 (E 2 : Nat), .int .i64 (E 3 : Nat)] 106)) w.heap.size nb E := ⟨(Bx.new w 52 #[kidV nb]).alloc _, bx_two w _ _⟩
  have HV := Lib.hid hV
  have HD := Lib.hid hD
  have HT := Lib.hid (hV.tree ht)
  have F1 := Lib.hid ((Fz.alloc (Nat.le_of_lt hw.cache.lt) (.cells #[kidV nb] 52)).trans (Fz.alloc (by have := hw.cache.lt; simp; omega) (.cells #[.int .i64 (E 0 : Nat), .int .i64 (E 1 : Nat), .int .i64 (E 2 : Nat), .int .i64 (E 3 : Nat)] 106)))
  obtain ⟨ks, vsv, psv, hc00, _⟩ := node_cells HT.out
  have hc0 : ((w.alloc (.cells #[kidV nb] 52)).alloc (.cells #[.int .i64 (E 0 : Nat), .int .i64 (E 1 : Nat), .int .i64 (E 2 : Nat), .int .i64 (E 3 : Nat)] 106)).cell? ⟨nb, 0, none⟩ = some (.int .u8 q.b.toNat) := hc00
  clear hc00
  have n0 := hD.node.cell 0
  simp only [List.getElem?_toArray, List.getElem?_cons_zero, List.getElem?_cons_succ] at n0
  have HE := Lib.hid hE
  have He := Lib.hid he
  have HTw := Lib.hid ht
  have hbl := hw.box.lt
  have hbl2 := hw.cache.lt
  clear hE hA hV hD ht he hw
  obtain ⟨o, ho⟩ : ∃ o : Int, o = (q.b.toNat : Int) := ⟨_, rfl⟩
  have hq : (o == 116) = false ∧ (o == 102) = false ∧ (o == 80) = false ∧ (o == 61) = false ∧ (o == 69) = false ∧ (o == 33) = false ∧ (o == 38) = false ∧ (o == 124) = false := by
    rw [ho]; cases q <;> decide
  obtain ⟨q1, q2, q3, q4, q5, q6, q7, q8⟩ := hq
  rw [← ho] at hc0
  have Ho := Lib.hid ho
  have h8 := ha.hi
  have h0 := HV.out.box.cell 0
  simp only [List.getElem?_toArray, List.getElem?_cons_zero, List.getElem?_cons_succ] at h0
  have Ih := Lib.hid ih
  clear ih ho
  go_enter Tryd.func103, Tryd.ntmps103
  go_wp2_with fail
  go_loopg [8, 107] a.n (fun c cn xi wr => ∃ x : Nat, x + c = a.n ∧ xi = .int .i64 (x : Nat) ∧ cn = .int .i64 (Pl.cnt x (fun y => p.holds a (upd e 0 y)) : Nat) ∧ HoldW lo w0 a hb wr ∧ Bx wr w.heap.size 52 #[kidV nb] ∧ (∃ E' : Nat → Nat, (∀ i, i ≠ 0 → E' i = E i) ∧ Bx wr (w.heap.size + 1) 106 #[.int .i64 (E' 0 : Nat), .int .i64 (E' 1 : Nat), .int .i64 (E' 2 : Nat), .int .i64 (E' 3 : Nat)]) ∧ Fz hb w wr)
  case atStart => exact ⟨0, by omega, rfl, rfl, HV.out, HD.out.node, ⟨E, fun _ _ => rfl, HD.out.vals⟩, F1.out⟩
  case round =>
    obtain ⟨x, hx, rfl, rfl, hH, hN, ⟨E', hE', hVl⟩, hf⟩ := hrel
    have HVl := Lib.hid hVl
    have HN := Lib.hid hN
    have HE' := Lib.hid hE'
    have hcn := cnt_le x (fun y => p.holds a (upd e 0 y))
    by_cases hlt : x < a.n
    · obtain ⟨gv, capv, y0, y10⟩ := var_one hH HTw.out (f := .qu q 0 p) rfl
      have y1 : wr.cell? ⟨gv, 0, none⟩ = some (.int .u8 97) := y10
      clear y10
      have H2 := Lib.hid (hH.set hVl (by omega) 0 (.int .i64 (x : Nat)))
      have FS := Lib.hid (hf.set (by omega) (by omega) (g := w.heap.size + 1) 0 (.int .i64 (x : Nat)))
      have XN0 := Lib.hid (show Bx (wr.setCell ⟨w.heap.size + 1, 0, none⟩ (.int .i64 (x : Nat))).drew w.heap.size 52 #[kidV nb] from (hN.far (by simp) _).drew)
      have XV0 := Lib.hid (show Bx (wr.setCell ⟨w.heap.size + 1, 0, none⟩ (.int .i64 (x : Nat))).drew (w.heap.size + 1) 106 #[.int .i64 (x : Nat), .int .i64 (E' 1 : Nat), .int .i64 (E' 2 : Nat), .int .i64 (E' 3 : Nat)] from (by have := (hVl.set 0 (.int .i64 (x : Nat))).drew; simpa using this))
      have n0w := hN.cell 0
      have fv := hVl.free 0
      have cv := hVl.cell 0
      simp only [List.getElem?_toArray, List.getElem?_cons_zero, List.getElem?_cons_succ] at n0w cv
      clear hH hN hVl hf hE'
      go_upto_region 24 with (fail)
      have n0 := XN0.out.cell 0
      have v0 := XV0.out.cell 0
      have v1 := XV0.out.cell 1
      have v2 := XV0.out.cell 2
      have v3 := XV0.out.cell 3
      simp only [List.getElem?_toArray, List.getElem?_cons_zero, List.getElem?_cons_succ] at n0 v0 v1 v2 v3
      obtain ⟨k, g, cap, p0, k0, htk⟩ := kid_one H2.out.drew HTw.out (f := .qu q 0 p) rfl
      have hAx : envA (upd e 0 x) = #[.int .i64 (x : Nat), .int .i64 (E' 1 : Nat), .int .i64 (E' 2 : Nat), .int .i64 (E' 3 : Nat)] := by
        have gg : ∀ i : Fin 4, i.val ≠ 0 → e i = E' i.val := fun i hi => by rw [HE'.out _ hi, HE.out, eN_fin]
        unfold envA upd
        rw [gg 1 (by decide), gg 2 (by decide), gg 3 (by decide)]
        first | (simp; done) | (simp; rfl)
      have ck := fun (W : World) (hW : HoldW lo w0 a hb W) => Ih.out k (upd e 0 x) W htk (fun u => by unfold upd; split; exact hlt; exact He.out u) hW
      simp only [hAx] at ck
      clear hAx htk
      have hcs := cnt_succ x (fun y => p.holds a (upd e 0 y))
      cases hp : p.holds a (upd e 0 x) with
      | false =>
        simp only [hp] at ck hcs
        have CK := Lib.hid ck
        have Hcs := Lib.hid hcs
        clear ck hcs hp
        refine region_sched [(0, true), (1, true), (2, true), (3, true), (4, true), (5, true), (6, true), (7, true), (8, false)] (fun w' : World => w'.cell? ⟨w.heap.size, 0, none⟩ = some (kidV nb) ∧ w'.cell? ⟨nb, 2, none⟩ = some (.slice (some ⟨g, 0, none⟩) 1 cap) ∧ w'.cell? ⟨g, 0, none⟩ = some (kidV k) ∧ w'.cell? ⟨w.heap.size + 1, 0, none⟩ = some (.int .i64 (x : Nat)) ∧ w'.cell? ⟨w.heap.size + 1, 1, none⟩ = some (.int .i64 (E' 1 : Nat)) ∧ w'.cell? ⟨w.heap.size + 1, 2, none⟩ = some (.int .i64 (E' 2 : Nat)) ∧ w'.cell? ⟨w.heap.size + 1, 3, none⟩ = some (.int .i64 (E' 3 : Nat))) (by kernel_rfl) (by kernel_rfl) (by kernel_rfl) (by kernel_rfl) (fun _ _ _ _ h => h) ?_ (fun Q1 hQ1 => ?_)
        · exact ⟨n0, p0, k0, v0, v1, v2, v3⟩
        try simp only [List.append]
        refine sched_take' (v := ?_) (a' := ?_) rfl (by kernel_rfl) ?_ rfl ?_ ?_
        rotate_left 2
        · intro w hSw
          (try dsimp only at hSw)
          go_simp
          try with_reducible rfl
        · (try simp only [Act.put, List.setIfInBounds_toArray, List.set_cons_zero, List.set_cons_succ])
          try rfl
        refine sched_take' (v := kidV nb) (a' := ?_) rfl (by kernel_rfl) ?_ rfl ?_ ?_
        rotate_left 1
        · intro w hSw
          (try dsimp only at hSw)
          go_simp
          first | done | (obtain ⟨un, up, uk, uv0, uv1, uv2, uv3⟩ := hSw; simp [*])
        · (try simp only [Act.put, List.setIfInBounds_toArray, List.set_cons_zero, List.set_cons_succ])
          try rfl
        refine sched_take' (v := ?_) (a' := ?_) rfl (by kernel_rfl) ?_ rfl ?_ ?_
        rotate_left 2
        · intro w hSw
          (try dsimp only at hSw)
          go_simp
          try with_reducible rfl
        · (try simp only [Act.put, List.setIfInBounds_toArray, List.set_cons_zero, List.set_cons_succ])
          try rfl
        refine sched_take' (v := ?_) (a' := ?_) rfl (by kernel_rfl) ?_ rfl ?_ ?_
        rotate_left 2
        · intro w hSw
          (try dsimp only at hSw)
          go_simp
          try with_reducible rfl
        · (try simp only [Act.put, List.setIfInBounds_toArray, List.set_cons_zero, List.set_cons_succ])
          try rfl
        refine sched_take' (v := .slice (some ⟨g, 0, none⟩) 1 cap) (a' := ?_) rfl (by kernel_rfl) ?_ rfl ?_ ?_
        rotate_left 1
        · intro w hSw
          (try dsimp only at hSw)
          go_simp
          first | done | (obtain ⟨un, up, uk, uv0, uv1, uv2, uv3⟩ := hSw; simp [*])
        · (try simp only [Act.put, List.setIfInBounds_toArray, List.set_cons_zero, List.set_cons_succ])
          try rfl
        refine sched_take' (v := ?_) (a' := ?_) rfl (by kernel_rfl) ?_ rfl ?_ ?_
        rotate_left 2
        · intro w hSw
          (try dsimp only at hSw)
          go_simp
          try with_reducible rfl
        · (try simp only [Act.put, List.setIfInBounds_toArray, List.set_cons_zero, List.set_cons_succ])
          try rfl
        refine sched_take' (v := kidV k) (a' := ?_) rfl (by kernel_rfl) ?_ rfl ?_ ?_
        rotate_left 1
        · intro w hSw
          (try dsimp only at hSw)
          go_simp
          first | done | (obtain ⟨un, up, uk, uv0, uv1, uv2, uv3⟩ := hSw; simp [*])
        · (try simp only [Act.put, List.setIfInBounds_toArray, List.set_cons_zero, List.set_cons_succ])
          try rfl
        refine sched_take' (v := .agg #[.int .i64 (x : Nat), .int .i64 (E' 1 : Nat), .int .i64 (E' 2 : Nat), .int .i64 (E' 3 : Nat)]) (a' := ?_) rfl (by kernel_rfl) ?_ rfl ?_ ?_
        rotate_left 1
        · intro w hSw
          (try dsimp only at hSw)
          go_simp
          first | done | (obtain ⟨un, up, uk, uv0, uv1, uv2, uv3⟩ := hSw; simp [*])
        · (try simp only [Act.put, List.setIfInBounds_toArray, List.set_cons_zero, List.set_cons_succ])
          try rfl
        refine sched_call rfl (by kernel_rfl) (fun K1 hK1 => ?_)
        go_simp
        refine (CK.out _ H2.out.drew).mono ?_
        rintro ed w1 ⟨rfl, hW, hF⟩
        have HW := Lib.hid hW
        have F2 := Lib.hid (FS.out.drew.trans hF)
        have n1 := hF.cell n0
        have p1 := hF.cell p0
        have k1 := hF.cell k0
        have x0 := hF.cell v0
        have x1 := hF.cell v1
        have x2 := hF.cell v2
        have x3 := hF.cell v3
        have XN := Lib.hid (hF.bx XN0.out)
        have XV := Lib.hid (hF.bx XV0.out)
        clear hW hF
        go_wp2_with fail
        refine hK1.out _ _ ?_ (sched_lay (a' := ?_) ?_ ?_)
        · exact ⟨n1, p1, k1, x0, x1, x2, x3⟩
        rotate_left 1
        · (try simp only [Act.put, List.getElem_toArray, List.getElem_cons_succ, List.getElem_cons_zero, List.setIfInBounds_toArray, List.set_cons_zero, List.set_cons_succ])
          try rfl
        clear hK1 K1
        refine sched_done (hQ1.out _ _ ?_)
        go_wp2_with fail
        go_roundg (a.n - x - 1)
        case rel => exact ⟨x + 1, by omega, by go_num, by rw [Hcs.out]; rfl, HW.out, XN.out, ⟨fun i => if i = 0 then x else E' i, fun i hi => (if_neg hi).trans (HE'.out i hi), XV.out⟩, F2.out⟩
        case measure => omega
      | true =>
        simp only [hp] at ck hcs
        have CK := Lib.hid ck
        have Hcs := Lib.hid hcs
        clear ck hcs hp
        refine region_sched [(0, true), (1, true), (2, true), (3, true), (4, true), (5, true), (6, true), (7, true), (8, false)] (fun w' : World => w'.cell? ⟨w.heap.size, 0, none⟩ = some (kidV nb) ∧ w'.cell? ⟨nb, 2, none⟩ = some (.slice (some ⟨g, 0, none⟩) 1 cap) ∧ w'.cell? ⟨g, 0, none⟩ = some (kidV k) ∧ w'.cell? ⟨w.heap.size + 1, 0, none⟩ = some (.int .i64 (x : Nat)) ∧ w'.cell? ⟨w.heap.size + 1, 1, none⟩ = some (.int .i64 (E' 1 : Nat)) ∧ w'.cell? ⟨w.heap.size + 1, 2, none⟩ = some (.int .i64 (E' 2 : Nat)) ∧ w'.cell? ⟨w.heap.size + 1, 3, none⟩ = some (.int .i64 (E' 3 : Nat))) (by kernel_rfl) (by kernel_rfl) (by kernel_rfl) (by kernel_rfl) (fun _ _ _ _ h => h) ?_ (fun Q1 hQ1 => ?_)
        · exact ⟨n0, p0, k0, v0, v1, v2, v3⟩
        try simp only [List.append]
        refine sched_take' (v := ?_) (a' := ?_) rfl (by kernel_rfl) ?_ rfl ?_ ?_
        rotate_left 2
        · intro w hSw
          (try dsimp only at hSw)
          go_simp
          try with_reducible rfl
        · (try simp only [Act.put, List.setIfInBounds_toArray, List.set_cons_zero, List.set_cons_succ])
          try rfl
        refine sched_take' (v := kidV nb) (a' := ?_) rfl (by kernel_rfl) ?_ rfl ?_ ?_
        rotate_left 1
        · intro w hSw
          (try dsimp only at hSw)
          go_simp
          first | done | (obtain ⟨un, up, uk, uv0, uv1, uv2, uv3⟩ := hSw; simp [*])
        · (try simp only [Act.put, List.setIfInBounds_toArray, List.set_cons_zero, List.set_cons_succ])
          try rfl
        refine sched_take' (v := ?_) (a' := ?_) rfl (by kernel_rfl) ?_ rfl ?_ ?_
        rotate_left 2
        · intro w hSw
          (try dsimp only at hSw)
          go_simp
          try with_reducible rfl
        · (try simp only [Act.put, List.setIfInBounds_toArray, List.set_cons_zero, List.set_cons_succ])
          try rfl
        refine sched_take' (v := ?_) (a' := ?_) rfl (by kernel_rfl) ?_ rfl ?_ ?_
        rotate_left 2
        · intro w hSw
          (try dsimp only at hSw)
          go_simp
          try with_reducible rfl
        · (try simp only [Act.put, List.setIfInBounds_toArray, List.set_cons_zero, List.set_cons_succ])
          try rfl
        refine sched_take' (v := .slice (some ⟨g, 0, none⟩) 1 cap) (a' := ?_) rfl (by kernel_rfl) ?_ rfl ?_ ?_
        rotate_left 1
        · intro w hSw
          (try dsimp only at hSw)
          go_simp
          first | done | (obtain ⟨un, up, uk, uv0, uv1, uv2, uv3⟩ := hSw; simp [*])
        · (try simp only [Act.put, List.setIfInBounds_toArray, List.set_cons_zero, List.set_cons_succ])
          try rfl
        refine sched_take' (v := ?_) (a' := ?_) rfl (by kernel_rfl) ?_ rfl ?_ ?_
        rotate_left 2
        · intro w hSw
          (try dsimp only at hSw)
          go_simp
          try with_reducible rfl
        · (try simp only [Act.put, List.setIfInBounds_toArray, List.set_cons_zero, List.set_cons_succ])
          try rfl
        refine sched_take' (v := kidV k) (a' := ?_) rfl (by kernel_rfl) ?_ rfl ?_ ?_
        rotate_left 1
        · intro w hSw
          (try dsimp only at hSw)
          go_simp
          first | done | (obtain ⟨un, up, uk, uv0, uv1, uv2, uv3⟩ := hSw; simp [*])
        · (try simp only [Act.put, List.setIfInBounds_toArray, List.set_cons_zero, List.set_cons_succ])
          try rfl
        refine sched_take' (v := .agg #[.int .i64 (x : Nat), .int .i64 (E' 1 : Nat), .int .i64 (E' 2 : Nat), .int .i64 (E' 3 : Nat)]) (a' := ?_) rfl (by kernel_rfl) ?_ rfl ?_ ?_
        rotate_left 1
        · intro w hSw
          (try dsimp only at hSw)
          go_simp
          first | done | (obtain ⟨un, up, uk, uv0, uv1, uv2, uv3⟩ := hSw; simp [*])
        · (try simp only [Act.put, List.setIfInBounds_toArray, List.set_cons_zero, List.set_cons_succ])
          try rfl
        refine sched_call rfl (by kernel_rfl) (fun K1 hK1 => ?_)
        go_simp
        refine (CK.out _ H2.out.drew).mono ?_
        rintro ed w1 ⟨rfl, hW, hF⟩
        have HW := Lib.hid hW
        have F2 := Lib.hid (FS.out.drew.trans hF)
        have n1 := hF.cell n0
        have p1 := hF.cell p0
        have k1 := hF.cell k0
        have x0 := hF.cell v0
        have x1 := hF.cell v1
        have x2 := hF.cell v2
        have x3 := hF.cell v3
        have XN := Lib.hid (hF.bx XN0.out)
        have XV := Lib.hid (hF.bx XV0.out)
        clear hW hF
        go_wp2_with fail
        refine hK1.out _ _ ?_ (sched_lay (a' := ?_) ?_ ?_)
        · exact ⟨n1, p1, k1, x0, x1, x2, x3⟩
        rotate_left 1
        · (try simp only [Act.put, List.getElem_toArray, List.getElem_cons_succ, List.getElem_cons_zero, List.setIfInBounds_toArray, List.set_cons_zero, List.set_cons_succ])
          try rfl
        clear hK1 K1
        refine sched_done (hQ1.out _ _ ?_)
        go_wp2_with fail
        go_roundg (a.n - x - 1)
        case rel => exact ⟨x + 1, by omega, by go_num, by rw [Hcs.out]; rfl, HW.out, XN.out, ⟨fun i => if i = 0 then x else E' i, fun i hi => (if_neg hi).trans (HE'.out i hi), XV.out⟩, F2.out⟩
        case measure => omega
    · have hxe : x = a.n := by omega
      have hxi : ¬ (x : Int) < (a.n : Int) := by omega
      have HH := Lib.hid hH
      have HF := Lib.hid hf
      have m0 := hN.cell 0
      have b0 := hH.box.cell 0
      simp only [List.getElem?_toArray, List.getElem?_cons_zero, List.getElem?_cons_succ] at m0 b0
      obtain ⟨ks', vsv', psv', hd0, _⟩ := node_cells (hH.tree HTw.out)
      have hd1 : wr.cell? ⟨nb, 0, none⟩ = some (.int .u8 (q.b.toNat : Int)) := hd0
      have HX := Lib.hid hxe
      obtain ⟨C, hC⟩ : ∃ C, C = Pl.cnt x (fun y => p.holds a (upd e 0 y)) := ⟨_, rfl⟩
      rw [← hC] at hcn ⊢
      have HC := Lib.hid hC
      clear hd0 hH hf hN hVl hE' hxe hC
      cases q
      case A => 
        have hd2 : wr.cell? ⟨nb, 0, none⟩ = some (.int .u8 65) := hd1
        clear hd1
        go_wp2_with fail
        go_ret
        refine ⟨?_, HH.out, HF.out⟩
        show _ = Ending.returned (.bool (Qn.says _ a.n (Pl.cnt a.n fun y => p.holds a (upd e 0 y))))
        rw [← HX.out, ← HC.out]
        exact congrArg (fun b => Ending.returned (Value.bool b)) (show ((C : Int) == (x : Int)) = (C == x) by rw [Bool.eq_iff_iff, beq_iff_eq, beq_iff_eq]; omega)
      case S => 
        have hd2 : wr.cell? ⟨nb, 0, none⟩ = some (.int .u8 83) := hd1
        clear hd1
        go_wp2_with fail
        go_ret
        refine ⟨?_, HH.out, HF.out⟩
        show _ = Ending.returned (.bool (Qn.says _ a.n (Pl.cnt a.n fun y => p.holds a (upd e 0 y))))
        rw [← HX.out, ← HC.out]
        exact congrArg (fun b => Ending.returned (Value.bool b)) (show decide (0 < C) = Qn.says .S x C from rfl)
      case c2 => 
        have hd2 : wr.cell? ⟨nb, 0, none⟩ = some (.int .u8 50) := hd1
        clear hd1
        go_wp2_with fail
        go_ret
        refine ⟨?_, HH.out, HF.out⟩
        show _ = Ending.returned (.bool (Qn.says _ a.n (Pl.cnt a.n fun y => p.holds a (upd e 0 y))))
        rw [← HX.out, ← HC.out]
        exact congrArg (fun b => Ending.returned (Value.bool b)) (show decide ((2 : Int) ≤ (C : Int)) = decide (2 ≤ C) from decide_eq_decide.2 (by omega))
      case c3 => 
        have hd2 : wr.cell? ⟨nb, 0, none⟩ = some (.int .u8 51) := hd1
        clear hd1
        go_wp2_with fail
        go_ret
        refine ⟨?_, HH.out, HF.out⟩
        show _ = Ending.returned (.bool (Qn.says _ a.n (Pl.cnt a.n fun y => p.holds a (upd e 0 y))))
        rw [← HX.out, ← HC.out]
        exact congrArg (fun b => Ending.returned (Value.bool b)) (show decide ((3 : Int) ≤ (C : Int)) = decide (3 ≤ C) from decide_eq_decide.2 (by omega))
      case c4 => 
        have hd2 : wr.cell? ⟨nb, 0, none⟩ = some (.int .u8 52) := hd1
        clear hd1
        go_wp2_with fail
        go_ret
        refine ⟨?_, HH.out, HF.out⟩
        show _ = Ending.returned (.bool (Qn.says _ a.n (Pl.cnt a.n fun y => p.holds a (upd e 0 y))))
        rw [← HX.out, ← HC.out]
        exact congrArg (fun b => Ending.returned (Value.bool b)) (show decide ((4 : Int) ≤ (C : Int)) = decide (4 ≤ C) from decide_eq_decide.2 (by omega))

set_option maxRecDepth 100000 in
set_option maxHeartbeats 8000000 in
theorem decide_qu1 (ha : a.ok) (q : Qn) (p : Fm) (ih : HoldsBy 85 lo w0 a hb p) : HoldsBy 103 lo w0 a hb (.qu q 1 p) := by
  intro nb e w ht he hw
  obtain ⟨E, hE⟩ : ∃ E, E = eN e := ⟨_, rfl⟩
  have hA : envA e = #[.int .i64 (E 0 : Nat), .int .i64 (E 1 : Nat), .int .i64 (E 2 : Nat), .int .i64 (E 3 : Nat)] := by rw [hE]; rfl
  rw [hA]
  have hV := (hw.alloc (.cells #[kidV nb] 52)).alloc (.cells #[.int .i64 (E 0 : Nat), .int .i64 (E 1 : Nat), .int .i64 (E 2 : Nat), .int .i64 (E 3 : Nat)] 106)
  have hD : DecB ((w.alloc (.cells #[kidV nb] 52)).alloc (.cells #[.int .i64 (E 0 : Nat), .int .i64 (E 1 : Nat), .int .i64 (E 2 : Nat), .int .i64 (E 3 : Nat)] 106)) w.heap.size nb E := ⟨(Bx.new w 52 #[kidV nb]).alloc _, bx_two w _ _⟩
  have HV := Lib.hid hV
  have HD := Lib.hid hD
  have HT := Lib.hid (hV.tree ht)
  have F1 := Lib.hid ((Fz.alloc (Nat.le_of_lt hw.cache.lt) (.cells #[kidV nb] 52)).trans (Fz.alloc (by have := hw.cache.lt; simp; omega) (.cells #[.int .i64 (E 0 : Nat), .int .i64 (E 1 : Nat), .int .i64 (E 2 : Nat), .int .i64 (E 3 : Nat)] 106)))
  obtain ⟨ks, vsv, psv, hc00, _⟩ := node_cells HT.out
  have hc0 : ((w.alloc (.cells #[kidV nb] 52)).alloc (.cells #[.int .i64 (E 0 : Nat), .int .i64 (E 1 : Nat), .int .i64 (E 2 : Nat), .int .i64 (E 3 : Nat)] 106)).cell? ⟨nb, 0, none⟩ = some (.int .u8 q.b.toNat) := hc00
  clear hc00
  have n0 := hD.node.cell 0
  simp only [List.getElem?_toArray, List.getElem?_cons_zero, List.getElem?_cons_succ] at n0
  have HE := Lib.hid hE
  have He := Lib.hid he
  have HTw := Lib.hid ht
  have hbl := hw.box.lt
  have hbl2 := hw.cache.lt
  clear hE hA hV hD ht he hw
  obtain ⟨o, ho⟩ : ∃ o : Int, o = (q.b.toNat : Int) := ⟨_, rfl⟩
  have hq : (o == 116) = false ∧ (o == 102) = false ∧ (o == 80) = false ∧ (o == 61) = false ∧ (o == 69) = false ∧ (o == 33) = false ∧ (o == 38) = false ∧ (o == 124) = false := by
    rw [ho]; cases q <;> decide
  obtain ⟨q1, q2, q3, q4, q5, q6, q7, q8⟩ := hq
  rw [← ho] at hc0
  have Ho := Lib.hid ho
  have h8 := ha.hi
  have h0 := HV.out.box.cell 0
  simp only [List.getElem?_toArray, List.getElem?_cons_zero, List.getElem?_cons_succ] at h0
  have Ih := Lib.hid ih
  clear ih ho
  go_enter Tryd.func103, Tryd.ntmps103
  go_wp2_with fail
  go_loopg [8, 107] a.n (fun c cn xi wr => ∃ x : Nat, x + c = a.n ∧ xi = .int .i64 (x : Nat) ∧ cn = .int .i64 (Pl.cnt x (fun y => p.holds a (upd e 1 y)) : Nat) ∧ HoldW lo w0 a hb wr ∧ Bx wr w.heap.size 52 #[kidV nb] ∧ (∃ E' : Nat → Nat, (∀ i, i ≠ 1 → E' i = E i) ∧ Bx wr (w.heap.size + 1) 106 #[.int .i64 (E' 0 : Nat), .int .i64 (E' 1 : Nat), .int .i64 (E' 2 : Nat), .int .i64 (E' 3 : Nat)]) ∧ Fz hb w wr)
  case atStart => exact ⟨0, by omega, rfl, rfl, HV.out, HD.out.node, ⟨E, fun _ _ => rfl, HD.out.vals⟩, F1.out⟩
  case round =>
    obtain ⟨x, hx, rfl, rfl, hH, hN, ⟨E', hE', hVl⟩, hf⟩ := hrel
    have HVl := Lib.hid hVl
    have HN := Lib.hid hN
    have HE' := Lib.hid hE'
    have hcn := cnt_le x (fun y => p.holds a (upd e 1 y))
    by_cases hlt : x < a.n
    · obtain ⟨gv, capv, y0, y10⟩ := var_one hH HTw.out (f := .qu q 1 p) rfl
      have y1 : wr.cell? ⟨gv, 0, none⟩ = some (.int .u8 98) := y10
      clear y10
      have H2 := Lib.hid (hH.set hVl (by omega) 1 (.int .i64 (x : Nat)))
      have FS := Lib.hid (hf.set (by omega) (by omega) (g := w.heap.size + 1) 1 (.int .i64 (x : Nat)))
      have XN0 := Lib.hid (show Bx (wr.setCell ⟨w.heap.size + 1, 1, none⟩ (.int .i64 (x : Nat))).drew w.heap.size 52 #[kidV nb] from (hN.far (by simp) _).drew)
      have XV0 := Lib.hid (show Bx (wr.setCell ⟨w.heap.size + 1, 1, none⟩ (.int .i64 (x : Nat))).drew (w.heap.size + 1) 106 #[.int .i64 (E' 0 : Nat), .int .i64 (x : Nat), .int .i64 (E' 2 : Nat), .int .i64 (E' 3 : Nat)] from (by have := (hVl.set 1 (.int .i64 (x : Nat))).drew; simpa using this))
      have n0w := hN.cell 0
      have fv := hVl.free 1
      have cv := hVl.cell 1
      simp only [List.getElem?_toArray, List.getElem?_cons_zero, List.getElem?_cons_succ] at n0w cv
      clear hH hN hVl hf hE'
      go_upto_region 24 with (fail)
      have n0 := XN0.out.cell 0
      have v0 := XV0.out.cell 0
      have v1 := XV0.out.cell 1
      have v2 := XV0.out.cell 2
      have v3 := XV0.out.cell 3
      simp only [List.getElem?_toArray, List.getElem?_cons_zero, List.getElem?_cons_succ] at n0 v0 v1 v2 v3
      obtain ⟨k, g, cap, p0, k0, htk⟩ := kid_one H2.out.drew HTw.out (f := .qu q 1 p) rfl
      have hAx : envA (upd e 1 x) = #[.int .i64 (E' 0 : Nat), .int .i64 (x : Nat), .int .i64 (E' 2 : Nat), .int .i64 (E' 3 : Nat)] := by
        have gg : ∀ i : Fin 4, i.val ≠ 1 → e i = E' i.val := fun i hi => by rw [HE'.out _ hi, HE.out, eN_fin]
        unfold envA upd
        rw [gg 0 (by decide), gg 2 (by decide), gg 3 (by decide)]
        first | (simp; done) | (simp; rfl)
      have ck := fun (W : World) (hW : HoldW lo w0 a hb W) => Ih.out k (upd e 1 x) W htk (fun u => by unfold upd; split; exact hlt; exact He.out u) hW
      simp only [hAx] at ck
      clear hAx htk
      have hcs := cnt_succ x (fun y => p.holds a (upd e 1 y))
      cases hp : p.holds a (upd e 1 x) with
      | false =>
        simp only [hp] at ck hcs
        have CK := Lib.hid ck
        have Hcs := Lib.hid hcs
        clear ck hcs hp
        refine region_sched [(0, true), (1, true), (2, true), (3, true), (4, true), (5, true), (6, true), (7, true), (8, false)] (fun w' : World => w'.cell? ⟨w.heap.size, 0, none⟩ = some (kidV nb) ∧ w'.cell? ⟨nb, 2, none⟩ = some (.slice (some ⟨g, 0, none⟩) 1 cap) ∧ w'.cell? ⟨g, 0, none⟩ = some (kidV k) ∧ w'.cell? ⟨w.heap.size + 1, 0, none⟩ = some (.int .i64 (E' 0 : Nat)) ∧ w'.cell? ⟨w.heap.size + 1, 1, none⟩ = some (.int .i64 (x : Nat)) ∧ w'.cell? ⟨w.heap.size + 1, 2, none⟩ = some (.int .i64 (E' 2 : Nat)) ∧ w'.cell? ⟨w.heap.size + 1, 3, none⟩ = some (.int .i64 (E' 3 : Nat))) (by kernel_rfl) (by kernel_rfl) (by kernel_rfl) (by kernel_rfl) (fun _ _ _ _ h => h) ?_ (fun Q1 hQ1 => ?_)
        · exact ⟨n0, p0, k0, v0, v1, v2, v3⟩
        try simp only [List.append]
        refine sched_take' (v := ?_) (a' := ?_) rfl (by kernel_rfl) ?_ rfl ?_ ?_
        rotate_left 2
        · intro w hSw
          (try dsimp only at hSw)
          go_simp
          try with_reducible rfl
        · (try simp only [Act.put, List.setIfInBounds_toArray, List.set_cons_zero, List.set_cons_succ])
          try rfl
        refine sched_take' (v := kidV nb) (a' := ?_) rfl (by kernel_rfl) ?_ rfl ?_ ?_
        rotate_left 1
        · intro w hSw
          (try dsimp only at hSw)
          go_simp
          first | done | (obtain ⟨un, up, uk, uv0, uv1, uv2, uv3⟩ := hSw; simp [*])
        · (try simp only [Act.put, List.setIfInBounds_toArray, List.set_cons_zero, List.set_cons_succ])
          try rfl
        refine sched_take' (v := ?_) (a' := ?_) rfl (by kernel_rfl) ?_ rfl ?_ ?_
        rotate_left 2
        · intro w hSw
          (try dsimp only at hSw)
          go_simp
          try with_reducible rfl
        · (try simp only [Act.put, List.setIfInBounds_toArray, List.set_cons_zero, List.set_cons_succ])
          try rfl
        refine sched_take' (v := ?_) (a' := ?_) rfl (by kernel_rfl) ?_ rfl ?_ ?_
        rotate_left 2
        · intro w hSw
          (try dsimp only at hSw)
          go_simp
          try with_reducible rfl
        · (try simp only [Act.put, List.setIfInBounds_toArray, List.set_cons_zero, List.set_cons_succ])
          try rfl
        refine sched_take' (v := .slice (some ⟨g, 0, none⟩) 1 cap) (a' := ?_) rfl (by kernel_rfl) ?_ rfl ?_ ?_
        rotate_left 1
        · intro w hSw
          (try dsimp only at hSw)
          go_simp
          first | done | (obtain ⟨un, up, uk, uv0, uv1, uv2, uv3⟩ := hSw; simp [*])
        · (try simp only [Act.put, List.setIfInBounds_toArray, List.set_cons_zero, List.set_cons_succ])
          try rfl
        refine sched_take' (v := ?_) (a' := ?_) rfl (by kernel_rfl) ?_ rfl ?_ ?_
        rotate_left 2
        · intro w hSw
          (try dsimp only at hSw)
          go_simp
          try with_reducible rfl
        · (try simp only [Act.put, List.setIfInBounds_toArray, List.set_cons_zero, List.set_cons_succ])
          try rfl
        refine sched_take' (v := kidV k) (a' := ?_) rfl (by kernel_rfl) ?_ rfl ?_ ?_
        rotate_left 1
        · intro w hSw
          (try dsimp only at hSw)
          go_simp
          first | done | (obtain ⟨un, up, uk, uv0, uv1, uv2, uv3⟩ := hSw; simp [*])
        · (try simp only [Act.put, List.setIfInBounds_toArray, List.set_cons_zero, List.set_cons_succ])
          try rfl
        refine sched_take' (v := .agg #[.int .i64 (E' 0 : Nat), .int .i64 (x : Nat), .int .i64 (E' 2 : Nat), .int .i64 (E' 3 : Nat)]) (a' := ?_) rfl (by kernel_rfl) ?_ rfl ?_ ?_
        rotate_left 1
        · intro w hSw
          (try dsimp only at hSw)
          go_simp
          first | done | (obtain ⟨un, up, uk, uv0, uv1, uv2, uv3⟩ := hSw; simp [*])
        · (try simp only [Act.put, List.setIfInBounds_toArray, List.set_cons_zero, List.set_cons_succ])
          try rfl
        refine sched_call rfl (by kernel_rfl) (fun K1 hK1 => ?_)
        go_simp
        refine (CK.out _ H2.out.drew).mono ?_
        rintro ed w1 ⟨rfl, hW, hF⟩
        have HW := Lib.hid hW
        have F2 := Lib.hid (FS.out.drew.trans hF)
        have n1 := hF.cell n0
        have p1 := hF.cell p0
        have k1 := hF.cell k0
        have x0 := hF.cell v0
        have x1 := hF.cell v1
        have x2 := hF.cell v2
        have x3 := hF.cell v3
        have XN := Lib.hid (hF.bx XN0.out)
        have XV := Lib.hid (hF.bx XV0.out)
        clear hW hF
        go_wp2_with fail
        refine hK1.out _ _ ?_ (sched_lay (a' := ?_) ?_ ?_)
        · exact ⟨n1, p1, k1, x0, x1, x2, x3⟩
        rotate_left 1
        · (try simp only [Act.put, List.getElem_toArray, List.getElem_cons_succ, List.getElem_cons_zero, List.setIfInBounds_toArray, List.set_cons_zero, List.set_cons_succ])
          try rfl
        clear hK1 K1
        refine sched_done (hQ1.out _ _ ?_)
        go_wp2_with fail
        go_roundg (a.n - x - 1)
        case rel => exact ⟨x + 1, by omega, by go_num, by rw [Hcs.out]; rfl, HW.out, XN.out, ⟨fun i => if i = 1 then x else E' i, fun i hi => (if_neg hi).trans (HE'.out i hi), XV.out⟩, F2.out⟩
        case measure => omega
      | true =>
        simp only [hp] at ck hcs
        have CK := Lib.hid ck
        have Hcs := Lib.hid hcs
        clear ck hcs hp
        refine region_sched [(0, true), (1, true), (2, true), (3, true), (4, true), (5, true), (6, true), (7, true), (8, false)] (fun w' : World => w'.cell? ⟨w.heap.size, 0, none⟩ = some (kidV nb) ∧ w'.cell? ⟨nb, 2, none⟩ = some (.slice (some ⟨g, 0, none⟩) 1 cap) ∧ w'.cell? ⟨g, 0, none⟩ = some (kidV k) ∧ w'.cell? ⟨w.heap.size + 1, 0, none⟩ = some (.int .i64 (E' 0 : Nat)) ∧ w'.cell? ⟨w.heap.size + 1, 1, none⟩ = some (.int .i64 (x : Nat)) ∧ w'.cell? ⟨w.heap.size + 1, 2, none⟩ = some (.int .i64 (E' 2 : Nat)) ∧ w'.cell? ⟨w.heap.size + 1, 3, none⟩ = some (.int .i64 (E' 3 : Nat))) (by kernel_rfl) (by kernel_rfl) (by kernel_rfl) (by kernel_rfl) (fun _ _ _ _ h => h) ?_ (fun Q1 hQ1 => ?_)
        · exact ⟨n0, p0, k0, v0, v1, v2, v3⟩
        try simp only [List.append]
        refine sched_take' (v := ?_) (a' := ?_) rfl (by kernel_rfl) ?_ rfl ?_ ?_
        rotate_left 2
        · intro w hSw
          (try dsimp only at hSw)
          go_simp
          try with_reducible rfl
        · (try simp only [Act.put, List.setIfInBounds_toArray, List.set_cons_zero, List.set_cons_succ])
          try rfl
        refine sched_take' (v := kidV nb) (a' := ?_) rfl (by kernel_rfl) ?_ rfl ?_ ?_
        rotate_left 1
        · intro w hSw
          (try dsimp only at hSw)
          go_simp
          first | done | (obtain ⟨un, up, uk, uv0, uv1, uv2, uv3⟩ := hSw; simp [*])
        · (try simp only [Act.put, List.setIfInBounds_toArray, List.set_cons_zero, List.set_cons_succ])
          try rfl
        refine sched_take' (v := ?_) (a' := ?_) rfl (by kernel_rfl) ?_ rfl ?_ ?_
        rotate_left 2
        · intro w hSw
          (try dsimp only at hSw)
          go_simp
          try with_reducible rfl
        · (try simp only [Act.put, List.setIfInBounds_toArray, List.set_cons_zero, List.set_cons_succ])
          try rfl
        refine sched_take' (v := ?_) (a' := ?_) rfl (by kernel_rfl) ?_ rfl ?_ ?_
        rotate_left 2
        · intro w hSw
          (try dsimp only at hSw)
          go_simp
          try with_reducible rfl
        · (try simp only [Act.put, List.setIfInBounds_toArray, List.set_cons_zero, List.set_cons_succ])
          try rfl
        refine sched_take' (v := .slice (some ⟨g, 0, none⟩) 1 cap) (a' := ?_) rfl (by kernel_rfl) ?_ rfl ?_ ?_
        rotate_left 1
        · intro w hSw
          (try dsimp only at hSw)
          go_simp
          first | done | (obtain ⟨un, up, uk, uv0, uv1, uv2, uv3⟩ := hSw; simp [*])
        · (try simp only [Act.put, List.setIfInBounds_toArray, List.set_cons_zero, List.set_cons_succ])
          try rfl
        refine sched_take' (v := ?_) (a' := ?_) rfl (by kernel_rfl) ?_ rfl ?_ ?_
        rotate_left 2
        · intro w hSw
          (try dsimp only at hSw)
          go_simp
          try with_reducible rfl
        · (try simp only [Act.put, List.setIfInBounds_toArray, List.set_cons_zero, List.set_cons_succ])
          try rfl
        refine sched_take' (v := kidV k) (a' := ?_) rfl (by kernel_rfl) ?_ rfl ?_ ?_
        rotate_left 1
        · intro w hSw
          (try dsimp only at hSw)
          go_simp
          first | done | (obtain ⟨un, up, uk, uv0, uv1, uv2, uv3⟩ := hSw; simp [*])
        · (try simp only [Act.put, List.setIfInBounds_toArray, List.set_cons_zero, List.set_cons_succ])
          try rfl
        refine sched_take' (v := .agg #[.int .i64 (E' 0 : Nat), .int .i64 (x : Nat), .int .i64 (E' 2 : Nat), .int .i64 (E' 3 : Nat)]) (a' := ?_) rfl (by kernel_rfl) ?_ rfl ?_ ?_
        rotate_left 1
        · intro w hSw
          (try dsimp only at hSw)
          go_simp
          first | done | (obtain ⟨un, up, uk, uv0, uv1, uv2, uv3⟩ := hSw; simp [*])
        · (try simp only [Act.put, List.setIfInBounds_toArray, List.set_cons_zero, List.set_cons_succ])
          try rfl
        refine sched_call rfl (by kernel_rfl) (fun K1 hK1 => ?_)
        go_simp
        refine (CK.out _ H2.out.drew).mono ?_
        rintro ed w1 ⟨rfl, hW, hF⟩
        have HW := Lib.hid hW
        have F2 := Lib.hid (FS.out.drew.trans hF)
        have n1 := hF.cell n0
        have p1 := hF.cell p0
        have k1 := hF.cell k0
        have x0 := hF.cell v0
        have x1 := hF.cell v1
        have x2 := hF.cell v2
        have x3 := hF.cell v3
        have XN := Lib.hid (hF.bx XN0.out)
        have XV := Lib.hid (hF.bx XV0.out)
        clear hW hF
        go_wp2_with fail
        refine hK1.out _ _ ?_ (sched_lay (a' := ?_) ?_ ?_)
        · exact ⟨n1, p1, k1, x0, x1, x2, x3⟩
        rotate_left 1
        · (try simp only [Act.put, List.getElem_toArray, List.getElem_cons_succ, List.getElem_cons_zero, List.setIfInBounds_toArray, List.set_cons_zero, List.set_cons_succ])
          try rfl
        clear hK1 K1
        refine sched_done (hQ1.out _ _ ?_)
        go_wp2_with fail
        go_roundg (a.n - x - 1)
        case rel => exact ⟨x + 1, by omega, by go_num, by rw [Hcs.out]; rfl, HW.out, XN.out, ⟨fun i => if i = 1 then x else E' i, fun i hi => (if_neg hi).trans (HE'.out i hi), XV.out⟩, F2.out⟩
        case measure => omega
    · have hxe : x = a.n := by omega
      have hxi : ¬ (x : Int) < (a.n : Int) := by omega
      have HH := Lib.hid hH
      have HF := Lib.hid hf
      have m0 := hN.cell 0
      have b0 := hH.box.cell 0
      simp only [List.getElem?_toArray, List.getElem?_cons_zero, List.getElem?_cons_succ] at m0 b0
      obtain ⟨ks', vsv', psv', hd0, _⟩ := node_cells (hH.tree HTw.out)
      have hd1 : wr.cell? ⟨nb, 0, none⟩ = some (.int .u8 (q.b.toNat : Int)) := hd0
      have HX := Lib.hid hxe
      obtain ⟨C, hC⟩ : ∃ C, C = Pl.cnt x (fun y => p.holds a (upd e 1 y)) := ⟨_, rfl⟩
      rw [← hC] at hcn ⊢
      have HC := Lib.hid hC
      clear hd0 hH hf hN hVl hE' hxe hC
      cases q
      case A => 
        have hd2 : wr.cell? ⟨nb, 0, none⟩ = some (.int .u8 65) := hd1
        clear hd1
        go_wp2_with fail
        go_ret
        refine ⟨?_, HH.out, HF.out⟩
        show _ = Ending.returned (.bool (Qn.says _ a.n (Pl.cnt a.n fun y => p.holds a (upd e 1 y))))
        rw [← HX.out, ← HC.out]
        exact congrArg (fun b => Ending.returned (Value.bool b)) (show ((C : Int) == (x : Int)) = (C == x) by rw [Bool.eq_iff_iff, beq_iff_eq, beq_iff_eq]; omega)
      case S => 
        have hd2 : wr.cell? ⟨nb, 0, none⟩ = some (.int .u8 83) := hd1
        clear hd1
        go_wp2_with fail
        go_ret
        refine ⟨?_, HH.out, HF.out⟩
        show _ = Ending.returned (.bool (Qn.says _ a.n (Pl.cnt a.n fun y => p.holds a (upd e 1 y))))
        rw [← HX.out, ← HC.out]
        exact congrArg (fun b => Ending.returned (Value.bool b)) (show decide (0 < C) = Qn.says .S x C from rfl)
      case c2 => 
        have hd2 : wr.cell? ⟨nb, 0, none⟩ = some (.int .u8 50) := hd1
        clear hd1
        go_wp2_with fail
        go_ret
        refine ⟨?_, HH.out, HF.out⟩
        show _ = Ending.returned (.bool (Qn.says _ a.n (Pl.cnt a.n fun y => p.holds a (upd e 1 y))))
        rw [← HX.out, ← HC.out]
        exact congrArg (fun b => Ending.returned (Value.bool b)) (show decide ((2 : Int) ≤ (C : Int)) = decide (2 ≤ C) from decide_eq_decide.2 (by omega))
      case c3 => 
        have hd2 : wr.cell? ⟨nb, 0, none⟩ = some (.int .u8 51) := hd1
        clear hd1
        go_wp2_with fail
        go_ret
        refine ⟨?_, HH.out, HF.out⟩
        show _ = Ending.returned (.bool (Qn.says _ a.n (Pl.cnt a.n fun y => p.holds a (upd e 1 y))))
        rw [← HX.out, ← HC.out]
        exact congrArg (fun b => Ending.returned (Value.bool b)) (show decide ((3 : Int) ≤ (C : Int)) = decide (3 ≤ C) from decide_eq_decide.2 (by omega))
      case c4 => 
        have hd2 : wr.cell? ⟨nb, 0, none⟩ = some (.int .u8 52) := hd1
        clear hd1
        go_wp2_with fail
        go_ret
        refine ⟨?_, HH.out, HF.out⟩
        show _ = Ending.returned (.bool (Qn.says _ a.n (Pl.cnt a.n fun y => p.holds a (upd e 1 y))))
        rw [← HX.out, ← HC.out]
        exact congrArg (fun b => Ending.returned (Value.bool b)) (show decide ((4 : Int) ≤ (C : Int)) = decide (4 ≤ C) from decide_eq_decide.2 (by omega))

set_option maxRecDepth 100000 in
set_option maxHeartbeats 8000000 in
theorem decide_qu2 (ha : a.ok) (q : Qn) (p : Fm) (ih : HoldsBy 85 lo w0 a hb p) : HoldsBy 103 lo w0 a hb (.qu q 2 p) := by
  intro nb e w ht he hw
  obtain ⟨E, hE⟩ : ∃ E, E = eN e := ⟨_, rfl⟩
  have hA : envA e = #[.int .i64 (E 0 : Nat), .int .i64 (E 1 : Nat), .int .i64 (E 2 : Nat), .int .i64 (E 3 : Nat)] := by rw [hE]; rfl
  rw [hA]
  have hV := (hw.alloc (.cells #[kidV nb] 52)).alloc (.cells #[.int .i64 (E 0 : Nat), .int .i64 (E 1 : Nat), .int .i64 (E 2 : Nat), .int .i64 (E 3 : Nat)] 106)
  have hD : DecB ((w.alloc (.cells #[kidV nb] 52)).alloc (.cells #[.int .i64 (E 0 : Nat), .int .i64 (E 1 : Nat), .int .i64 (E 2 : Nat), .int .i64 (E 3 : Nat)] 106)) w.heap.size nb E := ⟨(Bx.new w 52 #[kidV nb]).alloc _, bx_two w _ _⟩
  have HV := Lib.hid hV
  have HD := Lib.hid hD
  have HT := Lib.hid (hV.tree ht)
  have F1 := Lib.hid ((Fz.alloc (Nat.le_of_lt hw.cache.lt) (.cells #[kidV nb] 52)).trans (Fz.alloc (by have := hw.cache.lt; simp; omega) (.cells #[.int .i64 (E 0 : Nat), .int .i64 (E 1 : Nat), .int .i64 (E 2 : Nat), .int .i64 (E 3 : Nat)] 106)))
  obtain ⟨ks, vsv, psv, hc00, _⟩ := node_cells HT.out
  have hc0 : ((w.alloc (.cells #[kidV nb] 52)).alloc (.cells #[.int .i64 (E 0 : Nat), .int .i64 (E 1 : Nat), .int .i64 (E 2 : Nat), .int .i64 (E 3 : Nat)] 106)).cell? ⟨nb, 0, none⟩ = some (.int .u8 q.b.toNat) := hc00
  clear hc00
  have n0 := hD.node.cell 0
  simp only [List.getElem?_toArray, List.getElem?_cons_zero, List.getElem?_cons_succ] at n0
  have HE := Lib.hid hE
  have He := Lib.hid he
  have HTw := Lib.hid ht
  have hbl := hw.box.lt
  have hbl2 := hw.cache.lt
  clear hE hA hV hD ht he hw
  obtain ⟨o, ho⟩ : ∃ o : Int, o = (q.b.toNat : Int) := ⟨_, rfl⟩
  have hq : (o == 116) = false ∧ (o == 102) = false ∧ (o == 80) = false ∧ (o == 61) = false ∧ (o == 69) = false ∧ (o == 33) = false ∧ (o == 38) = false ∧ (o == 124) = false := by
    rw [ho]; cases q <;> decide
  obtain ⟨q1, q2, q3, q4, q5, q6, q7, q8⟩ := hq
  rw [← ho] at hc0
  have Ho := Lib.hid ho
  have h8 := ha.hi
  have h0 := HV.out.box.cell 0
  simp only [List.getElem?_toArray, List.getElem?_cons_zero, List.getElem?_cons_succ] at h0
  have Ih := Lib.hid ih
  clear ih ho
  go_enter Tryd.func103, Tryd.ntmps103
  go_wp2_with fail
  go_loopg [8, 107] a.n (fun c cn xi wr => ∃ x : Nat, x + c = a.n ∧ xi = .int .i64 (x : Nat) ∧ cn = .int .i64 (Pl.cnt x (fun y => p.holds a (upd e 2 y)) : Nat) ∧ HoldW lo w0 a hb wr ∧ Bx wr w.heap.size 52 #[kidV nb] ∧ (∃ E' : Nat → Nat, (∀ i, i ≠ 2 → E' i = E i) ∧ Bx wr (w.heap.size + 1) 106 #[.int .i64 (E' 0 : Nat), .int .i64 (E' 1 : Nat), .int .i64 (E' 2 : Nat), .int .i64 (E' 3 : Nat)]) ∧ Fz hb w wr)
  case atStart => exact ⟨0, by omega, rfl, rfl, HV.out, HD.out.node, ⟨E, fun _ _ => rfl, HD.out.vals⟩, F1.out⟩
  case round =>
    obtain ⟨x, hx, rfl, rfl, hH, hN, ⟨E', hE', hVl⟩, hf⟩ := hrel
    have HVl := Lib.hid hVl
    have HN := Lib.hid hN
    have HE' := Lib.hid hE'
    have hcn := cnt_le x (fun y => p.holds a (upd e 2 y))
    by_cases hlt : x < a.n
    · obtain ⟨gv, capv, y0, y10⟩ := var_one hH HTw.out (f := .qu q 2 p) rfl
      have y1 : wr.cell? ⟨gv, 0, none⟩ = some (.int .u8 99) := y10
      clear y10
      have H2 := Lib.hid (hH.set hVl (by omega) 2 (.int .i64 (x : Nat)))
      have FS := Lib.hid (hf.set (by omega) (by omega) (g := w.heap.size + 1) 2 (.int .i64 (x : Nat)))
      have XN0 := Lib.hid (show Bx (wr.setCell ⟨w.heap.size + 1, 2, none⟩ (.int .i64 (x : Nat))).drew w.heap.size 52 #[kidV nb] from (hN.far (by simp) _).drew)
      have XV0 := Lib.hid (show Bx (wr.setCell ⟨w.heap.size + 1, 2, none⟩ (.int .i64 (x : Nat))).drew (w.heap.size + 1) 106 #[.int .i64 (E' 0 : Nat), .int .i64 (E' 1 : Nat), .int .i64 (x : Nat), .int .i64 (E' 3 : Nat)] from (by have := (hVl.set 2 (.int .i64 (x : Nat))).drew; simpa using this))
      have n0w := hN.cell 0
      have fv := hVl.free 2
      have cv := hVl.cell 2
      simp only [List.getElem?_toArray, List.getElem?_cons_zero, List.getElem?_cons_succ] at n0w cv
      clear hH hN hVl hf hE'
      go_upto_region 24 with (fail)
      have n0 := XN0.out.cell 0
      have v0 := XV0.out.cell 0
      have v1 := XV0.out.cell 1
      have v2 := XV0.out.cell 2
      have v3 := XV0.out.cell 3
      simp only [List.getElem?_toArray, List.getElem?_cons_zero, List.getElem?_cons_succ] at n0 v0 v1 v2 v3
      obtain ⟨k, g, cap, p0, k0, htk⟩ := kid_one H2.out.drew HTw.out (f := .qu q 2 p) rfl
      have hAx : envA (upd e 2 x) = #[.int .i64 (E' 0 : Nat), .int .i64 (E' 1 : Nat), .int .i64 (x : Nat), .int .i64 (E' 3 : Nat)] := by
        have gg : ∀ i : Fin 4, i.val ≠ 2 → e i = E' i.val := fun i hi => by rw [HE'.out _ hi, HE.out, eN_fin]
        unfold envA upd
        rw [gg 0 (by decide), gg 1 (by decide), gg 3 (by decide)]
        first | (simp; done) | (simp; rfl)
      have ck := fun (W : World) (hW : HoldW lo w0 a hb W) => Ih.out k (upd e 2 x) W htk (fun u => by unfold upd; split; exact hlt; exact He.out u) hW
      simp only [hAx] at ck
      clear hAx htk
      have hcs := cnt_succ x (fun y => p.holds a (upd e 2 y))
      cases hp : p.holds a (upd e 2 x) with
      | false =>
        simp only [hp] at ck hcs
        have CK := Lib.hid ck
        have Hcs := Lib.hid hcs
        clear ck hcs hp
        refine region_sched [(0, true), (1, true), (2, true), (3, true), (4, true), (5, true), (6, true), (7, true), (8, false)] (fun w' : World => w'.cell? ⟨w.heap.size, 0, none⟩ = some (kidV nb) ∧ w'.cell? ⟨nb, 2, none⟩ = some (.slice (some ⟨g, 0, none⟩) 1 cap) ∧ w'.cell? ⟨g, 0, none⟩ = some (kidV k) ∧ w'.cell? ⟨w.heap.size + 1, 0, none⟩ = some (.int .i64 (E' 0 : Nat)) ∧ w'.cell? ⟨w.heap.size + 1, 1, none⟩ = some (.int .i64 (E' 1 : Nat)) ∧ w'.cell? ⟨w.heap.size + 1, 2, none⟩ = some (.int .i64 (x : Nat)) ∧ w'.cell? ⟨w.heap.size + 1, 3, none⟩ = some (.int .i64 (E' 3 : Nat))) (by kernel_rfl) (by kernel_rfl) (by kernel_rfl) (by kernel_rfl) (fun _ _ _ _ h => h) ?_ (fun Q1 hQ1 => ?_)
        · exact ⟨n0, p0, k0, v0, v1, v2, v3⟩
        try simp only [List.append]
        refine sched_take' (v := ?_) (a' := ?_) rfl (by kernel_rfl) ?_ rfl ?_ ?_
        rotate_left 2
        · intro w hSw
          (try dsimp only at hSw)
          go_simp
          try with_reducible rfl
        · (try simp only [Act.put, List.setIfInBounds_toArray, List.set_cons_zero, List.set_cons_succ])
          try rfl
        refine sched_take' (v := kidV nb) (a' := ?_) rfl (by kernel_rfl) ?_ rfl ?_ ?_
        rotate_left 1
        · intro w hSw
          (try dsimp only at hSw)
          go_simp
          first | done | (obtain ⟨un, up, uk, uv0, uv1, uv2, uv3⟩ := hSw; simp [*])
        · (try simp only [Act.put, List.setIfInBounds_toArray, List.set_cons_zero, List.set_cons_succ])
          try rfl
        refine sched_take' (v := ?_) (a' := ?_) rfl (by kernel_rfl) ?_ rfl ?_ ?_
        rotate_left 2
        · intro w hSw
          (try dsimp only at hSw)
          go_simp
          try with_reducible rfl
        · (try simp only [Act.put, List.setIfInBounds_toArray, List.set_cons_zero, List.set_cons_succ])
          try rfl
        refine sched_take' (v := ?_) (a' := ?_) rfl (by kernel_rfl) ?_ rfl ?_ ?_
        rotate_left 2
        · intro w hSw
          (try dsimp only at hSw)
          go_simp
          try with_reducible rfl
        · (try simp only [Act.put, List.setIfInBounds_toArray, List.set_cons_zero, List.set_cons_succ])
          try rfl
        refine sched_take' (v := .slice (some ⟨g, 0, none⟩) 1 cap) (a' := ?_) rfl (by kernel_rfl) ?_ rfl ?_ ?_
        rotate_left 1
        · intro w hSw
          (try dsimp only at hSw)
          go_simp
          first | done | (obtain ⟨un, up, uk, uv0, uv1, uv2, uv3⟩ := hSw; simp [*])
        · (try simp only [Act.put, List.setIfInBounds_toArray, List.set_cons_zero, List.set_cons_succ])
          try rfl
        refine sched_take' (v := ?_) (a' := ?_) rfl (by kernel_rfl) ?_ rfl ?_ ?_
        rotate_left 2
        · intro w hSw
          (try dsimp only at hSw)
          go_simp
          try with_reducible rfl
        · (try simp only [Act.put, List.setIfInBounds_toArray, List.set_cons_zero, List.set_cons_succ])
          try rfl
        refine sched_take' (v := kidV k) (a' := ?_) rfl (by kernel_rfl) ?_ rfl ?_ ?_
        rotate_left 1
        · intro w hSw
          (try dsimp only at hSw)
          go_simp
          first | done | (obtain ⟨un, up, uk, uv0, uv1, uv2, uv3⟩ := hSw; simp [*])
        · (try simp only [Act.put, List.setIfInBounds_toArray, List.set_cons_zero, List.set_cons_succ])
          try rfl
        refine sched_take' (v := .agg #[.int .i64 (E' 0 : Nat), .int .i64 (E' 1 : Nat), .int .i64 (x : Nat), .int .i64 (E' 3 : Nat)]) (a' := ?_) rfl (by kernel_rfl) ?_ rfl ?_ ?_
        rotate_left 1
        · intro w hSw
          (try dsimp only at hSw)
          go_simp
          first | done | (obtain ⟨un, up, uk, uv0, uv1, uv2, uv3⟩ := hSw; simp [*])
        · (try simp only [Act.put, List.setIfInBounds_toArray, List.set_cons_zero, List.set_cons_succ])
          try rfl
        refine sched_call rfl (by kernel_rfl) (fun K1 hK1 => ?_)
        go_simp
        refine (CK.out _ H2.out.drew).mono ?_
        rintro ed w1 ⟨rfl, hW, hF⟩
        have HW := Lib.hid hW
        have F2 := Lib.hid (FS.out.drew.trans hF)
        have n1 := hF.cell n0
        have p1 := hF.cell p0
        have k1 := hF.cell k0
        have x0 := hF.cell v0
        have x1 := hF.cell v1
        have x2 := hF.cell v2
        have x3 := hF.cell v3
        have XN := Lib.hid (hF.bx XN0.out)
        have XV := Lib.hid (hF.bx XV0.out)
        clear hW hF
        go_wp2_with fail
        refine hK1.out _ _ ?_ (sched_lay (a' := ?_) ?_ ?_)
        · exact ⟨n1, p1, k1, x0, x1, x2, x3⟩
        rotate_left 1
        · (try simp only [Act.put, List.getElem_toArray, List.getElem_cons_succ, List.getElem_cons_zero, List.setIfInBounds_toArray, List.set_cons_zero, List.set_cons_succ])
          try rfl
        clear hK1 K1
        refine sched_done (hQ1.out _ _ ?_)
        go_wp2_with fail
        go_roundg (a.n - x - 1)
        case rel => exact ⟨x + 1, by omega, by go_num, by rw [Hcs.out]; rfl, HW.out, XN.out, ⟨fun i => if i = 2 then x else E' i, fun i hi => (if_neg hi).trans (HE'.out i hi), XV.out⟩, F2.out⟩
        case measure => omega
      | true =>
        simp only [hp] at ck hcs
        have CK := Lib.hid ck
        have Hcs := Lib.hid hcs
        clear ck hcs hp
        refine region_sched [(0, true), (1, true), (2, true), (3, true), (4, true), (5, true), (6, true), (7, true), (8, false)] (fun w' : World => w'.cell? ⟨w.heap.size, 0, none⟩ = some (kidV nb) ∧ w'.cell? ⟨nb, 2, none⟩ = some (.slice (some ⟨g, 0, none⟩) 1 cap) ∧ w'.cell? ⟨g, 0, none⟩ = some (kidV k) ∧ w'.cell? ⟨w.heap.size + 1, 0, none⟩ = some (.int .i64 (E' 0 : Nat)) ∧ w'.cell? ⟨w.heap.size + 1, 1, none⟩ = some (.int .i64 (E' 1 : Nat)) ∧ w'.cell? ⟨w.heap.size + 1, 2, none⟩ = some (.int .i64 (x : Nat)) ∧ w'.cell? ⟨w.heap.size + 1, 3, none⟩ = some (.int .i64 (E' 3 : Nat))) (by kernel_rfl) (by kernel_rfl) (by kernel_rfl) (by kernel_rfl) (fun _ _ _ _ h => h) ?_ (fun Q1 hQ1 => ?_)
        · exact ⟨n0, p0, k0, v0, v1, v2, v3⟩
        try simp only [List.append]
        refine sched_take' (v := ?_) (a' := ?_) rfl (by kernel_rfl) ?_ rfl ?_ ?_
        rotate_left 2
        · intro w hSw
          (try dsimp only at hSw)
          go_simp
          try with_reducible rfl
        · (try simp only [Act.put, List.setIfInBounds_toArray, List.set_cons_zero, List.set_cons_succ])
          try rfl
        refine sched_take' (v := kidV nb) (a' := ?_) rfl (by kernel_rfl) ?_ rfl ?_ ?_
        rotate_left 1
        · intro w hSw
          (try dsimp only at hSw)
          go_simp
          first | done | (obtain ⟨un, up, uk, uv0, uv1, uv2, uv3⟩ := hSw; simp [*])
        · (try simp only [Act.put, List.setIfInBounds_toArray, List.set_cons_zero, List.set_cons_succ])
          try rfl
        refine sched_take' (v := ?_) (a' := ?_) rfl (by kernel_rfl) ?_ rfl ?_ ?_
        rotate_left 2
        · intro w hSw
          (try dsimp only at hSw)
          go_simp
          try with_reducible rfl
        · (try simp only [Act.put, List.setIfInBounds_toArray, List.set_cons_zero, List.set_cons_succ])
          try rfl
        refine sched_take' (v := ?_) (a' := ?_) rfl (by kernel_rfl) ?_ rfl ?_ ?_
        rotate_left 2
        · intro w hSw
          (try dsimp only at hSw)
          go_simp
          try with_reducible rfl
        · (try simp only [Act.put, List.setIfInBounds_toArray, List.set_cons_zero, List.set_cons_succ])
          try rfl
        refine sched_take' (v := .slice (some ⟨g, 0, none⟩) 1 cap) (a' := ?_) rfl (by kernel_rfl) ?_ rfl ?_ ?_
        rotate_left 1
        · intro w hSw
          (try dsimp only at hSw)
          go_simp
          first | done | (obtain ⟨un, up, uk, uv0, uv1, uv2, uv3⟩ := hSw; simp [*])
        · (try simp only [Act.put, List.setIfInBounds_toArray, List.set_cons_zero, List.set_cons_succ])
          try rfl
        refine sched_take' (v := ?_) (a' := ?_) rfl (by kernel_rfl) ?_ rfl ?_ ?_
        rotate_left 2
        · intro w hSw
          (try dsimp only at hSw)
          go_simp
          try with_reducible rfl
        · (try simp only [Act.put, List.setIfInBounds_toArray, List.set_cons_zero, List.set_cons_succ])
          try rfl
        refine sched_take' (v := kidV k) (a' := ?_) rfl (by kernel_rfl) ?_ rfl ?_ ?_
        rotate_left 1
        · intro w hSw
          (try dsimp only at hSw)
          go_simp
          first | done | (obtain ⟨un, up, uk, uv0, uv1, uv2, uv3⟩ := hSw; simp [*])
        · (try simp only [Act.put, List.setIfInBounds_toArray, List.set_cons_zero, List.set_cons_succ])
          try rfl
        refine sched_take' (v := .agg #[.int .i64 (E' 0 : Nat), .int .i64 (E' 1 : Nat), .int .i64 (x : Nat), .int .i64 (E' 3 : Nat)]) (a' := ?_) rfl (by kernel_rfl) ?_ rfl ?_ ?_
        rotate_left 1
        · intro w hSw
          (try dsimp only at hSw)
          go_simp
          first | done | (obtain ⟨un, up, uk, uv0, uv1, uv2, uv3⟩ := hSw; simp [*])
        · (try simp only [Act.put, List.setIfInBounds_toArray, List.set_cons_zero, List.set_cons_succ])
          try rfl
        refine sched_call rfl (by kernel_rfl) (fun K1 hK1 => ?_)
        go_simp
        refine (CK.out _ H2.out.drew).mono ?_
        rintro ed w1 ⟨rfl, hW, hF⟩
        have HW := Lib.hid hW
        have F2 := Lib.hid (FS.out.drew.trans hF)
        have n1 := hF.cell n0
        have p1 := hF.cell p0
        have k1 := hF.cell k0
        have x0 := hF.cell v0
        have x1 := hF.cell v1
        have x2 := hF.cell v2
        have x3 := hF.cell v3
        have XN := Lib.hid (hF.bx XN0.out)
        have XV := Lib.hid (hF.bx XV0.out)
        clear hW hF
        go_wp2_with fail
        refine hK1.out _ _ ?_ (sched_lay (a' := ?_) ?_ ?_)
        · exact ⟨n1, p1, k1, x0, x1, x2, x3⟩
        rotate_left 1
        · (try simp only [Act.put, List.getElem_toArray, List.getElem_cons_succ, List.getElem_cons_zero, List.setIfInBounds_toArray, List.set_cons_zero, List.set_cons_succ])
          try rfl
        clear hK1 K1
        refine sched_done (hQ1.out _ _ ?_)
        go_wp2_with fail
        go_roundg (a.n - x - 1)
        case rel => exact ⟨x + 1, by omega, by go_num, by rw [Hcs.out]; rfl, HW.out, XN.out, ⟨fun i => if i = 2 then x else E' i, fun i hi => (if_neg hi).trans (HE'.out i hi), XV.out⟩, F2.out⟩
        case measure => omega
    · have hxe : x = a.n := by omega
      have hxi : ¬ (x : Int) < (a.n : Int) := by omega
      have HH := Lib.hid hH
      have HF := Lib.hid hf
      have m0 := hN.cell 0
      have b0 := hH.box.cell 0
      simp only [List.getElem?_toArray, List.getElem?_cons_zero, List.getElem?_cons_succ] at m0 b0
      obtain ⟨ks', vsv', psv', hd0, _⟩ := node_cells (hH.tree HTw.out)
      have hd1 : wr.cell? ⟨nb, 0, none⟩ = some (.int .u8 (q.b.toNat : Int)) := hd0
      have HX := Lib.hid hxe
      obtain ⟨C, hC⟩ : ∃ C, C = Pl.cnt x (fun y => p.holds a (upd e 2 y)) := ⟨_, rfl⟩
      rw [← hC] at hcn ⊢
      have HC := Lib.hid hC
      clear hd0 hH hf hN hVl hE' hxe hC
      cases q
      case A => 
        have hd2 : wr.cell? ⟨nb, 0, none⟩ = some (.int .u8 65) := hd1
        clear hd1
        go_wp2_with fail
        go_ret
        refine ⟨?_, HH.out, HF.out⟩
        show _ = Ending.returned (.bool (Qn.says _ a.n (Pl.cnt a.n fun y => p.holds a (upd e 2 y))))
        rw [← HX.out, ← HC.out]
        exact congrArg (fun b => Ending.returned (Value.bool b)) (show ((C : Int) == (x : Int)) = (C == x) by rw [Bool.eq_iff_iff, beq_iff_eq, beq_iff_eq]; omega)
      case S => 
        have hd2 : wr.cell? ⟨nb, 0, none⟩ = some (.int .u8 83) := hd1
        clear hd1
        go_wp2_with fail
        go_ret
        refine ⟨?_, HH.out, HF.out⟩
        show _ = Ending.returned (.bool (Qn.says _ a.n (Pl.cnt a.n fun y => p.holds a (upd e 2 y))))
        rw [← HX.out, ← HC.out]
        exact congrArg (fun b => Ending.returned (Value.bool b)) (show decide (0 < C) = Qn.says .S x C from rfl)
      case c2 => 
        have hd2 : wr.cell? ⟨nb, 0, none⟩ = some (.int .u8 50) := hd1
        clear hd1
        go_wp2_with fail
        go_ret
        refine ⟨?_, HH.out, HF.out⟩
        show _ = Ending.returned (.bool (Qn.says _ a.n (Pl.cnt a.n fun y => p.holds a (upd e 2 y))))
        rw [← HX.out, ← HC.out]
        exact congrArg (fun b => Ending.returned (Value.bool b)) (show decide ((2 : Int) ≤ (C : Int)) = decide (2 ≤ C) from decide_eq_decide.2 (by omega))
      case c3 => 
        have hd2 : wr.cell? ⟨nb, 0, none⟩ = some (.int .u8 51) := hd1
        clear hd1
        go_wp2_with fail
        go_ret
        refine ⟨?_, HH.out, HF.out⟩
        show _ = Ending.returned (.bool (Qn.says _ a.n (Pl.cnt a.n fun y => p.holds a (upd e 2 y))))
        rw [← HX.out, ← HC.out]
        exact congrArg (fun b => Ending.returned (Value.bool b)) (show decide ((3 : Int) ≤ (C : Int)) = decide (3 ≤ C) from decide_eq_decide.2 (by omega))
      case c4 => 
        have hd2 : wr.cell? ⟨nb, 0, none⟩ = some (.int .u8 52) := hd1
        clear hd1
        go_wp2_with fail
        go_ret
        refine ⟨?_, HH.out, HF.out⟩
        show _ = Ending.returned (.bool (Qn.says _ a.n (Pl.cnt a.n fun y => p.holds a (upd e 2 y))))
        rw [← HX.out, ← HC.out]
        exact congrArg (fun b => Ending.returned (Value.bool b)) (show decide ((4 : Int) ≤ (C : Int)) = decide (4 ≤ C) from decide_eq_decide.2 (by omega))

set_option maxRecDepth 100000 in
set_option maxHeartbeats 8000000 in
theorem decide_qu3 (ha : a.ok) (q : Qn) (p : Fm) (ih : HoldsBy 85 lo w0 a hb p) : HoldsBy 103 lo w0 a hb (.qu q 3 p) := by
  intro nb e w ht he hw
  obtain ⟨E, hE⟩ : ∃ E, E = eN e := ⟨_, rfl⟩
  have hA : envA e = #[.int .i64 (E 0 : Nat), .int .i64 (E 1 : Nat), .int .i64 (E 2 : Nat), .int .i64 (E 3 : Nat)] := by rw [hE]; rfl
  rw [hA]
  have hV := (hw.alloc (.cells #[kidV nb] 52)).alloc (.cells #[.int .i64 (E 0 : Nat), .int .i64 (E 1 : Nat), .int .i64 (E 2 : Nat), .int .i64 (E 3 : Nat)] 106)
  have hD : DecB ((w.alloc (.cells #[kidV nb] 52)).alloc (.cells #[.int .i64 (E 0 : Nat), .int .i64 (E 1 : Nat), .int .i64 (E 2 : Nat), .int .i64 (E 3 : Nat)] 106)) w.heap.size nb E := ⟨(Bx.new w 52 #[kidV nb]).alloc _, bx_two w _ _⟩
  have HV := Lib.hid hV
  have HD := Lib.hid hD
  have HT := Lib.hid (hV.tree ht)
  have F1 := Lib.hid ((Fz.alloc (Nat.le_of_lt hw.cache.lt) (.cells #[kidV nb] 52)).trans (Fz.alloc (by have := hw.cache.lt; simp; omega) (.cells #[.int .i64 (E 0 : Nat), .int .i64 (E 1 : Nat), .int .i64 (E 2 : Nat), .int .i64 (E 3 : Nat)] 106)))
  obtain ⟨ks, vsv, psv, hc00, _⟩ := node_cells HT.out
  have hc0 : ((w.alloc (.cells #[kidV nb] 52)).alloc (.cells #[.int .i64 (E 0 : Nat), .int .i64 (E 1 : Nat), .int .i64 (E 2 : Nat), .int .i64 (E 3 : Nat)] 106)).cell? ⟨nb, 0, none⟩ = some (.int .u8 q.b.toNat) := hc00
  clear hc00
  have n0 := hD.node.cell 0
  simp only [List.getElem?_toArray, List.getElem?_cons_zero, List.getElem?_cons_succ] at n0
  have HE := Lib.hid hE
  have He := Lib.hid he
  have HTw := Lib.hid ht
  have hbl := hw.box.lt
  have hbl2 := hw.cache.lt
  clear hE hA hV hD ht he hw
  obtain ⟨o, ho⟩ : ∃ o : Int, o = (q.b.toNat : Int) := ⟨_, rfl⟩
  have hq : (o == 116) = false ∧ (o == 102) = false ∧ (o == 80) = false ∧ (o == 61) = false ∧ (o == 69) = false ∧ (o == 33) = false ∧ (o == 38) = false ∧ (o == 124) = false := by
    rw [ho]; cases q <;> decide
  obtain ⟨q1, q2, q3, q4, q5, q6, q7, q8⟩ := hq
  rw [← ho] at hc0
  have Ho := Lib.hid ho
  have h8 := ha.hi
  have h0 := HV.out.box.cell 0
  simp only [List.getElem?_toArray, List.getElem?_cons_zero, List.getElem?_cons_succ] at h0
  have Ih := Lib.hid ih
  clear ih ho
  go_enter Tryd.func103, Tryd.ntmps103
  go_wp2_with fail
  go_loopg [8, 107] a.n (fun c cn xi wr => ∃ x : Nat, x + c = a.n ∧ xi = .int .i64 (x : Nat) ∧ cn = .int .i64 (Pl.cnt x (fun y => p.holds a (upd e 3 y)) : Nat) ∧ HoldW lo w0 a hb wr ∧ Bx wr w.heap.size 52 #[kidV nb] ∧ (∃ E' : Nat → Nat, (∀ i, i ≠ 3 → E' i = E i) ∧ Bx wr (w.heap.size + 1) 106 #[.int .i64 (E' 0 : Nat), .int .i64 (E' 1 : Nat), .int .i64 (E' 2 : Nat), .int .i64 (E' 3 : Nat)]) ∧ Fz hb w wr)
  case atStart => exact ⟨0, by omega, rfl, rfl, HV.out, HD.out.node, ⟨E, fun _ _ => rfl, HD.out.vals⟩, F1.out⟩
  case round =>
    obtain ⟨x, hx, rfl, rfl, hH, hN, ⟨E', hE', hVl⟩, hf⟩ := hrel
    have HVl := Lib.hid hVl
    have HN := Lib.hid hN
    have HE' := Lib.hid hE'
    have hcn := cnt_le x (fun y => p.holds a (upd e 3 y))
    by_cases hlt : x < a.n
    · obtain ⟨gv, capv, y0, y10⟩ := var_one hH HTw.out (f := .qu q 3 p) rfl
      have y1 : wr.cell? ⟨gv, 0, none⟩ = some (.int .u8 100) := y10
      clear y10
      have H2 := Lib.hid (hH.set hVl (by omega) 3 (.int .i64 (x : Nat)))
      have FS := Lib.hid (hf.set (by omega) (by omega) (g := w.heap.size + 1) 3 (.int .i64 (x : Nat)))
      have XN0 := Lib.hid (show Bx (wr.setCell ⟨w.heap.size + 1, 3, none⟩ (.int .i64 (x : Nat))).drew w.heap.size 52 #[kidV nb] from (hN.far (by simp) _).drew)
      have XV0 := Lib.hid (show Bx (wr.setCell ⟨w.heap.size + 1, 3, none⟩ (.int .i64 (x : Nat))).drew (w.heap.size + 1) 106 #[.int .i64 (E' 0 : Nat), .int .i64 (E' 1 : Nat), .int .i64 (E' 2 : Nat), .int .i64 (x : Nat)] from (by have := (hVl.set 3 (.int .i64 (x : Nat))).drew; simpa using this))
      have n0w := hN.cell 0
      have fv := hVl.free 3
      have cv := hVl.cell 3
      simp only [List.getElem?_toArray, List.getElem?_cons_zero, List.getElem?_cons_succ] at n0w cv
      clear hH hN hVl hf hE'
      go_upto_region 24 with (fail)
      have n0 := XN0.out.cell 0
      have v0 := XV0.out.cell 0
      have v1 := XV0.out.cell 1
      have v2 := XV0.out.cell 2
      have v3 := XV0.out.cell 3
      simp only [List.getElem?_toArray, List.getElem?_cons_zero, List.getElem?_cons_succ] at n0 v0 v1 v2 v3
      obtain ⟨k, g, cap, p0, k0, htk⟩ := kid_one H2.out.drew HTw.out (f := .qu q 3 p) rfl
      have hAx : envA (upd e 3 x) = #[.int .i64 (E' 0 : Nat), .int .i64 (E' 1 : Nat), .int .i64 (E' 2 : Nat), .int .i64 (x : Nat)] := by
        have gg : ∀ i : Fin 4, i.val ≠ 3 → e i = E' i.val := fun i hi => by rw [HE'.out _ hi, HE.out, eN_fin]
        unfold envA upd
        rw [gg 0 (by decide), gg 1 (by decide), gg 2 (by decide)]
        first | (simp; done) | (simp; rfl)
      have ck := fun (W : World) (hW : HoldW lo w0 a hb W) => Ih.out k (upd e 3 x) W htk (fun u => by unfold upd; split; exact hlt; exact He.out u) hW
      simp only [hAx] at ck
      clear hAx htk
      have hcs := cnt_succ x (fun y => p.holds a (upd e 3 y))
      cases hp : p.holds a (upd e 3 x) with
      | false =>
        simp only [hp] at ck hcs
        have CK := Lib.hid ck
        have Hcs := Lib.hid hcs
        clear ck hcs hp
        refine region_sched [(0, true), (1, true), (2, true), (3, true), (4, true), (5, true), (6, true), (7, true), (8, false)] (fun w' : World => w'.cell? ⟨w.heap.size, 0, none⟩ = some (kidV nb) ∧ w'.cell? ⟨nb, 2, none⟩ = some (.slice (some ⟨g, 0, none⟩) 1 cap) ∧ w'.cell? ⟨g, 0, none⟩ = some (kidV k) ∧ w'.cell? ⟨w.heap.size + 1, 0, none⟩ = some (.int .i64 (E' 0 : Nat)) ∧ w'.cell? ⟨w.heap.size + 1, 1, none⟩ = some (.int .i64 (E' 1 : Nat)) ∧ w'.cell? ⟨w.heap.size + 1, 2, none⟩ = some (.int .i64 (E' 2 : Nat)) ∧ w'.cell? ⟨w.heap.size + 1, 3, none⟩ = some (.int .i64 (x : Nat))) (by kernel_rfl) (by kernel_rfl) (by kernel_rfl) (by kernel_rfl) (fun _ _ _ _ h => h) ?_ (fun Q1 hQ1 => ?_)
        · exact ⟨n0, p0, k0, v0, v1, v2, v3⟩
        try simp only [List.append]
        refine sched_take' (v := ?_) (a' := ?_) rfl (by kernel_rfl) ?_ rfl ?_ ?_
        rotate_left 2
        · intro w hSw
          (try dsimp only at hSw)
          go_simp
          try with_reducible rfl
        · (try simp only [Act.put, List.setIfInBounds_toArray, List.set_cons_zero, List.set_cons_succ])
          try rfl
        refine sched_take' (v := kidV nb) (a' := ?_) rfl (by kernel_rfl) ?_ rfl ?_ ?_
        rotate_left 1
        · intro w hSw
          (try dsimp only at hSw)
          go_simp
          first | done | (obtain ⟨un, up, uk, uv0, uv1, uv2, uv3⟩ := hSw; simp [*])
        · (try simp only [Act.put, List.setIfInBounds_toArray, List.set_cons_zero, List.set_cons_succ])
          try rfl
        refine sched_take' (v := ?_) (a' := ?_) rfl (by kernel_rfl) ?_ rfl ?_ ?_
        rotate_left 2
        · intro w hSw
          (try dsimp only at hSw)
          go_simp
          try with_reducible rfl
        · (try simp only [Act.put, List.setIfInBounds_toArray, List.set_cons_zero, List.set_cons_succ])
          try rfl
        refine sched_take' (v := ?_) (a' := ?_) rfl (by kernel_rfl) ?_ rfl ?_ ?_
        rotate_left 2
        · intro w hSw
          (try dsimp only at hSw)
          go_simp
          try with_reducible rfl
        · (try simp only [Act.put, List.setIfInBounds_toArray, List.set_cons_zero, List.set_cons_succ])
          try rfl
        refine sched_take' (v := .slice (some ⟨g, 0, none⟩) 1 cap) (a' := ?_) rfl (by kernel_rfl) ?_ rfl ?_ ?_
        rotate_left 1
        · intro w hSw
          (try dsimp only at hSw)
          go_simp
          first | done | (obtain ⟨un, up, uk, uv0, uv1, uv2, uv3⟩ := hSw; simp [*])
        · (try simp only [Act.put, List.setIfInBounds_toArray, List.set_cons_zero, List.set_cons_succ])
          try rfl
        refine sched_take' (v := ?_) (a' := ?_) rfl (by kernel_rfl) ?_ rfl ?_ ?_
        rotate_left 2
        · intro w hSw
          (try dsimp only at hSw)
          go_simp
          try with_reducible rfl
        · (try simp only [Act.put, List.setIfInBounds_toArray, List.set_cons_zero, List.set_cons_succ])
          try rfl
        refine sched_take' (v := kidV k) (a' := ?_) rfl (by kernel_rfl) ?_ rfl ?_ ?_
        rotate_left 1
        · intro w hSw
          (try dsimp only at hSw)
          go_simp
          first | done | (obtain ⟨un, up, uk, uv0, uv1, uv2, uv3⟩ := hSw; simp [*])
        · (try simp only [Act.put, List.setIfInBounds_toArray, List.set_cons_zero, List.set_cons_succ])
          try rfl
        refine sched_take' (v := .agg #[.int .i64 (E' 0 : Nat), .int .i64 (E' 1 : Nat), .int .i64 (E' 2 : Nat), .int .i64 (x : Nat)]) (a' := ?_) rfl (by kernel_rfl) ?_ rfl ?_ ?_
        rotate_left 1
        · intro w hSw
          (try dsimp only at hSw)
          go_simp
          first | done | (obtain ⟨un, up, uk, uv0, uv1, uv2, uv3⟩ := hSw; simp [*])
        · (try simp only [Act.put, List.setIfInBounds_toArray, List.set_cons_zero, List.set_cons_succ])
          try rfl
        refine sched_call rfl (by kernel_rfl) (fun K1 hK1 => ?_)
        go_simp
        refine (CK.out _ H2.out.drew).mono ?_
        rintro ed w1 ⟨rfl, hW, hF⟩
        have HW := Lib.hid hW
        have F2 := Lib.hid (FS.out.drew.trans hF)
        have n1 := hF.cell n0
        have p1 := hF.cell p0
        have k1 := hF.cell k0
        have x0 := hF.cell v0
        have x1 := hF.cell v1
        have x2 := hF.cell v2
        have x3 := hF.cell v3
        have XN := Lib.hid (hF.bx XN0.out)
        have XV := Lib.hid (hF.bx XV0.out)
        clear hW hF
        go_wp2_with fail
        refine hK1.out _ _ ?_ (sched_lay (a' := ?_) ?_ ?_)
        · exact ⟨n1, p1, k1, x0, x1, x2, x3⟩
        rotate_left 1
        · (try simp only [Act.put, List.getElem_toArray, List.getElem_cons_succ, List.getElem_cons_zero, List.setIfInBounds_toArray, List.set_cons_zero, List.set_cons_succ])
          try rfl
        clear hK1 K1
        refine sched_done (hQ1.out _ _ ?_)
        go_wp2_with fail
        go_roundg (a.n - x - 1)
        case rel => exact ⟨x + 1, by omega, by go_num, by rw [Hcs.out]; rfl, HW.out, XN.out, ⟨fun i => if i = 3 then x else E' i, fun i hi => (if_neg hi).trans (HE'.out i hi), XV.out⟩, F2.out⟩
        case measure => omega
      | true =>
        simp only [hp] at ck hcs
        have CK := Lib.hid ck
        have Hcs := Lib.hid hcs
        clear ck hcs hp
        refine region_sched [(0, true), (1, true), (2, true), (3, true), (4, true), (5, true), (6, true), (7, true), (8, false)] (fun w' : World => w'.cell? ⟨w.heap.size, 0, none⟩ = some (kidV nb) ∧ w'.cell? ⟨nb, 2, none⟩ = some (.slice (some ⟨g, 0, none⟩) 1 cap) ∧ w'.cell? ⟨g, 0, none⟩ = some (kidV k) ∧ w'.cell? ⟨w.heap.size + 1, 0, none⟩ = some (.int .i64 (E' 0 : Nat)) ∧ w'.cell? ⟨w.heap.size + 1, 1, none⟩ = some (.int .i64 (E' 1 : Nat)) ∧ w'.cell? ⟨w.heap.size + 1, 2, none⟩ = some (.int .i64 (E' 2 : Nat)) ∧ w'.cell? ⟨w.heap.size + 1, 3, none⟩ = some (.int .i64 (x : Nat))) (by kernel_rfl) (by kernel_rfl) (by kernel_rfl) (by kernel_rfl) (fun _ _ _ _ h => h) ?_ (fun Q1 hQ1 => ?_)
        · exact ⟨n0, p0, k0, v0, v1, v2, v3⟩
        try simp only [List.append]
        refine sched_take' (v := ?_) (a' := ?_) rfl (by kernel_rfl) ?_ rfl ?_ ?_
        rotate_left 2
        · intro w hSw
          (try dsimp only at hSw)
          go_simp
          try with_reducible rfl
        · (try simp only [Act.put, List.setIfInBounds_toArray, List.set_cons_zero, List.set_cons_succ])
          try rfl
        refine sched_take' (v := kidV nb) (a' := ?_) rfl (by kernel_rfl) ?_ rfl ?_ ?_
        rotate_left 1
        · intro w hSw
          (try dsimp only at hSw)
          go_simp
          first | done | (obtain ⟨un, up, uk, uv0, uv1, uv2, uv3⟩ := hSw; simp [*])
        · (try simp only [Act.put, List.setIfInBounds_toArray, List.set_cons_zero, List.set_cons_succ])
          try rfl
        refine sched_take' (v := ?_) (a' := ?_) rfl (by kernel_rfl) ?_ rfl ?_ ?_
        rotate_left 2
        · intro w hSw
          (try dsimp only at hSw)
          go_simp
          try with_reducible rfl
        · (try simp only [Act.put, List.setIfInBounds_toArray, List.set_cons_zero, List.set_cons_succ])
          try rfl
        refine sched_take' (v := ?_) (a' := ?_) rfl (by kernel_rfl) ?_ rfl ?_ ?_
        rotate_left 2
        · intro w hSw
          (try dsimp only at hSw)
          go_simp
          try with_reducible rfl
        · (try simp only [Act.put, List.setIfInBounds_toArray, List.set_cons_zero, List.set_cons_succ])
          try rfl
        refine sched_take' (v := .slice (some ⟨g, 0, none⟩) 1 cap) (a' := ?_) rfl (by kernel_rfl) ?_ rfl ?_ ?_
        rotate_left 1
        · intro w hSw
          (try dsimp only at hSw)
          go_simp
          first | done | (obtain ⟨un, up, uk, uv0, uv1, uv2, uv3⟩ := hSw; simp [*])
        · (try simp only [Act.put, List.setIfInBounds_toArray, List.set_cons_zero, List.set_cons_succ])
          try rfl
        refine sched_take' (v := ?_) (a' := ?_) rfl (by kernel_rfl) ?_ rfl ?_ ?_
        rotate_left 2
        · intro w hSw
          (try dsimp only at hSw)
          go_simp
          try with_reducible rfl
        · (try simp only [Act.put, List.setIfInBounds_toArray, List.set_cons_zero, List.set_cons_succ])
          try rfl
        refine sched_take' (v := kidV k) (a' := ?_) rfl (by kernel_rfl) ?_ rfl ?_ ?_
        rotate_left 1
        · intro w hSw
          (try dsimp only at hSw)
          go_simp
          first | done | (obtain ⟨un, up, uk, uv0, uv1, uv2, uv3⟩ := hSw; simp [*])
        · (try simp only [Act.put, List.setIfInBounds_toArray, List.set_cons_zero, List.set_cons_succ])
          try rfl
        refine sched_take' (v := .agg #[.int .i64 (E' 0 : Nat), .int .i64 (E' 1 : Nat), .int .i64 (E' 2 : Nat), .int .i64 (x : Nat)]) (a' := ?_) rfl (by kernel_rfl) ?_ rfl ?_ ?_
        rotate_left 1
        · intro w hSw
          (try dsimp only at hSw)
          go_simp
          first | done | (obtain ⟨un, up, uk, uv0, uv1, uv2, uv3⟩ := hSw; simp [*])
        · (try simp only [Act.put, List.setIfInBounds_toArray, List.set_cons_zero, List.set_cons_succ])
          try rfl
        refine sched_call rfl (by kernel_rfl) (fun K1 hK1 => ?_)
        go_simp
        refine (CK.out _ H2.out.drew).mono ?_
        rintro ed w1 ⟨rfl, hW, hF⟩
        have HW := Lib.hid hW
        have F2 := Lib.hid (FS.out.drew.trans hF)
        have n1 := hF.cell n0
        have p1 := hF.cell p0
        have k1 := hF.cell k0
        have x0 := hF.cell v0
        have x1 := hF.cell v1
        have x2 := hF.cell v2
        have x3 := hF.cell v3
        have XN := Lib.hid (hF.bx XN0.out)
        have XV := Lib.hid (hF.bx XV0.out)
        clear hW hF
        go_wp2_with fail
        refine hK1.out _ _ ?_ (sched_lay (a' := ?_) ?_ ?_)
        · exact ⟨n1, p1, k1, x0, x1, x2, x3⟩
        rotate_left 1
        · (try simp only [Act.put, List.getElem_toArray, List.getElem_cons_succ, List.getElem_cons_zero, List.setIfInBounds_toArray, List.set_cons_zero, List.set_cons_succ])
          try rfl
        clear hK1 K1
        refine sched_done (hQ1.out _ _ ?_)
        go_wp2_with fail
        go_roundg (a.n - x - 1)
        case rel => exact ⟨x + 1, by omega, by go_num, by rw [Hcs.out]; rfl, HW.out, XN.out, ⟨fun i => if i = 3 then x else E' i, fun i hi => (if_neg hi).trans (HE'.out i hi), XV.out⟩, F2.out⟩
        case measure => omega
    · have hxe : x = a.n := by omega
      have hxi : ¬ (x : Int) < (a.n : Int) := by omega
      have HH := Lib.hid hH
      have HF := Lib.hid hf
      have m0 := hN.cell 0
      have b0 := hH.box.cell 0
      simp only [List.getElem?_toArray, List.getElem?_cons_zero, List.getElem?_cons_succ] at m0 b0
      obtain ⟨ks', vsv', psv', hd0, _⟩ := node_cells (hH.tree HTw.out)
      have hd1 : wr.cell? ⟨nb, 0, none⟩ = some (.int .u8 (q.b.toNat : Int)) := hd0
      have HX := Lib.hid hxe
      obtain ⟨C, hC⟩ : ∃ C, C = Pl.cnt x (fun y => p.holds a (upd e 3 y)) := ⟨_, rfl⟩
      rw [← hC] at hcn ⊢
      have HC := Lib.hid hC
      clear hd0 hH hf hN hVl hE' hxe hC
      cases q
      case A => 
        have hd2 : wr.cell? ⟨nb, 0, none⟩ = some (.int .u8 65) := hd1
        clear hd1
        go_wp2_with fail
        go_ret
        refine ⟨?_, HH.out, HF.out⟩
        show _ = Ending.returned (.bool (Qn.says _ a.n (Pl.cnt a.n fun y => p.holds a (upd e 3 y))))
        rw [← HX.out, ← HC.out]
        exact congrArg (fun b => Ending.returned (Value.bool b)) (show ((C : Int) == (x : Int)) = (C == x) by rw [Bool.eq_iff_iff, beq_iff_eq, beq_iff_eq]; omega)
      case S => 
        have hd2 : wr.cell? ⟨nb, 0, none⟩ = some (.int .u8 83) := hd1
        clear hd1
        go_wp2_with fail
        go_ret
        refine ⟨?_, HH.out, HF.out⟩
        show _ = Ending.returned (.bool (Qn.says _ a.n (Pl.cnt a.n fun y => p.holds a (upd e 3 y))))
        rw [← HX.out, ← HC.out]
        exact congrArg (fun b => Ending.returned (Value.bool b)) (show decide (0 < C) = Qn.says .S x C from rfl)
      case c2 => 
        have hd2 : wr.cell? ⟨nb, 0, none⟩ = some (.int .u8 50) := hd1
        clear hd1
        go_wp2_with fail
        go_ret
        refine ⟨?_, HH.out, HF.out⟩
        show _ = Ending.returned (.bool (Qn.says _ a.n (Pl.cnt a.n fun y => p.holds a (upd e 3 y))))
        rw [← HX.out, ← HC.out]
        exact congrArg (fun b => Ending.returned (Value.bool b)) (show decide ((2 : Int) ≤ (C : Int)) = decide (2 ≤ C) from decide_eq_decide.2 (by omega))
      case c3 => 
        have hd2 : wr.cell? ⟨nb, 0, none⟩ = some (.int .u8 51) := hd1
        clear hd1
        go_wp2_with fail
        go_ret
        refine ⟨?_, HH.out, HF.out⟩
        show _ = Ending.returned (.bool (Qn.says _ a.n (Pl.cnt a.n fun y => p.holds a (upd e 3 y))))
        rw [← HX.out, ← HC.out]
        exact congrArg (fun b => Ending.returned (Value.bool b)) (show decide ((3 : Int) ≤ (C : Int)) = decide (3 ≤ C) from decide_eq_decide.2 (by omega))
      case c4 => 
        have hd2 : wr.cell? ⟨nb, 0, none⟩ = some (.int .u8 52) := hd1
        clear hd1
        go_wp2_with fail
        go_ret
        refine ⟨?_, HH.out, HF.out⟩
        show _ = Ending.returned (.bool (Qn.says _ a.n (Pl.cnt a.n fun y => p.holds a (upd e 3 y))))
        rw [← HX.out, ← HC.out]
        exact congrArg (fun b => Ending.returned (Value.bool b)) (show decide ((4 : Int) ≤ (C : Int)) = decide (4 ≤ C) from decide_eq_decide.2 (by omega))

end

end Go.Proofs.YtpaleogkgfclnaaDoor

namespace Go.Proofs.YtpaleogkgfclnaaDoor
open Go.RowKit
open Go.ChangeMaps
open Pl
set_option linter.unusedSimpArgs false
set_option linter.unusedVariables false

theorem isTrue_calls (lo : Nat) (w0 : World) (a : St) (ha : a.ok) (hb : Nat) : ∀ (n : Nat) (f : Fm), f.size ≤ n → HoldsBy 85 lo w0 a hb f
  | 0, f, h => by cases f <;> simp [Fm.size] at h
  | n + 1, f, h => isTrue_of lo w0 a ha hb f (by
    have ih := isTrue_calls lo w0 a ha hb n
    cases f with
    | tru => exact decide_tru lo w0 a hb
    | fls => exact decide_fls lo w0 a hb
    | pr v => exact decide_pr lo w0 a hb ha v
    | eq v u => exact decide_eq lo w0 a hb v u
    | rel v u => exact decide_rel lo w0 a hb ha v u
    | neg p => exact decide_neg lo w0 a hb p (ih p (by simp [Fm.size] at h; omega))
    | con p q => exact decide_con lo w0 a hb p q (ih p (by simp [Fm.size] at h; omega)) (ih q (by simp [Fm.size] at h; omega))
    | dis p q => exact decide_dis lo w0 a hb p q (ih p (by simp [Fm.size] at h; omega)) (ih q (by simp [Fm.size] at h; omega))
    | qu k v p =>
      have ihp := ih p (by simp [Fm.size] at h; omega)
      rcases fin4 v with rfl | rfl | rfl | rfl
      · exact decide_qu0 lo w0 a hb ha k p ihp
      · exact decide_qu1 lo w0 a hb ha k p ihp
      · exact decide_qu2 lo w0 a hb ha k p ihp
      · exact decide_qu3 lo w0 a hb ha k p ihp)

end Go.Proofs.YtpaleogkgfclnaaDoor

namespace Go.Proofs.YtpaleogkgfclnaaDoor
open Go.RowKit
open Pl
set_option linter.unusedSimpArgs false
set_option linter.unusedVariables false

theorem below_drewN' {B : Nat} {a w : World} (h : Below B a w) (n : Nat) : Below B a (w.drewN n) := ⟨h.os, h.tape, h.output, h.size, h.block⟩

/-- an address at which the numbers lie -/
def LRow (w : World) (A : Option Addr) (zs : List Int) : Prop := 0 < zs.length → ∃ g, A = some ⟨g, 0, none⟩ ∧ ∀ i, i < zs.length → w.cell? ⟨g, i, none⟩ = some (.int .i64 (zs.getD i 0))

theorem LRow.call {w w' : World} {A : Option Addr} {zs : List Int} (h : LRow w A zs) (hb : Below w.heap.size w w') : LRow w' A zs := fun hn => by
  obtain ⟨g, rfl, hc⟩ := h hn
  exact ⟨g, rfl, fun i hi => (hb.cell (World.block_lt_of_cell? w _ (hc i hi))).trans (hc i hi)⟩
theorem LRow.below {w w' : World} {A : Option Addr} {zs : List Int} {B : Nat} (h : LRow w A zs) (hB : ∀ g, A = some ⟨g, 0, none⟩ → g < B) (hb : Below B w w') : LRow w' A zs := fun hn => by
  obtain ⟨g, rfl, hc⟩ := h hn
  exact ⟨g, rfl, fun i hi => (hb.cell (p := ⟨g, i, none⟩) (hB g rfl)).trans (hc i hi)⟩
theorem LRow.drew {w : World} {A : Option Addr} {zs : List Int} (h : LRow w A zs) : LRow w.drew A zs := h
theorem LRow.alloc {w : World} {A : Option Addr} {zs : List Int} (h : LRow w A zs) (o : Obj) : LRow (w.alloc o) A zs := h.call ((Below.refl _ _).alloc (Nat.le_refl _) _)
theorem LRow.take {w : World} {A : Option Addr} {zs : List Int} (h : LRow w A zs) (k : Nat) : LRow w A (zs.take k) := fun hn => by
  rw [List.length_take] at hn
  obtain ⟨g, rfl, hc⟩ := h (by omega)
  refine ⟨g, rfl, fun i hi => ?_⟩
  rw [List.length_take] at hi
  rw [hc i (by omega)]
  simp [List.getD, List.getElem?_take, show i < k by omega]

theorem getD_mem {zs : List Int} {k : Nat} (h : k < zs.length) : zs.getD k 0 ∈ zs := by
  simp only [List.getD_eq_getElem?_getD, List.getElem?_eq_getElem h, Option.getD_some]
  exact List.getElem_mem h
theorem mem_getD {zs : List Int} {x : Int} (h : x ∈ zs) : ∃ k, k < zs.length ∧ zs.getD k 0 = x := by
  obtain ⟨k, hk, rfl⟩ := List.getElem_of_mem h
  exact ⟨k, hk, by simp [List.getD, hk]⟩

/-- a list as a row of the call's own -/
def intsV (zs : List Int) : List Value := zs.map (Value.int .i64)

theorem LRow_of {w : World} {base : Nat} {A : Option Addr} {n cap : Nat} {zs : List Int} (h : w.ownsRow base 3 1 (.slice A n cap) n (intsV zs)) : LRow w A zs := by
  intro hn
  have hl := h.1
  have hzl : zs.length = n := by simpa [intsV] using hl
  obtain ⟨g, hA⟩ : ∃ g, A = some ⟨g, 0, none⟩ := by
    rcases h.2 with ⟨_, h0⟩ | ⟨g, c, cur, hv, _⟩
    · omega
    · exact ⟨g, by injection hv⟩
  subst hA
  refine ⟨g, rfl, fun i hi => ?_⟩
  have := h.cellAt i (by omega)
  rw [this]
  simp [intsV, List.getD, hi]

end Go.Proofs.YtpaleogkgfclnaaDoor

namespace Go.Proofs.YtpaleogkgfclnaaDoor
open Go.RowKit
open Pl
set_option linter.unusedSimpArgs false
set_option linter.unusedVariables false

/-- a structure and whether there is one -/
def resV : Option St → Value
  | some a => .tuple #[stA a, .bool true]
  | none => .tuple #[stV 0 (bs []) (bs []), .bool false]

def turnO (i : Int) (s r : ByteArray) : Option St := if okB i s r then some (ofSt i s r).turn else none

theorem box_load {w : World} {g : Nat} {a b c : Value} {t : TypeId} (h : Bx w g t #[a, b, c]) : w.cell? ⟨g, 0, none⟩ = some a ∧ w.cell? ⟨g, 1, none⟩ = some b ∧ w.cell? ⟨g, 2, none⟩ = some c :=
  ⟨h.cell 0, h.cell 1, h.cell 2⟩

/-- the bits of a structure that is made, as lists -/
theorem mkSt_set (n : Nat) (f : Nat → Bool) (g : Nat → Nat → Bool) : (mkSt n f g).set = setTo f n := rfl
theorem mkSt_rel (n : Nat) (f : Nat → Bool) (g : Nat → Nat → Bool) : (mkSt n f g).rel = relTo n g n := rfl
theorem setTo_self {a : St} (ha : a.ok) : setTo a.inS a.n = a.set := by rw [← mkSt_set a.n a.inS a.inR, mkSt_self ha]

theorem enter_inSet : ∀ (args : Array Value) (w : World), (callFunc 71 args).run Tryd.prog w = .ok (.enter 71 args) w := enter_of Tryd.func71 (by kernel_rfl) (by kernel_rfl)

end Go.Proofs.YtpaleogkgfclnaaDoor

namespace Go.Proofs.YtpaleogkgfclnaaDoor
open Go.RowKit
open Pl
set_option linter.unusedSimpArgs false
set_option linter.unusedVariables false

theorem notEl_calls (i x : Int) (s r : ByteArray) (bb : Nat) (w : World) (hb : Bx w bb 27 #[.int .i64 i, .string s, .string r]) :
    Calls Tryd.prog 84 #[.int .i64 x, .pointer (some ⟨bb, 0, none⟩)] w fun e w' => e = .returned (.bool (!elB i x)) ∧ Below w.heap.size w w' := by
  obtain ⟨k0, k1, k2⟩ := box_load hb
  clear hb
  unfold elB
  by_cases h0 : 0 ≤ x
  · have d0 : decide (x < 0) = false := decide_eq_false (by omega)
    rw [decide_eq_true h0]
    have hv : (!(true && decide (x < i))) = decide (i ≤ x) := by
      rw [Bool.true_and, ← decide_not, decide_eq_decide]; omega
    rw [hv]
    clear hv
    go_enter Tryd.func84, Tryd.ntmps84
    go_wp2_with fail
    all_goals
      go_ret
      exact ⟨rfl, Below.refl _ _⟩
  · have d0 : decide (x < 0) = true := decide_eq_true (by omega)
    rw [decide_eq_false h0]
    go_enter Tryd.func84, Tryd.ntmps84
    go_wp2_with fail
    all_goals
      go_ret
      exact ⟨rfl, Below.refl _ _⟩

set_option maxHeartbeats 400000 in
theorem IndexFunc_calls (A : Option Addr) (zs : List Int) (cap : Nat) (p : Int → Bool) (F : FuncId) (fF cF : Array Value) (w : World) (hn : zs.length ≤ 1048576) (hA : LRow w A zs)
    (eF : ∀ (args : Array Value) (W : World), (callFunc F args).run Tryd.prog W = .ok (.enter F args) W)
    (hF : ∀ (x : Int) (W : World), x ∈ zs → Below w.heap.size w W → Calls Tryd.prog F (fF.push (.int .i64 x) ++ cF) W fun e W' => e = .returned (.bool (p x)) ∧ Below W.heap.size W W') :
    Calls Tryd.prog 102 #[.slice A zs.length cap, .func (.func F) fF cF] w fun e w' => (∃ m : Int, e = .returned (.int .i64 m) ∧ (0 ≤ m ↔ zs.any p = true)) ∧ Below w.heap.size w w' := by
  have HA := Lib.hid hA
  have HF := Lib.hid hF
  clear hA hF
  go_enter Tryd.func102, Tryd.ntmps102
  go_wp2_with fail
  go_loopg [8] zs.length (fun c i wr => ∃ k : Nat, k + c = zs.length ∧ i = .int .i64 k ∧ (zs.take k).any p = false ∧ Below w.heap.size w wr)
  case atStart => exact ⟨0, by omega, rfl, rfl, Below.refl _ _⟩
  case round =>
    obtain ⟨k, hk, rfl, hno, hbr⟩ := hrel
    have Hno := Lib.hid hno
    have Hbr := Lib.hid hbr
    clear hno hbr
    by_cases hlt : k < zs.length
    · obtain ⟨g, rfl, hc⟩ := (HA.out.call Hbr.out) (by omega)
      have hck := hc k hlt
      have hmem := getD_mem hlt
      have htk : (zs.take (k + 1)).any p = ((zs.take k).any p || p (zs.getD k 0)) := by
        rw [List.take_succ_eq_append_getElem hlt, List.any_append]
        simp [List.getD, hlt]
      obtain ⟨z, hz⟩ : ∃ z, z = zs.getD k 0 := ⟨_, rfl⟩
      rw [← hz] at hck hmem htk
      have hcall := HF.out z wr hmem Hbr.out
      clear hc hz
      cases hp : p z with
      | true =>
        rw [hp] at hcall
        have hany : zs.any p = true := List.any_eq_true.2 ⟨z, hmem, hp⟩
        have Hany := Lib.hid hany
        have Hcall := Lib.hid hcall
        clear hcall hmem htk hp hany
        go_wp2_with fail
        refine (Hcall.out).mono ?_
        rintro e w2 ⟨rfl, hb2⟩
        go_wp2_with fail
        go_ret
        exact ⟨⟨_, rfl, ⟨fun _ => Hany.out, fun _ => by omega⟩⟩, Hbr.out.trans (hb2.mono Hbr.out.size)⟩
      | false =>
        rw [hp] at hcall htk
        have Hcall := Lib.hid hcall
        have Htk := Lib.hid htk
        clear hcall hmem htk hp
        go_wp2_with fail
        refine (Hcall.out).mono ?_
        rintro e w2 ⟨rfl, hb2⟩
        have Hb2 := Lib.hid hb2
        clear hb2
        go_wp2_with fail
        go_roundg (gk - 1)
        case rel => exact ⟨k + 1, by omega, by go_num, by rw [Htk.out, Hno.out]; rfl, Hbr.out.trans (Hb2.out.mono Hbr.out.size)⟩
        case measure => omega
    · have hall : zs.any p = false := by
        have := Hno.out
        rwa [List.take_of_length_le (by omega)] at this
      have Hall := Lib.hid hall
      clear hall
      go_wp2_with fail
      go_ret
      exact ⟨⟨_, rfl, ⟨fun h => absurd h (by decide), fun h => by rw [Hall.out] at h; cases h⟩⟩, Hbr.out⟩

theorem ContainsFunc_calls (A : Option Addr) (zs : List Int) (cap : Nat) (p : Int → Bool) (F : FuncId) (fF cF : Array Value) (w : World) (hn : zs.length ≤ 1048576) (hA : LRow w A zs)
    (eF : ∀ (args : Array Value) (W : World), (callFunc F args).run Tryd.prog W = .ok (.enter F args) W)
    (hF : ∀ (x : Int) (W : World), x ∈ zs → Below w.heap.size w W → Calls Tryd.prog F (fF.push (.int .i64 x) ++ cF) W fun e W' => e = .returned (.bool (p x)) ∧ Below W.heap.size W W') :
    Calls Tryd.prog 83 #[.slice A zs.length cap, .func (.func F) fF cF] w fun e w' => e = .returned (.bool (zs.any p)) ∧ Below w.heap.size w w' := by
  have hc := IndexFunc_calls A zs cap p F fF cF w hn hA eF hF
  have Hc := Lib.hid hc
  clear hc hA hF
  go_enter Tryd.func83, Tryd.ntmps83
  go_wp2_with fail
  refine (Hc.out).mono ?_
  rintro e w' ⟨⟨m, rfl, hm⟩, hb⟩
  have Hm := Lib.hid hm
  have Hb := Lib.hid hb
  clear hm hb
  go_wp2_with fail
  go_ret
  refine ⟨?_, Hb.out⟩
  show Ending.returned (.bool (decide (0 ≤ m))) = _
  congr 2
  rw [Bool.eq_iff_iff, decide_eq_true_eq]
  exact Hm.out

def elAll (i : Int) (zs : List Int) : Bool := zs.all (elB i)
def nodB (zs : List Int) : Bool := decide zs.Nodup

theorem enter_notEl : ∀ (args : Array Value) (w : World), (callFunc 84 args).run Tryd.prog w = .ok (.enter 84 args) w := enter_of Tryd.func84 (by kernel_rfl) (by kernel_rfl)

theorem areElements_calls (i : Int) (s r : ByteArray) (A : Option Addr) (zs : List Int) (cap : Nat) (w : World) (hn : zs.length ≤ 1048576) (hA : LRow w A zs) :
    Calls Tryd.prog 57 #[stV i s r, .slice A zs.length cap] w fun e w' => e = .returned (.bool (elAll i zs)) ∧ Below w.heap.size w w' := by
  have hx := Bx.new w 27 #[.int .i64 i, .string s, .string r]
  have hc := ContainsFunc_calls A zs cap (fun x => !elB i x) 84 #[] #[.pointer (some ⟨w.heap.size, 0, none⟩)] (w.alloc (.cells #[.int .i64 i, .string s, .string r] 27)) hn (hA.alloc _) enter_notEl
    (fun x W _ hW => notEl_calls i x s r w.heap.size W (hx.call hW))
  have hv : (!(zs.any fun x => !elB i x)) = elAll i zs := by
    unfold elAll
    rw [Bool.eq_iff_iff]
    simp [List.any_eq_true, List.all_eq_true]
  obtain ⟨b, hb⟩ : ∃ b, b = zs.any fun x => !elB i x := ⟨_, rfl⟩
  rw [← hb] at hc hv
  rw [← hv]
  have Hc := Lib.hid hc
  clear hc hA hx hv hb
  go_enter Tryd.func57, Tryd.ntmps57
  go_wp2_with fail
  refine (Hc.out).mono ?_
  rintro e w' ⟨rfl, hb⟩
  have HB := Lib.hid (box_next (box_refl w _) hb)
  clear hb
  go_wp2_with fail
  go_ret
  exact ⟨rfl, box_down HB.out⟩

/-- numbers that are elements, as natural numbers -/
def natsI (ns : List Nat) : List Int := ns.map fun x : Nat => (x : Int)
theorem natsI_len (ns : List Nat) : (natsI ns).length = ns.length := by simp [natsI]
theorem natsI_get (ns : List Nat) (k : Nat) : (natsI ns).getD k 0 = ((ns.getD k 0 : Nat) : Int) := by
  unfold natsI
  simp only [List.getD_eq_getElem?_getD, List.getElem?_map]
  cases ns[k]? <;> rfl

theorem LRow.nats {w : World} {A : Option Addr} {ns : List Nat} (h : LRow w A (natsI ns)) {k : Nat} (hk : k < ns.length) : ∃ g, A = some ⟨g, 0, none⟩ ∧ w.cell? ⟨g, k, none⟩ = some (.int .i64 ((ns.getD k 0 : Nat) : Int)) := by
  obtain ⟨g, rfl, hc⟩ := h (by rw [natsI_len]; omega)
  exact ⟨g, rfl, by rw [hc k (by rw [natsI_len]; exact hk), natsI_get]⟩

theorem getD_lt {n : Nat} {ns : List Nat} (h : ∀ x ∈ ns, x < n) {k : Nat} (hk : k < ns.length) : ns.getD k 0 < n := h _ (by
  simp only [List.getD_eq_getElem?_getD, List.getElem?_eq_getElem hk, Option.getD_some]
  exact List.getElem_mem hk)

set_option maxHeartbeats 1000000 in
theorem part1_calls (a : St) (ha : a.ok) (ns : List Nat) (hns : ∀ x ∈ ns, x < a.n) (hl : ns.length ≤ 8) (A : Option Addr) (cap : Nat) (x : Nat) (hx : x < ns.length) (ba bl : Nat) (w : World)
    (hb : Bx w ba 27 #[.int .i64 a.n, .string (bs a.set), .string (bs a.rel)]) (hbl : Bx w bl 30 #[.slice A ns.length cap]) (hA : LRow w A (natsI ns)) :
    Calls Tryd.prog 70 #[.int .i64 x, .pointer (some ⟨ba, 0, none⟩), .pointer (some ⟨bl, 0, none⟩)] w fun e w' => e = .returned (.bool (a.inS (ns.getD x 0))) ∧ Below w.heap.size w w' := by
  obtain ⟨k0, k1, k2⟩ := box_load hb
  have l0 := hbl.cell 0
  simp at l0
  obtain ⟨g, rfl, c0⟩ := hA.nats hx
  have hlt := getD_lt hns hx
  have hcall := fun W => inSet_calls a ha (ns.getD x 0) hlt W
  generalize ns.getD x 0 = y at c0 hlt hcall
  generalize ns.length = n at l0 hx hl
  have Hcall := Lib.hid hcall
  have i1 : (0 : Int) ≤ (x : Int) := by omega
  have i2 : (x : Int) < (n : Int) := by omega
  clear hb hbl hA hcall
  go_enter Tryd.func70, Tryd.ntmps70
  go_wp2_with fail
  go_region_held3 (fun w' => w'.cell? ⟨ba, 0, none⟩ = some (.int .i64 a.n) ∧ w'.cell? ⟨ba, 1, none⟩ = some (.string (bs a.set)) ∧ w'.cell? ⟨ba, 2, none⟩ = some (.string (bs a.rel)) ∧ w'.cell? ⟨bl, 0, none⟩ = some (.slice (some ⟨g, 0, none⟩) n cap) ∧ w'.cell? ⟨g, x, none⟩ = some (.int .i64 y)) (first | go_keep | exact ⟨m0, m1, m2, m3, m4⟩) (first | (go_at_call 71; (with_reducible refine (Hcall.out _).mono ?_); rintro e w2 ⟨rfl, hz⟩; have m0 := (hz.cell (World.block_lt_of_cell? _ _ k0)).trans k0; have m1 := (hz.cell (World.block_lt_of_cell? _ _ k1)).trans k1; have m2 := (hz.cell (World.block_lt_of_cell? _ _ k2)).trans k2; have m3 := (hz.cell (World.block_lt_of_cell? _ _ l0)).trans l0; have m4 := (hz.cell (World.block_lt_of_cell? _ _ c0)).trans c0; have Hz := Lib.hid hz; clear hz))
  all_goals
    go_wp2_with fail
    go_ret
    exact ⟨rfl, (Below.refl w.heap.size w).drew.trans (Hz.out.mono (Nat.le_refl _))⟩

set_option maxHeartbeats 1000000 in
theorem part2_calls (a : St) (ha : a.ok) (ns : List Nat) (hns : ∀ x ∈ ns, x < a.n) (hl : ns.length ≤ 8) (A : Option Addr) (cap : Nat) (x x2 : Nat) (hx : x < ns.length) (hx2 : x2 < ns.length) (ba bl : Nat) (w : World)
    (hb : Bx w ba 27 #[.int .i64 a.n, .string (bs a.set), .string (bs a.rel)]) (hbl : Bx w bl 30 #[.slice A ns.length cap]) (hA : LRow w A (natsI ns)) :
    Calls Tryd.prog 72 #[.int .i64 x, .int .i64 x2, .pointer (some ⟨ba, 0, none⟩), .pointer (some ⟨bl, 0, none⟩)] w fun e w' => e = .returned (.bool (a.inR (ns.getD x 0) (ns.getD x2 0))) ∧ Below w.heap.size w w' := by
  obtain ⟨k0, k1, k2⟩ := box_load hb
  have l0 := hbl.cell 0
  simp at l0
  obtain ⟨g, rfl, c0⟩ := hA.nats hx
  obtain ⟨g', hg', c1⟩ := hA.nats hx2
  obtain rfl : g = g' := by injection hg' with h; injection h
  have hlt := getD_lt hns hx
  have hlt2 := getD_lt hns hx2
  have hcall := fun W => inRel_calls a ha (ns.getD x 0) (ns.getD x2 0) hlt hlt2 W
  generalize ns.getD x 0 = y at c0 hlt hcall
  generalize ns.getD x2 0 = y2 at c1 hlt2 hcall
  generalize ns.length = n at l0 hx hx2 hl
  have Hcall := Lib.hid hcall
  have i1 : (0 : Int) ≤ (x : Int) := by omega
  have i2 : (x : Int) < (n : Int) := by omega
  have i3 : (0 : Int) ≤ (x2 : Int) := by omega
  have i4 : (x2 : Int) < (n : Int) := by omega
  clear hb hbl hA hcall hg'
  go_enter Tryd.func72, Tryd.ntmps72
  go_wp2_with fail
  go_region_held3 (fun w' => w'.cell? ⟨ba, 0, none⟩ = some (.int .i64 a.n) ∧ w'.cell? ⟨ba, 1, none⟩ = some (.string (bs a.set)) ∧ w'.cell? ⟨ba, 2, none⟩ = some (.string (bs a.rel)) ∧ w'.cell? ⟨bl, 0, none⟩ = some (.slice (some ⟨g, 0, none⟩) n cap) ∧ w'.cell? ⟨g, x, none⟩ = some (.int .i64 y) ∧ w'.cell? ⟨g, x2, none⟩ = some (.int .i64 y2)) (first | go_keep | exact ⟨m0, m1, m2, m3, m4, m5⟩) (first | (go_at_call 73; (with_reducible refine (Hcall.out _).mono ?_); rintro e w2 ⟨rfl, hz⟩; have m0 := (hz.cell (World.block_lt_of_cell? _ _ k0)).trans k0; have m1 := (hz.cell (World.block_lt_of_cell? _ _ k1)).trans k1; have m2 := (hz.cell (World.block_lt_of_cell? _ _ k2)).trans k2; have m3 := (hz.cell (World.block_lt_of_cell? _ _ l0)).trans l0; have m4 := (hz.cell (World.block_lt_of_cell? _ _ c0)).trans c0; have m5 := (hz.cell (World.block_lt_of_cell? _ _ c1)).trans c1; have Hz := Lib.hid hz; clear hz))
  all_goals
    go_wp2_with fail
    go_ret
    exact ⟨rfl, (Below.refl w.heap.size w).drew.trans (Hz.out.mono (Nat.le_refl _))⟩

theorem enter_part1 : ∀ (args : Array Value) (w : World), (callFunc 70 args).run Tryd.prog w = .ok (.enter 70 args) w := enter_of Tryd.func70 (by kernel_rfl) (by kernel_rfl)
theorem enter_part2 : ∀ (args : Array Value) (w : World), (callFunc 72 args).run Tryd.prog w = .ok (.enter 72 args) w := enter_of Tryd.func72 (by kernel_rfl) (by kernel_rfl)

set_option maxHeartbeats 1000000 in
theorem partOf_calls (a : St) (ha : a.ok) (ns : List Nat) (hns : ∀ x ∈ ns, x < a.n) (hl : ns.length ≤ 8) (A : Option Addr) (cap : Nat) (w : World) (hA : LRow w A (natsI ns)) :
    Calls Tryd.prog 47 #[stA a, .slice A ns.length cap] w fun e w' => e = .returned (stA (a.part ns)) ∧ Below w.heap.size w w' := by
  have HA := Lib.hid hA
  clear hA
  have hmk : ∀ W, Below (w.heap.size + 2) ((w.alloc (.cells #[.int .i64 a.n, .string (bs a.set), .string (bs a.rel)] 27)).alloc (.cells #[.slice A ns.length cap] 30)) W → Calls Tryd.prog 69 #[.int .i64 ns.length, .func (.func 70) #[] #[.pointer (some ⟨w.heap.size, 0, none⟩), .pointer (some ⟨w.heap.size + 1, 0, none⟩)], .func (.func 72) #[] #[.pointer (some ⟨w.heap.size, 0, none⟩), .pointer (some ⟨w.heap.size + 1, 0, none⟩)]] W fun e w' => e = .returned (stA (a.part ns)) ∧ Below W.heap.size W w' := fun W hW => by
    have x0 := ((Bx.new w 27 #[.int .i64 a.n, .string (bs a.set), .string (bs a.rel)]).alloc (.cells #[.slice A ns.length cap] 30)).below hW (by omega)
    have x1 := (bx_two w (.cells #[.int .i64 a.n, .string (bs a.set), .string (bs a.rel)] 27) #[.slice A ns.length cap] (t := 30)).below hW (by omega)
    have hA1 : LRow W A (natsI ns) := ((HA.out.alloc _).alloc _).call (hW.mono (by simp))
    exact makeStructure_calls ns.length hl (fun x => a.inS (ns.getD x 0)) (fun x y => a.inR (ns.getD x 0) (ns.getD y 0)) 70 72 #[] #[.pointer (some ⟨w.heap.size, 0, none⟩), .pointer (some ⟨w.heap.size + 1, 0, none⟩)] #[] #[.pointer (some ⟨w.heap.size, 0, none⟩), .pointer (some ⟨w.heap.size + 1, 0, none⟩)] W enter_part1 enter_part2
      (fun x V hx hV => part1_calls a ha ns hns hl A cap x hx _ _ V (x0.call hV) (x1.call hV) (hA1.call hV))
      (fun x y V hx hy hV => part2_calls a ha ns hns hl A cap x y hx hy _ _ V (x0.call hV) (x1.call hV) (hA1.call hV))
  have Hmk := Lib.hid hmk
  clear hmk
  have hn8 : (ns.length : Int) ≤ 8 := by omega
  go_enter Tryd.func47, Tryd.ntmps47
  go_wp2_with fail
  refine (Hmk.out _ ((Below.refl _ _).alloc (by simp) _)).mono ?_
  rintro e w2 ⟨rfl, hz⟩
  have xr : Bx w2 (w.heap.size + 2) 27 #[.int .i64 0, .string (bs []), .string (bs [])] := by
    have h := Bx.new ((w.alloc (.cells #[.int .i64 a.n, .string (bs a.set), .string (bs a.rel)] 27)).alloc (.cells #[.slice A ns.length cap] 30)) 27 #[.int .i64 0, .string (bs []), .string (bs [])]
    rw [World.size_alloc, World.size_alloc] at h
    exact h.call hz
  have HB := Lib.hid ((((((Below.refl w.heap.size w).alloc (Nat.le_refl _) (.cells #[.int .i64 a.n, .string (bs a.set), .string (bs a.rel)] 27)).alloc (by simp) (.cells #[.slice A ns.length cap] 30)).alloc (by simp; omega) (.cells #[.int .i64 0, .string (bs []), .string (bs [])] 27)).trans (hz.mono (by simp; omega))))
  obtain ⟨d0, d1, d2⟩ := box_load xr
  have f0 := xr.free 0
  have f1 := xr.free 1
  have f2 := xr.free 2
  have Xr := Lib.hid xr
  clear hz xr
  go_wp2_with fail
  have y1 := ((Xr.out.set 0 (.int .i64 (a.part ns).n)).set 1 (.string (bs (a.part ns).set))).set 2 (.string (bs (a.part ns).rel))
  obtain ⟨q0, q1, q2⟩ := box_load (a := .int .i64 (a.part ns).n) (b := .string (bs (a.part ns).set)) (c := .string (bs (a.part ns).rel)) y1
  refine bodyPost_ret (v := stA (a.part ns)) ?_ rfl ⟨rfl, ?_⟩
  · simp [results, Tryd.results47, go_sem, q0, q1, q2]
  · exact ((HB.out.setCell (by simp; omega) _).setCell (by simp; omega) _).setCell (by simp; omega) _

end Go.Proofs.YtpaleogkgfclnaaDoor

namespace Go.Proofs.YtpaleogkgfclnaaDoor
open Go.RowKit
open Pl
set_option linter.unusedSimpArgs false
set_option linter.unusedVariables false
attribute [local go_sem ↓] Go.wp_at_zero Go.wp_at_succ

/-- two boxes behind a call -/
def Two (w W : World) (ca cb : Array Value) : Prop := Bx W w.heap.size 27 ca ∧ Bx W (w.heap.size + 1) 27 cb
theorem Two.call {w W W' : World} {ca cb : Array Value} (h : Two w W ca cb) (hb : Below W.heap.size W W') : Two w W' ca cb := ⟨h.1.call hb, h.2.call hb⟩
theorem Two.drew {w W : World} {ca cb : Array Value} (h : Two w W ca cb) : Two w W.drew ca cb := h
theorem Two.six {w W : World} {a b c d e f : Value} (h : Two w W #[a, b, c] #[d, e, f]) : W.cell? ⟨w.heap.size, 0, none⟩ = some a ∧ W.cell? ⟨w.heap.size, 1, none⟩ = some b ∧ W.cell? ⟨w.heap.size, 2, none⟩ = some c ∧ W.cell? ⟨w.heap.size + 1, 0, none⟩ = some d ∧ W.cell? ⟨w.heap.size + 1, 1, none⟩ = some e ∧ W.cell? ⟨w.heap.size + 1, 2, none⟩ = some f :=
  ⟨h.1.cell 0, h.1.cell 1, h.1.cell 2, h.2.cell 0, h.2.cell 1, h.2.cell 2⟩

/-- what the k-th element before says -/
def fitAt (a b : St) (o : List Nat) (x k : Nat) : Bool := a.inR x (o.getD k 0) == b.inR o.length k && a.inR (o.getD k 0) x == b.inR k o.length

theorem fitsB_eq (a b : St) (o : List Nat) (x : Nat) : fitsB a b o x = (a.inS x == b.inS o.length && a.inR x x == b.inR o.length o.length && (List.range o.length).all (fitAt a b o x)) := rfl

theorem all_upto {p : Nat → Bool} {n : Nat} (h : ∀ k, k < n → p k = true) : (List.range n).all p = true := List.all_eq_true.2 fun k hk => h k (List.mem_range.1 hk)
theorem all_not {p : Nat → Bool} {n k : Nat} (hk : k < n) (h : p k = false) : (List.range n).all p = false := by
  rw [Bool.eq_false_iff]; intro e
  have := List.all_eq_true.1 e k (List.mem_range.2 hk)
  rw [h] at this; cases this

end Go.Proofs.YtpaleogkgfclnaaDoor

namespace Go.Proofs.YtpaleogkgfclnaaDoor
open Go.RowKit
open Pl
set_option linter.unusedSimpArgs false
set_option linter.unusedVariables false

/-- what lies from a block on is as it was -/
structure Kp (B : Nat) (W W' : World) : Prop where
  size : W.heap.size ≤ W'.heap.size
  block : ∀ k, B ≤ k → k < W.heap.size → W'.heap[k]? = W.heap[k]?

theorem Kp.of_below {B : Nat} {W W' : World} (h : Below W.heap.size W W') : Kp B W W' := ⟨h.size, fun k _ hk => h.block k hk⟩
theorem Bx.kp {w w' : World} {g B : Nat} {t : TypeId} {cs : Array Value} (h : Bx w g t cs) (hk : Kp B w w') (hg : B ≤ g) : Bx w' g t cs := (hk.block g hg h.lt).trans h
theorem Bx.grown {w w' : World} {g : Nat} {t : TypeId} {cs : Array Value} {row : Option Nat} (h : Bx w g t cs) (hg : w.grownBy w' row) (hne : some g ≠ row) : Bx w' g t cs := (hg.block g h.lt hne).trans h
theorem own_kp {W W' : World} {B base n : Nat} {e : TypeId} {v : Value} {xs : List Value} (h : W.ownsRow base e 1 v n xs) (hk : Kp B W W') (hB : B ≤ base) : W'.ownsRow base e 1 v n xs := by
  obtain ⟨h1, h2⟩ := h
  refine ⟨h1, ?_⟩
  rcases h2 with h2 | ⟨g, cap, cur, hv, hg, hh, r⟩
  · exact .inl h2
  · exact .inr ⟨g, cap, cur, hv, hg, (hk.block g (by omega) (Array.getElem?_eq_some_iff.1 hh).1).trans hh, r⟩
theorem own_far {W : World} {base n : Nat} {e : TypeId} {v : Value} {xs : List Value} (h : W.ownsRow base e 1 v n xs) {p : Addr} (hp : ∀ g, v.ownBlock = some g → g ≠ p.block) (u : Value) : (W.setCell p u).ownsRow base e 1 v n xs := by
  obtain ⟨h1, h2⟩ := h
  refine ⟨h1, ?_⟩
  rcases h2 with h2 | ⟨g, cap, cur, hv, hg, hh, r⟩
  · exact .inl h2
  · exact .inr ⟨g, cap, cur, hv, hg, (Below.heap_setCell W p u g (hp g (by rw [hv]; rfl))).trans hh, r⟩
theorem own_open {W : World} {base : Nat} {v : Value} {o : List Nat} (h : W.ownsRow base 3 1 v o.length (intsV (natsI o))) : ∃ A cap, v = .slice A o.length cap ∧ o.length ≤ cap ∧ LRow W A (natsI o) := by
  have h0 := h
  rcases h.2 with ⟨rfl, hn⟩ | ⟨g, cap, cur, rfl, _, _, hc, _⟩
  · exact ⟨none, 0, by rw [hn], by omega, fun hl => by rw [natsI_len] at hl; omega⟩
  · exact ⟨some ⟨g, 0, none⟩, cap, rfl, hc, LRow_of h0⟩
theorem own_back {W : World} {base : Nat} {v : Value} {o : List Nat} {x : Nat} (h : W.ownsRow base 3 1 v (o ++ [x]).length (intsV (natsI (o ++ [x])))) :
    ∃ g cap, v = .slice (some ⟨g, 0, none⟩) (o.length + 1) cap ∧ o.length + 1 ≤ cap ∧ W.ownsRow base 3 1 (.slice (some ⟨g, 0, none⟩) o.length cap) o.length (intsV (natsI o)) := by
  obtain ⟨h1, ⟨_, h0⟩ | ⟨g, cap, cur, hv, hg, hh, hn, hc, hs, ht⟩⟩ := h
  · simp at h0
  · rw [List.length_append, List.length_singleton] at hn hv
    refine ⟨g, cap, hv, hn, by simp [intsV, natsI], .inr ⟨g, cap, cur, rfl, hg, hh, by omega, hc, hs, ?_⟩⟩
    have ht2 := congrArg (List.take o.length) ht
    simp only [List.take_take, List.length_append, List.length_singleton, Nat.mul_one, intsV, natsI, List.map_append] at ht2 ⊢
    rw [Nat.min_eq_left (by omega)] at ht2
    rw [ht2, List.take_left' (by simp)]

theorem own_form {w : World} {base n : Nat} {e : TypeId} {v : Value} {xs : List Value} (h : w.ownsRow base e 1 v (n + 1) xs) : ∃ g cap, v = .slice (some ⟨g, 0, none⟩) (n + 1) cap := by
  obtain ⟨_, ⟨_, h0⟩ | ⟨g, cap, _, hv, _⟩⟩ := h
  · cases h0
  · exact ⟨g, cap, hv⟩

/-- the order so far -/
def eRow (W : World) (B : Nat) (o : List Nat) : Prop :=
  ∃ v, Bx W (B + 4) 30 #[v] ∧ W.ownsRow (B + 3) 3 1 v o.length (intsV (natsI o)) ∧ ∀ k, v.ownBlock = some k → k ≠ B + 4 ∧ k ≠ B + 5

theorem eRow.kp {W W' : World} {B : Nat} {o : List Nat} (h : eRow W B o) (hk : Kp B W W') : eRow W' B o := by
  obtain ⟨v, h1, h2, h3⟩ := h
  exact ⟨v, h1.kp hk (by omega), own_kp h2 hk (by omega), h3⟩
/-- all of them, or the first alone -/
def told (c : Bool) (L : List (List Nat)) : List (List Nat) := if c then L else L.take 1
/-- the orders whose next element is below a number -/
def upTo (a b : St) (m : Nat) (o : List Nat) (k : Nat) : List (List Nat) := (List.range k).flatMap fun x => if nextB a b o x then shapes a b m (o ++ [x]) else []
theorem upTo_zero (a b : St) (m : Nat) (o : List Nat) : upTo a b m o 0 = [] := rfl
theorem upTo_succ (a b : St) (m : Nat) (o : List Nat) (k : Nat) : upTo a b m o (k + 1) = upTo a b m o k ++ (if nextB a b o k then shapes a b m (o ++ [k]) else []) := by
  unfold upTo; rw [List.range_succ, List.flatMap_append]; simp
theorem shapes_upTo (a b : St) (m : Nat) (o : List Nat) : shapes a b (m + 1) o = upTo a b m o a.n := rfl
theorem upTo_more (a b : St) (m : Nat) (o : List Nat) (k : Nat) : ∀ d, ∃ R, upTo a b m o (k + d) = upTo a b m o k ++ R
  | 0 => ⟨[], by simp⟩
  | d + 1 => by
    obtain ⟨R, h⟩ := upTo_more a b m o k d
    exact ⟨R ++ _, by rw [← Nat.add_assoc, upTo_succ, h, List.append_assoc]⟩
/-- where the first is told, the others are not -/
theorem told_stop {a b : St} {m k : Nat} {o : List Nat} (hk : k < a.n) (hn : nextB a b o k = true) (h0 : upTo a b m o k = []) (hs : (shapes a b m (o ++ [k])).isEmpty = false) :
    (shapes a b (m + 1) o).isEmpty = false ∧ told false (shapes a b (m + 1) o) = told false (shapes a b m (o ++ [k])) := by
  obtain ⟨R, h⟩ := upTo_more a b m o (k + 1) (a.n - (k + 1))
  rw [show k + 1 + (a.n - (k + 1)) = a.n by omega, upTo_succ, h0, hn] at h
  rw [shapes_upTo, h]
  generalize shapes a b m (o ++ [k]) = L at *
  cases L with
  | nil => cases hs
  | cons x L => simp [told]

end Go.Proofs.YtpaleogkgfclnaaDoor
