/-
  Laws of the functions that the claim reaches, one after the other (packed by a program of the prover's: DecQu, Holds, Holds2, Val, Holds3, HAt, SHolds0, SHolds1, SHoldse, SHoldsr, SHolds2, SHoldsA, SHoldsS, SHoldsc2, SHoldsc3, SHoldsc4, SHolds, StV, SHAt). Conditions: texts below the reach.
-/
import Derived.Test.YtpaleogkgfclnaaDoorPs7
import Derived.Test.YtpaleogkgfclnaaDoorPs2
import Derived.Test.YtpaleogkgfclnaaDoorPs0
import Derived.Test.YtpaleogkgfclnaaDoorPs6
import Derived.Test.YtpaleogkgfclnaaDoorPs4
import Derived.Laws.CopyOwn
set_option linter.unusedSimpArgs false
set_option linter.unusedVariables false

namespace Go.Proofs.YtpaleogkgfclnaaDoor
open Go.RowKit
open Go.ChangeMaps
open Pl
set_option linter.unusedSimpArgs false
set_option linter.unusedVariables false

theorem var_one {lo : Nat} {w0 : World} {a : St} {hb : Nat} {W : World} (h : HoldW lo w0 a hb W) {f : Fm} {v : Fin 4} {nb : Nat} (ht : TreeAt lo w0 f nb) (hf : f.vars = [v]) :
    ∃ g cap, W.cell? ⟨nb, 1, none⟩ = some (.slice (some ⟨g, 0, none⟩) 1 cap) ∧ W.cell? ⟨g, 0, none⟩ = some (byteV (vb v)) := by
  obtain ⟨ks, vsv, psv, _, hc1, _, _, _, hrow, _⟩ := node_cells (h.tree ht)
  rw [hf] at hrow
  obtain ⟨g, cap, rfl, _, _, _, _, hc⟩ := row_open hrow (by simp)
  exact ⟨g, cap, hc1, by simpa using hc 0 (by simp)⟩

section
variable (lo : Nat) (w0 : World) (a : St) (hb : Nat)

set_option maxRecDepth 100000 in
set_option maxHeartbeats 8000000 in
theorem decide_qu0 (ha : a.ok) (q : Qn) (p : Fm) (ih : HoldsBy 85 lo w0 a hb p) : HoldsBy 103 lo w0 a hb (.qu q 0 p) := by
  intro nb e w ht he hw
  obtain ⟨E, hE⟩ : ∃ E, E = eN e := ⟨_, rfl⟩
  have hA : envA e = #[.int .i64 (E 0 : Nat), .int .i64 (E 1 : Nat), .int .i64 (E 2 : Nat), .int .i64 (E 3 : Nat)] := by rw [hE]; rfl
  rw [hA]
  have hV := (hw.alloc (.cells #[kidV nb] 52)).alloc (.cells #[.int .i64 (E 0 : Nat), .int .i64 (E 1 : Nat), .int .i64 (E 2 : Nat), .int .i64 (E 3 : Nat)] 106)
  have hD : DecB ((w.alloc (.cells #[kidV nb] 52)).alloc (.cells #[.int .i64 (E 0 : Nat), .int .i64 (E 1 : Nat), .int .i64 (E 2 : Nat), .int .i64 (E 3 : Nat)] 106)) w.heap.size nb E := ⟨(Bx.new w 52 #[kidV nb]).alloc _, bx_two w _ _⟩
  have HV := Lib.hid hV
  have HD := Lib.hid hD
  have HT := Lib.hid (hV.tree ht)
  have F1 := Lib.hid ((Fz.alloc (Nat.le_of_lt hw.cache.lt) (.cells #[kidV nb] 52)).trans (Fz.alloc (by have := hw.cache.lt; simp; omega) (.cells #[.int .i64 (E 0 : Nat), .int .i64 (E 1 : Nat), .int .i64 (E 2 : Nat), .int .i64 (E 3 : Nat)] 106)))
  obtain ⟨ks, vsv, psv, hc00, _⟩ := node_cells HT.out
  have hc0 : ((w.alloc (.cells #[kidV nb] 52)).alloc (.cells #[.int .i64 (E 0 : Nat), .int .i64 (E 1 : Nat), .int .i64 (E 2 : Nat), .int .i64 (E 3 : Nat)] 106)).cell? ⟨nb, 0, none⟩ = some (.int .u8 q.b.toNat) := hc00
  clear hc00
  have n0 := hD.node.cell 0
  simp only [List.getElem?_toArray, List.getElem?_cons_zero, List.getElem?_cons_succ] at n0
  have HE := Lib.hid hE
  have He := Lib.hid he
  have HTw := Lib.hid ht
  have hbl := hw.box.lt
  have hbl2 := hw.cache.lt
  clear hE hA hV hD ht he hw
  obtain ⟨o, ho⟩ : ∃ o : Int, o = (q.b.toNat : Int) := ⟨_, rfl⟩
  have hq : (o == 116) = false ∧ (o == 102) = false ∧ (o == 80) = false ∧ (o == 61) = false ∧ (o == 69) = false ∧ (o == 33) = false ∧ (o == 38) = false ∧ (o == 124) = false := by
    rw [ho]; cases q <;> decide
  obtain ⟨q1, q2, q3, q4, q5, q6, q7, q8⟩ := hq
  rw [← ho] at hc0
  have Ho := Lib.hid ho
  have h8 := ha.hi
  have h0 := HV.out.box.cell 0
  simp only [List.getElem?_toArray, List.getElem?_cons_zero, List.getElem?_cons_succ] at h0
  have Ih := Lib.hid ih
  clear ih ho
  go_enter Tryd.func103, Tryd.ntmps103
  go_wp2_with fail
  go_loopg [8, 107] a.n (fun c cn xi wr => ∃ x : Nat, x + c = a.n ∧ xi = .int .i64 (x : Nat) ∧ cn = .int .i64 (Pl.cnt x (fun y => p.holds a (upd e 0 y)) : Nat) ∧ HoldW lo w0 a hb wr ∧ Bx wr w.heap.size 52 #[kidV nb] ∧ (∃ E' : Nat → Nat, (∀ i, i ≠ 0 → E' i = E i) ∧ Bx wr (w.heap.size + 1) 106 #[.int .i64 (E' 0 : Nat), .int .i64 (E' 1 : Nat), .int .i64 (E' 2 : Nat), .int .i64 (E' 3 : Nat)]) ∧ Fz hb w wr)
  case atStart => exact ⟨0, by omega, rfl, rfl, HV.out, HD.out.node, ⟨E, fun _ _ => rfl, HD.out.vals⟩, F1.out⟩
  case round =>
    obtain ⟨x, hx, rfl, rfl, hH, hN, ⟨E', hE', hVl⟩, hf⟩ := hrel
    have HVl := Lib.hid hVl
    have HN := Lib.hid hN
    have HE' := Lib.hid hE'
    have hcn := cnt_le x (fun y => p.holds a (upd e 0 y))
    by_cases hlt : x < a.n
    · obtain ⟨gv, capv, y0, y10⟩ := var_one hH HTw.out (f := .qu q 0 p) rfl
      have y1 : wr.cell? ⟨gv, 0, none⟩ = some (.int .u8 97) := y10
      clear y10
      have H2 := Lib.hid (hH.set hVl (by omega) 0 (.int .i64 (x : Nat)))
      have FS := Lib.hid (hf.set (by omega) (by omega) (g := w.heap.size + 1) 0 (.int .i64 (x : Nat)))
      have XN0 := Lib.hid (show Bx (wr.setCell ⟨w.heap.size + 1, 0, none⟩ (.int .i64 (x : Nat))).drew w.heap.size 52 #[kidV nb] from (hN.far (by simp) _).drew)
      have XV0 := Lib.hid (show Bx (wr.setCell ⟨w.heap.size + 1, 0, none⟩ (.int .i64 (x : Nat))).drew (w.heap.size + 1) 106 #[.int .i64 (x : Nat), .int .i64 (E' 1 : Nat), .int .i64 (E' 2 : Nat), .int .i64 (E' 3 : Nat)] from (by have := (hVl.set 0 (.int .i64 (x : Nat))).drew; simpa using this))
      have n0w := hN.cell 0
      have fv := hVl.free 0
      have cv := hVl.cell 0
      simp only [List.getElem?_toArray, List.getElem?_cons_zero, List.getElem?_cons_succ] at n0w cv
      clear hH hN hVl hf hE'
      go_upto_region 24 with (fail)
      have n0 := XN0.out.cell 0
      have v0 := XV0.out.cell 0
      have v1 := XV0.out.cell 1
      have v2 := XV0.out.cell 2
      have v3 := XV0.out.cell 3
      simp only [List.getElem?_toArray, List.getElem?_cons_zero, List.getElem?_cons_succ] at n0 v0 v1 v2 v3
      obtain ⟨k, g, cap, p0, k0, htk⟩ := kid_one H2.out.drew HTw.out (f := .qu q 0 p) rfl
      have hAx : envA (upd e 0 x) = #[.int .i64 (x : Nat), .int .i64 (E' 1 : Nat), .int .i64 (E' 2 : Nat), .int .i64 (E' 3 : Nat)] := by
        have gg : ∀ i : Fin 4, i.val ≠ 0 → e i = E' i.val := fun i hi => by rw [HE'.out _ hi, HE.out, eN_fin]
        unfold envA upd
        rw [gg 1 (by decide), gg 2 (by decide), gg 3 (by decide)]
        first | (simp; done) | (simp; rfl)
      have ck := fun (W : World) (hW : HoldW lo w0 a hb W) => Ih.out k (upd e 0 x) W htk (fun u => by unfold upd; split; exact hlt; exact He.out u) hW
      simp only [hAx] at ck
      clear hAx htk
      have hcs := cnt_succ x (fun y => p.holds a (upd e 0 y))
      cases hp : p.holds a (upd e 0 x) with
      | false =>
        simp only [hp] at ck hcs
        have CK := Lib.hid ck
        have Hcs := Lib.hid hcs
        clear ck hcs hp
        refine region_sched [(0, true), (1, true), (2, true), (3, true), (4, true), (5, true), (6, true), (7, true), (8, false)] (fun w' : World => w'.cell? ⟨w.heap.size, 0, none⟩ = some (kidV nb) ∧ w'.cell? ⟨nb, 2, none⟩ = some (.slice (some ⟨g, 0, none⟩) 1 cap) ∧ w'.cell? ⟨g, 0, none⟩ = some (kidV k) ∧ w'.cell? ⟨w.heap.size + 1, 0, none⟩ = some (.int .i64 (x : Nat)) ∧ w'.cell? ⟨w.heap.size + 1, 1, none⟩ = some (.int .i64 (E' 1 : Nat)) ∧ w'.cell? ⟨w.heap.size + 1, 2, none⟩ = some (.int .i64 (E' 2 : Nat)) ∧ w'.cell? ⟨w.heap.size + 1, 3, none⟩ = some (.int .i64 (E' 3 : Nat))) (by kernel_rfl) (by kernel_rfl) (by kernel_rfl) (by kernel_rfl) (fun _ _ _ _ h => h) ?_ (fun Q1 hQ1 => ?_)
        · exact ⟨n0, p0, k0, v0, v1, v2, v3⟩
        try simp only [List.append]
        refine sched_take' (v := ?_) (a' := ?_) rfl (by kernel_rfl) ?_ rfl ?_ ?_
        rotate_left 2
        · intro w hSw
          (try dsimp only at hSw)
          go_simp
          try with_reducible rfl
        · (try simp only [Act.put, List.setIfInBounds_toArray, List.set_cons_zero, List.set_cons_succ])
          try rfl
        refine sched_take' (v := kidV nb) (a' := ?_) rfl (by kernel_rfl) ?_ rfl ?_ ?_
        rotate_left 1
        · intro w hSw
          (try dsimp only at hSw)
          go_simp
          first | done | (obtain ⟨un, up, uk, uv0, uv1, uv2, uv3⟩ := hSw; simp [*])
        · (try simp only [Act.put, List.setIfInBounds_toArray, List.set_cons_zero, List.set_cons_succ])
          try rfl
        refine sched_take' (v := ?_) (a' := ?_) rfl (by kernel_rfl) ?_ rfl ?_ ?_
        rotate_left 2
        · intro w hSw
          (try dsimp only at hSw)
          go_simp
          try with_reducible rfl
        · (try simp only [Act.put, List.setIfInBounds_toArray, List.set_cons_zero, List.set_cons_succ])
          try rfl
        refine sched_take' (v := ?_) (a' := ?_) rfl (by kernel_rfl) ?_ rfl ?_ ?_
        rotate_left 2
        · intro w hSw
          (try dsimp only at hSw)
          go_simp
          try with_reducible rfl
        · (try simp only [Act.put, List.setIfInBounds_toArray, List.set_cons_zero, List.set_cons_succ])
          try rfl
        refine sched_take' (v := .slice (some ⟨g, 0, none⟩) 1 cap) (a' := ?_) rfl (by kernel_rfl) ?_ rfl ?_ ?_
        rotate_left 1
        · intro w hSw
          (try dsimp only at hSw)
          go_simp
          first | done | (obtain ⟨un, up, uk, uv0, uv1, uv2, uv3⟩ := hSw; simp [*])
        · (try simp only [Act.put, List.setIfInBounds_toArray, List.set_cons_zero, List.set_cons_succ])
          try rfl
        refine sched_take' (v := ?_) (a' := ?_) rfl (by kernel_rfl) ?_ rfl ?_ ?_
        rotate_left 2
        · intro w hSw
          (try dsimp only at hSw)
          go_simp
          try with_reducible rfl
        · (try simp only [Act.put, List.setIfInBounds_toArray, List.set_cons_zero, List.set_cons_succ])
          try rfl
        refine sched_take' (v := kidV k) (a' := ?_) rfl (by kernel_rfl) ?_ rfl ?_ ?_
        rotate_left 1
        · intro w hSw
          (try dsimp only at hSw)
          go_simp
          first | done | (obtain ⟨un, up, uk, uv0, uv1, uv2, uv3⟩ := hSw; simp [*])
        · (try simp only [Act.put, List.setIfInBounds_toArray, List.set_cons_zero, List.set_cons_succ])
          try rfl
        refine sched_take' (v := .agg #[.int .i64 (x : Nat), .int .i64 (E' 1 : Nat), .int .i64 (E' 2 : Nat), .int .i64 (E' 3 : Nat)]) (a' := ?_) rfl (by kernel_rfl) ?_ rfl ?_ ?_
        rotate_left 1
        · intro w hSw
          (try dsimp only at hSw)
          go_simp
          first | done | (obtain ⟨un, up, uk, uv0, uv1, uv2, uv3⟩ := hSw; simp [*])
        · (try simp only [Act.put, List.setIfInBounds_toArray, List.set_cons_zero, List.set_cons_succ])
          try rfl
        refine sched_call rfl (by kernel_rfl) (fun K1 hK1 => ?_)
        go_simp
        refine (CK.out _ H2.out.drew).mono ?_
        rintro ed w1 ⟨rfl, hW, hF⟩
        have HW := Lib.hid hW
        have F2 := Lib.hid (FS.out.drew.trans hF)
        have n1 := hF.cell n0
        have p1 := hF.cell p0
        have k1 := hF.cell k0
        have x0 := hF.cell v0
        have x1 := hF.cell v1
        have x2 := hF.cell v2
        have x3 := hF.cell v3
        have XN := Lib.hid (hF.bx XN0.out)
        have XV := Lib.hid (hF.bx XV0.out)
        clear hW hF
        go_wp2_with fail
        refine hK1.out _ _ ?_ (sched_lay (a' := ?_) ?_ ?_)
        · exact ⟨n1, p1, k1, x0, x1, x2, x3⟩
        rotate_left 1
        · (try simp only [Act.put, List.getElem_toArray, List.getElem_cons_succ, List.getElem_cons_zero, List.setIfInBounds_toArray, List.set_cons_zero, List.set_cons_succ])
          try rfl
        clear hK1 K1
        refine sched_done (hQ1.out _ _ ?_)
        go_wp2_with fail
        go_roundg (a.n - x - 1)
        case rel => exact ⟨x + 1, by omega, by go_num, by rw [Hcs.out]; rfl, HW.out, XN.out, ⟨fun i => if i = 0 then x else E' i, fun i hi => (if_neg hi).trans (HE'.out i hi), XV.out⟩, F2.out⟩
        case measure => omega
      | true =>
        simp only [hp] at ck hcs
        have CK := Lib.hid ck
        have Hcs := Lib.hid hcs
        clear ck hcs hp
        refine region_sched [(0, true), (1, true), (2, true), (3, true), (4, true), (5, true), (6, true), (7, true), (8, false)] (fun w' : World => w'.cell? ⟨w.heap.size, 0, none⟩ = some (kidV nb) ∧ w'.cell? ⟨nb, 2, none⟩ = some (.slice (some ⟨g, 0, none⟩) 1 cap) ∧ w'.cell? ⟨g, 0, none⟩ = some (kidV k) ∧ w'.cell? ⟨w.heap.size + 1, 0, none⟩ = some (.int .i64 (x : Nat)) ∧ w'.cell? ⟨w.heap.size + 1, 1, none⟩ = some (.int .i64 (E' 1 : Nat)) ∧ w'.cell? ⟨w.heap.size + 1, 2, none⟩ = some (.int .i64 (E' 2 : Nat)) ∧ w'.cell? ⟨w.heap.size + 1, 3, none⟩ = some (.int .i64 (E' 3 : Nat))) (by kernel_rfl) (by kernel_rfl) (by kernel_rfl) (by kernel_rfl) (fun _ _ _ _ h => h) ?_ (fun Q1 hQ1 => ?_)
        · exact ⟨n0, p0, k0, v0, v1, v2, v3⟩
        try simp only [List.append]
        refine sched_take' (v := ?_) (a' := ?_) rfl (by kernel_rfl) ?_ rfl ?_ ?_
        rotate_left 2
        · intro w hSw
          (try dsimp only at hSw)
          go_simp
          try with_reducible rfl
        · (try simp only [Act.put, List.setIfInBounds_toArray, List.set_cons_zero, List.set_cons_succ])
          try rfl
        refine sched_take' (v := kidV nb) (a' := ?_) rfl (by kernel_rfl) ?_ rfl ?_ ?_
        rotate_left 1
        · intro w hSw
          (try dsimp only at hSw)
          go_simp
          first | done | (obtain ⟨un, up, uk, uv0, uv1, uv2, uv3⟩ := hSw; simp [*])
        · (try simp only [Act.put, List.setIfInBounds_toArray, List.set_cons_zero, List.set_cons_succ])
          try rfl
        refine sched_take' (v := ?_) (a' := ?_) rfl (by kernel_rfl) ?_ rfl ?_ ?_
        rotate_left 2
        · intro w hSw
          (try dsimp only at hSw)
          go_simp
          try with_reducible rfl
        · (try simp only [Act.put, List.setIfInBounds_toArray, List.set_cons_zero, List.set_cons_succ])
          try rfl
        refine sched_take' (v := ?_) (a' := ?_) rfl (by kernel_rfl) ?_ rfl ?_ ?_
        rotate_left 2
        · intro w hSw
          (try dsimp only at hSw)
          go_simp
          try with_reducible rfl
        · (try simp only [Act.put, List.setIfInBounds_toArray, List.set_cons_zero, List.set_cons_succ])
          try rfl
        refine sched_take' (v := .slice (some ⟨g, 0, none⟩) 1 cap) (a' := ?_) rfl (by kernel_rfl) ?_ rfl ?_ ?_
        rotate_left 1
        · intro w hSw
          (try dsimp only at hSw)
          go_simp
          first | done | (obtain ⟨un, up, uk, uv0, uv1, uv2, uv3⟩ := hSw; simp [*])
        · (try simp only [Act.put, List.setIfInBounds_toArray, List.set_cons_zero, List.set_cons_succ])
          try rfl
        refine sched_take' (v := ?_) (a' := ?_) rfl (by kernel_rfl) ?_ rfl ?_ ?_
        rotate_left 2
        · intro w hSw
          (try dsimp only at hSw)
          go_simp
          try with_reducible rfl
        · (try simp only [Act.put, List.setIfInBounds_toArray, List.set_cons_zero, List.set_cons_succ])
          try rfl
        refine sched_take' (v := kidV k) (a' := ?_) rfl (by kernel_rfl) ?_ rfl ?_ ?_
        rotate_left 1
        · intro w hSw
          (try dsimp only at hSw)
          go_simp
          first | done | (obtain ⟨un, up, uk, uv0, uv1, uv2, uv3⟩ := hSw; simp [*])
        · (try simp only [Act.put, List.setIfInBounds_toArray, List.set_cons_zero, List.set_cons_succ])
          try rfl
        refine sched_take' (v := .agg #[.int .i64 (x : Nat), .int .i64 (E' 1 : Nat), .int .i64 (E' 2 : Nat), .int .i64 (E' 3 : Nat)]) (a' := ?_) rfl (by kernel_rfl) ?_ rfl ?_ ?_
        rotate_left 1
        · intro w hSw
          (try dsimp only at hSw)
          go_simp
          first | done | (obtain ⟨un, up, uk, uv0, uv1, uv2, uv3⟩ := hSw; simp [*])
        · (try simp only [Act.put, List.setIfInBounds_toArray, List.set_cons_zero, List.set_cons_succ])
          try rfl
        refine sched_call rfl (by kernel_rfl) (fun K1 hK1 => ?_)
        go_simp
        refine (CK.out _ H2.out.drew).mono ?_
        rintro ed w1 ⟨rfl, hW, hF⟩
        have HW := Lib.hid hW
        have F2 := Lib.hid (FS.out.drew.trans hF)
        have n1 := hF.cell n0
        have p1 := hF.cell p0
        have k1 := hF.cell k0
        have x0 := hF.cell v0
        have x1 := hF.cell v1
        have x2 := hF.cell v2
        have x3 := hF.cell v3
        have XN := Lib.hid (hF.bx XN0.out)
        have XV := Lib.hid (hF.bx XV0.out)
        clear hW hF
        go_wp2_with fail
        refine hK1.out _ _ ?_ (sched_lay (a' := ?_) ?_ ?_)
        · exact ⟨n1, p1, k1, x0, x1, x2, x3⟩
        rotate_left 1
        · (try simp only [Act.put, List.getElem_toArray, List.getElem_cons_succ, List.getElem_cons_zero, List.setIfInBounds_toArray, List.set_cons_zero, List.set_cons_succ])
          try rfl
        clear hK1 K1
        refine sched_done (hQ1.out _ _ ?_)
        go_wp2_with fail
        go_roundg (a.n - x - 1)
        case rel => exact ⟨x + 1, by omega, by go_num, by rw [Hcs.out]; rfl, HW.out, XN.out, ⟨fun i => if i = 0 then x else E' i, fun i hi => (if_neg hi).trans (HE'.out i hi), XV.out⟩, F2.out⟩
        case measure => omega
    · have hxe : x = a.n := by omega
      have hxi : ¬ (x : Int) < (a.n : Int) := by omega
      have HH := Lib.hid hH
      have HF := Lib.hid hf
      have m0 := hN.cell 0
      have b0 := hH.box.cell 0
      simp only [List.getElem?_toArray, List.getElem?_cons_zero, List.getElem?_cons_succ] at m0 b0
      obtain ⟨ks', vsv', psv', hd0, _⟩ := node_cells (hH.tree HTw.out)
      have hd1 : wr.cell? ⟨nb, 0, none⟩ = some (.int .u8 (q.b.toNat : Int)) := hd0
      have HX := Lib.hid hxe
      obtain ⟨C, hC⟩ : ∃ C, C = Pl.cnt x (fun y => p.holds a (upd e 0 y)) := ⟨_, rfl⟩
      rw [← hC] at hcn ⊢
      have HC := Lib.hid hC
      clear hd0 hH hf hN hVl hE' hxe hC
      cases q
      case A => 
        have hd2 : wr.cell? ⟨nb, 0, none⟩ = some (.int .u8 65) := hd1
        clear hd1
        go_wp2_with fail
        go_ret
        refine ⟨?_, HH.out, HF.out⟩
        show _ = Ending.returned (.bool (Qn.says _ a.n (Pl.cnt a.n fun y => p.holds a (upd e 0 y))))
        rw [← HX.out, ← HC.out]
        exact congrArg (fun b => Ending.returned (Value.bool b)) (show ((C : Int) == (x : Int)) = (C == x) by rw [Bool.eq_iff_iff, beq_iff_eq, beq_iff_eq]; omega)
      case S => 
        have hd2 : wr.cell? ⟨nb, 0, none⟩ = some (.int .u8 83) := hd1
        clear hd1
        go_wp2_with fail
        go_ret
        refine ⟨?_, HH.out, HF.out⟩
        show _ = Ending.returned (.bool (Qn.says _ a.n (Pl.cnt a.n fun y => p.holds a (upd e 0 y))))
        rw [← HX.out, ← HC.out]
        exact congrArg (fun b => Ending.returned (Value.bool b)) (show decide (0 < C) = Qn.says .S x C from rfl)
      case c2 => 
        have hd2 : wr.cell? ⟨nb, 0, none⟩ = some (.int .u8 50) := hd1
        clear hd1
        go_wp2_with fail
        go_ret
        refine ⟨?_, HH.out, HF.out⟩
        show _ = Ending.returned (.bool (Qn.says _ a.n (Pl.cnt a.n fun y => p.holds a (upd e 0 y))))
        rw [← HX.out, ← HC.out]
        exact congrArg (fun b => Ending.returned (Value.bool b)) (show decide ((2 : Int) ≤ (C : Int)) = decide (2 ≤ C) from decide_eq_decide.2 (by omega))
      case c3 => 
        have hd2 : wr.cell? ⟨nb, 0, none⟩ = some (.int .u8 51) := hd1
        clear hd1
        go_wp2_with fail
        go_ret
        refine ⟨?_, HH.out, HF.out⟩
        show _ = Ending.returned (.bool (Qn.says _ a.n (Pl.cnt a.n fun y => p.holds a (upd e 0 y))))
        rw [← HX.out, ← HC.out]
        exact congrArg (fun b => Ending.returned (Value.bool b)) (show decide ((3 : Int) ≤ (C : Int)) = decide (3 ≤ C) from decide_eq_decide.2 (by omega))
      case c4 => 
        have hd2 : wr.cell? ⟨nb, 0, none⟩ = some (.int .u8 52) := hd1
        clear hd1
        go_wp2_with fail
        go_ret
        refine ⟨?_, HH.out, HF.out⟩
        show _ = Ending.returned (.bool (Qn.says _ a.n (Pl.cnt a.n fun y => p.holds a (upd e 0 y))))
        rw [← HX.out, ← HC.out]
        exact congrArg (fun b => Ending.returned (Value.bool b)) (show decide ((4 : Int) ≤ (C : Int)) = decide (4 ≤ C) from decide_eq_decide.2 (by omega))

set_option maxRecDepth 100000 in
set_option maxHeartbeats 8000000 in
theorem decide_qu1 (ha : a.ok) (q : Qn) (p : Fm) (ih : HoldsBy 85 lo w0 a hb p) : HoldsBy 103 lo w0 a hb (.qu q 1 p) := by
  intro nb e w ht he hw
  obtain ⟨E, hE⟩ : ∃ E, E = eN e := ⟨_, rfl⟩
  have hA : envA e = #[.int .i64 (E 0 : Nat), .int .i64 (E 1 : Nat), .int .i64 (E 2 : Nat), .int .i64 (E 3 : Nat)] := by rw [hE]; rfl
  rw [hA]
  have hV := (hw.alloc (.cells #[kidV nb] 52)).alloc (.cells #[.int .i64 (E 0 : Nat), .int .i64 (E 1 : Nat), .int .i64 (E 2 : Nat), .int .i64 (E 3 : Nat)] 106)
  have hD : DecB ((w.alloc (.cells #[kidV nb] 52)).alloc (.cells #[.int .i64 (E 0 : Nat), .int .i64 (E 1 : Nat), .int .i64 (E 2 : Nat), .int .i64 (E 3 : Nat)] 106)) w.heap.size nb E := ⟨(Bx.new w 52 #[kidV nb]).alloc _, bx_two w _ _⟩
  have HV := Lib.hid hV
  have HD := Lib.hid hD
  have HT := Lib.hid (hV.tree ht)
  have F1 := Lib.hid ((Fz.alloc (Nat.le_of_lt hw.cache.lt) (.cells #[kidV nb] 52)).trans (Fz.alloc (by have := hw.cache.lt; simp; omega) (.cells #[.int .i64 (E 0 : Nat), .int .i64 (E 1 : Nat), .int .i64 (E 2 : Nat), .int .i64 (E 3 : Nat)] 106)))
  obtain ⟨ks, vsv, psv, hc00, _⟩ := node_cells HT.out
  have hc0 : ((w.alloc (.cells #[kidV nb] 52)).alloc (.cells #[.int .i64 (E 0 : Nat), .int .i64 (E 1 : Nat), .int .i64 (E 2 : Nat), .int .i64 (E 3 : Nat)] 106)).cell? ⟨nb, 0, none⟩ = some (.int .u8 q.b.toNat) := hc00
  clear hc00
  have n0 := hD.node.cell 0
  simp only [List.getElem?_toArray, List.getElem?_cons_zero, List.getElem?_cons_succ] at n0
  have HE := Lib.hid hE
  have He := Lib.hid he
  have HTw := Lib.hid ht
  have hbl := hw.box.lt
  have hbl2 := hw.cache.lt
  clear hE hA hV hD ht he hw
  obtain ⟨o, ho⟩ : ∃ o : Int, o = (q.b.toNat : Int) := ⟨_, rfl⟩
  have hq : (o == 116) = false ∧ (o == 102) = false ∧ (o == 80) = false ∧ (o == 61) = false ∧ (o == 69) = false ∧ (o == 33) = false ∧ (o == 38) = false ∧ (o == 124) = false := by
    rw [ho]; cases q <;> decide
  obtain ⟨q1, q2, q3, q4, q5, q6, q7, q8⟩ := hq
  rw [← ho] at hc0
  have Ho := Lib.hid ho
  have h8 := ha.hi
  have h0 := HV.out.box.cell 0
  simp only [List.getElem?_toArray, List.getElem?_cons_zero, List.getElem?_cons_succ] at h0
  have Ih := Lib.hid ih
  clear ih ho
  go_enter Tryd.func103, Tryd.ntmps103
  go_wp2_with fail
  go_loopg [8, 107] a.n (fun c cn xi wr => ∃ x : Nat, x + c = a.n ∧ xi = .int .i64 (x : Nat) ∧ cn = .int .i64 (Pl.cnt x (fun y => p.holds a (upd e 1 y)) : Nat) ∧ HoldW lo w0 a hb wr ∧ Bx wr w.heap.size 52 #[kidV nb] ∧ (∃ E' : Nat → Nat, (∀ i, i ≠ 1 → E' i = E i) ∧ Bx wr (w.heap.size + 1) 106 #[.int .i64 (E' 0 : Nat), .int .i64 (E' 1 : Nat), .int .i64 (E' 2 : Nat), .int .i64 (E' 3 : Nat)]) ∧ Fz hb w wr)
  case atStart => exact ⟨0, by omega, rfl, rfl, HV.out, HD.out.node, ⟨E, fun _ _ => rfl, HD.out.vals⟩, F1.out⟩
  case round =>
    obtain ⟨x, hx, rfl, rfl, hH, hN, ⟨E', hE', hVl⟩, hf⟩ := hrel
    have HVl := Lib.hid hVl
    have HN := Lib.hid hN
    have HE' := Lib.hid hE'
    have hcn := cnt_le x (fun y => p.holds a (upd e 1 y))
    by_cases hlt : x < a.n
    · obtain ⟨gv, capv, y0, y10⟩ := var_one hH HTw.out (f := .qu q 1 p) rfl
      have y1 : wr.cell? ⟨gv, 0, none⟩ = some (.int .u8 98) := y10
      clear y10
      have H2 := Lib.hid (hH.set hVl (by omega) 1 (.int .i64 (x : Nat)))
      have FS := Lib.hid (hf.set (by omega) (by omega) (g := w.heap.size + 1) 1 (.int .i64 (x : Nat)))
      have XN0 := Lib.hid (show Bx (wr.setCell ⟨w.heap.size + 1, 1, none⟩ (.int .i64 (x : Nat))).drew w.heap.size 52 #[kidV nb] from (hN.far (by simp) _).drew)
      have XV0 := Lib.hid (show Bx (wr.setCell ⟨w.heap.size + 1, 1, none⟩ (.int .i64 (x : Nat))).drew (w.heap.size + 1) 106 #[.int .i64 (E' 0 : Nat), .int .i64 (x : Nat), .int .i64 (E' 2 : Nat), .int .i64 (E' 3 : Nat)] from (by have := (hVl.set 1 (.int .i64 (x : Nat))).drew; simpa using this))
      have n0w := hN.cell 0
      have fv := hVl.free 1
      have cv := hVl.cell 1
      simp only [List.getElem?_toArray, List.getElem?_cons_zero, List.getElem?_cons_succ] at n0w cv
      clear hH hN hVl hf hE'
      go_upto_region 24 with (fail)
      have n0 := XN0.out.cell 0
      have v0 := XV0.out.cell 0
      have v1 := XV0.out.cell 1
      have v2 := XV0.out.cell 2
      have v3 := XV0.out.cell 3
      simp only [List.getElem?_toArray, List.getElem?_cons_zero, List.getElem?_cons_succ] at n0 v0 v1 v2 v3
      obtain ⟨k, g, cap, p0, k0, htk⟩ := kid_one H2.out.drew HTw.out (f := .qu q 1 p) rfl
      have hAx : envA (upd e 1 x) = #[.int .i64 (E' 0 : Nat), .int .i64 (x : Nat), .int .i64 (E' 2 : Nat), .int .i64 (E' 3 : Nat)] := by
        have gg : ∀ i : Fin 4, i.val ≠ 1 → e i = E' i.val := fun i hi => by rw [HE'.out _ hi, HE.out, eN_fin]
        unfold envA upd
        rw [gg 0 (by decide), gg 2 (by decide), gg 3 (by decide)]
        first | (simp; done) | (simp; rfl)
      have ck := fun (W : World) (hW : HoldW lo w0 a hb W) => Ih.out k (upd e 1 x) W htk (fun u => by unfold upd; split; exact hlt; exact He.out u) hW
      simp only [hAx] at ck
      clear hAx htk
      have hcs := cnt_succ x (fun y => p.holds a (upd e 1 y))
      cases hp : p.holds a (upd e 1 x) with
      | false =>
        simp only [hp] at ck hcs
        have CK := Lib.hid ck
        have Hcs := Lib.hid hcs
        clear ck hcs hp
        refine region_sched [(0, true), (1, true), (2, true), (3, true), (4, true), (5, true), (6, true), (7, true), (8, false)] (fun w' : World => w'.cell? ⟨w.heap.size, 0, none⟩ = some (kidV nb) ∧ w'.cell? ⟨nb, 2, none⟩ = some (.slice (some ⟨g, 0, none⟩) 1 cap) ∧ w'.cell? ⟨g, 0, none⟩ = some (kidV k) ∧ w'.cell? ⟨w.heap.size + 1, 0, none⟩ = some (.int .i64 (E' 0 : Nat)) ∧ w'.cell? ⟨w.heap.size + 1, 1, none⟩ = some (.int .i64 (x : Nat)) ∧ w'.cell? ⟨w.heap.size + 1, 2, none⟩ = some (.int .i64 (E' 2 : Nat)) ∧ w'.cell? ⟨w.heap.size + 1, 3, none⟩ = some (.int .i64 (E' 3 : Nat))) (by kernel_rfl) (by kernel_rfl) (by kernel_rfl) (by kernel_rfl) (fun _ _ _ _ h => h) ?_ (fun Q1 hQ1 => ?_)
        · exact ⟨n0, p0, k0, v0, v1, v2, v3⟩
        try simp only [List.append]
        refine sched_take' (v := ?_) (a' := ?_) rfl (by kernel_rfl) ?_ rfl ?_ ?_
        rotate_left 2
        · intro w hSw
          (try dsimp only at hSw)
          go_simp
          try with_reducible rfl
        · (try simp only [Act.put, List.setIfInBounds_toArray, List.set_cons_zero, List.set_cons_succ])
          try rfl
        refine sched_take' (v := kidV nb) (a' := ?_) rfl (by kernel_rfl) ?_ rfl ?_ ?_
        rotate_left 1
        · intro w hSw
          (try dsimp only at hSw)
          go_simp
          first | done | (obtain ⟨un, up, uk, uv0, uv1, uv2, uv3⟩ := hSw; simp [*])
        · (try simp only [Act.put, List.setIfInBounds_toArray, List.set_cons_zero, List.set_cons_succ])
          try rfl
        refine sched_take' (v := ?_) (a' := ?_) rfl (by kernel_rfl) ?_ rfl ?_ ?_
        rotate_left 2
        · intro w hSw
          (try dsimp only at hSw)
          go_simp
          try with_reducible rfl
        · (try simp only [Act.put, List.setIfInBounds_toArray, List.set_cons_zero, List.set_cons_succ])
          try rfl
        refine sched_take' (v := ?_) (a' := ?_) rfl (by kernel_rfl) ?_ rfl ?_ ?_
        rotate_left 2
        · intro w hSw
          (try dsimp only at hSw)
          go_simp
          try with_reducible rfl
        · (try simp only [Act.put, List.setIfInBounds_toArray, List.set_cons_zero, List.set_cons_succ])
          try rfl
        refine sched_take' (v := .slice (some ⟨g, 0, none⟩) 1 cap) (a' := ?_) rfl (by kernel_rfl) ?_ rfl ?_ ?_
        rotate_left 1
        · intro w hSw
          (try dsimp only at hSw)
          go_simp
          first | done | (obtain ⟨un, up, uk, uv0, uv1, uv2, uv3⟩ := hSw; simp [*])
        · (try simp only [Act.put, List.setIfInBounds_toArray, List.set_cons_zero, List.set_cons_succ])
          try rfl
        refine sched_take' (v := ?_) (a' := ?_) rfl (by kernel_rfl) ?_ rfl ?_ ?_
        rotate_left 2
        · intro w hSw
          (try dsimp only at hSw)
          go_simp
          try with_reducible rfl
        · (try simp only [Act.put, List.setIfInBounds_toArray, List.set_cons_zero, List.set_cons_succ])
          try rfl
        refine sched_take' (v := kidV k) (a' := ?_) rfl (by kernel_rfl) ?_ rfl ?_ ?_
        rotate_left 1
        · intro w hSw
          (try dsimp only at hSw)
          go_simp
          first | done | (obtain ⟨un, up, uk, uv0, uv1, uv2, uv3⟩ := hSw; simp [*])
        · (try simp only [Act.put, List.setIfInBounds_toArray, List.set_cons_zero, List.set_cons_succ])
          try rfl
        refine sched_take' (v := .agg #[.int .i64 (E' 0 : Nat), .int .i64 (x : Nat), .int .i64 (E' 2 : Nat), .int .i64 (E' 3 : Nat)]) (a' := ?_) rfl (by kernel_rfl) ?_ rfl ?_ ?_
        rotate_left 1
        · intro w hSw
          (try dsimp only at hSw)
          go_simp
          first | done | (obtain ⟨un, up, uk, uv0, uv1, uv2, uv3⟩ := hSw; simp [*])
        · (try simp only [Act.put, List.setIfInBounds_toArray, List.set_cons_zero, List.set_cons_succ])
          try rfl
        refine sched_call rfl (by kernel_rfl) (fun K1 hK1 => ?_)
        go_simp
        refine (CK.out _ H2.out.drew).mono ?_
        rintro ed w1 ⟨rfl, hW, hF⟩
        have HW := Lib.hid hW
        have F2 := Lib.hid (FS.out.drew.trans hF)
        have n1 := hF.cell n0
        have p1 := hF.cell p0
        have k1 := hF.cell k0
        have x0 := hF.cell v0
        have x1 := hF.cell v1
        have x2 := hF.cell v2
        have x3 := hF.cell v3
        have XN := Lib.hid (hF.bx XN0.out)
        have XV := Lib.hid (hF.bx XV0.out)
        clear hW hF
        go_wp2_with fail
        refine hK1.out _ _ ?_ (sched_lay (a' := ?_) ?_ ?_)
        · exact ⟨n1, p1, k1, x0, x1, x2, x3⟩
        rotate_left 1
        · (try simp only [Act.put, List.getElem_toArray, List.getElem_cons_succ, List.getElem_cons_zero, List.setIfInBounds_toArray, List.set_cons_zero, List.set_cons_succ])
          try rfl
        clear hK1 K1
        refine sched_done (hQ1.out _ _ ?_)
        go_wp2_with fail
        go_roundg (a.n - x - 1)
        case rel => exact ⟨x + 1, by omega, by go_num, by rw [Hcs.out]; rfl, HW.out, XN.out, ⟨fun i => if i = 1 then x else E' i, fun i hi => (if_neg hi).trans (HE'.out i hi), XV.out⟩, F2.out⟩
        case measure => omega
      | true =>
        simp only [hp] at ck hcs
        have CK := Lib.hid ck
        have Hcs := Lib.hid hcs
        clear ck hcs hp
        refine region_sched [(0, true), (1, true), (2, true), (3, true), (4, true), (5, true), (6, true), (7, true), (8, false)] (fun w' : World => w'.cell? ⟨w.heap.size, 0, none⟩ = some (kidV nb) ∧ w'.cell? ⟨nb, 2, none⟩ = some (.slice (some ⟨g, 0, none⟩) 1 cap) ∧ w'.cell? ⟨g, 0, none⟩ = some (kidV k) ∧ w'.cell? ⟨w.heap.size + 1, 0, none⟩ = some (.int .i64 (E' 0 : Nat)) ∧ w'.cell? ⟨w.heap.size + 1, 1, none⟩ = some (.int .i64 (x : Nat)) ∧ w'.cell? ⟨w.heap.size + 1, 2, none⟩ = some (.int .i64 (E' 2 : Nat)) ∧ w'.cell? ⟨w.heap.size + 1, 3, none⟩ = some (.int .i64 (E' 3 : Nat))) (by kernel_rfl) (by kernel_rfl) (by kernel_rfl) (by kernel_rfl) (fun _ _ _ _ h => h) ?_ (fun Q1 hQ1 => ?_)
        · exact ⟨n0, p0, k0, v0, v1, v2, v3⟩
        try simp only [List.append]
        refine sched_take' (v := ?_) (a' := ?_) rfl (by kernel_rfl) ?_ rfl ?_ ?_
        rotate_left 2
        · intro w hSw
          (try dsimp only at hSw)
          go_simp
          try with_reducible rfl
        · (try simp only [Act.put, List.setIfInBounds_toArray, List.set_cons_zero, List.set_cons_succ])
          try rfl
        refine sched_take' (v := kidV nb) (a' := ?_) rfl (by kernel_rfl) ?_ rfl ?_ ?_
        rotate_left 1
        · intro w hSw
          (try dsimp only at hSw)
          go_simp
          first | done | (obtain ⟨un, up, uk, uv0, uv1, uv2, uv3⟩ := hSw; simp [*])
        · (try simp only [Act.put, List.setIfInBounds_toArray, List.set_cons_zero, List.set_cons_succ])
          try rfl
        refine sched_take' (v := ?_) (a' := ?_) rfl (by kernel_rfl) ?_ rfl ?_ ?_
        rotate_left 2
        · intro w hSw
          (try dsimp only at hSw)
          go_simp
          try with_reducible rfl
        · (try simp only [Act.put, List.setIfInBounds_toArray, List.set_cons_zero, List.set_cons_succ])
          try rfl
        refine sched_take' (v := ?_) (a' := ?_) rfl (by kernel_rfl) ?_ rfl ?_ ?_
        rotate_left 2
        · intro w hSw
          (try dsimp only at hSw)
          go_simp
          try with_reducible rfl
        · (try simp only [Act.put, List.setIfInBounds_toArray, List.set_cons_zero, List.set_cons_succ])
          try rfl
        refine sched_take' (v := .slice (some ⟨g, 0, none⟩) 1 cap) (a' := ?_) rfl (by kernel_rfl) ?_ rfl ?_ ?_
        rotate_left 1
        · intro w hSw
          (try dsimp only at hSw)
          go_simp
          first | done | (obtain ⟨un, up, uk, uv0, uv1, uv2, uv3⟩ := hSw; simp [*])
        · (try simp only [Act.put, List.setIfInBounds_toArray, List.set_cons_zero, List.set_cons_succ])
          try rfl
        refine sched_take' (v := ?_) (a' := ?_) rfl (by kernel_rfl) ?_ rfl ?_ ?_
        rotate_left 2
        · intro w hSw
          (try dsimp only at hSw)
          go_simp
          try with_reducible rfl
        · (try simp only [Act.put, List.setIfInBounds_toArray, List.set_cons_zero, List.set_cons_succ])
          try rfl
        refine sched_take' (v := kidV k) (a' := ?_) rfl (by kernel_rfl) ?_ rfl ?_ ?_
        rotate_left 1
        · intro w hSw
          (try dsimp only at hSw)
          go_simp
          first | done | (obtain ⟨un, up, uk, uv0, uv1, uv2, uv3⟩ := hSw; simp [*])
        · (try simp only [Act.put, List.setIfInBounds_toArray, List.set_cons_zero, List.set_cons_succ])
          try rfl
        refine sched_take' (v := .agg #[.int .i64 (E' 0 : Nat), .int .i64 (x : Nat), .int .i64 (E' 2 : Nat), .int .i64 (E' 3 : Nat)]) (a' := ?_) rfl (by kernel_rfl) ?_ rfl ?_ ?_
        rotate_left 1
        · intro w hSw
          (try dsimp only at hSw)
          go_simp
          first | done | (obtain ⟨un, up, uk, uv0, uv1, uv2, uv3⟩ := hSw; simp [*])
        · (try simp only [Act.put, List.setIfInBounds_toArray, List.set_cons_zero, List.set_cons_succ])
          try rfl
        refine sched_call rfl (by kernel_rfl) (fun K1 hK1 => ?_)
        go_simp
        refine (CK.out _ H2.out.drew).mono ?_
        rintro ed w1 ⟨rfl, hW, hF⟩
        have HW := Lib.hid hW
        have F2 := Lib.hid (FS.out.drew.trans hF)
        have n1 := hF.cell n0
        have p1 := hF.cell p0
        have k1 := hF.cell k0
        have x0 := hF.cell v0
        have x1 := hF.cell v1
        have x2 := hF.cell v2
        have x3 := hF.cell v3
        have XN := Lib.hid (hF.bx XN0.out)
        have XV := Lib.hid (hF.bx XV0.out)
        clear hW hF
        go_wp2_with fail
        refine hK1.out _ _ ?_ (sched_lay (a' := ?_) ?_ ?_)
        · exact ⟨n1, p1, k1, x0, x1, x2, x3⟩
        rotate_left 1
        · (try simp only [Act.put, List.getElem_toArray, List.getElem_cons_succ, List.getElem_cons_zero, List.setIfInBounds_toArray, List.set_cons_zero, List.set_cons_succ])
          try rfl
        clear hK1 K1
        refine sched_done (hQ1.out _ _ ?_)
        go_wp2_with fail
        go_roundg (a.n - x - 1)
        case rel => exact ⟨x + 1, by omega, by go_num, by rw [Hcs.out]; rfl, HW.out, XN.out, ⟨fun i => if i = 1 then x else E' i, fun i hi => (if_neg hi).trans (HE'.out i hi), XV.out⟩, F2.out⟩
        case measure => omega
    · have hxe : x = a.n := by omega
      have hxi : ¬ (x : Int) < (a.n : Int) := by omega
      have HH := Lib.hid hH
      have HF := Lib.hid hf
      have m0 := hN.cell 0
      have b0 := hH.box.cell 0
      simp only [List.getElem?_toArray, List.getElem?_cons_zero, List.getElem?_cons_succ] at m0 b0
      obtain ⟨ks', vsv', psv', hd0, _⟩ := node_cells (hH.tree HTw.out)
      have hd1 : wr.cell? ⟨nb, 0, none⟩ = some (.int .u8 (q.b.toNat : Int)) := hd0
      have HX := Lib.hid hxe
      obtain ⟨C, hC⟩ : ∃ C, C = Pl.cnt x (fun y => p.holds a (upd e 1 y)) := ⟨_, rfl⟩
      rw [← hC] at hcn ⊢
      have HC := Lib.hid hC
      clear hd0 hH hf hN hVl hE' hxe hC
      cases q
      case A => 
        have hd2 : wr.cell? ⟨nb, 0, none⟩ = some (.int .u8 65) := hd1
        clear hd1
        go_wp2_with fail
        go_ret
        refine ⟨?_, HH.out, HF.out⟩
        show _ = Ending.returned (.bool (Qn.says _ a.n (Pl.cnt a.n fun y => p.holds a (upd e 1 y))))
        rw [← HX.out, ← HC.out]
        exact congrArg (fun b => Ending.returned (Value.bool b)) (show ((C : Int) == (x : Int)) = (C == x) by rw [Bool.eq_iff_iff, beq_iff_eq, beq_iff_eq]; omega)
      case S => 
        have hd2 : wr.cell? ⟨nb, 0, none⟩ = some (.int .u8 83) := hd1
        clear hd1
        go_wp2_with fail
        go_ret
        refine ⟨?_, HH.out, HF.out⟩
        show _ = Ending.returned (.bool (Qn.says _ a.n (Pl.cnt a.n fun y => p.holds a (upd e 1 y))))
        rw [← HX.out, ← HC.out]
        exact congrArg (fun b => Ending.returned (Value.bool b)) (show decide (0 < C) = Qn.says .S x C from rfl)
      case c2 => 
        have hd2 : wr.cell? ⟨nb, 0, none⟩ = some (.int .u8 50) := hd1
        clear hd1
        go_wp2_with fail
        go_ret
        refine ⟨?_, HH.out, HF.out⟩
        show _ = Ending.returned (.bool (Qn.says _ a.n (Pl.cnt a.n fun y => p.holds a (upd e 1 y))))
        rw [← HX.out, ← HC.out]
        exact congrArg (fun b => Ending.returned (Value.bool b)) (show decide ((2 : Int) ≤ (C : Int)) = decide (2 ≤ C) from decide_eq_decide.2 (by omega))
      case c3 => 
        have hd2 : wr.cell? ⟨nb, 0, none⟩ = some (.int .u8 51) := hd1
        clear hd1
        go_wp2_with fail
        go_ret
        refine ⟨?_, HH.out, HF.out⟩
        show _ = Ending.returned (.bool (Qn.says _ a.n (Pl.cnt a.n fun y => p.holds a (upd e 1 y))))
        rw [← HX.out, ← HC.out]
        exact congrArg (fun b => Ending.returned (Value.bool b)) (show decide ((3 : Int) ≤ (C : Int)) = decide (3 ≤ C) from decide_eq_decide.2 (by omega))
      case c4 => 
        have hd2 : wr.cell? ⟨nb, 0, none⟩ = some (.int .u8 52) := hd1
        clear hd1
        go_wp2_with fail
        go_ret
        refine ⟨?_, HH.out, HF.out⟩
        show _ = Ending.returned (.bool (Qn.says _ a.n (Pl.cnt a.n fun y => p.holds a (upd e 1 y))))
        rw [← HX.out, ← HC.out]
        exact congrArg (fun b => Ending.returned (Value.bool b)) (show decide ((4 : Int) ≤ (C : Int)) = decide (4 ≤ C) from decide_eq_decide.2 (by omega))

set_option maxRecDepth 100000 in
set_option maxHeartbeats 8000000 in
theorem decide_qu2 (ha : a.ok) (q : Qn) (p : Fm) (ih : HoldsBy 85 lo w0 a hb p) : HoldsBy 103 lo w0 a hb (.qu q 2 p) := by
  intro nb e w ht he hw
  obtain ⟨E, hE⟩ : ∃ E, E = eN e := ⟨_, rfl⟩
  have hA : envA e = #[.int .i64 (E 0 : Nat), .int .i64 (E 1 : Nat), .int .i64 (E 2 : Nat), .int .i64 (E 3 : Nat)] := by rw [hE]; rfl
  rw [hA]
  have hV := (hw.alloc (.cells #[kidV nb] 52)).alloc (.cells #[.int .i64 (E 0 : Nat), .int .i64 (E 1 : Nat), .int .i64 (E 2 : Nat), .int .i64 (E 3 : Nat)] 106)
  have hD : DecB ((w.alloc (.cells #[kidV nb] 52)).alloc (.cells #[.int .i64 (E 0 : Nat), .int .i64 (E 1 : Nat), .int .i64 (E 2 : Nat), .int .i64 (E 3 : Nat)] 106)) w.heap.size nb E := ⟨(Bx.new w 52 #[kidV nb]).alloc _, bx_two w _ _⟩
  have HV := Lib.hid hV
  have HD := Lib.hid hD
  have HT := Lib.hid (hV.tree ht)
  have F1 := Lib.hid ((Fz.alloc (Nat.le_of_lt hw.cache.lt) (.cells #[kidV nb] 52)).trans (Fz.alloc (by have := hw.cache.lt; simp; omega) (.cells #[.int .i64 (E 0 : Nat), .int .i64 (E 1 : Nat), .int .i64 (E 2 : Nat), .int .i64 (E 3 : Nat)] 106)))
  obtain ⟨ks, vsv, psv, hc00, _⟩ := node_cells HT.out
  have hc0 : ((w.alloc (.cells #[kidV nb] 52)).alloc (.cells #[.int .i64 (E 0 : Nat), .int .i64 (E 1 : Nat), .int .i64 (E 2 : Nat), .int .i64 (E 3 : Nat)] 106)).cell? ⟨nb, 0, none⟩ = some (.int .u8 q.b.toNat) := hc00
  clear hc00
  have n0 := hD.node.cell 0
  simp only [List.getElem?_toArray, List.getElem?_cons_zero, List.getElem?_cons_succ] at n0
  have HE := Lib.hid hE
  have He := Lib.hid he
  have HTw := Lib.hid ht
  have hbl := hw.box.lt
  have hbl2 := hw.cache.lt
  clear hE hA hV hD ht he hw
  obtain ⟨o, ho⟩ : ∃ o : Int, o = (q.b.toNat : Int) := ⟨_, rfl⟩
  have hq : (o == 116) = false ∧ (o == 102) = false ∧ (o == 80) = false ∧ (o == 61) = false ∧ (o == 69) = false ∧ (o == 33) = false ∧ (o == 38) = false ∧ (o == 124) = false := by
    rw [ho]; cases q <;> decide
  obtain ⟨q1, q2, q3, q4, q5, q6, q7, q8⟩ := hq
  rw [← ho] at hc0
  have Ho := Lib.hid ho
  have h8 := ha.hi
  have h0 := HV.out.box.cell 0
  simp only [List.getElem?_toArray, List.getElem?_cons_zero, List.getElem?_cons_succ] at h0
  have Ih := Lib.hid ih
  clear ih ho
  go_enter Tryd.func103, Tryd.ntmps103
  go_wp2_with fail
  go_loopg [8, 107] a.n (fun c cn xi wr => ∃ x : Nat, x + c = a.n ∧ xi = .int .i64 (x : Nat) ∧ cn = .int .i64 (Pl.cnt x (fun y => p.holds a (upd e 2 y)) : Nat) ∧ HoldW lo w0 a hb wr ∧ Bx wr w.heap.size 52 #[kidV nb] ∧ (∃ E' : Nat → Nat, (∀ i, i ≠ 2 → E' i = E i) ∧ Bx wr (w.heap.size + 1) 106 #[.int .i64 (E' 0 : Nat), .int .i64 (E' 1 : Nat), .int .i64 (E' 2 : Nat), .int .i64 (E' 3 : Nat)]) ∧ Fz hb w wr)
  case atStart => exact ⟨0, by omega, rfl, rfl, HV.out, HD.out.node, ⟨E, fun _ _ => rfl, HD.out.vals⟩, F1.out⟩
  case round =>
    obtain ⟨x, hx, rfl, rfl, hH, hN, ⟨E', hE', hVl⟩, hf⟩ := hrel
    have HVl := Lib.hid hVl
    have HN := Lib.hid hN
    have HE' := Lib.hid hE'
    have hcn := cnt_le x (fun y => p.holds a (upd e 2 y))
    by_cases hlt : x < a.n
    · obtain ⟨gv, capv, y0, y10⟩ := var_one hH HTw.out (f := .qu q 2 p) rfl
      have y1 : wr.cell? ⟨gv, 0, none⟩ = some (.int .u8 99) := y10
      clear y10
      have H2 := Lib.hid (hH.set hVl (by omega) 2 (.int .i64 (x : Nat)))
      have FS := Lib.hid (hf.set (by omega) (by omega) (g := w.heap.size + 1) 2 (.int .i64 (x : Nat)))
      have XN0 := Lib.hid (show Bx (wr.setCell ⟨w.heap.size + 1, 2, none⟩ (.int .i64 (x : Nat))).drew w.heap.size 52 #[kidV nb] from (hN.far (by simp) _).drew)
      have XV0 := Lib.hid (show Bx (wr.setCell ⟨w.heap.size + 1, 2, none⟩ (.int .i64 (x : Nat))).drew (w.heap.size + 1) 106 #[.int .i64 (E' 0 : Nat), .int .i64 (E' 1 : Nat), .int .i64 (x : Nat), .int .i64 (E' 3 : Nat)] from (by have := (hVl.set 2 (.int .i64 (x : Nat))).drew; simpa using this))
      have n0w := hN.cell 0
      have fv := hVl.free 2
      have cv := hVl.cell 2
      simp only [List.getElem?_toArray, List.getElem?_cons_zero, List.getElem?_cons_succ] at n0w cv
      clear hH hN hVl hf hE'
      go_upto_region 24 with (fail)
      have n0 := XN0.out.cell 0
      have v0 := XV0.out.cell 0
      have v1 := XV0.out.cell 1
      have v2 := XV0.out.cell 2
      have v3 := XV0.out.cell 3
      simp only [List.getElem?_toArray, List.getElem?_cons_zero, List.getElem?_cons_succ] at n0 v0 v1 v2 v3
      obtain ⟨k, g, cap, p0, k0, htk⟩ := kid_one H2.out.drew HTw.out (f := .qu q 2 p) rfl
      have hAx : envA (upd e 2 x) = #[.int .i64 (E' 0 : Nat), .int .i64 (E' 1 : Nat), .int .i64 (x : Nat), .int .i64 (E' 3 : Nat)] := by
        have gg : ∀ i : Fin 4, i.val ≠ 2 → e i = E' i.val := fun i hi => by rw [HE'.out _ hi, HE.out, eN_fin]
        unfold envA upd
        rw [gg 0 (by decide), gg 1 (by decide), gg 3 (by decide)]
        first | (simp; done) | (simp; rfl)
      have ck := fun (W : World) (hW : HoldW lo w0 a hb W) => Ih.out k (upd e 2 x) W htk (fun u => by unfold upd; split; exact hlt; exact He.out u) hW
      simp only [hAx] at ck
      clear hAx htk
      have hcs := cnt_succ x (fun y => p.holds a (upd e 2 y))
      cases hp : p.holds a (upd e 2 x) with
      | false =>
        simp only [hp] at ck hcs
        have CK := Lib.hid ck
        have Hcs := Lib.hid hcs
        clear ck hcs hp
        refine region_sched [(0, true), (1, true), (2, true), (3, true), (4, true), (5, true), (6, true), (7, true), (8, false)] (fun w' : World => w'.cell? ⟨w.heap.size, 0, none⟩ = some (kidV nb) ∧ w'.cell? ⟨nb, 2, none⟩ = some (.slice (some ⟨g, 0, none⟩) 1 cap) ∧ w'.cell? ⟨g, 0, none⟩ = some (kidV k) ∧ w'.cell? ⟨w.heap.size + 1, 0, none⟩ = some (.int .i64 (E' 0 : Nat)) ∧ w'.cell? ⟨w.heap.size + 1, 1, none⟩ = some (.int .i64 (E' 1 : Nat)) ∧ w'.cell? ⟨w.heap.size + 1, 2, none⟩ = some (.int .i64 (x : Nat)) ∧ w'.cell? ⟨w.heap.size + 1, 3, none⟩ = some (.int .i64 (E' 3 : Nat))) (by kernel_rfl) (by kernel_rfl) (by kernel_rfl) (by kernel_rfl) (fun _ _ _ _ h => h) ?_ (fun Q1 hQ1 => ?_)
        · exact ⟨n0, p0, k0, v0, v1, v2, v3⟩
        try simp only [List.append]
        refine sched_take' (v := ?_) (a' := ?_) rfl (by kernel_rfl) ?_ rfl ?_ ?_
        rotate_left 2
        · intro w hSw
          (try dsimp only at hSw)
          go_simp
          try with_reducible rfl
        · (try simp only [Act.put, List.setIfInBounds_toArray, List.set_cons_zero, List.set_cons_succ])
          try rfl
        refine sched_take' (v := kidV nb) (a' := ?_) rfl (by kernel_rfl) ?_ rfl ?_ ?_
        rotate_left 1
        · intro w hSw
          (try dsimp only at hSw)
          go_simp
          first | done | (obtain ⟨un, up, uk, uv0, uv1, uv2, uv3⟩ := hSw; simp [*])
        · (try simp only [Act.put, List.setIfInBounds_toArray, List.set_cons_zero, List.set_cons_succ])
          try rfl
        refine sched_take' (v := ?_) (a' := ?_) rfl (by kernel_rfl) ?_ rfl ?_ ?_
        rotate_left 2
        · intro w hSw
          (try dsimp only at hSw)
          go_simp
          try with_reducible rfl
        · (try simp only [Act.put, List.setIfInBounds_toArray, List.set_cons_zero, List.set_cons_succ])
          try rfl
        refine sched_take' (v := ?_) (a' := ?_) rfl (by kernel_rfl) ?_ rfl ?_ ?_
        rotate_left 2
        · intro w hSw
          (try dsimp only at hSw)
          go_simp
          try with_reducible rfl
        · (try simp only [Act.put, List.setIfInBounds_toArray, List.set_cons_zero, List.set_cons_succ])
          try rfl
        refine sched_take' (v := .slice (some ⟨g, 0, none⟩) 1 cap) (a' := ?_) rfl (by kernel_rfl) ?_ rfl ?_ ?_
        rotate_left 1
        · intro w hSw
          (try dsimp only at hSw)
          go_simp
          first | done | (obtain ⟨un, up, uk, uv0, uv1, uv2, uv3⟩ := hSw; simp [*])
        · (try simp only [Act.put, List.setIfInBounds_toArray, List.set_cons_zero, List.set_cons_succ])
          try rfl
        refine sched_take' (v := ?_) (a' := ?_) rfl (by kernel_rfl) ?_ rfl ?_ ?_
        rotate_left 2
        · intro w hSw
          (try dsimp only at hSw)
          go_simp
          try with_reducible rfl
        · (try simp only [Act.put, List.setIfInBounds_toArray, List.set_cons_zero, List.set_cons_succ])
          try rfl
        refine sched_take' (v := kidV k) (a' := ?_) rfl (by kernel_rfl) ?_ rfl ?_ ?_
        rotate_left 1
        · intro w hSw
          (try dsimp only at hSw)
          go_simp
          first | done | (obtain ⟨un, up, uk, uv0, uv1, uv2, uv3⟩ := hSw; simp [*])
        · (try simp only [Act.put, List.setIfInBounds_toArray, List.set_cons_zero, List.set_cons_succ])
          try rfl
        refine sched_take' (v := .agg #[.int .i64 (E' 0 : Nat), .int .i64 (E' 1 : Nat), .int .i64 (x : Nat), .int .i64 (E' 3 : Nat)]) (a' := ?_) rfl (by kernel_rfl) ?_ rfl ?_ ?_
        rotate_left 1
        · intro w hSw
          (try dsimp only at hSw)
          go_simp
          first | done | (obtain ⟨un, up, uk, uv0, uv1, uv2, uv3⟩ := hSw; simp [*])
        · (try simp only [Act.put, List.setIfInBounds_toArray, List.set_cons_zero, List.set_cons_succ])
          try rfl
        refine sched_call rfl (by kernel_rfl) (fun K1 hK1 => ?_)
        go_simp
        refine (CK.out _ H2.out.drew).mono ?_
        rintro ed w1 ⟨rfl, hW, hF⟩
        have HW := Lib.hid hW
        have F2 := Lib.hid (FS.out.drew.trans hF)
        have n1 := hF.cell n0
        have p1 := hF.cell p0
        have k1 := hF.cell k0
        have x0 := hF.cell v0
        have x1 := hF.cell v1
        have x2 := hF.cell v2
        have x3 := hF.cell v3
        have XN := Lib.hid (hF.bx XN0.out)
        have XV := Lib.hid (hF.bx XV0.out)
        clear hW hF
        go_wp2_with fail
        refine hK1.out _ _ ?_ (sched_lay (a' := ?_) ?_ ?_)
        · exact ⟨n1, p1, k1, x0, x1, x2, x3⟩
        rotate_left 1
        · (try simp only [Act.put, List.getElem_toArray, List.getElem_cons_succ, List.getElem_cons_zero, List.setIfInBounds_toArray, List.set_cons_zero, List.set_cons_succ])
          try rfl
        clear hK1 K1
        refine sched_done (hQ1.out _ _ ?_)
        go_wp2_with fail
        go_roundg (a.n - x - 1)
        case rel => exact ⟨x + 1, by omega, by go_num, by rw [Hcs.out]; rfl, HW.out, XN.out, ⟨fun i => if i = 2 then x else E' i, fun i hi => (if_neg hi).trans (HE'.out i hi), XV.out⟩, F2.out⟩
        case measure => omega
      | true =>
        simp only [hp] at ck hcs
        have CK := Lib.hid ck
        have Hcs := Lib.hid hcs
        clear ck hcs hp
        refine region_sched [(0, true), (1, true), (2, true), (3, true), (4, true), (5, true), (6, true), (7, true), (8, false)] (fun w' : World => w'.cell? ⟨w.heap.size, 0, none⟩ = some (kidV nb) ∧ w'.cell? ⟨nb, 2, none⟩ = some (.slice (some ⟨g, 0, none⟩) 1 cap) ∧ w'.cell? ⟨g, 0, none⟩ = some (kidV k) ∧ w'.cell? ⟨w.heap.size + 1, 0, none⟩ = some (.int .i64 (E' 0 : Nat)) ∧ w'.cell? ⟨w.heap.size + 1, 1, none⟩ = some (.int .i64 (E' 1 : Nat)) ∧ w'.cell? ⟨w.heap.size + 1, 2, none⟩ = some (.int .i64 (x : Nat)) ∧ w'.cell? ⟨w.heap.size + 1, 3, none⟩ = some (.int .i64 (E' 3 : Nat))) (by kernel_rfl) (by kernel_rfl) (by kernel_rfl) (by kernel_rfl) (fun _ _ _ _ h => h) ?_ (fun Q1 hQ1 => ?_)
        · exact ⟨n0, p0, k0, v0, v1, v2, v3⟩
        try simp only [List.append]
        refine sched_take' (v := ?_) (a' := ?_) rfl (by kernel_rfl) ?_ rfl ?_ ?_
        rotate_left 2
        · intro w hSw
          (try dsimp only at hSw)
          go_simp
          try with_reducible rfl
        · (try simp only [Act.put, List.setIfInBounds_toArray, List.set_cons_zero, List.set_cons_succ])
          try rfl
        refine sched_take' (v := kidV nb) (a' := ?_) rfl (by kernel_rfl) ?_ rfl ?_ ?_
        rotate_left 1
        · intro w hSw
          (try dsimp only at hSw)
          go_simp
          first | done | (obtain ⟨un, up, uk, uv0, uv1, uv2, uv3⟩ := hSw; simp [*])
        · (try simp only [Act.put, List.setIfInBounds_toArray, List.set_cons_zero, List.set_cons_succ])
          try rfl
        refine sched_take' (v := ?_) (a' := ?_) rfl (by kernel_rfl) ?_ rfl ?_ ?_
        rotate_left 2
        · intro w hSw
          (try dsimp only at hSw)
          go_simp
          try with_reducible rfl
        · (try simp only [Act.put, List.setIfInBounds_toArray, List.set_cons_zero, List.set_cons_succ])
          try rfl
        refine sched_take' (v := ?_) (a' := ?_) rfl (by kernel_rfl) ?_ rfl ?_ ?_
        rotate_left 2
        · intro w hSw
          (try dsimp only at hSw)
          go_simp
          try with_reducible rfl
        · (try simp only [Act.put, List.setIfInBounds_toArray, List.set_cons_zero, List.set_cons_succ])
          try rfl
        refine sched_take' (v := .slice (some ⟨g, 0, none⟩) 1 cap) (a' := ?_) rfl (by kernel_rfl) ?_ rfl ?_ ?_
        rotate_left 1
        · intro w hSw
          (try dsimp only at hSw)
          go_simp
          first | done | (obtain ⟨un, up, uk, uv0, uv1, uv2, uv3⟩ := hSw; simp [*])
        · (try simp only [Act.put, List.setIfInBounds_toArray, List.set_cons_zero, List.set_cons_succ])
          try rfl
        refine sched_take' (v := ?_) (a' := ?_) rfl (by kernel_rfl) ?_ rfl ?_ ?_
        rotate_left 2
        · intro w hSw
          (try dsimp only at hSw)
          go_simp
          try with_reducible rfl
        · (try simp only [Act.put, List.setIfInBounds_toArray, List.set_cons_zero, List.set_cons_succ])
          try rfl
        refine sched_take' (v := kidV k) (a' := ?_) rfl (by kernel_rfl) ?_ rfl ?_ ?_
        rotate_left 1
        · intro w hSw
          (try dsimp only at hSw)
          go_simp
          first | done | (obtain ⟨un, up, uk, uv0, uv1, uv2, uv3⟩ := hSw; simp [*])
        · (try simp only [Act.put, List.setIfInBounds_toArray, List.set_cons_zero, List.set_cons_succ])
          try rfl
        refine sched_take' (v := .agg #[.int .i64 (E' 0 : Nat), .int .i64 (E' 1 : Nat), .int .i64 (x : Nat), .int .i64 (E' 3 : Nat)]) (a' := ?_) rfl (by kernel_rfl) ?_ rfl ?_ ?_
        rotate_left 1
        · intro w hSw
          (try dsimp only at hSw)
          go_simp
          first | done | (obtain ⟨un, up, uk, uv0, uv1, uv2, uv3⟩ := hSw; simp [*])
        · (try simp only [Act.put, List.setIfInBounds_toArray, List.set_cons_zero, List.set_cons_succ])
          try rfl
        refine sched_call rfl (by kernel_rfl) (fun K1 hK1 => ?_)
        go_simp
        refine (CK.out _ H2.out.drew).mono ?_
        rintro ed w1 ⟨rfl, hW, hF⟩
        have HW := Lib.hid hW
        have F2 := Lib.hid (FS.out.drew.trans hF)
        have n1 := hF.cell n0
        have p1 := hF.cell p0
        have k1 := hF.cell k0
        have x0 := hF.cell v0
        have x1 := hF.cell v1
        have x2 := hF.cell v2
        have x3 := hF.cell v3
        have XN := Lib.hid (hF.bx XN0.out)
        have XV := Lib.hid (hF.bx XV0.out)
        clear hW hF
        go_wp2_with fail
        refine hK1.out _ _ ?_ (sched_lay (a' := ?_) ?_ ?_)
        · exact ⟨n1, p1, k1, x0, x1, x2, x3⟩
        rotate_left 1
        · (try simp only [Act.put, List.getElem_toArray, List.getElem_cons_succ, List.getElem_cons_zero, List.setIfInBounds_toArray, List.set_cons_zero, List.set_cons_succ])
          try rfl
        clear hK1 K1
        refine sched_done (hQ1.out _ _ ?_)
        go_wp2_with fail
        go_roundg (a.n - x - 1)
        case rel => exact ⟨x + 1, by omega, by go_num, by rw [Hcs.out]; rfl, HW.out, XN.out, ⟨fun i => if i = 2 then x else E' i, fun i hi => (if_neg hi).trans (HE'.out i hi), XV.out⟩, F2.out⟩
        case measure => omega
    · have hxe : x = a.n := by omega
      have hxi : ¬ (x : Int) < (a.n : Int) := by omega
      have HH := Lib.hid hH
      have HF := Lib.hid hf
      have m0 := hN.cell 0
      have b0 := hH.box.cell 0
      simp only [List.getElem?_toArray, List.getElem?_cons_zero, List.getElem?_cons_succ] at m0 b0
      obtain ⟨ks', vsv', psv', hd0, _⟩ := node_cells (hH.tree HTw.out)
      have hd1 : wr.cell? ⟨nb, 0, none⟩ = some (.int .u8 (q.b.toNat : Int)) := hd0
      have HX := Lib.hid hxe
      obtain ⟨C, hC⟩ : ∃ C, C = Pl.cnt x (fun y => p.holds a (upd e 2 y)) := ⟨_, rfl⟩
      rw [← hC] at hcn ⊢
      have HC := Lib.hid hC
      clear hd0 hH hf hN hVl hE' hxe hC
      cases q
      case A => 
        have hd2 : wr.cell? ⟨nb, 0, none⟩ = some (.int .u8 65) := hd1
        clear hd1
        go_wp2_with fail
        go_ret
        refine ⟨?_, HH.out, HF.out⟩
        show _ = Ending.returned (.bool (Qn.says _ a.n (Pl.cnt a.n fun y => p.holds a (upd e 2 y))))
        rw [← HX.out, ← HC.out]
        exact congrArg (fun b => Ending.returned (Value.bool b)) (show ((C : Int) == (x : Int)) = (C == x) by rw [Bool.eq_iff_iff, beq_iff_eq, beq_iff_eq]; omega)
      case S => 
        have hd2 : wr.cell? ⟨nb, 0, none⟩ = some (.int .u8 83) := hd1
        clear hd1
        go_wp2_with fail
        go_ret
        refine ⟨?_, HH.out, HF.out⟩
        show _ = Ending.returned (.bool (Qn.says _ a.n (Pl.cnt a.n fun y => p.holds a (upd e 2 y))))
        rw [← HX.out, ← HC.out]
        exact congrArg (fun b => Ending.returned (Value.bool b)) (show decide (0 < C) = Qn.says .S x C from rfl)
      case c2 => 
        have hd2 : wr.cell? ⟨nb, 0, none⟩ = some (.int .u8 50) := hd1
        clear hd1
        go_wp2_with fail
        go_ret
        refine ⟨?_, HH.out, HF.out⟩
        show _ = Ending.returned (.bool (Qn.says _ a.n (Pl.cnt a.n fun y => p.holds a (upd e 2 y))))
        rw [← HX.out, ← HC.out]
        exact congrArg (fun b => Ending.returned (Value.bool b)) (show decide ((2 : Int) ≤ (C : Int)) = decide (2 ≤ C) from decide_eq_decide.2 (by omega))
      case c3 => 
        have hd2 : wr.cell? ⟨nb, 0, none⟩ = some (.int .u8 51) := hd1
        clear hd1
        go_wp2_with fail
        go_ret
        refine ⟨?_, HH.out, HF.out⟩
        show _ = Ending.returned (.bool (Qn.says _ a.n (Pl.cnt a.n fun y => p.holds a (upd e 2 y))))
        rw [← HX.out, ← HC.out]
        exact congrArg (fun b => Ending.returned (Value.bool b)) (show decide ((3 : Int) ≤ (C : Int)) = decide (3 ≤ C) from decide_eq_decide.2 (by omega))
      case c4 => 
        have hd2 : wr.cell? ⟨nb, 0, none⟩ = some (.int .u8 52) := hd1
        clear hd1
        go_wp2_with fail
        go_ret
        refine ⟨?_, HH.out, HF.out⟩
        show _ = Ending.returned (.bool (Qn.says _ a.n (Pl.cnt a.n fun y => p.holds a (upd e 2 y))))
        rw [← HX.out, ← HC.out]
        exact congrArg (fun b => Ending.returned (Value.bool b)) (show decide ((4 : Int) ≤ (C : Int)) = decide (4 ≤ C) from decide_eq_decide.2 (by omega))

set_option maxRecDepth 100000 in
set_option maxHeartbeats 8000000 in
theorem decide_qu3 (ha : a.ok) (q : Qn) (p : Fm) (ih : HoldsBy 85 lo w0 a hb p) : HoldsBy 103 lo w0 a hb (.qu q 3 p) := by
  intro nb e w ht he hw
  obtain ⟨E, hE⟩ : ∃ E, E = eN e := ⟨_, rfl⟩
  have hA : envA e = #[.int .i64 (E 0 : Nat), .int .i64 (E 1 : Nat), .int .i64 (E 2 : Nat), .int .i64 (E 3 : Nat)] := by rw [hE]; rfl
  rw [hA]
  have hV := (hw.alloc (.cells #[kidV nb] 52)).alloc (.cells #[.int .i64 (E 0 : Nat), .int .i64 (E 1 : Nat), .int .i64 (E 2 : Nat), .int .i64 (E 3 : Nat)] 106)
  have hD : DecB ((w.alloc (.cells #[kidV nb] 52)).alloc (.cells #[.int .i64 (E 0 : Nat), .int .i64 (E 1 : Nat), .int .i64 (E 2 : Nat), .int .i64 (E 3 : Nat)] 106)) w.heap.size nb E := ⟨(Bx.new w 52 #[kidV nb]).alloc _, bx_two w _ _⟩
  have HV := Lib.hid hV
  have HD := Lib.hid hD
  have HT := Lib.hid (hV.tree ht)
  have F1 := Lib.hid ((Fz.alloc (Nat.le_of_lt hw.cache.lt) (.cells #[kidV nb] 52)).trans (Fz.alloc (by have := hw.cache.lt; simp; omega) (.cells #[.int .i64 (E 0 : Nat), .int .i64 (E 1 : Nat), .int .i64 (E 2 : Nat), .int .i64 (E 3 : Nat)] 106)))
  obtain ⟨ks, vsv, psv, hc00, _⟩ := node_cells HT.out
  have hc0 : ((w.alloc (.cells #[kidV nb] 52)).alloc (.cells #[.int .i64 (E 0 : Nat), .int .i64 (E 1 : Nat), .int .i64 (E 2 : Nat), .int .i64 (E 3 : Nat)] 106)).cell? ⟨nb, 0, none⟩ = some (.int .u8 q.b.toNat) := hc00
  clear hc00
  have n0 := hD.node.cell 0
  simp only [List.getElem?_toArray, List.getElem?_cons_zero, List.getElem?_cons_succ] at n0
  have HE := Lib.hid hE
  have He := Lib.hid he
  have HTw := Lib.hid ht
  have hbl := hw.box.lt
  have hbl2 := hw.cache.lt
  clear hE hA hV hD ht he hw
  obtain ⟨o, ho⟩ : ∃ o : Int, o = (q.b.toNat : Int) := ⟨_, rfl⟩
  have hq : (o == 116) = false ∧ (o == 102) = false ∧ (o == 80) = false ∧ (o == 61) = false ∧ (o == 69) = false ∧ (o == 33) = false ∧ (o == 38) = false ∧ (o == 124) = false := by
    rw [ho]; cases q <;> decide
  obtain ⟨q1, q2, q3, q4, q5, q6, q7, q8⟩ := hq
  rw [← ho] at hc0
  have Ho := Lib.hid ho
  have h8 := ha.hi
  have h0 := HV.out.box.cell 0
  simp only [List.getElem?_toArray, List.getElem?_cons_zero, List.getElem?_cons_succ] at h0
  have Ih := Lib.hid ih
  clear ih ho
  go_enter Tryd.func103, Tryd.ntmps103
  go_wp2_with fail
  go_loopg [8, 107] a.n (fun c cn xi wr => ∃ x : Nat, x + c = a.n ∧ xi = .int .i64 (x : Nat) ∧ cn = .int .i64 (Pl.cnt x (fun y => p.holds a (upd e 3 y)) : Nat) ∧ HoldW lo w0 a hb wr ∧ Bx wr w.heap.size 52 #[kidV nb] ∧ (∃ E' : Nat → Nat, (∀ i, i ≠ 3 → E' i = E i) ∧ Bx wr (w.heap.size + 1) 106 #[.int .i64 (E' 0 : Nat), .int .i64 (E' 1 : Nat), .int .i64 (E' 2 : Nat), .int .i64 (E' 3 : Nat)]) ∧ Fz hb w wr)
  case atStart => exact ⟨0, by omega, rfl, rfl, HV.out, HD.out.node, ⟨E, fun _ _ => rfl, HD.out.vals⟩, F1.out⟩
  case round =>
    obtain ⟨x, hx, rfl, rfl, hH, hN, ⟨E', hE', hVl⟩, hf⟩ := hrel
    have HVl := Lib.hid hVl
    have HN := Lib.hid hN
    have HE' := Lib.hid hE'
    have hcn := cnt_le x (fun y => p.holds a (upd e 3 y))
    by_cases hlt : x < a.n
    · obtain ⟨gv, capv, y0, y10⟩ := var_one hH HTw.out (f := .qu q 3 p) rfl
      have y1 : wr.cell? ⟨gv, 0, none⟩ = some (.int .u8 100) := y10
      clear y10
      have H2 := Lib.hid (hH.set hVl (by omega) 3 (.int .i64 (x : Nat)))
      have FS := Lib.hid (hf.set (by omega) (by omega) (g := w.heap.size + 1) 3 (.int .i64 (x : Nat)))
      have XN0 := Lib.hid (show Bx (wr.setCell ⟨w.heap.size + 1, 3, none⟩ (.int .i64 (x : Nat))).drew w.heap.size 52 #[kidV nb] from (hN.far (by simp) _).drew)
      have XV0 := Lib.hid (show Bx (wr.setCell ⟨w.heap.size + 1, 3, none⟩ (.int .i64 (x : Nat))).drew (w.heap.size + 1) 106 #[.int .i64 (E' 0 : Nat), .int .i64 (E' 1 : Nat), .int .i64 (E' 2 : Nat), .int .i64 (x : Nat)] from (by have := (hVl.set 3 (.int .i64 (x : Nat))).drew; simpa using this))
      have n0w := hN.cell 0
      have fv := hVl.free 3
      have cv := hVl.cell 3
      simp only [List.getElem?_toArray, List.getElem?_cons_zero, List.getElem?_cons_succ] at n0w cv
      clear hH hN hVl hf hE'
      go_upto_region 24 with (fail)
      have n0 := XN0.out.cell 0
      have v0 := XV0.out.cell 0
      have v1 := XV0.out.cell 1
      have v2 := XV0.out.cell 2
      have v3 := XV0.out.cell 3
      simp only [List.getElem?_toArray, List.getElem?_cons_zero, List.getElem?_cons_succ] at n0 v0 v1 v2 v3
      obtain ⟨k, g, cap, p0, k0, htk⟩ := kid_one H2.out.drew HTw.out (f := .qu q 3 p) rfl
      have hAx : envA (upd e 3 x) = #[.int .i64 (E' 0 : Nat), .int .i64 (E' 1 : Nat), .int .i64 (E' 2 : Nat), .int .i64 (x : Nat)] := by
        have gg : ∀ i : Fin 4, i.val ≠ 3 → e i = E' i.val := fun i hi => by rw [HE'.out _ hi, HE.out, eN_fin]
        unfold envA upd
        rw [gg 0 (by decide), gg 1 (by decide), gg 2 (by decide)]
        first | (simp; done) | (simp; rfl)
      have ck := fun (W : World) (hW : HoldW lo w0 a hb W) => Ih.out k (upd e 3 x) W htk (fun u => by unfold upd; split; exact hlt; exact He.out u) hW
      simp only [hAx] at ck
      clear hAx htk
      have hcs := cnt_succ x (fun y => p.holds a (upd e 3 y))
      cases hp : p.holds a (upd e 3 x) with
      | false =>
        simp only [hp] at ck hcs
        have CK := Lib.hid ck
        have Hcs := Lib.hid hcs
        clear ck hcs hp
        refine region_sched [(0, true), (1, true), (2, true), (3, true), (4, true), (5, true), (6, true), (7, true), (8, false)] (fun w' : World => w'.cell? ⟨w.heap.size, 0, none⟩ = some (kidV nb) ∧ w'.cell? ⟨nb, 2, none⟩ = some (.slice (some ⟨g, 0, none⟩) 1 cap) ∧ w'.cell? ⟨g, 0, none⟩ = some (kidV k) ∧ w'.cell? ⟨w.heap.size + 1, 0, none⟩ = some (.int .i64 (E' 0 : Nat)) ∧ w'.cell? ⟨w.heap.size + 1, 1, none⟩ = some (.int .i64 (E' 1 : Nat)) ∧ w'.cell? ⟨w.heap.size + 1, 2, none⟩ = some (.int .i64 (E' 2 : Nat)) ∧ w'.cell? ⟨w.heap.size + 1, 3, none⟩ = some (.int .i64 (x : Nat))) (by kernel_rfl) (by kernel_rfl) (by kernel_rfl) (by kernel_rfl) (fun _ _ _ _ h => h) ?_ (fun Q1 hQ1 => ?_)
        · exact ⟨n0, p0, k0, v0, v1, v2, v3⟩
        try simp only [List.append]
        refine sched_take' (v := ?_) (a' := ?_) rfl (by kernel_rfl) ?_ rfl ?_ ?_
        rotate_left 2
        · intro w hSw
          (try dsimp only at hSw)
          go_simp
          try with_reducible rfl
        · (try simp only [Act.put, List.setIfInBounds_toArray, List.set_cons_zero, List.set_cons_succ])
          try rfl
        refine sched_take' (v := kidV nb) (a' := ?_) rfl (by kernel_rfl) ?_ rfl ?_ ?_
        rotate_left 1
        · intro w hSw
          (try dsimp only at hSw)
          go_simp
          first | done | (obtain ⟨un, up, uk, uv0, uv1, uv2, uv3⟩ := hSw; simp [*])
        · (try simp only [Act.put, List.setIfInBounds_toArray, List.set_cons_zero, List.set_cons_succ])
          try rfl
        refine sched_take' (v := ?_) (a' := ?_) rfl (by kernel_rfl) ?_ rfl ?_ ?_
        rotate_left 2
        · intro w hSw
          (try dsimp only at hSw)
          go_simp
          try with_reducible rfl
        · (try simp only [Act.put, List.setIfInBounds_toArray, List.set_cons_zero, List.set_cons_succ])
          try rfl
        refine sched_take' (v := ?_) (a' := ?_) rfl (by kernel_rfl) ?_ rfl ?_ ?_
        rotate_left 2
        · intro w hSw
          (try dsimp only at hSw)
          go_simp
          try with_reducible rfl
        · (try simp only [Act.put, List.setIfInBounds_toArray, List.set_cons_zero, List.set_cons_succ])
          try rfl
        refine sched_take' (v := .slice (some ⟨g, 0, none⟩) 1 cap) (a' := ?_) rfl (by kernel_rfl) ?_ rfl ?_ ?_
        rotate_left 1
        · intro w hSw
          (try dsimp only at hSw)
          go_simp
          first | done | (obtain ⟨un, up, uk, uv0, uv1, uv2, uv3⟩ := hSw; simp [*])
        · (try simp only [Act.put, List.setIfInBounds_toArray, List.set_cons_zero, List.set_cons_succ])
          try rfl
        refine sched_take' (v := ?_) (a' := ?_) rfl (by kernel_rfl) ?_ rfl ?_ ?_
        rotate_left 2
        · intro w hSw
          (try dsimp only at hSw)
          go_simp
          try with_reducible rfl
        · (try simp only [Act.put, List.setIfInBounds_toArray, List.set_cons_zero, List.set_cons_succ])
          try rfl
        refine sched_take' (v := kidV k) (a' := ?_) rfl (by kernel_rfl) ?_ rfl ?_ ?_
        rotate_left 1
        · intro w hSw
          (try dsimp only at hSw)
          go_simp
          first | done | (obtain ⟨un, up, uk, uv0, uv1, uv2, uv3⟩ := hSw; simp [*])
        · (try simp only [Act.put, List.setIfInBounds_toArray, List.set_cons_zero, List.set_cons_succ])
          try rfl
        refine sched_take' (v := .agg #[.int .i64 (E' 0 : Nat), .int .i64 (E' 1 : Nat), .int .i64 (E' 2 : Nat), .int .i64 (x : Nat)]) (a' := ?_) rfl (by kernel_rfl) ?_ rfl ?_ ?_
        rotate_left 1
        · intro w hSw
          (try dsimp only at hSw)
          go_simp
          first | done | (obtain ⟨un, up, uk, uv0, uv1, uv2, uv3⟩ := hSw; simp [*])
        · (try simp only [Act.put, List.setIfInBounds_toArray, List.set_cons_zero, List.set_cons_succ])
          try rfl
        refine sched_call rfl (by kernel_rfl) (fun K1 hK1 => ?_)
        go_simp
        refine (CK.out _ H2.out.drew).mono ?_
        rintro ed w1 ⟨rfl, hW, hF⟩
        have HW := Lib.hid hW
        have F2 := Lib.hid (FS.out.drew.trans hF)
        have n1 := hF.cell n0
        have p1 := hF.cell p0
        have k1 := hF.cell k0
        have x0 := hF.cell v0
        have x1 := hF.cell v1
        have x2 := hF.cell v2
        have x3 := hF.cell v3
        have XN := Lib.hid (hF.bx XN0.out)
        have XV := Lib.hid (hF.bx XV0.out)
        clear hW hF
        go_wp2_with fail
        refine hK1.out _ _ ?_ (sched_lay (a' := ?_) ?_ ?_)
        · exact ⟨n1, p1, k1, x0, x1, x2, x3⟩
        rotate_left 1
        · (try simp only [Act.put, List.getElem_toArray, List.getElem_cons_succ, List.getElem_cons_zero, List.setIfInBounds_toArray, List.set_cons_zero, List.set_cons_succ])
          try rfl
        clear hK1 K1
        refine sched_done (hQ1.out _ _ ?_)
        go_wp2_with fail
        go_roundg (a.n - x - 1)
        case rel => exact ⟨x + 1, by omega, by go_num, by rw [Hcs.out]; rfl, HW.out, XN.out, ⟨fun i => if i = 3 then x else E' i, fun i hi => (if_neg hi).trans (HE'.out i hi), XV.out⟩, F2.out⟩
        case measure => omega
      | true =>
        simp only [hp] at ck hcs
        have CK := Lib.hid ck
        have Hcs := Lib.hid hcs
        clear ck hcs hp
        refine region_sched [(0, true), (1, true), (2, true), (3, true), (4, true), (5, true), (6, true), (7, true), (8, false)] (fun w' : World => w'.cell? ⟨w.heap.size, 0, none⟩ = some (kidV nb) ∧ w'.cell? ⟨nb, 2, none⟩ = some (.slice (some ⟨g, 0, none⟩) 1 cap) ∧ w'.cell? ⟨g, 0, none⟩ = some (kidV k) ∧ w'.cell? ⟨w.heap.size + 1, 0, none⟩ = some (.int .i64 (E' 0 : Nat)) ∧ w'.cell? ⟨w.heap.size + 1, 1, none⟩ = some (.int .i64 (E' 1 : Nat)) ∧ w'.cell? ⟨w.heap.size + 1, 2, none⟩ = some (.int .i64 (E' 2 : Nat)) ∧ w'.cell? ⟨w.heap.size + 1, 3, none⟩ = some (.int .i64 (x : Nat))) (by kernel_rfl) (by kernel_rfl) (by kernel_rfl) (by kernel_rfl) (fun _ _ _ _ h => h) ?_ (fun Q1 hQ1 => ?_)
        · exact ⟨n0, p0, k0, v0, v1, v2, v3⟩
        try simp only [List.append]
        refine sched_take' (v := ?_) (a' := ?_) rfl (by kernel_rfl) ?_ rfl ?_ ?_
        rotate_left 2
        · intro w hSw
          (try dsimp only at hSw)
          go_simp
          try with_reducible rfl
        · (try simp only [Act.put, List.setIfInBounds_toArray, List.set_cons_zero, List.set_cons_succ])
          try rfl
        refine sched_take' (v := kidV nb) (a' := ?_) rfl (by kernel_rfl) ?_ rfl ?_ ?_
        rotate_left 1
        · intro w hSw
          (try dsimp only at hSw)
          go_simp
          first | done | (obtain ⟨un, up, uk, uv0, uv1, uv2, uv3⟩ := hSw; simp [*])
        · (try simp only [Act.put, List.setIfInBounds_toArray, List.set_cons_zero, List.set_cons_succ])
          try rfl
        refine sched_take' (v := ?_) (a' := ?_) rfl (by kernel_rfl) ?_ rfl ?_ ?_
        rotate_left 2
        · intro w hSw
          (try dsimp only at hSw)
          go_simp
          try with_reducible rfl
        · (try simp only [Act.put, List.setIfInBounds_toArray, List.set_cons_zero, List.set_cons_succ])
          try rfl
        refine sched_take' (v := ?_) (a' := ?_) rfl (by kernel_rfl) ?_ rfl ?_ ?_
        rotate_left 2
        · intro w hSw
          (try dsimp only at hSw)
          go_simp
          try with_reducible rfl
        · (try simp only [Act.put, List.setIfInBounds_toArray, List.set_cons_zero, List.set_cons_succ])
          try rfl
        refine sched_take' (v := .slice (some ⟨g, 0, none⟩) 1 cap) (a' := ?_) rfl (by kernel_rfl) ?_ rfl ?_ ?_
        rotate_left 1
        · intro w hSw
          (try dsimp only at hSw)
          go_simp
          first | done | (obtain ⟨un, up, uk, uv0, uv1, uv2, uv3⟩ := hSw; simp [*])
        · (try simp only [Act.put, List.setIfInBounds_toArray, List.set_cons_zero, List.set_cons_succ])
          try rfl
        refine sched_take' (v := ?_) (a' := ?_) rfl (by kernel_rfl) ?_ rfl ?_ ?_
        rotate_left 2
        · intro w hSw
          (try dsimp only at hSw)
          go_simp
          try with_reducible rfl
        · (try simp only [Act.put, List.setIfInBounds_toArray, List.set_cons_zero, List.set_cons_succ])
          try rfl
        refine sched_take' (v := kidV k) (a' := ?_) rfl (by kernel_rfl) ?_ rfl ?_ ?_
        rotate_left 1
        · intro w hSw
          (try dsimp only at hSw)
          go_simp
          first | done | (obtain ⟨un, up, uk, uv0, uv1, uv2, uv3⟩ := hSw; simp [*])
        · (try simp only [Act.put, List.setIfInBounds_toArray, List.set_cons_zero, List.set_cons_succ])
          try rfl
        refine sched_take' (v := .agg #[.int .i64 (E' 0 : Nat), .int .i64 (E' 1 : Nat), .int .i64 (E' 2 : Nat), .int .i64 (x : Nat)]) (a' := ?_) rfl (by kernel_rfl) ?_ rfl ?_ ?_
        rotate_left 1
        · intro w hSw
          (try dsimp only at hSw)
          go_simp
          first | done | (obtain ⟨un, up, uk, uv0, uv1, uv2, uv3⟩ := hSw; simp [*])
        · (try simp only [Act.put, List.setIfInBounds_toArray, List.set_cons_zero, List.set_cons_succ])
          try rfl
        refine sched_call rfl (by kernel_rfl) (fun K1 hK1 => ?_)
        go_simp
        refine (CK.out _ H2.out.drew).mono ?_
        rintro ed w1 ⟨rfl, hW, hF⟩
        have HW := Lib.hid hW
        have F2 := Lib.hid (FS.out.drew.trans hF)
        have n1 := hF.cell n0
        have p1 := hF.cell p0
        have k1 := hF.cell k0
        have x0 := hF.cell v0
        have x1 := hF.cell v1
        have x2 := hF.cell v2
        have x3 := hF.cell v3
        have XN := Lib.hid (hF.bx XN0.out)
        have XV := Lib.hid (hF.bx XV0.out)
        clear hW hF
        go_wp2_with fail
        refine hK1.out _ _ ?_ (sched_lay (a' := ?_) ?_ ?_)
        · exact ⟨n1, p1, k1, x0, x1, x2, x3⟩
        rotate_left 1
        · (try simp only [Act.put, List.getElem_toArray, List.getElem_cons_succ, List.getElem_cons_zero, List.setIfInBounds_toArray, List.set_cons_zero, List.set_cons_succ])
          try rfl
        clear hK1 K1
        refine sched_done (hQ1.out _ _ ?_)
        go_wp2_with fail
        go_roundg (a.n - x - 1)
        case rel => exact ⟨x + 1, by omega, by go_num, by rw [Hcs.out]; rfl, HW.out, XN.out, ⟨fun i => if i = 3 then x else E' i, fun i hi => (if_neg hi).trans (HE'.out i hi), XV.out⟩, F2.out⟩
        case measure => omega
    · have hxe : x = a.n := by omega
      have hxi : ¬ (x : Int) < (a.n : Int) := by omega
      have HH := Lib.hid hH
      have HF := Lib.hid hf
      have m0 := hN.cell 0
      have b0 := hH.box.cell 0
      simp only [List.getElem?_toArray, List.getElem?_cons_zero, List.getElem?_cons_succ] at m0 b0
      obtain ⟨ks', vsv', psv', hd0, _⟩ := node_cells (hH.tree HTw.out)
      have hd1 : wr.cell? ⟨nb, 0, none⟩ = some (.int .u8 (q.b.toNat : Int)) := hd0
      have HX := Lib.hid hxe
      obtain ⟨C, hC⟩ : ∃ C, C = Pl.cnt x (fun y => p.holds a (upd e 3 y)) := ⟨_, rfl⟩
      rw [← hC] at hcn ⊢
      have HC := Lib.hid hC
      clear hd0 hH hf hN hVl hE' hxe hC
      cases q
      case A => 
        have hd2 : wr.cell? ⟨nb, 0, none⟩ = some (.int .u8 65) := hd1
        clear hd1
        go_wp2_with fail
        go_ret
        refine ⟨?_, HH.out, HF.out⟩
        show _ = Ending.returned (.bool (Qn.says _ a.n (Pl.cnt a.n fun y => p.holds a (upd e 3 y))))
        rw [← HX.out, ← HC.out]
        exact congrArg (fun b => Ending.returned (Value.bool b)) (show ((C : Int) == (x : Int)) = (C == x) by rw [Bool.eq_iff_iff, beq_iff_eq, beq_iff_eq]; omega)
      case S => 
        have hd2 : wr.cell? ⟨nb, 0, none⟩ = some (.int .u8 83) := hd1
        clear hd1
        go_wp2_with fail
        go_ret
        refine ⟨?_, HH.out, HF.out⟩
        show _ = Ending.returned (.bool (Qn.says _ a.n (Pl.cnt a.n fun y => p.holds a (upd e 3 y))))
        rw [← HX.out, ← HC.out]
        exact congrArg (fun b => Ending.returned (Value.bool b)) (show decide (0 < C) = Qn.says .S x C from rfl)
      case c2 => 
        have hd2 : wr.cell? ⟨nb, 0, none⟩ = some (.int .u8 50) := hd1
        clear hd1
        go_wp2_with fail
        go_ret
        refine ⟨?_, HH.out, HF.out⟩
        show _ = Ending.returned (.bool (Qn.says _ a.n (Pl.cnt a.n fun y => p.holds a (upd e 3 y))))
        rw [← HX.out, ← HC.out]
        exact congrArg (fun b => Ending.returned (Value.bool b)) (show decide ((2 : Int) ≤ (C : Int)) = decide (2 ≤ C) from decide_eq_decide.2 (by omega))
      case c3 => 
        have hd2 : wr.cell? ⟨nb, 0, none⟩ = some (.int .u8 51) := hd1
        clear hd1
        go_wp2_with fail
        go_ret
        refine ⟨?_, HH.out, HF.out⟩
        show _ = Ending.returned (.bool (Qn.says _ a.n (Pl.cnt a.n fun y => p.holds a (upd e 3 y))))
        rw [← HX.out, ← HC.out]
        exact congrArg (fun b => Ending.returned (Value.bool b)) (show decide ((3 : Int) ≤ (C : Int)) = decide (3 ≤ C) from decide_eq_decide.2 (by omega))
      case c4 => 
        have hd2 : wr.cell? ⟨nb, 0, none⟩ = some (.int .u8 52) := hd1
        clear hd1
        go_wp2_with fail
        go_ret
        refine ⟨?_, HH.out, HF.out⟩
        show _ = Ending.returned (.bool (Qn.says _ a.n (Pl.cnt a.n fun y => p.holds a (upd e 3 y))))
        rw [← HX.out, ← HC.out]
        exact congrArg (fun b => Ending.returned (Value.bool b)) (show decide ((4 : Int) ≤ (C : Int)) = decide (4 ≤ C) from decide_eq_decide.2 (by omega))

end

end Go.Proofs.YtpaleogkgfclnaaDoor

namespace Go.Proofs.YtpaleogkgfclnaaDoor
open Go.RowKit
open Go.ChangeMaps
open Pl
set_option linter.unusedSimpArgs false
set_option linter.unusedVariables false

theorem isTrue_calls (lo : Nat) (w0 : World) (a : St) (ha : a.ok) (hb : Nat) : ∀ (n : Nat) (f : Fm), f.size ≤ n → HoldsBy 85 lo w0 a hb f
  | 0, f, h => by cases f <;> simp [Fm.size] at h
  | n + 1, f, h => isTrue_of lo w0 a ha hb f (by
    have ih := isTrue_calls lo w0 a ha hb n
    cases f with
    | tru => exact decide_tru lo w0 a hb
    | fls => exact decide_fls lo w0 a hb
    | pr v => exact decide_pr lo w0 a hb ha v
    | eq v u => exact decide_eq lo w0 a hb v u
    | rel v u => exact decide_rel lo w0 a hb ha v u
    | neg p => exact decide_neg lo w0 a hb p (ih p (by simp [Fm.size] at h; omega))
    | con p q => exact decide_con lo w0 a hb p q (ih p (by simp [Fm.size] at h; omega)) (ih q (by simp [Fm.size] at h; omega))
    | dis p q => exact decide_dis lo w0 a hb p q (ih p (by simp [Fm.size] at h; omega)) (ih q (by simp [Fm.size] at h; omega))
    | qu k v p =>
      have ihp := ih p (by simp [Fm.size] at h; omega)
      rcases fin4 v with rfl | rfl | rfl | rfl
      · exact decide_qu0 lo w0 a hb ha k p ihp
      · exact decide_qu1 lo w0 a hb ha k p ihp
      · exact decide_qu2 lo w0 a hb ha k p ihp
      · exact decide_qu3 lo w0 a hb ha k p ihp)

end Go.Proofs.YtpaleogkgfclnaaDoor

namespace Go.Proofs.YtpaleogkgfclnaaDoor
open Go.RowKit
open Go.ChangeMaps
open Pl
set_option linter.unusedSimpArgs false
set_option linter.unusedVariables false

set_option maxRecDepth 100000 in
set_option maxHeartbeats 1000000 in
theorem newHolder_calls (lo : Nat) (w0 : World) (a : St) (w : World) (h0 : Below w0.heap.size w0 w) :
    Calls Tryd.prog 58 #[stA a] w fun e w' => e = .returned (.pointer (some ⟨w.heap.size + 1 + 1, 0, none⟩)) ∧ HoldW lo w0 a (w.heap.size + 1) w' ∧ Below w.heap.size w w' := by
  have hmk := fun W => run_makeMap (P := Tryd.prog) 103 W
  obtain ⟨k0, k1, k2⟩ := box_load (Bx.new w 27 #[.int .i64 (a.n : Int), .string (bs a.set), .string (bs a.rel)])
  unfold stA
  go_enter Tryd.func58, Tryd.ntmps58
  go_wp2_with fail
  go_ret
  have hS : Below w.heap.size w (w.alloc (.cells #[.int .i64 (a.n : Int), .string (bs a.set), .string (bs a.rel)] 27)) := (Below.refl _ _).alloc (Nat.le_refl _) _
  have hM := hS.alloc (by simp) (.map #[] 0)
  have hB := hM.alloc (by simp; omega) (.cells #[.int .i64 (a.n : Int), .string (bs a.set), .string (bs a.rel), .map (some (w.heap.size + 1))] 105)
  have hc := cache_new (Good lo w0 a) (w.alloc (.cells #[.int .i64 (a.n : Int), .string (bs a.set), .string (bs a.rel)] 27))
  rw [World.size_alloc] at hc
  exact ⟨rfl, ⟨h0.trans (hB.mono h0.size), by have := h0.size; omega, (by have := bx_two (w.alloc (.cells #[.int .i64 (a.n : Int), .string (bs a.set), .string (bs a.rel)] 27)) (.map #[] 0) #[.int .i64 (a.n : Int), .string (bs a.set), .string (bs a.rel), .map (some (w.heap.size + 1))] (t := 105); rwa [World.size_alloc] at this), hc.alloc _⟩, hB⟩

end Go.Proofs.YtpaleogkgfclnaaDoor

namespace Go.Proofs.YtpaleogkgfclnaaDoor
open Pl

/-- the elements for the first variables, 0 for the others -/
def envL (zs : List Nat) : Env := fun v => zs.getD v.val 0

/-- the formula of a text -/
noncomputable def fmOf (s : ByteArray) : Fm := match parse s.data.toList with | some (f, _) => f | none => .fls
theorem fmOf_eq {s : ByteArray} {f : Fm} (h : s.data.toList = f.text) : fmOf s = f := by
  unfold fmOf
  rw [parse_some.2 (show s.data.toList = f.text ++ [] by rw [h]; simp)]

/-- a structure and a formula of which the first variables alone are free -/
noncomputable def rdyB (i : Int) (s r f : ByteArray) (k : Nat) : Bool := okB i s r && (fmB f.data.toList && decide ((fmOf f).freeBits / 2 ^ k = 0))
noncomputable def truV (i : Int) (s r f : ByteArray) (zs : List Nat) : Bool := (fmOf f).holds (ofSt i s r) (envL zs)
noncomputable def holdB (i : Int) (s r f : ByteArray) (zs : List Int) : Bool := rdyB i s r f zs.length && (decide (zs.length ≤ 4) && elAll i zs)
noncomputable def holdV (i : Int) (s r f : ByteArray) (zs : List Int) : Bool := holdB i s r f zs && truV i s r f (zs.map Int.toNat)

theorem rdy_noSt {i : Int} {s r : ByteArray} (h : okB i s r = false) (f : ByteArray) (k : Nat) : rdyB i s r f k = false := by unfold rdyB; rw [h]; rfl
theorem rdy_noFm {f : ByteArray} (h : fmB f.data.toList = false) (i : Int) (s r : ByteArray) (k : Nat) : rdyB i s r f k = false := by unfold rdyB; rw [h]; simp
theorem rdy_of {f : ByteArray} {g : Fm} (hg : fmB f.data.toList = true) (hf : f.data.toList = g.text) {a : St} (ha : a.ok) (k : Nat) : rdyB a.n (bs a.set) (bs a.rel) f k = decide (g.freeBits / 2 ^ k = 0) := by
  unfold rdyB
  rw [okB_true ha, hg, fmOf_eq hf]; rfl
theorem tru_of {f : ByteArray} {g : Fm} (hf : f.data.toList = g.text) (a : St) (zs : List Nat) : truV a.n (bs a.set) (bs a.rel) f zs = g.holds a (envL zs) := by
  unfold truV
  rw [fmOf_eq hf, ofSt_eq]
theorem env_lt {a : St} (ha : a.ok) {zs : List Nat} (hz : ∀ x ∈ zs, x < a.n) : ∀ v, envL zs v < a.n := fun v => by
  unfold envL
  by_cases h : v.val < zs.length
  · rw [List.getD_eq_getElem?_getD, List.getElem?_eq_getElem h]; exact hz _ (List.getElem_mem h)
  · rw [List.getD_eq_getElem?_getD, List.getElem?_eq_none (by omega)]; exact ha.lo
theorem hold_no {i : Int} {s r f : ByteArray} {zs : List Int} (h : holdB i s r f zs = false) : holdV i s r f zs = false := by unfold holdV; rw [h]; rfl
theorem hold_noRdy {i : Int} {s r f : ByteArray} {zs : List Int} (h : rdyB i s r f zs.length = false) : holdB i s r f zs = false := by unfold holdB; rw [h]; rfl
theorem hold_noLen {i : Int} {s r f : ByteArray} {zs : List Int} (h : ¬ zs.length ≤ 4) : holdB i s r f zs = false := by unfold holdB; rw [decide_eq_false h]; simp
theorem hold_noEl {i : Int} {s r f : ByteArray} {zs : List Int} (h : elAll i zs = false) : holdB i s r f zs = false := by unfold holdB; rw [h]; simp
theorem hold_yes {i : Int} {s r f : ByteArray} {zs : List Int} (h1 : rdyB i s r f zs.length = true) (h2 : zs.length ≤ 4) (h3 : elAll i zs = true) : holdB i s r f zs = true := by unfold holdB; rw [h1, h3, decide_eq_true h2]; rfl
theorem hold_yesV {i : Int} {s r f : ByteArray} {zs : List Int} (h : holdB i s r f zs = true) : holdV i s r f zs = truV i s r f (zs.map Int.toNat) := by unfold holdV; rw [h]; rfl
theorem elAll_nats {n : Nat} : ∀ {zs : List Int}, elAll n zs = true → zs = natsI (zs.map Int.toNat) ∧ ∀ x ∈ zs.map Int.toNat, x < n := by
  intro zs h
  unfold elAll at h
  rw [List.all_eq_true] at h
  constructor
  · unfold natsI
    rw [List.map_map]
    conv => lhs; rw [← List.map_id zs]
    refine List.map_congr_left fun z hz => ?_
    have := h z hz
    unfold elB at this
    simp at this ⊢
    omega
  · intro x hx
    obtain ⟨z, hz, rfl⟩ := List.mem_map.1 hx
    have := h z hz
    unfold elB at this
    simp at this
    omega

end Go.Proofs.YtpaleogkgfclnaaDoor

namespace Go.Proofs.YtpaleogkgfclnaaDoor
open Go.RowKit
open Go.ChangeMaps
open Pl
set_option linter.unusedSimpArgs false
set_option linter.unusedVariables false

theorem splice_env {zs : List Nat} (h : zs.length ≤ 4) : (splice [Value.int .i64 0, .int .i64 0, .int .i64 0, .int .i64 0] 0 (intsV (natsI zs))).toArray = envA (envL zs) := by
  match zs, h with
  | [], _ => rfl
  | [a], _ => rfl
  | [a, b], _ => rfl
  | [a, b, c], _ => rfl
  | [a, b, c, d], _ => rfl

theorem row_news {w : World} {A : Option Addr} {zs : List Int} (h : LRow w A zs) : 0 < (intsV zs).length → ∃ ad, A = some ad ∧ ∀ j v, (intsV zs)[j]? = some v → w.cell? (ad.add j) = some v := fun hn => by
  obtain ⟨g, rfl, _⟩ := h (by simpa [intsV] using hn)
  exact ⟨_, rfl, LRow.news h⟩

set_option maxRecDepth 100000 in
set_option maxHeartbeats 1000000 in
theorem holds_calls (lo : Nat) (w0 : World) (a : St) (ha : a.ok) (hb : Nat) (f : Fm) (nb : Nat) (zs : List Nat) (A : Option Addr) (cap : Nat) (w : World) (ht : TreeAt lo w0 f nb) (hz : ∀ x ∈ zs, x < a.n) (hl : zs.length ≤ 4) (hA : LRow w A (natsI zs)) (hw : HoldW lo w0 a hb w) :
    Calls Tryd.prog 59 #[.pointer (some ⟨hb + 1, 0, none⟩), kidV nb, .slice A zs.length cap] w fun ed w' => ed = .returned (.bool (f.holds a (envL zs))) ∧ HoldW lo w0 a hb w' ∧ Fz hb w w' := by
  have he := env_lt ha hz
  have ci := fun (W : World) (hW : HoldW lo w0 a hb W) => isTrue_calls lo w0 a ha hb f.size f (Nat.le_refl _) nb (envL zs) W ht he hW
  have CI := Lib.hid ci
  have hs : (Tryd.prog.info? 3).map (·.size) = some 1 := by kernel_rfl
  have hln : (intsV (natsI zs)).length = Nat.min zs.length 4 := by
    rw [show (intsV (natsI zs)).length = zs.length by simp [intsV, natsI]]
    exact (Nat.min_eq_left hl).symm
  have HA := Lib.hid (hA.alloc (.cells #[.int .i64 0, .int .i64 0, .int .i64 0, .int .i64 0] 106))
  have HW0 := Lib.hid hw
  have XZ := Lib.hid (Bx.new w 106 #[.int .i64 0, .int .i64 0, .int .i64 0, .int .i64 0])
  have Hlt := Lib.hid hw.cache.lt
  clear ci ht hz he hA hw
  go_enter Tryd.func59, Tryd.ntmps59
  go_wp2_with (refine wpList_copy_splice rfl (.tmp 9) (.tmp 10) 30 30 rfl 3 Tryd.underlying30 hs _ _ 4 4 zs.length cap rfl rfl w.heap.size 0 [.int .i64 0, .int .i64 0, .int .i64 0, .int .i64 0] 106 XZ.out (intsV (natsI zs)) hln (fun h => by obtain ⟨ad, h1, h2⟩ := row_news HA.out h; exact ⟨rfl, ad, h1, h2⟩) (by simp [intsV, natsI]; omega) (ints_oneCell .i64 _) w.heap.size w ((Below.refl _ _).alloc (Nat.le_refl _) _) (Nat.le_refl _) ?_; intro w1 hx1 hb1; have XE := Lib.hid (show Bx w1 w.heap.size 106 (envA (envL zs)) from by rw [← splice_env hl]; exact hx1.out); have B1 := Lib.hid hb1; have x0 := XE.out.cell 0; have x1 := XE.out.cell 1; have x2 := XE.out.cell 2; have x3 := XE.out.cell 3; simp only [envA, List.getElem?_toArray, List.getElem?_cons_zero, List.getElem?_cons_succ] at x0 x1 x2 x3; clear hx1 hb1)
  refine (CI.out _ (HW0.out.call B1.out)).mono ?_
  rintro ed w2 ⟨rfl, hW, hF⟩
  have F2 := Lib.hid ((Fz.call (Nat.le_of_lt Hlt.out) B1.out).trans hF)
  have W2 := Lib.hid hW
  clear hW hF x0 x1 x2 x3
  go_wp2_with fail
  go_ret
  exact ⟨rfl, W2.out, F2.out⟩

end Go.Proofs.YtpaleogkgfclnaaDoor

namespace Go.Proofs.YtpaleogkgfclnaaDoor
open Go.RowKit
open Pl
set_option linter.unusedSimpArgs false
set_option linter.unusedVariables false

theorem div_nat (m k : Nat) : (m : Int) / 2 ^ k = ((m / 2 ^ k : Nat) : Int) := by
  rw [Int.natCast_ediv, Int.natCast_pow]; rfl

/-- a structure of whole numbers and texts that is one -/
theorem st_of {i : Int} {s r : ByteArray} (h : okB i s r = true) : ∃ a : St, a.ok ∧ i = a.n ∧ s = bs a.set ∧ r = bs a.rel := by
  rcases ok_cases i s r with h2 | h2
  · rw [h] at h2; cases h2
  · exact h2

set_option maxRecDepth 100000 in
set_option maxHeartbeats 2000000 in
theorem HoldsAt_impl (i : Int) (s r f : ByteArray) (A : Option Addr) (zs : List Int) (cap : Nat) (w : World) (hs : s.size ≤ maxLen) (hr : r.size ≤ maxLen) (hn : zs.length ≤ 1048576) (hcap : zs.length ≤ cap) (hA : LRow w A zs) :
    Calls Tryd.prog 36 #[stV i s r, .string f, .slice A zs.length cap] w fun e w' => e = .returned (.tuple #[.bool (holdV i s r f zs), .bool (holdB i s r f zs)]) ∧ Below w.heap.size w w' := by
  have HcI := fun W => isStructure_calls i s r W hs hr
  have HcE := fun (W : World) (hW : LRow W A zs) => areElements_calls i s r A zs cap W hn hW
  have B0 := Lib.hid (show Below w.heap.size w (w.alloc (.cells #[.int .i64 i, .string s, .string r] 27)) from (Below.refl _ _).alloc (Nat.le_refl _) _)
  have La := Lib.hid (hA.alloc (.cells #[.int .i64 i, .string s, .string r] 27))
  have Xa := Lib.hid (Bx.new w 27 #[.int .i64 i, .string s, .string r])
  clear hA hs hr
  rcases fm_cases f with ⟨hb, hno⟩ | ⟨g, hb, hf, hs4, hl4⟩
  · rw [hold_no (hold_noRdy (rdy_noFm hb i s r zs.length)), hold_noRdy (rdy_noFm hb i s r zs.length)]
    have Hno := Lib.hid hno
    clear hb hno HcI HcE
    go_enter Tryd.func36, Tryd.ntmps36
    go_wp2_with fail
    refine (parseFormula_no f _ Hno.out).mono ?_
    rintro e w1 ⟨rfl, hz⟩
    have B1 := Lib.hid (B0.out.trans (hz.mono (by simp)))
    clear hz
    go_wp2_with fail
    go_ret2
    exact ⟨rfl, B1.out⟩
  have Hf := Lib.hid hf
  have Hb := Lib.hid hb
  have hfr : g.freeBits < 16 := freeBits_lt g
  clear hf hb
  cases hok : okB i s r
  case false =>
    have hh := rdy_noSt hok f zs.length
    rw [hold_no (hold_noRdy hh), hold_noRdy hh]
    simp only [hok] at HcI
    clear hh hok
    have CI := Lib.hid HcI
    have CE := Lib.hid HcE
    clear HcI HcE
    go_enter Tryd.func36, Tryd.ntmps36
    go_wp2_with fail
    refine (parseFormula_yes f g _ hs4 Hf.out).mono ?_
    rintro e w1 ⟨b, rfl, htr, hz⟩
    have B1 := Lib.hid (B0.out.trans (hz.mono (by simp)))
    have X1 := Lib.hid (Xa.out.call hz)
    have L1 := Lib.hid (La.out.call hz)
    have T1 := Lib.hid htr
    clear hz htr
    obtain ⟨k0, k1, k2⟩ := box_load X1.out
    go_wp2_with fail
    refine (CI.out _).mono ?_
    rintro e w2 ⟨rfl, hz⟩
    have B2 := Lib.hid (B1.out.trans (hz.mono B1.out.size))
    have X2 := Lib.hid (X1.out.call hz)
    have L2 := Lib.hid (L1.out.call hz)
    have T2 := Lib.hid (T1.out.below hz)
    have D2 := Lib.hid hz
    clear hz k0 k1 k2
    go_wp2_with fail
    go_ret2
    exact ⟨rfl, B2.out⟩
  case true =>
  simp only [hok] at HcI
  by_cases h4 : zs.length ≤ 4
  case neg =>
    rw [hold_no (hold_noLen h4), hold_noLen h4]
    clear hok
    have CI := Lib.hid HcI
    have CE := Lib.hid HcE
    clear HcI HcE
    go_enter Tryd.func36, Tryd.ntmps36
    go_wp2_with fail
    refine (parseFormula_yes f g _ hs4 Hf.out).mono ?_
    rintro e w1 ⟨b, rfl, htr, hz⟩
    have B1 := Lib.hid (B0.out.trans (hz.mono (by simp)))
    have X1 := Lib.hid (Xa.out.call hz)
    have L1 := Lib.hid (La.out.call hz)
    have T1 := Lib.hid htr
    clear hz htr
    obtain ⟨k0, k1, k2⟩ := box_load X1.out
    go_wp2_with fail
    refine (CI.out _).mono ?_
    rintro e w2 ⟨rfl, hz⟩
    have B2 := Lib.hid (B1.out.trans (hz.mono B1.out.size))
    have X2 := Lib.hid (X1.out.call hz)
    have L2 := Lib.hid (L1.out.call hz)
    have T2 := Lib.hid (T1.out.below hz)
    have D2 := Lib.hid hz
    clear hz k0 k1 k2
    go_wp2_with fail
    go_ret2
    exact ⟨rfl, B2.out⟩
  case pos =>
  have h4i : (zs.length : Int) ≤ 4 := by omega
  cases hel : elAll i zs
  case false =>
    rw [hold_no (hold_noEl hel), hold_noEl hel]
    simp only [hel] at HcE
    clear hok hel
    have CI := Lib.hid HcI
    have CE := Lib.hid HcE
    clear HcI HcE
    go_enter Tryd.func36, Tryd.ntmps36
    go_wp2_with fail
    refine (parseFormula_yes f g _ hs4 Hf.out).mono ?_
    rintro e w1 ⟨b, rfl, htr, hz⟩
    have B1 := Lib.hid (B0.out.trans (hz.mono (by simp)))
    have X1 := Lib.hid (Xa.out.call hz)
    have L1 := Lib.hid (La.out.call hz)
    have T1 := Lib.hid htr
    clear hz htr
    obtain ⟨k0, k1, k2⟩ := box_load X1.out
    go_wp2_with fail
    refine (CI.out _).mono ?_
    rintro e w2 ⟨rfl, hz⟩
    have B2 := Lib.hid (B1.out.trans (hz.mono B1.out.size))
    have X2 := Lib.hid (X1.out.call hz)
    have L2 := Lib.hid (L1.out.call hz)
    have T2 := Lib.hid (T1.out.below hz)
    have D2 := Lib.hid hz
    clear hz k0 k1 k2
    obtain ⟨k0, k1, k2⟩ := box_load X2.out
    go_wp2_with fail
    refine (CE.out _ L2.out).mono ?_
    rintro e w3 ⟨rfl, hz⟩
    have B3 := Lib.hid (B2.out.trans (hz.mono B2.out.size))
    have X3 := Lib.hid (X2.out.call hz)
    have L3 := Lib.hid (L2.out.call hz)
    have T3 := Lib.hid (T2.out.below hz)
    have D3 := Lib.hid (D2.out.trans (hz.mono D2.out.size))
    clear hz k0 k1 k2
    go_wp2_with fail
    go_ret2
    exact ⟨rfl, B3.out⟩
  case true =>
  simp only [hel] at HcE
  obtain ⟨a, ha, rfl, rfl, rfl⟩ := st_of hok
  have hry := rdy_of Hb.out Hf.out ha zs.length
  by_cases hfz : g.freeBits / 2 ^ zs.length = 0
  case neg =>
    rw [decide_eq_false hfz] at hry
    rw [hold_no (hold_noRdy hry), hold_noRdy hry]
    clear hok hel hry
    have CI := Lib.hid HcI
    have CE := Lib.hid HcE
    clear HcI HcE
    go_enter Tryd.func36, Tryd.ntmps36
    go_wp2_with fail
    refine (parseFormula_yes f g _ hs4 Hf.out).mono ?_
    rintro e w1 ⟨b, rfl, htr, hz⟩
    have B1 := Lib.hid (B0.out.trans (hz.mono (by simp)))
    have X1 := Lib.hid (Xa.out.call hz)
    have L1 := Lib.hid (La.out.call hz)
    have T1 := Lib.hid htr
    clear hz htr
    obtain ⟨k0, k1, k2⟩ := box_load X1.out
    go_wp2_with fail
    refine (CI.out _).mono ?_
    rintro e w2 ⟨rfl, hz⟩
    have B2 := Lib.hid (B1.out.trans (hz.mono B1.out.size))
    have X2 := Lib.hid (X1.out.call hz)
    have L2 := Lib.hid (L1.out.call hz)
    have T2 := Lib.hid (T1.out.below hz)
    have D2 := Lib.hid hz
    clear hz k0 k1 k2
    obtain ⟨k0, k1, k2⟩ := box_load X2.out
    go_wp2_with fail
    refine (CE.out _ L2.out).mono ?_
    rintro e w3 ⟨rfl, hz⟩
    have B3 := Lib.hid (B2.out.trans (hz.mono B2.out.size))
    have X3 := Lib.hid (X2.out.call hz)
    have L3 := Lib.hid (L2.out.call hz)
    have T3 := Lib.hid (T2.out.below hz)
    have D3 := Lib.hid (D2.out.trans (hz.mono D2.out.size))
    clear hz k0 k1 k2
    obtain ⟨_, _, _, _, _, _, hc3, _⟩ := node_cells T3.out
    have hdv := div_nat g.freeBits zs.length
    have hne : ((g.freeBits : Int) / 2 ^ zs.length != 0) = true := by rw [hdv, bne_iff_ne]; omega
    clear hdv hfz
    go_wp2_with fail
    go_ret2
    exact ⟨rfl, B3.out⟩
  case pos =>
    rw [decide_eq_true hfz] at hry
    have hh := hold_yes hry h4 hel
    rw [hold_yesV hh, hh, tru_of Hf.out a]
    obtain ⟨hzs, hlt⟩ := elAll_nats hel
    obtain ⟨ns, hns⟩ : ∃ ns, ns = zs.map Int.toNat := ⟨_, rfl⟩
    rw [← hns] at hlt hzs ⊢
    subst hzs
    rw [natsI_len] at *
    have Hlt := Lib.hid hlt
    clear hok hel hry hh hns hlt hn hcap
    have CI := Lib.hid HcI
    have CE := Lib.hid HcE
    clear HcI HcE
    go_enter Tryd.func36, Tryd.ntmps36
    go_wp2_with fail
    refine (parseFormula_yes f g _ hs4 Hf.out).mono ?_
    rintro e w1 ⟨b, rfl, htr, hz⟩
    have B1 := Lib.hid (B0.out.trans (hz.mono (by simp)))
    have X1 := Lib.hid (Xa.out.call hz)
    have L1 := Lib.hid (La.out.call hz)
    have T1 := Lib.hid htr
    clear hz htr
    obtain ⟨k0, k1, k2⟩ := box_load X1.out
    go_wp2_with fail
    refine (CI.out _).mono ?_
    rintro e w2 ⟨rfl, hz⟩
    have B2 := Lib.hid (B1.out.trans (hz.mono B1.out.size))
    have X2 := Lib.hid (X1.out.call hz)
    have L2 := Lib.hid (L1.out.call hz)
    have T2 := Lib.hid (T1.out.below hz)
    have D2 := Lib.hid hz
    clear hz k0 k1 k2
    obtain ⟨k0, k1, k2⟩ := box_load X2.out
    go_wp2_with fail
    refine (CE.out _ L2.out).mono ?_
    rintro e w3 ⟨rfl, hz⟩
    have B3 := Lib.hid (B2.out.trans (hz.mono B2.out.size))
    have X3 := Lib.hid (X2.out.call hz)
    have L3 := Lib.hid (L2.out.call hz)
    have T3 := Lib.hid (T2.out.below hz)
    have D3 := Lib.hid (D2.out.trans (hz.mono D2.out.size))
    clear hz k0 k1 k2
    obtain ⟨_, _, _, _, _, _, hc3, _⟩ := node_cells T3.out
    have hdv := div_nat g.freeBits ns.length
    have heq : (g.freeBits : Int) / 2 ^ ns.length = 0 := by rw [hdv]; omega
    obtain ⟨k0, k1, k2⟩ := box_load X3.out
    clear hdv hfz
    go_wp2_with fail
    refine (newHolder_calls (w.alloc (.cells #[.int .i64 (a.n : Int), .string (bs a.set), .string (bs a.rel)] 27)).heap.size w1 a w3 D3.out).mono ?_
    rintro e w4 ⟨rfl, hW, hz⟩
    have B4 := Lib.hid (B3.out.trans (hz.mono B3.out.size))
    have L4 := Lib.hid (L3.out.call hz)
    have HW := Lib.hid hW
    clear hz hW k0 k1 k2 hc3
    go_wp2_with fail
    refine (holds_calls _ w1 a ha (w3.heap.size + 1) g b ns A cap w4 T1.out Hlt.out h4 L4.out HW.out).mono ?_
    rintro e w5 ⟨rfl, hW5, hF⟩
    have B5 := Lib.hid (B4.out.trans (hF.below.mono (by have := B3.out.size; omega)))
    clear hF hW5
    go_wp2_with fail
    go_ret2
    exact ⟨rfl, B5.out⟩

end Go.Proofs.YtpaleogkgfclnaaDoor

namespace Go.Proofs.YtpaleogkgfclnaaDoor
open Go.RowKit
open Pl
set_option linter.unusedSimpArgs false
set_option linter.unusedVariables false

theorem l2End_of (s : ByteArray) (k : Nat) (f : Fm) (r : List UInt8) (m : Int) (w : World) (hs : s.size ≤ 4000) (h : s.data.toList.drop k = f.text ++ r) (hm : m = k) :
    Calls Tryd.prog 51 #[.string s, .int .i64 m] w fun e w' => e = .returned (.int .i64 (k + f.text.length : Nat)) ∧ w = w' := by
  subst hm
  have hk : k < s.size := by
    have h1 := congrArg List.length h
    have h2 := f.text_pos
    rw [List.length_drop, ← Lib.size_eq] at h1
    simp at h1; omega
  have h1 := l2End_calls s.size s k w (by omega) (by unfold maxLen; omega) (by omega)
  rwa [endI_some h] at h1

theorem cnt_split (n x : Nat) (p : Nat → Bool) (h : x ≤ n) : Pl.cnt x p ≤ Pl.cnt n p ∧ Pl.cnt n p ≤ Pl.cnt x p + (n - x) := by
  induction n with
  | zero => obtain rfl : x = 0 := by omega
            exact ⟨Nat.le_refl _, by omega⟩
  | succ n ih =>
    by_cases hx : x = n + 1
    · subst hx; exact ⟨Nat.le_refl _, by omega⟩
    · have := ih (by omega)
      rw [cnt_succ]
      split <;> omega
/-- how many a quantifier asks -/
def Pl.Qn.need (k : Qn) (n : Nat) : Nat := match k with | .A => n | .S => 1 | .c2 => 2 | .c3 => 3 | .c4 => 4
theorem says_need (k : Qn) {n c : Nat} (h : c ≤ n) : k.says n c = decide (k.need n ≤ c) := by
  rw [Bool.eq_iff_iff, decide_eq_true_eq]
  cases k
  · show (c == n) = true ↔ n ≤ c
    rw [beq_iff_eq]; omega
  · show decide (0 < c) = true ↔ 1 ≤ c
    rw [decide_eq_true_eq]; omega
  · show decide (2 ≤ c) = true ↔ 2 ≤ c
    rw [decide_eq_true_eq]
  · show decide (3 ≤ c) = true ↔ 3 ≤ c
    rw [decide_eq_true_eq]
  · show decide (4 ≤ c) = true ↔ 4 ≤ c
    rw [decide_eq_true_eq]
theorem says_enough (k : Qn) {n x : Nat} {p : Nat → Bool} (hx : x ≤ n) (h : k.need n ≤ Pl.cnt x p) : k.says n (Pl.cnt n p) = true := by
  rw [says_need k (cnt_le n p), decide_eq_true_eq]
  have := cnt_split n x p hx
  omega
theorem says_never (k : Qn) {n x : Nat} {p : Nat → Bool} (hx : x ≤ n) (h : Pl.cnt x p + (n - x) < k.need n) : k.says n (Pl.cnt n p) = false := by
  rw [says_need k (cnt_le n p), decide_eq_false_iff_not]
  have := cnt_split n x p hx
  omega
/-- the elements of the four variables, as a value -/
def envA4 (e : Env) : Array Value := #[.int .i64 (e 0 : Nat), .int .i64 (e 1 : Nat), .int .i64 (e 2 : Nat), .int .i64 (e 3 : Nat)]
theorem envA_upd (e : Env) (v : Fin 4) (x : Nat) : (envA4 e).setIfInBounds v.val (.int .i64 (x : Nat)) = envA4 (upd e v x) := by
  have : v = 0 ∨ v = 1 ∨ v = 2 ∨ v = 3 := by revert v; decide
  rcases this with rfl | rfl | rfl | rfl <;> rfl
theorem env_at (e : Env) (v : Fin 4) : (envA4 e)[v.val]? = some (.int .i64 (e v : Nat)) := by
  have : v = 0 ∨ v = 1 ∨ v = 2 ∨ v = 3 := by revert v; decide
  rcases this with rfl | rfl | rfl | rfl <;> rfl
theorem upd_upd (e e' : Env) (v : Fin 4) (x : Nat) (h : ∀ u, u ≠ v → e' u = e u) : upd e' v x = upd e v x := by
  funext u
  unfold upd
  by_cases hu : u = v
  · simp [hu]
  · simp [hu, h u hu]

end Go.Proofs.YtpaleogkgfclnaaDoor

namespace Go.Proofs.YtpaleogkgfclnaaDoor
open Go.RowKit
open Pl
set_option linter.unusedSimpArgs false
set_option linter.unusedVariables false

end Go.Proofs.YtpaleogkgfclnaaDoor

namespace Go.Proofs.YtpaleogkgfclnaaDoor
open Go.RowKit
open Pl
set_option linter.unusedSimpArgs false
set_option linter.unusedVariables false

end Go.Proofs.YtpaleogkgfclnaaDoor

namespace Go.Proofs.YtpaleogkgfclnaaDoor
open Go.RowKit
open Pl
set_option linter.unusedSimpArgs false
set_option linter.unusedVariables false

end Go.Proofs.YtpaleogkgfclnaaDoor

namespace Go.Proofs.YtpaleogkgfclnaaDoor
open Go.RowKit
open Pl
set_option linter.unusedSimpArgs false
set_option linter.unusedVariables false

end Go.Proofs.YtpaleogkgfclnaaDoor

namespace Go.Proofs.YtpaleogkgfclnaaDoor
open Go.RowKit
open Pl
set_option linter.unusedSimpArgs false
set_option linter.unusedVariables false

end Go.Proofs.YtpaleogkgfclnaaDoor

namespace Go.Proofs.YtpaleogkgfclnaaDoor
open Go.RowKit
open Pl
set_option linter.unusedSimpArgs false
set_option linter.unusedVariables false

end Go.Proofs.YtpaleogkgfclnaaDoor

namespace Go.Proofs.YtpaleogkgfclnaaDoor
open Go.RowKit
open Pl
set_option linter.unusedSimpArgs false
set_option linter.unusedVariables false

end Go.Proofs.YtpaleogkgfclnaaDoor

namespace Go.Proofs.YtpaleogkgfclnaaDoor
open Go.RowKit
open Pl
set_option linter.unusedSimpArgs false
set_option linter.unusedVariables false

end Go.Proofs.YtpaleogkgfclnaaDoor

namespace Go.Proofs.YtpaleogkgfclnaaDoor
open Go.RowKit
open Pl
set_option linter.unusedSimpArgs false
set_option linter.unusedVariables false

end Go.Proofs.YtpaleogkgfclnaaDoor

namespace Go.Proofs.YtpaleogkgfclnaaDoor
open Go.RowKit
open Pl
set_option linter.unusedSimpArgs false
set_option linter.unusedVariables false

end Go.Proofs.YtpaleogkgfclnaaDoor

namespace Go.Proofs.YtpaleogkgfclnaaDoor
open Go.RowKit
open Pl
set_option linter.unusedSimpArgs false
set_option linter.unusedVariables false

end Go.Proofs.YtpaleogkgfclnaaDoor

namespace Go.Proofs.YtpaleogkgfclnaaDoor
open Go.RowKit
open Pl
set_option linter.unusedSimpArgs false
set_option linter.unusedVariables false

theorem div_natS (m k : Nat) : (m : Int) / 2 ^ k = ((m / 2 ^ k : Nat) : Int) := by
  rw [Int.natCast_ediv, Int.natCast_pow]; rfl
theorem st_ofS {i : Int} {s r : ByteArray} (h : okB i s r = true) : ∃ a : St, a.ok ∧ i = a.n ∧ s = bs a.set ∧ r = bs a.rel := by
  rcases ok_cases i s r with h2 | h2
  · rw [h] at h2; cases h2
  · exact h2
theorem el_inS (n : Nat) (z : Int) : (decide (0 ≤ z) && decide (z ≤ (n : Int) - 1)) = elB n z := by
  unfold elB
  congr 1
  rw [decide_eq_decide]; omega
theorem elAll_of {i : Int} {zs : List Int} (h : ∀ j, j < zs.length → elB i (zs.getD j 0) = true) : elAll i zs = true := by
  unfold elAll
  rw [List.all_eq_true]
  intro z hz
  obtain ⟨j, hj, rfl⟩ := List.getElem_of_mem hz
  have := h j hj
  rwa [List.getD_eq_getElem?_getD, List.getElem?_eq_getElem hj] at this
theorem elAll_not {i : Int} {zs : List Int} {j : Nat} (hj : j < zs.length) (h : elB i (zs.getD j 0) = false) : elAll i zs = false := by
  refine Bool.eq_false_iff.2 fun hq => ?_
  unfold elAll at hq
  have := List.all_eq_true.1 hq (zs.getD j 0) (by rw [List.getD_eq_getElem?_getD, List.getElem?_eq_getElem hj]; exact List.getElem_mem hj)
  rw [h] at this; cases this
/-- the elements so far -/
def envK (zs : List Int) (k : Nat) : Env := fun v => if v.val < k then (zs.getD v.val 0).toNat else 0
theorem envK_succ (zs : List Int) (k : Nat) (hk : k < 4) (x : Nat) (hx : zs.getD k 0 = (x : Int)) : upd (envK zs k) ⟨k, hk⟩ x = envK zs (k + 1) := by
  funext u
  unfold upd envK
  by_cases hu : u = ⟨k, hk⟩
  · subst hu
    simp only [if_true, hx]
    rw [if_pos (by omega)]
    rfl
  · have : u.val ≠ k := fun e => hu (Fin.ext e)
    rw [if_neg hu]
    by_cases h2 : u.val < k
    · rw [if_pos h2, if_pos (by omega)]
    · rw [if_neg h2, if_neg (by omega)]
theorem envK_all (zs : List Int) : envK zs zs.length = envL (zs.map Int.toNat) := by
  funext u
  unfold envK envL
  by_cases h : u.val < zs.length
  · rw [if_pos h, List.getD_eq_getElem?_getD, List.getD_eq_getElem?_getD, List.getElem?_map, List.getElem?_eq_getElem h]; rfl
  · rw [if_neg h, List.getD_eq_getElem?_getD, List.getElem?_map, List.getElem?_eq_none (by omega)]; rfl

end Go.Proofs.YtpaleogkgfclnaaDoor
