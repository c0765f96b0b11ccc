/-
  Laws of the functions that the claim reaches, one after the other (packed by a program of the prover's: SHoldsc3, SHoldsc4, SHolds, StV, SHAt, FmB, GsH, FvP, WFreeVars). Conditions: texts below the reach.
-/
import Derived.Test.YtgiaebeoldigbaaDoorPk8
import Derived.Test.YtgiaebeoldigbaaDoorPk0
import Derived.Test.YtgiaebeoldigbaaDoorPk7
import Derived.Test.YtgiaebeoldigbaaDoorPk4
import Derived.Test.YtgiaebeoldigbaaDoorPk3
import Derived.Test.YtgiaebeoldigbaaDoorPk1
set_option linter.unusedSimpArgs false
set_option linter.unusedVariables false

namespace Go.Proofs.YtgiaebeoldigbaaDoor
open Go.RowKit
open Pl
set_option linter.unusedSimpArgs false
set_option linter.unusedVariables false

set_option maxHeartbeats 4000000 in
set_option maxRecDepth 100000 in
theorem sh_c3 (a : St) (ha : a.ok) (v : Fin 4) (p : Fm) (Ih : SHAt a p) : SHAt a (.qu .c3 v p) := by
  intro s k r m e w hd hs hm he
  subst hm
  obtain ⟨hk1, hop, hle⟩ := at_op hd
  have h8 := ha.hi
  have XS := Lib.hid ((Bx.new w 24 #[.int .i64 (a.n : Int), .string (bs a.set), .string (bs a.rel)]).alloc (.cells #[.int .i64 (e 0 : Nat), .int .i64 (e 1 : Nat), .int .i64 (e 2 : Nat), .int .i64 (e 3 : Nat)] 71))
  have XE := Lib.hid (show Bx ((w.alloc (.cells #[.int .i64 (a.n : Int), .string (bs a.set), .string (bs a.rel)] 24)).alloc (.cells #[.int .i64 (e 0 : Nat), .int .i64 (e 1 : Nat), .int .i64 (e 2 : Nat), .int .i64 (e 3 : Nat)] 71)) (w.heap.size + 1) 71 #[.int .i64 (e 0 : Nat), .int .i64 (e 1 : Nat), .int .i64 (e 2 : Nat), .int .i64 (e 3 : Nat)] from bx_two w _ _)
  have BV := Lib.hid (show Below w.heap.size w ((w.alloc (.cells #[.int .i64 (a.n : Int), .string (bs a.set), .string (bs a.rel)] 24)).alloc (.cells #[.int .i64 (e 0 : Nat), .int .i64 (e 1 : Nat), .int .i64 (e 2 : Nat), .int .i64 (e 3 : Nat)] 71)) from ((Below.refl _ _).alloc (Nat.le_refl _) _).alloc (by simp) _)
  obtain ⟨s0, s1, s2⟩ := box_load XS.out
  have hev : ∀ v : Fin 4, ((w.alloc (.cells #[.int .i64 (a.n : Int), .string (bs a.set), .string (bs a.rel)] 24)).alloc (.cells #[.int .i64 (e 0 : Nat), .int .i64 (e 1 : Nat), .int .i64 (e 2 : Nat), .int .i64 (e 3 : Nat)] 71)).cell? ⟨w.heap.size + 1, v.val, none⟩ = some (.int .i64 (e v : Nat)) := fun v => (XE.out.cell v.val).trans (env_at e v)
  have c0 := XE.out.cell 0
  have c1 := XE.out.cell 1
  have c2 := XE.out.cell 2
  have c3 := XE.out.cell 3
  simp only [List.getElem?_toArray, List.getElem?_cons_zero, List.getElem?_cons_succ] at c0 c1 c2 c3
  have Hev := Lib.hid hev
  have He := Lib.hid he
  clear hev he
  unfold stA envA4
  have hk := hk1
  have hb : (s[k].toNat : Int) = 51 := by rw [hop]; rfl
  have hd1 := at_qu hd
  have hdv : s.data.toList.drop (k + 1) = vb v :: (p.text ++ r) := drop_add_of (p := [Qn.b .c3]) (by simpa [Fm.text] using hd)
  have h1 := fun W => l2Var_of s (k + 1) v _ ((k : Int) + 1) W hs hdv (by omega)
  have hend := fun W => l2End_of s (k + 2) p _ ((k : Int) + 2) W hs hd1 (by omega)
  simp only [Fm.text, List.length_cons] at hle
  have hv3 : (v.val : Int) < 4 := by omega
  have H1 := Lib.hid h1
  have Hend := Lib.hid hend
  have Hd1 := Lib.hid hd1
  clear hd hd1 hdv h1 hend
  clear hop
  go_enter Tryd.func82, Tryd.ntmps82
  go_wp2_with fail
  go_loopg [15, 16] (a.n + 1) (fun c cn xi wr => ∃ x : Nat, x + c = a.n + 1 ∧ x ≤ a.n ∧ xi = .int .i64 (x : Nat) ∧ cn = .int .i64 (cnt x (fun y => p.holds a (upd e v y)) : Nat) ∧ Bx wr w.heap.size 24 #[.int .i64 (a.n : Int), .string (bs a.set), .string (bs a.rel)] ∧ (∃ e' : Env, (∀ u, u ≠ v → e' u = e u) ∧ Bx wr (w.heap.size + 1) 71 #[.int .i64 (e' 0 : Nat), .int .i64 (e' 1 : Nat), .int .i64 (e' 2 : Nat), .int .i64 (e' 3 : Nat)]) ∧ Below w.heap.size w wr)
  case atStart => exact ⟨0, by omega, by omega, rfl, rfl, XS.out, ⟨e, fun _ _ => rfl, XE.out⟩, BV.out⟩
  case round =>
    clear s0 s1 s2 c0 c1 c2 c3
    obtain ⟨x, hx, hxn, rfl, rfl, hN, ⟨e', hE', hVl⟩, hf⟩ := hrel
    have hcn := cnt_le x (fun y => p.holds a (upd e v y))
    have hcs := cnt_succ x (fun y => p.holds a (upd e v y))
    have hen := fun h => @says_enough .c3 a.n x (fun y => p.holds a (upd e v y)) hxn h
    have hne := fun h h2 => @says_never .c3 a.n (x + 1) (fun y => p.holds a (upd e v y)) h h2
    have Hen := Lib.hid hen
    have Hne := Lib.hid hne
    have Hcs := Lib.hid hcs
    have HN := Lib.hid hN
    have HVl := Lib.hid hVl
    have HF := Lib.hid hf
    obtain ⟨Z, hZ⟩ : ∃ Z, Z = cnt x (fun y => p.holds a (upd e v y)) := ⟨_, rfl⟩
    have HZ := Lib.hid hZ
    rw [← hZ] at hcn ⊢
    clear hen hne hcs hN hVl hf hZ
    by_cases hlt : x < a.n
    · by_cases hgo : Z < 3
      · obtain ⟨s0, s1, s2⟩ := box_load HN.out
        have fv := HVl.out.free v.val
        have XS1 := Lib.hid (show Bx (wr.setCell ⟨w.heap.size + 1, v.val, none⟩ (.int .i64 (x : Nat))) w.heap.size 24 #[.int .i64 (a.n : Int), .string (bs a.set), .string (bs a.rel)] from HN.out.far (by simp) _)
        have XE1 := Lib.hid (show Bx (wr.setCell ⟨w.heap.size + 1, v.val, none⟩ (.int .i64 (x : Nat))) (w.heap.size + 1) 71 (envA4 (upd e v x)) from by
          have := HVl.out.set v.val (.int .i64 (x : Nat))
          rw [show (#[.int .i64 (e' 0 : Nat), .int .i64 (e' 1 : Nat), .int .i64 (e' 2 : Nat), .int .i64 (e' 3 : Nat)] : Array Value).setIfInBounds v.val (.int .i64 (x : Nat)) = envA4 (upd e v x) from by rw [← upd_upd e e' v x hE']; exact envA_upd e' v x] at this
          exact this)
        have B1 := Lib.hid (show Below w.heap.size w (wr.setCell ⟨w.heap.size + 1, v.val, none⟩ (.int .i64 (x : Nat))) from HF.out.setCell (by simp) _)
        have hlt' : upd e v x v < a.n := by rw [upd_same]; exact hlt
        have hcall := fun W => Ih s (k + 2) r ((k : Int) + 2) (upd e v x) W Hd1.out hs (by omega) (fun u => by unfold upd; split; exact hlt; exact He.out u)
        obtain ⟨E, hE⟩ : ∃ E, E = upd e v x := ⟨_, rfl⟩
        rw [← hE] at XE1
        simp only [← hE] at hcall
        unfold stA envA4 at hcall
        have HE := Lib.hid hE
        have cv := (HVl.out.cell v.val).trans (env_at e' v)
        clear hE' hE hlt'
        cases hp : p.holds a E with
        | false =>
          simp only [hp] at hcall
          have Hcall := Lib.hid hcall
          have hz1 : cnt (x + 1) (fun y => p.holds a (upd e v y)) = Z := by rw [Hcs.out, ← HE.out, hp, ← HZ.out]; rfl
          have Hz1 := Lib.hid hz1
          clear hcall hp hz1
          by_cases hbr : Z + (a.n - x - 1) < 3
          · have hv := Hne.out (by omega) (by rw [Hz1.out]; show Z + (a.n - (x + 1)) < 3; omega)
            have Hv := Lib.hid hv
            clear hv
            go_upto_region 33 with (go_at_call 80; refine (H1.out _).mono ?_; rintro ed w' ⟨rfl, rfl⟩)
            obtain ⟨r0, r1, r2⟩ := box_load XS1.out
            have d0 := XE1.out.cell 0
            have d1 := XE1.out.cell 1
            have d2 := XE1.out.cell 2
            have d3 := XE1.out.cell 3
            simp only [envA4, List.getElem?_toArray, List.getElem?_cons_zero, List.getElem?_cons_succ] at d0 d1 d2 d3
            clear s0 s1 s2 fv cv
            go_wp2_with (first | (go_at_call 82; refine (Hcall.out _).mono ?_; rintro ed w3 ⟨rfl, hz⟩; have B3 := Lib.hid (B1.out.trans (hz.mono B1.out.size)); have XS3 := Lib.hid (XS1.out.call hz); have XE3 := Lib.hid (XE1.out.call hz); clear hz r0 r1 r2 d0 d1 d2 d3; obtain ⟨t0, t1, t2⟩ := box_load XS3.out) | (go_at_call 79; refine (Hend.out _).mono ?_; rintro ed w7 ⟨rfl, rfl⟩))
            go_ret2
            exact ⟨ret_pair (by show Value.bool _ = Value.bool _; (congr 1; rw [show (Fm.qu .c3 v p).holds a e = false from Hv.out]; first | done | (simp; done) | (simp; omega))) (by show Value.int .i64 _ = Value.int .i64 _; congr 1 <;> simp [Fm.text] <;> omega), B3.out⟩
          · go_upto_region 33 with (go_at_call 80; refine (H1.out _).mono ?_; rintro ed w' ⟨rfl, rfl⟩)
            obtain ⟨r0, r1, r2⟩ := box_load XS1.out
            have d0 := XE1.out.cell 0
            have d1 := XE1.out.cell 1
            have d2 := XE1.out.cell 2
            have d3 := XE1.out.cell 3
            simp only [envA4, List.getElem?_toArray, List.getElem?_cons_zero, List.getElem?_cons_succ] at d0 d1 d2 d3
            clear s0 s1 s2 fv cv
            go_wp2_with (go_at_call 82; refine (Hcall.out _).mono ?_; rintro ed w3 ⟨rfl, hz⟩; have B3 := Lib.hid (B1.out.trans (hz.mono B1.out.size)); have XS3 := Lib.hid (XS1.out.call hz); have XE3 := Lib.hid (XE1.out.call hz); clear hz r0 r1 r2 d0 d1 d2 d3; obtain ⟨t0, t1, t2⟩ := box_load XS3.out)
            go_roundg (a.n - x)
            case rel => exact ⟨x + 1, by omega, by omega, by go_num, by first | (rw [Hz1.out]; done) | (rw [Hz1.out]; rfl), XS3.out, ⟨E, fun u hu => by rw [HE.out, upd_other hu], XE3.out⟩, B3.out⟩
            case measure => omega
        | true =>
          simp only [hp] at hcall
          have Hcall := Lib.hid hcall
          have hz1 : cnt (x + 1) (fun y => p.holds a (upd e v y)) = Z + 1 := by rw [Hcs.out, ← HE.out, hp, ← HZ.out]; rfl
          have Hz1 := Lib.hid hz1
          clear hcall hp hz1
          by_cases hbr : Z + 1 + (a.n - x - 1) < 3
          · have hv := Hne.out (by omega) (by rw [Hz1.out]; show Z + 1 + (a.n - (x + 1)) < 3; omega)
            have Hv := Lib.hid hv
            clear hv
            go_upto_region 33 with (go_at_call 80; refine (H1.out _).mono ?_; rintro ed w' ⟨rfl, rfl⟩)
            obtain ⟨r0, r1, r2⟩ := box_load XS1.out
            have d0 := XE1.out.cell 0
            have d1 := XE1.out.cell 1
            have d2 := XE1.out.cell 2
            have d3 := XE1.out.cell 3
            simp only [envA4, List.getElem?_toArray, List.getElem?_cons_zero, List.getElem?_cons_succ] at d0 d1 d2 d3
            clear s0 s1 s2 fv cv
            go_wp2_with (first | (go_at_call 82; refine (Hcall.out _).mono ?_; rintro ed w3 ⟨rfl, hz⟩; have B3 := Lib.hid (B1.out.trans (hz.mono B1.out.size)); have XS3 := Lib.hid (XS1.out.call hz); have XE3 := Lib.hid (XE1.out.call hz); clear hz r0 r1 r2 d0 d1 d2 d3; obtain ⟨t0, t1, t2⟩ := box_load XS3.out) | (go_at_call 79; refine (Hend.out _).mono ?_; rintro ed w7 ⟨rfl, rfl⟩))
            go_ret2
            exact ⟨ret_pair (by show Value.bool _ = Value.bool _; (congr 1; rw [show (Fm.qu .c3 v p).holds a e = false from Hv.out]; first | done | (simp; done) | (simp; omega))) (by show Value.int .i64 _ = Value.int .i64 _; congr 1 <;> simp [Fm.text] <;> omega), B3.out⟩
          · go_upto_region 33 with (go_at_call 80; refine (H1.out _).mono ?_; rintro ed w' ⟨rfl, rfl⟩)
            obtain ⟨r0, r1, r2⟩ := box_load XS1.out
            have d0 := XE1.out.cell 0
            have d1 := XE1.out.cell 1
            have d2 := XE1.out.cell 2
            have d3 := XE1.out.cell 3
            simp only [envA4, List.getElem?_toArray, List.getElem?_cons_zero, List.getElem?_cons_succ] at d0 d1 d2 d3
            clear s0 s1 s2 fv cv
            go_wp2_with (go_at_call 82; refine (Hcall.out _).mono ?_; rintro ed w3 ⟨rfl, hz⟩; have B3 := Lib.hid (B1.out.trans (hz.mono B1.out.size)); have XS3 := Lib.hid (XS1.out.call hz); have XE3 := Lib.hid (XE1.out.call hz); clear hz r0 r1 r2 d0 d1 d2 d3; obtain ⟨t0, t1, t2⟩ := box_load XS3.out)
            go_roundg (a.n - x)
            case rel => exact ⟨x + 1, by omega, by omega, by go_num, by first | (rw [Hz1.out]; done) | (rw [Hz1.out]; rfl), XS3.out, ⟨E, fun u hu => by rw [HE.out, upd_other hu], XE3.out⟩, B3.out⟩
            case measure => omega
      · obtain ⟨s0, s1, s2⟩ := box_load HN.out
        have hv := Hen.out (by rw [← HZ.out]; show 3 ≤ Z; omega)
        have Hv := Lib.hid hv
        clear hv
        go_wp2_with (go_at_call 79; refine (Hend.out _).mono ?_; rintro ed w7 ⟨rfl, rfl⟩)
        go_ret2
        exact ⟨ret_pair (by show Value.bool _ = Value.bool _; (congr 1; rw [show (Fm.qu .c3 v p).holds a e = true from Hv.out]; first | done | (simp; done) | (simp; omega))) (by show Value.int .i64 _ = Value.int .i64 _; congr 1 <;> simp [Fm.text] <;> omega), HF.out⟩
    · have hxe : x = a.n := by omega
      obtain ⟨s0, s1, s2⟩ := box_load HN.out
      have hv : (Fm.qu .c3 v p).holds a e = decide (3 ≤ Z) := by
        show Qn.says .c3 a.n (cnt a.n (fun y => p.holds a (upd e v y))) = _
        rw [← hxe, ← HZ.out, says_need _ hcn]
        rfl
      have Hv := Lib.hid hv
      clear hv
      go_wp2_with (go_at_call 79; refine (Hend.out _).mono ?_; rintro ed w7 ⟨rfl, rfl⟩)
      go_ret2
      exact ⟨ret_pair (by show Value.bool _ = Value.bool _; (congr 1; rw [Hv.out, decide_eq_decide]; first | done | omega)) (by show Value.int .i64 _ = Value.int .i64 _; congr 1 <;> simp [Fm.text] <;> omega), HF.out⟩



end Go.Proofs.YtgiaebeoldigbaaDoor

namespace Go.Proofs.YtgiaebeoldigbaaDoor
open Go.RowKit
open Pl
set_option linter.unusedSimpArgs false
set_option linter.unusedVariables false

set_option maxHeartbeats 4000000 in
set_option maxRecDepth 100000 in
theorem sh_c4 (a : St) (ha : a.ok) (v : Fin 4) (p : Fm) (Ih : SHAt a p) : SHAt a (.qu .c4 v p) := by
  intro s k r m e w hd hs hm he
  subst hm
  obtain ⟨hk1, hop, hle⟩ := at_op hd
  have h8 := ha.hi
  have XS := Lib.hid ((Bx.new w 24 #[.int .i64 (a.n : Int), .string (bs a.set), .string (bs a.rel)]).alloc (.cells #[.int .i64 (e 0 : Nat), .int .i64 (e 1 : Nat), .int .i64 (e 2 : Nat), .int .i64 (e 3 : Nat)] 71))
  have XE := Lib.hid (show Bx ((w.alloc (.cells #[.int .i64 (a.n : Int), .string (bs a.set), .string (bs a.rel)] 24)).alloc (.cells #[.int .i64 (e 0 : Nat), .int .i64 (e 1 : Nat), .int .i64 (e 2 : Nat), .int .i64 (e 3 : Nat)] 71)) (w.heap.size + 1) 71 #[.int .i64 (e 0 : Nat), .int .i64 (e 1 : Nat), .int .i64 (e 2 : Nat), .int .i64 (e 3 : Nat)] from bx_two w _ _)
  have BV := Lib.hid (show Below w.heap.size w ((w.alloc (.cells #[.int .i64 (a.n : Int), .string (bs a.set), .string (bs a.rel)] 24)).alloc (.cells #[.int .i64 (e 0 : Nat), .int .i64 (e 1 : Nat), .int .i64 (e 2 : Nat), .int .i64 (e 3 : Nat)] 71)) from ((Below.refl _ _).alloc (Nat.le_refl _) _).alloc (by simp) _)
  obtain ⟨s0, s1, s2⟩ := box_load XS.out
  have hev : ∀ v : Fin 4, ((w.alloc (.cells #[.int .i64 (a.n : Int), .string (bs a.set), .string (bs a.rel)] 24)).alloc (.cells #[.int .i64 (e 0 : Nat), .int .i64 (e 1 : Nat), .int .i64 (e 2 : Nat), .int .i64 (e 3 : Nat)] 71)).cell? ⟨w.heap.size + 1, v.val, none⟩ = some (.int .i64 (e v : Nat)) := fun v => (XE.out.cell v.val).trans (env_at e v)
  have c0 := XE.out.cell 0
  have c1 := XE.out.cell 1
  have c2 := XE.out.cell 2
  have c3 := XE.out.cell 3
  simp only [List.getElem?_toArray, List.getElem?_cons_zero, List.getElem?_cons_succ] at c0 c1 c2 c3
  have Hev := Lib.hid hev
  have He := Lib.hid he
  clear hev he
  unfold stA envA4
  have hk := hk1
  have hb : (s[k].toNat : Int) = 52 := by rw [hop]; rfl
  have hd1 := at_qu hd
  have hdv : s.data.toList.drop (k + 1) = vb v :: (p.text ++ r) := drop_add_of (p := [Qn.b .c4]) (by simpa [Fm.text] using hd)
  have h1 := fun W => l2Var_of s (k + 1) v _ ((k : Int) + 1) W hs hdv (by omega)
  have hend := fun W => l2End_of s (k + 2) p _ ((k : Int) + 2) W hs hd1 (by omega)
  simp only [Fm.text, List.length_cons] at hle
  have hv3 : (v.val : Int) < 4 := by omega
  have H1 := Lib.hid h1
  have Hend := Lib.hid hend
  have Hd1 := Lib.hid hd1
  clear hd hd1 hdv h1 hend
  clear hop
  go_enter Tryd.func82, Tryd.ntmps82
  go_wp2_with fail
  go_loopg [15, 16] (a.n + 1) (fun c cn xi wr => ∃ x : Nat, x + c = a.n + 1 ∧ x ≤ a.n ∧ xi = .int .i64 (x : Nat) ∧ cn = .int .i64 (cnt x (fun y => p.holds a (upd e v y)) : Nat) ∧ Bx wr w.heap.size 24 #[.int .i64 (a.n : Int), .string (bs a.set), .string (bs a.rel)] ∧ (∃ e' : Env, (∀ u, u ≠ v → e' u = e u) ∧ Bx wr (w.heap.size + 1) 71 #[.int .i64 (e' 0 : Nat), .int .i64 (e' 1 : Nat), .int .i64 (e' 2 : Nat), .int .i64 (e' 3 : Nat)]) ∧ Below w.heap.size w wr)
  case atStart => exact ⟨0, by omega, by omega, rfl, rfl, XS.out, ⟨e, fun _ _ => rfl, XE.out⟩, BV.out⟩
  case round =>
    clear s0 s1 s2 c0 c1 c2 c3
    obtain ⟨x, hx, hxn, rfl, rfl, hN, ⟨e', hE', hVl⟩, hf⟩ := hrel
    have hcn := cnt_le x (fun y => p.holds a (upd e v y))
    have hcs := cnt_succ x (fun y => p.holds a (upd e v y))
    have hen := fun h => @says_enough .c4 a.n x (fun y => p.holds a (upd e v y)) hxn h
    have hne := fun h h2 => @says_never .c4 a.n (x + 1) (fun y => p.holds a (upd e v y)) h h2
    have Hen := Lib.hid hen
    have Hne := Lib.hid hne
    have Hcs := Lib.hid hcs
    have HN := Lib.hid hN
    have HVl := Lib.hid hVl
    have HF := Lib.hid hf
    obtain ⟨Z, hZ⟩ : ∃ Z, Z = cnt x (fun y => p.holds a (upd e v y)) := ⟨_, rfl⟩
    have HZ := Lib.hid hZ
    rw [← hZ] at hcn ⊢
    clear hen hne hcs hN hVl hf hZ
    by_cases hlt : x < a.n
    · by_cases hgo : Z < 4
      · obtain ⟨s0, s1, s2⟩ := box_load HN.out
        have fv := HVl.out.free v.val
        have XS1 := Lib.hid (show Bx (wr.setCell ⟨w.heap.size + 1, v.val, none⟩ (.int .i64 (x : Nat))) w.heap.size 24 #[.int .i64 (a.n : Int), .string (bs a.set), .string (bs a.rel)] from HN.out.far (by simp) _)
        have XE1 := Lib.hid (show Bx (wr.setCell ⟨w.heap.size + 1, v.val, none⟩ (.int .i64 (x : Nat))) (w.heap.size + 1) 71 (envA4 (upd e v x)) from by
          have := HVl.out.set v.val (.int .i64 (x : Nat))
          rw [show (#[.int .i64 (e' 0 : Nat), .int .i64 (e' 1 : Nat), .int .i64 (e' 2 : Nat), .int .i64 (e' 3 : Nat)] : Array Value).setIfInBounds v.val (.int .i64 (x : Nat)) = envA4 (upd e v x) from by rw [← upd_upd e e' v x hE']; exact envA_upd e' v x] at this
          exact this)
        have B1 := Lib.hid (show Below w.heap.size w (wr.setCell ⟨w.heap.size + 1, v.val, none⟩ (.int .i64 (x : Nat))) from HF.out.setCell (by simp) _)
        have hlt' : upd e v x v < a.n := by rw [upd_same]; exact hlt
        have hcall := fun W => Ih s (k + 2) r ((k : Int) + 2) (upd e v x) W Hd1.out hs (by omega) (fun u => by unfold upd; split; exact hlt; exact He.out u)
        obtain ⟨E, hE⟩ : ∃ E, E = upd e v x := ⟨_, rfl⟩
        rw [← hE] at XE1
        simp only [← hE] at hcall
        unfold stA envA4 at hcall
        have HE := Lib.hid hE
        have cv := (HVl.out.cell v.val).trans (env_at e' v)
        clear hE' hE hlt'
        cases hp : p.holds a E with
        | false =>
          simp only [hp] at hcall
          have Hcall := Lib.hid hcall
          have hz1 : cnt (x + 1) (fun y => p.holds a (upd e v y)) = Z := by rw [Hcs.out, ← HE.out, hp, ← HZ.out]; rfl
          have Hz1 := Lib.hid hz1
          clear hcall hp hz1
          by_cases hbr : Z + (a.n - x - 1) < 4
          · have hv := Hne.out (by omega) (by rw [Hz1.out]; show Z + (a.n - (x + 1)) < 4; omega)
            have Hv := Lib.hid hv
            clear hv
            go_upto_region 33 with (go_at_call 80; refine (H1.out _).mono ?_; rintro ed w' ⟨rfl, rfl⟩)
            obtain ⟨r0, r1, r2⟩ := box_load XS1.out
            have d0 := XE1.out.cell 0
            have d1 := XE1.out.cell 1
            have d2 := XE1.out.cell 2
            have d3 := XE1.out.cell 3
            simp only [envA4, List.getElem?_toArray, List.getElem?_cons_zero, List.getElem?_cons_succ] at d0 d1 d2 d3
            clear s0 s1 s2 fv cv
            go_wp2_with (first | (go_at_call 82; refine (Hcall.out _).mono ?_; rintro ed w3 ⟨rfl, hz⟩; have B3 := Lib.hid (B1.out.trans (hz.mono B1.out.size)); have XS3 := Lib.hid (XS1.out.call hz); have XE3 := Lib.hid (XE1.out.call hz); clear hz r0 r1 r2 d0 d1 d2 d3; obtain ⟨t0, t1, t2⟩ := box_load XS3.out) | (go_at_call 79; refine (Hend.out _).mono ?_; rintro ed w7 ⟨rfl, rfl⟩))
            go_ret2
            exact ⟨ret_pair (by show Value.bool _ = Value.bool _; (congr 1; rw [show (Fm.qu .c4 v p).holds a e = false from Hv.out]; first | done | (simp; done) | (simp; omega))) (by show Value.int .i64 _ = Value.int .i64 _; congr 1 <;> simp [Fm.text] <;> omega), B3.out⟩
          · go_upto_region 33 with (go_at_call 80; refine (H1.out _).mono ?_; rintro ed w' ⟨rfl, rfl⟩)
            obtain ⟨r0, r1, r2⟩ := box_load XS1.out
            have d0 := XE1.out.cell 0
            have d1 := XE1.out.cell 1
            have d2 := XE1.out.cell 2
            have d3 := XE1.out.cell 3
            simp only [envA4, List.getElem?_toArray, List.getElem?_cons_zero, List.getElem?_cons_succ] at d0 d1 d2 d3
            clear s0 s1 s2 fv cv
            go_wp2_with (go_at_call 82; refine (Hcall.out _).mono ?_; rintro ed w3 ⟨rfl, hz⟩; have B3 := Lib.hid (B1.out.trans (hz.mono B1.out.size)); have XS3 := Lib.hid (XS1.out.call hz); have XE3 := Lib.hid (XE1.out.call hz); clear hz r0 r1 r2 d0 d1 d2 d3; obtain ⟨t0, t1, t2⟩ := box_load XS3.out)
            go_roundg (a.n - x)
            case rel => exact ⟨x + 1, by omega, by omega, by go_num, by first | (rw [Hz1.out]; done) | (rw [Hz1.out]; rfl), XS3.out, ⟨E, fun u hu => by rw [HE.out, upd_other hu], XE3.out⟩, B3.out⟩
            case measure => omega
        | true =>
          simp only [hp] at hcall
          have Hcall := Lib.hid hcall
          have hz1 : cnt (x + 1) (fun y => p.holds a (upd e v y)) = Z + 1 := by rw [Hcs.out, ← HE.out, hp, ← HZ.out]; rfl
          have Hz1 := Lib.hid hz1
          clear hcall hp hz1
          by_cases hbr : Z + 1 + (a.n - x - 1) < 4
          · have hv := Hne.out (by omega) (by rw [Hz1.out]; show Z + 1 + (a.n - (x + 1)) < 4; omega)
            have Hv := Lib.hid hv
            clear hv
            go_upto_region 33 with (go_at_call 80; refine (H1.out _).mono ?_; rintro ed w' ⟨rfl, rfl⟩)
            obtain ⟨r0, r1, r2⟩ := box_load XS1.out
            have d0 := XE1.out.cell 0
            have d1 := XE1.out.cell 1
            have d2 := XE1.out.cell 2
            have d3 := XE1.out.cell 3
            simp only [envA4, List.getElem?_toArray, List.getElem?_cons_zero, List.getElem?_cons_succ] at d0 d1 d2 d3
            clear s0 s1 s2 fv cv
            go_wp2_with (first | (go_at_call 82; refine (Hcall.out _).mono ?_; rintro ed w3 ⟨rfl, hz⟩; have B3 := Lib.hid (B1.out.trans (hz.mono B1.out.size)); have XS3 := Lib.hid (XS1.out.call hz); have XE3 := Lib.hid (XE1.out.call hz); clear hz r0 r1 r2 d0 d1 d2 d3; obtain ⟨t0, t1, t2⟩ := box_load XS3.out) | (go_at_call 79; refine (Hend.out _).mono ?_; rintro ed w7 ⟨rfl, rfl⟩))
            go_ret2
            exact ⟨ret_pair (by show Value.bool _ = Value.bool _; (congr 1; rw [show (Fm.qu .c4 v p).holds a e = false from Hv.out]; first | done | (simp; done) | (simp; omega))) (by show Value.int .i64 _ = Value.int .i64 _; congr 1 <;> simp [Fm.text] <;> omega), B3.out⟩
          · go_upto_region 33 with (go_at_call 80; refine (H1.out _).mono ?_; rintro ed w' ⟨rfl, rfl⟩)
            obtain ⟨r0, r1, r2⟩ := box_load XS1.out
            have d0 := XE1.out.cell 0
            have d1 := XE1.out.cell 1
            have d2 := XE1.out.cell 2
            have d3 := XE1.out.cell 3
            simp only [envA4, List.getElem?_toArray, List.getElem?_cons_zero, List.getElem?_cons_succ] at d0 d1 d2 d3
            clear s0 s1 s2 fv cv
            go_wp2_with (go_at_call 82; refine (Hcall.out _).mono ?_; rintro ed w3 ⟨rfl, hz⟩; have B3 := Lib.hid (B1.out.trans (hz.mono B1.out.size)); have XS3 := Lib.hid (XS1.out.call hz); have XE3 := Lib.hid (XE1.out.call hz); clear hz r0 r1 r2 d0 d1 d2 d3; obtain ⟨t0, t1, t2⟩ := box_load XS3.out)
            go_roundg (a.n - x)
            case rel => exact ⟨x + 1, by omega, by omega, by go_num, by first | (rw [Hz1.out]; done) | (rw [Hz1.out]; rfl), XS3.out, ⟨E, fun u hu => by rw [HE.out, upd_other hu], XE3.out⟩, B3.out⟩
            case measure => omega
      · obtain ⟨s0, s1, s2⟩ := box_load HN.out
        have hv := Hen.out (by rw [← HZ.out]; show 4 ≤ Z; omega)
        have Hv := Lib.hid hv
        clear hv
        go_wp2_with (go_at_call 79; refine (Hend.out _).mono ?_; rintro ed w7 ⟨rfl, rfl⟩)
        go_ret2
        exact ⟨ret_pair (by show Value.bool _ = Value.bool _; (congr 1; rw [show (Fm.qu .c4 v p).holds a e = true from Hv.out]; first | done | (simp; done) | (simp; omega))) (by show Value.int .i64 _ = Value.int .i64 _; congr 1 <;> simp [Fm.text] <;> omega), HF.out⟩
    · have hxe : x = a.n := by omega
      obtain ⟨s0, s1, s2⟩ := box_load HN.out
      have hv : (Fm.qu .c4 v p).holds a e = decide (4 ≤ Z) := by
        show Qn.says .c4 a.n (cnt a.n (fun y => p.holds a (upd e v y))) = _
        rw [← hxe, ← HZ.out, says_need _ hcn]
        rfl
      have Hv := Lib.hid hv
      clear hv
      go_wp2_with (go_at_call 79; refine (Hend.out _).mono ?_; rintro ed w7 ⟨rfl, rfl⟩)
      go_ret2
      exact ⟨ret_pair (by show Value.bool _ = Value.bool _; (congr 1; rw [Hv.out, decide_eq_decide]; first | done | omega)) (by show Value.int .i64 _ = Value.int .i64 _; congr 1 <;> simp [Fm.text] <;> omega), HF.out⟩



end Go.Proofs.YtgiaebeoldigbaaDoor

namespace Go.Proofs.YtgiaebeoldigbaaDoor
open Go.RowKit
open Pl
set_option linter.unusedSimpArgs false
set_option linter.unusedVariables false

theorem l2Holds_all (a : St) (ha : a.ok) : ∀ f : Fm, SHAt a f := by
  intro f
  induction f with
  | tru => exact sh_tru a ha
  | fls => exact sh_fls a ha
  | pr v => exact sh_pr a ha v
  | eq v u => exact sh_eq a ha v u
  | rel v u => exact sh_rel a ha v u
  | neg p ih => exact sh_neg a ha p ih
  | con p q ih ih2 => exact sh_con a ha p q ih ih2
  | dis p q ih ih2 => exact sh_dis a ha p q ih ih2
  | qu k v p ih =>
    cases k with
    | A => exact sh_A a ha v p ih
    | S => exact sh_S a ha v p ih
    | c2 => exact sh_c2 a ha v p ih
    | c3 => exact sh_c3 a ha v p ih
    | c4 => exact sh_c4 a ha v p ih

end Go.Proofs.YtgiaebeoldigbaaDoor

namespace Go.Proofs.YtgiaebeoldigbaaDoor
open Go.RowKit
open Pl
set_option linter.unusedSimpArgs false
set_option linter.unusedVariables false

end Go.Proofs.YtgiaebeoldigbaaDoor

namespace Go.Proofs.YtgiaebeoldigbaaDoor
open Go.RowKit
open Pl
set_option linter.unusedSimpArgs false
set_option linter.unusedVariables false

theorem div_natS (m k : Nat) : (m : Int) / 2 ^ k = ((m / 2 ^ k : Nat) : Int) := by
  rw [Int.natCast_ediv, Int.natCast_pow]; rfl
theorem st_ofS {i : Int} {s r : ByteArray} (h : okB i s r = true) : ∃ a : St, a.ok ∧ i = a.n ∧ s = bs a.set ∧ r = bs a.rel := by
  rcases ok_cases i s r with h2 | h2
  · rw [h] at h2; cases h2
  · exact h2
theorem el_inS (n : Nat) (z : Int) : (decide (0 ≤ z) && decide (z ≤ (n : Int) - 1)) = elB n z := by
  unfold elB
  congr 1
  rw [decide_eq_decide]; omega
theorem elAll_of {i : Int} {zs : List Int} (h : ∀ j, j < zs.length → elB i (zs.getD j 0) = true) : elAll i zs = true := by
  unfold elAll
  rw [List.all_eq_true]
  intro z hz
  obtain ⟨j, hj, rfl⟩ := List.getElem_of_mem hz
  have := h j hj
  rwa [List.getD_eq_getElem?_getD, List.getElem?_eq_getElem hj] at this
theorem elAll_not {i : Int} {zs : List Int} {j : Nat} (hj : j < zs.length) (h : elB i (zs.getD j 0) = false) : elAll i zs = false := by
  refine Bool.eq_false_iff.2 fun hq => ?_
  unfold elAll at hq
  have := List.all_eq_true.1 hq (zs.getD j 0) (by rw [List.getD_eq_getElem?_getD, List.getElem?_eq_getElem hj]; exact List.getElem_mem hj)
  rw [h] at this; cases this
/-- the elements so far -/
def envK (zs : List Int) (k : Nat) : Env := fun v => if v.val < k then (zs.getD v.val 0).toNat else 0
theorem envK_succ (zs : List Int) (k : Nat) (hk : k < 4) (x : Nat) (hx : zs.getD k 0 = (x : Int)) : upd (envK zs k) ⟨k, hk⟩ x = envK zs (k + 1) := by
  funext u
  unfold upd envK
  by_cases hu : u = ⟨k, hk⟩
  · subst hu
    simp only [if_true, hx]
    rw [if_pos (by omega)]
    rfl
  · have : u.val ≠ k := fun e => hu (Fin.ext e)
    rw [if_neg hu]
    by_cases h2 : u.val < k
    · rw [if_pos h2, if_pos (by omega)]
    · rw [if_neg h2, if_neg (by omega)]
theorem envK_all (zs : List Int) : envK zs zs.length = envL (zs.map Int.toNat) := by
  funext u
  unfold envK envL
  by_cases h : u.val < zs.length
  · rw [if_pos h, List.getD_eq_getElem?_getD, List.getD_eq_getElem?_getD, List.getElem?_map, List.getElem?_eq_getElem h]; rfl
  · rw [if_neg h, List.getD_eq_getElem?_getD, List.getElem?_map, List.getElem?_eq_none (by omega)]; rfl

set_option maxHeartbeats 1000000 in
set_option maxRecDepth 100000 in
theorem l2True_calls (a : St) (ha : a.ok) (f : ByteArray) (g : Fm) (e : Env) (w : World) (hf : f.data.toList = g.text) (hs : f.size ≤ 4000) (he : ∀ v, e v < a.n) :
    Calls Tryd.prog 51 #[stA a, .string f, .agg (envA4 e)] w fun ed w' => ed = .returned (.bool (g.holds a e)) ∧ Below w.heap.size w w' := by
  have hc := fun W => l2Holds_all a ha g f 0 [] 0 e W (by simpa using hf) hs rfl he
  have XS := Lib.hid ((Bx.new w 24 #[.int .i64 (a.n : Int), .string (bs a.set), .string (bs a.rel)]).alloc (.cells #[.int .i64 (e 0 : Nat), .int .i64 (e 1 : Nat), .int .i64 (e 2 : Nat), .int .i64 (e 3 : Nat)] 71))
  have XE := Lib.hid (show Bx ((w.alloc (.cells #[.int .i64 (a.n : Int), .string (bs a.set), .string (bs a.rel)] 24)).alloc (.cells #[.int .i64 (e 0 : Nat), .int .i64 (e 1 : Nat), .int .i64 (e 2 : Nat), .int .i64 (e 3 : Nat)] 71)) (w.heap.size + 1) 71 #[.int .i64 (e 0 : Nat), .int .i64 (e 1 : Nat), .int .i64 (e 2 : Nat), .int .i64 (e 3 : Nat)] from bx_two w _ _)
  have BV := Lib.hid (show Below w.heap.size w ((w.alloc (.cells #[.int .i64 (a.n : Int), .string (bs a.set), .string (bs a.rel)] 24)).alloc (.cells #[.int .i64 (e 0 : Nat), .int .i64 (e 1 : Nat), .int .i64 (e 2 : Nat), .int .i64 (e 3 : Nat)] 71)) from ((Below.refl _ _).alloc (Nat.le_refl _) _).alloc (by simp) _)
  obtain ⟨s0, s1, s2⟩ := box_load XS.out
  have c0 := XE.out.cell 0
  have c1 := XE.out.cell 1
  have c2 := XE.out.cell 2
  have c3 := XE.out.cell 3
  simp only [List.getElem?_toArray, List.getElem?_cons_zero, List.getElem?_cons_succ] at c0 c1 c2 c3
  unfold stA envA4 at hc ⊢
  have Hc := Lib.hid hc
  clear hc hf he
  go_enter Tryd.func51, Tryd.ntmps51
  go_wp2_with (go_at_call 82; refine (Hc.out _).mono ?_; rintro ed w1 ⟨rfl, hz⟩; have B1 := Lib.hid (BV.out.trans (hz.mono BV.out.size)); clear hz s0 s1 s2 c0 c1 c2 c3)
  go_ret
  exact ⟨rfl, B1.out⟩

set_option maxHeartbeats 1000000 in
set_option maxRecDepth 100000 in
theorem l3Ready_calls (i : Int) (s r f : ByteArray) (k : Nat) (w : World) (hs : s.size ≤ maxLen) (hr : r.size ≤ maxLen) (hf : f.size ≤ maxLen) (hk : k ≤ 4) :
    Calls Tryd.prog 64 #[stV i s r, .string f, .int .i64 (k : Nat)] w fun e w' => e = .returned (.bool (rdyB i s r f k)) ∧ Below w.heap.size w w' := by
  have cS := fun W => StructureValid_spec i s r W hs hr
  have cF := fun W => FormulaValid_spec f W hf
  have B0 := Lib.hid (show Below w.heap.size w (w.alloc (.cells #[.int .i64 i, .string s, .string r] 24)) from (Below.refl _ _).alloc (Nat.le_refl _) _)
  obtain ⟨k0, k1, k2⟩ := box_load (Bx.new w 24 #[.int .i64 i, .string s, .string r])
  clear hs hr hf
  cases hok : okB i s r
  case false =>
    rw [rdy_noSt hok]
    simp only [hok] at cS
    have CS := Lib.hid cS
    clear cS cF hok
    go_enter Tryd.func64, Tryd.ntmps64
    go_wp2_with (go_at_call 47; refine (CS.out _).mono ?_; rintro e w1 ⟨rfl, hz⟩; have B1 := Lib.hid (B0.out.trans (hz.mono B0.out.size)); clear hz k0 k1 k2)
    go_ret
    exact ⟨rfl, B1.out⟩
  case true =>
  simp only [hok] at cS
  have CS := Lib.hid cS
  clear cS
  rcases fm_cases f with ⟨hb, hno⟩ | ⟨g, hb, hfm, hs4, hl4⟩
  · rw [rdy_noFm hb]
    simp only [hb] at cF
    have CF := Lib.hid cF
    clear cF hok hb hno
    go_enter Tryd.func64, Tryd.ntmps64
    go_wp2_with (first | (go_at_call 47; refine (CS.out _).mono ?_; rintro e w1 ⟨rfl, hz⟩; have B1 := Lib.hid (B0.out.trans (hz.mono B0.out.size)); clear hz k0 k1 k2) | (go_at_call 48; refine (CF.out _).mono ?_; rintro e w2 ⟨rfl, rfl⟩))
    go_ret
    exact ⟨rfl, B1.out⟩
  · obtain ⟨a, ha, rfl, rfl, rfl⟩ := st_ofS hok
    rw [rdy_of hb hfm ha k]
    simp only [hb] at cF
    have CF := Lib.hid cF
    have hcall := l2Free_calls g.size g f 0 [] 0
    have Hc := Lib.hid (fun W => hcall W (Nat.le_refl _) (by simpa using hfm) hs4 rfl)
    have Hdv := Lib.hid (div_natS g.freeBits k)
    have hki : (k : Int) ≤ 4 := by omega
    have hfr : g.freeBits < 16 := freeBits_lt g
    clear cF hok hb hfm hcall
    go_enter Tryd.func64, Tryd.ntmps64
    go_wp2_with (first | (go_at_call 47; refine (CS.out _).mono ?_; rintro e w1 ⟨rfl, hz⟩; have B1 := Lib.hid (B0.out.trans (hz.mono B0.out.size)); clear hz k0 k1 k2) | (go_at_call 48; refine (CF.out _).mono ?_; rintro e w2 ⟨rfl, rfl⟩) | (go_at_call 50; refine (Hc.out _).mono ?_; rintro e w2 ⟨rfl, rfl⟩))
    go_ret
    exact ⟨congrArg Ending.returned (show Value.bool ((g.freeBits : Int) / 2 ^ k == 0) = Value.bool _ from by congr 1; rw [Bool.eq_iff_iff, decide_eq_true_eq, beq_iff_eq]; have := Hdv.out; omega), B1.out⟩

set_option maxHeartbeats 4000000 in
set_option maxRecDepth 100000 in
theorem HoldsAt_spec (i : Int) (s r f : ByteArray) (A : Option Addr) (zs : List Int) (cap : Nat) (w : World) (hs : s.size ≤ maxLen) (hr : r.size ≤ maxLen) (hf : f.size ≤ maxLen) (hn : zs.length ≤ 1048576) (hcap : zs.length ≤ cap) (hA : LRow w A zs) :
    Calls Tryd.prog 12 #[stV i s r, .string f, .slice A zs.length cap] w fun e w' => e = .returned (.tuple #[.bool (holdV i s r f zs), .bool (holdB i s r f zs)]) ∧ Below w.heap.size w w' := by
  have cS := fun W => StructureValid_spec i s r W hs hr
  have cF := fun W => FormulaValid_spec f W hf
  have B0 := Lib.hid (show Below w.heap.size w ((w.alloc (.cells #[.int .i64 i, .string s, .string r] 24)).alloc (.cells #[.int .i64 0, .int .i64 0, .int .i64 0, .int .i64 0] 71)) from ((Below.refl _ _).alloc (Nat.le_refl _) _).alloc (by simp) _)
  have XS := Lib.hid ((Bx.new w 24 #[.int .i64 i, .string s, .string r]).alloc (.cells #[.int .i64 0, .int .i64 0, .int .i64 0, .int .i64 0] 71))
  have XE := Lib.hid (show Bx ((w.alloc (.cells #[.int .i64 i, .string s, .string r] 24)).alloc (.cells #[.int .i64 0, .int .i64 0, .int .i64 0, .int .i64 0] 71)) (w.heap.size + 1) 71 #[.int .i64 0, .int .i64 0, .int .i64 0, .int .i64 0] from bx_two w _ _)
  have HA0 := Lib.hid hA
  obtain ⟨k0, k1, k2⟩ := box_load XS.out
  clear hA hs hr hf
  cases hok : okB i s r
  case false =>
    have hh := rdy_noSt hok f zs.length
    rw [hold_no (hold_noRdy hh), hold_noRdy hh]
    simp only [hok] at cS
    have CS := Lib.hid cS
    clear cS cF hok hh
    go_enter Tryd.func12, Tryd.ntmps12
    go_wp2_with (go_at_call 47; refine (CS.out _).mono ?_; rintro e w1 ⟨rfl, hz⟩; have B1 := Lib.hid (B0.out.trans (hz.mono B0.out.size)); have XS1 := Lib.hid (XS.out.call hz); have XE1 := Lib.hid (XE.out.call hz); clear hz k0 k1 k2)
    go_ret2
    exact ⟨rfl, B1.out⟩
  case true =>
  simp only [hok] at cS
  have CS := Lib.hid cS
  clear cS
  rcases fm_cases f with ⟨hb, hno⟩ | ⟨g, hb, hfm, hs4, hl4⟩
  · rw [hold_no (hold_noRdy (rdy_noFm hb i s r zs.length)), hold_noRdy (rdy_noFm hb i s r zs.length)]
    simp only [hb] at cF
    have CF := Lib.hid cF
    clear cF hok hb hno
    go_enter Tryd.func12, Tryd.ntmps12
    go_wp2_with (first | (go_at_call 47; refine (CS.out _).mono ?_; rintro e w1 ⟨rfl, hz⟩; have B1 := Lib.hid (B0.out.trans (hz.mono B0.out.size)); have XS1 := Lib.hid (XS.out.call hz); have XE1 := Lib.hid (XE.out.call hz); clear hz k0 k1 k2) | (go_at_call 48; refine (CF.out _).mono ?_; rintro e w2 ⟨rfl, rfl⟩))
    go_ret2
    exact ⟨rfl, B1.out⟩
  simp only [hb] at cF
  have CF := Lib.hid cF
  clear cF
  by_cases h4 : zs.length ≤ 4
  case neg =>
    rw [hold_no (hold_noLen h4), hold_noLen h4]
    have h4i : ¬ (zs.length : Int) ≤ 4 := by omega
    clear hok hb hfm
    go_enter Tryd.func12, Tryd.ntmps12
    go_wp2_with (first | (go_at_call 47; refine (CS.out _).mono ?_; rintro e w1 ⟨rfl, hz⟩; have B1 := Lib.hid (B0.out.trans (hz.mono B0.out.size)); have XS1 := Lib.hid (XS.out.call hz); have XE1 := Lib.hid (XE.out.call hz); clear hz k0 k1 k2) | (go_at_call 48; refine (CF.out _).mono ?_; rintro e w2 ⟨rfl, rfl⟩))
    go_ret2
    exact ⟨rfl, B1.out⟩
  case pos =>
  have h4i : (zs.length : Int) ≤ 4 := by omega
  obtain ⟨a, ha, rfl, rfl, rfl⟩ := st_ofS hok
  have hry := rdy_of hb hfm ha zs.length
  have hcall := l2Free_calls g.size g f 0 [] 0
  have Hc := Lib.hid (fun W => hcall W (Nat.le_refl _) (by simpa using hfm) hs4 rfl)
  have hdv := div_natS g.freeBits zs.length
  have hfr : g.freeBits < 16 := freeBits_lt g
  have htru := fun e W he => l2True_calls a ha f g e W hfm hs4 he
  have hel0 := fun h => @hold_noEl a.n (bs a.set) (bs a.rel) f zs h
  have hel1 := fun h1 h2 => @hold_yes a.n (bs a.set) (bs a.rel) f zs h1 h4 h2
  have hno := fun h => @hold_no a.n (bs a.set) (bs a.rel) f zs h
  have hnr := fun h => @hold_noRdy a.n (bs a.set) (bs a.rel) f zs h
  have hyv := fun h => @hold_yesV a.n (bs a.set) (bs a.rel) f zs h
  have htv := tru_of hfm a (zs.map Int.toNat)
  have hlt := fun h => (@elAll_nats a.n zs h).2
  have h8 := ha.hi
  have h1n := ha.lo
  obtain ⟨VB, hVB⟩ : ∃ VB, VB = holdB a.n (bs a.set) (bs a.rel) f zs := ⟨_, rfl⟩
  obtain ⟨VA, hVA⟩ : ∃ VA, VA = holdV a.n (bs a.set) (bs a.rel) f zs := ⟨_, rfl⟩
  rw [htv, ← hVA, ← hVB] at hyv
  rw [← hVB] at hel0 hel1 hnr
  rw [← hVA, ← hVB] at hno
  rw [← hVA, ← hVB]
  have Hry := Lib.hid hry
  have Htru := Lib.hid htru
  have Hel0 := Lib.hid hel0
  have Hel1 := Lib.hid hel1
  have Hno := Lib.hid hno
  have Hnr := Lib.hid hnr
  have Hyv := Lib.hid hyv
  have Hlt := Lib.hid hlt
  have Hdv := Lib.hid hdv
  clear hok hb hfm hcall hry htru hel0 hel1 hno hnr hyv htv hlt hVB hVA hdv
  go_enter Tryd.func12, Tryd.ntmps12
  go_wp2_with (first | (go_at_call 47; refine (CS.out _).mono ?_; rintro e w1 ⟨rfl, hz⟩; have B1 := Lib.hid (B0.out.trans (hz.mono B0.out.size)); have XS1 := Lib.hid (XS.out.call hz); have XE1 := Lib.hid (XE.out.call hz); clear hz k0 k1 k2) | (go_at_call 48; refine (CF.out _).mono ?_; rintro e w2 ⟨rfl, rfl⟩))
  go_loopg [9] zs.length (fun c i1 wr => ∃ k : Nat, k + c = zs.length ∧ i1 = .int .i64 (k : Nat) ∧ (∀ j, j < k → elB a.n (zs.getD j 0) = true) ∧ Bx wr w.heap.size 24 #[.int .i64 (a.n : Int), .string (bs a.set), .string (bs a.rel)] ∧ Bx wr (w.heap.size + 1) 71 #[.int .i64 ((envK zs k) 0 : Nat), .int .i64 ((envK zs k) 1 : Nat), .int .i64 ((envK zs k) 2 : Nat), .int .i64 ((envK zs k) 3 : Nat)] ∧ Below w.heap.size w wr)
  case atStart => exact ⟨0, by omega, rfl, fun j hj => absurd hj (Nat.not_lt_zero _), XS1.out, XE1.out, B1.out⟩
  case round =>
    obtain ⟨k, hk, rfl, hall, hxs, hxe, hbr⟩ := hrel
    have Hall := Lib.hid hall
    have XS2 := Lib.hid hxs
    have XE2 := Lib.hid hxe
    have B2 := Lib.hid hbr
    clear hall hxs hxe hbr
    by_cases hlt : k < zs.length
    · have hlA := HA0.out
      obtain ⟨ga, rfl, hc0⟩ := hlA (by omega)
      have hgl : ga < w.heap.size := World.block_lt_of_cell? w _ (hc0 k hlt)
      have d1 := (B2.out.cell (p := ⟨ga, k, none⟩) hgl).trans (hc0 k hlt)
      have i1 : (0 : Int) ≤ (k : Int) := by omega
      have i2 : (k : Int) < (zs.length : Int) := by omega
      have i3 : (k : Int) < 4 := by omega
      obtain ⟨z, hz⟩ : ∃ z, z = zs.getD k 0 := ⟨_, rfl⟩
      rw [← hz] at d1
      have cin : ∀ W, Calls Tryd.prog 49 #[.int .i64 z, .int .i64 0, .int .i64 (IntKind.i64.wrap ((a.n : Int) - 1))] W fun e w' => e = .returned (.bool (elB a.n z)) ∧ W = w' := fun W => by
        have h := l1In_calls z 0 (IntKind.i64.wrap ((a.n : Int) - 1)) W
        rw [show decide (z ≤ IntKind.i64.wrap ((a.n : Int) - 1)) = decide (z ≤ (a.n : Int) - 1) by rw [IntWalk.i64_in _ (by omega)], el_inS] at h
        exact h
      have Hz := Lib.hid hz
      obtain ⟨m0, m1, m2⟩ := box_load XS2.out
      clear hc0 hlA hz
      rcases el_cases a.n z with he | ⟨x, rfl, hxn, he⟩
      · simp only [he] at cin
        have CIN := Lib.hid cin
        have Hv := Lib.hid (Hel0.out (elAll_not hlt (by rw [← Hz.out]; exact he)))
        clear cin he
        go_upto_region 7 with (fail)
        refine region_sched [(0, true), (1, true), (2, true), (3, true), (4, true), (5, true), (6, true), (7, false), (8, true)] (fun w' : World => w'.cell? ⟨ga, k, none⟩ = some (.int .i64 z) ∧ w'.cell? ⟨w.heap.size, 0, none⟩ = some (.int .i64 (a.n : Int))) (by kernel_rfl) (by kernel_rfl) (by kernel_rfl) (by kernel_rfl) (fun _ _ _ _ h => h) ?_ (fun Q1 hQ1 => ?_)
        · exact ⟨d1, m0⟩
        try simp only [List.append]
        refine sched_take' (v := ?_) (a' := ?_) rfl (by kernel_rfl) ?_ rfl ?_ ?_
        rotate_left 2
        · intro w hSw
          (try dsimp only at hSw)
          go_simp
          try with_reducible rfl
        · (try simp only [Act.put, List.setIfInBounds_toArray, List.set_cons_zero, List.set_cons_succ])
          try rfl
        refine sched_take' (v := ?_) (a' := ?_) rfl (by kernel_rfl) ?_ rfl ?_ ?_
        rotate_left 2
        · intro w hSw
          (try dsimp only at hSw)
          go_simp
          try with_reducible rfl
        · (try simp only [Act.put, List.setIfInBounds_toArray, List.set_cons_zero, List.set_cons_succ])
          try rfl
        refine sched_take' (v := ?_) (a' := ?_) rfl (by kernel_rfl) ?_ rfl ?_ ?_
        rotate_left 2
        · intro w hSw
          (try dsimp only at hSw)
          go_simp
          try with_reducible rfl
        · (try simp only [Act.put, List.setIfInBounds_toArray, List.set_cons_zero, List.set_cons_succ])
          try rfl
        refine sched_take' (v := .int .i64 z) (a' := ?_) rfl (by kernel_rfl) ?_ rfl ?_ ?_
        rotate_left 1
        · intro w hSw
          (try dsimp only at hSw)
          go_simp
          first | done | (obtain ⟨u0, u1⟩ := hSw; simp [*])
        · (try simp only [Act.put, List.setIfInBounds_toArray, List.set_cons_zero, List.set_cons_succ])
          try rfl
        refine sched_take' (v := ?_) (a' := ?_) rfl (by kernel_rfl) ?_ rfl ?_ ?_
        rotate_left 2
        · intro w hSw
          (try dsimp only at hSw)
          go_simp
          try with_reducible rfl
        · (try simp only [Act.put, List.setIfInBounds_toArray, List.set_cons_zero, List.set_cons_succ])
          try rfl
        refine sched_take' (v := .int .i64 (a.n : Int)) (a' := ?_) rfl (by kernel_rfl) ?_ rfl ?_ ?_
        rotate_left 1
        · intro w hSw
          (try dsimp only at hSw)
          go_simp
          first | done | (obtain ⟨u0, u1⟩ := hSw; simp [*])
        · (try simp only [Act.put, List.setIfInBounds_toArray, List.set_cons_zero, List.set_cons_succ])
          try rfl
        refine sched_take' (v := ?_) (a' := ?_) rfl (by kernel_rfl) ?_ rfl ?_ ?_
        rotate_left 2
        · intro w hSw
          (try dsimp only at hSw)
          go_simp
          try with_reducible rfl
        · (try simp only [Act.put, List.setIfInBounds_toArray, List.set_cons_zero, List.set_cons_succ])
          try rfl
        refine sched_call rfl (by kernel_rfl) (fun K1 hK1 => ?_)
        go_simp
        refine (CIN.out _).mono ?_
        rintro ed w3 ⟨rfl, rfl⟩
        go_wp2_with fail
        refine hK1.out _ _ ?_ (sched_lay (a' := ?_) ?_ ?_)
        · exact ⟨d1, m0⟩
        rotate_left 1
        · (try simp only [Act.put, List.getElem_toArray, List.getElem_cons_succ, List.getElem_cons_zero, List.setIfInBounds_toArray, List.set_cons_zero, List.set_cons_succ])
          try rfl
        clear hK1 K1
        refine sched_take' (v := ?_) (a' := ?_) rfl (by kernel_rfl) ?_ rfl ?_ ?_
        rotate_left 2
        · intro w hSw
          (try dsimp only at hSw)
          go_simp
          try with_reducible rfl
        · (try simp only [Act.put, List.setIfInBounds_toArray, List.set_cons_zero, List.set_cons_succ])
          try rfl
        refine sched_done (hQ1.out _ _ ?_)
        go_wp2_with fail
        go_ret2
        exact ⟨ret_pair (by show Value.bool false = Value.bool _; rw [Hno.out Hv.out]) (by show Value.bool false = Value.bool _; rw [Hv.out]), B2.out.drew⟩
      · simp only [he] at cin
        have CIN := Lib.hid cin
        have He := Lib.hid he
        have hk4 : k < 4 := by omega
        have XS3 := Lib.hid (show Bx (wr.drew.setCell ⟨w.heap.size + 1, k, none⟩ (.int .i64 (x : Nat))) w.heap.size 24 #[.int .i64 (a.n : Int), .string (bs a.set), .string (bs a.rel)] from XS2.out.drew.far (by simp) _)
        have XE3 := Lib.hid (show Bx (wr.drew.setCell ⟨w.heap.size + 1, k, none⟩ (.int .i64 (x : Nat))) (w.heap.size + 1) 71 (envA4 (envK zs (k + 1))) from by
          have := XE2.out.drew.set k (.int .i64 (x : Nat))
          rw [show (#[.int .i64 ((envK zs k) 0 : Nat), .int .i64 ((envK zs k) 1 : Nat), .int .i64 ((envK zs k) 2 : Nat), .int .i64 ((envK zs k) 3 : Nat)] : Array Value).setIfInBounds k (.int .i64 (x : Nat)) = envA4 (envK zs (k + 1)) from (envA_upd (envK zs k) ⟨k, hk4⟩ x).trans (by rw [envK_succ zs k hk4 x Hz.out.symm])] at this
          exact this)
        have fv := XE2.out.free k
        have cv := (XE2.out.cell k).trans (env_at (envK zs k) ⟨k, hk4⟩)
        have B3 := Lib.hid (show Below w.heap.size w (wr.drew.setCell ⟨w.heap.size + 1, k, none⟩ (.int .i64 (x : Nat))) from B2.out.drew.setCell (by simp) _)
        clear cin he
        go_upto_region 7 with (fail)
        refine region_sched [(0, true), (1, true), (2, true), (3, true), (4, true), (5, true), (6, true), (7, false), (8, true)] (fun w' : World => w'.cell? ⟨ga, k, none⟩ = some (.int .i64 (x : Nat)) ∧ w'.cell? ⟨w.heap.size, 0, none⟩ = some (.int .i64 (a.n : Int))) (by kernel_rfl) (by kernel_rfl) (by kernel_rfl) (by kernel_rfl) (fun _ _ _ _ h => h) ?_ (fun Q1 hQ1 => ?_)
        · exact ⟨d1, m0⟩
        try simp only [List.append]
        refine sched_take' (v := ?_) (a' := ?_) rfl (by kernel_rfl) ?_ rfl ?_ ?_
        rotate_left 2
        · intro w hSw
          (try dsimp only at hSw)
          go_simp
          try with_reducible rfl
        · (try simp only [Act.put, List.setIfInBounds_toArray, List.set_cons_zero, List.set_cons_succ])
          try rfl
        refine sched_take' (v := ?_) (a' := ?_) rfl (by kernel_rfl) ?_ rfl ?_ ?_
        rotate_left 2
        · intro w hSw
          (try dsimp only at hSw)
          go_simp
          try with_reducible rfl
        · (try simp only [Act.put, List.setIfInBounds_toArray, List.set_cons_zero, List.set_cons_succ])
          try rfl
        refine sched_take' (v := ?_) (a' := ?_) rfl (by kernel_rfl) ?_ rfl ?_ ?_
        rotate_left 2
        · intro w hSw
          (try dsimp only at hSw)
          go_simp
          try with_reducible rfl
        · (try simp only [Act.put, List.setIfInBounds_toArray, List.set_cons_zero, List.set_cons_succ])
          try rfl
        refine sched_take' (v := .int .i64 (x : Nat)) (a' := ?_) rfl (by kernel_rfl) ?_ rfl ?_ ?_
        rotate_left 1
        · intro w hSw
          (try dsimp only at hSw)
          go_simp
          first | done | (obtain ⟨u0, u1⟩ := hSw; simp [*])
        · (try simp only [Act.put, List.setIfInBounds_toArray, List.set_cons_zero, List.set_cons_succ])
          try rfl
        refine sched_take' (v := ?_) (a' := ?_) rfl (by kernel_rfl) ?_ rfl ?_ ?_
        rotate_left 2
        · intro w hSw
          (try dsimp only at hSw)
          go_simp
          try with_reducible rfl
        · (try simp only [Act.put, List.setIfInBounds_toArray, List.set_cons_zero, List.set_cons_succ])
          try rfl
        refine sched_take' (v := .int .i64 (a.n : Int)) (a' := ?_) rfl (by kernel_rfl) ?_ rfl ?_ ?_
        rotate_left 1
        · intro w hSw
          (try dsimp only at hSw)
          go_simp
          first | done | (obtain ⟨u0, u1⟩ := hSw; simp [*])
        · (try simp only [Act.put, List.setIfInBounds_toArray, List.set_cons_zero, List.set_cons_succ])
          try rfl
        refine sched_take' (v := ?_) (a' := ?_) rfl (by kernel_rfl) ?_ rfl ?_ ?_
        rotate_left 2
        · intro w hSw
          (try dsimp only at hSw)
          go_simp
          try with_reducible rfl
        · (try simp only [Act.put, List.setIfInBounds_toArray, List.set_cons_zero, List.set_cons_succ])
          try rfl
        refine sched_call rfl (by kernel_rfl) (fun K1 hK1 => ?_)
        go_simp
        refine (CIN.out _).mono ?_
        rintro ed w3 ⟨rfl, rfl⟩
        go_wp2_with fail
        refine hK1.out _ _ ?_ (sched_lay (a' := ?_) ?_ ?_)
        · exact ⟨d1, m0⟩
        rotate_left 1
        · (try simp only [Act.put, List.getElem_toArray, List.getElem_cons_succ, List.getElem_cons_zero, List.setIfInBounds_toArray, List.set_cons_zero, List.set_cons_succ])
          try rfl
        clear hK1 K1
        refine sched_take' (v := ?_) (a' := ?_) rfl (by kernel_rfl) ?_ rfl ?_ ?_
        rotate_left 2
        · intro w hSw
          (try dsimp only at hSw)
          go_simp
          try with_reducible rfl
        · (try simp only [Act.put, List.setIfInBounds_toArray, List.set_cons_zero, List.set_cons_succ])
          try rfl
        refine sched_done (hQ1.out _ _ ?_)
        go_wp2_with fail
        go_roundg (zs.length - k - 1)
        case rel => exact ⟨k + 1, by omega, by go_num, fun j hj => by
          by_cases hjk : j = k
          · subst hjk; rw [← Hz.out]; exact He.out
          · exact Hall.out j (by omega), XS3.out, XE3.out, B3.out⟩
        case measure => omega
    · have hke : k = zs.length := by omega
      subst hke
      have hall := elAll_of Hall.out
      have Hall2 := Lib.hid hall
      clear hall
      by_cases hfz : g.freeBits / 2 ^ zs.length = 0
      · have hry := Hry.out
        rw [decide_eq_true hfz] at hry
        have hv := Hel1.out hry Hall2.out
        have Hv := Lib.hid hv
        have Hw := Lib.hid (Hyv.out hv)
        have hz0 : (g.freeBits : Int) / 2 ^ zs.length = 0 := by rw [Hdv.out]; omega
        have htr := fun W => Htru.out (envK zs zs.length) W (by rw [envK_all]; exact env_lt ha (Hlt.out Hall2.out))
        unfold stA envA4 at htr
        have HTR := Lib.hid htr
        obtain ⟨m0, m1, m2⟩ := box_load XS2.out
        have c0 := XE2.out.cell 0
        have c1 := XE2.out.cell 1
        have c2 := XE2.out.cell 2
        have c3 := XE2.out.cell 3
        simp only [List.getElem?_toArray, List.getElem?_cons_zero, List.getElem?_cons_succ] at c0 c1 c2 c3
        clear hry hfz hv htr
        go_wp2_with (first | (go_at_call 50; refine (Hc.out _).mono ?_; rintro e w2 ⟨rfl, rfl⟩) | (go_at_call 51; refine (HTR.out _).mono ?_; rintro e w3 ⟨rfl, hz⟩; have B3 := Lib.hid (B2.out.trans (hz.mono B2.out.size)); clear hz m0 m1 m2 c0 c1 c2 c3))
        go_ret2
        exact ⟨ret_pair (by show Value.bool _ = Value.bool _; rw [Hw.out]; first | done | rfl | rw [envK_all]) (by show Value.bool true = Value.bool _; rw [Hv.out]), B3.out⟩
      · have hry := Hry.out
        rw [decide_eq_false hfz] at hry
        have Hv := Lib.hid (Hnr.out hry)
        have hne : ((g.freeBits : Int) / 2 ^ zs.length != 0) = true := by rw [Hdv.out, bne_iff_ne]; omega
        clear hry hfz
        go_wp2_with (go_at_call 50; refine (Hc.out _).mono ?_; rintro e w2 ⟨rfl, rfl⟩)
        go_ret2
        exact ⟨ret_pair (by show Value.bool false = Value.bool _; rw [Hno.out Hv.out]) (by show Value.bool false = Value.bool _; rw [Hv.out]), B2.out⟩

end Go.Proofs.YtgiaebeoldigbaaDoor

namespace Go.Proofs.YtgiaebeoldigbaaDoor
open Pl
set_option linter.unusedSimpArgs false
set_option linter.unusedVariables false

theorem fm_bs {g : Fm} (h : g.text.length ≤ 4000) : fmB (bs g.text).data.toList = true := fmB_true.2 ⟨by simpa [bs] using h, g, by simp [bs]⟩
theorem bs_list (l : List UInt8) : (bs l).data.toList = l := by simp [bs]
theorem elAll_of_nats {n : Nat} {ns : List Nat} (h : ∀ x ∈ ns, x < n) : elAll n (natsI ns) = true := by
  unfold elAll
  rw [List.all_eq_true]
  intro z hz
  obtain ⟨x, hx, rfl⟩ := List.mem_map.1 hz
  have := h x hx
  unfold elB
  simp
  omega
theorem natsI_back (l : List Nat) : (natsI l).map Int.toNat = l := by
  unfold natsI
  rw [List.map_map]
  conv => rhs; rw [← List.map_id l]
  exact List.map_congr_left fun x _ => by simp

/-- HoldsAt of a formula, with elements for all that is free -/
theorem hold_fm {a : St} (ha : a.ok) {g : Fm} (hg : g.text.length ≤ 4000) {ns : List Nat} (hn : ∀ x ∈ ns, x < a.n) (hl : ns.length ≤ 4) (hf : g.freeBits / 2 ^ ns.length = 0) :
    holdB a.n (bs a.set) (bs a.rel) (bs g.text) (natsI ns) = true ∧ holdV a.n (bs a.set) (bs a.rel) (bs g.text) (natsI ns) = g.holds a (envL ns) := by
  have h1 : rdyB a.n (bs a.set) (bs a.rel) (bs g.text) (natsI ns).length = true := by
    rw [rdy_of (fm_bs hg) (bs_list _) ha, natsI_len, decide_eq_true hf]
  have h2 := hold_yes h1 (by rw [natsI_len]; exact hl) (elAll_of_nats hn)
  refine ⟨h2, ?_⟩
  rw [hold_yesV h2, natsI_back, tru_of (bs_list _)]
theorem hold_four {a : St} (ha : a.ok) {g : Fm} (hg : g.text.length ≤ 4000) {ns : List Nat} (hn : ∀ x ∈ ns, x < a.n) (hl : ns.length = 4) :
    holdV a.n (bs a.set) (bs a.rel) (bs g.text) (natsI ns) = g.holds a (envL ns) :=
  (hold_fm ha hg hn (by omega) (by have := freeBits_lt g; rw [hl]; omega)).2
/-- HoldsAt of anything: no, or a formula, a structure and elements -/
theorem hold_cases (i : Int) (s r f : ByteArray) (zs : List Int) : (holdB i s r f zs = false ∧ holdV i s r f zs = false) ∨
    ∃ (a : St) (g : Fm) (ns : List Nat), a.ok ∧ i = a.n ∧ s = bs a.set ∧ r = bs a.rel ∧ f = bs g.text ∧ g.text.length ≤ 4000 ∧ zs = natsI ns ∧ (∀ x ∈ ns, x < a.n) ∧ ns.length ≤ 4 ∧ g.freeBits / 2 ^ ns.length = 0 ∧ holdB i s r f zs = true ∧ holdV i s r f zs = g.holds a (envL ns) := by
  cases h : holdB i s r f zs with
  | false => exact .inl ⟨rfl, hold_no h⟩
  | true =>
    right
    have h0 := h
    unfold holdB rdyB at h
    simp only [Bool.and_eq_true, decide_eq_true_eq] at h
    obtain ⟨⟨h1, h2, h3⟩, h4, h5⟩ := h
    rcases ok_cases i s r with hq | ⟨a, ha, rfl, rfl, rfl⟩
    · rw [h1] at hq; cases hq
    rcases fm_cases f with ⟨hq, _⟩ | ⟨g, hb, hf, hs4, hl4⟩
    · rw [h2] at hq; cases hq
    obtain ⟨e1, e2⟩ := elAll_nats h5
    rw [fmOf_eq hf] at h3
    refine ⟨a, g, zs.map Int.toNat, ha, rfl, rfl, rfl, eq_bs hf, hl4, e1, e2, by simpa using h4, by simpa using h3, rfl, ?_⟩
    rw [hold_yesV h0, tru_of hf]

theorem text_app (l m : List UInt8) : bs l ++ bs m = bs (l ++ m) := by rw [append_bs, bs_list, bs_list]
theorem mk_bs (x : Array UInt8) : ByteArray.mk x = bs x.toList := by unfold bs; simp

end Go.Proofs.YtgiaebeoldigbaaDoor

namespace Go.Proofs.YtgiaebeoldigbaaDoor
open Go.RowKit
open Pl
set_option linter.unusedSimpArgs false
set_option linter.unusedVariables false

set_option maxRecDepth 100000 in
theorem gsHolds_calls (i : Int) (s r f : ByteArray) (A : Option Addr) (zs : List Int) (cap : Nat) (w : World) (hs : s.size ≤ maxLen) (hr : r.size ≤ maxLen) (hn : zs.length ≤ 1048576) (hcap : zs.length ≤ cap) (hA : LRow w A zs) :
    Calls Tryd.prog 13 #[stV i s r, .string f, .slice A zs.length cap] w fun e w' => e = .returned (.bool (holdV i s r f zs)) ∧ Below w.heap.size w w' := by
  have B0 := Lib.hid ((Below.refl w.heap.size w).alloc (Nat.le_refl _) (.cells #[.int .i64 i, .string s, .string r] 24))
  have hc := HoldsAt_impl i s r f A zs cap (w.alloc (.cells #[.int .i64 i, .string s, .string r] 24)) hs hr hn hcap (hA.alloc _)
  have Hc := Lib.hid hc
  obtain ⟨k0, k1, k2⟩ := box_load (Bx.new w 24 #[.int .i64 i, .string s, .string r])
  clear hc hs hr hA
  go_enter Tryd.func13, Tryd.ntmps13
  go_wp2_with fail
  refine (Hc.out).mono ?_
  rintro e w1 ⟨rfl, hz⟩
  have B1 := Lib.hid (B0.out.trans (hz.mono B0.out.size))
  clear hz k0 k1 k2
  go_wp2_with fail
  go_ret
  exact ⟨rfl, B1.out⟩
theorem st_len {a : St} (ha : a.ok) : (bs a.set).size ≤ maxLen ∧ (bs a.rel).size ≤ maxLen := by have := st_small ha; unfold maxLen; omega
/-- gsHolds of a formula with four elements -/
theorem gs_four (a : St) (ha : a.ok) (g : Fm) (hg : g.text.length ≤ 4000) (f : ByteArray) (hf : f = bs g.text) (ns : List Nat) (hn : ∀ x ∈ ns, x < a.n) (hl : ns.length = 4) (A : Option Addr) (cap : Nat) (hcap : 4 ≤ cap) (b : Bool) (hb : g.holds a (envL ns) = b) (w : World) (hA : LRow w A (natsI ns)) :
    Calls Tryd.prog 13 #[stV a.n (bs a.set) (bs a.rel), .string f, .slice A 4 cap] w fun e w' => e = .returned (.bool b) ∧ Below w.heap.size w w' := by
  subst hf
  have h := gsHolds_calls a.n (bs a.set) (bs a.rel) (bs g.text) A (natsI ns) cap w (st_len ha).1 (st_len ha).2 (by rw [natsI_len, hl]; omega) (by rw [natsI_len, hl]; exact hcap) hA
  rw [hold_four ha hg hn hl, natsI_len, hl, hb] at h
  exact h
theorem inSet_at (a : St) (ha : a.ok) (x : Nat) (hx : x < a.n) (W : World) :
    Calls Tryd.prog 14 #[stV a.n (bs a.set) (bs a.rel), .int .i64 (x : Nat)] W fun e w' => e = .returned (.bool (a.inS x)) ∧ Below W.heap.size W w' := by
  have h := InSet_impl (a.n : Int) (bs a.set) (bs a.rel) (x : Nat) W (st_len ha).1 (st_len ha).2
  have e : inSetV (a.n : Int) (bs a.set) (bs a.rel) (x : Nat) = a.inS x := by
    have hx2 : elB a.n (x : Nat) = true := by unfold elB; simp; omega
    unfold inSetV; rw [okB_true ha, hx2, ofSt_eq]; rfl
  rwa [e] at h
theorem inRel_at (a : St) (ha : a.ok) (x y : Nat) (hx : x < a.n) (hy : y < a.n) (W : World) :
    Calls Tryd.prog 15 #[stV a.n (bs a.set) (bs a.rel), .int .i64 (x : Nat), .int .i64 (y : Nat)] W fun e w' => e = .returned (.bool (a.inR x y)) ∧ Below W.heap.size W w' := by
  have h := InRel_impl (a.n : Int) (bs a.set) (bs a.rel) (x : Nat) (y : Nat) W (st_len ha).1 (st_len ha).2
  have e : inRelV (a.n : Int) (bs a.set) (bs a.rel) (x : Nat) (y : Nat) = a.inR x y := by
    have hx2 : elB a.n (x : Nat) = true := by unfold elB; simp; omega
    have hy2 : elB a.n (y : Nat) = true := by unfold elB; simp; omega
    unfold inRelV; rw [okB_true ha, hx2, hy2, ofSt_eq]; rfl
  rwa [e] at h
theorem four_cells {W : World} {g a b c d : Nat} (h : LRow W (some ⟨g, 0, none⟩) (natsI [a, b, c, d])) : W.cell? ⟨g, 0, none⟩ = some (.int .i64 (a : Nat)) ∧ W.cell? ⟨g, 1, none⟩ = some (.int .i64 (b : Nat)) ∧ W.cell? ⟨g, 2, none⟩ = some (.int .i64 (c : Nat)) ∧ W.cell? ⟨g, 3, none⟩ = some (.int .i64 (d : Nat)) := by
  obtain ⟨g', hg, hc⟩ := h (by simp [natsI])
  injection hg with hg
  injection hg with hg _ _
  subst hg
  exact ⟨hc 0 (by simp [natsI]), hc 1 (by simp [natsI]), hc 2 (by simp [natsI]), hc 3 (by simp [natsI])⟩
theorem LRow_four (W : World) (a b c d : Nat) : LRow (W.alloc (.cells #[.int .i64 (a : Nat), .int .i64 (b : Nat), .int .i64 (c : Nat), .int .i64 (d : Nat)] 3)) (some ⟨W.heap.size, 0, none⟩) (natsI [a, b, c, d]) := fun _ => ⟨_, rfl, fun i hi => by
  have hx := Bx.new W 3 #[.int .i64 (a : Nat), .int .i64 (b : Nat), .int .i64 (c : Nat), .int .i64 (d : Nat)]
  have : i = 0 ∨ i = 1 ∨ i = 2 ∨ i = 3 := by simp [natsI] at hi; omega
  rcases this with rfl | rfl | rfl | rfl
  · exact hx.cell 0
  · exact hx.cell 1
  · exact hx.cell 2
  · exact hx.cell 3⟩
theorem len4 {ns : List Nat} (h : ns.length = 4) : ∃ a b c d, ns = [a, b, c, d] := by
  match ns, h with
  | [a, b, c, d], _ => exact ⟨a, b, c, d, rfl⟩

end Go.Proofs.YtgiaebeoldigbaaDoor

namespace Go.Proofs.YtgiaebeoldigbaaDoor
open Go.RowKit
open Pl
set_option linter.unusedSimpArgs false
set_option linter.unusedVariables false

theorem vars_at (m : Nat) : ∀ n, n ≤ 4 → ∀ k, k < (varsL m n).length → ∃ v : Fin 4, (varsL m n).getD k 0 = vb v := by
  intro n
  induction n with
  | zero => intro _ k hk; simp [varsL] at hk
  | succ n ih =>
    intro hn k hk
    cases h : m.testBit n with
    | false => rw [varsL_no h] at hk ⊢; exact ih (by omega) k hk
    | true =>
      rw [varsL_yes h] at hk ⊢
      by_cases hlt : k < (varsL m n).length
      · obtain ⟨v, hv⟩ := ih (by omega) k hlt
        refine ⟨v, ?_⟩
        rw [← hv, List.getD_eq_getElem?_getD, List.getD_eq_getElem?_getD, List.getElem?_append_left hlt]
      · have : k = (varsL m n).length := by simp at hk; omega
        refine ⟨⟨n, by omega⟩, ?_⟩
        rw [this, List.getD_eq_getElem?_getD]
        simp [vb]
theorem vars_mem (m : Nat) {n k : Nat} (hk : k < n) (h : m.testBit k = true) : UInt8.ofNat (97 + k) ∈ varsL m n := by
  unfold varsL
  exact List.mem_map.2 ⟨k, List.mem_filter.2 ⟨List.mem_range.2 hk, h⟩, rfl⟩
/-- an element that is not free may be changed -/
theorem holds_set {a : St} {g : Fm} {ns : List Nat} {k x : Nat} (hk : k < 4) (h : g.freeBits.testBit k = false) : g.holds a (envL (ns.set k x)) = g.holds a (envL ns) := by
  apply holds_free
  intro v hv
  have hne : v.val ≠ k := by
    intro e
    unfold Fm.isFree at hv
    rw [e, h] at hv
    cases hv
  unfold envL
  rw [List.getD_eq_getElem?_getD, List.getD_eq_getElem?_getD, List.getElem?_set_ne (Ne.symm hne)]
theorem holds_some {a : St} {q : Fm} {e : Env} {v : Fin 4} (hv : e v < a.n) (h : q.holds a e = true) : (Fm.qu .S v q).holds a e = true := by
  show decide (0 < cnt a.n (fun x => q.holds a (upd e v x))) = true
  rw [decide_eq_true_eq]
  have he : upd e v (e v) = e := by
    funext u
    by_cases hu : u = v
    · subst hu; rw [upd_same]
    · rw [upd_other hu]
  have h1 := cnt_split a.n (e v + 1) (fun x => q.holds a (upd e v x)) (by omega)
  have h2 := cnt_succ (e v) (fun x => q.holds a (upd e v x))
  simp only [he, h, if_true] at h2
  omega
/-- HoldsIn of a formula: no, or no free variables -/
theorem in_cases {a : St} (ha : a.ok) {q : Fm} (hq : q.text.length ≤ 4000) (e : Env) : holdB a.n (bs a.set) (bs a.rel) (bs q.text) [] = false ∨ (holdB a.n (bs a.set) (bs a.rel) (bs q.text) [] = true ∧ holdV a.n (bs a.set) (bs a.rel) (bs q.text) [] = q.holds a e) := by
  by_cases h0 : q.freeBits = 0
  · right
    have := hold_fm ha hq (ns := []) (by simp) (by simp) (by rw [h0]; rfl)
    refine ⟨this.1, this.2.trans (holds_free a q _ _ fun v hv => ?_)⟩
    unfold Fm.isFree at hv
    rw [h0] at hv
    simp at hv
  · left
    cases h : holdB a.n (bs a.set) (bs a.rel) (bs q.text) [] with
    | false => rfl
    | true =>
      exfalso
      unfold holdB at h
      simp only [Bool.and_eq_true] at h
      have h1 := h.1
      rw [show (([] : List Int).length) = 0 from rfl, rdy_of (fm_bs hq) (bs_list _) ha] at h1
      simp at h1
      exact h0 h1
/-- gsHolds of a formula with elements for all that is free -/
theorem gs_any (a : St) (ha : a.ok) (g : Fm) (hg : g.text.length ≤ 4000) (f : ByteArray) (hf : f = bs g.text) (ns : List Nat) (hn : ∀ x ∈ ns, x < a.n) (hl : ns.length ≤ 4) (hfr : g.freeBits / 2 ^ ns.length = 0) (A : Option Addr) (cap : Nat) (hcap : ns.length ≤ cap) (b : Bool) (hb : g.holds a (envL ns) = b) (w : World) (hA : LRow w A (natsI ns)) :
    Calls Tryd.prog 13 #[stV a.n (bs a.set) (bs a.rel), .string f, .slice A ns.length cap] w fun e w' => e = .returned (.bool b) ∧ Below w.heap.size w w' := by
  subst hf
  have h := gsHolds_calls a.n (bs a.set) (bs a.rel) (bs g.text) A (natsI ns) cap w (st_len ha).1 (st_len ha).2 (by rw [natsI_len]; omega) (by rw [natsI_len]; exact hcap) hA
  rw [(hold_fm ha hg hn hl hfr).2, natsI_len, hb] at h
  exact h
theorem ext_one {l : List UInt8} {k : Nat} (h : k < l.length) : (bs l).extract k (k + 1) = bs [l.getD k 0] := by
  apply eq_bs
  rw [Lib.extract_data, bs_list]
  rw [List.getD_eq_getElem?_getD, List.getElem?_eq_getElem h]
  rw [show k + 1 = k + 1 from rfl]
  apply List.ext_getElem
  · simp; omega
  · intro i h1 h2
    simp at h2
    subst h2
    simp
theorem cmp_at {l : List UInt8} {k m : Nat} (hk : k < 4) (hm : m < (bs l).size) (hk2 : k < (ByteArray.mk #[97, 98, 99, 100]).size) (h : ((((bs l)[m]'hm).toNat : Int) == (((ByteArray.mk #[97, 98, 99, 100])[k]'hk2).toNat : Int)) = false) : l.getD m 0 ≠ UInt8.ofNat (97 + k) := by
  intro e
  have hm2 : m < l.length := by rw [bs_size] at hm; exact hm
  have e1 : (bs l)[m]'hm = l.getD m 0 := by
    rw [List.getD_eq_getElem?_getD, List.getElem?_eq_getElem hm2]
    rfl
  have e2 : (ByteArray.mk #[97, 98, 99, 100])[k]'hk2 = UInt8.ofNat (97 + k) := by
    match k, hk with
    | 0, _ => rfl
    | 1, _ => rfl
    | 2, _ => rfl
    | 3, _ => rfl
  rw [e1, e2, e] at h
  simp at h
theorem LRow.set {W : World} {g : Nat} {ns : List Nat} {k x : Nat} (h : LRow W (some ⟨g, 0, none⟩) (natsI ns)) (hk : k < ns.length) : LRow (W.setCell ⟨g, k, none⟩ (.int .i64 (x : Nat))) (some ⟨g, 0, none⟩) (natsI (ns.set k x)) := by
  intro hl
  obtain ⟨g', hg, hc⟩ := h (by rw [natsI_len]; omega)
  injection hg with hg
  injection hg with hg _ _
  subst hg
  refine ⟨g, rfl, fun i hi => ?_⟩
  rw [natsI_len, List.length_set] at hi
  have h2 := hc i (by rw [natsI_len]; exact hi)
  by_cases e : i = k
  · subst e
    rw [World.cell?_setCell_same _ _ _ h2]
    simp [natsI, List.getD, hi]
  · rw [World.cell?_setCell_other _ _ _ _ (by intro e2; injection e2 with _ e2 _; exact e e2.symm), h2]
    simp [natsI, List.getD, List.getElem?_set_ne (Ne.symm e)]
theorem LRow.far {W : World} {g : Nat} {A : Option Addr} {zs : List Int} (h : LRow W A zs) (hA : ∀ b, A = some ⟨b, 0, none⟩ → b ≠ g) (k : Nat) (u : Value) : LRow (W.setCell ⟨g, k, none⟩ u) A zs := by
  intro hl
  obtain ⟨b, hb, hc⟩ := h hl
  refine ⟨b, hb, fun i hi => ?_⟩
  rw [World.cell?_setCell_other _ _ _ _ (by intro e2; injection e2 with e2 _ _; exact hA b hb e2.symm)]
  exact hc i hi

end Go.Proofs.YtgiaebeoldigbaaDoor

namespace Go.Proofs.YtgiaebeoldigbaaDoor
open Go.RowKit
open Pl
set_option linter.unusedSimpArgs false
set_option linter.unusedVariables false

attribute [local go_sem ↓] Go.wp_at_zero Go.wp_at_succ

set_option maxHeartbeats 16000000 in
set_option maxRecDepth 100000 in
theorem FnFreeVars_walk (A : Option Addr) (n cap : Nat) (w : World) (h : ByRow w A n) (hc : n ≤ cap) (hm : cap ≤ maxLen) :
    Calls Tryd.prog 4 #[.slice A n cap] w fun e w' => e = .returned (.bool true) ∧ Below w.heap.size w w' := by
  obtain ⟨i0, hi, hz0, hz1, hz2⟩ := info_parts (P := Tryd.prog) (e := 3) (z := .int .i64 0) (size := 1) (bytes := 8) (by kernel_rfl)
  by_cases hn : n ≤ 1048576
  case neg =>
    have hni : (1048576 : Int) < (n : Int) := by omega
    clear h hc hm
    go_enter Tryd.func4, Tryd.ntmps4
    go_wp2_with fail
    go_ret
    exact ⟨rfl, Below.refl _ _⟩
  case pos =>
  have hni : (n : Int) ≤ 1048576 := by omega
  have HD := Lib.hid (DrawHoldsAt_calls A n cap w h hn hc hm)
  clear h hc hm
  go_enter Tryd.func4, Tryd.ntmps4
  go_wp2_with fail
  refine (HD.out).mono ?_
  rintro e w1 ⟨⟨i, s, r, t, zs, A', c, rfl, hs, hr, ht, hzl, hzc, hL⟩, hz⟩
  have B1 := Lib.hid (hz.alloc hz.size (.cells #[.int .i64 i, .string s, .string r] 24))
  have X1 := Lib.hid (Bx.new w1 24 #[.int .i64 i, .string s, .string r])
  have L1 := Lib.hid (hL.alloc (.cells #[.int .i64 i, .string s, .string r] 24))
  have ci := fun W (hW : LRow W A' zs) => HoldsAt_impl i s r t A' zs c W (by unfold maxLen; omega) (by unfold maxLen; omega) (by omega) hzc hW
  have cs := fun W (hW : LRow W A' zs) => HoldsAt_spec i s r t A' zs c W (by unfold maxLen; omega) (by unfold maxLen; omega) (by unfold maxLen; omega) (by omega) hzc hW
  clear hz hL
  have fi := fun W => FreeVars_impl t W
  have fs := fun W => FreeVars_spec t W (by unfold maxLen; omega)
  rcases hold_cases i s r t zs with ⟨hb, hv⟩ | ⟨a, g, ns, ha, rfl, rfl, rfl, rfl, hgl, rfl, hns, hnl, hfr, hb, hv⟩
  · simp only [hb, hv] at ci cs
    obtain ⟨V, hV⟩ : ∃ V, V = txtV t.data.toList freeT := ⟨_, rfl⟩
    simp only [← hV] at fi fs
    have CI := Lib.hid ci
    have CS := Lib.hid cs
    have FI := Lib.hid fi
    have FS := Lib.hid fs
    clear ci cs hb hv fi fs hV
    as_aux_lemma =>
      obtain ⟨x0, x1, x2⟩ := box_load X1.out
      go_wp2_with fail
      refine (CI.out _ L1.out).mono ?_
      rintro e w2 ⟨rfl, hz⟩
      have B2 := Lib.hid (B1.out.trans (hz.mono B1.out.size))
      have X2 := Lib.hid (X1.out.call hz)
      have L2 := Lib.hid (L1.out.call hz)
      clear hz x0 x1 x2
      obtain ⟨x0, x1, x2⟩ := box_load X2.out
      go_wp2_with fail
      refine (CS.out _ L2.out).mono ?_
      rintro e w3 ⟨rfl, hz⟩
      have B3 := Lib.hid (B2.out.trans (hz.mono B2.out.size))
      have X3 := Lib.hid (X2.out.call hz)
      have L3 := Lib.hid (L2.out.call hz)
      clear hz x0 x1 x2
      go_wp2_with fail
      refine (FI.out _).mono ?_
      rintro e w4 ⟨rfl, hz⟩
      have B4 := Lib.hid (B3.out.trans (hz.mono B3.out.size))
      have X4 := Lib.hid (X3.out.call hz)
      have L4 := Lib.hid (L3.out.call hz)
      clear hz
      go_wp2_with fail
      refine (FS.out _).mono ?_
      rintro e w5 ⟨rfl, rfl⟩
      go_wp2_with fail
      refine (FI.out _).mono ?_
      rintro e w6 ⟨rfl, hz⟩
      have B6 := Lib.hid (B4.out.trans (hz.mono B4.out.size))
      have X6 := Lib.hid (X4.out.call hz)
      have L6 := Lib.hid (L4.out.call hz)
      clear hz
      go_wp2_with fail
      refine (FS.out _).mono ?_
      rintro e w7 ⟨rfl, rfl⟩
      go_wp2_with fail
      go_ret
      exact ⟨rfl, B6.out⟩
  simp only [hb, hv] at ci cs
  clear hb hv
  have hgs : g.text.length ≤ 64 := by rw [bs_size] at ht; exact ht
  have h8 := ha.hi
  have hlo := ha.lo
  simp only [txtV_yes freeT (bs_list g.text) (by rw [bs_list]; omega)] at fi fs
  rw [natsI_len] at hzl hzc ⊢
  simp only [natsI_len] at ci cs
  obtain ⟨fv, hfv⟩ : ∃ fv, fv = freeT g := ⟨_, rfl⟩
  simp only [← hfv] at fi fs
  have hfl : fv.length ≤ 4 := by rw [hfv]; exact varsL_len _ _
  have hfsz : (bs fv).size = fv.length := bs_size _
  have hvat : ∀ k, k < fv.length → ∃ v : Fin 4, fv.getD k 0 = vb v := fun k hk => by rw [hfv] at hk ⊢; exact vars_at g.freeBits 4 (Nat.le_refl _) k hk
  have hmem : ∀ k, k < 4 → UInt8.ofNat (97 + k) ∉ fv → g.freeBits.testBit k = false := fun k hk hno => by
    cases hb : g.freeBits.testBit k with
    | false => rfl
    | true => exact absurd (by rw [hfv]; exact vars_mem g.freeBits hk hb) hno
  obtain ⟨V, hV⟩ : ∃ V, V = g.holds a (envL ns) := ⟨_, rfl⟩
  simp only [← hV] at ci cs
  have cg : ∀ (k x : Nat), k < ns.length → x < a.n → g.freeBits.testBit k = false → ∀ (A2 : Option Addr) (c2 : Nat), ns.length ≤ c2 → ∀ W, LRow W A2 (natsI (ns.set k x)) → Calls Tryd.prog 13 #[stV a.n (bs a.set) (bs a.rel), .string (bs g.text), .slice A2 ns.length c2] W fun e w' => e = .returned (.bool V) ∧ Below W.heap.size W w' := fun k x hk hx hno A2 c2 hc2 W hW => by
    have := gs_any a ha g (by omega) _ rfl (ns.set k x) (fun y hy => by
      rcases List.mem_or_eq_of_mem_set hy with h | h
      · exact hns y h
      · rw [h]; exact hx) (by rw [List.length_set]; exact hnl) (by rw [List.length_set]; exact hfr) A2 c2 (by rw [List.length_set]; exact hc2) V (by rw [holds_set (by omega) hno, hV]) W hW
    rwa [List.length_set] at this
  have cq : ∀ (q : Fm), q.text.length ≤ 4000 → ∀ W, (Calls Tryd.prog 18 #[stV a.n (bs a.set) (bs a.rel), .string (bs q.text)] W fun e w' => (∃ b1 b2, e = .returned (.tuple #[.bool b1, .bool b2]) ∧ (b2 = false ∨ b1 = q.holds a (envL ns))) ∧ Below W.heap.size W w') := fun q hq W => by
    have hc := HoldsIn_impl a.n (bs a.set) (bs a.rel) (bs q.text) W (st_len ha).1 (st_len ha).2
    refine hc.mono fun e w' hh => ⟨⟨_, _, hh.1, ?_⟩, hh.2⟩
    rcases in_cases ha hq (envL ns) with h | ⟨_, h⟩
    · exact .inl h
    · exact .inr h
  have hsome : ∀ (q : Fm) (k : Nat), k < fv.length → (V = true → q.holds a (envL ns) = true) → ∃ q2 : Fm, q2.text = 83 :: fv.getD k 0 :: q.text ∧ (V = true → q2.holds a (envL ns) = true) := fun q k hk hq => by
    obtain ⟨v, hv⟩ := hvat k hk
    exact ⟨.qu .S v q, by rw [hv]; rfl, fun h => holds_some (env_lt ha hns v) (hq h)⟩
  have hnsx : ∀ k, k < ns.length → ns.getD k 0 < a.n := fun k hk => by rw [List.getD_eq_getElem?_getD, List.getElem?_eq_getElem hk]; exact hns _ (List.getElem_mem hk)
  have hq0 : V = true → g.holds a (envL ns) = true := fun h => by rw [← hV]; exact h
  have hVV : (V != V) = false := by cases V <;> rfl
  have hVV2 : (V == V) = true := by cases V <;> rfl
  have CI := Lib.hid ci
  have CS := Lib.hid cs
  have FI := Lib.hid fi
  have FS := Lib.hid fs
  have CG := Lib.hid cg
  have CQ := Lib.hid cq
  have HS := Lib.hid hsome
  have HX := Lib.hid hnsx
  have HM := Lib.hid hmem
  have HQ := Lib.hid hq0
  clear ci cs fi fs cg cq hsome hnsx hmem hvat hfv hV hns hfr hq0
  obtain ⟨x0, x1, x2⟩ := box_load X1.out
  go_wp2_with fail
  refine (CI.out _ L1.out).mono ?_
  rintro e w2 ⟨rfl, hz⟩
  have B2 := Lib.hid (B1.out.trans (hz.mono B1.out.size))
  have X2 := Lib.hid (X1.out.call hz)
  have L2 := Lib.hid (L1.out.call hz)
  clear hz x0 x1 x2
  obtain ⟨x0, x1, x2⟩ := box_load X2.out
  go_wp2_with fail
  refine (CS.out _ L2.out).mono ?_
  rintro e w3 ⟨rfl, hz⟩
  have B3 := Lib.hid (B2.out.trans (hz.mono B2.out.size))
  have X3 := Lib.hid (X2.out.call hz)
  have L3 := Lib.hid (L2.out.call hz)
  clear hz x0 x1 x2
  go_wp2_with fail
  refine (FI.out _).mono ?_
  rintro e w4 ⟨rfl, hz⟩
  have B4 := Lib.hid (B3.out.trans (hz.mono B3.out.size))
  have X4 := Lib.hid (X3.out.call hz)
  have L4 := Lib.hid (L3.out.call hz)
  clear hz
  go_wp2_with fail
  refine (FS.out _).mono ?_
  rintro e w5 ⟨rfl, rfl⟩
  go_wp2_with fail
  refine (FI.out _).mono ?_
  rintro e w6 ⟨rfl, hz⟩
  have B6 := Lib.hid (B4.out.trans (hz.mono B4.out.size))
  have X6 := Lib.hid (X4.out.call hz)
  have L6 := Lib.hid (L4.out.call hz)
  clear hz
  go_wp2_with fail
  go_loopg [11] ns.length (fun c iv wr => ∃ k : Nat, k + c = ns.length ∧ iv = .int .i64 (k : Nat) ∧ Bx wr w1.heap.size 24 #[.int .i64 (a.n : Int), .string (bs a.set), .string (bs a.rel)] ∧ LRow wr A' (natsI ns) ∧ Below w.heap.size w wr)
  case atStart => exact ⟨0, by omega, rfl, X6.out, L6.out, B6.out⟩
  case round =>
    clear X1 X2 X3 X4 X6 L1 L2 L3 L4 L6 B1 B2 B3 B4 B6 CI CS FI FS
    obtain ⟨k, hk, rfl, hxs, hll, hbl⟩ := hrel
    have HXs := Lib.hid hxs
    have HL := Lib.hid hll
    have HB := Lib.hid hbl
    clear hxs hll hbl
    by_cases hlt : k < ns.length
    · have hk4 : k < 4 := by omega
      obtain ⟨wo, rfl⟩ : ∃ x, x = wr := ⟨wr, rfl⟩
      go_wp2_with fail
      go_loopg [13, 14] fv.length (fun c ov kv wr => ∃ (m : Nat) (o : Bool), m + c = fv.length ∧ kv = .int .i64 (m : Nat) ∧ ov = .bool o ∧ (o = false → ∀ i, i < m → fv.getD i 0 ≠ UInt8.ofNat (97 + k)) ∧ wo = wr)
      case atStart => exact ⟨0, false, by omega, rfl, rfl, fun _ i hi => absurd hi (Nat.not_lt_zero _), rfl⟩
      case round =>
        obtain ⟨m, o, hm, rfl, rfl, ho, hwo⟩ := hrel
        by_cases hlt2 : m < fv.length
        · cases o with
          | true =>
            go_wp2_with fail
            go_roundg (fv.length - m - 1)
            case rel => exact ⟨m + 1, true, by omega, by go_num, rfl, fun h => (by cases h), hwo⟩
            case measure => omega
          | false =>
            have Ho := Lib.hid (ho rfl)
            clear ho
            go_wp2_with fail
            go_roundg (fv.length - m - 1)
            case rel => exact ⟨m + 1, _, by omega, by go_num, rfl, fun h i hi => by
              by_cases e : i = m
              · subst e; exact cmp_at hk4 _ _ h
              · exact Ho.out i (by omega), hwo⟩
            case measure => omega
        · obtain rfl : m = fv.length := by omega
          have hgk : gk = 0 := by omega
          subst hgk
          clear hlt2
          subst hwo
          obtain ⟨gA, rfl, hcA⟩ := LRow.nats HL.out hlt
          have hno : o = false → g.freeBits.testBit k = false := fun h => HM.out k hk4 fun hmm => by
            obtain ⟨i, hi, hie⟩ := List.getElem_of_mem hmm
            exact ho h i hi (by rw [List.getD_eq_getElem?_getD, List.getElem?_eq_getElem hi]; exact hie)
          have Hno := Lib.hid hno
          have hx0 := HX.out k hlt
          obtain ⟨x, hxe⟩ : ∃ x, x = ns.getD k 0 := ⟨_, rfl⟩
          rw [← hxe] at hx0
          have Hxe := Lib.hid hxe
          clear ho hno hxe
          go_upto_region 19 with (at_builtin; refine wpList_append_own_at _ rfl (.tmp 101) (.tmp 102) 25 rfl wo.heap.size 3 i0 (.int .i64 0) 1 8 Tryd.underlying25 hi hz0 hz1 hz2 rfl (by decide) _ 0 [] rfl (own_zero wo) ⟨gA, 0, none⟩ ns.length _ (intsV (natsI ns)) rfl (by simp [intsV_len, natsI_len]) (LRow.news (HL.out.alloc _)) (ints_oneCell .i64 _) (by unfold maxLen; omega) (by omega) (by simp) ?_; intro v5 w5 ho5 hg5 hn5 hat5; clear hn5 hat5; have O5 := Lib.hid (app_one ho5 hg5).1; have E5 := Lib.hid (app_one ho5 hg5).2; clear ho5 hg5; obtain ⟨g5, cp5, rfl⟩ := own_shape O5.out (by omega); obtain ⟨hcp1, hcp2, hcp3, hcp4⟩ := own_cap O5.out; have X5 := Lib.hid (HXs.out.call E5.out); have L5 := Lib.hid (HL.out.call E5.out); have B5 := Lib.hid (HB.out.trans (E5.out.mono HB.out.size)); have M5 := Lib.hid (LRow_of O5.out))
          have X6 := Lib.hid X5.out.drew
          have L6 := Lib.hid (L5.out.drew)
          have M6 := Lib.hid (M5.out.drew)
          have B6 := Lib.hid B5.out.drew
          have hw1 : IntKind.i64.wrap ((x : Int) + 1) = (x : Int) + 1 := IntWalk.i64_in _ (by omega)
          have hw2 : ((x : Int) + 1).tmod (a.n : Int) = ((x : Int) + 1) % (a.n : Int) := Int.tmod_eq_emod_of_nonneg (by omega)
          have hw4 : ((x : Int) + 1) % (a.n : Int) < (a.n : Int) := Int.emod_lt_of_pos _ (by omega)
          have hw5 : 0 ≤ ((x : Int) + 1) % (a.n : Int) := Int.emod_nonneg _ (by omega)
          have hw3 : IntKind.i64.wrap (((x : Int) + 1) % (a.n : Int)) = ((x : Int) + 1) % (a.n : Int) := IntWalk.i64_in _ (by omega)
          have hxm : (x + 1) % a.n < a.n := Nat.mod_lt _ (by omega)
          have f1 := O5.out.frozenAt k
          obtain ⟨c0, c1, c2⟩ := box_load X6.out
          obtain ⟨_, e1, c3⟩ := LRow.nats L6.out hlt
          cases e1
          obtain ⟨_, e1, c4⟩ := LRow.nats M6.out hlt
          cases e1
          rw [← Hxe.out] at c3 c4
          refine R2.region_sched [(0, true), (1, true), (2, true), (3, true), (4, true), (5, true), (6, true), (7, true), (8, true), (9, true), (10, true), (11, false)] 11 (fun w' : World => w'.cell? ⟨w1.heap.size, 0, none⟩ = some (.int .i64 (a.n : Int)) ∧ w'.cell? ⟨gA, k, none⟩ = some (.int .i64 (x : Nat)) ∧ w'.cell? ⟨g5, k, none⟩ = some (.int .i64 (x : Nat))) (by kernel_rfl) (by kernel_rfl) (by kernel_rfl) (by kernel_rfl) (by kernel_rfl) (fun _ _ _ _ h => h) ?_ (fun Q1 hQ1 => ?_)
          · exact ⟨c0, c3, c4⟩
          try simp only [List.append]
          refine R2.sched_take' (v := ?_) (a' := ?_) rfl (by kernel_rfl) ?_ rfl ?_ ?_
          rotate_left 2
          · intro w hSw
            (try dsimp only at hSw)
            go_simp
            try with_reducible rfl
          · (try simp only [Act.put, List.setIfInBounds_toArray, List.set_cons_zero, List.set_cons_succ])
            try rfl
          refine R2.sched_take' (v := ?_) (a' := ?_) rfl (by kernel_rfl) ?_ rfl ?_ ?_
          rotate_left 2
          · intro w hSw
            (try dsimp only at hSw)
            go_simp
            try with_reducible rfl
          · (try simp only [Act.put, List.setIfInBounds_toArray, List.set_cons_zero, List.set_cons_succ])
            try rfl
          refine R2.sched_take' (v := ?_) (a' := ?_) rfl (by kernel_rfl) ?_ rfl ?_ ?_
          rotate_left 2
          · intro w hSw
            (try dsimp only at hSw)
            go_simp
            try with_reducible rfl
          · (try simp only [Act.put, List.setIfInBounds_toArray, List.set_cons_zero, List.set_cons_succ])
            try rfl
          refine R2.sched_take' (v := ?_) (a' := ?_) rfl (by kernel_rfl) ?_ rfl ?_ ?_
          rotate_left 2
          · intro w hSw
            (try dsimp only at hSw)
            go_simp
            try with_reducible rfl
          · (try simp only [Act.put, List.setIfInBounds_toArray, List.set_cons_zero, List.set_cons_succ])
            try rfl
          refine R2.sched_take' (v := ?_) (a' := ?_) rfl (by kernel_rfl) ?_ rfl ?_ ?_
          rotate_left 2
          · intro w hSw
            (try dsimp only at hSw)
            go_simp
            try with_reducible rfl
          · (try simp only [Act.put, List.setIfInBounds_toArray, List.set_cons_zero, List.set_cons_succ])
            try rfl
          refine R2.sched_take' (v := .int .i64 (x : Nat)) (a' := ?_) rfl (by kernel_rfl) ?_ rfl ?_ ?_
          rotate_left 1
          · intro w hSw
            (try dsimp only at hSw)
            go_simp
            first | done | (obtain ⟨u0, u1, u2⟩ := hSw; simp [*])
          · (try simp only [Act.put, List.setIfInBounds_toArray, List.set_cons_zero, List.set_cons_succ])
            try rfl
          refine R2.sched_take' (v := .int .i64 ((x + 1 : Nat) : Int)) (a' := ?_) rfl (by kernel_rfl) ?_ rfl ?_ ?_
          rotate_left 1
          · intro w hSw
            (try dsimp only at hSw)
            go_simp
            first | done | omega | exact hw1 | (trace_state; done)
          · (try simp only [Act.put, List.setIfInBounds_toArray, List.set_cons_zero, List.set_cons_succ])
            try rfl
          refine R2.sched_take' (v := ?_) (a' := ?_) rfl (by kernel_rfl) ?_ rfl ?_ ?_
          rotate_left 2
          · intro w hSw
            (try dsimp only at hSw)
            go_simp
            try with_reducible rfl
          · (try simp only [Act.put, List.setIfInBounds_toArray, List.set_cons_zero, List.set_cons_succ])
            try rfl
          refine R2.sched_take' (v := .int .i64 (a.n : Int)) (a' := ?_) rfl (by kernel_rfl) ?_ rfl ?_ ?_
          rotate_left 1
          · intro w hSw
            (try dsimp only at hSw)
            go_simp
            first | done | (obtain ⟨u0, u1, u2⟩ := hSw; simp [*])
          · (try simp only [Act.put, List.setIfInBounds_toArray, List.set_cons_zero, List.set_cons_succ])
            try rfl
          refine R2.sched_take' (v := .int .i64 ((x + 1) % a.n : Nat)) (a' := ?_) rfl (by kernel_rfl) ?_ rfl ?_ ?_
          rotate_left 1
          · intro w hSw
            (try dsimp only at hSw)
            go_simp
            first | done | omega | (rw [hw2]; exact hw3) | exact hw2 | (trace_state; done)
          · (try simp only [Act.put, List.setIfInBounds_toArray, List.set_cons_zero, List.set_cons_succ])
            try rfl
          refine R2.sched_take' (v := ?_) (a' := ?_) rfl (by kernel_rfl) ?_ rfl ?_ ?_
          rotate_left 2
          · intro w hSw
            (try dsimp only at hSw)
            go_simp
            try with_reducible rfl
          · (try simp only [Act.put, List.setIfInBounds_toArray, List.set_cons_zero, List.set_cons_succ])
            try rfl
          refine R2.sched_last rfl (by kernel_rfl) (fun K1 hK1 => ?_)
          go_simp
          refine hK1.out _ _ (R2.sched_lay (a' := ?_) ?_ ?_)
          rotate_left 1
          · (try simp only [Act.put, List.getElem_toArray, List.getElem_cons_succ, List.getElem_cons_zero, List.setIfInBounds_toArray, List.set_cons_zero, List.set_cons_succ])
            try rfl
          clear hK1 K1
          refine R2.sched_done (hQ1.out _ _ ?_)
          obtain ⟨y, hy⟩ : ∃ y, y = (x + 1) % a.n := ⟨_, rfl⟩
          have hyc : ((x : Int) + 1) % (a.n : Int) = (y : Nat) := by rw [hy]; simp
          have hyb : y < a.n := by rw [hy]; exact hxm
          rw [hyc]
          have M7 := Lib.hid ((LRow.set (x := y) M5.out hlt).drew)
          have X7 := Lib.hid ((X5.out.far (p := ⟨g5, k, none⟩) (show w1.heap.size ≠ g5 by have := X5.out.lt; have := HXs.out.lt; omega) (.int .i64 (y : Nat))).drew)
          have L7 := Lib.hid ((LRow.far (g := g5) L5.out (fun b hb => by injection hb with hb; injection hb with hb _ _; have := World.block_lt_of_cell? _ _ hcA; simp at this; omega) k (.int .i64 (y : Nat))).drew)
          have B7 := Lib.hid ((B5.out.setCell (p := ⟨g5, k, none⟩) (by have := HB.out.size; simp; omega) (.int .i64 (y : Nat))).drew)
          clear c0 c1 c2 c3 c4 f1 X5 X6 L5 L6 B5 B6 M5 M6 O5 E5 hw1 hw2 hw3 hw4 hw5 hxm hyc hy
          obtain ⟨c0, c1, c2⟩ := box_load X7.out
          cases o with
          | true =>
            go_wp2_with fail
            go_roundg (ns.length - k - 1)
            case rel => exact ⟨k + 1, by omega, by go_num, X7.out, L7.out, B7.out⟩
            case measure => omega
          | false =>
            have CGk := Lib.hid (CG.out k y hlt hyb (Hno.out rfl) (some ⟨g5, 0, none⟩) cp5 hcp1)
            go_wp2_with fail
            refine (CGk.out _ M7.out).mono ?_
            rintro e w8 ⟨rfl, hz⟩
            have B8 := Lib.hid (B7.out.trans (hz.mono B7.out.size))
            have X8 := Lib.hid (X7.out.call hz)
            have L8 := Lib.hid (L7.out.call hz)
            clear hz c0 c1 c2
            go_wp2_with fail
            go_roundg (ns.length - k - 1)
            case rel => exact ⟨k + 1, by omega, by go_num, X8.out, L8.out, B8.out⟩
            case measure => omega
    · obtain rfl : k = ns.length := by omega
      clear hlt
      obtain ⟨wo, rfl⟩ : ∃ x, x = wr := ⟨wr, rfl⟩
      go_wp2_with fail
      go_loopg [16, 17] fv.length (fun c cv kv wr => ∃ (m : Nat) (q : Fm), m + c = fv.length ∧ kv = .int .i64 (m : Nat) ∧ cv = .string (bs q.text) ∧ q.text.length ≤ 64 + 2 * m ∧ (V = true → q.holds a (envL ns) = true) ∧ wo = wr)
      case atStart => exact ⟨0, g, by omega, rfl, rfl, by omega, HQ.out, rfl⟩
      case round =>
        obtain ⟨m, q, hm, rfl, rfl, hql, hqt, rfl⟩ := hrel
        have Hq := Lib.hid hqt
        clear hqt
        by_cases hlt : m < fv.length
        · have hqs : (bs q.text).size ≤ 72 := by rw [bs_size]; omega
          obtain ⟨q2, hq2, hq2t⟩ := HS.out q m hlt Hq.out
          have Hq2 := Lib.hid hq2
          have Hq2t := Lib.hid hq2t
          clear hq2 hq2t
          go_wp2_with fail
          go_roundg (fv.length - m - 1)
          case rel => exact ⟨m + 1, q2, by omega, by go_num, by rw [ext_one hlt, mk_bs, text_app, text_app, Hq2.out]; rfl, by rw [Hq2.out]; simp; omega, Hq2t.out, rfl⟩
          case measure => omega
        · obtain rfl : m = fv.length := by omega
          clear hlt
          obtain ⟨x0, x1, x2⟩ := box_load HXs.out
          go_wp2_with fail
          refine (CQ.out q (by omega) _).mono ?_
          rintro e w8 ⟨⟨b1, b2, rfl, hbb⟩, hz⟩
          have B8 := Lib.hid (HB.out.trans (hz.mono HB.out.size))
          have Hbb := Lib.hid hbb
          clear hz x0 x1 x2 hbb
          have key : b2 = false ∨ V = false ∨ b1 = true := by
            rcases Hbb.out with h | h
            · exact .inl h
            · cases hV : V with
              | false => exact .inr (.inl rfl)
              | true => exact .inr (.inr (by rw [h]; exact Hq.out hV))
          cases b2 <;> cases V <;> cases b1 <;> first
            | (exfalso; revert key; decide)
            | (clear key
               go_wp2_with fail
               go_ret
               exact ⟨rfl, B8.out⟩)

end Go.Proofs.YtgiaebeoldigbaaDoor
