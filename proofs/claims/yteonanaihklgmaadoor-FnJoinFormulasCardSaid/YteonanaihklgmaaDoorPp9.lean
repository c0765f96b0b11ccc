/-
  Laws of the functions that the claim reaches, one after the other (packed by a program of the prover's: SHoldsc3, SHoldsc4, SHolds, StV, SHAt, FmB, GsH, GsFour, FvP, Text, Push). Conditions: texts below the reach.
-/
import Derived.Test.YteonanaihklgmaaDoorPp8
import Derived.Test.YteonanaihklgmaaDoorPp0
import Derived.Test.YteonanaihklgmaaDoorPp7
import Derived.Test.YteonanaihklgmaaDoorPp3
import Derived.Test.YteonanaihklgmaaDoorPp6
import Derived.Test.YteonanaihklgmaaDoorPp2
import Derived.Test.YteonanaihklgmaaDoorPp4
import Derived.Deep.DeepCutAuto
import Derived.Deep.LoopGhost
import Derived.RegionTactic
import Derived.Deep.CutBlock
set_option linter.unusedSimpArgs false
set_option linter.unusedVariables false

namespace Go.Proofs.YteonanaihklgmaaDoor
open Go.RowKit
open Pl
set_option linter.unusedSimpArgs false
set_option linter.unusedVariables false

set_option maxHeartbeats 4000000 in
set_option maxRecDepth 100000 in
theorem sh_c3 (a : St) (ha : a.ok) (v : Fin 4) (p : Fm) (Ih : SHAt a p) : SHAt a (.qu .c3 v p) := by
  intro s k r m e w hd hs hm he
  subst hm
  obtain ⟨hk1, hop, hle⟩ := at_op hd
  have h8 := ha.hi
  have XS := Lib.hid ((Bx.new w 27 #[.int .i64 (a.n : Int), .string (bs a.set), .string (bs a.rel)]).alloc (.cells #[.int .i64 (e 0 : Nat), .int .i64 (e 1 : Nat), .int .i64 (e 2 : Nat), .int .i64 (e 3 : Nat)] 79))
  have XE := Lib.hid (show Bx ((w.alloc (.cells #[.int .i64 (a.n : Int), .string (bs a.set), .string (bs a.rel)] 27)).alloc (.cells #[.int .i64 (e 0 : Nat), .int .i64 (e 1 : Nat), .int .i64 (e 2 : Nat), .int .i64 (e 3 : Nat)] 79)) (w.heap.size + 1) 79 #[.int .i64 (e 0 : Nat), .int .i64 (e 1 : Nat), .int .i64 (e 2 : Nat), .int .i64 (e 3 : Nat)] from bx_two w _ _)
  have BV := Lib.hid (show Below w.heap.size w ((w.alloc (.cells #[.int .i64 (a.n : Int), .string (bs a.set), .string (bs a.rel)] 27)).alloc (.cells #[.int .i64 (e 0 : Nat), .int .i64 (e 1 : Nat), .int .i64 (e 2 : Nat), .int .i64 (e 3 : Nat)] 79)) from ((Below.refl _ _).alloc (Nat.le_refl _) _).alloc (by simp) _)
  obtain ⟨s0, s1, s2⟩ := box_load XS.out
  have hev : ∀ v : Fin 4, ((w.alloc (.cells #[.int .i64 (a.n : Int), .string (bs a.set), .string (bs a.rel)] 27)).alloc (.cells #[.int .i64 (e 0 : Nat), .int .i64 (e 1 : Nat), .int .i64 (e 2 : Nat), .int .i64 (e 3 : Nat)] 79)).cell? ⟨w.heap.size + 1, v.val, none⟩ = some (.int .i64 (e v : Nat)) := fun v => (XE.out.cell v.val).trans (env_at e v)
  have c0 := XE.out.cell 0
  have c1 := XE.out.cell 1
  have c2 := XE.out.cell 2
  have c3 := XE.out.cell 3
  simp only [List.getElem?_toArray, List.getElem?_cons_zero, List.getElem?_cons_succ] at c0 c1 c2 c3
  have Hev := Lib.hid hev
  have He := Lib.hid he
  clear hev he
  unfold stA envA4
  have hk := hk1
  have hb : (s[k].toNat : Int) = 51 := by rw [hop]; rfl
  have hd1 := at_qu hd
  have hdv : s.data.toList.drop (k + 1) = vb v :: (p.text ++ r) := drop_add_of (p := [Qn.b .c3]) (by simpa [Fm.text] using hd)
  have h1 := fun W => l2Var_of s (k + 1) v _ ((k : Int) + 1) W hs hdv (by omega)
  have hend := fun W => l2End_of s (k + 2) p _ ((k : Int) + 2) W hs hd1 (by omega)
  simp only [Fm.text, List.length_cons] at hle
  have hv3 : (v.val : Int) < 4 := by omega
  have H1 := Lib.hid h1
  have Hend := Lib.hid hend
  have Hd1 := Lib.hid hd1
  clear hd hd1 hdv h1 hend
  clear hop
  go_enter Tryd.func83, Tryd.ntmps83
  go_wp2_with fail
  go_loopg [15, 16] (a.n + 1) (fun c cn xi wr => ∃ x : Nat, x + c = a.n + 1 ∧ x ≤ a.n ∧ xi = .int .i64 (x : Nat) ∧ cn = .int .i64 (cnt x (fun y => p.holds a (upd e v y)) : Nat) ∧ Bx wr w.heap.size 27 #[.int .i64 (a.n : Int), .string (bs a.set), .string (bs a.rel)] ∧ (∃ e' : Env, (∀ u, u ≠ v → e' u = e u) ∧ Bx wr (w.heap.size + 1) 79 #[.int .i64 (e' 0 : Nat), .int .i64 (e' 1 : Nat), .int .i64 (e' 2 : Nat), .int .i64 (e' 3 : Nat)]) ∧ Below w.heap.size w wr)
  case atStart => exact ⟨0, by omega, by omega, rfl, rfl, XS.out, ⟨e, fun _ _ => rfl, XE.out⟩, BV.out⟩
  case round =>
    clear s0 s1 s2 c0 c1 c2 c3
    obtain ⟨x, hx, hxn, rfl, rfl, hN, ⟨e', hE', hVl⟩, hf⟩ := hrel
    have hcn := cnt_le x (fun y => p.holds a (upd e v y))
    have hcs := cnt_succ x (fun y => p.holds a (upd e v y))
    have hen := fun h => @says_enough .c3 a.n x (fun y => p.holds a (upd e v y)) hxn h
    have hne := fun h h2 => @says_never .c3 a.n (x + 1) (fun y => p.holds a (upd e v y)) h h2
    have Hen := Lib.hid hen
    have Hne := Lib.hid hne
    have Hcs := Lib.hid hcs
    have HN := Lib.hid hN
    have HVl := Lib.hid hVl
    have HF := Lib.hid hf
    obtain ⟨Z, hZ⟩ : ∃ Z, Z = cnt x (fun y => p.holds a (upd e v y)) := ⟨_, rfl⟩
    have HZ := Lib.hid hZ
    rw [← hZ] at hcn ⊢
    clear hen hne hcs hN hVl hf hZ
    by_cases hlt : x < a.n
    · by_cases hgo : Z < 3
      · obtain ⟨s0, s1, s2⟩ := box_load HN.out
        have fv := HVl.out.free v.val
        have XS1 := Lib.hid (show Bx (wr.setCell ⟨w.heap.size + 1, v.val, none⟩ (.int .i64 (x : Nat))) w.heap.size 27 #[.int .i64 (a.n : Int), .string (bs a.set), .string (bs a.rel)] from HN.out.far (by simp) _)
        have XE1 := Lib.hid (show Bx (wr.setCell ⟨w.heap.size + 1, v.val, none⟩ (.int .i64 (x : Nat))) (w.heap.size + 1) 79 (envA4 (upd e v x)) from by
          have := HVl.out.set v.val (.int .i64 (x : Nat))
          rw [show (#[.int .i64 (e' 0 : Nat), .int .i64 (e' 1 : Nat), .int .i64 (e' 2 : Nat), .int .i64 (e' 3 : Nat)] : Array Value).setIfInBounds v.val (.int .i64 (x : Nat)) = envA4 (upd e v x) from by rw [← upd_upd e e' v x hE']; exact envA_upd e' v x] at this
          exact this)
        have B1 := Lib.hid (show Below w.heap.size w (wr.setCell ⟨w.heap.size + 1, v.val, none⟩ (.int .i64 (x : Nat))) from HF.out.setCell (by simp) _)
        have hlt' : upd e v x v < a.n := by rw [upd_same]; exact hlt
        have hcall := fun W => Ih s (k + 2) r ((k : Int) + 2) (upd e v x) W Hd1.out hs (by omega) (fun u => by unfold upd; split; exact hlt; exact He.out u)
        obtain ⟨E, hE⟩ : ∃ E, E = upd e v x := ⟨_, rfl⟩
        rw [← hE] at XE1
        simp only [← hE] at hcall
        unfold stA envA4 at hcall
        have HE := Lib.hid hE
        have cv := (HVl.out.cell v.val).trans (env_at e' v)
        clear hE' hE hlt'
        cases hp : p.holds a E with
        | false =>
          simp only [hp] at hcall
          have Hcall := Lib.hid hcall
          have hz1 : cnt (x + 1) (fun y => p.holds a (upd e v y)) = Z := by rw [Hcs.out, ← HE.out, hp, ← HZ.out]; rfl
          have Hz1 := Lib.hid hz1
          clear hcall hp hz1
          by_cases hbr : Z + (a.n - x - 1) < 3
          · have hv := Hne.out (by omega) (by rw [Hz1.out]; show Z + (a.n - (x + 1)) < 3; omega)
            have Hv := Lib.hid hv
            clear hv
            go_upto_region 33 with (go_at_call 93; refine (H1.out _).mono ?_; rintro ed w' ⟨rfl, rfl⟩)
            obtain ⟨r0, r1, r2⟩ := box_load XS1.out
            have d0 := XE1.out.cell 0
            have d1 := XE1.out.cell 1
            have d2 := XE1.out.cell 2
            have d3 := XE1.out.cell 3
            simp only [envA4, List.getElem?_toArray, List.getElem?_cons_zero, List.getElem?_cons_succ] at d0 d1 d2 d3
            clear s0 s1 s2 fv cv
            go_wp2_with (first | (go_at_call 83; refine (Hcall.out _).mono ?_; rintro ed w3 ⟨rfl, hz⟩; have B3 := Lib.hid (B1.out.trans (hz.mono B1.out.size)); have XS3 := Lib.hid (XS1.out.call hz); have XE3 := Lib.hid (XE1.out.call hz); clear hz r0 r1 r2 d0 d1 d2 d3; obtain ⟨t0, t1, t2⟩ := box_load XS3.out) | (go_at_call 69; refine (Hend.out _).mono ?_; rintro ed w7 ⟨rfl, rfl⟩))
            go_ret2
            exact ⟨ret_pair (by show Value.bool _ = Value.bool _; (congr 1; rw [show (Fm.qu .c3 v p).holds a e = false from Hv.out]; first | done | (simp; done) | (simp; omega))) (by show Value.int .i64 _ = Value.int .i64 _; congr 1 <;> simp [Fm.text] <;> omega), B3.out⟩
          · go_upto_region 33 with (go_at_call 93; refine (H1.out _).mono ?_; rintro ed w' ⟨rfl, rfl⟩)
            obtain ⟨r0, r1, r2⟩ := box_load XS1.out
            have d0 := XE1.out.cell 0
            have d1 := XE1.out.cell 1
            have d2 := XE1.out.cell 2
            have d3 := XE1.out.cell 3
            simp only [envA4, List.getElem?_toArray, List.getElem?_cons_zero, List.getElem?_cons_succ] at d0 d1 d2 d3
            clear s0 s1 s2 fv cv
            go_wp2_with (go_at_call 83; refine (Hcall.out _).mono ?_; rintro ed w3 ⟨rfl, hz⟩; have B3 := Lib.hid (B1.out.trans (hz.mono B1.out.size)); have XS3 := Lib.hid (XS1.out.call hz); have XE3 := Lib.hid (XE1.out.call hz); clear hz r0 r1 r2 d0 d1 d2 d3; obtain ⟨t0, t1, t2⟩ := box_load XS3.out)
            go_roundg (a.n - x)
            case rel => exact ⟨x + 1, by omega, by omega, by go_num, by first | (rw [Hz1.out]; done) | (rw [Hz1.out]; rfl), XS3.out, ⟨E, fun u hu => by rw [HE.out, upd_other hu], XE3.out⟩, B3.out⟩
            case measure => omega
        | true =>
          simp only [hp] at hcall
          have Hcall := Lib.hid hcall
          have hz1 : cnt (x + 1) (fun y => p.holds a (upd e v y)) = Z + 1 := by rw [Hcs.out, ← HE.out, hp, ← HZ.out]; rfl
          have Hz1 := Lib.hid hz1
          clear hcall hp hz1
          by_cases hbr : Z + 1 + (a.n - x - 1) < 3
          · have hv := Hne.out (by omega) (by rw [Hz1.out]; show Z + 1 + (a.n - (x + 1)) < 3; omega)
            have Hv := Lib.hid hv
            clear hv
            go_upto_region 33 with (go_at_call 93; refine (H1.out _).mono ?_; rintro ed w' ⟨rfl, rfl⟩)
            obtain ⟨r0, r1, r2⟩ := box_load XS1.out
            have d0 := XE1.out.cell 0
            have d1 := XE1.out.cell 1
            have d2 := XE1.out.cell 2
            have d3 := XE1.out.cell 3
            simp only [envA4, List.getElem?_toArray, List.getElem?_cons_zero, List.getElem?_cons_succ] at d0 d1 d2 d3
            clear s0 s1 s2 fv cv
            go_wp2_with (first | (go_at_call 83; refine (Hcall.out _).mono ?_; rintro ed w3 ⟨rfl, hz⟩; have B3 := Lib.hid (B1.out.trans (hz.mono B1.out.size)); have XS3 := Lib.hid (XS1.out.call hz); have XE3 := Lib.hid (XE1.out.call hz); clear hz r0 r1 r2 d0 d1 d2 d3; obtain ⟨t0, t1, t2⟩ := box_load XS3.out) | (go_at_call 69; refine (Hend.out _).mono ?_; rintro ed w7 ⟨rfl, rfl⟩))
            go_ret2
            exact ⟨ret_pair (by show Value.bool _ = Value.bool _; (congr 1; rw [show (Fm.qu .c3 v p).holds a e = false from Hv.out]; first | done | (simp; done) | (simp; omega))) (by show Value.int .i64 _ = Value.int .i64 _; congr 1 <;> simp [Fm.text] <;> omega), B3.out⟩
          · go_upto_region 33 with (go_at_call 93; refine (H1.out _).mono ?_; rintro ed w' ⟨rfl, rfl⟩)
            obtain ⟨r0, r1, r2⟩ := box_load XS1.out
            have d0 := XE1.out.cell 0
            have d1 := XE1.out.cell 1
            have d2 := XE1.out.cell 2
            have d3 := XE1.out.cell 3
            simp only [envA4, List.getElem?_toArray, List.getElem?_cons_zero, List.getElem?_cons_succ] at d0 d1 d2 d3
            clear s0 s1 s2 fv cv
            go_wp2_with (go_at_call 83; refine (Hcall.out _).mono ?_; rintro ed w3 ⟨rfl, hz⟩; have B3 := Lib.hid (B1.out.trans (hz.mono B1.out.size)); have XS3 := Lib.hid (XS1.out.call hz); have XE3 := Lib.hid (XE1.out.call hz); clear hz r0 r1 r2 d0 d1 d2 d3; obtain ⟨t0, t1, t2⟩ := box_load XS3.out)
            go_roundg (a.n - x)
            case rel => exact ⟨x + 1, by omega, by omega, by go_num, by first | (rw [Hz1.out]; done) | (rw [Hz1.out]; rfl), XS3.out, ⟨E, fun u hu => by rw [HE.out, upd_other hu], XE3.out⟩, B3.out⟩
            case measure => omega
      · obtain ⟨s0, s1, s2⟩ := box_load HN.out
        have hv := Hen.out (by rw [← HZ.out]; show 3 ≤ Z; omega)
        have Hv := Lib.hid hv
        clear hv
        go_wp2_with (go_at_call 69; refine (Hend.out _).mono ?_; rintro ed w7 ⟨rfl, rfl⟩)
        go_ret2
        exact ⟨ret_pair (by show Value.bool _ = Value.bool _; (congr 1; rw [show (Fm.qu .c3 v p).holds a e = true from Hv.out]; first | done | (simp; done) | (simp; omega))) (by show Value.int .i64 _ = Value.int .i64 _; congr 1 <;> simp [Fm.text] <;> omega), HF.out⟩
    · have hxe : x = a.n := by omega
      obtain ⟨s0, s1, s2⟩ := box_load HN.out
      have hv : (Fm.qu .c3 v p).holds a e = decide (3 ≤ Z) := by
        show Qn.says .c3 a.n (cnt a.n (fun y => p.holds a (upd e v y))) = _
        rw [← hxe, ← HZ.out, says_need _ hcn]
        rfl
      have Hv := Lib.hid hv
      clear hv
      go_wp2_with (go_at_call 69; refine (Hend.out _).mono ?_; rintro ed w7 ⟨rfl, rfl⟩)
      go_ret2
      exact ⟨ret_pair (by show Value.bool _ = Value.bool _; (congr 1; rw [Hv.out, decide_eq_decide]; first | done | omega)) (by show Value.int .i64 _ = Value.int .i64 _; congr 1 <;> simp [Fm.text] <;> omega), HF.out⟩



end Go.Proofs.YteonanaihklgmaaDoor

namespace Go.Proofs.YteonanaihklgmaaDoor
open Go.RowKit
open Pl
set_option linter.unusedSimpArgs false
set_option linter.unusedVariables false

set_option maxHeartbeats 4000000 in
set_option maxRecDepth 100000 in
theorem sh_c4 (a : St) (ha : a.ok) (v : Fin 4) (p : Fm) (Ih : SHAt a p) : SHAt a (.qu .c4 v p) := by
  intro s k r m e w hd hs hm he
  subst hm
  obtain ⟨hk1, hop, hle⟩ := at_op hd
  have h8 := ha.hi
  have XS := Lib.hid ((Bx.new w 27 #[.int .i64 (a.n : Int), .string (bs a.set), .string (bs a.rel)]).alloc (.cells #[.int .i64 (e 0 : Nat), .int .i64 (e 1 : Nat), .int .i64 (e 2 : Nat), .int .i64 (e 3 : Nat)] 79))
  have XE := Lib.hid (show Bx ((w.alloc (.cells #[.int .i64 (a.n : Int), .string (bs a.set), .string (bs a.rel)] 27)).alloc (.cells #[.int .i64 (e 0 : Nat), .int .i64 (e 1 : Nat), .int .i64 (e 2 : Nat), .int .i64 (e 3 : Nat)] 79)) (w.heap.size + 1) 79 #[.int .i64 (e 0 : Nat), .int .i64 (e 1 : Nat), .int .i64 (e 2 : Nat), .int .i64 (e 3 : Nat)] from bx_two w _ _)
  have BV := Lib.hid (show Below w.heap.size w ((w.alloc (.cells #[.int .i64 (a.n : Int), .string (bs a.set), .string (bs a.rel)] 27)).alloc (.cells #[.int .i64 (e 0 : Nat), .int .i64 (e 1 : Nat), .int .i64 (e 2 : Nat), .int .i64 (e 3 : Nat)] 79)) from ((Below.refl _ _).alloc (Nat.le_refl _) _).alloc (by simp) _)
  obtain ⟨s0, s1, s2⟩ := box_load XS.out
  have hev : ∀ v : Fin 4, ((w.alloc (.cells #[.int .i64 (a.n : Int), .string (bs a.set), .string (bs a.rel)] 27)).alloc (.cells #[.int .i64 (e 0 : Nat), .int .i64 (e 1 : Nat), .int .i64 (e 2 : Nat), .int .i64 (e 3 : Nat)] 79)).cell? ⟨w.heap.size + 1, v.val, none⟩ = some (.int .i64 (e v : Nat)) := fun v => (XE.out.cell v.val).trans (env_at e v)
  have c0 := XE.out.cell 0
  have c1 := XE.out.cell 1
  have c2 := XE.out.cell 2
  have c3 := XE.out.cell 3
  simp only [List.getElem?_toArray, List.getElem?_cons_zero, List.getElem?_cons_succ] at c0 c1 c2 c3
  have Hev := Lib.hid hev
  have He := Lib.hid he
  clear hev he
  unfold stA envA4
  have hk := hk1
  have hb : (s[k].toNat : Int) = 52 := by rw [hop]; rfl
  have hd1 := at_qu hd
  have hdv : s.data.toList.drop (k + 1) = vb v :: (p.text ++ r) := drop_add_of (p := [Qn.b .c4]) (by simpa [Fm.text] using hd)
  have h1 := fun W => l2Var_of s (k + 1) v _ ((k : Int) + 1) W hs hdv (by omega)
  have hend := fun W => l2End_of s (k + 2) p _ ((k : Int) + 2) W hs hd1 (by omega)
  simp only [Fm.text, List.length_cons] at hle
  have hv3 : (v.val : Int) < 4 := by omega
  have H1 := Lib.hid h1
  have Hend := Lib.hid hend
  have Hd1 := Lib.hid hd1
  clear hd hd1 hdv h1 hend
  clear hop
  go_enter Tryd.func83, Tryd.ntmps83
  go_wp2_with fail
  go_loopg [15, 16] (a.n + 1) (fun c cn xi wr => ∃ x : Nat, x + c = a.n + 1 ∧ x ≤ a.n ∧ xi = .int .i64 (x : Nat) ∧ cn = .int .i64 (cnt x (fun y => p.holds a (upd e v y)) : Nat) ∧ Bx wr w.heap.size 27 #[.int .i64 (a.n : Int), .string (bs a.set), .string (bs a.rel)] ∧ (∃ e' : Env, (∀ u, u ≠ v → e' u = e u) ∧ Bx wr (w.heap.size + 1) 79 #[.int .i64 (e' 0 : Nat), .int .i64 (e' 1 : Nat), .int .i64 (e' 2 : Nat), .int .i64 (e' 3 : Nat)]) ∧ Below w.heap.size w wr)
  case atStart => exact ⟨0, by omega, by omega, rfl, rfl, XS.out, ⟨e, fun _ _ => rfl, XE.out⟩, BV.out⟩
  case round =>
    clear s0 s1 s2 c0 c1 c2 c3
    obtain ⟨x, hx, hxn, rfl, rfl, hN, ⟨e', hE', hVl⟩, hf⟩ := hrel
    have hcn := cnt_le x (fun y => p.holds a (upd e v y))
    have hcs := cnt_succ x (fun y => p.holds a (upd e v y))
    have hen := fun h => @says_enough .c4 a.n x (fun y => p.holds a (upd e v y)) hxn h
    have hne := fun h h2 => @says_never .c4 a.n (x + 1) (fun y => p.holds a (upd e v y)) h h2
    have Hen := Lib.hid hen
    have Hne := Lib.hid hne
    have Hcs := Lib.hid hcs
    have HN := Lib.hid hN
    have HVl := Lib.hid hVl
    have HF := Lib.hid hf
    obtain ⟨Z, hZ⟩ : ∃ Z, Z = cnt x (fun y => p.holds a (upd e v y)) := ⟨_, rfl⟩
    have HZ := Lib.hid hZ
    rw [← hZ] at hcn ⊢
    clear hen hne hcs hN hVl hf hZ
    by_cases hlt : x < a.n
    · by_cases hgo : Z < 4
      · obtain ⟨s0, s1, s2⟩ := box_load HN.out
        have fv := HVl.out.free v.val
        have XS1 := Lib.hid (show Bx (wr.setCell ⟨w.heap.size + 1, v.val, none⟩ (.int .i64 (x : Nat))) w.heap.size 27 #[.int .i64 (a.n : Int), .string (bs a.set), .string (bs a.rel)] from HN.out.far (by simp) _)
        have XE1 := Lib.hid (show Bx (wr.setCell ⟨w.heap.size + 1, v.val, none⟩ (.int .i64 (x : Nat))) (w.heap.size + 1) 79 (envA4 (upd e v x)) from by
          have := HVl.out.set v.val (.int .i64 (x : Nat))
          rw [show (#[.int .i64 (e' 0 : Nat), .int .i64 (e' 1 : Nat), .int .i64 (e' 2 : Nat), .int .i64 (e' 3 : Nat)] : Array Value).setIfInBounds v.val (.int .i64 (x : Nat)) = envA4 (upd e v x) from by rw [← upd_upd e e' v x hE']; exact envA_upd e' v x] at this
          exact this)
        have B1 := Lib.hid (show Below w.heap.size w (wr.setCell ⟨w.heap.size + 1, v.val, none⟩ (.int .i64 (x : Nat))) from HF.out.setCell (by simp) _)
        have hlt' : upd e v x v < a.n := by rw [upd_same]; exact hlt
        have hcall := fun W => Ih s (k + 2) r ((k : Int) + 2) (upd e v x) W Hd1.out hs (by omega) (fun u => by unfold upd; split; exact hlt; exact He.out u)
        obtain ⟨E, hE⟩ : ∃ E, E = upd e v x := ⟨_, rfl⟩
        rw [← hE] at XE1
        simp only [← hE] at hcall
        unfold stA envA4 at hcall
        have HE := Lib.hid hE
        have cv := (HVl.out.cell v.val).trans (env_at e' v)
        clear hE' hE hlt'
        cases hp : p.holds a E with
        | false =>
          simp only [hp] at hcall
          have Hcall := Lib.hid hcall
          have hz1 : cnt (x + 1) (fun y => p.holds a (upd e v y)) = Z := by rw [Hcs.out, ← HE.out, hp, ← HZ.out]; rfl
          have Hz1 := Lib.hid hz1
          clear hcall hp hz1
          by_cases hbr : Z + (a.n - x - 1) < 4
          · have hv := Hne.out (by omega) (by rw [Hz1.out]; show Z + (a.n - (x + 1)) < 4; omega)
            have Hv := Lib.hid hv
            clear hv
            go_upto_region 33 with (go_at_call 93; refine (H1.out _).mono ?_; rintro ed w' ⟨rfl, rfl⟩)
            obtain ⟨r0, r1, r2⟩ := box_load XS1.out
            have d0 := XE1.out.cell 0
            have d1 := XE1.out.cell 1
            have d2 := XE1.out.cell 2
            have d3 := XE1.out.cell 3
            simp only [envA4, List.getElem?_toArray, List.getElem?_cons_zero, List.getElem?_cons_succ] at d0 d1 d2 d3
            clear s0 s1 s2 fv cv
            go_wp2_with (first | (go_at_call 83; refine (Hcall.out _).mono ?_; rintro ed w3 ⟨rfl, hz⟩; have B3 := Lib.hid (B1.out.trans (hz.mono B1.out.size)); have XS3 := Lib.hid (XS1.out.call hz); have XE3 := Lib.hid (XE1.out.call hz); clear hz r0 r1 r2 d0 d1 d2 d3; obtain ⟨t0, t1, t2⟩ := box_load XS3.out) | (go_at_call 69; refine (Hend.out _).mono ?_; rintro ed w7 ⟨rfl, rfl⟩))
            go_ret2
            exact ⟨ret_pair (by show Value.bool _ = Value.bool _; (congr 1; rw [show (Fm.qu .c4 v p).holds a e = false from Hv.out]; first | done | (simp; done) | (simp; omega))) (by show Value.int .i64 _ = Value.int .i64 _; congr 1 <;> simp [Fm.text] <;> omega), B3.out⟩
          · go_upto_region 33 with (go_at_call 93; refine (H1.out _).mono ?_; rintro ed w' ⟨rfl, rfl⟩)
            obtain ⟨r0, r1, r2⟩ := box_load XS1.out
            have d0 := XE1.out.cell 0
            have d1 := XE1.out.cell 1
            have d2 := XE1.out.cell 2
            have d3 := XE1.out.cell 3
            simp only [envA4, List.getElem?_toArray, List.getElem?_cons_zero, List.getElem?_cons_succ] at d0 d1 d2 d3
            clear s0 s1 s2 fv cv
            go_wp2_with (go_at_call 83; refine (Hcall.out _).mono ?_; rintro ed w3 ⟨rfl, hz⟩; have B3 := Lib.hid (B1.out.trans (hz.mono B1.out.size)); have XS3 := Lib.hid (XS1.out.call hz); have XE3 := Lib.hid (XE1.out.call hz); clear hz r0 r1 r2 d0 d1 d2 d3; obtain ⟨t0, t1, t2⟩ := box_load XS3.out)
            go_roundg (a.n - x)
            case rel => exact ⟨x + 1, by omega, by omega, by go_num, by first | (rw [Hz1.out]; done) | (rw [Hz1.out]; rfl), XS3.out, ⟨E, fun u hu => by rw [HE.out, upd_other hu], XE3.out⟩, B3.out⟩
            case measure => omega
        | true =>
          simp only [hp] at hcall
          have Hcall := Lib.hid hcall
          have hz1 : cnt (x + 1) (fun y => p.holds a (upd e v y)) = Z + 1 := by rw [Hcs.out, ← HE.out, hp, ← HZ.out]; rfl
          have Hz1 := Lib.hid hz1
          clear hcall hp hz1
          by_cases hbr : Z + 1 + (a.n - x - 1) < 4
          · have hv := Hne.out (by omega) (by rw [Hz1.out]; show Z + 1 + (a.n - (x + 1)) < 4; omega)
            have Hv := Lib.hid hv
            clear hv
            go_upto_region 33 with (go_at_call 93; refine (H1.out _).mono ?_; rintro ed w' ⟨rfl, rfl⟩)
            obtain ⟨r0, r1, r2⟩ := box_load XS1.out
            have d0 := XE1.out.cell 0
            have d1 := XE1.out.cell 1
            have d2 := XE1.out.cell 2
            have d3 := XE1.out.cell 3
            simp only [envA4, List.getElem?_toArray, List.getElem?_cons_zero, List.getElem?_cons_succ] at d0 d1 d2 d3
            clear s0 s1 s2 fv cv
            go_wp2_with (first | (go_at_call 83; refine (Hcall.out _).mono ?_; rintro ed w3 ⟨rfl, hz⟩; have B3 := Lib.hid (B1.out.trans (hz.mono B1.out.size)); have XS3 := Lib.hid (XS1.out.call hz); have XE3 := Lib.hid (XE1.out.call hz); clear hz r0 r1 r2 d0 d1 d2 d3; obtain ⟨t0, t1, t2⟩ := box_load XS3.out) | (go_at_call 69; refine (Hend.out _).mono ?_; rintro ed w7 ⟨rfl, rfl⟩))
            go_ret2
            exact ⟨ret_pair (by show Value.bool _ = Value.bool _; (congr 1; rw [show (Fm.qu .c4 v p).holds a e = false from Hv.out]; first | done | (simp; done) | (simp; omega))) (by show Value.int .i64 _ = Value.int .i64 _; congr 1 <;> simp [Fm.text] <;> omega), B3.out⟩
          · go_upto_region 33 with (go_at_call 93; refine (H1.out _).mono ?_; rintro ed w' ⟨rfl, rfl⟩)
            obtain ⟨r0, r1, r2⟩ := box_load XS1.out
            have d0 := XE1.out.cell 0
            have d1 := XE1.out.cell 1
            have d2 := XE1.out.cell 2
            have d3 := XE1.out.cell 3
            simp only [envA4, List.getElem?_toArray, List.getElem?_cons_zero, List.getElem?_cons_succ] at d0 d1 d2 d3
            clear s0 s1 s2 fv cv
            go_wp2_with (go_at_call 83; refine (Hcall.out _).mono ?_; rintro ed w3 ⟨rfl, hz⟩; have B3 := Lib.hid (B1.out.trans (hz.mono B1.out.size)); have XS3 := Lib.hid (XS1.out.call hz); have XE3 := Lib.hid (XE1.out.call hz); clear hz r0 r1 r2 d0 d1 d2 d3; obtain ⟨t0, t1, t2⟩ := box_load XS3.out)
            go_roundg (a.n - x)
            case rel => exact ⟨x + 1, by omega, by omega, by go_num, by first | (rw [Hz1.out]; done) | (rw [Hz1.out]; rfl), XS3.out, ⟨E, fun u hu => by rw [HE.out, upd_other hu], XE3.out⟩, B3.out⟩
            case measure => omega
      · obtain ⟨s0, s1, s2⟩ := box_load HN.out
        have hv := Hen.out (by rw [← HZ.out]; show 4 ≤ Z; omega)
        have Hv := Lib.hid hv
        clear hv
        go_wp2_with (go_at_call 69; refine (Hend.out _).mono ?_; rintro ed w7 ⟨rfl, rfl⟩)
        go_ret2
        exact ⟨ret_pair (by show Value.bool _ = Value.bool _; (congr 1; rw [show (Fm.qu .c4 v p).holds a e = true from Hv.out]; first | done | (simp; done) | (simp; omega))) (by show Value.int .i64 _ = Value.int .i64 _; congr 1 <;> simp [Fm.text] <;> omega), HF.out⟩
    · have hxe : x = a.n := by omega
      obtain ⟨s0, s1, s2⟩ := box_load HN.out
      have hv : (Fm.qu .c4 v p).holds a e = decide (4 ≤ Z) := by
        show Qn.says .c4 a.n (cnt a.n (fun y => p.holds a (upd e v y))) = _
        rw [← hxe, ← HZ.out, says_need _ hcn]
        rfl
      have Hv := Lib.hid hv
      clear hv
      go_wp2_with (go_at_call 69; refine (Hend.out _).mono ?_; rintro ed w7 ⟨rfl, rfl⟩)
      go_ret2
      exact ⟨ret_pair (by show Value.bool _ = Value.bool _; (congr 1; rw [Hv.out, decide_eq_decide]; first | done | omega)) (by show Value.int .i64 _ = Value.int .i64 _; congr 1 <;> simp [Fm.text] <;> omega), HF.out⟩



end Go.Proofs.YteonanaihklgmaaDoor

namespace Go.Proofs.YteonanaihklgmaaDoor
open Go.RowKit
open Pl
set_option linter.unusedSimpArgs false
set_option linter.unusedVariables false

theorem l2Holds_all (a : St) (ha : a.ok) : ∀ f : Fm, SHAt a f := by
  intro f
  induction f with
  | tru => exact sh_tru a ha
  | fls => exact sh_fls a ha
  | pr v => exact sh_pr a ha v
  | eq v u => exact sh_eq a ha v u
  | rel v u => exact sh_rel a ha v u
  | neg p ih => exact sh_neg a ha p ih
  | con p q ih ih2 => exact sh_con a ha p q ih ih2
  | dis p q ih ih2 => exact sh_dis a ha p q ih ih2
  | qu k v p ih =>
    cases k with
    | A => exact sh_A a ha v p ih
    | S => exact sh_S a ha v p ih
    | c2 => exact sh_c2 a ha v p ih
    | c3 => exact sh_c3 a ha v p ih
    | c4 => exact sh_c4 a ha v p ih

end Go.Proofs.YteonanaihklgmaaDoor

namespace Go.Proofs.YteonanaihklgmaaDoor
open Go.RowKit
open Pl
set_option linter.unusedSimpArgs false
set_option linter.unusedVariables false

end Go.Proofs.YteonanaihklgmaaDoor

namespace Go.Proofs.YteonanaihklgmaaDoor
open Go.RowKit
open Pl
set_option linter.unusedSimpArgs false
set_option linter.unusedVariables false

theorem div_natS (m k : Nat) : (m : Int) / 2 ^ k = ((m / 2 ^ k : Nat) : Int) := by
  rw [Int.natCast_ediv, Int.natCast_pow]; rfl
theorem st_ofS {i : Int} {s r : ByteArray} (h : okB i s r = true) : ∃ a : St, a.ok ∧ i = a.n ∧ s = bs a.set ∧ r = bs a.rel := by
  rcases ok_cases i s r with h2 | h2
  · rw [h] at h2; cases h2
  · exact h2
theorem el_inS (n : Nat) (z : Int) : (decide (0 ≤ z) && decide (z ≤ (n : Int) - 1)) = elB n z := by
  unfold elB
  congr 1
  rw [decide_eq_decide]; omega
theorem elAll_of {i : Int} {zs : List Int} (h : ∀ j, j < zs.length → elB i (zs.getD j 0) = true) : elAll i zs = true := by
  unfold elAll
  rw [List.all_eq_true]
  intro z hz
  obtain ⟨j, hj, rfl⟩ := List.getElem_of_mem hz
  have := h j hj
  rwa [List.getD_eq_getElem?_getD, List.getElem?_eq_getElem hj] at this
theorem elAll_not {i : Int} {zs : List Int} {j : Nat} (hj : j < zs.length) (h : elB i (zs.getD j 0) = false) : elAll i zs = false := by
  refine Bool.eq_false_iff.2 fun hq => ?_
  unfold elAll at hq
  have := List.all_eq_true.1 hq (zs.getD j 0) (by rw [List.getD_eq_getElem?_getD, List.getElem?_eq_getElem hj]; exact List.getElem_mem hj)
  rw [h] at this; cases this
/-- the elements so far -/
def envK (zs : List Int) (k : Nat) : Env := fun v => if v.val < k then (zs.getD v.val 0).toNat else 0
theorem envK_succ (zs : List Int) (k : Nat) (hk : k < 4) (x : Nat) (hx : zs.getD k 0 = (x : Int)) : upd (envK zs k) ⟨k, hk⟩ x = envK zs (k + 1) := by
  funext u
  unfold upd envK
  by_cases hu : u = ⟨k, hk⟩
  · subst hu
    simp only [if_true, hx]
    rw [if_pos (by omega)]
    rfl
  · have : u.val ≠ k := fun e => hu (Fin.ext e)
    rw [if_neg hu]
    by_cases h2 : u.val < k
    · rw [if_pos h2, if_pos (by omega)]
    · rw [if_neg h2, if_neg (by omega)]
theorem envK_all (zs : List Int) : envK zs zs.length = envL (zs.map Int.toNat) := by
  funext u
  unfold envK envL
  by_cases h : u.val < zs.length
  · rw [if_pos h, List.getD_eq_getElem?_getD, List.getD_eq_getElem?_getD, List.getElem?_map, List.getElem?_eq_getElem h]; rfl
  · rw [if_neg h, List.getD_eq_getElem?_getD, List.getElem?_map, List.getElem?_eq_none (by omega)]; rfl

set_option maxHeartbeats 1000000 in
set_option maxRecDepth 100000 in
theorem l2True_calls (a : St) (ha : a.ok) (f : ByteArray) (g : Fm) (e : Env) (w : World) (hf : f.data.toList = g.text) (hs : f.size ≤ 4000) (he : ∀ v, e v < a.n) :
    Calls Tryd.prog 51 #[stA a, .string f, .agg (envA4 e)] w fun ed w' => ed = .returned (.bool (g.holds a e)) ∧ Below w.heap.size w w' := by
  have hc := fun W => l2Holds_all a ha g f 0 [] 0 e W (by simpa using hf) hs rfl he
  have XS := Lib.hid ((Bx.new w 27 #[.int .i64 (a.n : Int), .string (bs a.set), .string (bs a.rel)]).alloc (.cells #[.int .i64 (e 0 : Nat), .int .i64 (e 1 : Nat), .int .i64 (e 2 : Nat), .int .i64 (e 3 : Nat)] 79))
  have XE := Lib.hid (show Bx ((w.alloc (.cells #[.int .i64 (a.n : Int), .string (bs a.set), .string (bs a.rel)] 27)).alloc (.cells #[.int .i64 (e 0 : Nat), .int .i64 (e 1 : Nat), .int .i64 (e 2 : Nat), .int .i64 (e 3 : Nat)] 79)) (w.heap.size + 1) 79 #[.int .i64 (e 0 : Nat), .int .i64 (e 1 : Nat), .int .i64 (e 2 : Nat), .int .i64 (e 3 : Nat)] from bx_two w _ _)
  have BV := Lib.hid (show Below w.heap.size w ((w.alloc (.cells #[.int .i64 (a.n : Int), .string (bs a.set), .string (bs a.rel)] 27)).alloc (.cells #[.int .i64 (e 0 : Nat), .int .i64 (e 1 : Nat), .int .i64 (e 2 : Nat), .int .i64 (e 3 : Nat)] 79)) from ((Below.refl _ _).alloc (Nat.le_refl _) _).alloc (by simp) _)
  obtain ⟨s0, s1, s2⟩ := box_load XS.out
  have c0 := XE.out.cell 0
  have c1 := XE.out.cell 1
  have c2 := XE.out.cell 2
  have c3 := XE.out.cell 3
  simp only [List.getElem?_toArray, List.getElem?_cons_zero, List.getElem?_cons_succ] at c0 c1 c2 c3
  unfold stA envA4 at hc ⊢
  have Hc := Lib.hid hc
  clear hc hf he
  go_enter Tryd.func51, Tryd.ntmps51
  go_wp2_with (go_at_call 83; refine (Hc.out _).mono ?_; rintro ed w1 ⟨rfl, hz⟩; have B1 := Lib.hid (BV.out.trans (hz.mono BV.out.size)); clear hz s0 s1 s2 c0 c1 c2 c3)
  go_ret
  exact ⟨rfl, B1.out⟩

set_option maxHeartbeats 1000000 in
set_option maxRecDepth 100000 in
theorem l3Ready_calls (i : Int) (s r f : ByteArray) (k : Nat) (w : World) (hs : s.size ≤ maxLen) (hr : r.size ≤ maxLen) (hf : f.size ≤ maxLen) (hk : k ≤ 4) :
    Calls Tryd.prog 48 #[stV i s r, .string f, .int .i64 (k : Nat)] w fun e w' => e = .returned (.bool (rdyB i s r f k)) ∧ Below w.heap.size w w' := by
  have cS := fun W => StructureValid_spec i s r W hs hr
  have cF := fun W => FormulaValid_spec f W hf
  have B0 := Lib.hid (show Below w.heap.size w (w.alloc (.cells #[.int .i64 i, .string s, .string r] 27)) from (Below.refl _ _).alloc (Nat.le_refl _) _)
  obtain ⟨k0, k1, k2⟩ := box_load (Bx.new w 27 #[.int .i64 i, .string s, .string r])
  clear hs hr hf
  cases hok : okB i s r
  case false =>
    rw [rdy_noSt hok]
    simp only [hok] at cS
    have CS := Lib.hid cS
    clear cS cF hok
    go_enter Tryd.func48, Tryd.ntmps48
    go_wp2_with (go_at_call 81; refine (CS.out _).mono ?_; rintro e w1 ⟨rfl, hz⟩; have B1 := Lib.hid (B0.out.trans (hz.mono B0.out.size)); clear hz k0 k1 k2)
    go_ret
    exact ⟨rfl, B1.out⟩
  case true =>
  simp only [hok] at cS
  have CS := Lib.hid cS
  clear cS
  rcases fm_cases f with ⟨hb, hno⟩ | ⟨g, hb, hfm, hs4, hl4⟩
  · rw [rdy_noFm hb]
    simp only [hb] at cF
    have CF := Lib.hid cF
    clear cF hok hb hno
    go_enter Tryd.func48, Tryd.ntmps48
    go_wp2_with (first | (go_at_call 81; refine (CS.out _).mono ?_; rintro e w1 ⟨rfl, hz⟩; have B1 := Lib.hid (B0.out.trans (hz.mono B0.out.size)); clear hz k0 k1 k2) | (go_at_call 36; refine (CF.out _).mono ?_; rintro e w2 ⟨rfl, rfl⟩))
    go_ret
    exact ⟨rfl, B1.out⟩
  · obtain ⟨a, ha, rfl, rfl, rfl⟩ := st_ofS hok
    rw [rdy_of hb hfm ha k]
    simp only [hb] at cF
    have CF := Lib.hid cF
    have hcall := l2Free_calls g.size g f 0 [] 0
    have Hc := Lib.hid (fun W => hcall W (Nat.le_refl _) (by simpa using hfm) hs4 rfl)
    have Hdv := Lib.hid (div_natS g.freeBits k)
    have hki : (k : Int) ≤ 4 := by omega
    have hfr : g.freeBits < 16 := freeBits_lt g
    clear cF hok hb hfm hcall
    go_enter Tryd.func48, Tryd.ntmps48
    go_wp2_with (first | (go_at_call 81; refine (CS.out _).mono ?_; rintro e w1 ⟨rfl, hz⟩; have B1 := Lib.hid (B0.out.trans (hz.mono B0.out.size)); clear hz k0 k1 k2) | (go_at_call 36; refine (CF.out _).mono ?_; rintro e w2 ⟨rfl, rfl⟩) | (go_at_call 82; refine (Hc.out _).mono ?_; rintro e w2 ⟨rfl, rfl⟩))
    go_ret
    exact ⟨congrArg Ending.returned (show Value.bool ((g.freeBits : Int) / 2 ^ k == 0) = Value.bool _ from by congr 1; rw [Bool.eq_iff_iff, decide_eq_true_eq, beq_iff_eq]; have := Hdv.out; omega), B1.out⟩

end Go.Proofs.YteonanaihklgmaaDoor

namespace Go.Proofs.YteonanaihklgmaaDoor
open Pl
set_option linter.unusedSimpArgs false
set_option linter.unusedVariables false

theorem fm_bs {g : Fm} (h : g.text.length ≤ 4000) : fmB (bs g.text).data.toList = true := fmB_true.2 ⟨by simpa [bs] using h, g, by simp [bs]⟩
theorem bs_list (l : List UInt8) : (bs l).data.toList = l := by simp [bs]
theorem elAll_of_nats {n : Nat} {ns : List Nat} (h : ∀ x ∈ ns, x < n) : elAll n (natsI ns) = true := by
  unfold elAll
  rw [List.all_eq_true]
  intro z hz
  obtain ⟨x, hx, rfl⟩ := List.mem_map.1 hz
  have := h x hx
  unfold elB
  simp
  omega
theorem natsI_back (l : List Nat) : (natsI l).map Int.toNat = l := by
  unfold natsI
  rw [List.map_map]
  conv => rhs; rw [← List.map_id l]
  exact List.map_congr_left fun x _ => by simp

/-- HoldsAt of a formula, with elements for all that is free -/
theorem hold_fm {a : St} (ha : a.ok) {g : Fm} (hg : g.text.length ≤ 4000) {ns : List Nat} (hn : ∀ x ∈ ns, x < a.n) (hl : ns.length ≤ 4) (hf : g.freeBits / 2 ^ ns.length = 0) :
    holdB a.n (bs a.set) (bs a.rel) (bs g.text) (natsI ns) = true ∧ holdV a.n (bs a.set) (bs a.rel) (bs g.text) (natsI ns) = g.holds a (envL ns) := by
  have h1 : rdyB a.n (bs a.set) (bs a.rel) (bs g.text) (natsI ns).length = true := by
    rw [rdy_of (fm_bs hg) (bs_list _) ha, natsI_len, decide_eq_true hf]
  have h2 := hold_yes h1 (by rw [natsI_len]; exact hl) (elAll_of_nats hn)
  refine ⟨h2, ?_⟩
  rw [hold_yesV h2, natsI_back, tru_of (bs_list _)]
theorem hold_four {a : St} (ha : a.ok) {g : Fm} (hg : g.text.length ≤ 4000) {ns : List Nat} (hn : ∀ x ∈ ns, x < a.n) (hl : ns.length = 4) :
    holdV a.n (bs a.set) (bs a.rel) (bs g.text) (natsI ns) = g.holds a (envL ns) :=
  (hold_fm ha hg hn (by omega) (by have := freeBits_lt g; rw [hl]; omega)).2
/-- HoldsAt of anything: no, or a formula, a structure and elements -/
theorem hold_cases (i : Int) (s r f : ByteArray) (zs : List Int) : (holdB i s r f zs = false ∧ holdV i s r f zs = false) ∨
    ∃ (a : St) (g : Fm) (ns : List Nat), a.ok ∧ i = a.n ∧ s = bs a.set ∧ r = bs a.rel ∧ f = bs g.text ∧ g.text.length ≤ 4000 ∧ zs = natsI ns ∧ (∀ x ∈ ns, x < a.n) ∧ ns.length ≤ 4 ∧ g.freeBits / 2 ^ ns.length = 0 ∧ holdB i s r f zs = true ∧ holdV i s r f zs = g.holds a (envL ns) := by
  cases h : holdB i s r f zs with
  | false => exact .inl ⟨rfl, hold_no h⟩
  | true =>
    right
    have h0 := h
    unfold holdB rdyB at h
    simp only [Bool.and_eq_true, decide_eq_true_eq] at h
    obtain ⟨⟨h1, h2, h3⟩, h4, h5⟩ := h
    rcases ok_cases i s r with hq | ⟨a, ha, rfl, rfl, rfl⟩
    · rw [h1] at hq; cases hq
    rcases fm_cases f with ⟨hq, _⟩ | ⟨g, hb, hf, hs4, hl4⟩
    · rw [h2] at hq; cases hq
    obtain ⟨e1, e2⟩ := elAll_nats h5
    rw [fmOf_eq hf] at h3
    refine ⟨a, g, zs.map Int.toNat, ha, rfl, rfl, rfl, eq_bs hf, hl4, e1, e2, by simpa using h4, by simpa using h3, rfl, ?_⟩
    rw [hold_yesV h0, tru_of hf]

theorem text_app (l m : List UInt8) : bs l ++ bs m = bs (l ++ m) := by rw [append_bs, bs_list, bs_list]
theorem mk_bs (x : Array UInt8) : ByteArray.mk x = bs x.toList := by unfold bs; simp

end Go.Proofs.YteonanaihklgmaaDoor

namespace Go.Proofs.YteonanaihklgmaaDoor
open Go.RowKit
open Pl
set_option linter.unusedSimpArgs false
set_option linter.unusedVariables false

set_option maxRecDepth 100000 in
theorem gsHolds_calls (i : Int) (s r f : ByteArray) (A : Option Addr) (zs : List Int) (cap : Nat) (w : World) (hs : s.size ≤ maxLen) (hr : r.size ≤ maxLen) (hn : zs.length ≤ 1048576) (hcap : zs.length ≤ cap) (hA : LRow w A zs) :
    Calls Tryd.prog 13 #[stV i s r, .string f, .slice A zs.length cap] w fun e w' => e = .returned (.bool (holdV i s r f zs)) ∧ Below w.heap.size w w' := by
  have B0 := Lib.hid ((Below.refl w.heap.size w).alloc (Nat.le_refl _) (.cells #[.int .i64 i, .string s, .string r] 27))
  have hc := HoldsAt_impl i s r f A zs cap (w.alloc (.cells #[.int .i64 i, .string s, .string r] 27)) hs hr hn hcap (hA.alloc _)
  have Hc := Lib.hid hc
  obtain ⟨k0, k1, k2⟩ := box_load (Bx.new w 27 #[.int .i64 i, .string s, .string r])
  clear hc hs hr hA
  go_enter Tryd.func13, Tryd.ntmps13
  go_wp2_with fail
  refine (Hc.out).mono ?_
  rintro e w1 ⟨rfl, hz⟩
  have B1 := Lib.hid (B0.out.trans (hz.mono B0.out.size))
  clear hz k0 k1 k2
  go_wp2_with fail
  go_ret
  exact ⟨rfl, B1.out⟩
theorem st_len {a : St} (ha : a.ok) : (bs a.set).size ≤ maxLen ∧ (bs a.rel).size ≤ maxLen := by have := st_small ha; unfold maxLen; omega
/-- gsHolds of a formula with four elements -/
theorem gs_four (a : St) (ha : a.ok) (g : Fm) (hg : g.text.length ≤ 4000) (f : ByteArray) (hf : f = bs g.text) (ns : List Nat) (hn : ∀ x ∈ ns, x < a.n) (hl : ns.length = 4) (A : Option Addr) (cap : Nat) (hcap : 4 ≤ cap) (b : Bool) (hb : g.holds a (envL ns) = b) (w : World) (hA : LRow w A (natsI ns)) :
    Calls Tryd.prog 13 #[stV a.n (bs a.set) (bs a.rel), .string f, .slice A 4 cap] w fun e w' => e = .returned (.bool b) ∧ Below w.heap.size w w' := by
  subst hf
  have h := gsHolds_calls a.n (bs a.set) (bs a.rel) (bs g.text) A (natsI ns) cap w (st_len ha).1 (st_len ha).2 (by rw [natsI_len, hl]; omega) (by rw [natsI_len, hl]; exact hcap) hA
  rw [hold_four ha hg hn hl, natsI_len, hl, hb] at h
  exact h
theorem four_cells {W : World} {g a b c d : Nat} (h : LRow W (some ⟨g, 0, none⟩) (natsI [a, b, c, d])) : W.cell? ⟨g, 0, none⟩ = some (.int .i64 (a : Nat)) ∧ W.cell? ⟨g, 1, none⟩ = some (.int .i64 (b : Nat)) ∧ W.cell? ⟨g, 2, none⟩ = some (.int .i64 (c : Nat)) ∧ W.cell? ⟨g, 3, none⟩ = some (.int .i64 (d : Nat)) := by
  obtain ⟨g', hg, hc⟩ := h (by simp [natsI])
  injection hg with hg
  injection hg with hg _ _
  subst hg
  exact ⟨hc 0 (by simp [natsI]), hc 1 (by simp [natsI]), hc 2 (by simp [natsI]), hc 3 (by simp [natsI])⟩
theorem LRow_four (W : World) (a b c d : Nat) : LRow (W.alloc (.cells #[.int .i64 (a : Nat), .int .i64 (b : Nat), .int .i64 (c : Nat), .int .i64 (d : Nat)] 3)) (some ⟨W.heap.size, 0, none⟩) (natsI [a, b, c, d]) := fun _ => ⟨_, rfl, fun i hi => by
  have hx := Bx.new W 3 #[.int .i64 (a : Nat), .int .i64 (b : Nat), .int .i64 (c : Nat), .int .i64 (d : Nat)]
  have : i = 0 ∨ i = 1 ∨ i = 2 ∨ i = 3 := by simp [natsI] at hi; omega
  rcases this with rfl | rfl | rfl | rfl
  · exact hx.cell 0
  · exact hx.cell 1
  · exact hx.cell 2
  · exact hx.cell 3⟩
theorem len4 {ns : List Nat} (h : ns.length = 4) : ∃ a b c d, ns = [a, b, c, d] := by
  match ns, h with
  | [a, b, c, d], _ => exact ⟨a, b, c, d, rfl⟩

end Go.Proofs.YteonanaihklgmaaDoor

namespace Go.Proofs.YteonanaihklgmaaDoor
open Go.RowKit
open Pl
set_option linter.unusedSimpArgs false
set_option linter.unusedVariables false

attribute [local go_sem ↓] Go.wp_at_zero Go.wp_at_succ

/-- four elements in memory -/
def FourP (a : St) (w : World) (e : Ending) (w' : World) : Prop := ∃ g y0 y1 y2 y3, e = .returned (.slice (some ⟨g, 0, none⟩) 4 4) ∧ y0 < a.n ∧ y1 < a.n ∧ y2 < a.n ∧ y3 < a.n ∧ LRow w' (some ⟨g, 0, none⟩) (natsI [y0, y1, y2, y3]) ∧ w.heap.size ≤ g

set_option maxHeartbeats 4000000 in
set_option maxRecDepth 100000 in
theorem gsFour_calls (a : St) (ha : a.ok) (AA : Option Addr) (n2 cap2 : Nat) (hn : n2 ≤ 1048576) (k : Nat) (hk : k ≤ 1000) (w : World) (h : ByRow w AA n2) :
    Calls Tryd.prog 12 #[stV a.n (bs a.set) (bs a.rel), .slice AA n2 cap2, .int .i64 (k : Nat)] w fun e w' => FourP a w e w' ∧ Below w.heap.size w w' := by
  have HB := Lib.hid ((Below.refl w.heap.size w).alloc (Nat.le_refl _) (.cells #[.int .i64 (a.n : Int), .string (bs a.set), .string (bs a.rel)] 27))
  have X1 := Lib.hid (Bx.new w 27 #[.int .i64 (a.n : Int), .string (bs a.set), .string (bs a.rel)])
  have HR := Lib.hid (h.call HB.out)
  have h8 := ha.hi
  have hlo := ha.lo
  clear h
  go_enter Tryd.func12, Tryd.ntmps12
  go_wp2_with fail
  generalize hw1 : w.alloc (.cells #[.int .i64 (a.n : Int), .string (bs a.set), .string (bs a.rel)] 27) = w1 at *
  go_loopg [7, 8] 8 (fun c xv iv wr => ∃ j x : Nat, j + c = 8 ∧ iv = .int .i64 (j : Nat) ∧ xv = .int .i64 (x : Nat) ∧ x ≤ 1100000 ∧ w1 = wr)
  case atStart => exact ⟨0, 7 * k + n2, by omega, rfl, by go_num, by omega, rfl⟩
  case round =>
    obtain ⟨j, x, hj, rfl, rfl, hx, rfl⟩ := hrel
    obtain ⟨x0, x1, x2⟩ := box_load X1.out
    by_cases hlt : j < n2
    · by_cases hlt8 : j < 8
      · obtain ⟨ad, rfl, hc⟩ := HR.out (by omega)
        obtain ⟨b, hb, hcb⟩ := hc j hlt
        clear hc
        go_wp2_with fail
        go_roundg (8 - j - 1)
        case rel => exact ⟨j + 1, (x * 5 + b) % 1000003, by omega, by go_num, by go_num, by omega, rfl⟩
        case measure => omega
      · obtain rfl : j = 8 := by omega
        have hgk : gk = 0 := by omega
        subst hgk
        clear x0 x1 x2
        have B3 := Lib.hid (HB.out.drew.alloc (by have := HB.out.size; simpa using this) (.cells #[.int .i64 (x % a.n : Nat), .int .i64 (x / 11 % a.n : Nat), .int .i64 (x / 101 % a.n : Nat), .int .i64 (x / 1009 % a.n : Nat)] 3))
        have y0 := (X1.out.drew.alloc (.cells #[.int .i64 (x % a.n : Nat), .int .i64 (x / 11 % a.n : Nat), .int .i64 (x / 101 % a.n : Nat), .int .i64 (x / 1009 % a.n : Nat)] 3)).cell 0
        have x0 := X1.out.drew.cell 0
        have r0 : ((x : Nat) : Int).tmod (a.n : Int) = ((x % a.n : Nat) : Int) := by rw [Int.ofNat_tmod]
        have r1 : ((x / 11 : Nat) : Int).tmod (a.n : Int) = ((x / 11 % a.n : Nat) : Int) := by rw [Int.ofNat_tmod]
        have r2 : ((x / 101 : Nat) : Int).tmod (a.n : Int) = ((x / 101 % a.n : Nat) : Int) := by rw [Int.ofNat_tmod]
        have r3 : ((x / 1009 : Nat) : Int).tmod (a.n : Int) = ((x / 1009 % a.n : Nat) : Int) := by rw [Int.ofNat_tmod]
        have d1 : ((x : Nat) : Int).tdiv 11 = ((x / 11 : Nat) : Int) := by rw [Int.tdiv_eq_ediv_of_nonneg (by omega)]; simp
        have d2 : ((x : Nat) : Int).tdiv 101 = ((x / 101 : Nat) : Int) := by rw [Int.tdiv_eq_ediv_of_nonneg (by omega)]; simp
        have d3 : ((x : Nat) : Int).tdiv 1009 = ((x / 1009 : Nat) : Int) := by rw [Int.tdiv_eq_ediv_of_nonneg (by omega)]; simp
        have c1 : IntKind.i64.wrap ((x : Int) / 11) = (x : Int) / 11 := IntWalk.i64_in _ (by omega)
        have c2 : IntKind.i64.wrap ((x : Int) / 101) = (x : Int) / 101 := IntWalk.i64_in _ (by omega)
        have c3 : IntKind.i64.wrap ((x : Int) / 1009) = (x : Int) / 1009 := IntWalk.i64_in _ (by omega)
        have e1 : ((x : Int) / 11).tmod (a.n : Int) = (x : Int) / 11 % (a.n : Int) := Int.tmod_eq_emod_of_nonneg (by omega)
        have e2 : ((x : Int) / 101).tmod (a.n : Int) = (x : Int) / 101 % (a.n : Int) := Int.tmod_eq_emod_of_nonneg (by omega)
        have e3 : ((x : Int) / 1009).tmod (a.n : Int) = (x : Int) / 1009 % (a.n : Int) := Int.tmod_eq_emod_of_nonneg (by omega)
        go_upto_region 6 with (fail)
        refine region_sched [(0, true), (1, true), (2, true), (3, true), (4, true), (5, true), (6, true), (7, true), (8, true), (9, true), (10, true), (11, true), (12, true), (13, true), (14, true), (15, true), (16, true), (17, true), (18, true), (19, false), (20, true)] (fun w' : World => w'.cell? ⟨w.heap.size, 0, none⟩ = some (.int .i64 (a.n : Int))) (by kernel_rfl) (by kernel_rfl) (by kernel_rfl) (by kernel_rfl) (fun _ _ _ _ h => h) ?_ (fun Q1 hQ1 => ?_)
        · exact x0
        try simp only [List.append]
        refine sched_take' (v := ?_) (a' := ?_) rfl (by kernel_rfl) ?_ rfl ?_ ?_
        rotate_left 2
        · intro w hSw
          (try dsimp only at hSw)
          go_simp
          try with_reducible rfl
        · (try simp only [Act.put, List.setIfInBounds_toArray, List.set_cons_zero, List.set_cons_succ])
          try rfl
        refine sched_take' (v := ?_) (a' := ?_) rfl (by kernel_rfl) ?_ rfl ?_ ?_
        rotate_left 2
        · intro w hSw
          (try dsimp only at hSw)
          go_simp
          try with_reducible rfl
        · (try simp only [Act.put, List.setIfInBounds_toArray, List.set_cons_zero, List.set_cons_succ])
          try rfl
        refine sched_take' (v := .int .i64 (a.n : Int)) (a' := ?_) rfl (by kernel_rfl) ?_ rfl ?_ ?_
        rotate_left 1
        · intro w hSw
          (try dsimp only at hSw)
          go_simp
          first | done | (simp [hSw]; done)
        · (try simp only [Act.put, List.setIfInBounds_toArray, List.set_cons_zero, List.set_cons_succ])
          try rfl
        refine sched_take' (v := .int .i64 (x % a.n : Nat)) (a' := ?_) rfl (by kernel_rfl) ?_ rfl ?_ ?_
        rotate_left 1
        · intro w hSw
          (try dsimp only at hSw)
          go_simp
          first | done | omega | exact r0 | (rw [r0]; done) | (rw [if_neg (by omega), e1]; done) | (rw [if_neg (by omega), e2]; done) | (rw [if_neg (by omega), e3]; done) | exact c1 | exact c2 | exact c3 | (trace_state; done)
        · (try simp only [Act.put, List.setIfInBounds_toArray, List.set_cons_zero, List.set_cons_succ])
          try rfl
        refine sched_take' (v := ?_) (a' := ?_) rfl (by kernel_rfl) ?_ rfl ?_ ?_
        rotate_left 2
        · intro w hSw
          (try dsimp only at hSw)
          go_simp
          try with_reducible rfl
        · (try simp only [Act.put, List.setIfInBounds_toArray, List.set_cons_zero, List.set_cons_succ])
          try rfl
        refine sched_take' (v := .int .i64 (x / 11 : Nat)) (a' := ?_) rfl (by kernel_rfl) ?_ rfl ?_ ?_
        rotate_left 1
        · intro w hSw
          (try dsimp only at hSw)
          go_simp
          first | done | omega | exact d1 | (rw [d1]; done) | (rw [if_neg (by omega), e1]; done) | (rw [if_neg (by omega), e2]; done) | (rw [if_neg (by omega), e3]; done) | exact c1 | exact c2 | exact c3 | (trace_state; done)
        · (try simp only [Act.put, List.setIfInBounds_toArray, List.set_cons_zero, List.set_cons_succ])
          try rfl
        refine sched_take' (v := ?_) (a' := ?_) rfl (by kernel_rfl) ?_ rfl ?_ ?_
        rotate_left 2
        · intro w hSw
          (try dsimp only at hSw)
          go_simp
          try with_reducible rfl
        · (try simp only [Act.put, List.setIfInBounds_toArray, List.set_cons_zero, List.set_cons_succ])
          try rfl
        refine sched_take' (v := .int .i64 (a.n : Int)) (a' := ?_) rfl (by kernel_rfl) ?_ rfl ?_ ?_
        rotate_left 1
        · intro w hSw
          (try dsimp only at hSw)
          go_simp
          first | done | (simp [hSw]; done)
        · (try simp only [Act.put, List.setIfInBounds_toArray, List.set_cons_zero, List.set_cons_succ])
          try rfl
        refine sched_take' (v := .int .i64 (x / 11 % a.n : Nat)) (a' := ?_) rfl (by kernel_rfl) ?_ rfl ?_ ?_
        rotate_left 1
        · intro w hSw
          (try dsimp only at hSw)
          go_simp
          first | done | omega | exact r1 | (rw [r1]; done) | (rw [if_neg (by omega), e1]; done) | (rw [if_neg (by omega), e2]; done) | (rw [if_neg (by omega), e3]; done) | exact c1 | exact c2 | exact c3 | (trace_state; done)
        · (try simp only [Act.put, List.setIfInBounds_toArray, List.set_cons_zero, List.set_cons_succ])
          try rfl
        refine sched_take' (v := ?_) (a' := ?_) rfl (by kernel_rfl) ?_ rfl ?_ ?_
        rotate_left 2
        · intro w hSw
          (try dsimp only at hSw)
          go_simp
          try with_reducible rfl
        · (try simp only [Act.put, List.setIfInBounds_toArray, List.set_cons_zero, List.set_cons_succ])
          try rfl
        refine sched_take' (v := .int .i64 (x / 101 : Nat)) (a' := ?_) rfl (by kernel_rfl) ?_ rfl ?_ ?_
        rotate_left 1
        · intro w hSw
          (try dsimp only at hSw)
          go_simp
          first | done | omega | exact d2 | (rw [d2]; done) | (rw [if_neg (by omega), e1]; done) | (rw [if_neg (by omega), e2]; done) | (rw [if_neg (by omega), e3]; done) | exact c1 | exact c2 | exact c3 | (trace_state; done)
        · (try simp only [Act.put, List.setIfInBounds_toArray, List.set_cons_zero, List.set_cons_succ])
          try rfl
        refine sched_take' (v := ?_) (a' := ?_) rfl (by kernel_rfl) ?_ rfl ?_ ?_
        rotate_left 2
        · intro w hSw
          (try dsimp only at hSw)
          go_simp
          try with_reducible rfl
        · (try simp only [Act.put, List.setIfInBounds_toArray, List.set_cons_zero, List.set_cons_succ])
          try rfl
        refine sched_take' (v := .int .i64 (a.n : Int)) (a' := ?_) rfl (by kernel_rfl) ?_ rfl ?_ ?_
        rotate_left 1
        · intro w hSw
          (try dsimp only at hSw)
          go_simp
          first | done | (simp [hSw]; done)
        · (try simp only [Act.put, List.setIfInBounds_toArray, List.set_cons_zero, List.set_cons_succ])
          try rfl
        refine sched_take' (v := .int .i64 (x / 101 % a.n : Nat)) (a' := ?_) rfl (by kernel_rfl) ?_ rfl ?_ ?_
        rotate_left 1
        · intro w hSw
          (try dsimp only at hSw)
          go_simp
          first | done | omega | exact r2 | (rw [r2]; done) | (rw [if_neg (by omega), e1]; done) | (rw [if_neg (by omega), e2]; done) | (rw [if_neg (by omega), e3]; done) | exact c1 | exact c2 | exact c3 | (trace_state; done)
        · (try simp only [Act.put, List.setIfInBounds_toArray, List.set_cons_zero, List.set_cons_succ])
          try rfl
        refine sched_take' (v := ?_) (a' := ?_) rfl (by kernel_rfl) ?_ rfl ?_ ?_
        rotate_left 2
        · intro w hSw
          (try dsimp only at hSw)
          go_simp
          try with_reducible rfl
        · (try simp only [Act.put, List.setIfInBounds_toArray, List.set_cons_zero, List.set_cons_succ])
          try rfl
        refine sched_take' (v := .int .i64 (x / 1009 : Nat)) (a' := ?_) rfl (by kernel_rfl) ?_ rfl ?_ ?_
        rotate_left 1
        · intro w hSw
          (try dsimp only at hSw)
          go_simp
          first | done | omega | exact d3 | (rw [d3]; done) | (rw [if_neg (by omega), e1]; done) | (rw [if_neg (by omega), e2]; done) | (rw [if_neg (by omega), e3]; done) | exact c1 | exact c2 | exact c3 | (trace_state; done)
        · (try simp only [Act.put, List.setIfInBounds_toArray, List.set_cons_zero, List.set_cons_succ])
          try rfl
        refine sched_take' (v := ?_) (a' := ?_) rfl (by kernel_rfl) ?_ rfl ?_ ?_
        rotate_left 2
        · intro w hSw
          (try dsimp only at hSw)
          go_simp
          try with_reducible rfl
        · (try simp only [Act.put, List.setIfInBounds_toArray, List.set_cons_zero, List.set_cons_succ])
          try rfl
        refine sched_take' (v := .int .i64 (a.n : Int)) (a' := ?_) rfl (by kernel_rfl) ?_ rfl ?_ ?_
        rotate_left 1
        · intro w hSw
          (try dsimp only at hSw)
          go_simp
          first | done | (simp [hSw]; done)
        · (try simp only [Act.put, List.setIfInBounds_toArray, List.set_cons_zero, List.set_cons_succ])
          try rfl
        refine sched_take' (v := .int .i64 (x / 1009 % a.n : Nat)) (a' := ?_) rfl (by kernel_rfl) ?_ rfl ?_ ?_
        rotate_left 1
        · intro w hSw
          (try dsimp only at hSw)
          go_simp
          first | done | omega | exact r3 | (rw [r3]; done) | (rw [if_neg (by omega), e1]; done) | (rw [if_neg (by omega), e2]; done) | (rw [if_neg (by omega), e3]; done) | exact c1 | exact c2 | exact c3 | (trace_state; done)
        · (try simp only [Act.put, List.setIfInBounds_toArray, List.set_cons_zero, List.set_cons_succ])
          try rfl
        refine sched_call rfl (by kernel_rfl) (fun K1 hK1 => ?_)
        go_simp
        refine hK1.out _ _ ?_ (sched_lay (a' := ?_) ?_ ?_)
        · exact y0
        rotate_left 1
        · (try simp only [Act.put, List.getElem_toArray, List.getElem_cons_succ, List.getElem_cons_zero, List.setIfInBounds_toArray, List.set_cons_zero, List.set_cons_succ])
          try rfl
        clear hK1 K1
        refine sched_take' (v := ?_) (a' := ?_) rfl (by kernel_rfl) ?_ rfl ?_ ?_
        rotate_left 2
        · intro w hSw
          (try dsimp only at hSw)
          go_simp
          try with_reducible rfl
        · (try simp only [Act.put, List.setIfInBounds_toArray, List.set_cons_zero, List.set_cons_succ])
          try rfl
        refine sched_done (hQ1.out _ _ ?_)
        go_wp2_with fail
        go_ret
        refine ⟨⟨w1.heap.size, x % a.n, x / 11 % a.n, x / 101 % a.n, x / 1009 % a.n, rfl, Nat.mod_lt _ hlo, Nat.mod_lt _ hlo, Nat.mod_lt _ hlo, Nat.mod_lt _ hlo, ?_, by have := HB.out.size; simpa using this⟩, B3.out⟩
        exact LRow_four w1.drew _ _ _ _
    · clear x0 x1 x2
      have B3 := Lib.hid (HB.out.drew.alloc (by have := HB.out.size; simpa using this) (.cells #[.int .i64 (x % a.n : Nat), .int .i64 (x / 11 % a.n : Nat), .int .i64 (x / 101 % a.n : Nat), .int .i64 (x / 1009 % a.n : Nat)] 3))
      have y0 := (X1.out.drew.alloc (.cells #[.int .i64 (x % a.n : Nat), .int .i64 (x / 11 % a.n : Nat), .int .i64 (x / 101 % a.n : Nat), .int .i64 (x / 1009 % a.n : Nat)] 3)).cell 0
      have x0 := X1.out.drew.cell 0
      have r0 : ((x : Nat) : Int).tmod (a.n : Int) = ((x % a.n : Nat) : Int) := by rw [Int.ofNat_tmod]
      have r1 : ((x / 11 : Nat) : Int).tmod (a.n : Int) = ((x / 11 % a.n : Nat) : Int) := by rw [Int.ofNat_tmod]
      have r2 : ((x / 101 : Nat) : Int).tmod (a.n : Int) = ((x / 101 % a.n : Nat) : Int) := by rw [Int.ofNat_tmod]
      have r3 : ((x / 1009 : Nat) : Int).tmod (a.n : Int) = ((x / 1009 % a.n : Nat) : Int) := by rw [Int.ofNat_tmod]
      have d1 : ((x : Nat) : Int).tdiv 11 = ((x / 11 : Nat) : Int) := by rw [Int.tdiv_eq_ediv_of_nonneg (by omega)]; simp
      have d2 : ((x : Nat) : Int).tdiv 101 = ((x / 101 : Nat) : Int) := by rw [Int.tdiv_eq_ediv_of_nonneg (by omega)]; simp
      have d3 : ((x : Nat) : Int).tdiv 1009 = ((x / 1009 : Nat) : Int) := by rw [Int.tdiv_eq_ediv_of_nonneg (by omega)]; simp
      have c1 : IntKind.i64.wrap ((x : Int) / 11) = (x : Int) / 11 := IntWalk.i64_in _ (by omega)
      have c2 : IntKind.i64.wrap ((x : Int) / 101) = (x : Int) / 101 := IntWalk.i64_in _ (by omega)
      have c3 : IntKind.i64.wrap ((x : Int) / 1009) = (x : Int) / 1009 := IntWalk.i64_in _ (by omega)
      have e1 : ((x : Int) / 11).tmod (a.n : Int) = (x : Int) / 11 % (a.n : Int) := Int.tmod_eq_emod_of_nonneg (by omega)
      have e2 : ((x : Int) / 101).tmod (a.n : Int) = (x : Int) / 101 % (a.n : Int) := Int.tmod_eq_emod_of_nonneg (by omega)
      have e3 : ((x : Int) / 1009).tmod (a.n : Int) = (x : Int) / 1009 % (a.n : Int) := Int.tmod_eq_emod_of_nonneg (by omega)
      go_upto_region 6 with (fail)
      refine region_sched [(0, true), (1, true), (2, true), (3, true), (4, true), (5, true), (6, true), (7, true), (8, true), (9, true), (10, true), (11, true), (12, true), (13, true), (14, true), (15, true), (16, true), (17, true), (18, true), (19, false), (20, true)] (fun w' : World => w'.cell? ⟨w.heap.size, 0, none⟩ = some (.int .i64 (a.n : Int))) (by kernel_rfl) (by kernel_rfl) (by kernel_rfl) (by kernel_rfl) (fun _ _ _ _ h => h) ?_ (fun Q1 hQ1 => ?_)
      · exact x0
      try simp only [List.append]
      refine sched_take' (v := ?_) (a' := ?_) rfl (by kernel_rfl) ?_ rfl ?_ ?_
      rotate_left 2
      · intro w hSw
        (try dsimp only at hSw)
        go_simp
        try with_reducible rfl
      · (try simp only [Act.put, List.setIfInBounds_toArray, List.set_cons_zero, List.set_cons_succ])
        try rfl
      refine sched_take' (v := ?_) (a' := ?_) rfl (by kernel_rfl) ?_ rfl ?_ ?_
      rotate_left 2
      · intro w hSw
        (try dsimp only at hSw)
        go_simp
        try with_reducible rfl
      · (try simp only [Act.put, List.setIfInBounds_toArray, List.set_cons_zero, List.set_cons_succ])
        try rfl
      refine sched_take' (v := .int .i64 (a.n : Int)) (a' := ?_) rfl (by kernel_rfl) ?_ rfl ?_ ?_
      rotate_left 1
      · intro w hSw
        (try dsimp only at hSw)
        go_simp
        first | done | (simp [hSw]; done)
      · (try simp only [Act.put, List.setIfInBounds_toArray, List.set_cons_zero, List.set_cons_succ])
        try rfl
      refine sched_take' (v := .int .i64 (x % a.n : Nat)) (a' := ?_) rfl (by kernel_rfl) ?_ rfl ?_ ?_
      rotate_left 1
      · intro w hSw
        (try dsimp only at hSw)
        go_simp
        first | done | omega | exact r0 | (rw [r0]; done) | (rw [if_neg (by omega), e1]; done) | (rw [if_neg (by omega), e2]; done) | (rw [if_neg (by omega), e3]; done) | exact c1 | exact c2 | exact c3 | (trace_state; done)
      · (try simp only [Act.put, List.setIfInBounds_toArray, List.set_cons_zero, List.set_cons_succ])
        try rfl
      refine sched_take' (v := ?_) (a' := ?_) rfl (by kernel_rfl) ?_ rfl ?_ ?_
      rotate_left 2
      · intro w hSw
        (try dsimp only at hSw)
        go_simp
        try with_reducible rfl
      · (try simp only [Act.put, List.setIfInBounds_toArray, List.set_cons_zero, List.set_cons_succ])
        try rfl
      refine sched_take' (v := .int .i64 (x / 11 : Nat)) (a' := ?_) rfl (by kernel_rfl) ?_ rfl ?_ ?_
      rotate_left 1
      · intro w hSw
        (try dsimp only at hSw)
        go_simp
        first | done | omega | exact d1 | (rw [d1]; done) | (rw [if_neg (by omega), e1]; done) | (rw [if_neg (by omega), e2]; done) | (rw [if_neg (by omega), e3]; done) | exact c1 | exact c2 | exact c3 | (trace_state; done)
      · (try simp only [Act.put, List.setIfInBounds_toArray, List.set_cons_zero, List.set_cons_succ])
        try rfl
      refine sched_take' (v := ?_) (a' := ?_) rfl (by kernel_rfl) ?_ rfl ?_ ?_
      rotate_left 2
      · intro w hSw
        (try dsimp only at hSw)
        go_simp
        try with_reducible rfl
      · (try simp only [Act.put, List.setIfInBounds_toArray, List.set_cons_zero, List.set_cons_succ])
        try rfl
      refine sched_take' (v := .int .i64 (a.n : Int)) (a' := ?_) rfl (by kernel_rfl) ?_ rfl ?_ ?_
      rotate_left 1
      · intro w hSw
        (try dsimp only at hSw)
        go_simp
        first | done | (simp [hSw]; done)
      · (try simp only [Act.put, List.setIfInBounds_toArray, List.set_cons_zero, List.set_cons_succ])
        try rfl
      refine sched_take' (v := .int .i64 (x / 11 % a.n : Nat)) (a' := ?_) rfl (by kernel_rfl) ?_ rfl ?_ ?_
      rotate_left 1
      · intro w hSw
        (try dsimp only at hSw)
        go_simp
        first | done | omega | exact r1 | (rw [r1]; done) | (rw [if_neg (by omega), e1]; done) | (rw [if_neg (by omega), e2]; done) | (rw [if_neg (by omega), e3]; done) | exact c1 | exact c2 | exact c3 | (trace_state; done)
      · (try simp only [Act.put, List.setIfInBounds_toArray, List.set_cons_zero, List.set_cons_succ])
        try rfl
      refine sched_take' (v := ?_) (a' := ?_) rfl (by kernel_rfl) ?_ rfl ?_ ?_
      rotate_left 2
      · intro w hSw
        (try dsimp only at hSw)
        go_simp
        try with_reducible rfl
      · (try simp only [Act.put, List.setIfInBounds_toArray, List.set_cons_zero, List.set_cons_succ])
        try rfl
      refine sched_take' (v := .int .i64 (x / 101 : Nat)) (a' := ?_) rfl (by kernel_rfl) ?_ rfl ?_ ?_
      rotate_left 1
      · intro w hSw
        (try dsimp only at hSw)
        go_simp
        first | done | omega | exact d2 | (rw [d2]; done) | (rw [if_neg (by omega), e1]; done) | (rw [if_neg (by omega), e2]; done) | (rw [if_neg (by omega), e3]; done) | exact c1 | exact c2 | exact c3 | (trace_state; done)
      · (try simp only [Act.put, List.setIfInBounds_toArray, List.set_cons_zero, List.set_cons_succ])
        try rfl
      refine sched_take' (v := ?_) (a' := ?_) rfl (by kernel_rfl) ?_ rfl ?_ ?_
      rotate_left 2
      · intro w hSw
        (try dsimp only at hSw)
        go_simp
        try with_reducible rfl
      · (try simp only [Act.put, List.setIfInBounds_toArray, List.set_cons_zero, List.set_cons_succ])
        try rfl
      refine sched_take' (v := .int .i64 (a.n : Int)) (a' := ?_) rfl (by kernel_rfl) ?_ rfl ?_ ?_
      rotate_left 1
      · intro w hSw
        (try dsimp only at hSw)
        go_simp
        first | done | (simp [hSw]; done)
      · (try simp only [Act.put, List.setIfInBounds_toArray, List.set_cons_zero, List.set_cons_succ])
        try rfl
      refine sched_take' (v := .int .i64 (x / 101 % a.n : Nat)) (a' := ?_) rfl (by kernel_rfl) ?_ rfl ?_ ?_
      rotate_left 1
      · intro w hSw
        (try dsimp only at hSw)
        go_simp
        first | done | omega | exact r2 | (rw [r2]; done) | (rw [if_neg (by omega), e1]; done) | (rw [if_neg (by omega), e2]; done) | (rw [if_neg (by omega), e3]; done) | exact c1 | exact c2 | exact c3 | (trace_state; done)
      · (try simp only [Act.put, List.setIfInBounds_toArray, List.set_cons_zero, List.set_cons_succ])
        try rfl
      refine sched_take' (v := ?_) (a' := ?_) rfl (by kernel_rfl) ?_ rfl ?_ ?_
      rotate_left 2
      · intro w hSw
        (try dsimp only at hSw)
        go_simp
        try with_reducible rfl
      · (try simp only [Act.put, List.setIfInBounds_toArray, List.set_cons_zero, List.set_cons_succ])
        try rfl
      refine sched_take' (v := .int .i64 (x / 1009 : Nat)) (a' := ?_) rfl (by kernel_rfl) ?_ rfl ?_ ?_
      rotate_left 1
      · intro w hSw
        (try dsimp only at hSw)
        go_simp
        first | done | omega | exact d3 | (rw [d3]; done) | (rw [if_neg (by omega), e1]; done) | (rw [if_neg (by omega), e2]; done) | (rw [if_neg (by omega), e3]; done) | exact c1 | exact c2 | exact c3 | (trace_state; done)
      · (try simp only [Act.put, List.setIfInBounds_toArray, List.set_cons_zero, List.set_cons_succ])
        try rfl
      refine sched_take' (v := ?_) (a' := ?_) rfl (by kernel_rfl) ?_ rfl ?_ ?_
      rotate_left 2
      · intro w hSw
        (try dsimp only at hSw)
        go_simp
        try with_reducible rfl
      · (try simp only [Act.put, List.setIfInBounds_toArray, List.set_cons_zero, List.set_cons_succ])
        try rfl
      refine sched_take' (v := .int .i64 (a.n : Int)) (a' := ?_) rfl (by kernel_rfl) ?_ rfl ?_ ?_
      rotate_left 1
      · intro w hSw
        (try dsimp only at hSw)
        go_simp
        first | done | (simp [hSw]; done)
      · (try simp only [Act.put, List.setIfInBounds_toArray, List.set_cons_zero, List.set_cons_succ])
        try rfl
      refine sched_take' (v := .int .i64 (x / 1009 % a.n : Nat)) (a' := ?_) rfl (by kernel_rfl) ?_ rfl ?_ ?_
      rotate_left 1
      · intro w hSw
        (try dsimp only at hSw)
        go_simp
        first | done | omega | exact r3 | (rw [r3]; done) | (rw [if_neg (by omega), e1]; done) | (rw [if_neg (by omega), e2]; done) | (rw [if_neg (by omega), e3]; done) | exact c1 | exact c2 | exact c3 | (trace_state; done)
      · (try simp only [Act.put, List.setIfInBounds_toArray, List.set_cons_zero, List.set_cons_succ])
        try rfl
      refine sched_call rfl (by kernel_rfl) (fun K1 hK1 => ?_)
      go_simp
      refine hK1.out _ _ ?_ (sched_lay (a' := ?_) ?_ ?_)
      · exact y0
      rotate_left 1
      · (try simp only [Act.put, List.getElem_toArray, List.getElem_cons_succ, List.getElem_cons_zero, List.setIfInBounds_toArray, List.set_cons_zero, List.set_cons_succ])
        try rfl
      clear hK1 K1
      refine sched_take' (v := ?_) (a' := ?_) rfl (by kernel_rfl) ?_ rfl ?_ ?_
      rotate_left 2
      · intro w hSw
        (try dsimp only at hSw)
        go_simp
        try with_reducible rfl
      · (try simp only [Act.put, List.setIfInBounds_toArray, List.set_cons_zero, List.set_cons_succ])
        try rfl
      refine sched_done (hQ1.out _ _ ?_)
      go_wp2_with fail
      go_ret
      refine ⟨⟨w1.heap.size, x % a.n, x / 11 % a.n, x / 101 % a.n, x / 1009 % a.n, rfl, Nat.mod_lt _ hlo, Nat.mod_lt _ hlo, Nat.mod_lt _ hlo, Nat.mod_lt _ hlo, ?_, by have := HB.out.size; simpa using this⟩, B3.out⟩
      exact LRow_four w1.drew _ _ _ _

end Go.Proofs.YteonanaihklgmaaDoor

namespace Go.Proofs.YteonanaihklgmaaDoor
open Go.RowKit
open Pl
set_option linter.unusedSimpArgs false
set_option linter.unusedVariables false

theorem vars_at (m : Nat) : ∀ n, n ≤ 4 → ∀ k, k < (varsL m n).length → ∃ v : Fin 4, (varsL m n).getD k 0 = vb v := by
  intro n
  induction n with
  | zero => intro _ k hk; simp [varsL] at hk
  | succ n ih =>
    intro hn k hk
    cases h : m.testBit n with
    | false => rw [varsL_no h] at hk ⊢; exact ih (by omega) k hk
    | true =>
      rw [varsL_yes h] at hk ⊢
      by_cases hlt : k < (varsL m n).length
      · obtain ⟨v, hv⟩ := ih (by omega) k hlt
        refine ⟨v, ?_⟩
        rw [← hv, List.getD_eq_getElem?_getD, List.getD_eq_getElem?_getD, List.getElem?_append_left hlt]
      · have : k = (varsL m n).length := by simp at hk; omega
        refine ⟨⟨n, by omega⟩, ?_⟩
        rw [this, List.getD_eq_getElem?_getD]
        simp [vb]
theorem vars_mem (m : Nat) {n k : Nat} (hk : k < n) (h : m.testBit k = true) : UInt8.ofNat (97 + k) ∈ varsL m n := by
  unfold varsL
  exact List.mem_map.2 ⟨k, List.mem_filter.2 ⟨List.mem_range.2 hk, h⟩, rfl⟩
/-- an element that is not free may be changed -/
theorem holds_set {a : St} {g : Fm} {ns : List Nat} {k x : Nat} (hk : k < 4) (h : g.freeBits.testBit k = false) : g.holds a (envL (ns.set k x)) = g.holds a (envL ns) := by
  apply holds_free
  intro v hv
  have hne : v.val ≠ k := by
    intro e
    unfold Fm.isFree at hv
    rw [e, h] at hv
    cases hv
  unfold envL
  rw [List.getD_eq_getElem?_getD, List.getD_eq_getElem?_getD, List.getElem?_set_ne (Ne.symm hne)]
theorem holds_some {a : St} {q : Fm} {e : Env} {v : Fin 4} (hv : e v < a.n) (h : q.holds a e = true) : (Fm.qu .S v q).holds a e = true := by
  show decide (0 < cnt a.n (fun x => q.holds a (upd e v x))) = true
  rw [decide_eq_true_eq]
  have he : upd e v (e v) = e := by
    funext u
    by_cases hu : u = v
    · subst hu; rw [upd_same]
    · rw [upd_other hu]
  have h1 := cnt_split a.n (e v + 1) (fun x => q.holds a (upd e v x)) (by omega)
  have h2 := cnt_succ (e v) (fun x => q.holds a (upd e v x))
  simp only [he, h, if_true] at h2
  omega
/-- HoldsIn of a formula: no, or no free variables -/
theorem in_cases {a : St} (ha : a.ok) {q : Fm} (hq : q.text.length ≤ 4000) (e : Env) : holdB a.n (bs a.set) (bs a.rel) (bs q.text) [] = false ∨ (holdB a.n (bs a.set) (bs a.rel) (bs q.text) [] = true ∧ holdV a.n (bs a.set) (bs a.rel) (bs q.text) [] = q.holds a e) := by
  by_cases h0 : q.freeBits = 0
  · right
    have := hold_fm ha hq (ns := []) (by simp) (by simp) (by rw [h0]; rfl)
    refine ⟨this.1, this.2.trans (holds_free a q _ _ fun v hv => ?_)⟩
    unfold Fm.isFree at hv
    rw [h0] at hv
    simp at hv
  · left
    cases h : holdB a.n (bs a.set) (bs a.rel) (bs q.text) [] with
    | false => rfl
    | true =>
      exfalso
      unfold holdB at h
      simp only [Bool.and_eq_true] at h
      have h1 := h.1
      rw [show (([] : List Int).length) = 0 from rfl, rdy_of (fm_bs hq) (bs_list _) ha] at h1
      simp at h1
      exact h0 h1
/-- gsHolds of a formula with elements for all that is free -/
theorem gs_any (a : St) (ha : a.ok) (g : Fm) (hg : g.text.length ≤ 4000) (f : ByteArray) (hf : f = bs g.text) (ns : List Nat) (hn : ∀ x ∈ ns, x < a.n) (hl : ns.length ≤ 4) (hfr : g.freeBits / 2 ^ ns.length = 0) (A : Option Addr) (cap : Nat) (hcap : ns.length ≤ cap) (b : Bool) (hb : g.holds a (envL ns) = b) (w : World) (hA : LRow w A (natsI ns)) :
    Calls Tryd.prog 13 #[stV a.n (bs a.set) (bs a.rel), .string f, .slice A ns.length cap] w fun e w' => e = .returned (.bool b) ∧ Below w.heap.size w w' := by
  subst hf
  have h := gsHolds_calls a.n (bs a.set) (bs a.rel) (bs g.text) A (natsI ns) cap w (st_len ha).1 (st_len ha).2 (by rw [natsI_len]; omega) (by rw [natsI_len]; exact hcap) hA
  rw [(hold_fm ha hg hn hl hfr).2, natsI_len, hb] at h
  exact h
theorem ext_one {l : List UInt8} {k : Nat} (h : k < l.length) : (bs l).extract k (k + 1) = bs [l.getD k 0] := by
  apply eq_bs
  rw [Lib.extract_data, bs_list]
  rw [List.getD_eq_getElem?_getD, List.getElem?_eq_getElem h]
  rw [show k + 1 = k + 1 from rfl]
  apply List.ext_getElem
  · simp; omega
  · intro i h1 h2
    simp at h2
    subst h2
    simp
theorem cmp_at {l : List UInt8} {k m : Nat} (hk : k < 4) (hm : m < (bs l).size) (hk2 : k < (ByteArray.mk #[97, 98, 99, 100]).size) (h : ((((bs l)[m]'hm).toNat : Int) == (((ByteArray.mk #[97, 98, 99, 100])[k]'hk2).toNat : Int)) = false) : l.getD m 0 ≠ UInt8.ofNat (97 + k) := by
  intro e
  have hm2 : m < l.length := by rw [bs_size] at hm; exact hm
  have e1 : (bs l)[m]'hm = l.getD m 0 := by
    rw [List.getD_eq_getElem?_getD, List.getElem?_eq_getElem hm2]
    rfl
  have e2 : (ByteArray.mk #[97, 98, 99, 100])[k]'hk2 = UInt8.ofNat (97 + k) := by
    match k, hk with
    | 0, _ => rfl
    | 1, _ => rfl
    | 2, _ => rfl
    | 3, _ => rfl
  rw [e1, e2, e] at h
  simp at h
theorem LRow.set {W : World} {g : Nat} {ns : List Nat} {k x : Nat} (h : LRow W (some ⟨g, 0, none⟩) (natsI ns)) (hk : k < ns.length) : LRow (W.setCell ⟨g, k, none⟩ (.int .i64 (x : Nat))) (some ⟨g, 0, none⟩) (natsI (ns.set k x)) := by
  intro hl
  obtain ⟨g', hg, hc⟩ := h (by rw [natsI_len]; omega)
  injection hg with hg
  injection hg with hg _ _
  subst hg
  refine ⟨g, rfl, fun i hi => ?_⟩
  rw [natsI_len, List.length_set] at hi
  have h2 := hc i (by rw [natsI_len]; exact hi)
  by_cases e : i = k
  · subst e
    rw [World.cell?_setCell_same _ _ _ h2]
    simp [natsI, List.getD, hi]
  · rw [World.cell?_setCell_other _ _ _ _ (by intro e2; injection e2 with _ e2 _; exact e e2.symm), h2]
    simp [natsI, List.getD, List.getElem?_set_ne (Ne.symm e)]
theorem LRow.far {W : World} {g : Nat} {A : Option Addr} {zs : List Int} (h : LRow W A zs) (hA : ∀ b, A = some ⟨b, 0, none⟩ → b ≠ g) (k : Nat) (u : Value) : LRow (W.setCell ⟨g, k, none⟩ u) A zs := by
  intro hl
  obtain ⟨b, hb, hc⟩ := h hl
  refine ⟨b, hb, fun i hi => ?_⟩
  rw [World.cell?_setCell_other _ _ _ _ (by intro e2; injection e2 with e2 _ _; exact hA b hb e2.symm)]
  exact hc i hi

end Go.Proofs.YteonanaihklgmaaDoor

namespace Go.Proofs.YteonanaihklgmaaDoor
open Go.RowKit
open Pl

theorem bytes_push : ∀ (bytes : List UInt8) (s : ByteArray), (bytes.map fun b => (b.toNat : Int)).foldl (fun r n => r.push (UInt8.ofNat n.toNat)) s = bs (s.data.toList ++ bytes) := by
  intro bytes
  induction bytes with
  | nil => intro s; simp [bs_of]
  | cons b bytes ih =>
    intro s
    rw [List.map_cons, List.foldl_cons, ih]
    congr 1
    simp

/-- a row of bytes as a text -/
theorem conv_row {w : World} {base : Nat} {v : Value} {n : Nat} {bytes : List UInt8} (h : w.ownsRow base 5 1 v n (bytes.map byteV)) :
    (convert 22 9 v).run Tryd.prog w = .ok (.string (bs bytes)) w := by
  obtain ⟨a, cap, rfl, hl, hc⟩ := row_slice h
  rw [run_convert_bytes_string w _ _ 5 a n cap Tryd.underlying22 Tryd.underlying5 Tryd.underlying9]
  have hl2 : bytes.length = n := by simpa using hl
  cases a with
  | none =>
    have hn : n = 0 := by
      rcases Nat.eq_zero_or_pos n with h0 | h0
      · exact h0
      · obtain ⟨g, hg, _⟩ := hc 0 h0
        cases hg
    have hb : bytes = [] := List.eq_nil_of_length_eq_zero (by omega)
    subst hb
    rfl
  | some x =>
    rw [run_bytesToString w x n cap (bytes.map fun b => (b.toNat : Int))]
    · rw [bytes_push]; rfl
    · have hcells := run_loadCells (P := Tryd.prog) (w := w) x n (fun j => byteV (bytes.getD j 0)) (fun j hj => by
        obtain ⟨g, hg, hcell⟩ := hc j hj
        injection hg with hg
        subst hg
        have e1 : (⟨g, 0, none⟩ : Addr).add j = ⟨g, j, none⟩ := by unfold Addr.add; split <;> simp_all
        rw [e1, hcell, List.getElem?_map, List.getElem?_eq_getElem (by omega)]
        simp [List.getD, List.getElem?_eq_getElem (show j < bytes.length by omega)])
      rw [hcells]
      congr 1
      apply Array.ext'
      simp only [List.map_map]
      apply List.ext_getElem?
      intro i
      by_cases hi : i < n
      · simp [List.getElem?_map, List.getElem?_eq_getElem (show i < bytes.length by omega), hi, byteV, List.getD]
      · simp [List.getElem?_eq_none (show bytes.length ≤ i by omega), hi]

/-- the bytes ahead of the parts -/
def Pl.Fm.headL (f : Fm) : List UInt8 := f.op :: f.vars.map vb

theorem head_len (f : Fm) : f.headL.length ≤ 3 := by have := vars_le f; simp [Fm.headL]; omega

/-- the bytes up to part k, the parts' own texts given -/
def headT (f : Fm) (h : List UInt8) (g : Fm → List UInt8) (k : Nat) : List UInt8 := h ++ ((f.parts.take k).map g).flatten

theorem headT_zero (f : Fm) (h : List UInt8) (g : Fm → List UInt8) : headT f h g 0 = h := by simp [headT]
theorem headT_succ (f : Fm) (h : List UInt8) (g : Fm → List UInt8) (k : Nat) (hk : k < f.parts.length) : headT f h g (k + 1) = headT f h g k ++ g f.parts[k] := by
  unfold headT
  rw [List.take_succ_eq_append_getElem hk, List.map_append, List.flatten_append, List.append_assoc]
  simp only [List.map_cons, List.map_nil, List.flatten_cons, List.flatten_nil, List.append_nil]
theorem headT_all (f : Fm) (h : List UInt8) (g : Fm → List UInt8) (k : Nat) (hk : f.parts.length ≤ k) : headT f h g k = h ++ (f.parts.map g).flatten := by
  unfold headT; rw [List.take_of_length_le hk]
theorem headT_len (f : Fm) (h : List UInt8) (g : Fm → List UInt8) (k m n : Nat) (hh : h.length ≤ m) (hg : ∀ p ∈ f.parts, (g p).length ≤ n) : (headT f h g k).length ≤ m + 2 * n := by
  unfold headT
  rw [List.length_append]
  have h2 : ∀ ps : List Fm, (∀ p ∈ ps, (g p).length ≤ n) → ((ps.map g).flatten).length ≤ ps.length * n := by
    intro ps
    induction ps with
    | nil => intro _; simp
    | cons p ps ih =>
      intro hp
      have h1 := hp p (by simp)
      have h3 := ih (fun q hq => hp q (by simp [hq]))
      simp only [List.map_cons, List.flatten_cons, List.length_append, List.length_cons, Nat.add_mul, Nat.one_mul]
      omega
  have h3 := h2 (f.parts.take k) (fun p hp => hg p (List.mem_of_mem_take hp))
  have h4 : (f.parts.take k).length ≤ 2 := by have := parts_le f; simp; omega
  have h5 := Nat.mul_le_mul_right n h4
  omega

theorem vars_bytes (f : Fm) : (f.vars.map fun v => byteV (vb v)) = (f.vars.map vb).map byteV := by simp

theorem ownsRow_world {w w' : World} {base : Nat} {e : TypeId} {size : Nat} {v : Value} {n : Nat} {xs : List Value} (h : w.ownsRow base e size v n xs) (hb : Below w.heap.size w w') : w'.ownsRow base e size v n xs :=
  ownsRow_keep h fun g hg => ⟨hb.block g (ownsRow_lt h hg).2, (ownsRow_lt h hg).1⟩

/-- a new slice of one byte -/
theorem new_byte (w : World) (b : UInt8) : ((w.alloc (.cells #[.int .u8 b.toNat] 5)).drew).ownsRow 0 5 1 (.slice (some ⟨w.heap.size, 0, none⟩) 1 1) 1 ([b].map byteV) :=
  ⟨rfl, .inr ⟨w.heap.size, 1, _, rfl, Nat.zero_le _, heap_alloc_new w _, Nat.le_refl _, by unfold maxLen; omega, rfl, rfl⟩⟩

theorem TreeIn.world {S : Nat → Prop} {w w' : World} {f : Fm} {b : Nat} (h : TreeIn S w f b) (hb : Below w.heap.size w w') : TreeIn S w' f b := TreeIn.keep (fun g hs hg => ⟨hb.block g hg, hs⟩) f b h

theorem TreesIn.world {S : Nat → Prop} {w w' : World} {ps : List Fm} {ks : List Nat} (h : TreesIn S w ps ks) (hb : Below w.heap.size w w') : TreesIn S w' ps ks := h.keep fun g hs hg => ⟨hb.block g hg, hs⟩

end Go.Proofs.YteonanaihklgmaaDoor

namespace Go.Proofs.YteonanaihklgmaaDoor
open Go.RowKit
open Pl

/-- the operators that stay behind a negation -/
def keepB (b : UInt8) : Bool := ((b.toNat : Int) == 80) || ((b.toNat : Int) == 61) || ((b.toNat : Int) == 69) || ((b.toNat : Int) == 50) || ((b.toNat : Int) == 51) || ((b.toNat : Int) == 52)

/-- the operator that stands for another one behind a negation -/
def turnB (b : UInt8) : UInt8 := if b = 116 then 102 else if b = 102 then 116 else if b = 38 then 124 else if b = 124 then 38 else if b = 65 then 83 else if b = 83 then 65 else b

def pushL (o : Bool) (f : Fm) : List UInt8 := (f.push o).text

theorem push_neg (f : Fm) (h : f.op = 33) : ∃ p, f.parts = [p] ∧ ∀ o, pushL o f = pushL (!o) p := by
  cases f with
  | neg p => exact ⟨p, rfl, fun o => rfl⟩
  | qu k v p => cases k <;> simp [Fm.op, Qn.b] at h
  | _ => simp [Fm.op] at h

theorem push_keep (f : Fm) (h : keepB f.op = true) (o : Bool) : pushL o f = (if o then [33] else []) ++ (f.headL ++ (f.parts.map (pushL false)).flatten) := by
  cases f with
  | qu k v p => cases k <;> first | (simp [Fm.op, Qn.b, keepB] at h; done) | (cases o <;> simp [pushL, Fm.push, Fm.text, Fm.headL, Fm.op, Fm.vars, Fm.parts])
  | pr v => cases o <;> simp [pushL, Fm.push, Fm.text, Fm.headL, Fm.op, Fm.vars, Fm.parts]
  | eq v w => cases o <;> simp [pushL, Fm.push, Fm.text, Fm.headL, Fm.op, Fm.vars, Fm.parts]
  | rel v w => cases o <;> simp [pushL, Fm.push, Fm.text, Fm.headL, Fm.op, Fm.vars, Fm.parts]
  | _ => simp [Fm.op, keepB] at h

theorem push_turn (f : Fm) (h : keepB f.op = false) (h2 : f.op ≠ 33) (o : Bool) :
    pushL o f = ((if o then turnB f.op else f.op) :: f.vars.map vb) ++ (f.parts.map (pushL o)).flatten := by
  cases f with
  | qu k v p => cases k <;> first | (simp [Fm.op, Qn.b, keepB] at h; done) | (cases o <;> simp [pushL, Fm.push, Fm.text, Fm.op, Fm.vars, Fm.parts, turnB, Qn.b])
  | tru => cases o <;> simp [pushL, Fm.push, Fm.text, Fm.op, Fm.vars, Fm.parts, turnB]
  | fls => cases o <;> simp [pushL, Fm.push, Fm.text, Fm.op, Fm.vars, Fm.parts, turnB]
  | con p q => cases o <;> simp [pushL, Fm.push, Fm.text, Fm.op, Fm.vars, Fm.parts, turnB]
  | dis p q => cases o <;> simp [pushL, Fm.push, Fm.text, Fm.op, Fm.vars, Fm.parts, turnB]
  | neg p => exact absurd rfl h2
  | _ => simp [Fm.op, keepB] at h

theorem op_turn (f : Fm) (h : keepB f.op = false) (h2 : f.op ≠ 33) : f.op = 116 ∨ f.op = 102 ∨ f.op = 38 ∨ f.op = 124 ∨ f.op = 65 ∨ f.op = 83 := by
  cases f with
  | qu k v p => cases k <;> first | (simp [Fm.op, Qn.b, keepB] at h; done) | simp [Fm.op, Qn.b]
  | neg p => exact absurd rfl h2
  | tru => simp [Fm.op]
  | fls => simp [Fm.op]
  | con p q => simp [Fm.op]
  | dis p q => simp [Fm.op]
  | _ => simp [Fm.op, keepB] at h

theorem turned_calls (b : UInt8) (w : World) (h : b = 116 ∨ b = 102 ∨ b = 38 ∨ b = 124 ∨ b = 65 ∨ b = 83) :
    Calls Tryd.prog 68 #[.int .u8 b.toNat] w fun e w' => e = .returned (.int .u8 (turnB b).toNat) ∧ w = w' := by
  rcases h with rfl | rfl | rfl | rfl | rfl | rfl
  · have h : ∀ w, Calls Tryd.prog 92 #[.string ⟨#[116, 102, 38, 124, 65, 83]⟩, .int .u8 116] w fun e w' => e = .returned (.int .i64 0) ∧ w = w' := fun w => IndexByte_calls ⟨#[116, 102, 38, 124, 65, 83]⟩ 116 w
    have H := Lib.hid h
    clear h
    go_enter Tryd.func68, Tryd.ntmps68
    go_wp2_with (go_at_call 92; refine (H.out _).mono ?_; rintro e w' ⟨rfl, rfl⟩)
    go_ret
    exact ⟨rfl, rfl⟩
  · have h : ∀ w, Calls Tryd.prog 92 #[.string ⟨#[116, 102, 38, 124, 65, 83]⟩, .int .u8 102] w fun e w' => e = .returned (.int .i64 1) ∧ w = w' := fun w => IndexByte_calls ⟨#[116, 102, 38, 124, 65, 83]⟩ 102 w
    have H := Lib.hid h
    clear h
    go_enter Tryd.func68, Tryd.ntmps68
    go_wp2_with (go_at_call 92; refine (H.out _).mono ?_; rintro e w' ⟨rfl, rfl⟩)
    go_ret
    exact ⟨rfl, rfl⟩
  · have h : ∀ w, Calls Tryd.prog 92 #[.string ⟨#[116, 102, 38, 124, 65, 83]⟩, .int .u8 38] w fun e w' => e = .returned (.int .i64 2) ∧ w = w' := fun w => IndexByte_calls ⟨#[116, 102, 38, 124, 65, 83]⟩ 38 w
    have H := Lib.hid h
    clear h
    go_enter Tryd.func68, Tryd.ntmps68
    go_wp2_with (go_at_call 92; refine (H.out _).mono ?_; rintro e w' ⟨rfl, rfl⟩)
    go_ret
    exact ⟨rfl, rfl⟩
  · have h : ∀ w, Calls Tryd.prog 92 #[.string ⟨#[116, 102, 38, 124, 65, 83]⟩, .int .u8 124] w fun e w' => e = .returned (.int .i64 3) ∧ w = w' := fun w => IndexByte_calls ⟨#[116, 102, 38, 124, 65, 83]⟩ 124 w
    have H := Lib.hid h
    clear h
    go_enter Tryd.func68, Tryd.ntmps68
    go_wp2_with (go_at_call 92; refine (H.out _).mono ?_; rintro e w' ⟨rfl, rfl⟩)
    go_ret
    exact ⟨rfl, rfl⟩
  · have h : ∀ w, Calls Tryd.prog 92 #[.string ⟨#[116, 102, 38, 124, 65, 83]⟩, .int .u8 65] w fun e w' => e = .returned (.int .i64 4) ∧ w = w' := fun w => IndexByte_calls ⟨#[116, 102, 38, 124, 65, 83]⟩ 65 w
    have H := Lib.hid h
    clear h
    go_enter Tryd.func68, Tryd.ntmps68
    go_wp2_with (go_at_call 92; refine (H.out _).mono ?_; rintro e w' ⟨rfl, rfl⟩)
    go_ret
    exact ⟨rfl, rfl⟩
  · have h : ∀ w, Calls Tryd.prog 92 #[.string ⟨#[116, 102, 38, 124, 65, 83]⟩, .int .u8 83] w fun e w' => e = .returned (.int .i64 5) ∧ w = w' := fun w => IndexByte_calls ⟨#[116, 102, 38, 124, 65, 83]⟩ 83 w
    have H := Lib.hid h
    clear h
    go_enter Tryd.func68, Tryd.ntmps68
    go_wp2_with (go_at_call 92; refine (H.out _).mono ?_; rintro e w' ⟨rfl, rfl⟩)
    go_ret
    exact ⟨rfl, rfl⟩

theorem pushL_le (o : Bool) (f : Fm) : (pushL o f).length ≤ 2 * f.text.length := push_le f o

set_option maxHeartbeats 2000000 in
set_option maxRecDepth 100000 in
theorem push_calls (n : Nat) : ∀ (o : Bool) (f : Fm) (b : Nat) (S : Nat → Prop) (w : World), f.size ≤ n → TreeIn S w f b → f.text.length ≤ 300000 →
    Calls Tryd.prog 35 #[kidV b, .bool o] w fun e w' => e = .returned (.string (bs (pushL o f))) ∧ Below w.heap.size w w' := by
  induction n with
  | zero => intro o f b S w hn _ _; cases f <;> simp [Fm.size] at hn
  | succ n ih =>
    intro o f b S w hn ht hl
    have Ht := Lib.hid ht
    have Ih := Lib.hid ih
    clear ih
    obtain ⟨ks0, vsv, psv0, hc0, hc1, hc2, _, _, hr1, hr0, hts0⟩ := node_cells ht
    by_cases h33 : f.op = 33
    · obtain ⟨p, hp, hpush⟩ := push_neg f h33
      have hk0 := hts0.1
      rw [hp] at hk0
      obtain ⟨k0, rfl⟩ : ∃ k0, ks0 = [k0] := by
        match ks0, hk0 with
        | [k0], _ => exact ⟨k0, rfl⟩
      obtain ⟨g, cap, rfl, hcap, hcm, _, hglt, hcell⟩ := row_open hr0 (by simp)
      have hcl := hcell 0 (by simp)
      have hcell0 : w.cell? ⟨g, 0, none⟩ = some (kidV k0) := by rw [hcl]; rfl
      have hpk := hts0.2 0 p k0 (by rw [hp]; rfl) rfl
      have hmem : p ∈ f.parts := by rw [hp]; simp
      have hsz := Fm.size_parts hmem
      have hcall := Ih.out (!o) p k0 S w (by omega) hpk (by have := part_text_le hmem; omega)
      rw [← hpush o] at hcall
      have Hcall := Lib.hid hcall
      have hop : (f.op.toNat : Int) = 33 := by rw [h33]; rfl
      clear hcall hpush hp hk0 hcell hcl hr0 hts0 hpk hmem hsz hr1 ht hc1 h33
      go_enter Tryd.func35, Tryd.ntmps35
      go_wp2_with (go_at_call 35; refine (Hcall.out).mono ?_; rintro e w' ⟨rfl, hb2⟩)
      go_ret
      exact ⟨rfl, hb2⟩
    · have hop33 : ((f.op.toNat : Int) == 33) = false := by
        rw [beq_eq_false_iff_ne]
        intro e
        apply h33
        apply UInt8.toNat_inj.1
        show f.op.toNat = 33
        omega
      clear hr0 hts0
      cases hkeep : keepB f.op with
      | true =>
        have hpk := push_keep f hkeep o
        have Hpk := Lib.hid hpk
        have Hkeep := Lib.hid hkeep
        clear hpk hkeep h33
        have hcv1 : (convert 22 9 vsv).run Tryd.prog w.drew = .ok (.string (bs (f.vars.map vb))) w.drew := conv_row (w := w.drew) (base := 0) (n := f.vars.length) (by rw [← vars_bytes]; exact hr1)
        have hcv2 : ∀ o, (convert 22 9 vsv).run Tryd.prog (w.alloc o).drew = .ok (.string (bs (f.vars.map vb))) (w.alloc o).drew := fun o => conv_row (w := (w.alloc o).drew) (base := 0) (n := f.vars.length) (by rw [← vars_bytes]; exact ownsRow_world hr1 ((Below.refl _ _).alloc (Nat.le_refl _) _).drew)
        have hcv3 : (convert 22 9 (.slice (some ⟨w.heap.size, 0, none⟩) 1 1)).run Tryd.prog (w.alloc (.cells #[.int .u8 f.op.toNat] 5)).drew = .ok (.string (bs [f.op])) (w.alloc (.cells #[.int .u8 f.op.toNat] 5)).drew := conv_row (new_byte w f.op)
        have hlb := World.block_lt_of_cell? w _ hc0
        have ha0 : ∀ o, (w.alloc o).cell? ⟨b, 0, none⟩ = some (.int .u8 f.op.toNat) := fun o => (World.cell?_of_block (w := w) (Below.heap_alloc w o b hlb)).trans hc0
        have ha1 : ∀ o, (w.alloc o).cell? ⟨b, 1, none⟩ = some vsv := fun o => (World.cell?_of_block (w := w) (Below.heap_alloc w o b hlb)).trans hc1
        have hsz : (bs (f.vars.map vb)).size ≤ 2 := by rw [bs_size]; have := vars_le f; simp; omega
        have hsz1 : (bs [f.op]).size ≤ 1 := by rw [bs_size]; simp
        clear ht hr1
        go_enter Tryd.func35, Tryd.ntmps35
        go_upto_if 16 with (fail)
        go_step
        go_step
        go_cut [27] (fun v wx => v = .bool (keepB f.op) ∧ wx = w)
        case first =>
          go_wp2_with fail
          all_goals
            go_meet
            case rel => exact ⟨by congr 1; simp [keepB, *], rfl⟩
        case rest =>
          obtain ⟨rfl, rfl⟩ := hcut
          rw [Hkeep.out]
          go_upto_region 10 with (fail)
          go_cut [5] (fun s wx => s = .string (bs f.headL) ∧ Below wc.heap.size wc wx)
          case first =>
            go_region
            all_goals
              go_wp2_with fail
              go_meet
              case rel => exact ⟨str_eq (append_bs _ _), ((Below.refl _ _).alloc (Nat.le_refl _) _).drew⟩
          case rest =>
            cases o with
            | true =>
              obtain ⟨rfl, hbc⟩ := hcut
              have Hbc := Lib.hid hbc
              have ht2 := TreeIn.world Ht.out hbc
              clear hc0 hc1 hc2 hcv1 hcv2 hcv3 hlb ha0 ha1 hsz hsz1 hbc
              obtain ⟨ks, vsv2, psv, hc0, _, hc2, _, _, _, hr, hts⟩ := node_cells ht2
              obtain ⟨a, cap, rfl, hkl, hrow⟩ := row_slice hr
              have hkl2 : ks.length = f.parts.length := hts.1
              have hp2 := parts_le f
              have hkl3 : ks.length ≤ 2 := by omega
              have Hrow := Lib.hid hrow
              have Hts := Lib.hid hts
              have Hkl := Lib.hid hkl2
              clear hrow hts hkl hkl2 hr ht2
              go_wp2_with fail
              go_loopg [5, 51] ks.length (fun c o i wr => ∃ k : Nat, k + c = ks.length ∧ i = .int .i64 k ∧ o = .string (bs (headT f (f.headL) (pushL false) k)) ∧ Below wc.heap.size wc wr)
              case atStart => exact ⟨0, by omega, rfl, by rw [headT_zero], Below.refl _ _⟩
              case round =>
                obtain ⟨k, hk, rfl, rfl, hbr⟩ := hrel
                have Hbr := Lib.hid hbr
                clear hbr
                by_cases hlt : k < ks.length
                · obtain ⟨g, rfl, hcell⟩ := Hrow.out k hlt
                  have hkf : k < f.parts.length := by rw [← Hkl.out]; exact hlt
                  have hcell1 : wc.cell? ⟨g, k, none⟩ = some (kidV ks[k]) := by rw [hcell, List.getElem?_map, List.getElem?_eq_getElem hlt]; rfl
                  have hcell2 : wr.cell? ⟨g, k, none⟩ = some (kidV ks[k]) := (Hbr.out.cell (World.block_lt_of_cell? wc _ hcell1)).trans hcell1
                  have hpk := (Hts.out.world Hbr.out).2 k f.parts[k] ks[k] (List.getElem?_eq_getElem hkf) (List.getElem?_eq_getElem hlt)
                  have hmem : f.parts[k] ∈ f.parts := List.getElem_mem hkf
                  have hsz := Fm.size_parts hmem
                  have hcall := Ih.out false f.parts[k] ks[k] S wr (by omega) hpk (by have := part_text_le hmem; omega)
                  have Hcall := Lib.hid hcall
                  have hsnoc := headT_succ f (f.headL) (pushL false) k hkf
                  have hs1 : (bs ((pushL false) f.parts[k])).size ≤ 600000 := by rw [bs_size]; have := part_text_le hmem; have := pushL_le false f.parts[k]; omega
                  have hs2 : (bs (headT f (f.headL) (pushL false) k)).size ≤ 3 + 2 * 600000 := by rw [bs_size]; exact headT_len f (f.headL) (pushL false) k 3 600000 (head_len f) (fun p hp => by have := part_text_le hp; have := pushL_le false p; omega)
                  have Hsnoc := Lib.hid hsnoc
                  clear hcell hcell1 hpk hmem hsz hcall hsnoc
                  go_wp2_with (go_at_call 35; refine (Hcall.out).mono ?_; rintro e w' ⟨rfl, hb2⟩)
                  go_roundg (gk - 1)
                  case rel => exact ⟨k + 1, by omega, by go_num, str_eq (by rw [append_bs, Hsnoc.out, bs_data, bs_data]), Hbr.out.trans (hb2.mono Hbr.out.size)⟩
                  case measure => omega
                · have hk2 : k = ks.length := by omega
                  have htk := headT_all f (f.headL) (pushL false) k (by rw [hk2, Hkl.out]; exact Nat.le_refl _)
                  have Htk := Lib.hid htk
                  have hs2 : (bs (headT f (f.headL) (pushL false) k)).size ≤ 3 + 2 * 600000 := by rw [bs_size]; exact headT_len f (f.headL) (pushL false) k 3 600000 (head_len f) (fun p hp => by have := part_text_le hp; have := pushL_le false p; omega)
                  clear htk hk2
                  go_wp2_with fail
                  go_ret
                  refine ⟨?_, Hbc.out.trans (Hbr.out.mono Hbc.out.size)⟩
                  show Ending.returned (.string _) = .returned (.string _)
                  rw [Hpk.out]
                  first
                    | (rw [append_bs, bs_data, Htk.out]; rfl)
                    | (rw [Htk.out]; rfl)
            | false =>
              obtain ⟨rfl, hbc⟩ := hcut
              have Hbc := Lib.hid hbc
              have ht2 := TreeIn.world Ht.out hbc
              clear hc0 hc1 hc2 hcv1 hcv2 hcv3 hlb ha0 ha1 hsz hsz1 hbc
              obtain ⟨ks, vsv2, psv, hc0, _, hc2, _, _, _, hr, hts⟩ := node_cells ht2
              obtain ⟨a, cap, rfl, hkl, hrow⟩ := row_slice hr
              have hkl2 : ks.length = f.parts.length := hts.1
              have hp2 := parts_le f
              have hkl3 : ks.length ≤ 2 := by omega
              have Hrow := Lib.hid hrow
              have Hts := Lib.hid hts
              have Hkl := Lib.hid hkl2
              clear hrow hts hkl hkl2 hr ht2
              go_wp2_with fail
              go_loopg [5, 51] ks.length (fun c o i wr => ∃ k : Nat, k + c = ks.length ∧ i = .int .i64 k ∧ o = .string (bs (headT f (f.headL) (pushL false) k)) ∧ Below wc.heap.size wc wr)
              case atStart => exact ⟨0, by omega, rfl, by rw [headT_zero], Below.refl _ _⟩
              case round =>
                obtain ⟨k, hk, rfl, rfl, hbr⟩ := hrel
                have Hbr := Lib.hid hbr
                clear hbr
                by_cases hlt : k < ks.length
                · obtain ⟨g, rfl, hcell⟩ := Hrow.out k hlt
                  have hkf : k < f.parts.length := by rw [← Hkl.out]; exact hlt
                  have hcell1 : wc.cell? ⟨g, k, none⟩ = some (kidV ks[k]) := by rw [hcell, List.getElem?_map, List.getElem?_eq_getElem hlt]; rfl
                  have hcell2 : wr.cell? ⟨g, k, none⟩ = some (kidV ks[k]) := (Hbr.out.cell (World.block_lt_of_cell? wc _ hcell1)).trans hcell1
                  have hpk := (Hts.out.world Hbr.out).2 k f.parts[k] ks[k] (List.getElem?_eq_getElem hkf) (List.getElem?_eq_getElem hlt)
                  have hmem : f.parts[k] ∈ f.parts := List.getElem_mem hkf
                  have hsz := Fm.size_parts hmem
                  have hcall := Ih.out false f.parts[k] ks[k] S wr (by omega) hpk (by have := part_text_le hmem; omega)
                  have Hcall := Lib.hid hcall
                  have hsnoc := headT_succ f (f.headL) (pushL false) k hkf
                  have hs1 : (bs ((pushL false) f.parts[k])).size ≤ 600000 := by rw [bs_size]; have := part_text_le hmem; have := pushL_le false f.parts[k]; omega
                  have hs2 : (bs (headT f (f.headL) (pushL false) k)).size ≤ 3 + 2 * 600000 := by rw [bs_size]; exact headT_len f (f.headL) (pushL false) k 3 600000 (head_len f) (fun p hp => by have := part_text_le hp; have := pushL_le false p; omega)
                  have Hsnoc := Lib.hid hsnoc
                  clear hcell hcell1 hpk hmem hsz hcall hsnoc
                  go_wp2_with (go_at_call 35; refine (Hcall.out).mono ?_; rintro e w' ⟨rfl, hb2⟩)
                  go_roundg (gk - 1)
                  case rel => exact ⟨k + 1, by omega, by go_num, str_eq (by rw [append_bs, Hsnoc.out, bs_data, bs_data]), Hbr.out.trans (hb2.mono Hbr.out.size)⟩
                  case measure => omega
                · have hk2 : k = ks.length := by omega
                  have htk := headT_all f (f.headL) (pushL false) k (by rw [hk2, Hkl.out]; exact Nat.le_refl _)
                  have Htk := Lib.hid htk
                  have hs2 : (bs (headT f (f.headL) (pushL false) k)).size ≤ 3 + 2 * 600000 := by rw [bs_size]; exact headT_len f (f.headL) (pushL false) k 3 600000 (head_len f) (fun p hp => by have := part_text_le hp; have := pushL_le false p; omega)
                  clear htk hk2
                  go_wp2_with fail
                  go_ret
                  refine ⟨?_, Hbc.out.trans (Hbr.out.mono Hbc.out.size)⟩
                  show Ending.returned (.string _) = .returned (.string _)
                  rw [Hpk.out]
                  first
                    | (rw [append_bs, bs_data, Htk.out]; rfl)
                    | (rw [Htk.out]; rfl)
      | false =>
        have hopt := op_turn f hkeep h33
        have Hopt := Lib.hid hopt
        have hpk := push_turn f hkeep h33 o
        have Hpk := Lib.hid hpk
        have Hkeep := Lib.hid hkeep
        clear hpk hkeep h33 hopt
        cases o with
        | true =>
          have hcv1 : (convert 22 9 vsv).run Tryd.prog w.drew = .ok (.string (bs (f.vars.map vb))) w.drew := conv_row (w := w.drew) (base := 0) (n := f.vars.length) (by rw [← vars_bytes]; exact hr1)
          have hcv2 : ∀ o, (convert 22 9 vsv).run Tryd.prog (w.alloc o).drew = .ok (.string (bs (f.vars.map vb))) (w.alloc o).drew := fun o => conv_row (w := (w.alloc o).drew) (base := 0) (n := f.vars.length) (by rw [← vars_bytes]; exact ownsRow_world hr1 ((Below.refl _ _).alloc (Nat.le_refl _) _).drew)
          have hcv3 : (convert 22 9 (.slice (some ⟨w.heap.size, 0, none⟩) 1 1)).run Tryd.prog (w.alloc (.cells #[.int .u8 (turnB f.op).toNat] 5)).drew = .ok (.string (bs [(turnB f.op)])) (w.alloc (.cells #[.int .u8 (turnB f.op).toNat] 5)).drew := conv_row (new_byte w (turnB f.op))
          have hlb := World.block_lt_of_cell? w _ hc0
          have ha0 : ∀ o, (w.alloc o).cell? ⟨b, 0, none⟩ = some (.int .u8 f.op.toNat) := fun o => (World.cell?_of_block (w := w) (Below.heap_alloc w o b hlb)).trans hc0
          have ha1 : ∀ o, (w.alloc o).cell? ⟨b, 1, none⟩ = some vsv := fun o => (World.cell?_of_block (w := w) (Below.heap_alloc w o b hlb)).trans hc1
          have hsz : (bs (f.vars.map vb)).size ≤ 2 := by rw [bs_size]; have := vars_le f; simp; omega
          have hsz1 : (bs [(turnB f.op)]).size ≤ 1 := by rw [bs_size]; simp
          clear ht hr1
          go_enter Tryd.func35, Tryd.ntmps35
          go_upto_if 16 with (fail)
          go_step
          go_step
          go_cut [27] (fun v wx => v = .bool (keepB f.op) ∧ wx = w)
          case first =>
            go_wp2_with fail
            all_goals
              go_meet
              case rel => exact ⟨by congr 1; simp [keepB, *], rfl⟩
          case rest =>
            obtain ⟨rfl, rfl⟩ := hcut
            rw [Hkeep.out]
            go_upto_region 22 with (go_at_call 68; refine (turned_calls f.op _ Hopt.out).mono ?_; rintro e w' ⟨rfl, rfl⟩)
            go_cut [9] (fun s wx => s = .string (bs ((turnB f.op) :: f.vars.map vb)) ∧ Below wc.heap.size wc wx)
            case first =>
              go_region
              all_goals
                go_wp2_with fail
                go_meet
                case rel => exact ⟨str_eq (append_bs _ _), ((Below.refl _ _).alloc (Nat.le_refl _) _).drew⟩
            case rest =>
              obtain ⟨rfl, hbc⟩ := hcut
              have Hbc := Lib.hid hbc
              have ht2 := TreeIn.world Ht.out hbc
              clear hc0 hc1 hc2 hcv1 hcv2 hcv3 hlb ha0 ha1 hsz hsz1 hbc
              obtain ⟨ks, vsv2, psv, hc0, _, hc2, _, _, _, hr, hts⟩ := node_cells ht2
              obtain ⟨a, cap, rfl, hkl, hrow⟩ := row_slice hr
              have hkl2 : ks.length = f.parts.length := hts.1
              have hp2 := parts_le f
              have hkl3 : ks.length ≤ 2 := by omega
              have Hrow := Lib.hid hrow
              have Hts := Lib.hid hts
              have Hkl := Lib.hid hkl2
              clear hrow hts hkl hkl2 hr ht2
              go_wp2_with fail
              go_loopg [9, 85] ks.length (fun c o i wr => ∃ k : Nat, k + c = ks.length ∧ i = .int .i64 k ∧ o = .string (bs (headT f ((turnB f.op) :: f.vars.map vb) (pushL true) k)) ∧ Below wc.heap.size wc wr)
              case atStart => exact ⟨0, by omega, rfl, by rw [headT_zero], Below.refl _ _⟩
              case round =>
                obtain ⟨k, hk, rfl, rfl, hbr⟩ := hrel
                have Hbr := Lib.hid hbr
                clear hbr
                by_cases hlt : k < ks.length
                · obtain ⟨g, rfl, hcell⟩ := Hrow.out k hlt
                  have hkf : k < f.parts.length := by rw [← Hkl.out]; exact hlt
                  have hcell1 : wc.cell? ⟨g, k, none⟩ = some (kidV ks[k]) := by rw [hcell, List.getElem?_map, List.getElem?_eq_getElem hlt]; rfl
                  have hcell2 : wr.cell? ⟨g, k, none⟩ = some (kidV ks[k]) := (Hbr.out.cell (World.block_lt_of_cell? wc _ hcell1)).trans hcell1
                  have hpk := (Hts.out.world Hbr.out).2 k f.parts[k] ks[k] (List.getElem?_eq_getElem hkf) (List.getElem?_eq_getElem hlt)
                  have hmem : f.parts[k] ∈ f.parts := List.getElem_mem hkf
                  have hsz := Fm.size_parts hmem
                  have hcall := Ih.out true f.parts[k] ks[k] S wr (by omega) hpk (by have := part_text_le hmem; omega)
                  have Hcall := Lib.hid hcall
                  have hsnoc := headT_succ f ((turnB f.op) :: f.vars.map vb) (pushL true) k hkf
                  have hs1 : (bs ((pushL true) f.parts[k])).size ≤ 600000 := by rw [bs_size]; have := part_text_le hmem; have := pushL_le true f.parts[k]; omega
                  have hs2 : (bs (headT f ((turnB f.op) :: f.vars.map vb) (pushL true) k)).size ≤ 3 + 2 * 600000 := by rw [bs_size]; exact headT_len f ((turnB f.op) :: f.vars.map vb) (pushL true) k 3 600000 (by have := vars_le f; simp; omega) (fun p hp => by have := part_text_le hp; have := pushL_le true p; omega)
                  have Hsnoc := Lib.hid hsnoc
                  clear hcell hcell1 hpk hmem hsz hcall hsnoc
                  go_wp2_with (go_at_call 35; refine (Hcall.out).mono ?_; rintro e w' ⟨rfl, hb2⟩)
                  go_roundg (gk - 1)
                  case rel => exact ⟨k + 1, by omega, by go_num, str_eq (by rw [append_bs, Hsnoc.out, bs_data, bs_data]), Hbr.out.trans (hb2.mono Hbr.out.size)⟩
                  case measure => omega
                · have hk2 : k = ks.length := by omega
                  have htk := headT_all f ((turnB f.op) :: f.vars.map vb) (pushL true) k (by rw [hk2, Hkl.out]; exact Nat.le_refl _)
                  have Htk := Lib.hid htk
                  have hs2 : (bs (headT f ((turnB f.op) :: f.vars.map vb) (pushL true) k)).size ≤ 3 + 2 * 600000 := by rw [bs_size]; exact headT_len f ((turnB f.op) :: f.vars.map vb) (pushL true) k 3 600000 (by have := vars_le f; simp; omega) (fun p hp => by have := part_text_le hp; have := pushL_le true p; omega)
                  clear htk hk2
                  go_wp2_with fail
                  go_ret
                  refine ⟨?_, Hbc.out.trans (Hbr.out.mono Hbc.out.size)⟩
                  show Ending.returned (.string _) = .returned (.string _)
                  rw [Hpk.out, Htk.out]
                  first
                    | rfl
                    | simp
        | false =>
          have hcv1 : (convert 22 9 vsv).run Tryd.prog w.drew = .ok (.string (bs (f.vars.map vb))) w.drew := conv_row (w := w.drew) (base := 0) (n := f.vars.length) (by rw [← vars_bytes]; exact hr1)
          have hcv2 : ∀ o, (convert 22 9 vsv).run Tryd.prog (w.alloc o).drew = .ok (.string (bs (f.vars.map vb))) (w.alloc o).drew := fun o => conv_row (w := (w.alloc o).drew) (base := 0) (n := f.vars.length) (by rw [← vars_bytes]; exact ownsRow_world hr1 ((Below.refl _ _).alloc (Nat.le_refl _) _).drew)
          have hcv3 : (convert 22 9 (.slice (some ⟨w.heap.size, 0, none⟩) 1 1)).run Tryd.prog (w.alloc (.cells #[.int .u8 f.op.toNat] 5)).drew = .ok (.string (bs [f.op])) (w.alloc (.cells #[.int .u8 f.op.toNat] 5)).drew := conv_row (new_byte w f.op)
          have hlb := World.block_lt_of_cell? w _ hc0
          have ha0 : ∀ o, (w.alloc o).cell? ⟨b, 0, none⟩ = some (.int .u8 f.op.toNat) := fun o => (World.cell?_of_block (w := w) (Below.heap_alloc w o b hlb)).trans hc0
          have ha1 : ∀ o, (w.alloc o).cell? ⟨b, 1, none⟩ = some vsv := fun o => (World.cell?_of_block (w := w) (Below.heap_alloc w o b hlb)).trans hc1
          have hsz : (bs (f.vars.map vb)).size ≤ 2 := by rw [bs_size]; have := vars_le f; simp; omega
          have hsz1 : (bs [f.op]).size ≤ 1 := by rw [bs_size]; simp
          clear ht hr1
          go_enter Tryd.func35, Tryd.ntmps35
          go_upto_if 16 with (fail)
          go_step
          go_step
          go_cut [27] (fun v wx => v = .bool (keepB f.op) ∧ wx = w)
          case first =>
            go_wp2_with fail
            all_goals
              go_meet
              case rel => exact ⟨by congr 1; simp [keepB, *], rfl⟩
          case rest =>
            obtain ⟨rfl, rfl⟩ := hcut
            rw [Hkeep.out]
            go_upto_region 22 with (go_at_call 68; refine (turned_calls f.op _ Hopt.out).mono ?_; rintro e w' ⟨rfl, rfl⟩)
            go_cut [9] (fun s wx => s = .string (bs (f.op :: f.vars.map vb)) ∧ Below wc.heap.size wc wx)
            case first =>
              go_region
              all_goals
                go_wp2_with fail
                go_meet
                case rel => exact ⟨str_eq (append_bs _ _), ((Below.refl _ _).alloc (Nat.le_refl _) _).drew⟩
            case rest =>
              obtain ⟨rfl, hbc⟩ := hcut
              have Hbc := Lib.hid hbc
              have ht2 := TreeIn.world Ht.out hbc
              clear hc0 hc1 hc2 hcv1 hcv2 hcv3 hlb ha0 ha1 hsz hsz1 hbc
              obtain ⟨ks, vsv2, psv, hc0, _, hc2, _, _, _, hr, hts⟩ := node_cells ht2
              obtain ⟨a, cap, rfl, hkl, hrow⟩ := row_slice hr
              have hkl2 : ks.length = f.parts.length := hts.1
              have hp2 := parts_le f
              have hkl3 : ks.length ≤ 2 := by omega
              have Hrow := Lib.hid hrow
              have Hts := Lib.hid hts
              have Hkl := Lib.hid hkl2
              clear hrow hts hkl hkl2 hr ht2
              go_wp2_with fail
              go_loopg [9, 85] ks.length (fun c o i wr => ∃ k : Nat, k + c = ks.length ∧ i = .int .i64 k ∧ o = .string (bs (headT f (f.op :: f.vars.map vb) (pushL false) k)) ∧ Below wc.heap.size wc wr)
              case atStart => exact ⟨0, by omega, rfl, by rw [headT_zero], Below.refl _ _⟩
              case round =>
                obtain ⟨k, hk, rfl, rfl, hbr⟩ := hrel
                have Hbr := Lib.hid hbr
                clear hbr
                by_cases hlt : k < ks.length
                · obtain ⟨g, rfl, hcell⟩ := Hrow.out k hlt
                  have hkf : k < f.parts.length := by rw [← Hkl.out]; exact hlt
                  have hcell1 : wc.cell? ⟨g, k, none⟩ = some (kidV ks[k]) := by rw [hcell, List.getElem?_map, List.getElem?_eq_getElem hlt]; rfl
                  have hcell2 : wr.cell? ⟨g, k, none⟩ = some (kidV ks[k]) := (Hbr.out.cell (World.block_lt_of_cell? wc _ hcell1)).trans hcell1
                  have hpk := (Hts.out.world Hbr.out).2 k f.parts[k] ks[k] (List.getElem?_eq_getElem hkf) (List.getElem?_eq_getElem hlt)
                  have hmem : f.parts[k] ∈ f.parts := List.getElem_mem hkf
                  have hsz := Fm.size_parts hmem
                  have hcall := Ih.out false f.parts[k] ks[k] S wr (by omega) hpk (by have := part_text_le hmem; omega)
                  have Hcall := Lib.hid hcall
                  have hsnoc := headT_succ f (f.op :: f.vars.map vb) (pushL false) k hkf
                  have hs1 : (bs ((pushL false) f.parts[k])).size ≤ 600000 := by rw [bs_size]; have := part_text_le hmem; have := pushL_le false f.parts[k]; omega
                  have hs2 : (bs (headT f (f.op :: f.vars.map vb) (pushL false) k)).size ≤ 3 + 2 * 600000 := by rw [bs_size]; exact headT_len f (f.op :: f.vars.map vb) (pushL false) k 3 600000 (by have := vars_le f; simp; omega) (fun p hp => by have := part_text_le hp; have := pushL_le false p; omega)
                  have Hsnoc := Lib.hid hsnoc
                  clear hcell hcell1 hpk hmem hsz hcall hsnoc
                  go_wp2_with (go_at_call 35; refine (Hcall.out).mono ?_; rintro e w' ⟨rfl, hb2⟩)
                  go_roundg (gk - 1)
                  case rel => exact ⟨k + 1, by omega, by go_num, str_eq (by rw [append_bs, Hsnoc.out, bs_data, bs_data]), Hbr.out.trans (hb2.mono Hbr.out.size)⟩
                  case measure => omega
                · have hk2 : k = ks.length := by omega
                  have htk := headT_all f (f.op :: f.vars.map vb) (pushL false) k (by rw [hk2, Hkl.out]; exact Nat.le_refl _)
                  have Htk := Lib.hid htk
                  have hs2 : (bs (headT f (f.op :: f.vars.map vb) (pushL false) k)).size ≤ 3 + 2 * 600000 := by rw [bs_size]; exact headT_len f (f.op :: f.vars.map vb) (pushL false) k 3 600000 (by have := vars_le f; simp; omega) (fun p hp => by have := part_text_le hp; have := pushL_le false p; omega)
                  clear htk hk2
                  go_wp2_with fail
                  go_ret
                  refine ⟨?_, Hbc.out.trans (Hbr.out.mono Hbc.out.size)⟩
                  show Ending.returned (.string _) = .returned (.string _)
                  rw [Hpk.out, Htk.out]
                  first
                    | rfl
                    | simp

end Go.Proofs.YteonanaihklgmaaDoor
