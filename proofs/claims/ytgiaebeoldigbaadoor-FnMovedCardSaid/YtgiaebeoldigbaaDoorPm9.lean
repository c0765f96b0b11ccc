/-
  Laws of the functions that the claim reaches, one after the other (packed by a program of the prover's: SHoldsc3, SHoldsc4, SHolds, StV, SHAt, FmB, GsH, FvP, PartOf, SPart, SPart2, SPartOf, Each, Each2, Count, SOrders, SOrder, SFits, Same, Orb). Conditions: texts below the reach.
-/
import Derived.Test.YtgiaebeoldigbaaDoorPm8
import Derived.Test.YtgiaebeoldigbaaDoorPm0
import Derived.Test.YtgiaebeoldigbaaDoorPm7
import Derived.Test.YtgiaebeoldigbaaDoorPm4
import Derived.Test.YtgiaebeoldigbaaDoorPm3
import Derived.Test.YtgiaebeoldigbaaDoorPm1
import Derived.Test.YtgiaebeoldigbaaDoorPm2
import Derived.Deep.DrawnRows
import Derived.Laws.EntriesVeiled
set_option linter.unusedSimpArgs false
set_option linter.unusedVariables false

namespace Go.Proofs.YtgiaebeoldigbaaDoor
open Go.RowKit
open Pl
set_option linter.unusedSimpArgs false
set_option linter.unusedVariables false

set_option maxHeartbeats 4000000 in
set_option maxRecDepth 100000 in
theorem sh_c3 (a : St) (ha : a.ok) (v : Fin 4) (p : Fm) (Ih : SHAt a p) : SHAt a (.qu .c3 v p) := by
  intro s k r m e w hd hs hm he
  subst hm
  obtain ⟨hk1, hop, hle⟩ := at_op hd
  have h8 := ha.hi
  have XS := Lib.hid ((Bx.new w 24 #[.int .i64 (a.n : Int), .string (bs a.set), .string (bs a.rel)]).alloc (.cells #[.int .i64 (e 0 : Nat), .int .i64 (e 1 : Nat), .int .i64 (e 2 : Nat), .int .i64 (e 3 : Nat)] 71))
  have XE := Lib.hid (show Bx ((w.alloc (.cells #[.int .i64 (a.n : Int), .string (bs a.set), .string (bs a.rel)] 24)).alloc (.cells #[.int .i64 (e 0 : Nat), .int .i64 (e 1 : Nat), .int .i64 (e 2 : Nat), .int .i64 (e 3 : Nat)] 71)) (w.heap.size + 1) 71 #[.int .i64 (e 0 : Nat), .int .i64 (e 1 : Nat), .int .i64 (e 2 : Nat), .int .i64 (e 3 : Nat)] from bx_two w _ _)
  have BV := Lib.hid (show Below w.heap.size w ((w.alloc (.cells #[.int .i64 (a.n : Int), .string (bs a.set), .string (bs a.rel)] 24)).alloc (.cells #[.int .i64 (e 0 : Nat), .int .i64 (e 1 : Nat), .int .i64 (e 2 : Nat), .int .i64 (e 3 : Nat)] 71)) from ((Below.refl _ _).alloc (Nat.le_refl _) _).alloc (by simp) _)
  obtain ⟨s0, s1, s2⟩ := box_load XS.out
  have hev : ∀ v : Fin 4, ((w.alloc (.cells #[.int .i64 (a.n : Int), .string (bs a.set), .string (bs a.rel)] 24)).alloc (.cells #[.int .i64 (e 0 : Nat), .int .i64 (e 1 : Nat), .int .i64 (e 2 : Nat), .int .i64 (e 3 : Nat)] 71)).cell? ⟨w.heap.size + 1, v.val, none⟩ = some (.int .i64 (e v : Nat)) := fun v => (XE.out.cell v.val).trans (env_at e v)
  have c0 := XE.out.cell 0
  have c1 := XE.out.cell 1
  have c2 := XE.out.cell 2
  have c3 := XE.out.cell 3
  simp only [List.getElem?_toArray, List.getElem?_cons_zero, List.getElem?_cons_succ] at c0 c1 c2 c3
  have Hev := Lib.hid hev
  have He := Lib.hid he
  clear hev he
  unfold stA envA4
  have hk := hk1
  have hb : (s[k].toNat : Int) = 51 := by rw [hop]; rfl
  have hd1 := at_qu hd
  have hdv : s.data.toList.drop (k + 1) = vb v :: (p.text ++ r) := drop_add_of (p := [Qn.b .c3]) (by simpa [Fm.text] using hd)
  have h1 := fun W => l2Var_of s (k + 1) v _ ((k : Int) + 1) W hs hdv (by omega)
  have hend := fun W => l2End_of s (k + 2) p _ ((k : Int) + 2) W hs hd1 (by omega)
  simp only [Fm.text, List.length_cons] at hle
  have hv3 : (v.val : Int) < 4 := by omega
  have H1 := Lib.hid h1
  have Hend := Lib.hid hend
  have Hd1 := Lib.hid hd1
  clear hd hd1 hdv h1 hend
  clear hop
  go_enter Tryd.func82, Tryd.ntmps82
  go_wp2_with fail
  go_loopg [15, 16] (a.n + 1) (fun c cn xi wr => ∃ x : Nat, x + c = a.n + 1 ∧ x ≤ a.n ∧ xi = .int .i64 (x : Nat) ∧ cn = .int .i64 (cnt x (fun y => p.holds a (upd e v y)) : Nat) ∧ Bx wr w.heap.size 24 #[.int .i64 (a.n : Int), .string (bs a.set), .string (bs a.rel)] ∧ (∃ e' : Env, (∀ u, u ≠ v → e' u = e u) ∧ Bx wr (w.heap.size + 1) 71 #[.int .i64 (e' 0 : Nat), .int .i64 (e' 1 : Nat), .int .i64 (e' 2 : Nat), .int .i64 (e' 3 : Nat)]) ∧ Below w.heap.size w wr)
  case atStart => exact ⟨0, by omega, by omega, rfl, rfl, XS.out, ⟨e, fun _ _ => rfl, XE.out⟩, BV.out⟩
  case round =>
    clear s0 s1 s2 c0 c1 c2 c3
    obtain ⟨x, hx, hxn, rfl, rfl, hN, ⟨e', hE', hVl⟩, hf⟩ := hrel
    have hcn := cnt_le x (fun y => p.holds a (upd e v y))
    have hcs := cnt_succ x (fun y => p.holds a (upd e v y))
    have hen := fun h => @says_enough .c3 a.n x (fun y => p.holds a (upd e v y)) hxn h
    have hne := fun h h2 => @says_never .c3 a.n (x + 1) (fun y => p.holds a (upd e v y)) h h2
    have Hen := Lib.hid hen
    have Hne := Lib.hid hne
    have Hcs := Lib.hid hcs
    have HN := Lib.hid hN
    have HVl := Lib.hid hVl
    have HF := Lib.hid hf
    obtain ⟨Z, hZ⟩ : ∃ Z, Z = cnt x (fun y => p.holds a (upd e v y)) := ⟨_, rfl⟩
    have HZ := Lib.hid hZ
    rw [← hZ] at hcn ⊢
    clear hen hne hcs hN hVl hf hZ
    by_cases hlt : x < a.n
    · by_cases hgo : Z < 3
      · obtain ⟨s0, s1, s2⟩ := box_load HN.out
        have fv := HVl.out.free v.val
        have XS1 := Lib.hid (show Bx (wr.setCell ⟨w.heap.size + 1, v.val, none⟩ (.int .i64 (x : Nat))) w.heap.size 24 #[.int .i64 (a.n : Int), .string (bs a.set), .string (bs a.rel)] from HN.out.far (by simp) _)
        have XE1 := Lib.hid (show Bx (wr.setCell ⟨w.heap.size + 1, v.val, none⟩ (.int .i64 (x : Nat))) (w.heap.size + 1) 71 (envA4 (upd e v x)) from by
          have := HVl.out.set v.val (.int .i64 (x : Nat))
          rw [show (#[.int .i64 (e' 0 : Nat), .int .i64 (e' 1 : Nat), .int .i64 (e' 2 : Nat), .int .i64 (e' 3 : Nat)] : Array Value).setIfInBounds v.val (.int .i64 (x : Nat)) = envA4 (upd e v x) from by rw [← upd_upd e e' v x hE']; exact envA_upd e' v x] at this
          exact this)
        have B1 := Lib.hid (show Below w.heap.size w (wr.setCell ⟨w.heap.size + 1, v.val, none⟩ (.int .i64 (x : Nat))) from HF.out.setCell (by simp) _)
        have hlt' : upd e v x v < a.n := by rw [upd_same]; exact hlt
        have hcall := fun W => Ih s (k + 2) r ((k : Int) + 2) (upd e v x) W Hd1.out hs (by omega) (fun u => by unfold upd; split; exact hlt; exact He.out u)
        obtain ⟨E, hE⟩ : ∃ E, E = upd e v x := ⟨_, rfl⟩
        rw [← hE] at XE1
        simp only [← hE] at hcall
        unfold stA envA4 at hcall
        have HE := Lib.hid hE
        have cv := (HVl.out.cell v.val).trans (env_at e' v)
        clear hE' hE hlt'
        cases hp : p.holds a E with
        | false =>
          simp only [hp] at hcall
          have Hcall := Lib.hid hcall
          have hz1 : cnt (x + 1) (fun y => p.holds a (upd e v y)) = Z := by rw [Hcs.out, ← HE.out, hp, ← HZ.out]; rfl
          have Hz1 := Lib.hid hz1
          clear hcall hp hz1
          by_cases hbr : Z + (a.n - x - 1) < 3
          · have hv := Hne.out (by omega) (by rw [Hz1.out]; show Z + (a.n - (x + 1)) < 3; omega)
            have Hv := Lib.hid hv
            clear hv
            go_upto_region 33 with (go_at_call 80; refine (H1.out _).mono ?_; rintro ed w' ⟨rfl, rfl⟩)
            obtain ⟨r0, r1, r2⟩ := box_load XS1.out
            have d0 := XE1.out.cell 0
            have d1 := XE1.out.cell 1
            have d2 := XE1.out.cell 2
            have d3 := XE1.out.cell 3
            simp only [envA4, List.getElem?_toArray, List.getElem?_cons_zero, List.getElem?_cons_succ] at d0 d1 d2 d3
            clear s0 s1 s2 fv cv
            go_wp2_with (first | (go_at_call 82; refine (Hcall.out _).mono ?_; rintro ed w3 ⟨rfl, hz⟩; have B3 := Lib.hid (B1.out.trans (hz.mono B1.out.size)); have XS3 := Lib.hid (XS1.out.call hz); have XE3 := Lib.hid (XE1.out.call hz); clear hz r0 r1 r2 d0 d1 d2 d3; obtain ⟨t0, t1, t2⟩ := box_load XS3.out) | (go_at_call 79; refine (Hend.out _).mono ?_; rintro ed w7 ⟨rfl, rfl⟩))
            go_ret2
            exact ⟨ret_pair (by show Value.bool _ = Value.bool _; (congr 1; rw [show (Fm.qu .c3 v p).holds a e = false from Hv.out]; first | done | (simp; done) | (simp; omega))) (by show Value.int .i64 _ = Value.int .i64 _; congr 1 <;> simp [Fm.text] <;> omega), B3.out⟩
          · go_upto_region 33 with (go_at_call 80; refine (H1.out _).mono ?_; rintro ed w' ⟨rfl, rfl⟩)
            obtain ⟨r0, r1, r2⟩ := box_load XS1.out
            have d0 := XE1.out.cell 0
            have d1 := XE1.out.cell 1
            have d2 := XE1.out.cell 2
            have d3 := XE1.out.cell 3
            simp only [envA4, List.getElem?_toArray, List.getElem?_cons_zero, List.getElem?_cons_succ] at d0 d1 d2 d3
            clear s0 s1 s2 fv cv
            go_wp2_with (go_at_call 82; refine (Hcall.out _).mono ?_; rintro ed w3 ⟨rfl, hz⟩; have B3 := Lib.hid (B1.out.trans (hz.mono B1.out.size)); have XS3 := Lib.hid (XS1.out.call hz); have XE3 := Lib.hid (XE1.out.call hz); clear hz r0 r1 r2 d0 d1 d2 d3; obtain ⟨t0, t1, t2⟩ := box_load XS3.out)
            go_roundg (a.n - x)
            case rel => exact ⟨x + 1, by omega, by omega, by go_num, by first | (rw [Hz1.out]; done) | (rw [Hz1.out]; rfl), XS3.out, ⟨E, fun u hu => by rw [HE.out, upd_other hu], XE3.out⟩, B3.out⟩
            case measure => omega
        | true =>
          simp only [hp] at hcall
          have Hcall := Lib.hid hcall
          have hz1 : cnt (x + 1) (fun y => p.holds a (upd e v y)) = Z + 1 := by rw [Hcs.out, ← HE.out, hp, ← HZ.out]; rfl
          have Hz1 := Lib.hid hz1
          clear hcall hp hz1
          by_cases hbr : Z + 1 + (a.n - x - 1) < 3
          · have hv := Hne.out (by omega) (by rw [Hz1.out]; show Z + 1 + (a.n - (x + 1)) < 3; omega)
            have Hv := Lib.hid hv
            clear hv
            go_upto_region 33 with (go_at_call 80; refine (H1.out _).mono ?_; rintro ed w' ⟨rfl, rfl⟩)
            obtain ⟨r0, r1, r2⟩ := box_load XS1.out
            have d0 := XE1.out.cell 0
            have d1 := XE1.out.cell 1
            have d2 := XE1.out.cell 2
            have d3 := XE1.out.cell 3
            simp only [envA4, List.getElem?_toArray, List.getElem?_cons_zero, List.getElem?_cons_succ] at d0 d1 d2 d3
            clear s0 s1 s2 fv cv
            go_wp2_with (first | (go_at_call 82; refine (Hcall.out _).mono ?_; rintro ed w3 ⟨rfl, hz⟩; have B3 := Lib.hid (B1.out.trans (hz.mono B1.out.size)); have XS3 := Lib.hid (XS1.out.call hz); have XE3 := Lib.hid (XE1.out.call hz); clear hz r0 r1 r2 d0 d1 d2 d3; obtain ⟨t0, t1, t2⟩ := box_load XS3.out) | (go_at_call 79; refine (Hend.out _).mono ?_; rintro ed w7 ⟨rfl, rfl⟩))
            go_ret2
            exact ⟨ret_pair (by show Value.bool _ = Value.bool _; (congr 1; rw [show (Fm.qu .c3 v p).holds a e = false from Hv.out]; first | done | (simp; done) | (simp; omega))) (by show Value.int .i64 _ = Value.int .i64 _; congr 1 <;> simp [Fm.text] <;> omega), B3.out⟩
          · go_upto_region 33 with (go_at_call 80; refine (H1.out _).mono ?_; rintro ed w' ⟨rfl, rfl⟩)
            obtain ⟨r0, r1, r2⟩ := box_load XS1.out
            have d0 := XE1.out.cell 0
            have d1 := XE1.out.cell 1
            have d2 := XE1.out.cell 2
            have d3 := XE1.out.cell 3
            simp only [envA4, List.getElem?_toArray, List.getElem?_cons_zero, List.getElem?_cons_succ] at d0 d1 d2 d3
            clear s0 s1 s2 fv cv
            go_wp2_with (go_at_call 82; refine (Hcall.out _).mono ?_; rintro ed w3 ⟨rfl, hz⟩; have B3 := Lib.hid (B1.out.trans (hz.mono B1.out.size)); have XS3 := Lib.hid (XS1.out.call hz); have XE3 := Lib.hid (XE1.out.call hz); clear hz r0 r1 r2 d0 d1 d2 d3; obtain ⟨t0, t1, t2⟩ := box_load XS3.out)
            go_roundg (a.n - x)
            case rel => exact ⟨x + 1, by omega, by omega, by go_num, by first | (rw [Hz1.out]; done) | (rw [Hz1.out]; rfl), XS3.out, ⟨E, fun u hu => by rw [HE.out, upd_other hu], XE3.out⟩, B3.out⟩
            case measure => omega
      · obtain ⟨s0, s1, s2⟩ := box_load HN.out
        have hv := Hen.out (by rw [← HZ.out]; show 3 ≤ Z; omega)
        have Hv := Lib.hid hv
        clear hv
        go_wp2_with (go_at_call 79; refine (Hend.out _).mono ?_; rintro ed w7 ⟨rfl, rfl⟩)
        go_ret2
        exact ⟨ret_pair (by show Value.bool _ = Value.bool _; (congr 1; rw [show (Fm.qu .c3 v p).holds a e = true from Hv.out]; first | done | (simp; done) | (simp; omega))) (by show Value.int .i64 _ = Value.int .i64 _; congr 1 <;> simp [Fm.text] <;> omega), HF.out⟩
    · have hxe : x = a.n := by omega
      obtain ⟨s0, s1, s2⟩ := box_load HN.out
      have hv : (Fm.qu .c3 v p).holds a e = decide (3 ≤ Z) := by
        show Qn.says .c3 a.n (cnt a.n (fun y => p.holds a (upd e v y))) = _
        rw [← hxe, ← HZ.out, says_need _ hcn]
        rfl
      have Hv := Lib.hid hv
      clear hv
      go_wp2_with (go_at_call 79; refine (Hend.out _).mono ?_; rintro ed w7 ⟨rfl, rfl⟩)
      go_ret2
      exact ⟨ret_pair (by show Value.bool _ = Value.bool _; (congr 1; rw [Hv.out, decide_eq_decide]; first | done | omega)) (by show Value.int .i64 _ = Value.int .i64 _; congr 1 <;> simp [Fm.text] <;> omega), HF.out⟩



end Go.Proofs.YtgiaebeoldigbaaDoor

namespace Go.Proofs.YtgiaebeoldigbaaDoor
open Go.RowKit
open Pl
set_option linter.unusedSimpArgs false
set_option linter.unusedVariables false

set_option maxHeartbeats 4000000 in
set_option maxRecDepth 100000 in
theorem sh_c4 (a : St) (ha : a.ok) (v : Fin 4) (p : Fm) (Ih : SHAt a p) : SHAt a (.qu .c4 v p) := by
  intro s k r m e w hd hs hm he
  subst hm
  obtain ⟨hk1, hop, hle⟩ := at_op hd
  have h8 := ha.hi
  have XS := Lib.hid ((Bx.new w 24 #[.int .i64 (a.n : Int), .string (bs a.set), .string (bs a.rel)]).alloc (.cells #[.int .i64 (e 0 : Nat), .int .i64 (e 1 : Nat), .int .i64 (e 2 : Nat), .int .i64 (e 3 : Nat)] 71))
  have XE := Lib.hid (show Bx ((w.alloc (.cells #[.int .i64 (a.n : Int), .string (bs a.set), .string (bs a.rel)] 24)).alloc (.cells #[.int .i64 (e 0 : Nat), .int .i64 (e 1 : Nat), .int .i64 (e 2 : Nat), .int .i64 (e 3 : Nat)] 71)) (w.heap.size + 1) 71 #[.int .i64 (e 0 : Nat), .int .i64 (e 1 : Nat), .int .i64 (e 2 : Nat), .int .i64 (e 3 : Nat)] from bx_two w _ _)
  have BV := Lib.hid (show Below w.heap.size w ((w.alloc (.cells #[.int .i64 (a.n : Int), .string (bs a.set), .string (bs a.rel)] 24)).alloc (.cells #[.int .i64 (e 0 : Nat), .int .i64 (e 1 : Nat), .int .i64 (e 2 : Nat), .int .i64 (e 3 : Nat)] 71)) from ((Below.refl _ _).alloc (Nat.le_refl _) _).alloc (by simp) _)
  obtain ⟨s0, s1, s2⟩ := box_load XS.out
  have hev : ∀ v : Fin 4, ((w.alloc (.cells #[.int .i64 (a.n : Int), .string (bs a.set), .string (bs a.rel)] 24)).alloc (.cells #[.int .i64 (e 0 : Nat), .int .i64 (e 1 : Nat), .int .i64 (e 2 : Nat), .int .i64 (e 3 : Nat)] 71)).cell? ⟨w.heap.size + 1, v.val, none⟩ = some (.int .i64 (e v : Nat)) := fun v => (XE.out.cell v.val).trans (env_at e v)
  have c0 := XE.out.cell 0
  have c1 := XE.out.cell 1
  have c2 := XE.out.cell 2
  have c3 := XE.out.cell 3
  simp only [List.getElem?_toArray, List.getElem?_cons_zero, List.getElem?_cons_succ] at c0 c1 c2 c3
  have Hev := Lib.hid hev
  have He := Lib.hid he
  clear hev he
  unfold stA envA4
  have hk := hk1
  have hb : (s[k].toNat : Int) = 52 := by rw [hop]; rfl
  have hd1 := at_qu hd
  have hdv : s.data.toList.drop (k + 1) = vb v :: (p.text ++ r) := drop_add_of (p := [Qn.b .c4]) (by simpa [Fm.text] using hd)
  have h1 := fun W => l2Var_of s (k + 1) v _ ((k : Int) + 1) W hs hdv (by omega)
  have hend := fun W => l2End_of s (k + 2) p _ ((k : Int) + 2) W hs hd1 (by omega)
  simp only [Fm.text, List.length_cons] at hle
  have hv3 : (v.val : Int) < 4 := by omega
  have H1 := Lib.hid h1
  have Hend := Lib.hid hend
  have Hd1 := Lib.hid hd1
  clear hd hd1 hdv h1 hend
  clear hop
  go_enter Tryd.func82, Tryd.ntmps82
  go_wp2_with fail
  go_loopg [15, 16] (a.n + 1) (fun c cn xi wr => ∃ x : Nat, x + c = a.n + 1 ∧ x ≤ a.n ∧ xi = .int .i64 (x : Nat) ∧ cn = .int .i64 (cnt x (fun y => p.holds a (upd e v y)) : Nat) ∧ Bx wr w.heap.size 24 #[.int .i64 (a.n : Int), .string (bs a.set), .string (bs a.rel)] ∧ (∃ e' : Env, (∀ u, u ≠ v → e' u = e u) ∧ Bx wr (w.heap.size + 1) 71 #[.int .i64 (e' 0 : Nat), .int .i64 (e' 1 : Nat), .int .i64 (e' 2 : Nat), .int .i64 (e' 3 : Nat)]) ∧ Below w.heap.size w wr)
  case atStart => exact ⟨0, by omega, by omega, rfl, rfl, XS.out, ⟨e, fun _ _ => rfl, XE.out⟩, BV.out⟩
  case round =>
    clear s0 s1 s2 c0 c1 c2 c3
    obtain ⟨x, hx, hxn, rfl, rfl, hN, ⟨e', hE', hVl⟩, hf⟩ := hrel
    have hcn := cnt_le x (fun y => p.holds a (upd e v y))
    have hcs := cnt_succ x (fun y => p.holds a (upd e v y))
    have hen := fun h => @says_enough .c4 a.n x (fun y => p.holds a (upd e v y)) hxn h
    have hne := fun h h2 => @says_never .c4 a.n (x + 1) (fun y => p.holds a (upd e v y)) h h2
    have Hen := Lib.hid hen
    have Hne := Lib.hid hne
    have Hcs := Lib.hid hcs
    have HN := Lib.hid hN
    have HVl := Lib.hid hVl
    have HF := Lib.hid hf
    obtain ⟨Z, hZ⟩ : ∃ Z, Z = cnt x (fun y => p.holds a (upd e v y)) := ⟨_, rfl⟩
    have HZ := Lib.hid hZ
    rw [← hZ] at hcn ⊢
    clear hen hne hcs hN hVl hf hZ
    by_cases hlt : x < a.n
    · by_cases hgo : Z < 4
      · obtain ⟨s0, s1, s2⟩ := box_load HN.out
        have fv := HVl.out.free v.val
        have XS1 := Lib.hid (show Bx (wr.setCell ⟨w.heap.size + 1, v.val, none⟩ (.int .i64 (x : Nat))) w.heap.size 24 #[.int .i64 (a.n : Int), .string (bs a.set), .string (bs a.rel)] from HN.out.far (by simp) _)
        have XE1 := Lib.hid (show Bx (wr.setCell ⟨w.heap.size + 1, v.val, none⟩ (.int .i64 (x : Nat))) (w.heap.size + 1) 71 (envA4 (upd e v x)) from by
          have := HVl.out.set v.val (.int .i64 (x : Nat))
          rw [show (#[.int .i64 (e' 0 : Nat), .int .i64 (e' 1 : Nat), .int .i64 (e' 2 : Nat), .int .i64 (e' 3 : Nat)] : Array Value).setIfInBounds v.val (.int .i64 (x : Nat)) = envA4 (upd e v x) from by rw [← upd_upd e e' v x hE']; exact envA_upd e' v x] at this
          exact this)
        have B1 := Lib.hid (show Below w.heap.size w (wr.setCell ⟨w.heap.size + 1, v.val, none⟩ (.int .i64 (x : Nat))) from HF.out.setCell (by simp) _)
        have hlt' : upd e v x v < a.n := by rw [upd_same]; exact hlt
        have hcall := fun W => Ih s (k + 2) r ((k : Int) + 2) (upd e v x) W Hd1.out hs (by omega) (fun u => by unfold upd; split; exact hlt; exact He.out u)
        obtain ⟨E, hE⟩ : ∃ E, E = upd e v x := ⟨_, rfl⟩
        rw [← hE] at XE1
        simp only [← hE] at hcall
        unfold stA envA4 at hcall
        have HE := Lib.hid hE
        have cv := (HVl.out.cell v.val).trans (env_at e' v)
        clear hE' hE hlt'
        cases hp : p.holds a E with
        | false =>
          simp only [hp] at hcall
          have Hcall := Lib.hid hcall
          have hz1 : cnt (x + 1) (fun y => p.holds a (upd e v y)) = Z := by rw [Hcs.out, ← HE.out, hp, ← HZ.out]; rfl
          have Hz1 := Lib.hid hz1
          clear hcall hp hz1
          by_cases hbr : Z + (a.n - x - 1) < 4
          · have hv := Hne.out (by omega) (by rw [Hz1.out]; show Z + (a.n - (x + 1)) < 4; omega)
            have Hv := Lib.hid hv
            clear hv
            go_upto_region 33 with (go_at_call 80; refine (H1.out _).mono ?_; rintro ed w' ⟨rfl, rfl⟩)
            obtain ⟨r0, r1, r2⟩ := box_load XS1.out
            have d0 := XE1.out.cell 0
            have d1 := XE1.out.cell 1
            have d2 := XE1.out.cell 2
            have d3 := XE1.out.cell 3
            simp only [envA4, List.getElem?_toArray, List.getElem?_cons_zero, List.getElem?_cons_succ] at d0 d1 d2 d3
            clear s0 s1 s2 fv cv
            go_wp2_with (first | (go_at_call 82; refine (Hcall.out _).mono ?_; rintro ed w3 ⟨rfl, hz⟩; have B3 := Lib.hid (B1.out.trans (hz.mono B1.out.size)); have XS3 := Lib.hid (XS1.out.call hz); have XE3 := Lib.hid (XE1.out.call hz); clear hz r0 r1 r2 d0 d1 d2 d3; obtain ⟨t0, t1, t2⟩ := box_load XS3.out) | (go_at_call 79; refine (Hend.out _).mono ?_; rintro ed w7 ⟨rfl, rfl⟩))
            go_ret2
            exact ⟨ret_pair (by show Value.bool _ = Value.bool _; (congr 1; rw [show (Fm.qu .c4 v p).holds a e = false from Hv.out]; first | done | (simp; done) | (simp; omega))) (by show Value.int .i64 _ = Value.int .i64 _; congr 1 <;> simp [Fm.text] <;> omega), B3.out⟩
          · go_upto_region 33 with (go_at_call 80; refine (H1.out _).mono ?_; rintro ed w' ⟨rfl, rfl⟩)
            obtain ⟨r0, r1, r2⟩ := box_load XS1.out
            have d0 := XE1.out.cell 0
            have d1 := XE1.out.cell 1
            have d2 := XE1.out.cell 2
            have d3 := XE1.out.cell 3
            simp only [envA4, List.getElem?_toArray, List.getElem?_cons_zero, List.getElem?_cons_succ] at d0 d1 d2 d3
            clear s0 s1 s2 fv cv
            go_wp2_with (go_at_call 82; refine (Hcall.out _).mono ?_; rintro ed w3 ⟨rfl, hz⟩; have B3 := Lib.hid (B1.out.trans (hz.mono B1.out.size)); have XS3 := Lib.hid (XS1.out.call hz); have XE3 := Lib.hid (XE1.out.call hz); clear hz r0 r1 r2 d0 d1 d2 d3; obtain ⟨t0, t1, t2⟩ := box_load XS3.out)
            go_roundg (a.n - x)
            case rel => exact ⟨x + 1, by omega, by omega, by go_num, by first | (rw [Hz1.out]; done) | (rw [Hz1.out]; rfl), XS3.out, ⟨E, fun u hu => by rw [HE.out, upd_other hu], XE3.out⟩, B3.out⟩
            case measure => omega
        | true =>
          simp only [hp] at hcall
          have Hcall := Lib.hid hcall
          have hz1 : cnt (x + 1) (fun y => p.holds a (upd e v y)) = Z + 1 := by rw [Hcs.out, ← HE.out, hp, ← HZ.out]; rfl
          have Hz1 := Lib.hid hz1
          clear hcall hp hz1
          by_cases hbr : Z + 1 + (a.n - x - 1) < 4
          · have hv := Hne.out (by omega) (by rw [Hz1.out]; show Z + 1 + (a.n - (x + 1)) < 4; omega)
            have Hv := Lib.hid hv
            clear hv
            go_upto_region 33 with (go_at_call 80; refine (H1.out _).mono ?_; rintro ed w' ⟨rfl, rfl⟩)
            obtain ⟨r0, r1, r2⟩ := box_load XS1.out
            have d0 := XE1.out.cell 0
            have d1 := XE1.out.cell 1
            have d2 := XE1.out.cell 2
            have d3 := XE1.out.cell 3
            simp only [envA4, List.getElem?_toArray, List.getElem?_cons_zero, List.getElem?_cons_succ] at d0 d1 d2 d3
            clear s0 s1 s2 fv cv
            go_wp2_with (first | (go_at_call 82; refine (Hcall.out _).mono ?_; rintro ed w3 ⟨rfl, hz⟩; have B3 := Lib.hid (B1.out.trans (hz.mono B1.out.size)); have XS3 := Lib.hid (XS1.out.call hz); have XE3 := Lib.hid (XE1.out.call hz); clear hz r0 r1 r2 d0 d1 d2 d3; obtain ⟨t0, t1, t2⟩ := box_load XS3.out) | (go_at_call 79; refine (Hend.out _).mono ?_; rintro ed w7 ⟨rfl, rfl⟩))
            go_ret2
            exact ⟨ret_pair (by show Value.bool _ = Value.bool _; (congr 1; rw [show (Fm.qu .c4 v p).holds a e = false from Hv.out]; first | done | (simp; done) | (simp; omega))) (by show Value.int .i64 _ = Value.int .i64 _; congr 1 <;> simp [Fm.text] <;> omega), B3.out⟩
          · go_upto_region 33 with (go_at_call 80; refine (H1.out _).mono ?_; rintro ed w' ⟨rfl, rfl⟩)
            obtain ⟨r0, r1, r2⟩ := box_load XS1.out
            have d0 := XE1.out.cell 0
            have d1 := XE1.out.cell 1
            have d2 := XE1.out.cell 2
            have d3 := XE1.out.cell 3
            simp only [envA4, List.getElem?_toArray, List.getElem?_cons_zero, List.getElem?_cons_succ] at d0 d1 d2 d3
            clear s0 s1 s2 fv cv
            go_wp2_with (go_at_call 82; refine (Hcall.out _).mono ?_; rintro ed w3 ⟨rfl, hz⟩; have B3 := Lib.hid (B1.out.trans (hz.mono B1.out.size)); have XS3 := Lib.hid (XS1.out.call hz); have XE3 := Lib.hid (XE1.out.call hz); clear hz r0 r1 r2 d0 d1 d2 d3; obtain ⟨t0, t1, t2⟩ := box_load XS3.out)
            go_roundg (a.n - x)
            case rel => exact ⟨x + 1, by omega, by omega, by go_num, by first | (rw [Hz1.out]; done) | (rw [Hz1.out]; rfl), XS3.out, ⟨E, fun u hu => by rw [HE.out, upd_other hu], XE3.out⟩, B3.out⟩
            case measure => omega
      · obtain ⟨s0, s1, s2⟩ := box_load HN.out
        have hv := Hen.out (by rw [← HZ.out]; show 4 ≤ Z; omega)
        have Hv := Lib.hid hv
        clear hv
        go_wp2_with (go_at_call 79; refine (Hend.out _).mono ?_; rintro ed w7 ⟨rfl, rfl⟩)
        go_ret2
        exact ⟨ret_pair (by show Value.bool _ = Value.bool _; (congr 1; rw [show (Fm.qu .c4 v p).holds a e = true from Hv.out]; first | done | (simp; done) | (simp; omega))) (by show Value.int .i64 _ = Value.int .i64 _; congr 1 <;> simp [Fm.text] <;> omega), HF.out⟩
    · have hxe : x = a.n := by omega
      obtain ⟨s0, s1, s2⟩ := box_load HN.out
      have hv : (Fm.qu .c4 v p).holds a e = decide (4 ≤ Z) := by
        show Qn.says .c4 a.n (cnt a.n (fun y => p.holds a (upd e v y))) = _
        rw [← hxe, ← HZ.out, says_need _ hcn]
        rfl
      have Hv := Lib.hid hv
      clear hv
      go_wp2_with (go_at_call 79; refine (Hend.out _).mono ?_; rintro ed w7 ⟨rfl, rfl⟩)
      go_ret2
      exact ⟨ret_pair (by show Value.bool _ = Value.bool _; (congr 1; rw [Hv.out, decide_eq_decide]; first | done | omega)) (by show Value.int .i64 _ = Value.int .i64 _; congr 1 <;> simp [Fm.text] <;> omega), HF.out⟩



end Go.Proofs.YtgiaebeoldigbaaDoor

namespace Go.Proofs.YtgiaebeoldigbaaDoor
open Go.RowKit
open Pl
set_option linter.unusedSimpArgs false
set_option linter.unusedVariables false

theorem l2Holds_all (a : St) (ha : a.ok) : ∀ f : Fm, SHAt a f := by
  intro f
  induction f with
  | tru => exact sh_tru a ha
  | fls => exact sh_fls a ha
  | pr v => exact sh_pr a ha v
  | eq v u => exact sh_eq a ha v u
  | rel v u => exact sh_rel a ha v u
  | neg p ih => exact sh_neg a ha p ih
  | con p q ih ih2 => exact sh_con a ha p q ih ih2
  | dis p q ih ih2 => exact sh_dis a ha p q ih ih2
  | qu k v p ih =>
    cases k with
    | A => exact sh_A a ha v p ih
    | S => exact sh_S a ha v p ih
    | c2 => exact sh_c2 a ha v p ih
    | c3 => exact sh_c3 a ha v p ih
    | c4 => exact sh_c4 a ha v p ih

end Go.Proofs.YtgiaebeoldigbaaDoor

namespace Go.Proofs.YtgiaebeoldigbaaDoor
open Go.RowKit
open Pl
set_option linter.unusedSimpArgs false
set_option linter.unusedVariables false

end Go.Proofs.YtgiaebeoldigbaaDoor

namespace Go.Proofs.YtgiaebeoldigbaaDoor
open Go.RowKit
open Pl
set_option linter.unusedSimpArgs false
set_option linter.unusedVariables false

theorem div_natS (m k : Nat) : (m : Int) / 2 ^ k = ((m / 2 ^ k : Nat) : Int) := by
  rw [Int.natCast_ediv, Int.natCast_pow]; rfl
theorem st_ofS {i : Int} {s r : ByteArray} (h : okB i s r = true) : ∃ a : St, a.ok ∧ i = a.n ∧ s = bs a.set ∧ r = bs a.rel := by
  rcases ok_cases i s r with h2 | h2
  · rw [h] at h2; cases h2
  · exact h2
theorem el_inS (n : Nat) (z : Int) : (decide (0 ≤ z) && decide (z ≤ (n : Int) - 1)) = elB n z := by
  unfold elB
  congr 1
  rw [decide_eq_decide]; omega
theorem elAll_of {i : Int} {zs : List Int} (h : ∀ j, j < zs.length → elB i (zs.getD j 0) = true) : elAll i zs = true := by
  unfold elAll
  rw [List.all_eq_true]
  intro z hz
  obtain ⟨j, hj, rfl⟩ := List.getElem_of_mem hz
  have := h j hj
  rwa [List.getD_eq_getElem?_getD, List.getElem?_eq_getElem hj] at this
theorem elAll_not {i : Int} {zs : List Int} {j : Nat} (hj : j < zs.length) (h : elB i (zs.getD j 0) = false) : elAll i zs = false := by
  refine Bool.eq_false_iff.2 fun hq => ?_
  unfold elAll at hq
  have := List.all_eq_true.1 hq (zs.getD j 0) (by rw [List.getD_eq_getElem?_getD, List.getElem?_eq_getElem hj]; exact List.getElem_mem hj)
  rw [h] at this; cases this
/-- the elements so far -/
def envK (zs : List Int) (k : Nat) : Env := fun v => if v.val < k then (zs.getD v.val 0).toNat else 0
theorem envK_succ (zs : List Int) (k : Nat) (hk : k < 4) (x : Nat) (hx : zs.getD k 0 = (x : Int)) : upd (envK zs k) ⟨k, hk⟩ x = envK zs (k + 1) := by
  funext u
  unfold upd envK
  by_cases hu : u = ⟨k, hk⟩
  · subst hu
    simp only [if_true, hx]
    rw [if_pos (by omega)]
    rfl
  · have : u.val ≠ k := fun e => hu (Fin.ext e)
    rw [if_neg hu]
    by_cases h2 : u.val < k
    · rw [if_pos h2, if_pos (by omega)]
    · rw [if_neg h2, if_neg (by omega)]
theorem envK_all (zs : List Int) : envK zs zs.length = envL (zs.map Int.toNat) := by
  funext u
  unfold envK envL
  by_cases h : u.val < zs.length
  · rw [if_pos h, List.getD_eq_getElem?_getD, List.getD_eq_getElem?_getD, List.getElem?_map, List.getElem?_eq_getElem h]; rfl
  · rw [if_neg h, List.getD_eq_getElem?_getD, List.getElem?_map, List.getElem?_eq_none (by omega)]; rfl

set_option maxHeartbeats 1000000 in
set_option maxRecDepth 100000 in
theorem l2True_calls (a : St) (ha : a.ok) (f : ByteArray) (g : Fm) (e : Env) (w : World) (hf : f.data.toList = g.text) (hs : f.size ≤ 4000) (he : ∀ v, e v < a.n) :
    Calls Tryd.prog 51 #[stA a, .string f, .agg (envA4 e)] w fun ed w' => ed = .returned (.bool (g.holds a e)) ∧ Below w.heap.size w w' := by
  have hc := fun W => l2Holds_all a ha g f 0 [] 0 e W (by simpa using hf) hs rfl he
  have XS := Lib.hid ((Bx.new w 24 #[.int .i64 (a.n : Int), .string (bs a.set), .string (bs a.rel)]).alloc (.cells #[.int .i64 (e 0 : Nat), .int .i64 (e 1 : Nat), .int .i64 (e 2 : Nat), .int .i64 (e 3 : Nat)] 71))
  have XE := Lib.hid (show Bx ((w.alloc (.cells #[.int .i64 (a.n : Int), .string (bs a.set), .string (bs a.rel)] 24)).alloc (.cells #[.int .i64 (e 0 : Nat), .int .i64 (e 1 : Nat), .int .i64 (e 2 : Nat), .int .i64 (e 3 : Nat)] 71)) (w.heap.size + 1) 71 #[.int .i64 (e 0 : Nat), .int .i64 (e 1 : Nat), .int .i64 (e 2 : Nat), .int .i64 (e 3 : Nat)] from bx_two w _ _)
  have BV := Lib.hid (show Below w.heap.size w ((w.alloc (.cells #[.int .i64 (a.n : Int), .string (bs a.set), .string (bs a.rel)] 24)).alloc (.cells #[.int .i64 (e 0 : Nat), .int .i64 (e 1 : Nat), .int .i64 (e 2 : Nat), .int .i64 (e 3 : Nat)] 71)) from ((Below.refl _ _).alloc (Nat.le_refl _) _).alloc (by simp) _)
  obtain ⟨s0, s1, s2⟩ := box_load XS.out
  have c0 := XE.out.cell 0
  have c1 := XE.out.cell 1
  have c2 := XE.out.cell 2
  have c3 := XE.out.cell 3
  simp only [List.getElem?_toArray, List.getElem?_cons_zero, List.getElem?_cons_succ] at c0 c1 c2 c3
  unfold stA envA4 at hc ⊢
  have Hc := Lib.hid hc
  clear hc hf he
  go_enter Tryd.func51, Tryd.ntmps51
  go_wp2_with (go_at_call 82; refine (Hc.out _).mono ?_; rintro ed w1 ⟨rfl, hz⟩; have B1 := Lib.hid (BV.out.trans (hz.mono BV.out.size)); clear hz s0 s1 s2 c0 c1 c2 c3)
  go_ret
  exact ⟨rfl, B1.out⟩

set_option maxHeartbeats 1000000 in
set_option maxRecDepth 100000 in
theorem l3Ready_calls (i : Int) (s r f : ByteArray) (k : Nat) (w : World) (hs : s.size ≤ maxLen) (hr : r.size ≤ maxLen) (hf : f.size ≤ maxLen) (hk : k ≤ 4) :
    Calls Tryd.prog 64 #[stV i s r, .string f, .int .i64 (k : Nat)] w fun e w' => e = .returned (.bool (rdyB i s r f k)) ∧ Below w.heap.size w w' := by
  have cS := fun W => StructureValid_spec i s r W hs hr
  have cF := fun W => FormulaValid_spec f W hf
  have B0 := Lib.hid (show Below w.heap.size w (w.alloc (.cells #[.int .i64 i, .string s, .string r] 24)) from (Below.refl _ _).alloc (Nat.le_refl _) _)
  obtain ⟨k0, k1, k2⟩ := box_load (Bx.new w 24 #[.int .i64 i, .string s, .string r])
  clear hs hr hf
  cases hok : okB i s r
  case false =>
    rw [rdy_noSt hok]
    simp only [hok] at cS
    have CS := Lib.hid cS
    clear cS cF hok
    go_enter Tryd.func64, Tryd.ntmps64
    go_wp2_with (go_at_call 47; refine (CS.out _).mono ?_; rintro e w1 ⟨rfl, hz⟩; have B1 := Lib.hid (B0.out.trans (hz.mono B0.out.size)); clear hz k0 k1 k2)
    go_ret
    exact ⟨rfl, B1.out⟩
  case true =>
  simp only [hok] at cS
  have CS := Lib.hid cS
  clear cS
  rcases fm_cases f with ⟨hb, hno⟩ | ⟨g, hb, hfm, hs4, hl4⟩
  · rw [rdy_noFm hb]
    simp only [hb] at cF
    have CF := Lib.hid cF
    clear cF hok hb hno
    go_enter Tryd.func64, Tryd.ntmps64
    go_wp2_with (first | (go_at_call 47; refine (CS.out _).mono ?_; rintro e w1 ⟨rfl, hz⟩; have B1 := Lib.hid (B0.out.trans (hz.mono B0.out.size)); clear hz k0 k1 k2) | (go_at_call 48; refine (CF.out _).mono ?_; rintro e w2 ⟨rfl, rfl⟩))
    go_ret
    exact ⟨rfl, B1.out⟩
  · obtain ⟨a, ha, rfl, rfl, rfl⟩ := st_ofS hok
    rw [rdy_of hb hfm ha k]
    simp only [hb] at cF
    have CF := Lib.hid cF
    have hcall := l2Free_calls g.size g f 0 [] 0
    have Hc := Lib.hid (fun W => hcall W (Nat.le_refl _) (by simpa using hfm) hs4 rfl)
    have Hdv := Lib.hid (div_natS g.freeBits k)
    have hki : (k : Int) ≤ 4 := by omega
    have hfr : g.freeBits < 16 := freeBits_lt g
    clear cF hok hb hfm hcall
    go_enter Tryd.func64, Tryd.ntmps64
    go_wp2_with (first | (go_at_call 47; refine (CS.out _).mono ?_; rintro e w1 ⟨rfl, hz⟩; have B1 := Lib.hid (B0.out.trans (hz.mono B0.out.size)); clear hz k0 k1 k2) | (go_at_call 48; refine (CF.out _).mono ?_; rintro e w2 ⟨rfl, rfl⟩) | (go_at_call 50; refine (Hc.out _).mono ?_; rintro e w2 ⟨rfl, rfl⟩))
    go_ret
    exact ⟨congrArg Ending.returned (show Value.bool ((g.freeBits : Int) / 2 ^ k == 0) = Value.bool _ from by congr 1; rw [Bool.eq_iff_iff, decide_eq_true_eq, beq_iff_eq]; have := Hdv.out; omega), B1.out⟩

set_option maxHeartbeats 4000000 in
set_option maxRecDepth 100000 in
theorem HoldsAt_spec (i : Int) (s r f : ByteArray) (A : Option Addr) (zs : List Int) (cap : Nat) (w : World) (hs : s.size ≤ maxLen) (hr : r.size ≤ maxLen) (hf : f.size ≤ maxLen) (hn : zs.length ≤ 1048576) (hcap : zs.length ≤ cap) (hA : LRow w A zs) :
    Calls Tryd.prog 12 #[stV i s r, .string f, .slice A zs.length cap] w fun e w' => e = .returned (.tuple #[.bool (holdV i s r f zs), .bool (holdB i s r f zs)]) ∧ Below w.heap.size w w' := by
  have cS := fun W => StructureValid_spec i s r W hs hr
  have cF := fun W => FormulaValid_spec f W hf
  have B0 := Lib.hid (show Below w.heap.size w ((w.alloc (.cells #[.int .i64 i, .string s, .string r] 24)).alloc (.cells #[.int .i64 0, .int .i64 0, .int .i64 0, .int .i64 0] 71)) from ((Below.refl _ _).alloc (Nat.le_refl _) _).alloc (by simp) _)
  have XS := Lib.hid ((Bx.new w 24 #[.int .i64 i, .string s, .string r]).alloc (.cells #[.int .i64 0, .int .i64 0, .int .i64 0, .int .i64 0] 71))
  have XE := Lib.hid (show Bx ((w.alloc (.cells #[.int .i64 i, .string s, .string r] 24)).alloc (.cells #[.int .i64 0, .int .i64 0, .int .i64 0, .int .i64 0] 71)) (w.heap.size + 1) 71 #[.int .i64 0, .int .i64 0, .int .i64 0, .int .i64 0] from bx_two w _ _)
  have HA0 := Lib.hid hA
  obtain ⟨k0, k1, k2⟩ := box_load XS.out
  clear hA hs hr hf
  cases hok : okB i s r
  case false =>
    have hh := rdy_noSt hok f zs.length
    rw [hold_no (hold_noRdy hh), hold_noRdy hh]
    simp only [hok] at cS
    have CS := Lib.hid cS
    clear cS cF hok hh
    go_enter Tryd.func12, Tryd.ntmps12
    go_wp2_with (go_at_call 47; refine (CS.out _).mono ?_; rintro e w1 ⟨rfl, hz⟩; have B1 := Lib.hid (B0.out.trans (hz.mono B0.out.size)); have XS1 := Lib.hid (XS.out.call hz); have XE1 := Lib.hid (XE.out.call hz); clear hz k0 k1 k2)
    go_ret2
    exact ⟨rfl, B1.out⟩
  case true =>
  simp only [hok] at cS
  have CS := Lib.hid cS
  clear cS
  rcases fm_cases f with ⟨hb, hno⟩ | ⟨g, hb, hfm, hs4, hl4⟩
  · rw [hold_no (hold_noRdy (rdy_noFm hb i s r zs.length)), hold_noRdy (rdy_noFm hb i s r zs.length)]
    simp only [hb] at cF
    have CF := Lib.hid cF
    clear cF hok hb hno
    go_enter Tryd.func12, Tryd.ntmps12
    go_wp2_with (first | (go_at_call 47; refine (CS.out _).mono ?_; rintro e w1 ⟨rfl, hz⟩; have B1 := Lib.hid (B0.out.trans (hz.mono B0.out.size)); have XS1 := Lib.hid (XS.out.call hz); have XE1 := Lib.hid (XE.out.call hz); clear hz k0 k1 k2) | (go_at_call 48; refine (CF.out _).mono ?_; rintro e w2 ⟨rfl, rfl⟩))
    go_ret2
    exact ⟨rfl, B1.out⟩
  simp only [hb] at cF
  have CF := Lib.hid cF
  clear cF
  by_cases h4 : zs.length ≤ 4
  case neg =>
    rw [hold_no (hold_noLen h4), hold_noLen h4]
    have h4i : ¬ (zs.length : Int) ≤ 4 := by omega
    clear hok hb hfm
    go_enter Tryd.func12, Tryd.ntmps12
    go_wp2_with (first | (go_at_call 47; refine (CS.out _).mono ?_; rintro e w1 ⟨rfl, hz⟩; have B1 := Lib.hid (B0.out.trans (hz.mono B0.out.size)); have XS1 := Lib.hid (XS.out.call hz); have XE1 := Lib.hid (XE.out.call hz); clear hz k0 k1 k2) | (go_at_call 48; refine (CF.out _).mono ?_; rintro e w2 ⟨rfl, rfl⟩))
    go_ret2
    exact ⟨rfl, B1.out⟩
  case pos =>
  have h4i : (zs.length : Int) ≤ 4 := by omega
  obtain ⟨a, ha, rfl, rfl, rfl⟩ := st_ofS hok
  have hry := rdy_of hb hfm ha zs.length
  have hcall := l2Free_calls g.size g f 0 [] 0
  have Hc := Lib.hid (fun W => hcall W (Nat.le_refl _) (by simpa using hfm) hs4 rfl)
  have hdv := div_natS g.freeBits zs.length
  have hfr : g.freeBits < 16 := freeBits_lt g
  have htru := fun e W he => l2True_calls a ha f g e W hfm hs4 he
  have hel0 := fun h => @hold_noEl a.n (bs a.set) (bs a.rel) f zs h
  have hel1 := fun h1 h2 => @hold_yes a.n (bs a.set) (bs a.rel) f zs h1 h4 h2
  have hno := fun h => @hold_no a.n (bs a.set) (bs a.rel) f zs h
  have hnr := fun h => @hold_noRdy a.n (bs a.set) (bs a.rel) f zs h
  have hyv := fun h => @hold_yesV a.n (bs a.set) (bs a.rel) f zs h
  have htv := tru_of hfm a (zs.map Int.toNat)
  have hlt := fun h => (@elAll_nats a.n zs h).2
  have h8 := ha.hi
  have h1n := ha.lo
  obtain ⟨VB, hVB⟩ : ∃ VB, VB = holdB a.n (bs a.set) (bs a.rel) f zs := ⟨_, rfl⟩
  obtain ⟨VA, hVA⟩ : ∃ VA, VA = holdV a.n (bs a.set) (bs a.rel) f zs := ⟨_, rfl⟩
  rw [htv, ← hVA, ← hVB] at hyv
  rw [← hVB] at hel0 hel1 hnr
  rw [← hVA, ← hVB] at hno
  rw [← hVA, ← hVB]
  have Hry := Lib.hid hry
  have Htru := Lib.hid htru
  have Hel0 := Lib.hid hel0
  have Hel1 := Lib.hid hel1
  have Hno := Lib.hid hno
  have Hnr := Lib.hid hnr
  have Hyv := Lib.hid hyv
  have Hlt := Lib.hid hlt
  have Hdv := Lib.hid hdv
  clear hok hb hfm hcall hry htru hel0 hel1 hno hnr hyv htv hlt hVB hVA hdv
  go_enter Tryd.func12, Tryd.ntmps12
  go_wp2_with (first | (go_at_call 47; refine (CS.out _).mono ?_; rintro e w1 ⟨rfl, hz⟩; have B1 := Lib.hid (B0.out.trans (hz.mono B0.out.size)); have XS1 := Lib.hid (XS.out.call hz); have XE1 := Lib.hid (XE.out.call hz); clear hz k0 k1 k2) | (go_at_call 48; refine (CF.out _).mono ?_; rintro e w2 ⟨rfl, rfl⟩))
  go_loopg [9] zs.length (fun c i1 wr => ∃ k : Nat, k + c = zs.length ∧ i1 = .int .i64 (k : Nat) ∧ (∀ j, j < k → elB a.n (zs.getD j 0) = true) ∧ Bx wr w.heap.size 24 #[.int .i64 (a.n : Int), .string (bs a.set), .string (bs a.rel)] ∧ Bx wr (w.heap.size + 1) 71 #[.int .i64 ((envK zs k) 0 : Nat), .int .i64 ((envK zs k) 1 : Nat), .int .i64 ((envK zs k) 2 : Nat), .int .i64 ((envK zs k) 3 : Nat)] ∧ Below w.heap.size w wr)
  case atStart => exact ⟨0, by omega, rfl, fun j hj => absurd hj (Nat.not_lt_zero _), XS1.out, XE1.out, B1.out⟩
  case round =>
    obtain ⟨k, hk, rfl, hall, hxs, hxe, hbr⟩ := hrel
    have Hall := Lib.hid hall
    have XS2 := Lib.hid hxs
    have XE2 := Lib.hid hxe
    have B2 := Lib.hid hbr
    clear hall hxs hxe hbr
    by_cases hlt : k < zs.length
    · have hlA := HA0.out
      obtain ⟨ga, rfl, hc0⟩ := hlA (by omega)
      have hgl : ga < w.heap.size := World.block_lt_of_cell? w _ (hc0 k hlt)
      have d1 := (B2.out.cell (p := ⟨ga, k, none⟩) hgl).trans (hc0 k hlt)
      have i1 : (0 : Int) ≤ (k : Int) := by omega
      have i2 : (k : Int) < (zs.length : Int) := by omega
      have i3 : (k : Int) < 4 := by omega
      obtain ⟨z, hz⟩ : ∃ z, z = zs.getD k 0 := ⟨_, rfl⟩
      rw [← hz] at d1
      have cin : ∀ W, Calls Tryd.prog 49 #[.int .i64 z, .int .i64 0, .int .i64 (IntKind.i64.wrap ((a.n : Int) - 1))] W fun e w' => e = .returned (.bool (elB a.n z)) ∧ W = w' := fun W => by
        have h := l1In_calls z 0 (IntKind.i64.wrap ((a.n : Int) - 1)) W
        rw [show decide (z ≤ IntKind.i64.wrap ((a.n : Int) - 1)) = decide (z ≤ (a.n : Int) - 1) by rw [IntWalk.i64_in _ (by omega)], el_inS] at h
        exact h
      have Hz := Lib.hid hz
      obtain ⟨m0, m1, m2⟩ := box_load XS2.out
      clear hc0 hlA hz
      rcases el_cases a.n z with he | ⟨x, rfl, hxn, he⟩
      · simp only [he] at cin
        have CIN := Lib.hid cin
        have Hv := Lib.hid (Hel0.out (elAll_not hlt (by rw [← Hz.out]; exact he)))
        clear cin he
        go_upto_region 7 with (fail)
        refine region_sched [(0, true), (1, true), (2, true), (3, true), (4, true), (5, true), (6, true), (7, false), (8, true)] (fun w' : World => w'.cell? ⟨ga, k, none⟩ = some (.int .i64 z) ∧ w'.cell? ⟨w.heap.size, 0, none⟩ = some (.int .i64 (a.n : Int))) (by kernel_rfl) (by kernel_rfl) (by kernel_rfl) (by kernel_rfl) (fun _ _ _ _ h => h) ?_ (fun Q1 hQ1 => ?_)
        · exact ⟨d1, m0⟩
        try simp only [List.append]
        refine sched_take' (v := ?_) (a' := ?_) rfl (by kernel_rfl) ?_ rfl ?_ ?_
        rotate_left 2
        · intro w hSw
          (try dsimp only at hSw)
          go_simp
          try with_reducible rfl
        · (try simp only [Act.put, List.setIfInBounds_toArray, List.set_cons_zero, List.set_cons_succ])
          try rfl
        refine sched_take' (v := ?_) (a' := ?_) rfl (by kernel_rfl) ?_ rfl ?_ ?_
        rotate_left 2
        · intro w hSw
          (try dsimp only at hSw)
          go_simp
          try with_reducible rfl
        · (try simp only [Act.put, List.setIfInBounds_toArray, List.set_cons_zero, List.set_cons_succ])
          try rfl
        refine sched_take' (v := ?_) (a' := ?_) rfl (by kernel_rfl) ?_ rfl ?_ ?_
        rotate_left 2
        · intro w hSw
          (try dsimp only at hSw)
          go_simp
          try with_reducible rfl
        · (try simp only [Act.put, List.setIfInBounds_toArray, List.set_cons_zero, List.set_cons_succ])
          try rfl
        refine sched_take' (v := .int .i64 z) (a' := ?_) rfl (by kernel_rfl) ?_ rfl ?_ ?_
        rotate_left 1
        · intro w hSw
          (try dsimp only at hSw)
          go_simp
          first | done | (obtain ⟨u0, u1⟩ := hSw; simp [*])
        · (try simp only [Act.put, List.setIfInBounds_toArray, List.set_cons_zero, List.set_cons_succ])
          try rfl
        refine sched_take' (v := ?_) (a' := ?_) rfl (by kernel_rfl) ?_ rfl ?_ ?_
        rotate_left 2
        · intro w hSw
          (try dsimp only at hSw)
          go_simp
          try with_reducible rfl
        · (try simp only [Act.put, List.setIfInBounds_toArray, List.set_cons_zero, List.set_cons_succ])
          try rfl
        refine sched_take' (v := .int .i64 (a.n : Int)) (a' := ?_) rfl (by kernel_rfl) ?_ rfl ?_ ?_
        rotate_left 1
        · intro w hSw
          (try dsimp only at hSw)
          go_simp
          first | done | (obtain ⟨u0, u1⟩ := hSw; simp [*])
        · (try simp only [Act.put, List.setIfInBounds_toArray, List.set_cons_zero, List.set_cons_succ])
          try rfl
        refine sched_take' (v := ?_) (a' := ?_) rfl (by kernel_rfl) ?_ rfl ?_ ?_
        rotate_left 2
        · intro w hSw
          (try dsimp only at hSw)
          go_simp
          try with_reducible rfl
        · (try simp only [Act.put, List.setIfInBounds_toArray, List.set_cons_zero, List.set_cons_succ])
          try rfl
        refine sched_call rfl (by kernel_rfl) (fun K1 hK1 => ?_)
        go_simp
        refine (CIN.out _).mono ?_
        rintro ed w3 ⟨rfl, rfl⟩
        go_wp2_with fail
        refine hK1.out _ _ ?_ (sched_lay (a' := ?_) ?_ ?_)
        · exact ⟨d1, m0⟩
        rotate_left 1
        · (try simp only [Act.put, List.getElem_toArray, List.getElem_cons_succ, List.getElem_cons_zero, List.setIfInBounds_toArray, List.set_cons_zero, List.set_cons_succ])
          try rfl
        clear hK1 K1
        refine sched_take' (v := ?_) (a' := ?_) rfl (by kernel_rfl) ?_ rfl ?_ ?_
        rotate_left 2
        · intro w hSw
          (try dsimp only at hSw)
          go_simp
          try with_reducible rfl
        · (try simp only [Act.put, List.setIfInBounds_toArray, List.set_cons_zero, List.set_cons_succ])
          try rfl
        refine sched_done (hQ1.out _ _ ?_)
        go_wp2_with fail
        go_ret2
        exact ⟨ret_pair (by show Value.bool false = Value.bool _; rw [Hno.out Hv.out]) (by show Value.bool false = Value.bool _; rw [Hv.out]), B2.out.drew⟩
      · simp only [he] at cin
        have CIN := Lib.hid cin
        have He := Lib.hid he
        have hk4 : k < 4 := by omega
        have XS3 := Lib.hid (show Bx (wr.drew.setCell ⟨w.heap.size + 1, k, none⟩ (.int .i64 (x : Nat))) w.heap.size 24 #[.int .i64 (a.n : Int), .string (bs a.set), .string (bs a.rel)] from XS2.out.drew.far (by simp) _)
        have XE3 := Lib.hid (show Bx (wr.drew.setCell ⟨w.heap.size + 1, k, none⟩ (.int .i64 (x : Nat))) (w.heap.size + 1) 71 (envA4 (envK zs (k + 1))) from by
          have := XE2.out.drew.set k (.int .i64 (x : Nat))
          rw [show (#[.int .i64 ((envK zs k) 0 : Nat), .int .i64 ((envK zs k) 1 : Nat), .int .i64 ((envK zs k) 2 : Nat), .int .i64 ((envK zs k) 3 : Nat)] : Array Value).setIfInBounds k (.int .i64 (x : Nat)) = envA4 (envK zs (k + 1)) from (envA_upd (envK zs k) ⟨k, hk4⟩ x).trans (by rw [envK_succ zs k hk4 x Hz.out.symm])] at this
          exact this)
        have fv := XE2.out.free k
        have cv := (XE2.out.cell k).trans (env_at (envK zs k) ⟨k, hk4⟩)
        have B3 := Lib.hid (show Below w.heap.size w (wr.drew.setCell ⟨w.heap.size + 1, k, none⟩ (.int .i64 (x : Nat))) from B2.out.drew.setCell (by simp) _)
        clear cin he
        go_upto_region 7 with (fail)
        refine region_sched [(0, true), (1, true), (2, true), (3, true), (4, true), (5, true), (6, true), (7, false), (8, true)] (fun w' : World => w'.cell? ⟨ga, k, none⟩ = some (.int .i64 (x : Nat)) ∧ w'.cell? ⟨w.heap.size, 0, none⟩ = some (.int .i64 (a.n : Int))) (by kernel_rfl) (by kernel_rfl) (by kernel_rfl) (by kernel_rfl) (fun _ _ _ _ h => h) ?_ (fun Q1 hQ1 => ?_)
        · exact ⟨d1, m0⟩
        try simp only [List.append]
        refine sched_take' (v := ?_) (a' := ?_) rfl (by kernel_rfl) ?_ rfl ?_ ?_
        rotate_left 2
        · intro w hSw
          (try dsimp only at hSw)
          go_simp
          try with_reducible rfl
        · (try simp only [Act.put, List.setIfInBounds_toArray, List.set_cons_zero, List.set_cons_succ])
          try rfl
        refine sched_take' (v := ?_) (a' := ?_) rfl (by kernel_rfl) ?_ rfl ?_ ?_
        rotate_left 2
        · intro w hSw
          (try dsimp only at hSw)
          go_simp
          try with_reducible rfl
        · (try simp only [Act.put, List.setIfInBounds_toArray, List.set_cons_zero, List.set_cons_succ])
          try rfl
        refine sched_take' (v := ?_) (a' := ?_) rfl (by kernel_rfl) ?_ rfl ?_ ?_
        rotate_left 2
        · intro w hSw
          (try dsimp only at hSw)
          go_simp
          try with_reducible rfl
        · (try simp only [Act.put, List.setIfInBounds_toArray, List.set_cons_zero, List.set_cons_succ])
          try rfl
        refine sched_take' (v := .int .i64 (x : Nat)) (a' := ?_) rfl (by kernel_rfl) ?_ rfl ?_ ?_
        rotate_left 1
        · intro w hSw
          (try dsimp only at hSw)
          go_simp
          first | done | (obtain ⟨u0, u1⟩ := hSw; simp [*])
        · (try simp only [Act.put, List.setIfInBounds_toArray, List.set_cons_zero, List.set_cons_succ])
          try rfl
        refine sched_take' (v := ?_) (a' := ?_) rfl (by kernel_rfl) ?_ rfl ?_ ?_
        rotate_left 2
        · intro w hSw
          (try dsimp only at hSw)
          go_simp
          try with_reducible rfl
        · (try simp only [Act.put, List.setIfInBounds_toArray, List.set_cons_zero, List.set_cons_succ])
          try rfl
        refine sched_take' (v := .int .i64 (a.n : Int)) (a' := ?_) rfl (by kernel_rfl) ?_ rfl ?_ ?_
        rotate_left 1
        · intro w hSw
          (try dsimp only at hSw)
          go_simp
          first | done | (obtain ⟨u0, u1⟩ := hSw; simp [*])
        · (try simp only [Act.put, List.setIfInBounds_toArray, List.set_cons_zero, List.set_cons_succ])
          try rfl
        refine sched_take' (v := ?_) (a' := ?_) rfl (by kernel_rfl) ?_ rfl ?_ ?_
        rotate_left 2
        · intro w hSw
          (try dsimp only at hSw)
          go_simp
          try with_reducible rfl
        · (try simp only [Act.put, List.setIfInBounds_toArray, List.set_cons_zero, List.set_cons_succ])
          try rfl
        refine sched_call rfl (by kernel_rfl) (fun K1 hK1 => ?_)
        go_simp
        refine (CIN.out _).mono ?_
        rintro ed w3 ⟨rfl, rfl⟩
        go_wp2_with fail
        refine hK1.out _ _ ?_ (sched_lay (a' := ?_) ?_ ?_)
        · exact ⟨d1, m0⟩
        rotate_left 1
        · (try simp only [Act.put, List.getElem_toArray, List.getElem_cons_succ, List.getElem_cons_zero, List.setIfInBounds_toArray, List.set_cons_zero, List.set_cons_succ])
          try rfl
        clear hK1 K1
        refine sched_take' (v := ?_) (a' := ?_) rfl (by kernel_rfl) ?_ rfl ?_ ?_
        rotate_left 2
        · intro w hSw
          (try dsimp only at hSw)
          go_simp
          try with_reducible rfl
        · (try simp only [Act.put, List.setIfInBounds_toArray, List.set_cons_zero, List.set_cons_succ])
          try rfl
        refine sched_done (hQ1.out _ _ ?_)
        go_wp2_with fail
        go_roundg (zs.length - k - 1)
        case rel => exact ⟨k + 1, by omega, by go_num, fun j hj => by
          by_cases hjk : j = k
          · subst hjk; rw [← Hz.out]; exact He.out
          · exact Hall.out j (by omega), XS3.out, XE3.out, B3.out⟩
        case measure => omega
    · have hke : k = zs.length := by omega
      subst hke
      have hall := elAll_of Hall.out
      have Hall2 := Lib.hid hall
      clear hall
      by_cases hfz : g.freeBits / 2 ^ zs.length = 0
      · have hry := Hry.out
        rw [decide_eq_true hfz] at hry
        have hv := Hel1.out hry Hall2.out
        have Hv := Lib.hid hv
        have Hw := Lib.hid (Hyv.out hv)
        have hz0 : (g.freeBits : Int) / 2 ^ zs.length = 0 := by rw [Hdv.out]; omega
        have htr := fun W => Htru.out (envK zs zs.length) W (by rw [envK_all]; exact env_lt ha (Hlt.out Hall2.out))
        unfold stA envA4 at htr
        have HTR := Lib.hid htr
        obtain ⟨m0, m1, m2⟩ := box_load XS2.out
        have c0 := XE2.out.cell 0
        have c1 := XE2.out.cell 1
        have c2 := XE2.out.cell 2
        have c3 := XE2.out.cell 3
        simp only [List.getElem?_toArray, List.getElem?_cons_zero, List.getElem?_cons_succ] at c0 c1 c2 c3
        clear hry hfz hv htr
        go_wp2_with (first | (go_at_call 50; refine (Hc.out _).mono ?_; rintro e w2 ⟨rfl, rfl⟩) | (go_at_call 51; refine (HTR.out _).mono ?_; rintro e w3 ⟨rfl, hz⟩; have B3 := Lib.hid (B2.out.trans (hz.mono B2.out.size)); clear hz m0 m1 m2 c0 c1 c2 c3))
        go_ret2
        exact ⟨ret_pair (by show Value.bool _ = Value.bool _; rw [Hw.out]; first | done | rfl | rw [envK_all]) (by show Value.bool true = Value.bool _; rw [Hv.out]), B3.out⟩
      · have hry := Hry.out
        rw [decide_eq_false hfz] at hry
        have Hv := Lib.hid (Hnr.out hry)
        have hne : ((g.freeBits : Int) / 2 ^ zs.length != 0) = true := by rw [Hdv.out, bne_iff_ne]; omega
        clear hry hfz
        go_wp2_with (go_at_call 50; refine (Hc.out _).mono ?_; rintro e w2 ⟨rfl, rfl⟩)
        go_ret2
        exact ⟨ret_pair (by show Value.bool false = Value.bool _; rw [Hno.out Hv.out]) (by show Value.bool false = Value.bool _; rw [Hv.out]), B2.out⟩

end Go.Proofs.YtgiaebeoldigbaaDoor

namespace Go.Proofs.YtgiaebeoldigbaaDoor
open Pl
set_option linter.unusedSimpArgs false
set_option linter.unusedVariables false

theorem fm_bs {g : Fm} (h : g.text.length ≤ 4000) : fmB (bs g.text).data.toList = true := fmB_true.2 ⟨by simpa [bs] using h, g, by simp [bs]⟩
theorem bs_list (l : List UInt8) : (bs l).data.toList = l := by simp [bs]
theorem elAll_of_nats {n : Nat} {ns : List Nat} (h : ∀ x ∈ ns, x < n) : elAll n (natsI ns) = true := by
  unfold elAll
  rw [List.all_eq_true]
  intro z hz
  obtain ⟨x, hx, rfl⟩ := List.mem_map.1 hz
  have := h x hx
  unfold elB
  simp
  omega
theorem natsI_back (l : List Nat) : (natsI l).map Int.toNat = l := by
  unfold natsI
  rw [List.map_map]
  conv => rhs; rw [← List.map_id l]
  exact List.map_congr_left fun x _ => by simp

/-- HoldsAt of a formula, with elements for all that is free -/
theorem hold_fm {a : St} (ha : a.ok) {g : Fm} (hg : g.text.length ≤ 4000) {ns : List Nat} (hn : ∀ x ∈ ns, x < a.n) (hl : ns.length ≤ 4) (hf : g.freeBits / 2 ^ ns.length = 0) :
    holdB a.n (bs a.set) (bs a.rel) (bs g.text) (natsI ns) = true ∧ holdV a.n (bs a.set) (bs a.rel) (bs g.text) (natsI ns) = g.holds a (envL ns) := by
  have h1 : rdyB a.n (bs a.set) (bs a.rel) (bs g.text) (natsI ns).length = true := by
    rw [rdy_of (fm_bs hg) (bs_list _) ha, natsI_len, decide_eq_true hf]
  have h2 := hold_yes h1 (by rw [natsI_len]; exact hl) (elAll_of_nats hn)
  refine ⟨h2, ?_⟩
  rw [hold_yesV h2, natsI_back, tru_of (bs_list _)]
theorem hold_four {a : St} (ha : a.ok) {g : Fm} (hg : g.text.length ≤ 4000) {ns : List Nat} (hn : ∀ x ∈ ns, x < a.n) (hl : ns.length = 4) :
    holdV a.n (bs a.set) (bs a.rel) (bs g.text) (natsI ns) = g.holds a (envL ns) :=
  (hold_fm ha hg hn (by omega) (by have := freeBits_lt g; rw [hl]; omega)).2
/-- HoldsAt of anything: no, or a formula, a structure and elements -/
theorem hold_cases (i : Int) (s r f : ByteArray) (zs : List Int) : (holdB i s r f zs = false ∧ holdV i s r f zs = false) ∨
    ∃ (a : St) (g : Fm) (ns : List Nat), a.ok ∧ i = a.n ∧ s = bs a.set ∧ r = bs a.rel ∧ f = bs g.text ∧ g.text.length ≤ 4000 ∧ zs = natsI ns ∧ (∀ x ∈ ns, x < a.n) ∧ ns.length ≤ 4 ∧ g.freeBits / 2 ^ ns.length = 0 ∧ holdB i s r f zs = true ∧ holdV i s r f zs = g.holds a (envL ns) := by
  cases h : holdB i s r f zs with
  | false => exact .inl ⟨rfl, hold_no h⟩
  | true =>
    right
    have h0 := h
    unfold holdB rdyB at h
    simp only [Bool.and_eq_true, decide_eq_true_eq] at h
    obtain ⟨⟨h1, h2, h3⟩, h4, h5⟩ := h
    rcases ok_cases i s r with hq | ⟨a, ha, rfl, rfl, rfl⟩
    · rw [h1] at hq; cases hq
    rcases fm_cases f with ⟨hq, _⟩ | ⟨g, hb, hf, hs4, hl4⟩
    · rw [h2] at hq; cases hq
    obtain ⟨e1, e2⟩ := elAll_nats h5
    rw [fmOf_eq hf] at h3
    refine ⟨a, g, zs.map Int.toNat, ha, rfl, rfl, rfl, eq_bs hf, hl4, e1, e2, by simpa using h4, by simpa using h3, rfl, ?_⟩
    rw [hold_yesV h0, tru_of hf]

theorem text_app (l m : List UInt8) : bs l ++ bs m = bs (l ++ m) := by rw [append_bs, bs_list, bs_list]
theorem mk_bs (x : Array UInt8) : ByteArray.mk x = bs x.toList := by unfold bs; simp

end Go.Proofs.YtgiaebeoldigbaaDoor

namespace Go.Proofs.YtgiaebeoldigbaaDoor
open Go.RowKit
open Pl
set_option linter.unusedSimpArgs false
set_option linter.unusedVariables false

set_option maxRecDepth 100000 in
theorem gsHolds_calls (i : Int) (s r f : ByteArray) (A : Option Addr) (zs : List Int) (cap : Nat) (w : World) (hs : s.size ≤ maxLen) (hr : r.size ≤ maxLen) (hn : zs.length ≤ 1048576) (hcap : zs.length ≤ cap) (hA : LRow w A zs) :
    Calls Tryd.prog 13 #[stV i s r, .string f, .slice A zs.length cap] w fun e w' => e = .returned (.bool (holdV i s r f zs)) ∧ Below w.heap.size w w' := by
  have B0 := Lib.hid ((Below.refl w.heap.size w).alloc (Nat.le_refl _) (.cells #[.int .i64 i, .string s, .string r] 24))
  have hc := HoldsAt_impl i s r f A zs cap (w.alloc (.cells #[.int .i64 i, .string s, .string r] 24)) hs hr hn hcap (hA.alloc _)
  have Hc := Lib.hid hc
  obtain ⟨k0, k1, k2⟩ := box_load (Bx.new w 24 #[.int .i64 i, .string s, .string r])
  clear hc hs hr hA
  go_enter Tryd.func13, Tryd.ntmps13
  go_wp2_with fail
  refine (Hc.out).mono ?_
  rintro e w1 ⟨rfl, hz⟩
  have B1 := Lib.hid (B0.out.trans (hz.mono B0.out.size))
  clear hz k0 k1 k2
  go_wp2_with fail
  go_ret
  exact ⟨rfl, B1.out⟩
theorem st_len {a : St} (ha : a.ok) : (bs a.set).size ≤ maxLen ∧ (bs a.rel).size ≤ maxLen := by have := st_small ha; unfold maxLen; omega
/-- gsHolds of a formula with four elements -/
theorem gs_four (a : St) (ha : a.ok) (g : Fm) (hg : g.text.length ≤ 4000) (f : ByteArray) (hf : f = bs g.text) (ns : List Nat) (hn : ∀ x ∈ ns, x < a.n) (hl : ns.length = 4) (A : Option Addr) (cap : Nat) (hcap : 4 ≤ cap) (b : Bool) (hb : g.holds a (envL ns) = b) (w : World) (hA : LRow w A (natsI ns)) :
    Calls Tryd.prog 13 #[stV a.n (bs a.set) (bs a.rel), .string f, .slice A 4 cap] w fun e w' => e = .returned (.bool b) ∧ Below w.heap.size w w' := by
  subst hf
  have h := gsHolds_calls a.n (bs a.set) (bs a.rel) (bs g.text) A (natsI ns) cap w (st_len ha).1 (st_len ha).2 (by rw [natsI_len, hl]; omega) (by rw [natsI_len, hl]; exact hcap) hA
  rw [hold_four ha hg hn hl, natsI_len, hl, hb] at h
  exact h
theorem inSet_at (a : St) (ha : a.ok) (x : Nat) (hx : x < a.n) (W : World) :
    Calls Tryd.prog 14 #[stV a.n (bs a.set) (bs a.rel), .int .i64 (x : Nat)] W fun e w' => e = .returned (.bool (a.inS x)) ∧ Below W.heap.size W w' := by
  have h := InSet_impl (a.n : Int) (bs a.set) (bs a.rel) (x : Nat) W (st_len ha).1 (st_len ha).2
  have e : inSetV (a.n : Int) (bs a.set) (bs a.rel) (x : Nat) = a.inS x := by
    have hx2 : elB a.n (x : Nat) = true := by unfold elB; simp; omega
    unfold inSetV; rw [okB_true ha, hx2, ofSt_eq]; rfl
  rwa [e] at h
theorem inRel_at (a : St) (ha : a.ok) (x y : Nat) (hx : x < a.n) (hy : y < a.n) (W : World) :
    Calls Tryd.prog 15 #[stV a.n (bs a.set) (bs a.rel), .int .i64 (x : Nat), .int .i64 (y : Nat)] W fun e w' => e = .returned (.bool (a.inR x y)) ∧ Below W.heap.size W w' := by
  have h := InRel_impl (a.n : Int) (bs a.set) (bs a.rel) (x : Nat) (y : Nat) W (st_len ha).1 (st_len ha).2
  have e : inRelV (a.n : Int) (bs a.set) (bs a.rel) (x : Nat) (y : Nat) = a.inR x y := by
    have hx2 : elB a.n (x : Nat) = true := by unfold elB; simp; omega
    have hy2 : elB a.n (y : Nat) = true := by unfold elB; simp; omega
    unfold inRelV; rw [okB_true ha, hx2, hy2, ofSt_eq]; rfl
  rwa [e] at h
theorem four_cells {W : World} {g a b c d : Nat} (h : LRow W (some ⟨g, 0, none⟩) (natsI [a, b, c, d])) : W.cell? ⟨g, 0, none⟩ = some (.int .i64 (a : Nat)) ∧ W.cell? ⟨g, 1, none⟩ = some (.int .i64 (b : Nat)) ∧ W.cell? ⟨g, 2, none⟩ = some (.int .i64 (c : Nat)) ∧ W.cell? ⟨g, 3, none⟩ = some (.int .i64 (d : Nat)) := by
  obtain ⟨g', hg, hc⟩ := h (by simp [natsI])
  injection hg with hg
  injection hg with hg _ _
  subst hg
  exact ⟨hc 0 (by simp [natsI]), hc 1 (by simp [natsI]), hc 2 (by simp [natsI]), hc 3 (by simp [natsI])⟩
theorem LRow_four (W : World) (a b c d : Nat) : LRow (W.alloc (.cells #[.int .i64 (a : Nat), .int .i64 (b : Nat), .int .i64 (c : Nat), .int .i64 (d : Nat)] 3)) (some ⟨W.heap.size, 0, none⟩) (natsI [a, b, c, d]) := fun _ => ⟨_, rfl, fun i hi => by
  have hx := Bx.new W 3 #[.int .i64 (a : Nat), .int .i64 (b : Nat), .int .i64 (c : Nat), .int .i64 (d : Nat)]
  have : i = 0 ∨ i = 1 ∨ i = 2 ∨ i = 3 := by simp [natsI] at hi; omega
  rcases this with rfl | rfl | rfl | rfl
  · exact hx.cell 0
  · exact hx.cell 1
  · exact hx.cell 2
  · exact hx.cell 3⟩
theorem len4 {ns : List Nat} (h : ns.length = 4) : ∃ a b c d, ns = [a, b, c, d] := by
  match ns, h with
  | [a, b, c, d], _ => exact ⟨a, b, c, d, rfl⟩

end Go.Proofs.YtgiaebeoldigbaaDoor

namespace Go.Proofs.YtgiaebeoldigbaaDoor
open Go.RowKit
open Pl
set_option linter.unusedSimpArgs false
set_option linter.unusedVariables false

theorem vars_at (m : Nat) : ∀ n, n ≤ 4 → ∀ k, k < (varsL m n).length → ∃ v : Fin 4, (varsL m n).getD k 0 = vb v := by
  intro n
  induction n with
  | zero => intro _ k hk; simp [varsL] at hk
  | succ n ih =>
    intro hn k hk
    cases h : m.testBit n with
    | false => rw [varsL_no h] at hk ⊢; exact ih (by omega) k hk
    | true =>
      rw [varsL_yes h] at hk ⊢
      by_cases hlt : k < (varsL m n).length
      · obtain ⟨v, hv⟩ := ih (by omega) k hlt
        refine ⟨v, ?_⟩
        rw [← hv, List.getD_eq_getElem?_getD, List.getD_eq_getElem?_getD, List.getElem?_append_left hlt]
      · have : k = (varsL m n).length := by simp at hk; omega
        refine ⟨⟨n, by omega⟩, ?_⟩
        rw [this, List.getD_eq_getElem?_getD]
        simp [vb]
theorem vars_mem (m : Nat) {n k : Nat} (hk : k < n) (h : m.testBit k = true) : UInt8.ofNat (97 + k) ∈ varsL m n := by
  unfold varsL
  exact List.mem_map.2 ⟨k, List.mem_filter.2 ⟨List.mem_range.2 hk, h⟩, rfl⟩
/-- an element that is not free may be changed -/
theorem holds_set {a : St} {g : Fm} {ns : List Nat} {k x : Nat} (hk : k < 4) (h : g.freeBits.testBit k = false) : g.holds a (envL (ns.set k x)) = g.holds a (envL ns) := by
  apply holds_free
  intro v hv
  have hne : v.val ≠ k := by
    intro e
    unfold Fm.isFree at hv
    rw [e, h] at hv
    cases hv
  unfold envL
  rw [List.getD_eq_getElem?_getD, List.getD_eq_getElem?_getD, List.getElem?_set_ne (Ne.symm hne)]
theorem holds_some {a : St} {q : Fm} {e : Env} {v : Fin 4} (hv : e v < a.n) (h : q.holds a e = true) : (Fm.qu .S v q).holds a e = true := by
  show decide (0 < cnt a.n (fun x => q.holds a (upd e v x))) = true
  rw [decide_eq_true_eq]
  have he : upd e v (e v) = e := by
    funext u
    by_cases hu : u = v
    · subst hu; rw [upd_same]
    · rw [upd_other hu]
  have h1 := cnt_split a.n (e v + 1) (fun x => q.holds a (upd e v x)) (by omega)
  have h2 := cnt_succ (e v) (fun x => q.holds a (upd e v x))
  simp only [he, h, if_true] at h2
  omega
/-- HoldsIn of a formula: no, or no free variables -/
theorem in_cases {a : St} (ha : a.ok) {q : Fm} (hq : q.text.length ≤ 4000) (e : Env) : holdB a.n (bs a.set) (bs a.rel) (bs q.text) [] = false ∨ (holdB a.n (bs a.set) (bs a.rel) (bs q.text) [] = true ∧ holdV a.n (bs a.set) (bs a.rel) (bs q.text) [] = q.holds a e) := by
  by_cases h0 : q.freeBits = 0
  · right
    have := hold_fm ha hq (ns := []) (by simp) (by simp) (by rw [h0]; rfl)
    refine ⟨this.1, this.2.trans (holds_free a q _ _ fun v hv => ?_)⟩
    unfold Fm.isFree at hv
    rw [h0] at hv
    simp at hv
  · left
    cases h : holdB a.n (bs a.set) (bs a.rel) (bs q.text) [] with
    | false => rfl
    | true =>
      exfalso
      unfold holdB at h
      simp only [Bool.and_eq_true] at h
      have h1 := h.1
      rw [show (([] : List Int).length) = 0 from rfl, rdy_of (fm_bs hq) (bs_list _) ha] at h1
      simp at h1
      exact h0 h1
/-- gsHolds of a formula with elements for all that is free -/
theorem gs_any (a : St) (ha : a.ok) (g : Fm) (hg : g.text.length ≤ 4000) (f : ByteArray) (hf : f = bs g.text) (ns : List Nat) (hn : ∀ x ∈ ns, x < a.n) (hl : ns.length ≤ 4) (hfr : g.freeBits / 2 ^ ns.length = 0) (A : Option Addr) (cap : Nat) (hcap : ns.length ≤ cap) (b : Bool) (hb : g.holds a (envL ns) = b) (w : World) (hA : LRow w A (natsI ns)) :
    Calls Tryd.prog 13 #[stV a.n (bs a.set) (bs a.rel), .string f, .slice A ns.length cap] w fun e w' => e = .returned (.bool b) ∧ Below w.heap.size w w' := by
  subst hf
  have h := gsHolds_calls a.n (bs a.set) (bs a.rel) (bs g.text) A (natsI ns) cap w (st_len ha).1 (st_len ha).2 (by rw [natsI_len]; omega) (by rw [natsI_len]; exact hcap) hA
  rw [(hold_fm ha hg hn hl hfr).2, natsI_len, hb] at h
  exact h
theorem ext_one {l : List UInt8} {k : Nat} (h : k < l.length) : (bs l).extract k (k + 1) = bs [l.getD k 0] := by
  apply eq_bs
  rw [Lib.extract_data, bs_list]
  rw [List.getD_eq_getElem?_getD, List.getElem?_eq_getElem h]
  rw [show k + 1 = k + 1 from rfl]
  apply List.ext_getElem
  · simp; omega
  · intro i h1 h2
    simp at h2
    subst h2
    simp
theorem cmp_at {l : List UInt8} {k m : Nat} (hk : k < 4) (hm : m < (bs l).size) (hk2 : k < (ByteArray.mk #[97, 98, 99, 100]).size) (h : ((((bs l)[m]'hm).toNat : Int) == (((ByteArray.mk #[97, 98, 99, 100])[k]'hk2).toNat : Int)) = false) : l.getD m 0 ≠ UInt8.ofNat (97 + k) := by
  intro e
  have hm2 : m < l.length := by rw [bs_size] at hm; exact hm
  have e1 : (bs l)[m]'hm = l.getD m 0 := by
    rw [List.getD_eq_getElem?_getD, List.getElem?_eq_getElem hm2]
    rfl
  have e2 : (ByteArray.mk #[97, 98, 99, 100])[k]'hk2 = UInt8.ofNat (97 + k) := by
    match k, hk with
    | 0, _ => rfl
    | 1, _ => rfl
    | 2, _ => rfl
    | 3, _ => rfl
  rw [e1, e2, e] at h
  simp at h
theorem LRow.set {W : World} {g : Nat} {ns : List Nat} {k x : Nat} (h : LRow W (some ⟨g, 0, none⟩) (natsI ns)) (hk : k < ns.length) : LRow (W.setCell ⟨g, k, none⟩ (.int .i64 (x : Nat))) (some ⟨g, 0, none⟩) (natsI (ns.set k x)) := by
  intro hl
  obtain ⟨g', hg, hc⟩ := h (by rw [natsI_len]; omega)
  injection hg with hg
  injection hg with hg _ _
  subst hg
  refine ⟨g, rfl, fun i hi => ?_⟩
  rw [natsI_len, List.length_set] at hi
  have h2 := hc i (by rw [natsI_len]; exact hi)
  by_cases e : i = k
  · subst e
    rw [World.cell?_setCell_same _ _ _ h2]
    simp [natsI, List.getD, hi]
  · rw [World.cell?_setCell_other _ _ _ _ (by intro e2; injection e2 with _ e2 _; exact e e2.symm), h2]
    simp [natsI, List.getD, List.getElem?_set_ne (Ne.symm e)]
theorem LRow.far {W : World} {g : Nat} {A : Option Addr} {zs : List Int} (h : LRow W A zs) (hA : ∀ b, A = some ⟨b, 0, none⟩ → b ≠ g) (k : Nat) (u : Value) : LRow (W.setCell ⟨g, k, none⟩ u) A zs := by
  intro hl
  obtain ⟨b, hb, hc⟩ := h hl
  refine ⟨b, hb, fun i hi => ?_⟩
  rw [World.cell?_setCell_other _ _ _ _ (by intro e2; injection e2 with e2 _ _; exact hA b hb e2.symm)]
  exact hc i hi

end Go.Proofs.YtgiaebeoldigbaaDoor

namespace Go.Proofs.YtgiaebeoldigbaaDoor
open Go.RowKit
open Pl
set_option linter.unusedSimpArgs false
set_option linter.unusedVariables false

/-- some elements can be a part -/
def partB (i : Int) (s r : ByteArray) (zs : List Int) : Bool := okB i s r && (decide (0 < zs.length) && (elAll i zs && nodB zs))
def partO (i : Int) (s r : ByteArray) (zs : List Int) : Option St := if partB i s r zs then some ((ofSt i s r).part (zs.map Int.toNat)) else none
def moveO (i : Int) (s r : ByteArray) (zs : List Int) : Option St := if (zs.length : Int) = i then partO i s r zs else none

theorem nats_of {n : Nat} {zs : List Int} (h : elAll n zs = true) (h2 : nodB zs = true) : ∃ ns : List Nat, zs = natsI ns ∧ (∀ x ∈ ns, x < n) ∧ ns.Nodup ∧ ns.length ≤ n ∧ zs.map Int.toNat = ns := by
  have hel : ∀ z ∈ zs, 0 ≤ z ∧ z < n := fun z hz => by
    have := List.all_eq_true.1 h z hz
    unfold elB at this
    simpa using this
  have hnd : zs.Nodup := of_decide_eq_true h2
  have hz : zs = natsI (zs.map Int.toNat) := by
    unfold natsI
    rw [List.map_map]
    conv => lhs; rw [← List.map_id zs]
    apply List.map_congr_left
    intro z hzm
    have := hel z hzm
    simp only [Function.comp, id]; omega
  have hlt : ∀ x ∈ zs.map Int.toNat, x < n := fun x hx => by
    obtain ⟨z, hzm, rfl⟩ := List.mem_map.1 hx
    have := hel z hzm; omega
  have hnd2 : (zs.map Int.toNat).Nodup := map_nodup zs hnd fun x hx y hy e => by
    have := hel x hx; have := hel y hy; omega
  refine ⟨zs.map Int.toNat, hz, hlt, hnd2, ?_, rfl⟩
  have := nodup_len_le (zs.map Int.toNat) (List.range n) hnd2 (fun x hx => List.mem_range.2 (hlt x hx))
  simpa using this

theorem part_no {i : Int} {s r : ByteArray} {zs : List Int} (h : partB i s r zs = false) : partO i s r zs = none := by unfold partO; rw [h]; rfl
theorem part_yes {a : St} {zs : List Int} (h : partB a.n (bs a.set) (bs a.rel) zs = true) : partO a.n (bs a.set) (bs a.rel) zs = some (a.part (zs.map Int.toNat)) := by unfold partO; rw [h]; rfl

set_option maxHeartbeats 2000000 in
theorem PartOf_impl (i : Int) (s r : ByteArray) (A : Option Addr) (zs : List Int) (cap : Nat) (w : World) (hs : s.size ≤ maxLen) (hr : r.size ≤ maxLen) (hn : zs.length ≤ 1048576) (hcap : zs.length ≤ cap) (hA : LRow w A zs) :
    Calls Tryd.prog 56 #[stV i s r, .slice A zs.length cap] w fun e w' => e = .returned (resV (partO i s r zs)) ∧ Below w.heap.size w w' := by
  have hcI : ∀ W, Calls Tryd.prog 43 #[stV i s r] W fun e w' => e = .returned (.bool (okB i s r)) ∧ Below W.heap.size W w' := fun W => isStructure_calls i s r W hs hr
  have hcE : ∀ W, LRow W A zs → Calls Tryd.prog 44 #[stV i s r, .slice A zs.length cap] W fun e w' => e = .returned (.bool (elAll i zs)) ∧ Below W.heap.size W w' := fun W hW => areElements_calls i s r A zs cap W hn hW
  have hcD : ∀ W, LRow W A zs → Calls Tryd.prog 83 #[.slice A zs.length cap] W fun e w' => e = .returned (.bool (nodB zs)) ∧ W = w' := fun W hW => allDifferent_calls A zs cap W hn hcap hW
  have HA := Lib.hid hA
  clear hA
  cases hok : okB i s r with
  | false =>
    rw [part_no (by unfold partB; rw [hok]; rfl)]
    rw [hok] at hcI
    have HcI := Lib.hid hcI
    clear hcI hcE hcD hs hr hok
    go_enter Tryd.func56, Tryd.ntmps56
    go_wp2_with fail
    refine (HcI.out _).mono ?_
    rintro e w1 ⟨rfl, hz⟩
    have x0 := ((Bx.new w 24 #[.int .i64 i, .string s, .string r]).alloc (.cells #[.int .i64 0, .string (bs []), .string (bs [])] 24)).call hz
    have x1 := (bx_two w (.cells #[.int .i64 i, .string s, .string r] 24) #[.int .i64 0, .string (bs []), .string (bs [])] (t := 24)).call hz
    have HB := Lib.hid (((((Below.refl w.heap.size w).alloc (Nat.le_refl _) (.cells #[.int .i64 i, .string s, .string r] 24)).alloc (by simp) (.cells #[.int .i64 0, .string (bs []), .string (bs [])] 24)).trans (hz.mono (by simp; omega))))
    have X0 := Lib.hid x0
    have X1 := Lib.hid x1
    clear hz x0 x1
    obtain ⟨k0, k1, k2⟩ := box_load X0.out
    obtain ⟨d0, d1, d2⟩ := box_load X1.out
    have f0 := X1.out.free 0
    have f1 := X1.out.free 1
    have f2 := X1.out.free 2
    go_wp2_with fail
    have y1 := ((X1.out.set 0 (.int .i64 0)).set 1 (.string (bs []))).set 2 (.string (bs []))
    obtain ⟨q0, q1, q2⟩ := box_load (a := .int .i64 0) (b := .string (bs [])) (c := .string (bs [])) y1
    refine bodyPost_ret (v := resV none) ?_ rfl ⟨rfl, ?_⟩
    · have e0 : (⟨#[]⟩ : ByteArray) = bs [] := rfl
      simp only [e0]
      simp [results, Tryd.results56, go_sem, q0, q1, q2, resV]
    · exact ((HB.out.setCell (by simp) _).setCell (by simp) _).setCell (by simp) _
  | true =>
    rw [hok] at hcI
    have HcI := Lib.hid hcI
    by_cases h0 : zs.length = 0
    · rw [part_no (by unfold partB; rw [hok, decide_eq_false (by omega)]; rfl)]
      clear hcI hcE hcD hs hr hok
      go_enter Tryd.func56, Tryd.ntmps56
      go_wp2_with fail
      refine (HcI.out _).mono ?_
      rintro e w1 ⟨rfl, hz⟩
      have x0 := ((Bx.new w 24 #[.int .i64 i, .string s, .string r]).alloc (.cells #[.int .i64 0, .string (bs []), .string (bs [])] 24)).call hz
      have x1 := (bx_two w (.cells #[.int .i64 i, .string s, .string r] 24) #[.int .i64 0, .string (bs []), .string (bs [])] (t := 24)).call hz
      have HB := Lib.hid (((((Below.refl w.heap.size w).alloc (Nat.le_refl _) (.cells #[.int .i64 i, .string s, .string r] 24)).alloc (by simp) (.cells #[.int .i64 0, .string (bs []), .string (bs [])] 24)).trans (hz.mono (by simp; omega))))
      have X0 := Lib.hid x0
      have X1 := Lib.hid x1
      clear hz x0 x1
      obtain ⟨k0, k1, k2⟩ := box_load X0.out
      obtain ⟨d0, d1, d2⟩ := box_load X1.out
      have f0 := X1.out.free 0
      have f1 := X1.out.free 1
      have f2 := X1.out.free 2

      go_wp2_with fail
      have y1 := ((X1.out.set 0 (.int .i64 0)).set 1 (.string (bs []))).set 2 (.string (bs []))
      obtain ⟨q0, q1, q2⟩ := box_load (a := .int .i64 0) (b := .string (bs [])) (c := .string (bs [])) y1
      refine bodyPost_ret (v := resV none) ?_ rfl ⟨rfl, ?_⟩
      · have e0 : (⟨#[]⟩ : ByteArray) = bs [] := rfl
        simp only [e0]
        simp [results, Tryd.results56, go_sem, q0, q1, q2, resV]
      · exact ((HB.out.setCell (by simp) _).setCell (by simp) _).setCell (by simp) _

    · have h0b : ((zs.length : Int) == 0) = false := beq_eq_false_iff_ne.2 (by omega)
      cases hel : elAll i zs with
      | false =>
        rw [part_no (by unfold partB; rw [hok, hel]; simp)]
        rw [hel] at hcE
        have HcE := Lib.hid hcE
        clear hcI hcE hcD hs hr hok hel
        go_enter Tryd.func56, Tryd.ntmps56
        go_wp2_with fail
        refine (HcI.out _).mono ?_
        rintro e w1 ⟨rfl, hz⟩
        have HA1 := Lib.hid (((HA.out.alloc (.cells #[.int .i64 i, .string s, .string r] 24)).alloc (.cells #[.int .i64 0, .string (bs []), .string (bs [])] 24)).call hz)
        have x0 := ((Bx.new w 24 #[.int .i64 i, .string s, .string r]).alloc (.cells #[.int .i64 0, .string (bs []), .string (bs [])] 24)).call hz
        have x1 := (bx_two w (.cells #[.int .i64 i, .string s, .string r] 24) #[.int .i64 0, .string (bs []), .string (bs [])] (t := 24)).call hz
        have HB := Lib.hid (((((Below.refl w.heap.size w).alloc (Nat.le_refl _) (.cells #[.int .i64 i, .string s, .string r] 24)).alloc (by simp) (.cells #[.int .i64 0, .string (bs []), .string (bs [])] 24)).trans (hz.mono (by simp; omega))))
        have X0 := Lib.hid x0
        have X1 := Lib.hid x1
        clear hz x0 x1
        obtain ⟨k0, k1, k2⟩ := box_load X0.out
        obtain ⟨d0, d1, d2⟩ := box_load X1.out
        have f0 := X1.out.free 0
        have f1 := X1.out.free 1
        have f2 := X1.out.free 2

        go_wp2_with fail
        refine (HcE.out _ HA1.out).mono ?_
        rintro e w2 ⟨rfl, hz⟩
        clear k0 k1 k2 d0 d1 d2 f0 f1 f2
        have X0 := Lib.hid (X0.out.call hz)
        have X1 := Lib.hid (X1.out.call hz)
        have HB := Lib.hid (HB.out.trans (hz.mono HB.out.size))
        clear hz
        obtain ⟨k0, k1, k2⟩ := box_load X0.out
        obtain ⟨d0, d1, d2⟩ := box_load X1.out
        have f0 := X1.out.free 0
        have f1 := X1.out.free 1
        have f2 := X1.out.free 2

        go_wp2_with fail
        have y1 := ((X1.out.set 0 (.int .i64 0)).set 1 (.string (bs []))).set 2 (.string (bs []))
        obtain ⟨q0, q1, q2⟩ := box_load (a := .int .i64 0) (b := .string (bs [])) (c := .string (bs [])) y1
        refine bodyPost_ret (v := resV none) ?_ rfl ⟨rfl, ?_⟩
        · have e0 : (⟨#[]⟩ : ByteArray) = bs [] := rfl
          simp only [e0]
          simp [results, Tryd.results56, go_sem, q0, q1, q2, resV]
        · exact ((HB.out.setCell (by simp) _).setCell (by simp) _).setCell (by simp) _

      | true =>
        rw [hel] at hcE
        have HcE := Lib.hid hcE
        cases hnd : nodB zs with
        | false =>
          rw [part_no (by unfold partB; rw [hok, hel, hnd]; simp)]
          rw [hnd] at hcD
          have HcD := Lib.hid hcD
          clear hcI hcE hcD hs hr hok hel hnd
          go_enter Tryd.func56, Tryd.ntmps56
          go_wp2_with fail
          refine (HcI.out _).mono ?_
          rintro e w1 ⟨rfl, hz⟩
          have HA1 := Lib.hid (((HA.out.alloc (.cells #[.int .i64 i, .string s, .string r] 24)).alloc (.cells #[.int .i64 0, .string (bs []), .string (bs [])] 24)).call hz)
          have x0 := ((Bx.new w 24 #[.int .i64 i, .string s, .string r]).alloc (.cells #[.int .i64 0, .string (bs []), .string (bs [])] 24)).call hz
          have x1 := (bx_two w (.cells #[.int .i64 i, .string s, .string r] 24) #[.int .i64 0, .string (bs []), .string (bs [])] (t := 24)).call hz
          have HB := Lib.hid (((((Below.refl w.heap.size w).alloc (Nat.le_refl _) (.cells #[.int .i64 i, .string s, .string r] 24)).alloc (by simp) (.cells #[.int .i64 0, .string (bs []), .string (bs [])] 24)).trans (hz.mono (by simp; omega))))
          have X0 := Lib.hid x0
          have X1 := Lib.hid x1
          clear hz x0 x1
          obtain ⟨k0, k1, k2⟩ := box_load X0.out
          obtain ⟨d0, d1, d2⟩ := box_load X1.out
          have f0 := X1.out.free 0
          have f1 := X1.out.free 1
          have f2 := X1.out.free 2

          go_wp2_with fail
          refine (HcE.out _ HA1.out).mono ?_
          rintro e w2 ⟨rfl, hz⟩
          have HA2 := Lib.hid (HA1.out.call hz)
          clear k0 k1 k2 d0 d1 d2 f0 f1 f2
          have X0 := Lib.hid (X0.out.call hz)
          have X1 := Lib.hid (X1.out.call hz)
          have HB := Lib.hid (HB.out.trans (hz.mono HB.out.size))
          clear hz
          obtain ⟨k0, k1, k2⟩ := box_load X0.out
          obtain ⟨d0, d1, d2⟩ := box_load X1.out
          have f0 := X1.out.free 0
          have f1 := X1.out.free 1
          have f2 := X1.out.free 2

          go_wp2_with fail
          refine (HcD.out _ HA2.out).mono ?_
          rintro e w2 ⟨rfl, rfl⟩
          go_wp2_with fail
          have y1 := ((X1.out.set 0 (.int .i64 0)).set 1 (.string (bs []))).set 2 (.string (bs []))
          obtain ⟨q0, q1, q2⟩ := box_load (a := .int .i64 0) (b := .string (bs [])) (c := .string (bs [])) y1
          refine bodyPost_ret (v := resV none) ?_ rfl ⟨rfl, ?_⟩
          · have e0 : (⟨#[]⟩ : ByteArray) = bs [] := rfl
            simp only [e0]
            simp [results, Tryd.results56, go_sem, q0, q1, q2, resV]
          · exact ((HB.out.setCell (by simp) _).setCell (by simp) _).setCell (by simp) _

        | true =>
          obtain ⟨a, ha, rfl, rfl, rfl⟩ : ∃ a : St, a.ok ∧ i = a.n ∧ s = bs a.set ∧ r = bs a.rel := by
            rcases ok_cases i s r with h | h
            · rw [h] at hok; cases hok
            · exact h
          have hpb : partB a.n (bs a.set) (bs a.rel) zs = true := by unfold partB; rw [hok, hel, hnd, decide_eq_true (by omega)]; rfl
          rw [part_yes hpb]
          obtain ⟨ns, hzn, hns, hnd2, hnl, hmap⟩ := nats_of hel hnd
          rw [hmap]
          rw [hnd] at hcD
          have HcD := Lib.hid hcD
          have hl8 := ha.hi
          have hcP : ∀ W, LRow W A zs → Calls Tryd.prog 84 #[stA a, .slice A zs.length cap] W fun e w' => e = .returned (stA (a.part ns)) ∧ Below W.heap.size W w' := fun W hW => by
            rw [hzn] at hW
            rw [hzn, natsI_len]
            exact partOf_calls a ha ns hns (by omega) A cap W hW
          have HcP := Lib.hid hcP
          clear hcI hcE hcD hs hr hok hel hnd hpb hmap hzn hcP
          go_enter Tryd.func56, Tryd.ntmps56
          go_wp2_with fail
          refine (HcI.out _).mono ?_
          rintro e w1 ⟨rfl, hz⟩
          have HA1 := Lib.hid (((HA.out.alloc (.cells #[.int .i64 a.n, .string (bs a.set), .string (bs a.rel)] 24)).alloc (.cells #[.int .i64 0, .string (bs []), .string (bs [])] 24)).call hz)
          have x0 := ((Bx.new w 24 #[.int .i64 a.n, .string (bs a.set), .string (bs a.rel)]).alloc (.cells #[.int .i64 0, .string (bs []), .string (bs [])] 24)).call hz
          have x1 := (bx_two w (.cells #[.int .i64 a.n, .string (bs a.set), .string (bs a.rel)] 24) #[.int .i64 0, .string (bs []), .string (bs [])] (t := 24)).call hz
          have HB := Lib.hid (((((Below.refl w.heap.size w).alloc (Nat.le_refl _) (.cells #[.int .i64 a.n, .string (bs a.set), .string (bs a.rel)] 24)).alloc (by simp) (.cells #[.int .i64 0, .string (bs []), .string (bs [])] 24)).trans (hz.mono (by simp; omega))))
          have X0 := Lib.hid x0
          have X1 := Lib.hid x1
          clear hz x0 x1
          obtain ⟨k0, k1, k2⟩ := box_load X0.out
          obtain ⟨d0, d1, d2⟩ := box_load X1.out
          have f0 := X1.out.free 0
          have f1 := X1.out.free 1
          have f2 := X1.out.free 2

          go_wp2_with fail
          refine (HcE.out _ HA1.out).mono ?_
          rintro e w2 ⟨rfl, hz⟩
          have HA2 := Lib.hid (HA1.out.call hz)
          clear k0 k1 k2 d0 d1 d2 f0 f1 f2
          have X0 := Lib.hid (X0.out.call hz)
          have X1 := Lib.hid (X1.out.call hz)
          have HB := Lib.hid (HB.out.trans (hz.mono HB.out.size))
          clear hz
          obtain ⟨k0, k1, k2⟩ := box_load X0.out
          obtain ⟨d0, d1, d2⟩ := box_load X1.out
          have f0 := X1.out.free 0
          have f1 := X1.out.free 1
          have f2 := X1.out.free 2

          go_wp2_with fail
          refine (HcD.out _ HA2.out).mono ?_
          rintro e w2 ⟨rfl, rfl⟩
          go_wp2_with fail
          refine (HcP.out _ HA2.out).mono ?_
          rintro e w3 ⟨rfl, hz⟩
          clear k0 k1 k2 d0 d1 d2 f0 f1 f2
          have X0 := Lib.hid (X0.out.call hz)
          have X1 := Lib.hid (X1.out.call hz)
          have HB := Lib.hid (HB.out.trans (hz.mono HB.out.size))
          clear hz
          obtain ⟨k0, k1, k2⟩ := box_load X0.out
          obtain ⟨d0, d1, d2⟩ := box_load X1.out
          have f0 := X1.out.free 0
          have f1 := X1.out.free 1
          have f2 := X1.out.free 2

          go_wp2_with fail
          have y1 := ((X1.out.set 0 (.int .i64 (a.part ns).n)).set 1 (.string (bs (a.part ns).set))).set 2 (.string (bs (a.part ns).rel))
          obtain ⟨q0, q1, q2⟩ := box_load (a := .int .i64 (a.part ns).n) (b := .string (bs (a.part ns).set)) (c := .string (bs (a.part ns).rel)) y1
          refine bodyPost_ret (v := resV (some (a.part ns))) ?_ rfl ⟨rfl, ?_⟩
          · simp [results, Tryd.results56, go_sem, q0, q1, q2, resV]
          · exact ((HB.out.setCell (by simp) _).setCell (by simp) _).setCell (by simp) _


set_option maxHeartbeats 1000000 in
theorem MoveElements_impl (i : Int) (s r : ByteArray) (A : Option Addr) (zs : List Int) (cap : Nat) (w : World) (hs : s.size ≤ maxLen) (hr : r.size ≤ maxLen) (hn : zs.length ≤ 1048576) (hcap : zs.length ≤ cap) (hA : LRow w A zs) :
    Calls Tryd.prog 19 #[stV i s r, .slice A zs.length cap] w fun e w' => e = .returned (resV (moveO i s r zs)) ∧ Below w.heap.size w w' := by
  by_cases hl : (zs.length : Int) = i
  · have hv : moveO i s r zs = partO i s r zs := if_pos hl
    rw [hv]
    have hcP : ∀ W, LRow W A zs → Calls Tryd.prog 56 #[stV i s r, .slice A zs.length cap] W fun e w' => e = .returned (resV (partO i s r zs)) ∧ Below W.heap.size W w' := fun W hW => PartOf_impl i s r A zs cap W hs hr hn hcap hW
    obtain ⟨j, S, R, b, hres⟩ := resV_form (partO i s r zs)
    rw [hres] at hcP ⊢
    have HcP := Lib.hid hcP
    have HA := Lib.hid hA
    have hne : ((zs.length : Int) != i) = false := by simp [hl]
    clear hcP hA hs hr hv hres hl
    have HA1 := Lib.hid ((HA.out.alloc (.cells #[.int .i64 i, .string s, .string r] 24)).alloc (.cells #[.int .i64 0, .string (bs []), .string (bs [])] 24))
    go_enter Tryd.func19, Tryd.ntmps19
    go_wp2_with fail
    refine (HcP.out _ HA1.out).mono ?_
    rintro e w1 ⟨rfl, hz⟩
    have x0 := ((Bx.new w 24 #[.int .i64 i, .string s, .string r]).alloc (.cells #[.int .i64 0, .string (bs []), .string (bs [])] 24)).call hz
    have x1 := (bx_two w (.cells #[.int .i64 i, .string s, .string r] 24) #[.int .i64 0, .string (bs []), .string (bs [])] (t := 24)).call hz
    have HB := Lib.hid (((((Below.refl w.heap.size w).alloc (Nat.le_refl _) (.cells #[.int .i64 i, .string s, .string r] 24)).alloc (by simp) (.cells #[.int .i64 0, .string (bs []), .string (bs [])] 24)).trans (hz.mono (by simp; omega))))
    have X0 := Lib.hid x0
    have X1 := Lib.hid x1
    clear hz x0 x1
    obtain ⟨k0, k1, k2⟩ := box_load X0.out
    obtain ⟨d0, d1, d2⟩ := box_load X1.out
    have f0 := X1.out.free 0
    have f1 := X1.out.free 1
    have f2 := X1.out.free 2
    go_wp2_with fail
    have y1 := ((X1.out.set 0 (.int .i64 j)).set 1 (.string S)).set 2 (.string R)
    obtain ⟨q0, q1, q2⟩ := box_load (a := .int .i64 j) (b := .string S) (c := .string R) y1
    refine bodyPost_ret (v := .tuple #[stV j S R, .bool b]) ?_ rfl ⟨rfl, ?_⟩
    · simp [results, Tryd.results19, go_sem, q0, q1, q2]
    · exact ((HB.out.setCell (by simp) _).setCell (by simp) _).setCell (by simp) _
  · have hv : moveO i s r zs = none := if_neg hl
    rw [hv]
    have hne : ((zs.length : Int) != i) = true := by simp [hl]
    clear hA hs hr hv hl
    have hz : Below ((w.alloc (.cells #[.int .i64 i, .string s, .string r] 24)).alloc (.cells #[.int .i64 0, .string (bs []), .string (bs [])] 24)).heap.size ((w.alloc (.cells #[.int .i64 i, .string s, .string r] 24)).alloc (.cells #[.int .i64 0, .string (bs []), .string (bs [])] 24)) ((w.alloc (.cells #[.int .i64 i, .string s, .string r] 24)).alloc (.cells #[.int .i64 0, .string (bs []), .string (bs [])] 24)) := Below.refl _ _
    have x0 := ((Bx.new w 24 #[.int .i64 i, .string s, .string r]).alloc (.cells #[.int .i64 0, .string (bs []), .string (bs [])] 24)).call hz
    have x1 := (bx_two w (.cells #[.int .i64 i, .string s, .string r] 24) #[.int .i64 0, .string (bs []), .string (bs [])] (t := 24)).call hz
    have HB := Lib.hid (((((Below.refl w.heap.size w).alloc (Nat.le_refl _) (.cells #[.int .i64 i, .string s, .string r] 24)).alloc (by simp) (.cells #[.int .i64 0, .string (bs []), .string (bs [])] 24)).trans (hz.mono (by simp; omega))))
    have X0 := Lib.hid x0
    have X1 := Lib.hid x1
    clear hz x0 x1
    have y1 := ((X1.out.set 0 (.int .i64 0)).set 1 (.string (bs []))).set 2 (.string (bs []))
    obtain ⟨q0, q1, q2⟩ := box_load (a := .int .i64 0) (b := .string (bs [])) (c := .string (bs [])) y1
    go_enter Tryd.func19, Tryd.ntmps19
    go_wp2_with fail
    refine bodyPost_ret (v := resV none) ?_ rfl ⟨rfl, ?_⟩
    · have e0 : (⟨#[]⟩ : ByteArray) = bs [] := rfl
      simp only [e0]
      simp [results, Tryd.results19, go_sem, resV]
    · exact HB.out

end Go.Proofs.YtgiaebeoldigbaaDoor

namespace Go.Proofs.YtgiaebeoldigbaaDoor
open Go.RowKit
open Pl
set_option linter.unusedSimpArgs false
set_option linter.unusedVariables false

theorem quiet_left' {P : Program} {f : FuncId} {args : Array Value} {w : World} {n : Nat} {v : Value}
    (h : Calls P f args (w.drewN n) fun e w' => e = .returned v ∧ w.drewN n = w') : Calls P f args (w.drewN n) fun e w'' => e = .returned v ∧ ∃ m, w'' = w.drewN m :=
  h.mono fun _ _ ⟨he, hm⟩ => ⟨he, n, hm.symm⟩

theorem ok_range {i : Int} {s r : ByteArray} (h : okB i s r = true) : 1 ≤ i ∧ i ≤ 8 := by
  unfold okB at h
  simp only [Bool.and_eq_true, decide_eq_true_eq] at h
  exact ⟨h.1, h.2.1⟩

theorem wrap_pred {i : Int} (h1 : 1 ≤ i) (h8 : i ≤ 8) : IntKind.i64.wrap (i - 1) = i - 1 := IntWalk.i64_in _ (by omega)

theorem elB_in {i z : Int} (h1 : 1 ≤ i) (h8 : i ≤ 8) : (decide (0 ≤ z) && decide (z ≤ IntKind.i64.wrap (i - 1))) = elB i z := by
  rw [wrap_pred h1 h8]
  unfold elB
  congr 1
  rw [decide_eq_decide]; omega

theorem partB_out {i : Int} {s r : ByteArray} {zs : List Int} {z : Int} (hz : z ∈ zs) (h : (decide (0 ≤ z) && decide (z ≤ IntKind.i64.wrap (i - 1))) = false) : partB i s r zs = false := by
  unfold partB
  cases hok : okB i s r with
  | false => rfl
  | true =>
    obtain ⟨h1, h8⟩ := ok_range hok
    rw [elB_in h1 h8] at h
    have : elAll i zs = false := by
      rw [Bool.eq_false_iff]; intro e
      have := List.all_eq_true.1 e z hz
      rw [h] at this; cases this
    rw [this]; simp

theorem partB_dup {i : Int} {s r : ByteArray} {zs : List Int} (h : ¬ zs.Nodup) : partB i s r zs = false := by
  unfold partB nodB
  rw [decide_eq_false h]; simp

theorem partB_end {i : Int} {s r : ByteArray} {zs : List Int} (h : ∀ z ∈ zs, (decide (0 ≤ z) && decide (z ≤ IntKind.i64.wrap (i - 1))) = true) (h2 : zs.Nodup) : partB i s r zs = (okB i s r && decide (0 < zs.length)) := by
  unfold partB nodB
  cases hok : okB i s r with
  | false => rfl
  | true =>
    obtain ⟨h1, h8⟩ := ok_range hok
    have : elAll i zs = true := List.all_eq_true.2 fun z hz => by rw [← elB_in h1 h8]; exact h z hz
    rw [this, decide_eq_true h2]; simp

end Go.Proofs.YtgiaebeoldigbaaDoor

namespace Go.Proofs.YtgiaebeoldigbaaDoor
open Go.RowKit
open Pl
set_option linter.unusedSimpArgs false
set_option linter.unusedVariables false
attribute [local go_sem ↓] Go.wp_at_zero Go.wp_at_succ

theorem bx_three (w : World) (o o2 : Obj) (cs : Array Value) {t : TypeId} : Bx (((w.alloc o).alloc o2).alloc (.cells cs t)) (w.heap.size + 2) t cs := by
  have h := Bx.new ((w.alloc o).alloc o2) t cs
  rwa [World.size_alloc, World.size_alloc] at h

end Go.Proofs.YtgiaebeoldigbaaDoor

namespace Go.Proofs.YtgiaebeoldigbaaDoor
open Go.RowKit
open Pl
set_option linter.unusedSimpArgs false
set_option linter.unusedVariables false

end Go.Proofs.YtgiaebeoldigbaaDoor

namespace Go.Proofs.YtgiaebeoldigbaaDoor
open Go.RowKit
open Pl
set_option linter.unusedSimpArgs false
set_option linter.unusedVariables false

end Go.Proofs.YtgiaebeoldigbaaDoor

namespace Go.Proofs.YtgiaebeoldigbaaDoor
open Go.RowKit
open Pl
set_option linter.unusedSimpArgs false
set_option linter.unusedVariables false

theorem new_at {w : World} {B : Nat} {t : TypeId} {cs : Array Value} (h : w.heap.size = B) : Bx (w.alloc (.cells cs t)) B t cs := h ▸ Bx.new w t cs
theorem each_six (w : World) (ca cb : Array Value) (tv : Value) :
    Bx ((((((w.alloc (.cells ca 24)).alloc (.cells cb 24)).alloc (.cells #[tv] 113)).alloc (.cells #[] 3)).alloc (.cells #[.slice (some ⟨w.heap.size + 1 + 1 + 1, 0, none⟩) 0 0] 25)).alloc (.cells #[.nilFunc] 117)) w.heap.size 24 ca ∧ Bx ((((((w.alloc (.cells ca 24)).alloc (.cells cb 24)).alloc (.cells #[tv] 113)).alloc (.cells #[] 3)).alloc (.cells #[.slice (some ⟨w.heap.size + 1 + 1 + 1, 0, none⟩) 0 0] 25)).alloc (.cells #[.nilFunc] 117)) (w.heap.size + 1) 24 cb ∧ Bx ((((((w.alloc (.cells ca 24)).alloc (.cells cb 24)).alloc (.cells #[tv] 113)).alloc (.cells #[] 3)).alloc (.cells #[.slice (some ⟨w.heap.size + 1 + 1 + 1, 0, none⟩) 0 0] 25)).alloc (.cells #[.nilFunc] 117)) (w.heap.size + 2) 113 #[tv] ∧ Bx ((((((w.alloc (.cells ca 24)).alloc (.cells cb 24)).alloc (.cells #[tv] 113)).alloc (.cells #[] 3)).alloc (.cells #[.slice (some ⟨w.heap.size + 1 + 1 + 1, 0, none⟩) 0 0] 25)).alloc (.cells #[.nilFunc] 117)) (w.heap.size + 3) 3 #[] ∧ Bx ((((((w.alloc (.cells ca 24)).alloc (.cells cb 24)).alloc (.cells #[tv] 113)).alloc (.cells #[] 3)).alloc (.cells #[.slice (some ⟨w.heap.size + 1 + 1 + 1, 0, none⟩) 0 0] 25)).alloc (.cells #[.nilFunc] 117)) (w.heap.size + 4) 25 #[.slice (some ⟨w.heap.size + 3, 0, none⟩) 0 0] ∧ Bx ((((((w.alloc (.cells ca 24)).alloc (.cells cb 24)).alloc (.cells #[tv] 113)).alloc (.cells #[] 3)).alloc (.cells #[.slice (some ⟨w.heap.size + 1 + 1 + 1, 0, none⟩) 0 0] 25)).alloc (.cells #[.nilFunc] 117)) (w.heap.size + 5) 117 #[.nilFunc] ∧ Below w.heap.size w ((((((w.alloc (.cells ca 24)).alloc (.cells cb 24)).alloc (.cells #[tv] 113)).alloc (.cells #[] 3)).alloc (.cells #[.slice (some ⟨w.heap.size + 1 + 1 + 1, 0, none⟩) 0 0] 25)).alloc (.cells #[.nilFunc] 117)) := by
  refine ⟨(((((Bx.new w 24 ca).alloc _).alloc _).alloc _).alloc _).alloc _, ((((new_at (by simp) : Bx _ (w.heap.size + 1) 24 cb).alloc _).alloc _).alloc _).alloc _, (((new_at (by simp) : Bx _ (w.heap.size + 2) 113 #[tv]).alloc _).alloc _).alloc _,
    ((new_at (by simp) : Bx _ (w.heap.size + 3) 3 #[]).alloc _).alloc _, (new_at (by simp) : Bx _ (w.heap.size + 4) 25 #[.slice (some ⟨w.heap.size + 3, 0, none⟩) 0 0]).alloc _, new_at (by simp), ?_⟩
  exact ((((((Below.refl w.heap.size w).alloc (by simp) _).alloc (by simp) _).alloc (by simp; omega) _).alloc (by simp; omega) _).alloc (by simp; omega) _).alloc (by simp; omega) _

end Go.Proofs.YtgiaebeoldigbaaDoor

namespace Go.Proofs.YtgiaebeoldigbaaDoor
open Go.RowKit
open Pl
set_option linter.unusedSimpArgs false
set_option linter.unusedVariables false

/-- a counter as the machine has it -/
def cnt : Nat → Int
  | 0 => 0
  | k + 1 => IntKind.i64.wrap (cnt k + 1)
theorem cnt_small : ∀ (k : Nat), k ≤ 1048576 → cnt k = k
  | 0, _ => rfl
  | k + 1, h => by
    show IntKind.i64.wrap (cnt k + 1) = _
    rw [cnt_small k (by omega), IntKind.wrap_i64]
    omega

theorem Kp.setCell {B : Nat} {W : World} {p : Addr} (hp : p.block < B) (u : Value) : Kp B W (W.setCell p u) :=
  ⟨by simp, fun k hk _ => Below.heap_setCell W p u k (by omega)⟩
theorem Kp.refl (B : Nat) (W : World) : Kp B W W := ⟨Nat.le_refl _, fun _ _ _ => rfl⟩

theorem fact_le : ∀ n, n ≤ 8 → fact n ≤ 40320
  | 0, _ => by decide
  | 1, _ => by decide
  | 2, _ => by decide
  | 3, _ => by decide
  | 4, _ => by decide
  | 5, _ => by decide
  | 6, _ => by decide
  | 7, _ => by decide
  | 8, _ => by decide
theorem fact_pos : ∀ n, 0 < fact n
  | 0 => by decide
  | n + 1 => Nat.mul_pos (Nat.succ_pos n) (fact_pos n)
theorem isos_le {a : St} (ha : a.ok) : (isos a a).length ≤ 40320 := by
  have h := Nat.le_of_dvd (by have := fact_pos a.n; omega) (count_dvd_fact a)
  have := fact_le a.n ha.hi
  omega

/-- the number of symmetries -/
def symV (i : Int) (s r : ByteArray) : Int := if okB i s r then ((isos (ofSt i s r) (ofSt i s r)).length : Int) else -1
theorem symV_no {i : Int} {s r : ByteArray} (h : okB i s r = false) : symV i s r = -1 := by unfold symV; rw [h]; rfl

end Go.Proofs.YtgiaebeoldigbaaDoor

namespace Go.Proofs.YtgiaebeoldigbaaDoor
open Go.RowKit
open Pl
set_option linter.unusedSimpArgs false
set_option linter.unusedVariables false

/-- a number, and some list -/
def NumL (n : Nat) (e : Ending) : Prop := ∃ F k cap, e = .returned (.tuple #[.int .i64 (n : Nat), .slice F k cap])

end Go.Proofs.YtgiaebeoldigbaaDoor

namespace Go.Proofs.YtgiaebeoldigbaaDoor
open Go.RowKit
open Pl
set_option linter.unusedSimpArgs false
set_option linter.unusedVariables false

/-- the first of some lists, and whether there is one -/
def FstL (L : List (List Nat)) (e : Ending) (w' : World) : Prop := ∃ g cap, e = .returned (.tuple #[.slice (some ⟨g, 0, none⟩) (L.headD []).length cap, .bool (!L.isEmpty)]) ∧ LRow w' (some ⟨g, 0, none⟩) (natsI (L.headD []))

theorem fst_stop {a b : St} {m k : Nat} {o : List Nat} (hk : k < a.n) (hn : nextB a b o k = true) (h0 : upTo a b m o k = []) (hs : (shapes a b m (o ++ [k])).isEmpty = false) :
    (shapes a b (m + 1) o).isEmpty = false ∧ (shapes a b (m + 1) o).headD [] = (shapes a b m (o ++ [k])).headD [] := by
  obtain ⟨h1, h2⟩ := told_stop hk hn h0 hs
  refine ⟨h1, ?_⟩
  generalize shapes a b (m + 1) o = L at *
  generalize shapes a b m (o ++ [k]) = M at *
  cases L with
  | nil => cases h1
  | cons x L =>
    cases M with
    | nil => cases hs
    | cons y M => simp [told] at h2; exact h2

end Go.Proofs.YtgiaebeoldigbaaDoor

namespace Go.Proofs.YtgiaebeoldigbaaDoor
open Go.RowKit
open Pl
set_option linter.unusedSimpArgs false
set_option linter.unusedVariables false
attribute [local go_sem ↓] Go.wp_at_zero Go.wp_at_succ

/-- what the reference asks of a pair -/
def fitS (a b : St) (o : List Nat) (x k : Nat) : Bool :=
  decide ((o ++ [x]).getD k 0 = x) == decide (k = o.length) && a.inR ((o ++ [x]).getD k 0) x == b.inR k o.length && a.inR x ((o ++ [x]).getD k 0) == b.inR o.length k

theorem nextB_eq (a b : St) (o : List Nat) (x : Nat) : nextB a b o x = (a.inS x == b.inS o.length && (List.range (o.length + 1)).all (fitS a b o x)) := by
  rw [Bool.eq_iff_iff]
  unfold nextB fitsB fitS
  simp only [Bool.and_eq_true, Bool.not_eq_true', List.contains_eq_mem, decide_eq_false_iff_not, beq_iff_eq, List.all_eq_true, List.mem_range]
  constructor
  · rintro ⟨hc, ⟨h1, h2⟩, h3⟩
    refine ⟨h1, fun k hk => ?_⟩
    by_cases e : k = o.length
    · subst e
      rw [getD_snoc_eq]
      simp [h2]
    · have hk2 : k < o.length := by omega
      rw [getD_snoc_lt hk2]
      obtain ⟨h4, h5⟩ := h3 k hk2
      refine ⟨⟨?_, h5⟩, h4⟩
      rw [decide_eq_false e, decide_eq_false_iff_not]
      intro h
      apply hc
      rw [← h, List.getD_eq_getElem?_getD, List.getElem?_eq_getElem hk2]
      exact List.getElem_mem hk2
  · rintro ⟨h1, h⟩
    refine ⟨fun hc => ?_, ⟨h1, ?_⟩, fun k hk => ?_⟩
    · obtain ⟨k, hk, he⟩ := List.getElem_of_mem hc
      have h2 := (h k (by omega)).1.1
      rw [getD_snoc_lt hk, List.getD_eq_getElem?_getD, List.getElem?_eq_getElem hk, Option.getD_some, he, decide_eq_false (show ¬ k = o.length by omega)] at h2
      simp at h2
    · have h2 := (h o.length (by omega)).2
      rwa [getD_snoc_eq] at h2
    · have h2 := h k (by omega)
      rw [getD_snoc_lt hk] at h2
      exact ⟨h2.2, h2.1.2⟩

end Go.Proofs.YtgiaebeoldigbaaDoor

namespace Go.Proofs.YtgiaebeoldigbaaDoor
open Go.RowKit
open Pl
set_option linter.unusedSimpArgs false
set_option linter.unusedVariables false

theorem own_form' {w : World} {base n : Nat} {e : TypeId} {v : Value} {xs : List Value} (h : w.ownsRow base e 1 v n xs) (hn : 0 < n) : ∃ g cap, v = .slice (some ⟨g, 0, none⟩) n cap := by
  obtain ⟨_, ⟨_, h0⟩ | ⟨g, cap, _, hv, _⟩⟩ := h
  · omega
  · exact ⟨g, cap, hv⟩

/-- what the closure leaves -/
def SameP (w : World) (nb : Nat) (l : List Nat) (w' : World) : Prop := (∃ v, Bx w' nb 25 #[v] ∧ w'.ownsRow w.heap.size 3 1 v l.length (intsV (natsI l))) ∧ Below nb w w' ∧ ∀ B, nb < B → B ≤ w.heap.size → Kp B w w'

/-- the orders that turn one structure into the other -/
def shpL (i : Int) (s r : ByteArray) (j : Int) (t u : ByteArray) : List (List Nat) := if okB i s r && (okB j t u && decide (i = j)) then isos (ofSt i s r) (ofSt j t u) else []

theorem shp_cases (i : Int) (s r : ByteArray) (j : Int) (t u : ByteArray) : (okB i s r = false ∧ shpL i s r j t u = []) ∨ (okB i s r = true ∧ okB j t u = false ∧ shpL i s r j t u = []) ∨ (okB i s r = true ∧ okB j t u = true ∧ i ≠ j ∧ shpL i s r j t u = []) ∨
    ∃ a b : St, a.ok ∧ b.ok ∧ a.n = b.n ∧ i = a.n ∧ s = bs a.set ∧ r = bs a.rel ∧ j = b.n ∧ t = bs b.set ∧ u = bs b.rel ∧ shpL i s r j t u = isos a b := by
  rcases ok_cases i s r with h1 | ⟨a, ha, rfl, rfl, rfl⟩
  · exact .inl ⟨h1, by unfold shpL; rw [h1]; rfl⟩
  · have h1 := okB_true ha
    rcases ok_cases j t u with h2 | ⟨b, hb, rfl, rfl, rfl⟩
    · exact .inr (.inl ⟨h1, h2, by unfold shpL; rw [h1, h2]; rfl⟩)
    · have h2 := okB_true hb
      by_cases hab : a.n = b.n
      · exact .inr (.inr (.inr ⟨a, b, ha, hb, hab, rfl, rfl, rfl, rfl, rfl, rfl, by unfold shpL; rw [h1, h2, decide_eq_true (by omega)]; rfl⟩))
      · exact .inr (.inr (.inl ⟨h1, h2, by omega, by unfold shpL; rw [h1, h2, decide_eq_false (by omega)]; rfl⟩))

/-- a fresh list, the first of some -/
def ImpL (w : World) (L : List (List Nat)) (e : Ending) (w' : World) : Prop := ∃ v, e = .returned (.tuple #[v, .bool (!L.isEmpty)]) ∧ w'.ownsRow w.heap.size 3 1 v (L.headD []).length (intsV (natsI (L.headD [])))

/-- what lies in the variable -/
def FoundJ (w : World) (nb : Nat) (L : List (List Nat)) (V : World) : Prop := (∃ v, Bx V nb 25 #[v] ∧ (L = [] → v = .slice none 0 0) ∧ (∀ l, L = [l] → 0 < l.length ∧ V.ownsRow w.heap.size 3 1 v l.length (intsV (natsI l)))) ∧ Below w.heap.size w V

end Go.Proofs.YtgiaebeoldigbaaDoor

namespace Go.Proofs.YtgiaebeoldigbaaDoor
namespace Pl

theorem part_iso {a : St} {m : List Nat} (hm : IsPerm a.n m) : m ∈ isos a (a.part m) := by
  have hl := hm.len
  refine mem_isos_iff.2 ⟨hm, fun i hi => ?_, fun i j hi hj => ?_⟩
  · unfold St.part
    rw [mkSt_inS (by omega)]
    rfl
  · unfold St.part
    rw [mkSt_inR (by omega) (by omega)]
    rfl

/-- an element, and behind it all others -/
def frontL (n x : Nat) : List Nat := x :: (List.range n).filter fun y => y != x

theorem front_perm {n x : Nat} (hx : x < n) : IsPerm n (frontL n x) := by
  have hnd : (frontL n x).Nodup := by
    unfold frontL
    rw [List.nodup_cons]
    exact ⟨by simp, List.nodup_range.filter _⟩
  have hlt : ∀ y ∈ frontL n x, y < n := by
    intro y hy
    unfold frontL at hy
    rcases List.mem_cons.1 hy with rfl | hy
    · exact hx
    · exact List.mem_range.1 (List.mem_filter.1 hy).1
  refine ⟨?_, hnd, hlt⟩
  have h := nodup_len_eq hnd (List.nodup_range (n := n)) (fun y => ⟨fun hy => List.mem_range.2 (hlt y hy), fun hy => by
    unfold frontL
    by_cases e : y = x
    · subst e; simp
    · exact List.mem_cons_of_mem _ (List.mem_filter.2 ⟨hy, by simpa using e⟩)⟩)
  simpa using h

/-- the elements that the reference finds -/
def orbS (a : St) (x : Nat) : List Nat := (List.range a.n).filter fun y => a.inS y == a.inS x && (a.inR y y == a.inR x x && !(shapes a (a.part (frontL a.n x)) (a.n - 1) [y]).isEmpty)

theorem orbS_eq {a : St} {x : Nat} (hx : x < a.n) : orbS a x = orbL a.n (isos a a) x := by
  unfold orbS orbL
  refine List.filter_congr fun y hy => ?_
  have hy := List.mem_range.1 hy
  have hm := front_perm hx
  have hmi := part_iso (a := a) hm
  have hml := hm.len
  have hbn : (a.part (frontL a.n x)).n = a.n := hml
  have hab : a.n = (a.part (frontL a.n x)).n := hbn.symm
  have h0 : 0 < a.n := by omega
  have hm0 : app (frontL a.n x) 0 = x := rfl
  obtain ⟨_, hmS, hmR⟩ := mem_isos_iff.1 hmi
  rw [Bool.eq_iff_iff]
  simp only [Bool.and_eq_true, beq_iff_eq, Bool.not_eq_true', List.any_eq_true]
  constructor
  · rintro ⟨h1, h2, h3⟩
    obtain ⟨l, hl⟩ : ∃ l, l ∈ shapes a (a.part (frontL a.n x)) (a.n - 1) [y] := by
      cases hs : shapes a (a.part (frontL a.n x)) (a.n - 1) [y] with
      | nil => rw [hs] at h3; cases h3
      | cons l L => exact ⟨l, by simp⟩
    have hf : Fits a (a.part (frontL a.n x)) [y] := by
      refine ⟨by simp, by simpa using hy, fun i hi => ?_, fun i j hi hj => ?_⟩
      · simp only [List.length_singleton] at hi
        obtain rfl : i = 0 := by omega
        rw [← hmS 0 h0, hm0, ← h1]; rfl
      · simp only [List.length_singleton] at hi hj
        obtain rfl : i = 0 := by omega
        obtain rfl : j = 0 := by omega
        rw [← hmR 0 0 h0 h0, hm0, ← h2]; rfl
    obtain ⟨t, rfl, ht, hfl⟩ := (mem_shapes _ _ _ hf).1 hl
    have hli : [y] ++ t ∈ isos a (a.part (frontL a.n x)) := mem_isos.2 ⟨by simp [ht]; omega, hfl⟩
    refine ⟨_, iso_comp hab hli (iso_inv hab hmi), ?_⟩
    have e : app (inv (frontL a.n x)) x = 0 := by
      have := inv_app hm h0
      rwa [hm0] at this
    rw [app_comp (by rw [len_inv, hml]; exact hx), e]
    rfl
  · rintro ⟨l, hl, rfl⟩
    obtain ⟨hp, hS, hR⟩ := mem_isos_iff.1 hl
    refine ⟨hS x hx, hR x x hx hx, ?_⟩
    have hli := iso_comp rfl hl hmi
    have hlen : (comp l (frontL a.n x)).length = a.n := by rw [len_comp, hml]
    have happ : app (comp l (frontL a.n x)) 0 = app l x := by rw [app_comp (by rw [hml]; exact h0), hm0]
    obtain ⟨t, ht⟩ : ∃ t, comp l (frontL a.n x) = app l x :: t := by
      cases hc : comp l (frontL a.n x) with
      | nil => rw [hc] at hlen; simp at hlen; omega
      | cons z t => rw [hc] at happ; exact ⟨t, by rw [show z = app l x from happ]⟩
    rw [ht] at hli hlen
    obtain ⟨_, hfit⟩ := mem_isos.1 hli
    have hmem : app l x :: t ∈ shapes a (a.part (frontL a.n x)) (a.n - 1) [app l x] :=
      (mem_shapes _ _ _ (Fits.prefix t (by simpa using hfit))).2 ⟨t, rfl, by simp at hlen; omega, hfit⟩
    cases hs : shapes a (a.part (frontL a.n x)) (a.n - 1) [app l x] with
    | nil => rw [hs] at hmem; cases hmem
    | cons l L => rfl

end Pl
end Go.Proofs.YtgiaebeoldigbaaDoor
