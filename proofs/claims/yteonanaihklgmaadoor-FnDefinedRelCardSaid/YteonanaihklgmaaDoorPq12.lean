/-
  Laws of the functions that the claim reaches, one after the other (packed by a program of the prover's: SHoldsc4, SHolds, StV, SHAt, SetP, DSetS, DRelS, LL, Lists, PtsI, Gs, Sym, LawAny, GsH, FvP, RegC). Conditions: texts below the reach.
-/
import Derived.Test.YteonanaihklgmaaDoorPq11
import Derived.Test.YteonanaihklgmaaDoorPq0
import Derived.Test.YteonanaihklgmaaDoorPq6
import Derived.Test.YteonanaihklgmaaDoorPq7
import Derived.StillTailTactics
import Derived.Test.YteonanaihklgmaaDoorPq4
import Derived.Test.YteonanaihklgmaaDoorPq8
import Derived.Test.YteonanaihklgmaaDoorPq10
import Derived.BigQuiet
import Derived.Test.YteonanaihklgmaaDoorPq5
set_option linter.unusedSimpArgs false
set_option linter.unusedVariables false

namespace Go.Proofs.YteonanaihklgmaaDoor
open Go.RowKit
open Pl
set_option linter.unusedSimpArgs false
set_option linter.unusedVariables false

set_option maxHeartbeats 4000000 in
set_option maxRecDepth 100000 in
theorem sh_c4 (a : St) (ha : a.ok) (v : Fin 4) (p : Fm) (Ih : SHAt a p) : SHAt a (.qu .c4 v p) := by
  intro s k r m e w hd hs hm he
  subst hm
  obtain ⟨hk1, hop, hle⟩ := at_op hd
  have h8 := ha.hi
  have XS := Lib.hid ((Bx.new w 27 #[.int .i64 (a.n : Int), .string (bs a.set), .string (bs a.rel)]).alloc (.cells #[.int .i64 (e 0 : Nat), .int .i64 (e 1 : Nat), .int .i64 (e 2 : Nat), .int .i64 (e 3 : Nat)] 79))
  have XE := Lib.hid (show Bx ((w.alloc (.cells #[.int .i64 (a.n : Int), .string (bs a.set), .string (bs a.rel)] 27)).alloc (.cells #[.int .i64 (e 0 : Nat), .int .i64 (e 1 : Nat), .int .i64 (e 2 : Nat), .int .i64 (e 3 : Nat)] 79)) (w.heap.size + 1) 79 #[.int .i64 (e 0 : Nat), .int .i64 (e 1 : Nat), .int .i64 (e 2 : Nat), .int .i64 (e 3 : Nat)] from bx_two w _ _)
  have BV := Lib.hid (show Below w.heap.size w ((w.alloc (.cells #[.int .i64 (a.n : Int), .string (bs a.set), .string (bs a.rel)] 27)).alloc (.cells #[.int .i64 (e 0 : Nat), .int .i64 (e 1 : Nat), .int .i64 (e 2 : Nat), .int .i64 (e 3 : Nat)] 79)) from ((Below.refl _ _).alloc (Nat.le_refl _) _).alloc (by simp) _)
  obtain ⟨s0, s1, s2⟩ := box_load XS.out
  have hev : ∀ v : Fin 4, ((w.alloc (.cells #[.int .i64 (a.n : Int), .string (bs a.set), .string (bs a.rel)] 27)).alloc (.cells #[.int .i64 (e 0 : Nat), .int .i64 (e 1 : Nat), .int .i64 (e 2 : Nat), .int .i64 (e 3 : Nat)] 79)).cell? ⟨w.heap.size + 1, v.val, none⟩ = some (.int .i64 (e v : Nat)) := fun v => (XE.out.cell v.val).trans (env_at e v)
  have c0 := XE.out.cell 0
  have c1 := XE.out.cell 1
  have c2 := XE.out.cell 2
  have c3 := XE.out.cell 3
  simp only [List.getElem?_toArray, List.getElem?_cons_zero, List.getElem?_cons_succ] at c0 c1 c2 c3
  have Hev := Lib.hid hev
  have He := Lib.hid he
  clear hev he
  unfold stA envA4
  have hk := hk1
  have hb : (s[k].toNat : Int) = 52 := by rw [hop]; rfl
  have hd1 := at_qu hd
  have hdv : s.data.toList.drop (k + 1) = vb v :: (p.text ++ r) := drop_add_of (p := [Qn.b .c4]) (by simpa [Fm.text] using hd)
  have h1 := fun W => l2Var_of s (k + 1) v _ ((k : Int) + 1) W hs hdv (by omega)
  have hend := fun W => l2End_of s (k + 2) p _ ((k : Int) + 2) W hs hd1 (by omega)
  simp only [Fm.text, List.length_cons] at hle
  have hv3 : (v.val : Int) < 4 := by omega
  have H1 := Lib.hid h1
  have Hend := Lib.hid hend
  have Hd1 := Lib.hid hd1
  clear hd hd1 hdv h1 hend
  clear hop
  go_enter Tryd.func83, Tryd.ntmps83
  go_wp2_with fail
  go_loopg [15, 16] (a.n + 1) (fun c cn xi wr => ∃ x : Nat, x + c = a.n + 1 ∧ x ≤ a.n ∧ xi = .int .i64 (x : Nat) ∧ cn = .int .i64 (Pl.cnt x (fun y => p.holds a (upd e v y)) : Nat) ∧ Bx wr w.heap.size 27 #[.int .i64 (a.n : Int), .string (bs a.set), .string (bs a.rel)] ∧ (∃ e' : Env, (∀ u, u ≠ v → e' u = e u) ∧ Bx wr (w.heap.size + 1) 79 #[.int .i64 (e' 0 : Nat), .int .i64 (e' 1 : Nat), .int .i64 (e' 2 : Nat), .int .i64 (e' 3 : Nat)]) ∧ Below w.heap.size w wr)
  case atStart => exact ⟨0, by omega, by omega, rfl, rfl, XS.out, ⟨e, fun _ _ => rfl, XE.out⟩, BV.out⟩
  case round =>
    clear s0 s1 s2 c0 c1 c2 c3
    obtain ⟨x, hx, hxn, rfl, rfl, hN, ⟨e', hE', hVl⟩, hf⟩ := hrel
    have hcn := cnt_le x (fun y => p.holds a (upd e v y))
    have hcs := cnt_succ x (fun y => p.holds a (upd e v y))
    have hen := fun h => @says_enough .c4 a.n x (fun y => p.holds a (upd e v y)) hxn h
    have hne := fun h h2 => @says_never .c4 a.n (x + 1) (fun y => p.holds a (upd e v y)) h h2
    have Hen := Lib.hid hen
    have Hne := Lib.hid hne
    have Hcs := Lib.hid hcs
    have HN := Lib.hid hN
    have HVl := Lib.hid hVl
    have HF := Lib.hid hf
    obtain ⟨Z, hZ⟩ : ∃ Z, Z = Pl.cnt x (fun y => p.holds a (upd e v y)) := ⟨_, rfl⟩
    have HZ := Lib.hid hZ
    rw [← hZ] at hcn ⊢
    clear hen hne hcs hN hVl hf hZ
    by_cases hlt : x < a.n
    · by_cases hgo : Z < 4
      · obtain ⟨s0, s1, s2⟩ := box_load HN.out
        have fv := HVl.out.free v.val
        have XS1 := Lib.hid (show Bx (wr.setCell ⟨w.heap.size + 1, v.val, none⟩ (.int .i64 (x : Nat))) w.heap.size 27 #[.int .i64 (a.n : Int), .string (bs a.set), .string (bs a.rel)] from HN.out.far (by simp) _)
        have XE1 := Lib.hid (show Bx (wr.setCell ⟨w.heap.size + 1, v.val, none⟩ (.int .i64 (x : Nat))) (w.heap.size + 1) 79 (envA4 (upd e v x)) from by
          have := HVl.out.set v.val (.int .i64 (x : Nat))
          rw [show (#[.int .i64 (e' 0 : Nat), .int .i64 (e' 1 : Nat), .int .i64 (e' 2 : Nat), .int .i64 (e' 3 : Nat)] : Array Value).setIfInBounds v.val (.int .i64 (x : Nat)) = envA4 (upd e v x) from by rw [← upd_upd e e' v x hE']; exact envA_upd e' v x] at this
          exact this)
        have B1 := Lib.hid (show Below w.heap.size w (wr.setCell ⟨w.heap.size + 1, v.val, none⟩ (.int .i64 (x : Nat))) from HF.out.setCell (by simp) _)
        have hlt' : upd e v x v < a.n := by rw [upd_same]; exact hlt
        have hcall := fun W => Ih s (k + 2) r ((k : Int) + 2) (upd e v x) W Hd1.out hs (by omega) (fun u => by unfold upd; split; exact hlt; exact He.out u)
        obtain ⟨E, hE⟩ : ∃ E, E = upd e v x := ⟨_, rfl⟩
        rw [← hE] at XE1
        simp only [← hE] at hcall
        unfold stA envA4 at hcall
        have HE := Lib.hid hE
        have cv := (HVl.out.cell v.val).trans (env_at e' v)
        clear hE' hE hlt'
        cases hp : p.holds a E with
        | false =>
          simp only [hp] at hcall
          have Hcall := Lib.hid hcall
          have hz1 : Pl.cnt (x + 1) (fun y => p.holds a (upd e v y)) = Z := by rw [Hcs.out, ← HE.out, hp, ← HZ.out]; rfl
          have Hz1 := Lib.hid hz1
          clear hcall hp hz1
          by_cases hbr : Z + (a.n - x - 1) < 4
          · have hv := Hne.out (by omega) (by rw [Hz1.out]; show Z + (a.n - (x + 1)) < 4; omega)
            have Hv := Lib.hid hv
            clear hv
            go_upto_region 33 with (go_at_call 93; refine (H1.out _).mono ?_; rintro ed w' ⟨rfl, rfl⟩)
            obtain ⟨r0, r1, r2⟩ := box_load XS1.out
            have d0 := XE1.out.cell 0
            have d1 := XE1.out.cell 1
            have d2 := XE1.out.cell 2
            have d3 := XE1.out.cell 3
            simp only [envA4, List.getElem?_toArray, List.getElem?_cons_zero, List.getElem?_cons_succ] at d0 d1 d2 d3
            clear s0 s1 s2 fv cv
            go_wp2_with (first | (go_at_call 83; refine (Hcall.out _).mono ?_; rintro ed w3 ⟨rfl, hz⟩; have B3 := Lib.hid (B1.out.trans (hz.mono B1.out.size)); have XS3 := Lib.hid (XS1.out.call hz); have XE3 := Lib.hid (XE1.out.call hz); clear hz r0 r1 r2 d0 d1 d2 d3; obtain ⟨t0, t1, t2⟩ := box_load XS3.out) | (go_at_call 69; refine (Hend.out _).mono ?_; rintro ed w7 ⟨rfl, rfl⟩))
            go_ret2
            exact ⟨ret_pair (by show Value.bool _ = Value.bool _; (congr 1; rw [show (Fm.qu .c4 v p).holds a e = false from Hv.out]; first | done | (simp; done) | (simp; omega))) (by show Value.int .i64 _ = Value.int .i64 _; congr 1 <;> simp [Fm.text] <;> omega), B3.out⟩
          · go_upto_region 33 with (go_at_call 93; refine (H1.out _).mono ?_; rintro ed w' ⟨rfl, rfl⟩)
            obtain ⟨r0, r1, r2⟩ := box_load XS1.out
            have d0 := XE1.out.cell 0
            have d1 := XE1.out.cell 1
            have d2 := XE1.out.cell 2
            have d3 := XE1.out.cell 3
            simp only [envA4, List.getElem?_toArray, List.getElem?_cons_zero, List.getElem?_cons_succ] at d0 d1 d2 d3
            clear s0 s1 s2 fv cv
            go_wp2_with (go_at_call 83; refine (Hcall.out _).mono ?_; rintro ed w3 ⟨rfl, hz⟩; have B3 := Lib.hid (B1.out.trans (hz.mono B1.out.size)); have XS3 := Lib.hid (XS1.out.call hz); have XE3 := Lib.hid (XE1.out.call hz); clear hz r0 r1 r2 d0 d1 d2 d3; obtain ⟨t0, t1, t2⟩ := box_load XS3.out)
            go_roundg (a.n - x)
            case rel => exact ⟨x + 1, by omega, by omega, by go_num, by first | (rw [Hz1.out]; done) | (rw [Hz1.out]; rfl), XS3.out, ⟨E, fun u hu => by rw [HE.out, upd_other hu], XE3.out⟩, B3.out⟩
            case measure => omega
        | true =>
          simp only [hp] at hcall
          have Hcall := Lib.hid hcall
          have hz1 : Pl.cnt (x + 1) (fun y => p.holds a (upd e v y)) = Z + 1 := by rw [Hcs.out, ← HE.out, hp, ← HZ.out]; rfl
          have Hz1 := Lib.hid hz1
          clear hcall hp hz1
          by_cases hbr : Z + 1 + (a.n - x - 1) < 4
          · have hv := Hne.out (by omega) (by rw [Hz1.out]; show Z + 1 + (a.n - (x + 1)) < 4; omega)
            have Hv := Lib.hid hv
            clear hv
            go_upto_region 33 with (go_at_call 93; refine (H1.out _).mono ?_; rintro ed w' ⟨rfl, rfl⟩)
            obtain ⟨r0, r1, r2⟩ := box_load XS1.out
            have d0 := XE1.out.cell 0
            have d1 := XE1.out.cell 1
            have d2 := XE1.out.cell 2
            have d3 := XE1.out.cell 3
            simp only [envA4, List.getElem?_toArray, List.getElem?_cons_zero, List.getElem?_cons_succ] at d0 d1 d2 d3
            clear s0 s1 s2 fv cv
            go_wp2_with (first | (go_at_call 83; refine (Hcall.out _).mono ?_; rintro ed w3 ⟨rfl, hz⟩; have B3 := Lib.hid (B1.out.trans (hz.mono B1.out.size)); have XS3 := Lib.hid (XS1.out.call hz); have XE3 := Lib.hid (XE1.out.call hz); clear hz r0 r1 r2 d0 d1 d2 d3; obtain ⟨t0, t1, t2⟩ := box_load XS3.out) | (go_at_call 69; refine (Hend.out _).mono ?_; rintro ed w7 ⟨rfl, rfl⟩))
            go_ret2
            exact ⟨ret_pair (by show Value.bool _ = Value.bool _; (congr 1; rw [show (Fm.qu .c4 v p).holds a e = false from Hv.out]; first | done | (simp; done) | (simp; omega))) (by show Value.int .i64 _ = Value.int .i64 _; congr 1 <;> simp [Fm.text] <;> omega), B3.out⟩
          · go_upto_region 33 with (go_at_call 93; refine (H1.out _).mono ?_; rintro ed w' ⟨rfl, rfl⟩)
            obtain ⟨r0, r1, r2⟩ := box_load XS1.out
            have d0 := XE1.out.cell 0
            have d1 := XE1.out.cell 1
            have d2 := XE1.out.cell 2
            have d3 := XE1.out.cell 3
            simp only [envA4, List.getElem?_toArray, List.getElem?_cons_zero, List.getElem?_cons_succ] at d0 d1 d2 d3
            clear s0 s1 s2 fv cv
            go_wp2_with (go_at_call 83; refine (Hcall.out _).mono ?_; rintro ed w3 ⟨rfl, hz⟩; have B3 := Lib.hid (B1.out.trans (hz.mono B1.out.size)); have XS3 := Lib.hid (XS1.out.call hz); have XE3 := Lib.hid (XE1.out.call hz); clear hz r0 r1 r2 d0 d1 d2 d3; obtain ⟨t0, t1, t2⟩ := box_load XS3.out)
            go_roundg (a.n - x)
            case rel => exact ⟨x + 1, by omega, by omega, by go_num, by first | (rw [Hz1.out]; done) | (rw [Hz1.out]; rfl), XS3.out, ⟨E, fun u hu => by rw [HE.out, upd_other hu], XE3.out⟩, B3.out⟩
            case measure => omega
      · obtain ⟨s0, s1, s2⟩ := box_load HN.out
        have hv := Hen.out (by rw [← HZ.out]; show 4 ≤ Z; omega)
        have Hv := Lib.hid hv
        clear hv
        go_wp2_with (go_at_call 69; refine (Hend.out _).mono ?_; rintro ed w7 ⟨rfl, rfl⟩)
        go_ret2
        exact ⟨ret_pair (by show Value.bool _ = Value.bool _; (congr 1; rw [show (Fm.qu .c4 v p).holds a e = true from Hv.out]; first | done | (simp; done) | (simp; omega))) (by show Value.int .i64 _ = Value.int .i64 _; congr 1 <;> simp [Fm.text] <;> omega), HF.out⟩
    · have hxe : x = a.n := by omega
      obtain ⟨s0, s1, s2⟩ := box_load HN.out
      have hv : (Fm.qu .c4 v p).holds a e = decide (4 ≤ Z) := by
        show Qn.says .c4 a.n (Pl.cnt a.n (fun y => p.holds a (upd e v y))) = _
        rw [← hxe, ← HZ.out, says_need _ hcn]
        rfl
      have Hv := Lib.hid hv
      clear hv
      go_wp2_with (go_at_call 69; refine (Hend.out _).mono ?_; rintro ed w7 ⟨rfl, rfl⟩)
      go_ret2
      exact ⟨ret_pair (by show Value.bool _ = Value.bool _; (congr 1; rw [Hv.out, decide_eq_decide]; first | done | omega)) (by show Value.int .i64 _ = Value.int .i64 _; congr 1 <;> simp [Fm.text] <;> omega), HF.out⟩



end Go.Proofs.YteonanaihklgmaaDoor

namespace Go.Proofs.YteonanaihklgmaaDoor
open Go.RowKit
open Pl
set_option linter.unusedSimpArgs false
set_option linter.unusedVariables false

theorem l2Holds_all (a : St) (ha : a.ok) : ∀ f : Fm, SHAt a f := by
  intro f
  induction f with
  | tru => exact sh_tru a ha
  | fls => exact sh_fls a ha
  | pr v => exact sh_pr a ha v
  | eq v u => exact sh_eq a ha v u
  | rel v u => exact sh_rel a ha v u
  | neg p ih => exact sh_neg a ha p ih
  | con p q ih ih2 => exact sh_con a ha p q ih ih2
  | dis p q ih ih2 => exact sh_dis a ha p q ih ih2
  | qu k v p ih =>
    cases k with
    | A => exact sh_A a ha v p ih
    | S => exact sh_S a ha v p ih
    | c2 => exact sh_c2 a ha v p ih
    | c3 => exact sh_c3 a ha v p ih
    | c4 => exact sh_c4 a ha v p ih

end Go.Proofs.YteonanaihklgmaaDoor

namespace Go.Proofs.YteonanaihklgmaaDoor
open Go.RowKit
open Pl
set_option linter.unusedSimpArgs false
set_option linter.unusedVariables false

end Go.Proofs.YteonanaihklgmaaDoor

namespace Go.Proofs.YteonanaihklgmaaDoor
open Go.RowKit
open Pl
set_option linter.unusedSimpArgs false
set_option linter.unusedVariables false

theorem div_natS (m k : Nat) : (m : Int) / 2 ^ k = ((m / 2 ^ k : Nat) : Int) := by
  rw [Int.natCast_ediv, Int.natCast_pow]; rfl
theorem st_ofS {i : Int} {s r : ByteArray} (h : okB i s r = true) : ∃ a : St, a.ok ∧ i = a.n ∧ s = bs a.set ∧ r = bs a.rel := by
  rcases ok_cases i s r with h2 | h2
  · rw [h] at h2; cases h2
  · exact h2
theorem el_inS (n : Nat) (z : Int) : (decide (0 ≤ z) && decide (z ≤ (n : Int) - 1)) = elB n z := by
  unfold elB
  congr 1
  rw [decide_eq_decide]; omega
theorem elAll_of {i : Int} {zs : List Int} (h : ∀ j, j < zs.length → elB i (zs.getD j 0) = true) : elAll i zs = true := by
  unfold elAll
  rw [List.all_eq_true]
  intro z hz
  obtain ⟨j, hj, rfl⟩ := List.getElem_of_mem hz
  have := h j hj
  rwa [List.getD_eq_getElem?_getD, List.getElem?_eq_getElem hj] at this
theorem elAll_not {i : Int} {zs : List Int} {j : Nat} (hj : j < zs.length) (h : elB i (zs.getD j 0) = false) : elAll i zs = false := by
  refine Bool.eq_false_iff.2 fun hq => ?_
  unfold elAll at hq
  have := List.all_eq_true.1 hq (zs.getD j 0) (by rw [List.getD_eq_getElem?_getD, List.getElem?_eq_getElem hj]; exact List.getElem_mem hj)
  rw [h] at this; cases this
/-- the elements so far -/
def envK (zs : List Int) (k : Nat) : Env := fun v => if v.val < k then (zs.getD v.val 0).toNat else 0
theorem envK_succ (zs : List Int) (k : Nat) (hk : k < 4) (x : Nat) (hx : zs.getD k 0 = (x : Int)) : upd (envK zs k) ⟨k, hk⟩ x = envK zs (k + 1) := by
  funext u
  unfold upd envK
  by_cases hu : u = ⟨k, hk⟩
  · subst hu
    simp only [if_true, hx]
    rw [if_pos (by omega)]
    rfl
  · have : u.val ≠ k := fun e => hu (Fin.ext e)
    rw [if_neg hu]
    by_cases h2 : u.val < k
    · rw [if_pos h2, if_pos (by omega)]
    · rw [if_neg h2, if_neg (by omega)]
theorem envK_all (zs : List Int) : envK zs zs.length = envL (zs.map Int.toNat) := by
  funext u
  unfold envK envL
  by_cases h : u.val < zs.length
  · rw [if_pos h, List.getD_eq_getElem?_getD, List.getD_eq_getElem?_getD, List.getElem?_map, List.getElem?_eq_getElem h]; rfl
  · rw [if_neg h, List.getD_eq_getElem?_getD, List.getElem?_map, List.getElem?_eq_none (by omega)]; rfl

set_option maxHeartbeats 1000000 in
set_option maxRecDepth 100000 in
theorem l2True_calls (a : St) (ha : a.ok) (f : ByteArray) (g : Fm) (e : Env) (w : World) (hf : f.data.toList = g.text) (hs : f.size ≤ 4000) (he : ∀ v, e v < a.n) :
    Calls Tryd.prog 51 #[stA a, .string f, .agg (envA4 e)] w fun ed w' => ed = .returned (.bool (g.holds a e)) ∧ Below w.heap.size w w' := by
  have hc := fun W => l2Holds_all a ha g f 0 [] 0 e W (by simpa using hf) hs rfl he
  have XS := Lib.hid ((Bx.new w 27 #[.int .i64 (a.n : Int), .string (bs a.set), .string (bs a.rel)]).alloc (.cells #[.int .i64 (e 0 : Nat), .int .i64 (e 1 : Nat), .int .i64 (e 2 : Nat), .int .i64 (e 3 : Nat)] 79))
  have XE := Lib.hid (show Bx ((w.alloc (.cells #[.int .i64 (a.n : Int), .string (bs a.set), .string (bs a.rel)] 27)).alloc (.cells #[.int .i64 (e 0 : Nat), .int .i64 (e 1 : Nat), .int .i64 (e 2 : Nat), .int .i64 (e 3 : Nat)] 79)) (w.heap.size + 1) 79 #[.int .i64 (e 0 : Nat), .int .i64 (e 1 : Nat), .int .i64 (e 2 : Nat), .int .i64 (e 3 : Nat)] from bx_two w _ _)
  have BV := Lib.hid (show Below w.heap.size w ((w.alloc (.cells #[.int .i64 (a.n : Int), .string (bs a.set), .string (bs a.rel)] 27)).alloc (.cells #[.int .i64 (e 0 : Nat), .int .i64 (e 1 : Nat), .int .i64 (e 2 : Nat), .int .i64 (e 3 : Nat)] 79)) from ((Below.refl _ _).alloc (Nat.le_refl _) _).alloc (by simp) _)
  obtain ⟨s0, s1, s2⟩ := box_load XS.out
  have c0 := XE.out.cell 0
  have c1 := XE.out.cell 1
  have c2 := XE.out.cell 2
  have c3 := XE.out.cell 3
  simp only [List.getElem?_toArray, List.getElem?_cons_zero, List.getElem?_cons_succ] at c0 c1 c2 c3
  unfold stA envA4 at hc ⊢
  have Hc := Lib.hid hc
  clear hc hf he
  go_enter Tryd.func51, Tryd.ntmps51
  go_wp2_with (go_at_call 83; refine (Hc.out _).mono ?_; rintro ed w1 ⟨rfl, hz⟩; have B1 := Lib.hid (BV.out.trans (hz.mono BV.out.size)); clear hz s0 s1 s2 c0 c1 c2 c3)
  go_ret
  exact ⟨rfl, B1.out⟩

set_option maxHeartbeats 1000000 in
set_option maxRecDepth 100000 in
theorem l3Ready_calls (i : Int) (s r f : ByteArray) (k : Nat) (w : World) (hs : s.size ≤ maxLen) (hr : r.size ≤ maxLen) (hf : f.size ≤ maxLen) (hk : k ≤ 4) :
    Calls Tryd.prog 48 #[stV i s r, .string f, .int .i64 (k : Nat)] w fun e w' => e = .returned (.bool (rdyB i s r f k)) ∧ Below w.heap.size w w' := by
  have cS := fun W => StructureValid_spec i s r W hs hr
  have cF := fun W => FormulaValid_spec f W hf
  have B0 := Lib.hid (show Below w.heap.size w (w.alloc (.cells #[.int .i64 i, .string s, .string r] 27)) from (Below.refl _ _).alloc (Nat.le_refl _) _)
  obtain ⟨k0, k1, k2⟩ := box_load (Bx.new w 27 #[.int .i64 i, .string s, .string r])
  clear hs hr hf
  cases hok : okB i s r
  case false =>
    rw [rdy_noSt hok]
    simp only [hok] at cS
    have CS := Lib.hid cS
    clear cS cF hok
    go_enter Tryd.func48, Tryd.ntmps48
    go_wp2_with (go_at_call 81; refine (CS.out _).mono ?_; rintro e w1 ⟨rfl, hz⟩; have B1 := Lib.hid (B0.out.trans (hz.mono B0.out.size)); clear hz k0 k1 k2)
    go_ret
    exact ⟨rfl, B1.out⟩
  case true =>
  simp only [hok] at cS
  have CS := Lib.hid cS
  clear cS
  rcases fm_cases f with ⟨hb, hno⟩ | ⟨g, hb, hfm, hs4, hl4⟩
  · rw [rdy_noFm hb]
    simp only [hb] at cF
    have CF := Lib.hid cF
    clear cF hok hb hno
    go_enter Tryd.func48, Tryd.ntmps48
    go_wp2_with (first | (go_at_call 81; refine (CS.out _).mono ?_; rintro e w1 ⟨rfl, hz⟩; have B1 := Lib.hid (B0.out.trans (hz.mono B0.out.size)); clear hz k0 k1 k2) | (go_at_call 36; refine (CF.out _).mono ?_; rintro e w2 ⟨rfl, rfl⟩))
    go_ret
    exact ⟨rfl, B1.out⟩
  · obtain ⟨a, ha, rfl, rfl, rfl⟩ := st_ofS hok
    rw [rdy_of hb hfm ha k]
    simp only [hb] at cF
    have CF := Lib.hid cF
    have hcall := l2Free_calls g.size g f 0 [] 0
    have Hc := Lib.hid (fun W => hcall W (Nat.le_refl _) (by simpa using hfm) hs4 rfl)
    have Hdv := Lib.hid (div_natS g.freeBits k)
    have hki : (k : Int) ≤ 4 := by omega
    have hfr : g.freeBits < 16 := freeBits_lt g
    clear cF hok hb hfm hcall
    go_enter Tryd.func48, Tryd.ntmps48
    go_wp2_with (first | (go_at_call 81; refine (CS.out _).mono ?_; rintro e w1 ⟨rfl, hz⟩; have B1 := Lib.hid (B0.out.trans (hz.mono B0.out.size)); clear hz k0 k1 k2) | (go_at_call 36; refine (CF.out _).mono ?_; rintro e w2 ⟨rfl, rfl⟩) | (go_at_call 82; refine (Hc.out _).mono ?_; rintro e w2 ⟨rfl, rfl⟩))
    go_ret
    exact ⟨congrArg Ending.returned (show Value.bool ((g.freeBits : Int) / 2 ^ k == 0) = Value.bool _ from by congr 1; rw [Bool.eq_iff_iff, decide_eq_true_eq, beq_iff_eq]; have := Hdv.out; omega), B1.out⟩

end Go.Proofs.YteonanaihklgmaaDoor

namespace Go.Proofs.YteonanaihklgmaaDoor
open Go.RowKit
open Pl
set_option linter.unusedSimpArgs false
set_option linter.unusedVariables false

/-- the elements for which a formula is true -/
noncomputable def setV (i : Int) (s r f : ByteArray) : List Nat := if rdyB i s r f 1 then rk (fun x => truV i s r f [x]) (ofSt i s r).n else []
theorem set_no {i : Int} {s r f : ByteArray} (h : rdyB i s r f 1 = false) : setV i s r f = [] := by unfold setV; rw [h]; rfl
theorem set_yes {a : St} {f : ByteArray} {g : Fm} (hf : f.data.toList = g.text) (h : rdyB a.n (bs a.set) (bs a.rel) f 1 = true) : setV a.n (bs a.set) (bs a.rel) f = rk (fun x => g.holds a (envL [x])) a.n := by
  unfold setV
  rw [h]
  simp only [tru_of hf, ofSt_eq, if_true]
theorem set_le (i : Int) (s r f : ByteArray) : (setV i s r f).length ≤ 8 := by
  unfold setV
  split
  · rename_i h
    rcases ok_cases i s r with h1 | ⟨a, ha, rfl, rfl, rfl⟩
    · rw [rdy_noSt h1] at h; cases h
    · have h8 := ha.hi
      rw [ofSt_eq]
      exact Nat.le_trans (rk_len _ _) h8
  · simp

end Go.Proofs.YteonanaihklgmaaDoor

namespace Go.Proofs.YteonanaihklgmaaDoor
open Go.RowKit
open Pl
set_option linter.unusedSimpArgs false
set_option linter.unusedVariables false

attribute [local go_sem ↓] Go.wp_at_zero Go.wp_at_succ

theorem l2True_one (a : St) (ha : a.ok) (f : ByteArray) (g : Fm) (x : Nat) (w : World) (hf : f.data.toList = g.text) (hs : f.size ≤ 4000) (hx : x < a.n) :
    Calls Tryd.prog 51 #[stA a, .string f, .agg #[.int .i64 (x : Nat), .int .i64 0, .int .i64 0, .int .i64 0]] w fun ed w' => ed = .returned (.bool (g.holds a (envL [x]))) ∧ Below w.heap.size w w' :=
  l2True_calls a ha f g (envL [x]) w hf hs (env_lt ha fun y hy => by simp at hy; subst hy; exact hx)
theorem rdy_fm {i : Int} {s r f : ByteArray} {k : Nat} (h : rdyB i s r f k = true) : ∃ (a : St) (g : Fm), a.ok ∧ i = a.n ∧ s = bs a.set ∧ r = bs a.rel ∧ f.data.toList = g.text ∧ f.size ≤ 4000 := by
  rcases ok_cases i s r with h1 | ⟨a, ha, h2, h3, h4⟩
  · rw [rdy_noSt h1] at h; cases h
  · rcases fm_cases f with ⟨hb, _⟩ | ⟨g, hb, hf, hs4, _⟩
    · rw [rdy_noFm hb] at h; cases h
    · exact ⟨a, g, ha, h2, h3, h4, hf, hs4⟩

end Go.Proofs.YteonanaihklgmaaDoor

namespace Go.Proofs.YteonanaihklgmaaDoor
open Go.RowKit
open Pl
set_option linter.unusedSimpArgs false
set_option linter.unusedVariables false

theorem l2True_two (a : St) (ha : a.ok) (f : ByteArray) (g : Fm) (x y : Nat) (w : World) (hf : f.data.toList = g.text) (hs : f.size ≤ 4000) (hx : x < a.n) (hy : y < a.n) :
    Calls Tryd.prog 51 #[stA a, .string f, .agg #[.int .i64 (x : Nat), .int .i64 (y : Nat), .int .i64 0, .int .i64 0]] w fun ed w' => ed = .returned (.bool (g.holds a (envL [x, y]))) ∧ Below w.heap.size w w' :=
  l2True_calls a ha f g (envL [x, y]) w hf hs (env_lt ha fun z hz => by simp at hz; rcases hz with rfl | rfl <;> assumption)

set_option maxHeartbeats 4000000 in
set_option maxRecDepth 100000 in
theorem l3Rel_calls (a : St) (ha : a.ok) (f : ByteArray) (g : Fm) (w : World) (hf : f.data.toList = g.text) (hs : f.size ≤ 4000) :
    Calls Tryd.prog 60 #[stA a, .string f] w fun e w' => e = .returned (.string (bs (relTo a.n (fun x y => g.holds a (envL [x, y])) a.n))) ∧ Below w.heap.size w w' := by
  obtain ⟨G0, hG0⟩ : ∃ G0 : Nat → Nat → Bool, G0 = fun x y => g.holds a (envL [x, y]) := ⟨_, rfl⟩
  have ct : ∀ (x y : Nat) (W : World), x < a.n → y < a.n → Calls Tryd.prog 51 #[.agg #[.int .i64 (a.n : Int), .string (bs a.set), .string (bs a.rel)], .string f, .agg #[.int .i64 (x : Nat), .int .i64 (y : Nat), .int .i64 0, .int .i64 0]] W fun ed w' => ed = .returned (.bool (G0 x y)) ∧ Below W.heap.size W w' := fun x y W hx hy => by
    rw [hG0]; exact l2True_two a ha f g x y W hf hs hx hy
  rw [← hG0]
  have CTR := Lib.hid ct
  have h8 := ha.hi
  have Xa := Lib.hid (Bx.new w 27 #[.int .i64 (a.n : Int), .string (bs a.set), .string (bs a.rel)])
  have B0 := Lib.hid ((Below.refl w.heap.size w).alloc (Nat.le_refl _) (.cells #[.int .i64 (a.n : Int), .string (bs a.set), .string (bs a.rel)] 27))
  clear ct hG0 hf
  unfold stA
  go_enter Tryd.func60, Tryd.ntmps60
  go_wp2_with fail
  go_loopg [5, 6] a.n (fun c o i wr => ∃ k : Nat, k + c = a.n ∧ i = .int .i64 (k : Nat) ∧ o = .string (bs (relTo a.n G0 k)) ∧ Bx wr w.heap.size 27 #[.int .i64 (a.n : Int), .string (bs a.set), .string (bs a.rel)] ∧ Below w.heap.size w wr)
  case atStart => exact ⟨0, by omega, rfl, rfl, Xa.out, B0.out⟩
  case round =>
    obtain ⟨k, hk, rfl, rfl, hxa, hbl⟩ := hrel
    have HX := Lib.hid hxa
    have Hbl := Lib.hid hbl
    clear hxa hbl
    obtain ⟨m0, m1, m2⟩ := box_load HX.out
    by_cases hlt : k < a.n
    · go_wp2_with fail
      go_loopg [5, 7] a.n (fun c o i wr => ∃ j : Nat, j + c = a.n ∧ i = .int .i64 (j : Nat) ∧ o = .string (bs (relAt a.n G0 k j)) ∧ Bx wr w.heap.size 27 #[.int .i64 (a.n : Int), .string (bs a.set), .string (bs a.rel)] ∧ Below w.heap.size w wr)
      case atStart => exact ⟨0, by omega, rfl, by rw [relAt_zero], HX.out, Hbl.out⟩
      case round =>
        clear m0 m1 m2
        obtain ⟨j, hj, rfl, rfl, hxa, hbl⟩ := hrel
        have HX := Lib.hid hxa
        have Hbl := Lib.hid hbl
        clear hxa hbl
        obtain ⟨m0, m1, m2⟩ := box_load HX.out
        have s1 : (bs (relAt a.n G0 k j)).size ≤ 100 := by
          rw [bs_size, relAt_len]
          have h64 := sq_le h8
          have hkn : k * a.n ≤ a.n * a.n := Nat.mul_le_mul_right a.n (by omega)
          omega
        by_cases hlj : j < a.n
        · have s2 : (bs [bitB (G0 k j)]).size ≤ 1 := by rw [bs_size]; simp
          have hs3 : bs (relAt a.n G0 k j) ++ bs [bitB (G0 k j)] = bs (relAt a.n G0 k (j + 1)) := by rw [append_bs, bs_data, bs_data, relAt_succ]
          have Hs3 := Lib.hid hs3
          have HC := Lib.hid (fun W => CTR.out k j W hlt hlj)
          clear hs3
          go_wp2_with (first | (go_at_call 51; refine (HC.out _).mono ?_; rintro e w4 ⟨rfl, hz⟩; have F4 := Lib.hid (Hbl.out.trans (hz.mono Hbl.out.size)); have X4 := Lib.hid (HX.out.call hz); clear hz m0 m1 m2; obtain ⟨m0, m1, m2⟩ := box_load X4.out) | (go_at_call 86; refine (l1Bit_calls _ _).mono ?_; rintro e w5 ⟨rfl, rfl⟩))
          go_roundg (a.n - j - 1)
          case rel => exact ⟨j + 1, by omega, by go_num, str_eq Hs3.out, X4.out, F4.out⟩
          case measure => omega
        · obtain rfl : j = a.n := by omega
          go_wp2_with fail
          go_roundg (a.n - k - 1)
          case rel => exact ⟨k + 1, by omega, by go_num, by rw [relTo_succ], HX.out, Hbl.out⟩
          case measure => omega
    · obtain rfl : k = a.n := by omega
      go_wp2_with fail
      go_ret
      exact ⟨rfl, Hbl.out⟩

set_option maxHeartbeats 1000000 in
set_option maxRecDepth 100000 in
theorem DefinedRel_spec (i : Int) (s r f : ByteArray) (w : World) (hs : s.size ≤ maxLen) (hr : r.size ≤ maxLen) (hf : f.size ≤ maxLen) :
    Calls Tryd.prog 27 #[stV i s r, .string f] w fun e w' => e = .returned (.tuple #[.string (relV i s r f), .bool (rdyB i s r f 2)]) ∧ Below w.heap.size w w' := by
  have cr := fun W => l3Ready_calls i s r f 2 W hs hr hf (by omega)
  have B0 := Lib.hid (show Below w.heap.size w (w.alloc (.cells #[.int .i64 i, .string s, .string r] 27)) from (Below.refl _ _).alloc (Nat.le_refl _) _)
  have Xa := Lib.hid (Bx.new w 27 #[.int .i64 i, .string s, .string r])
  obtain ⟨k0, k1, k2⟩ := box_load Xa.out
  clear hs hr hf
  cases hry : rdyB i s r f 2
  case false =>
    rw [rel_no hry]
    simp only [hry] at cr
    have CR := Lib.hid cr
    clear cr hry
    go_enter Tryd.func27, Tryd.ntmps27
    go_wp2_with fail
    refine (CR.out _).mono ?_
    rintro e w1 ⟨rfl, hz⟩
    have B1 := Lib.hid (B0.out.trans (hz.mono B0.out.size))
    clear hz k0 k1 k2
    go_wp2_with fail
    go_ret2
    exact ⟨rfl, B1.out⟩
  case true =>
    obtain ⟨a, g, ha, rfl, rfl, rfl, hfm, hs4⟩ := rdy_fm hry
    rw [rel_yes hfm hry]
    simp only [hry] at cr
    have CR := Lib.hid cr
    have CL := Lib.hid (fun W => l3Rel_calls a ha f g W hfm hs4)
    clear cr hry hfm
    go_enter Tryd.func27, Tryd.ntmps27
    go_wp2_with fail
    refine (CR.out _).mono ?_
    rintro e w1 ⟨rfl, hz⟩
    have B1 := Lib.hid (B0.out.trans (hz.mono B0.out.size))
    have X1 := Lib.hid (Xa.out.call hz)
    clear hz k0 k1 k2
    obtain ⟨k0, k1, k2⟩ := box_load X1.out
    go_wp2_with fail
    refine (CL.out _).mono ?_
    rintro e w2 ⟨rfl, hz⟩
    have B2 := Lib.hid (B1.out.trans (hz.mono B1.out.size))
    clear hz k0 k1 k2
    go_wp2_with fail
    go_ret2
    exact ⟨rfl, B2.out⟩

end Go.Proofs.YteonanaihklgmaaDoor

namespace Go.Proofs.YteonanaihklgmaaDoor
open Go.RowKit
open Pl
set_option linter.unusedSimpArgs false
set_option linter.unusedVariables false

/-- one of the lists -/
def Inn (W : World) (base : Nat) (v : Value) (L : List Nat) : Prop := ∃ g cap, v = .slice (some ⟨g, 0, none⟩) L.length cap ∧ W.ownsRow base 3 1 v L.length (intsV (natsI L))
/-- the lists -/
def Inns (W : World) (base : Nat) (vals : List Value) (Ls : List (List Nat)) : Prop := vals.length = Ls.length ∧ ∀ (i : Nat) (v : Value) (L : List Nat), vals[i]? = some v → Ls[i]? = some L → Inn W base v L
/-- a list of lists -/
def LL (W : World) (base : Nat) (v : Value) (Ls : List (List Nat)) : Prop := (∃ g cap, v = .slice (some ⟨g, 0, none⟩) Ls.length cap) ∧ ∃ vals, W.ownsRow base 30 1 v Ls.length vals ∧ Inns W base vals Ls

theorem Inn.call {W W' : World} {base : Nat} {v : Value} {L : List Nat} (h : Inn W base v L) (hb : Below W.heap.size W W') : Inn W' base v L := by
  obtain ⟨g, cap, h1, h2⟩ := h
  exact ⟨g, cap, h1, own_call h2 hb⟩
theorem Inn.base {W : World} {base base' : Nat} {v : Value} {L : List Nat} (h : Inn W base v L) (hb : base' ≤ base) : Inn W base' v L := by
  obtain ⟨g, cap, h1, h2⟩ := h
  exact ⟨g, cap, h1, own_base h2 hb⟩
theorem Inn.grown {W W' : World} {base base2 n : Nat} {v u : Value} {L : List Nat} {xs : List Value} (h : Inn W base v L) (hu : W.ownsRow base2 30 1 u n xs) (hg : W.grownBy W' u.ownBlock) : Inn W' base v L := by
  obtain ⟨g, cap, h1, h2⟩ := h
  exact ⟨g, cap, h1, own_others h2 hg (Apart.types h2 hu (by decide))⟩
theorem Inns.call {W W' : World} {base : Nat} {vals : List Value} {Ls : List (List Nat)} (h : Inns W base vals Ls) (hb : Below W.heap.size W W') : Inns W' base vals Ls :=
  ⟨h.1, fun i v L h1 h2 => (h.2 i v L h1 h2).call hb⟩
theorem Inns.grown {W W' : World} {base base2 n : Nat} {vals : List Value} {u : Value} {Ls : List (List Nat)} {xs : List Value} (h : Inns W base vals Ls) (hu : W.ownsRow base2 30 1 u n xs) (hg : W.grownBy W' u.ownBlock) : Inns W' base vals Ls :=
  ⟨h.1, fun i v L h1 h2 => (h.2 i v L h1 h2).grown hu hg⟩
theorem Inns.snoc {W : World} {base : Nat} {vals : List Value} {Ls : List (List Nat)} {v : Value} {L : List Nat} (h : Inns W base vals Ls) (hv : Inn W base v L) : Inns W base (vals ++ [v]) (Ls ++ [L]) := by
  refine ⟨by simp [h.1], fun i u M h1 h2 => ?_⟩
  by_cases hi : i < vals.length
  · rw [List.getElem?_append_left hi] at h1
    rw [List.getElem?_append_left (by rw [← h.1]; exact hi)] at h2
    exact h.2 i u M h1 h2
  · rw [List.getElem?_append_right (by omega)] at h1
    rw [List.getElem?_append_right (by rw [← h.1]; omega)] at h2
    rw [← h.1] at h2
    have h0 : i - vals.length = 0 := by
      rcases Nat.eq_zero_or_pos (i - vals.length) with h0 | h0
      · exact h0
      · rw [List.getElem?_eq_none (by simp; omega)] at h1; cases h1
    rw [h0] at h1 h2
    simp at h1 h2
    subst h1 h2
    exact hv
theorem Inns.nil (W : World) (base : Nat) : Inns W base [] [] := ⟨rfl, fun i v L h => by simp at h⟩
theorem LL.call {W W' : World} {base : Nat} {v : Value} {Ls : List (List Nat)} (h : LL W base v Ls) (hb : Below W.heap.size W W') : LL W' base v Ls := by
  obtain ⟨hf, vals, h1, h2⟩ := h
  exact ⟨hf, vals, own_call h1 hb, h2.call hb⟩
theorem LL.alloc {W : World} {base : Nat} {v : Value} {Ls : List (List Nat)} (h : LL W base v Ls) (o : Obj) : LL (W.alloc o) base v Ls := h.call ((Below.refl _ _).alloc (Nat.le_refl _) _)
theorem LL.base {W : World} {base base' : Nat} {v : Value} {Ls : List (List Nat)} (h : LL W base v Ls) (hb : base' ≤ base) : LL W base' v Ls := by
  obtain ⟨hf, vals, h1, h2⟩ := h
  exact ⟨hf, vals, own_base h1 hb, h2.1, fun i v L g1 g2 => (h2.2 i v L g1 g2).base hb⟩
theorem Inn.fz {W W' : World} {B base : Nat} {v : Value} {L : List Nat} (h : Inn W base v L) (hf : Fz B W W') : Inn W' base v L := by
  obtain ⟨g, cap, h1, h2, h3⟩ := h
  refine ⟨g, cap, h1, h2, h3.imp (fun h => h) fun ⟨g, c, cur, hv, hg, hh, hr⟩ => ⟨g, c, cur, hv, hg, hf.cells _ _ _ _ hh, hr⟩⟩
theorem LL.fz {W W' : World} {B base : Nat} {v : Value} {Ls : List (List Nat)} (h : LL W base v Ls) (hf : Fz B W W') : LL W' base v Ls := by
  obtain ⟨hv, vals, ⟨h2, h3⟩, h4, h5⟩ := h
  exact ⟨hv, vals, ⟨h2, h3.imp (fun h => h) fun ⟨g, c, cur, hv, hg, hh, hr⟩ => ⟨g, c, cur, hv, hg, hf.cells _ _ _ _ hh, hr⟩⟩, h4, fun i v L g1 g2 => (h5 i v L g1 g2).fz hf⟩
/-- a list of lists beside another one that grows -/
theorem LL.others {W W' : World} {base base2 n : Nat} {v u : Value} {Ls : List (List Nat)} {xs : List Value} (h : LL W base v Ls) (hu : W.ownsRow base2 30 1 u n xs) (hg : W.grownBy W' u.ownBlock) (ha : Apart v u) : LL W' base v Ls := by
  obtain ⟨hf, vals, h1, h2⟩ := h
  exact ⟨hf, vals, own_others h1 hg ha, h2.grown hu hg⟩
/-- one list more -/
theorem LL.push {W W' : World} {base : Nat} {v v' u : Value} {Ls : List (List Nat)} {L : List Nat} {vals : List Value} (h1 : W.ownsRow base 30 1 v Ls.length vals) (h2 : Inns W base vals Ls) (hL : Inn W base u L) (ho : W'.ownsRow base 30 1 v' (Ls.length + 1) (vals ++ [u])) (hg : W.grownBy W' v.ownBlock) : LL W' base v' (Ls ++ [L]) :=
  ⟨by rw [List.length_append, List.length_singleton]; exact own_form ho, vals ++ [u], by rw [List.length_append, List.length_singleton]; exact ho, (h2.grown h1 hg).snoc (hL.grown h1 hg)⟩
theorem LL.new (W : World) : LL (W.alloc (.cells #[] 30)) W.heap.size (.slice (some ⟨W.heap.size, 0, none⟩) 0 0) [] := ⟨⟨_, _, rfl⟩, [], own_zeroO W, Inns.nil _ _⟩
/-- what a place of a list of lists holds -/
theorem LL.get {W : World} {base : Nat} {v : Value} {Ls : List (List Nat)} (h : LL W base v Ls) {k : Nat} (hk : k < Ls.length) :
    ∃ g cap gi ci, v = .slice (some ⟨g, 0, none⟩) Ls.length cap ∧ Ls.length ≤ cap ∧ W.cell? ⟨g, k, none⟩ = some (.slice (some ⟨gi, 0, none⟩) (Ls.getD k []).length ci) ∧ Inn W base (.slice (some ⟨gi, 0, none⟩) (Ls.getD k []).length ci) (Ls.getD k []) := by
  obtain ⟨_, vals, h1, h2⟩ := h
  obtain ⟨g, cap, rfl, hc1, _, _, _, hc⟩ := row_open h1 (by omega)
  have hkv : k < vals.length := by rw [h2.1]; exact hk
  have e1 : vals[k]? = some vals[k] := List.getElem?_eq_getElem hkv
  have e2 : Ls[k]? = some (Ls.getD k []) := by rw [List.getD_eq_getElem?_getD, List.getElem?_eq_getElem hk]; rfl
  obtain ⟨gi, ci, e3, e4⟩ := h2.2 k _ _ e1 e2
  refine ⟨g, cap, gi, ci, rfl, hc1, ?_, gi, ci, rfl, ?_⟩
  · rw [hc k hk, e1, e3]
  · rw [← e3]; exact e4
theorem LL.form {W : World} {base : Nat} {v : Value} {Ls : List (List Nat)} (h : LL W base v Ls) : ∃ g cap, v = .slice (some ⟨g, 0, none⟩) Ls.length cap := h.1
theorem Inn.row {W : World} {base : Nat} {v : Value} {L : List Nat} (h : Inn W base v L) : ∃ g cap, v = .slice (some ⟨g, 0, none⟩) L.length cap ∧ LRow W (some ⟨g, 0, none⟩) (natsI L) := by
  obtain ⟨g, cap, rfl, h2⟩ := h
  exact ⟨g, cap, rfl, LRow_of h2⟩
/-- behind one number more, the list whole -/
theorem app_twoI {w w1 w2 : World} {v1 v2 : Value} {o : List Nat} {x n : Nat} (hl : o.length = n) (hb : Below w.heap.size w w1) (hown1 : w1.ownsRow w.heap.size 3 1 v1 n (intsV (natsI o)))
    (hown : w2.ownsRow w.heap.size 3 1 v2 (n + 1) (intsV (natsI o) ++ [.int .i64 (x : Nat)])) (hg : (w1.alloc (.cells #[.int .i64 (x : Nat)] 3)).grownBy w2 v1.ownBlock) :
    ∃ g cap, v2 = .slice (some ⟨g, 0, none⟩) (n + 1) cap ∧ Inn w2 w.heap.size v2 (o ++ [x]) ∧ Below w.heap.size w w2 := by
  obtain ⟨g, cap, rfl⟩ := own_form hown
  refine ⟨g, cap, rfl, ⟨g, cap, by simp [hl], ?_⟩, (hb.alloc hb.size _).grown hg (by have := hb.size; simp; omega) (fun j hj => (hown1.lt j hj).1)⟩
  rw [show intsV (natsI (o ++ [x])) = intsV (natsI o) ++ [.int .i64 (x : Nat)] by simp [intsV, natsI], List.length_append, List.length_singleton, hl]
  exact hown

end Go.Proofs.YteonanaihklgmaaDoor

namespace Go.Proofs.YteonanaihklgmaaDoor
open Go.RowKit
open Pl
set_option linter.unusedSimpArgs false
set_option linter.unusedVariables false

attribute [local go_sem ↓] Go.wp_at_zero Go.wp_at_succ

set_option maxHeartbeats 4000000 in
set_option maxRecDepth 100000 in
theorem listsOf_calls (n wd : Nat) (hn0 : 0 < n) (hn : n ≤ 8) (hwd : wd ≤ 3) (w : World) :
    Calls Tryd.prog 80 #[.int .i64 (n : Nat), .int .i64 (wd : Nat)] w fun e w' => (∃ v, e = .returned v ∧ LL w' w.heap.size v (listsK n wd)) ∧ Below w.heap.size w w' := by
  obtain ⟨i0, hi, hz0, hz1, hz2⟩ := info_parts (P := Tryd.prog) (e := 3) (z := .int .i64 0) (size := 1) (bytes := 8) (by kernel_rfl)
  obtain ⟨i1, hi', hz0', hz1', hz2'⟩ := info_parts (P := Tryd.prog) (e := 30) (z := .slice none 0 0) (size := 1) (bytes := 24) (by kernel_rfl)
  have L0 : LL ((w.alloc (.cells #[] 3)).alloc (.cells #[.slice (some ⟨w.heap.size, 0, none⟩) 0 0] 30)) w.heap.size (.slice (some ⟨w.heap.size + 1, 0, none⟩) 1 1) [[]] := by
    have hx : Bx ((w.alloc (.cells #[] 3)).alloc (.cells #[.slice (some ⟨w.heap.size, 0, none⟩) 0 0] 30)) (w.heap.size + 1) 30 #[.slice (some ⟨w.heap.size, 0, none⟩) 0 0] := bx_two w _ _
    refine ⟨⟨_, _, rfl⟩, [.slice (some ⟨w.heap.size, 0, none⟩) 0 0], ⟨rfl, .inr ⟨_, 1, _, rfl, by omega, hx, by simp, by unfold maxLen; omega, rfl, rfl⟩⟩, rfl, fun i v L h1 h2 => ?_⟩
    have h0 : i = 0 := by
      rcases Nat.eq_zero_or_pos i with h0 | h0
      · exact h0
      · rw [List.getElem?_eq_none (by simp; omega)] at h1; cases h1
    subst h0
    simp at h1 h2
    subst h1 h2
    exact ⟨_, _, rfl, (own_zeroO w).alloc _⟩
  have HL := Lib.hid L0
  have B0 := Lib.hid (show Below w.heap.size w ((w.alloc (.cells #[] 3)).alloc (.cells #[.slice (some ⟨w.heap.size, 0, none⟩) 0 0] 30)) from ((Below.refl _ _).alloc (Nat.le_refl _) _).alloc (by simp) _)
  clear L0
  go_enter Tryd.func80, Tryd.ntmps80
  go_wp2_with fail
  go_loopg [5, 13] wd (fun c v i wr => ∃ k : Nat, k + c = wd ∧ i = .int .i64 (k : Nat) ∧ LL wr w.heap.size v (listsK n k) ∧ Below w.heap.size w wr)
  case atStart => exact ⟨0, by omega, rfl, HL.out, B0.out⟩
  case round =>
    clear HL B0
    obtain ⟨wo, rfl⟩ : ∃ x, x = wr := ⟨wr, rfl⟩
    obtain ⟨k, hk, rfl, hll, hbl⟩ := hrel
    obtain ⟨Ls, hLs⟩ : ∃ Ls, Ls = listsK n k := ⟨_, rfl⟩
    rw [← hLs] at hll
    have hln : Ls.length = n ^ k := by rw [hLs]; exact listsK_len hn0 k
    by_cases hlt : k < wd
    · have h64 : n ^ k ≤ 64 := by
        have h1 : n ^ k ≤ 8 ^ k := Nat.pow_le_pow_left hn k
        have h2 : 8 ^ k ≤ 8 ^ 2 := Nat.pow_le_pow_right (by omega) (by omega)
        omega
      have hl64 : Ls.length ≤ 64 := by omega
      have hsucc : listsK n (k + 1) = Ls.flatMap (extL n) := by rw [hLs]; rfl
      obtain ⟨gA, cap0, rfl⟩ := hll.form
      obtain ⟨Bn, hBn⟩ : ∃ Bn, Bn = wo.heap.size := ⟨_, rfl⟩
      have Hll := Lib.hid hll
      have Hbl := Lib.hid hbl
      have Hsucc := Lib.hid hsucc
      have HLs := Lib.hid hLs
      have HBn := Lib.hid hBn
      have hls := hbl.size
      have Hls := Lib.hid hls
      clear hll hbl hsucc hLs hBn h64 hls hln
      have NL := Lib.hid (LL.new wo)
      have NB := Lib.hid ((Below.refl wo.heap.size wo).alloc (Nat.le_refl _) (.cells #[] 30))
      go_wp2_with fail
      go_loopg [6, 18] Ls.length (fun c v i wx => ∃ j : Nat, j + c = Ls.length ∧ i = .int .i64 (j : Nat) ∧ LL wx wo.heap.size v (flatK n Ls j 0) ∧ Below wo.heap.size wo wx)
      case atStart => exact ⟨0, by omega, rfl, by rw [flatK_zero]; exact NL.out, NB.out⟩
      case round =>
        clear NL NB
        obtain ⟨j, hj, rfl, hll, hbl⟩ := hrel
        have Nll := Lib.hid hll
        have Nbl := Lib.hid hbl
        clear hll hbl
        by_cases hjl : j < Ls.length
        · obtain ⟨g, cap, gi, ci, e1, hcl, hcell, hinn⟩ := (Hll.out.call Nbl.out).get hjl
          simp only [Value.slice.injEq, Option.some.injEq, Addr.mk.injEq, and_true, true_and] at e1
          obtain ⟨rfl, rfl⟩ := e1
          have j1 : (0 : Int) ≤ (j : Int) := by omega
          have j2 : (j : Int) < (Ls.length : Int) := by omega
          have hnx := fun x => flatK_succ n Ls j x
          have hnn := @flatK_next n Ls j hjl
          have hfl := fun x => @flatK_len n Ls j x (Nat.le_of_lt hjl)
          obtain ⟨L0, hL0⟩ : ∃ L0, L0 = Ls.getD j [] := ⟨_, rfl⟩
          simp only [← hL0] at hcell hinn hnx
          obtain ⟨lq, hlq⟩ : ∃ lq, L0.length = lq := ⟨_, rfl⟩
          rw [hlq] at hcell hinn
          have hlq3 : lq ≤ 3 := by
            have hm : L0 ∈ listsK n k := by rw [hL0, ← HLs.out, List.getD_eq_getElem?_getD, List.getElem?_eq_getElem hjl]; exact List.getElem_mem hjl
            have := (listsK_mem hn0 hm).1
            omega
          have Hinn := Lib.hid hinn
          have Hnx := Lib.hid hnx
          have Hnn := Lib.hid hnn
          have Hfl := Lib.hid hfl
          have Hlq := Lib.hid hlq
          have HL0 := Lib.hid hL0
          have hjn : j * n ≤ 63 * n := Nat.mul_le_mul_right n (by omega)
          have Hjn := Lib.hid (show j * n + n ≤ 600 by omega)
          clear hinn hnx hnn hfl hlq hL0 hjn
          go_wp2_with fail
          go_loopg [6, 23] n (fun c v i wy => ∃ x : Nat, x + c = n ∧ i = .int .i64 (x : Nat) ∧ LL wy wo.heap.size v (flatK n Ls j x) ∧ Below wo.heap.size wo wy ∧ Inn wy w.heap.size (.slice (some ⟨gi, 0, none⟩) lq ci) L0)
          case atStart => exact ⟨0, by omega, rfl, Nll.out, Nbl.out, Hinn.out⟩
          case round =>
            clear Nll Nbl Hinn hcell
            obtain ⟨wy, rfl⟩ : ∃ x, x = wr := ⟨wr, rfl⟩
            obtain ⟨x, hx, rfl, hll, hbl, hinn⟩ := hrel
            by_cases hxl : x < n
            · obtain ⟨⟨gn, cn, rfl⟩, vals, hrow, hins⟩ := hll
              have hfx := Hfl.out x
              have hL0 := LRow_of (show wy.ownsRow w.heap.size 3 1 (.slice (some ⟨gi, 0, none⟩) lq ci) lq (intsV (natsI L0)) from by obtain ⟨_, _, _, h2⟩ := hinn; rw [Hlq.out] at h2; exact h2)
              obtain ⟨FL, hFL⟩ : ∃ FL, FL = flatK n Ls j x := ⟨_, rfl⟩
              rw [← hFL] at hrow hins hfx ⊢
              obtain ⟨fl, hfl⟩ : ∃ fl, FL.length = fl := ⟨_, rfl⟩
              rw [hfl] at hfx hrow ⊢
              have hf600 : fl ≤ 600 := by have := Hjn.out; omega
              have x1 : (0 : Int) ≤ (x : Int) := by omega
              have Row := Lib.hid hrow
              have Ins := Lib.hid hins
              have Bl := Lib.hid hbl
              have In0 := Lib.hid hinn
              have HL0r := Lib.hid hL0
              have HFL := Lib.hid hFL
              have Hflen := Lib.hid hfl
              have hsz := hbl.size
              have Hsz := Lib.hid hsz
              clear hrow hins hbl hinn hL0 hFL hfl hsz hfx
              go_wp2_with (first | (at_builtin; refine wpList_append_own_at _ rfl (.tmp 27) (.tmp 28) 30 rfl wy.heap.size 3 i0 (.int .i64 0) 1 8 Tryd.underlying30 hi hz0 hz1 hz2 rfl (by decide) _ 0 [] rfl (own_zero wy) ⟨gi, 0, none⟩ lq _ (intsV (natsI L0)) rfl (by simp [intsV_len, natsI_len, Hlq.out]) (LRow.news (HL0r.out.alloc _)) (ints_oneCell .i64 _) (by unfold maxLen; omega) (by omega) (by simp) ?_; intro v1 w1 ho1 hg1 hnn hat1; clear hnn hat1; have O1 := Lib.hid (app_one ho1 hg1).1; have B2 := Lib.hid (app_one ho1 hg1).2; clear ho1 hg1) | (at_builtin; refine wpList_append_own_at _ rfl (.tmp 29) (.tmp 31) 30 rfl wy.heap.size 3 i0 (.int .i64 0) 1 8 Tryd.underlying30 hi hz0 hz1 hz2 rfl (by decide) _ lq (intsV (natsI L0)) rfl (O1.out.alloc _) ⟨w1.heap.size, 0, none⟩ 1 1 [.int .i64 (x : Nat)] rfl rfl (cell_one_new _ _ _) (ints_oneCell .i64 [((x : Nat) : Int)]) (by unfold maxLen; omega) (by omega) (by have := B2.out.size; simp; omega) ?_; intro v2 w2 ho2 hg2 hnn hat2; clear hnn hat2; obtain ⟨g2, cp2, rfl, hI2, hY2⟩ := app_twoI Hlq.out B2.out O1.out ho2 hg2; have I2 := Lib.hid hI2; have Y2 := Lib.hid hY2; have Row2 := Lib.hid (own_call Row.out hY2); have Bl2 := Lib.hid (Bl.out.trans (hY2.mono Bl.out.size)); clear ho2 hg2 hI2 hY2) | (at_builtin; refine wpList_append_own_at _ rfl (.tmp 26) (.tmp 33) 71 rfl wo.heap.size 30 i1 (.slice none 0 0) 1 24 Tryd.underlying71 hi' hz0' hz1' hz2' rfl (by decide) _ fl vals rfl (Row2.out.alloc _) ⟨w2.heap.size, 0, none⟩ 1 1 [.slice (some ⟨g2, 0, none⟩) (lq + 1) cp2] rfl rfl (cell_one_new _ _ _) (fun u hu => by simp at hu; subst hu; rfl) (by unfold maxLen; omega) (by omega) (by have := Bl2.out.size; simp; omega) ?_; intro v3 w3 ho3 hg3 hnn hat3; clear hnn hat3))
              go_roundg (n - x - 1)
              case rel =>
                refine ⟨x + 1, by omega, by go_num, ?_, (Bl2.out.alloc Bl2.out.size _).grown hg3 (by have := Bl2.out.size; simp; omega) (fun q hq => (Row2.out.lt q hq).1), ?_⟩
                · rw [Hnx.out x, ← HFL.out]
                  exact LL.push (by rw [Hflen.out]; exact Row2.out.alloc _) ((Ins.out.call Y2.out).call ((Below.refl _ _).alloc (Nat.le_refl _) _)) ((I2.out.base Bl.out.size).call ((Below.refl _ _).alloc (Nat.le_refl _) _)) (by rw [Hflen.out]; exact ho3) hg3
                · exact ((In0.out.call Y2.out).call ((Below.refl _ _).alloc (Nat.le_refl _) _)).grown (Row2.out.alloc _) hg3
              case measure => omega
            · obtain rfl : x = n := by omega
              have Bl := Lib.hid hbl
              have Lx := Lib.hid hll
              clear hbl hll hinn
              go_wp2_with fail
              go_roundg (Ls.length - j - 1)
              case rel => exact ⟨j + 1, by omega, by go_num, by rw [← Hnn.out]; exact Lx.out, Bl.out⟩
              case measure => omega
        · obtain rfl : j = Ls.length := by omega
          go_wp2_with fail
          go_roundg (wd - k - 1)
          case rel => exact ⟨k + 1, by omega, by go_num, by rw [Hsucc.out, ← flatK_all]; exact Nll.out.base Hls.out, Hbl.out.trans (Nbl.out.mono Hls.out)⟩
          case measure => omega
    · obtain rfl : k = wd := by omega
      have Hll := Lib.hid hll
      have Hbl := Lib.hid hbl
      have HLs := Lib.hid hLs
      clear hll hbl hLs hln
      go_wp2_with fail
      go_ret
      exact ⟨⟨_, rfl, by rw [← HLs.out]; exact Hll.out⟩, Hbl.out⟩

end Go.Proofs.YteonanaihklgmaaDoor

namespace Go.Proofs.YteonanaihklgmaaDoor
open Go.RowKit
open Pl
set_option linter.unusedSimpArgs false
set_option linter.unusedVariables false

attribute [local go_sem ↓] Go.wp_at_zero Go.wp_at_succ

set_option maxHeartbeats 4000000 in
set_option maxRecDepth 100000 in
theorem pointsOf_no (i : Int) (s r f : ByteArray) (x : Int) (w : World) (hs : s.size ≤ maxLen) (hr : r.size ≤ maxLen) (h : ptB i s r f x = false) :
    Calls Tryd.prog 45 #[stV i s r, .string f, .int .i64 x] w fun e w' => e = .returned (.tuple #[.slice none 0 0, .bool false]) ∧ Below w.heap.size w w' := by
  have HcI := fun W => isStructure_calls i s r W hs hr
  have B0 := Lib.hid (show Below w.heap.size w (w.alloc (.cells #[.int .i64 i, .string s, .string r] 27)) from (Below.refl _ _).alloc (Nat.le_refl _) _)
  have Xa := Lib.hid (Bx.new w 27 #[.int .i64 i, .string s, .string r])
  clear hs hr
  rcases fm_cases f with ⟨hb, hno⟩ | ⟨g, hb, hf, hs4, hl4⟩
  · have Hno := Lib.hid hno
    clear hb hno HcI h
    go_enter Tryd.func45, Tryd.ntmps45
    go_wp2_with fail
    refine (parseFormula_no f _ Hno.out).mono ?_
    rintro e w1 ⟨rfl, hz⟩
    have B1 := Lib.hid (B0.out.trans (hz.mono (by simp)))
    clear hz
    go_wp2_with fail
    go_ret2
    exact ⟨rfl, B1.out⟩
  have Hf := Lib.hid hf
  have Hb := Lib.hid hb
  have hfr : g.freeBits < 16 := freeBits_lt g
  clear hf hb
  cases hok : okB i s r
  case false =>
    simp only [hok] at HcI
    clear hok h
    have CI := Lib.hid HcI
    clear HcI
    go_enter Tryd.func45, Tryd.ntmps45
    go_wp2_with fail
    refine (parseFormula_yes f g _ hs4 Hf.out).mono ?_
    rintro e w1 ⟨b, rfl, htr, hz⟩
    have B1 := Lib.hid (B0.out.trans (hz.mono (by simp)))
    have X1 := Lib.hid (Xa.out.call hz)
    have T1 := Lib.hid htr
    clear hz htr
    obtain ⟨k0, k1, k2⟩ := box_load X1.out
    go_wp2_with fail
    refine (CI.out _).mono ?_
    rintro e w2 ⟨rfl, hz⟩
    have B2 := Lib.hid (B1.out.trans (hz.mono B1.out.size))
    have X2 := Lib.hid (X1.out.call hz)
    have T2 := Lib.hid (T1.out.below hz)
    have D2 := Lib.hid hz
    clear hz k0 k1 k2
    go_wp2_with fail
    go_ret2
    exact ⟨rfl, B2.out⟩
  case true =>
  simp only [hok] at HcI
  have CI := Lib.hid HcI
  clear HcI
  by_cases hx0 : 0 ≤ x
  case neg =>
    clear hok h
    go_enter Tryd.func45, Tryd.ntmps45
    go_wp2_with fail
    refine (parseFormula_yes f g _ hs4 Hf.out).mono ?_
    rintro e w1 ⟨b, rfl, htr, hz⟩
    have B1 := Lib.hid (B0.out.trans (hz.mono (by simp)))
    have X1 := Lib.hid (Xa.out.call hz)
    have T1 := Lib.hid htr
    clear hz htr
    obtain ⟨k0, k1, k2⟩ := box_load X1.out
    go_wp2_with fail
    refine (CI.out _).mono ?_
    rintro e w2 ⟨rfl, hz⟩
    have B2 := Lib.hid (B1.out.trans (hz.mono B1.out.size))
    have X2 := Lib.hid (X1.out.call hz)
    have T2 := Lib.hid (T1.out.below hz)
    have D2 := Lib.hid hz
    clear hz k0 k1 k2
    go_wp2_with fail
    go_ret2
    exact ⟨rfl, B2.out⟩
  case pos =>
  by_cases hx3 : x ≤ 3
  case neg =>
    clear hok h
    go_enter Tryd.func45, Tryd.ntmps45
    go_wp2_with fail
    refine (parseFormula_yes f g _ hs4 Hf.out).mono ?_
    rintro e w1 ⟨b, rfl, htr, hz⟩
    have B1 := Lib.hid (B0.out.trans (hz.mono (by simp)))
    have X1 := Lib.hid (Xa.out.call hz)
    have T1 := Lib.hid htr
    clear hz htr
    obtain ⟨k0, k1, k2⟩ := box_load X1.out
    go_wp2_with fail
    refine (CI.out _).mono ?_
    rintro e w2 ⟨rfl, hz⟩
    have B2 := Lib.hid (B1.out.trans (hz.mono B1.out.size))
    have X2 := Lib.hid (X1.out.call hz)
    have T2 := Lib.hid (T1.out.below hz)
    have D2 := Lib.hid hz
    clear hz k0 k1 k2
    go_wp2_with fail
    go_ret2
    exact ⟨rfl, B2.out⟩
  case pos =>
  obtain ⟨k, rfl⟩ : ∃ k : Nat, x = (k : Nat) := ⟨x.toNat, by omega⟩
  obtain ⟨a, ha, rfl, rfl, rfl⟩ := st_of hok
  rw [pt_nat _ _ _ _ (by omega), rdy_of Hb.out Hf.out ha k] at h
  have hne : ((g.freeBits : Int) / 2 ^ k != 0) = true := by rw [div_nat, bne_iff_ne]; have := of_decide_eq_false h; omega
  clear hok h
  go_enter Tryd.func45, Tryd.ntmps45
  go_wp2_with fail
  refine (parseFormula_yes f g _ hs4 Hf.out).mono ?_
  rintro e w1 ⟨b, rfl, htr, hz⟩
  have B1 := Lib.hid (B0.out.trans (hz.mono (by simp)))
  have X1 := Lib.hid (Xa.out.call hz)
  have T1 := Lib.hid htr
  clear hz htr
  obtain ⟨k0, k1, k2⟩ := box_load X1.out
  go_wp2_with fail
  refine (CI.out _).mono ?_
  rintro e w2 ⟨rfl, hz⟩
  have B2 := Lib.hid (B1.out.trans (hz.mono B1.out.size))
  have X2 := Lib.hid (X1.out.call hz)
  have T2 := Lib.hid (T1.out.below hz)
  have D2 := Lib.hid hz
  clear hz k0 k1 k2
  obtain ⟨_, _, _, _, _, _, hc3, _⟩ := node_cells T2.out
  go_wp2_with fail
  go_ret2
  exact ⟨rfl, B2.out⟩

set_option maxHeartbeats 4000000 in
set_option maxRecDepth 100000 in
theorem pointsOf_yes (i : Int) (s r f : ByteArray) (x : Int) (w : World) (hs : s.size ≤ maxLen) (hr : r.size ≤ maxLen) (h : ptB i s r f x = true) :
    Calls Tryd.prog 45 #[stV i s r, .string f, .int .i64 x] w fun e w' => (∃ v, e = .returned (.tuple #[v, .bool true]) ∧ LL w' w.heap.size v (ptL i s r f x)) ∧ Below w.heap.size w w' := by
  obtain ⟨i1, hi', hz0', hz1', hz2'⟩ := info_parts (P := Tryd.prog) (e := 30) (z := .slice none 0 0) (size := 1) (bytes := 24) (by kernel_rfl)
  have HcI := fun W => isStructure_calls i s r W hs hr
  have B0 := Lib.hid (show Below w.heap.size w (w.alloc (.cells #[.int .i64 i, .string s, .string r] 27)) from (Below.refl _ _).alloc (Nat.le_refl _) _)
  have Xa := Lib.hid (Bx.new w 27 #[.int .i64 i, .string s, .string r])
  clear hs hr
  obtain ⟨k, rfl, hk3, hry⟩ := pt_cases h
  rcases fm_cases f with ⟨hb, hno⟩ | ⟨g, hb, hf, hs4, hl4⟩
  · rw [rdy_noFm hb] at hry; cases hry
  cases hok : okB i s r
  case false => rw [rdy_noSt hok] at hry; cases hry
  case true =>
  simp only [hok] at HcI
  have CI := Lib.hid HcI
  obtain ⟨a, ha, rfl, rfl, rfl⟩ := st_of hok
  rw [ptL_yes hf h]
  rw [rdy_of hb hf ha k] at hry
  have heq : (g.freeBits : Int) / 2 ^ k = 0 := by rw [div_nat]; have := of_decide_eq_true hry; omega
  have hfr : g.freeBits < 16 := freeBits_lt g
  have hk0 : (0 : Int) ≤ (k : Int) := by omega
  have hk3i : (k : Int) ≤ 3 := by omega
  have h8 := ha.hi
  have hlo := ha.lo
  have Hf := Lib.hid hf
  obtain ⟨PP, hPP⟩ : ∃ PP : List Nat → Bool, PP = fun l => g.holds a (envL l) := ⟨_, rfl⟩
  rw [← hPP]
  have HPP := Lib.hid hPP
  obtain ⟨Ls, hLs⟩ : ∃ Ls, Ls = listsK a.n k := ⟨_, rfl⟩
  rw [← hLs]
  have hmem : ∀ l ∈ Ls, l.length = k ∧ ∀ y ∈ l, y < a.n := fun l hl => listsK_mem hlo (by rw [← hLs]; exact hl)
  have hl512 : Ls.length ≤ 512 := by
    rw [hLs, listsK_len hlo]
    have h1 : a.n ^ k ≤ 8 ^ k := Nat.pow_le_pow_left h8 k
    have h2 : 8 ^ k ≤ 8 ^ 3 := Nat.pow_le_pow_right (by omega) hk3
    omega
  have cl := fun W => listsOf_calls a.n k hlo h8 hk3 W
  simp only [← hLs] at cl
  have CLs := Lib.hid cl
  have Hmem := Lib.hid hmem
  clear HcI hok h hry hb hf hPP hLs hmem cl hl4
  go_enter Tryd.func45, Tryd.ntmps45
  go_wp2_with fail
  refine (parseFormula_yes f g _ hs4 Hf.out).mono ?_
  rintro e w1 ⟨b, rfl, htr, hz⟩
  have B1 := Lib.hid (B0.out.trans (hz.mono (by simp)))
  have X1 := Lib.hid (Xa.out.call hz)
  have T1 := Lib.hid htr
  clear hz htr
  obtain ⟨k0, k1, k2⟩ := box_load X1.out
  go_wp2_with fail
  refine (CI.out _).mono ?_
  rintro e w2 ⟨rfl, hz⟩
  have B2 := Lib.hid (B1.out.trans (hz.mono B1.out.size))
  have X2 := Lib.hid (X1.out.call hz)
  have T2 := Lib.hid (T1.out.below hz)
  have D2 := Lib.hid hz
  clear hz k0 k1 k2
  obtain ⟨_, _, _, _, _, _, hc3, _⟩ := node_cells T2.out
  obtain ⟨k0, k1, k2⟩ := box_load X2.out
  go_wp2_with fail
  refine (newHolder_calls (w.alloc (.cells #[.int .i64 (a.n : Int), .string (bs a.set), .string (bs a.rel)] 27)).heap.size w1 a w2 D2.out).mono ?_
  rintro e w3 ⟨rfl, hW, hz⟩
  have B3 := Lib.hid ((B2.out.trans (hz.mono B2.out.size)).alloc (B2.out.trans (hz.mono B2.out.size)).size (.cells #[] 30))
  have X3 := Lib.hid ((X2.out.call hz).alloc (.cells #[] 30))
  have W3 := Lib.hid (hW.alloc (.cells #[] 30))
  have Hlt3 := Lib.hid hW.box.lt
  have HS23 := Lib.hid B2.out.size
  have HS3 := Lib.hid (show w.heap.size ≤ w3.heap.size from Nat.le_trans B2.out.size hz.size)
  have N3 := Lib.hid (LL.new w3)
  clear hz k0 k1 k2 hc3 hW
  generalize hhb : w2.heap.size + 1 = hb at *
  have Hhb := Lib.hid hhb
  clear hhb
  obtain ⟨k0, k1, k2⟩ := box_load X3.out
  go_wp2_with fail
  refine (CLs.out _).mono ?_
  rintro e w4 ⟨⟨v4, rfl, hL4⟩, hz⟩
  have B4 := Lib.hid (B3.out.trans (hz.mono B3.out.size))
  have W4 := Lib.hid (W3.out.call hz)
  have N4 := Lib.hid (N3.out.call hz)
  have L4 := Lib.hid hL4
  have A4 := Lib.hid (show Apart v4 (.slice (some ⟨w3.heap.size, 0, none⟩) 0 0) from Apart.symm (Apart.new N3.out.2.choose_spec.1 hL4.2.choose_spec.1 (Nat.le_refl _)))
  have S4 := Lib.hid (show w3.heap.size ≤ w4.heap.size from by have := hz.size; simp at this; omega)
  clear hz k0 k1 k2 hL4
  obtain ⟨gl, cl, rfl⟩ := L4.out.form
  go_wp2_with fail
  go_loopg [10, 47] Ls.length (fun c o xi wr => ∃ j : Nat, j + c = Ls.length ∧ xi = .int .i64 (j : Nat) ∧ LL wr w3.heap.size o (ftK PP Ls j) ∧ LL wr (w3.heap.size + 1) (.slice (some ⟨gl, 0, none⟩) Ls.length cl) Ls ∧ Apart (.slice (some ⟨gl, 0, none⟩) Ls.length cl) o ∧ HoldW (w.alloc (.cells #[.int .i64 (a.n : Int), .string (bs a.set), .string (bs a.rel)] 27)).heap.size w1 a hb wr ∧ Below w.heap.size w wr)
  case atStart => exact ⟨0, by omega, rfl, N4.out, by have := L4.out; rwa [World.size_alloc] at this, A4.out, W4.out, B4.out⟩
  case round =>
    clear N4 L4 A4 W4 B4 N3 X3 W3
    obtain ⟨j, hj, rfl, ho, hl, hap, hWr, hbl⟩ := hrel
    have Hl := Lib.hid hl
    have Hap := Lib.hid hap
    have HWr := Lib.hid hWr
    have Hbl := Lib.hid hbl
    clear hl hap hWr hbl
    by_cases hjl : j < Ls.length
    · obtain ⟨g1, c1, gi, ci, e1, hcl, hcell, hinn⟩ := Hl.out.get hjl
      simp only [Value.slice.injEq, Option.some.injEq, Addr.mk.injEq, and_true, true_and] at e1
      obtain ⟨rfl, rfl⟩ := e1
      have j1 : (0 : Int) ≤ (j : Int) := by omega
      have j2 : (j : Int) < (Ls.length : Int) := by omega
      have hsucc := ftK_succ PP Ls j hjl
      have hle := ftK_le PP Ls j
      obtain ⟨L0, hL0⟩ : ∃ L0, L0 = Ls.getD j [] := ⟨_, rfl⟩
      have hm0 := Hmem.out L0 (by rw [hL0, List.getD_eq_getElem?_getD, List.getElem?_eq_getElem hjl]; exact List.getElem_mem hjl)
      simp only [← hL0] at hcell hinn hsucc
      obtain ⟨FK, hFK⟩ : ∃ FK, FK = ftK PP Ls j := ⟨_, rfl⟩
      rw [← hFK] at ho hsucc hle
      obtain ⟨⟨go, co, rfl⟩, vals, hrow, hins⟩ := ho
      obtain ⟨fl, hfl⟩ : ∃ fl, FK.length = fl := ⟨_, rfl⟩
      rw [hfl] at hrow hle Hap
      have hL0l : L0.length = k := hm0.1
      rw [hL0l] at hcell hinn
      have hLR := LRow_of (show wr.ownsRow (w3.heap.size + 1) 3 1 (.slice (some ⟨gi, 0, none⟩) k ci) k (intsV (natsI L0)) from by obtain ⟨_, _, _, h2⟩ := hinn; rw [hL0l] at h2; exact h2)
      have hcall := holds_calls (w.alloc (.cells #[.int .i64 (a.n : Int), .string (bs a.set), .string (bs a.rel)] 27)).heap.size w1 a ha hb g b L0 (some ⟨gi, 0, none⟩) ci wr T1.out hm0.2 (by omega) hLR HWr.out
      rw [show g.holds a (envL L0) = PP L0 by rw [HPP.out], hL0l] at hcall
      have HC := Lib.hid hcall
      have Row := Lib.hid hrow
      have Ins := Lib.hid hins
      have In0 := Lib.hid hinn
      have Hfl := Lib.hid hfl
      have HFK := Lib.hid hFK
      have Hsucc := Lib.hid hsucc
      clear hcall hrow hins hinn hfl hFK hsucc hL0 hm0 hLR hL0l
      rw [Hfl.out]
      cases hq : PP L0 with
      | false =>
        rw [hq] at HC
        have hs2 := Hsucc.out
        rw [hq] at hs2
        have Hs2 := Lib.hid hs2
        clear hs2 hq
        go_wp2_with fail
        refine (HC.out).mono ?_
        rintro e w5 ⟨rfl, hW5, hF⟩
        have W5 := Lib.hid hW5
        have F5 := Lib.hid (Hbl.out.trans (hF.below.mono (by have := HS23.out; have := Hhb.out; omega)))
        have L5 := Lib.hid (Hl.out.fz hF)
        have O5 := Lib.hid (show LL w5 w3.heap.size (.slice (some ⟨go, 0, none⟩) fl co) FK from LL.fz ⟨⟨_, _, by rw [Hfl.out]⟩, vals, by rw [Hfl.out]; exact Row.out, Ins.out⟩ hF)
        clear hW5 hF hcell
        go_wp2_with fail
        go_roundg (Ls.length - j - 1)
        case rel => exact ⟨j + 1, by omega, by go_num, by rw [Hs2.out]; exact O5.out, L5.out, Hap.out, W5.out, F5.out⟩
        case measure => omega
      | true =>
        rw [hq] at HC
        have hs2 := Hsucc.out
        rw [hq] at hs2
        have Hs2 := Lib.hid hs2
        clear hs2 hq
        go_wp2_with fail
        refine (HC.out).mono ?_
        rintro e w5 ⟨rfl, hW5, hF⟩
        have W5 := Lib.hid hW5
        have F5 := Lib.hid (Hbl.out.trans (hF.below.mono (by have := HS23.out; have := Hhb.out; omega)))
        have L5 := Lib.hid (Hl.out.fz hF)
        have R5 := Lib.hid (own_fz Row.out hF)
        have I5 := Lib.hid (show Inns w5 w3.heap.size vals FK from (show LL w5 w3.heap.size (.slice (some ⟨go, 0, none⟩) fl co) FK from LL.fz ⟨⟨_, _, by rw [Hfl.out]⟩, vals, by rw [Hfl.out]; exact Row.out, Ins.out⟩ hF) |> fun _ => ⟨Ins.out.1, fun q v L h1 h2 => (Ins.out.2 q v L h1 h2).fz hF⟩)
        have Z5 := Lib.hid (show Inn w5 w3.heap.size (.slice (some ⟨gi, 0, none⟩) k ci) L0 from (In0.out.fz hF).base (by omega))
        have S5 := Lib.hid (show w3.heap.size ≤ w5.heap.size from by have := (R5.out.lt go rfl); omega)
        clear hW5 hF
        have hcell5 := hcell
        clear hcell hcell5
        go_wp2_with (at_builtin; refine wpList_append_own_at _ rfl (.tmp 55) (.tmp 57) 71 rfl w3.heap.size 30 i1 (.slice none 0 0) 1 24 Tryd.underlying71 hi' hz0' hz1' hz2' rfl (by decide) _ fl vals rfl (R5.out.alloc _) ⟨w5.heap.size, 0, none⟩ 1 1 [.slice (some ⟨gi, 0, none⟩) k ci] rfl rfl (cell_one_new _ _ _) (fun u hu => by simp at hu; subst hu; rfl) (by unfold maxLen; omega) (by omega) (by have := S5.out; simp; omega) ?_; intro v6 w6 ho6 hg6 hnn hat6; clear hnn; have W6 := Lib.hid ((W5.out.alloc _).own (R5.out.alloc _) (by have := Hlt3.out; omega) hg6); have A6 := Lib.hid hat6; clear hat6)
        go_roundg (Ls.length - j - 1)
        case rel =>
          refine ⟨j + 1, by omega, by go_num, ?_, ?_, ?_, W6.out, ?_⟩
          · rw [Hs2.out]
            exact LL.push (W := w5.alloc (.cells #[.slice (some ⟨gi, 0, none⟩) k ci] 30)) (v := .slice (some ⟨go, 0, none⟩) fl co) (by rw [Hfl.out]; exact R5.out.alloc _) (I5.out.call ((Below.refl _ _).alloc (Nat.le_refl _) _)) (Z5.out.call ((Below.refl _ _).alloc (Nat.le_refl _) _)) (by rw [Hfl.out]; exact ho6) hg6
          · exact (L5.out.alloc _).others (R5.out.alloc _) hg6 Hap.out
          · exact Hap.out.next (L5.out.alloc _).2.choose_spec.1 (Nat.le_refl _) A6.out
          · exact (F5.out.alloc F5.out.size _).grown hg6 (by have := F5.out.size; simp; omega) (fun q hq => by have h1 := (R5.out.lt q hq).1; have h2 := HS3.out; omega)
        case measure => omega
    · obtain rfl : j = Ls.length := by omega
      obtain ⟨go, co, rfl⟩ := ho.form
      have Ho := Lib.hid ho
      clear ho
      go_wp2_with fail
      go_ret2
      exact ⟨⟨_, rfl, by rw [← ftK_all]; exact Ho.out.base HS3.out⟩, Hbl.out⟩

set_option maxRecDepth 100000 in
set_option maxHeartbeats 1000000 in
theorem CountPoints_impl (i : Int) (s r f : ByteArray) (x : Int) (w : World) (hs : s.size ≤ maxLen) (hr : r.size ≤ maxLen) :
    Calls Tryd.prog 19 #[stV i s r, .string f, .int .i64 x] w fun e w' => e = .returned (.int .i64 (cptV i s r f x)) ∧ Below w.heap.size w w' := by
  have B0 := Lib.hid (show Below w.heap.size w (w.alloc (.cells #[.int .i64 i, .string s, .string r] 27)) from (Below.refl _ _).alloc (Nat.le_refl _) _)
  obtain ⟨k0, k1, k2⟩ := box_load (Bx.new w 27 #[.int .i64 i, .string s, .string r])
  unfold cptV
  cases hp : ptB i s r f x
  case false =>
    have CP := Lib.hid (fun W => pointsOf_no i s r f x W hs hr hp)
    clear hs hr hp
    go_enter Tryd.func19, Tryd.ntmps19
    go_wp2_with fail
    refine (CP.out _).mono ?_
    rintro e w1 ⟨rfl, hz⟩
    have B1 := Lib.hid (B0.out.trans (hz.mono B0.out.size))
    clear hz k0 k1 k2
    go_wp2_with fail
    go_ret
    exact ⟨rfl, B1.out⟩
  case true =>
    have CP := Lib.hid (fun W => pointsOf_yes i s r f x W hs hr hp)
    clear hs hr hp
    go_enter Tryd.func19, Tryd.ntmps19
    go_wp2_with fail
    refine (CP.out _).mono ?_
    rintro e w1 ⟨⟨v, rfl, hL⟩, hz⟩
    have B1 := Lib.hid (B0.out.trans (hz.mono B0.out.size))
    obtain ⟨gl, cl, rfl⟩ := hL.form
    clear hz k0 k1 k2 hL
    go_wp2_with fail
    go_ret
    exact ⟨rfl, B1.out⟩

end Go.Proofs.YteonanaihklgmaaDoor

namespace Go.Proofs.YteonanaihklgmaaDoor
open Go.RowKit
open Pl
set_option linter.unusedSimpArgs false
set_option linter.unusedVariables false

set_option maxHeartbeats 400000 in
theorem gsHas_calls (A : Option Addr) (zs : List Int) (cap : Nat) (x : Int) (w : World) (hn : zs.length ≤ 1048576) (hA : LRow w A zs) :
    Calls Tryd.prog 29 #[.slice A zs.length cap, .int .i64 x] w fun e w' => e = .returned (.bool (decide (x ∈ zs))) ∧ w = w' := by
  have HA := Lib.hid hA
  obtain ⟨V, hV⟩ : ∃ V, V = decide (x ∈ zs) := ⟨_, rfl⟩
  rw [← hV]
  have HV := Lib.hid hV
  clear hA hV
  go_enter Tryd.func29, Tryd.ntmps29
  go_wp2_with fail
  go_loop [5] (fun i => ∃ k : Nat, k ≤ zs.length ∧ i = .int .i64 k ∧ ∀ j, j < k → zs.getD j 0 ≠ x) (fun i => zs.length - (intOf i).toNat)
  case atStart => exact ⟨0, Nat.zero_le _, rfl, fun j hj => absurd hj (Nat.not_lt_zero _)⟩
  case round =>
    obtain ⟨k, hk, rfl, hno⟩ := hrel
    have Hno := Lib.hid hno
    clear hno
    by_cases hlt : k < zs.length
    · obtain ⟨g, rfl, hc⟩ := HA.out (by omega)
      have hck := hc k hlt
      have hmem := getD_mem hlt
      obtain ⟨z, hz⟩ : ∃ z, z = zs.getD k 0 := ⟨_, rfl⟩
      rw [← hz] at hck hmem
      have Hz := Lib.hid hz
      clear hc hz
      by_cases hx : z = x
      · have hb : (z == x) = true := beq_iff_eq.2 hx
        subst hx
        have Hm := Lib.hid hmem
        clear hmem
        go_wp2_with fail
        go_ret
        exact ⟨by rw [HV.out, decide_eq_true Hm.out]; rfl, rfl⟩
      · have hb : (z == x) = false := beq_eq_false_iff_ne.2 hx
        have Hx := Lib.hid hx
        clear hmem hx
        go_wp2_with fail
        go_round
        case rel =>
          refine ⟨k + 1, by omega, by go_num, fun j hj => ?_⟩
          by_cases hjk : j = k
          · subst hjk; rw [← Hz.out]; exact Hx.out
          · exact Hno.out j (by omega)
        case measure => simp [intOf]; omega
    · have hne : ¬ x ∈ zs := fun h => by
        obtain ⟨j, hj, e⟩ := mem_getD h
        exact absurd e (Hno.out j (by omega))
      have Hne := Lib.hid hne
      clear hne
      go_wp2_with fail
      go_ret
      exact ⟨by rw [HV.out, decide_eq_false Hne.out]; rfl, rfl⟩

theorem getD_eq {xs ys : List Int} (hl : xs.length = ys.length) (h : ∀ j, j < xs.length → xs.getD j 0 = ys.getD j 0) : xs = ys := by
  apply List.ext_getElem hl
  intro i h1 h2
  have := h i h1
  simpa [List.getD, h1, h2] using this

end Go.Proofs.YteonanaihklgmaaDoor

namespace Go.Proofs.YteonanaihklgmaaDoor
open Go.RowKit
open Pl
set_option linter.unusedSimpArgs false
set_option linter.unusedVariables false

end Go.Proofs.YteonanaihklgmaaDoor

namespace Go.Proofs.YteonanaihklgmaaDoor
open Go.RowKit
open Pl
set_option linter.unusedSimpArgs false
set_option linter.unusedVariables false

/-- contracts over any structure, as a law asks them -/
theorem orbI_any (i : Int) (s r : ByteArray) (x : Int) (hs : s.size ≤ 100) (hr : r.size ≤ 100) (W : World) :
    Calls Tryd.prog 28 #[stV i s r, .int .i64 x] W fun e w' => (∃ A cap, e = .returned (.slice A (orbV i s r x).length cap) ∧ LRow w' A (natsI (orbV i s r x))) ∧ Below W.heap.size W w' :=
  (OrbitOf_impl i s r x W (by unfold maxLen; omega) (by unfold maxLen; omega)).mono fun e w' ⟨⟨v, h1, h2⟩, h3⟩ => by
    obtain ⟨A, cap, rfl⟩ := own_slice2 h2
    exact ⟨⟨A, cap, h1, LRow_of h2⟩, h3⟩
theorem natsI_inj {a b : List Nat} (h : natsI a = natsI b) : a = b := by
  unfold natsI at h
  have := congrArg (List.map Int.toNat) h
  simpa [List.map_map, Function.comp_def] using this
theorem has_any (A : Option Addr) (c : Nat) (xs : List Nat) (x : Nat) (W : World) (hx : xs.length ≤ 100) (h1 : LRow W A (natsI xs)) :
    Calls Tryd.prog 29 #[.slice A xs.length c, .int .i64 (x : Nat)] W fun e w' => e = .returned (.bool (decide (x ∈ xs))) ∧ W = w' := by
  have h := gsHas_calls A (natsI xs) c x W (by rw [natsI_len]; omega) h1
  rw [natsI_len] at h
  rwa [show decide ((x : Int) ∈ natsI xs) = decide (x ∈ xs) from decide_eq_decide.2 ⟨fun h => by
    obtain ⟨a, ha, e⟩ := List.mem_map.1 h
    have : a = x := by omega
    exact this ▸ ha, fun h => List.mem_map.2 ⟨x, h, rfl⟩⟩] at h

theorem fact_le8 : ∀ {n : Nat}, n ≤ 8 → fact n ≤ 40320 ∧ 0 < fact n := by
  intro n h
  have : n = 0 ∨ n = 1 ∨ n = 2 ∨ n = 3 ∨ n = 4 ∨ n = 5 ∨ n = 6 ∨ n = 7 ∨ n = 8 := by omega
  rcases this with rfl | rfl | rfl | rfl | rfl | rfl | rfl | rfl | rfl <;> decide

end Go.Proofs.YteonanaihklgmaaDoor

namespace Go.Proofs.YteonanaihklgmaaDoor
open Go.RowKit
open Pl
set_option linter.unusedSimpArgs false
set_option linter.unusedVariables false

set_option maxRecDepth 100000 in
theorem gsHolds_calls (i : Int) (s r f : ByteArray) (A : Option Addr) (zs : List Int) (cap : Nat) (w : World) (hs : s.size ≤ maxLen) (hr : r.size ≤ maxLen) (hn : zs.length ≤ 1048576) (hcap : zs.length ≤ cap) (hA : LRow w A zs) :
    Calls Tryd.prog 13 #[stV i s r, .string f, .slice A zs.length cap] w fun e w' => e = .returned (.bool (holdV i s r f zs)) ∧ Below w.heap.size w w' := by
  have B0 := Lib.hid ((Below.refl w.heap.size w).alloc (Nat.le_refl _) (.cells #[.int .i64 i, .string s, .string r] 27))
  have hc := HoldsAt_impl i s r f A zs cap (w.alloc (.cells #[.int .i64 i, .string s, .string r] 27)) hs hr hn hcap (hA.alloc _)
  have Hc := Lib.hid hc
  obtain ⟨k0, k1, k2⟩ := box_load (Bx.new w 27 #[.int .i64 i, .string s, .string r])
  clear hc hs hr hA
  go_enter Tryd.func13, Tryd.ntmps13
  go_wp2_with fail
  refine (Hc.out).mono ?_
  rintro e w1 ⟨rfl, hz⟩
  have B1 := Lib.hid (B0.out.trans (hz.mono B0.out.size))
  clear hz k0 k1 k2
  go_wp2_with fail
  go_ret
  exact ⟨rfl, B1.out⟩
theorem st_len {a : St} (ha : a.ok) : (bs a.set).size ≤ maxLen ∧ (bs a.rel).size ≤ maxLen := by have := st_small ha; unfold maxLen; omega
/-- gsHolds of a formula with four elements -/
theorem gs_four (a : St) (ha : a.ok) (g : Fm) (hg : g.text.length ≤ 4000) (f : ByteArray) (hf : f = bs g.text) (ns : List Nat) (hn : ∀ x ∈ ns, x < a.n) (hl : ns.length = 4) (A : Option Addr) (cap : Nat) (hcap : 4 ≤ cap) (b : Bool) (hb : g.holds a (envL ns) = b) (w : World) (hA : LRow w A (natsI ns)) :
    Calls Tryd.prog 13 #[stV a.n (bs a.set) (bs a.rel), .string f, .slice A 4 cap] w fun e w' => e = .returned (.bool b) ∧ Below w.heap.size w w' := by
  subst hf
  have h := gsHolds_calls a.n (bs a.set) (bs a.rel) (bs g.text) A (natsI ns) cap w (st_len ha).1 (st_len ha).2 (by rw [natsI_len, hl]; omega) (by rw [natsI_len, hl]; exact hcap) hA
  rw [hold_four ha hg hn hl, natsI_len, hl, hb] at h
  exact h
theorem four_cells {W : World} {g a b c d : Nat} (h : LRow W (some ⟨g, 0, none⟩) (natsI [a, b, c, d])) : W.cell? ⟨g, 0, none⟩ = some (.int .i64 (a : Nat)) ∧ W.cell? ⟨g, 1, none⟩ = some (.int .i64 (b : Nat)) ∧ W.cell? ⟨g, 2, none⟩ = some (.int .i64 (c : Nat)) ∧ W.cell? ⟨g, 3, none⟩ = some (.int .i64 (d : Nat)) := by
  obtain ⟨g', hg, hc⟩ := h (by simp [natsI])
  injection hg with hg
  injection hg with hg _ _
  subst hg
  exact ⟨hc 0 (by simp [natsI]), hc 1 (by simp [natsI]), hc 2 (by simp [natsI]), hc 3 (by simp [natsI])⟩
theorem LRow_four (W : World) (a b c d : Nat) : LRow (W.alloc (.cells #[.int .i64 (a : Nat), .int .i64 (b : Nat), .int .i64 (c : Nat), .int .i64 (d : Nat)] 3)) (some ⟨W.heap.size, 0, none⟩) (natsI [a, b, c, d]) := fun _ => ⟨_, rfl, fun i hi => by
  have hx := Bx.new W 3 #[.int .i64 (a : Nat), .int .i64 (b : Nat), .int .i64 (c : Nat), .int .i64 (d : Nat)]
  have : i = 0 ∨ i = 1 ∨ i = 2 ∨ i = 3 := by simp [natsI] at hi; omega
  rcases this with rfl | rfl | rfl | rfl
  · exact hx.cell 0
  · exact hx.cell 1
  · exact hx.cell 2
  · exact hx.cell 3⟩
theorem len4 {ns : List Nat} (h : ns.length = 4) : ∃ a b c d, ns = [a, b, c, d] := by
  match ns, h with
  | [a, b, c, d], _ => exact ⟨a, b, c, d, rfl⟩

end Go.Proofs.YteonanaihklgmaaDoor

namespace Go.Proofs.YteonanaihklgmaaDoor
open Go.RowKit
open Pl
set_option linter.unusedSimpArgs false
set_option linter.unusedVariables false

theorem vars_at (m : Nat) : ∀ n, n ≤ 4 → ∀ k, k < (varsL m n).length → ∃ v : Fin 4, (varsL m n).getD k 0 = vb v := by
  intro n
  induction n with
  | zero => intro _ k hk; simp [varsL] at hk
  | succ n ih =>
    intro hn k hk
    cases h : m.testBit n with
    | false => rw [varsL_no h] at hk ⊢; exact ih (by omega) k hk
    | true =>
      rw [varsL_yes h] at hk ⊢
      by_cases hlt : k < (varsL m n).length
      · obtain ⟨v, hv⟩ := ih (by omega) k hlt
        refine ⟨v, ?_⟩
        rw [← hv, List.getD_eq_getElem?_getD, List.getD_eq_getElem?_getD, List.getElem?_append_left hlt]
      · have : k = (varsL m n).length := by simp at hk; omega
        refine ⟨⟨n, by omega⟩, ?_⟩
        rw [this, List.getD_eq_getElem?_getD]
        simp [vb]
theorem vars_mem (m : Nat) {n k : Nat} (hk : k < n) (h : m.testBit k = true) : UInt8.ofNat (97 + k) ∈ varsL m n := by
  unfold varsL
  exact List.mem_map.2 ⟨k, List.mem_filter.2 ⟨List.mem_range.2 hk, h⟩, rfl⟩
/-- an element that is not free may be changed -/
theorem holds_set {a : St} {g : Fm} {ns : List Nat} {k x : Nat} (hk : k < 4) (h : g.freeBits.testBit k = false) : g.holds a (envL (ns.set k x)) = g.holds a (envL ns) := by
  apply holds_free
  intro v hv
  have hne : v.val ≠ k := by
    intro e
    unfold Fm.isFree at hv
    rw [e, h] at hv
    cases hv
  unfold envL
  rw [List.getD_eq_getElem?_getD, List.getD_eq_getElem?_getD, List.getElem?_set_ne (Ne.symm hne)]
theorem holds_some {a : St} {q : Fm} {e : Env} {v : Fin 4} (hv : e v < a.n) (h : q.holds a e = true) : (Fm.qu .S v q).holds a e = true := by
  show decide (0 < Pl.cnt a.n (fun x => q.holds a (upd e v x))) = true
  rw [decide_eq_true_eq]
  have he : upd e v (e v) = e := by
    funext u
    by_cases hu : u = v
    · subst hu; rw [upd_same]
    · rw [upd_other hu]
  have h1 := cnt_split a.n (e v + 1) (fun x => q.holds a (upd e v x)) (by omega)
  have h2 := cnt_succ (e v) (fun x => q.holds a (upd e v x))
  simp only [he, h, if_true] at h2
  omega
/-- HoldsIn of a formula: no, or no free variables -/
theorem in_cases {a : St} (ha : a.ok) {q : Fm} (hq : q.text.length ≤ 4000) (e : Env) : holdB a.n (bs a.set) (bs a.rel) (bs q.text) [] = false ∨ (holdB a.n (bs a.set) (bs a.rel) (bs q.text) [] = true ∧ holdV a.n (bs a.set) (bs a.rel) (bs q.text) [] = q.holds a e) := by
  by_cases h0 : q.freeBits = 0
  · right
    have := hold_fm ha hq (ns := []) (by simp) (by simp) (by rw [h0]; rfl)
    refine ⟨this.1, this.2.trans (holds_free a q _ _ fun v hv => ?_)⟩
    unfold Fm.isFree at hv
    rw [h0] at hv
    simp at hv
  · left
    cases h : holdB a.n (bs a.set) (bs a.rel) (bs q.text) [] with
    | false => rfl
    | true =>
      exfalso
      unfold holdB at h
      simp only [Bool.and_eq_true] at h
      have h1 := h.1
      rw [show (([] : List Int).length) = 0 from rfl, rdy_of (fm_bs hq) (bs_list _) ha] at h1
      simp at h1
      exact h0 h1
/-- gsHolds of a formula with elements for all that is free -/
theorem gs_any (a : St) (ha : a.ok) (g : Fm) (hg : g.text.length ≤ 4000) (f : ByteArray) (hf : f = bs g.text) (ns : List Nat) (hn : ∀ x ∈ ns, x < a.n) (hl : ns.length ≤ 4) (hfr : g.freeBits / 2 ^ ns.length = 0) (A : Option Addr) (cap : Nat) (hcap : ns.length ≤ cap) (b : Bool) (hb : g.holds a (envL ns) = b) (w : World) (hA : LRow w A (natsI ns)) :
    Calls Tryd.prog 13 #[stV a.n (bs a.set) (bs a.rel), .string f, .slice A ns.length cap] w fun e w' => e = .returned (.bool b) ∧ Below w.heap.size w w' := by
  subst hf
  have h := gsHolds_calls a.n (bs a.set) (bs a.rel) (bs g.text) A (natsI ns) cap w (st_len ha).1 (st_len ha).2 (by rw [natsI_len]; omega) (by rw [natsI_len]; exact hcap) hA
  rw [(hold_fm ha hg hn hl hfr).2, natsI_len, hb] at h
  exact h
theorem ext_one {l : List UInt8} {k : Nat} (h : k < l.length) : (bs l).extract k (k + 1) = bs [l.getD k 0] := by
  apply eq_bs
  rw [Lib.extract_data, bs_list]
  rw [List.getD_eq_getElem?_getD, List.getElem?_eq_getElem h]
  rw [show k + 1 = k + 1 from rfl]
  apply List.ext_getElem
  · simp; omega
  · intro i h1 h2
    simp at h2
    subst h2
    simp
theorem cmp_at {l : List UInt8} {k m : Nat} (hk : k < 4) (hm : m < (bs l).size) (hk2 : k < (ByteArray.mk #[97, 98, 99, 100]).size) (h : ((((bs l)[m]'hm).toNat : Int) == (((ByteArray.mk #[97, 98, 99, 100])[k]'hk2).toNat : Int)) = false) : l.getD m 0 ≠ UInt8.ofNat (97 + k) := by
  intro e
  have hm2 : m < l.length := by rw [bs_size] at hm; exact hm
  have e1 : (bs l)[m]'hm = l.getD m 0 := by
    rw [List.getD_eq_getElem?_getD, List.getElem?_eq_getElem hm2]
    rfl
  have e2 : (ByteArray.mk #[97, 98, 99, 100])[k]'hk2 = UInt8.ofNat (97 + k) := by
    match k, hk with
    | 0, _ => rfl
    | 1, _ => rfl
    | 2, _ => rfl
    | 3, _ => rfl
  rw [e1, e2, e] at h
  simp at h
theorem LRow.set {W : World} {g : Nat} {ns : List Nat} {k x : Nat} (h : LRow W (some ⟨g, 0, none⟩) (natsI ns)) (hk : k < ns.length) : LRow (W.setCell ⟨g, k, none⟩ (.int .i64 (x : Nat))) (some ⟨g, 0, none⟩) (natsI (ns.set k x)) := by
  intro hl
  obtain ⟨g', hg, hc⟩ := h (by rw [natsI_len]; omega)
  injection hg with hg
  injection hg with hg _ _
  subst hg
  refine ⟨g, rfl, fun i hi => ?_⟩
  rw [natsI_len, List.length_set] at hi
  have h2 := hc i (by rw [natsI_len]; exact hi)
  by_cases e : i = k
  · subst e
    rw [World.cell?_setCell_same _ _ _ h2]
    simp [natsI, List.getD, hi]
  · rw [World.cell?_setCell_other _ _ _ _ (by intro e2; injection e2 with _ e2 _; exact e e2.symm), h2]
    simp [natsI, List.getD, List.getElem?_set_ne (Ne.symm e)]
theorem LRow.far {W : World} {g : Nat} {A : Option Addr} {zs : List Int} (h : LRow W A zs) (hA : ∀ b, A = some ⟨b, 0, none⟩ → b ≠ g) (k : Nat) (u : Value) : LRow (W.setCell ⟨g, k, none⟩ u) A zs := by
  intro hl
  obtain ⟨b, hb, hc⟩ := h hl
  refine ⟨b, hb, fun i hi => ?_⟩
  rw [World.cell?_setCell_other _ _ _ _ (by intro e2; injection e2 with e2 _ _; exact hA b hb e2.symm)]
  exact hc i hi

end Go.Proofs.YteonanaihklgmaaDoor

namespace Go.Proofs.YteonanaihklgmaaDoor
open Go.RowKit
set_option linter.unusedVariables false

section
variable {md : Region.Mode} {ops : Array Oper}

/-- a part of the order -/
def schedPart (md : Region.Mode) (ops : Array Oper) : List (Nat × Bool) → Array Bool → Bool
  | [], _ => true
  | (i, true) :: is, listed => Region.free md ops listed i && ((Region.ready md ops listed).contains i && schedPart md ops is (listed.setIfInBounds i true))
  | (i, false) :: is, listed => (Region.ready md ops listed == [i]) && schedPart md ops is (listed.setIfInBounds i true)
/-- what is listed behind it -/
def layB : List (Nat × Bool) → Array Bool → Array Bool
  | [], l => l
  | (i, _) :: is, l => layB is (l.setIfInBounds i true)
theorem schedOk_app : ∀ (is1 is2 : List (Nat × Bool)) (l : Array Bool), schedPart md ops is1 l = true → schedOk md ops is2 (layB is1 l) = true → schedOk md ops (is1 ++ is2) l = true := by
  intro is1
  induction is1 with
  | nil => intro is2 l _ h; exact h
  | cons p is ih =>
    obtain ⟨i, b⟩ := p
    intro is2 l h1 h2
    cases b with
    | true =>
      simp only [schedPart, Bool.and_eq_true] at h1
      simp only [List.cons_append, schedOk, Bool.and_eq_true]
      exact ⟨h1.1, h1.2.1, ih is2 _ h1.2.2 h2⟩
    | false =>
      simp only [schedPart, Bool.and_eq_true] at h1
      simp only [List.cons_append, schedOk, Bool.and_eq_true]
      exact ⟨h1.1, ih is2 _ h1.2 h2⟩
theorem schedOk_cut (is1 is2 : List (Nat × Bool)) (l l' : Array Bool) (h1 : schedPart md ops is1 l = true) (hl : layB is1 l = l') (h2 : schedOk md ops is2 l' = true) : schedOk md ops (is1 ++ is2) l = true :=
  schedOk_app is1 is2 l h1 (by rw [hl]; exact h2)
end

end Go.Proofs.YteonanaihklgmaaDoor
