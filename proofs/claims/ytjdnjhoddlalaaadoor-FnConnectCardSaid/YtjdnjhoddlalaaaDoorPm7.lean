/-
  Laws of the functions that the claim reaches, one after the other (packed by a program of the prover's: SHoldsc4, SHolds, StV, SHAt, Own, SetP, DSetS, PtP, PtV, PtEnv, PtsS). Conditions: texts below the reach.
-/
import Derived.Test.YtjdnjhoddlalaaaDoorPm6
import Derived.Test.YtjdnjhoddlalaaaDoorPm0
import Derived.Test.YtjdnjhoddlalaaaDoorPm3
import Derived.StillTailTactics
set_option linter.unusedSimpArgs false
set_option linter.unusedVariables false

namespace Go.Proofs.YtjdnjhoddlalaaaDoor
open Go.RowKit
open Pl
set_option linter.unusedSimpArgs false
set_option linter.unusedVariables false

set_option maxHeartbeats 4000000 in
set_option maxRecDepth 100000 in
theorem sh_c4 (a : St) (ha : a.ok) (v : Fin 4) (p : Fm) (Ih : SHAt a p) : SHAt a (.qu .c4 v p) := by
  intro s k r m e w hd hs hm he
  subst hm
  obtain ⟨hk1, hop, hle⟩ := at_op hd
  have h8 := ha.hi
  have XS := Lib.hid ((Bx.new w 24 #[.int .i64 (a.n : Int), .string (bs a.set), .string (bs a.rel)]).alloc (.cells #[.int .i64 (e 0 : Nat), .int .i64 (e 1 : Nat), .int .i64 (e 2 : Nat), .int .i64 (e 3 : Nat)] 78))
  have XE := Lib.hid (show Bx ((w.alloc (.cells #[.int .i64 (a.n : Int), .string (bs a.set), .string (bs a.rel)] 24)).alloc (.cells #[.int .i64 (e 0 : Nat), .int .i64 (e 1 : Nat), .int .i64 (e 2 : Nat), .int .i64 (e 3 : Nat)] 78)) (w.heap.size + 1) 78 #[.int .i64 (e 0 : Nat), .int .i64 (e 1 : Nat), .int .i64 (e 2 : Nat), .int .i64 (e 3 : Nat)] from bx_two w _ _)
  have BV := Lib.hid (show Below w.heap.size w ((w.alloc (.cells #[.int .i64 (a.n : Int), .string (bs a.set), .string (bs a.rel)] 24)).alloc (.cells #[.int .i64 (e 0 : Nat), .int .i64 (e 1 : Nat), .int .i64 (e 2 : Nat), .int .i64 (e 3 : Nat)] 78)) from ((Below.refl _ _).alloc (Nat.le_refl _) _).alloc (by simp) _)
  obtain ⟨s0, s1, s2⟩ := box_load XS.out
  have hev : ∀ v : Fin 4, ((w.alloc (.cells #[.int .i64 (a.n : Int), .string (bs a.set), .string (bs a.rel)] 24)).alloc (.cells #[.int .i64 (e 0 : Nat), .int .i64 (e 1 : Nat), .int .i64 (e 2 : Nat), .int .i64 (e 3 : Nat)] 78)).cell? ⟨w.heap.size + 1, v.val, none⟩ = some (.int .i64 (e v : Nat)) := fun v => (XE.out.cell v.val).trans (env_at e v)
  have c0 := XE.out.cell 0
  have c1 := XE.out.cell 1
  have c2 := XE.out.cell 2
  have c3 := XE.out.cell 3
  simp only [List.getElem?_toArray, List.getElem?_cons_zero, List.getElem?_cons_succ] at c0 c1 c2 c3
  have Hev := Lib.hid hev
  have He := Lib.hid he
  clear hev he
  unfold stA envA4
  have hk := hk1
  have hb : (s[k].toNat : Int) = 52 := by rw [hop]; rfl
  have hd1 := at_qu hd
  have hdv : s.data.toList.drop (k + 1) = vb v :: (p.text ++ r) := drop_add_of (p := [Qn.b .c4]) (by simpa [Fm.text] using hd)
  have h1 := fun W => l2Var_of s (k + 1) v _ ((k : Int) + 1) W hs hdv (by omega)
  have hend := fun W => l2End_of s (k + 2) p _ ((k : Int) + 2) W hs hd1 (by omega)
  simp only [Fm.text, List.length_cons] at hle
  have hv3 : (v.val : Int) < 4 := by omega
  have H1 := Lib.hid h1
  have Hend := Lib.hid hend
  have Hd1 := Lib.hid hd1
  clear hd hd1 hdv h1 hend
  clear hop
  go_enter Tryd.func95, Tryd.ntmps95
  go_wp2_with fail
  go_loopg [15, 16] (a.n + 1) (fun c cn xi wr => ∃ x : Nat, x + c = a.n + 1 ∧ x ≤ a.n ∧ xi = .int .i64 (x : Nat) ∧ cn = .int .i64 (cnt x (fun y => p.holds a (upd e v y)) : Nat) ∧ Bx wr w.heap.size 24 #[.int .i64 (a.n : Int), .string (bs a.set), .string (bs a.rel)] ∧ (∃ e' : Env, (∀ u, u ≠ v → e' u = e u) ∧ Bx wr (w.heap.size + 1) 78 #[.int .i64 (e' 0 : Nat), .int .i64 (e' 1 : Nat), .int .i64 (e' 2 : Nat), .int .i64 (e' 3 : Nat)]) ∧ Below w.heap.size w wr)
  case atStart => exact ⟨0, by omega, by omega, rfl, rfl, XS.out, ⟨e, fun _ _ => rfl, XE.out⟩, BV.out⟩
  case round =>
    clear s0 s1 s2 c0 c1 c2 c3
    obtain ⟨x, hx, hxn, rfl, rfl, hN, ⟨e', hE', hVl⟩, hf⟩ := hrel
    have hcn := cnt_le x (fun y => p.holds a (upd e v y))
    have hcs := cnt_succ x (fun y => p.holds a (upd e v y))
    have hen := fun h => @says_enough .c4 a.n x (fun y => p.holds a (upd e v y)) hxn h
    have hne := fun h h2 => @says_never .c4 a.n (x + 1) (fun y => p.holds a (upd e v y)) h h2
    have Hen := Lib.hid hen
    have Hne := Lib.hid hne
    have Hcs := Lib.hid hcs
    have HN := Lib.hid hN
    have HVl := Lib.hid hVl
    have HF := Lib.hid hf
    obtain ⟨Z, hZ⟩ : ∃ Z, Z = cnt x (fun y => p.holds a (upd e v y)) := ⟨_, rfl⟩
    have HZ := Lib.hid hZ
    rw [← hZ] at hcn ⊢
    clear hen hne hcs hN hVl hf hZ
    by_cases hlt : x < a.n
    · by_cases hgo : Z < 4
      · obtain ⟨s0, s1, s2⟩ := box_load HN.out
        have fv := HVl.out.free v.val
        have XS1 := Lib.hid (show Bx (wr.setCell ⟨w.heap.size + 1, v.val, none⟩ (.int .i64 (x : Nat))) w.heap.size 24 #[.int .i64 (a.n : Int), .string (bs a.set), .string (bs a.rel)] from HN.out.far (by simp) _)
        have XE1 := Lib.hid (show Bx (wr.setCell ⟨w.heap.size + 1, v.val, none⟩ (.int .i64 (x : Nat))) (w.heap.size + 1) 78 (envA4 (upd e v x)) from by
          have := HVl.out.set v.val (.int .i64 (x : Nat))
          rw [show (#[.int .i64 (e' 0 : Nat), .int .i64 (e' 1 : Nat), .int .i64 (e' 2 : Nat), .int .i64 (e' 3 : Nat)] : Array Value).setIfInBounds v.val (.int .i64 (x : Nat)) = envA4 (upd e v x) from by rw [← upd_upd e e' v x hE']; exact envA_upd e' v x] at this
          exact this)
        have B1 := Lib.hid (show Below w.heap.size w (wr.setCell ⟨w.heap.size + 1, v.val, none⟩ (.int .i64 (x : Nat))) from HF.out.setCell (by simp) _)
        have hlt' : upd e v x v < a.n := by rw [upd_same]; exact hlt
        have hcall := fun W => Ih s (k + 2) r ((k : Int) + 2) (upd e v x) W Hd1.out hs (by omega) (fun u => by unfold upd; split; exact hlt; exact He.out u)
        obtain ⟨E, hE⟩ : ∃ E, E = upd e v x := ⟨_, rfl⟩
        rw [← hE] at XE1
        simp only [← hE] at hcall
        unfold stA envA4 at hcall
        have HE := Lib.hid hE
        have cv := (HVl.out.cell v.val).trans (env_at e' v)
        clear hE' hE hlt'
        cases hp : p.holds a E with
        | false =>
          simp only [hp] at hcall
          have Hcall := Lib.hid hcall
          have hz1 : cnt (x + 1) (fun y => p.holds a (upd e v y)) = Z := by rw [Hcs.out, ← HE.out, hp, ← HZ.out]; rfl
          have Hz1 := Lib.hid hz1
          clear hcall hp hz1
          by_cases hbr : Z + (a.n - x - 1) < 4
          · have hv := Hne.out (by omega) (by rw [Hz1.out]; show Z + (a.n - (x + 1)) < 4; omega)
            have Hv := Lib.hid hv
            clear hv
            go_upto_region 33 with (go_at_call 93; refine (H1.out _).mono ?_; rintro ed w' ⟨rfl, rfl⟩)
            obtain ⟨r0, r1, r2⟩ := box_load XS1.out
            have d0 := XE1.out.cell 0
            have d1 := XE1.out.cell 1
            have d2 := XE1.out.cell 2
            have d3 := XE1.out.cell 3
            simp only [envA4, List.getElem?_toArray, List.getElem?_cons_zero, List.getElem?_cons_succ] at d0 d1 d2 d3
            clear s0 s1 s2 fv cv
            go_wp2_with (first | (go_at_call 95; refine (Hcall.out _).mono ?_; rintro ed w3 ⟨rfl, hz⟩; have B3 := Lib.hid (B1.out.trans (hz.mono B1.out.size)); have XS3 := Lib.hid (XS1.out.call hz); have XE3 := Lib.hid (XE1.out.call hz); clear hz r0 r1 r2 d0 d1 d2 d3; obtain ⟨t0, t1, t2⟩ := box_load XS3.out) | (go_at_call 92; refine (Hend.out _).mono ?_; rintro ed w7 ⟨rfl, rfl⟩))
            go_ret2
            exact ⟨ret_pair (by show Value.bool _ = Value.bool _; (congr 1; rw [show (Fm.qu .c4 v p).holds a e = false from Hv.out]; first | done | (simp; done) | (simp; omega))) (by show Value.int .i64 _ = Value.int .i64 _; congr 1 <;> simp [Fm.text] <;> omega), B3.out⟩
          · go_upto_region 33 with (go_at_call 93; refine (H1.out _).mono ?_; rintro ed w' ⟨rfl, rfl⟩)
            obtain ⟨r0, r1, r2⟩ := box_load XS1.out
            have d0 := XE1.out.cell 0
            have d1 := XE1.out.cell 1
            have d2 := XE1.out.cell 2
            have d3 := XE1.out.cell 3
            simp only [envA4, List.getElem?_toArray, List.getElem?_cons_zero, List.getElem?_cons_succ] at d0 d1 d2 d3
            clear s0 s1 s2 fv cv
            go_wp2_with (go_at_call 95; refine (Hcall.out _).mono ?_; rintro ed w3 ⟨rfl, hz⟩; have B3 := Lib.hid (B1.out.trans (hz.mono B1.out.size)); have XS3 := Lib.hid (XS1.out.call hz); have XE3 := Lib.hid (XE1.out.call hz); clear hz r0 r1 r2 d0 d1 d2 d3; obtain ⟨t0, t1, t2⟩ := box_load XS3.out)
            go_roundg (a.n - x)
            case rel => exact ⟨x + 1, by omega, by omega, by go_num, by first | (rw [Hz1.out]; done) | (rw [Hz1.out]; rfl), XS3.out, ⟨E, fun u hu => by rw [HE.out, upd_other hu], XE3.out⟩, B3.out⟩
            case measure => omega
        | true =>
          simp only [hp] at hcall
          have Hcall := Lib.hid hcall
          have hz1 : cnt (x + 1) (fun y => p.holds a (upd e v y)) = Z + 1 := by rw [Hcs.out, ← HE.out, hp, ← HZ.out]; rfl
          have Hz1 := Lib.hid hz1
          clear hcall hp hz1
          by_cases hbr : Z + 1 + (a.n - x - 1) < 4
          · have hv := Hne.out (by omega) (by rw [Hz1.out]; show Z + 1 + (a.n - (x + 1)) < 4; omega)
            have Hv := Lib.hid hv
            clear hv
            go_upto_region 33 with (go_at_call 93; refine (H1.out _).mono ?_; rintro ed w' ⟨rfl, rfl⟩)
            obtain ⟨r0, r1, r2⟩ := box_load XS1.out
            have d0 := XE1.out.cell 0
            have d1 := XE1.out.cell 1
            have d2 := XE1.out.cell 2
            have d3 := XE1.out.cell 3
            simp only [envA4, List.getElem?_toArray, List.getElem?_cons_zero, List.getElem?_cons_succ] at d0 d1 d2 d3
            clear s0 s1 s2 fv cv
            go_wp2_with (first | (go_at_call 95; refine (Hcall.out _).mono ?_; rintro ed w3 ⟨rfl, hz⟩; have B3 := Lib.hid (B1.out.trans (hz.mono B1.out.size)); have XS3 := Lib.hid (XS1.out.call hz); have XE3 := Lib.hid (XE1.out.call hz); clear hz r0 r1 r2 d0 d1 d2 d3; obtain ⟨t0, t1, t2⟩ := box_load XS3.out) | (go_at_call 92; refine (Hend.out _).mono ?_; rintro ed w7 ⟨rfl, rfl⟩))
            go_ret2
            exact ⟨ret_pair (by show Value.bool _ = Value.bool _; (congr 1; rw [show (Fm.qu .c4 v p).holds a e = false from Hv.out]; first | done | (simp; done) | (simp; omega))) (by show Value.int .i64 _ = Value.int .i64 _; congr 1 <;> simp [Fm.text] <;> omega), B3.out⟩
          · go_upto_region 33 with (go_at_call 93; refine (H1.out _).mono ?_; rintro ed w' ⟨rfl, rfl⟩)
            obtain ⟨r0, r1, r2⟩ := box_load XS1.out
            have d0 := XE1.out.cell 0
            have d1 := XE1.out.cell 1
            have d2 := XE1.out.cell 2
            have d3 := XE1.out.cell 3
            simp only [envA4, List.getElem?_toArray, List.getElem?_cons_zero, List.getElem?_cons_succ] at d0 d1 d2 d3
            clear s0 s1 s2 fv cv
            go_wp2_with (go_at_call 95; refine (Hcall.out _).mono ?_; rintro ed w3 ⟨rfl, hz⟩; have B3 := Lib.hid (B1.out.trans (hz.mono B1.out.size)); have XS3 := Lib.hid (XS1.out.call hz); have XE3 := Lib.hid (XE1.out.call hz); clear hz r0 r1 r2 d0 d1 d2 d3; obtain ⟨t0, t1, t2⟩ := box_load XS3.out)
            go_roundg (a.n - x)
            case rel => exact ⟨x + 1, by omega, by omega, by go_num, by first | (rw [Hz1.out]; done) | (rw [Hz1.out]; rfl), XS3.out, ⟨E, fun u hu => by rw [HE.out, upd_other hu], XE3.out⟩, B3.out⟩
            case measure => omega
      · obtain ⟨s0, s1, s2⟩ := box_load HN.out
        have hv := Hen.out (by rw [← HZ.out]; show 4 ≤ Z; omega)
        have Hv := Lib.hid hv
        clear hv
        go_wp2_with (go_at_call 92; refine (Hend.out _).mono ?_; rintro ed w7 ⟨rfl, rfl⟩)
        go_ret2
        exact ⟨ret_pair (by show Value.bool _ = Value.bool _; (congr 1; rw [show (Fm.qu .c4 v p).holds a e = true from Hv.out]; first | done | (simp; done) | (simp; omega))) (by show Value.int .i64 _ = Value.int .i64 _; congr 1 <;> simp [Fm.text] <;> omega), HF.out⟩
    · have hxe : x = a.n := by omega
      obtain ⟨s0, s1, s2⟩ := box_load HN.out
      have hv : (Fm.qu .c4 v p).holds a e = decide (4 ≤ Z) := by
        show Qn.says .c4 a.n (cnt a.n (fun y => p.holds a (upd e v y))) = _
        rw [← hxe, ← HZ.out, says_need _ hcn]
        rfl
      have Hv := Lib.hid hv
      clear hv
      go_wp2_with (go_at_call 92; refine (Hend.out _).mono ?_; rintro ed w7 ⟨rfl, rfl⟩)
      go_ret2
      exact ⟨ret_pair (by show Value.bool _ = Value.bool _; (congr 1; rw [Hv.out, decide_eq_decide]; first | done | omega)) (by show Value.int .i64 _ = Value.int .i64 _; congr 1 <;> simp [Fm.text] <;> omega), HF.out⟩



end Go.Proofs.YtjdnjhoddlalaaaDoor

namespace Go.Proofs.YtjdnjhoddlalaaaDoor
open Go.RowKit
open Pl
set_option linter.unusedSimpArgs false
set_option linter.unusedVariables false

theorem l2Holds_all (a : St) (ha : a.ok) : ∀ f : Fm, SHAt a f := by
  intro f
  induction f with
  | tru => exact sh_tru a ha
  | fls => exact sh_fls a ha
  | pr v => exact sh_pr a ha v
  | eq v u => exact sh_eq a ha v u
  | rel v u => exact sh_rel a ha v u
  | neg p ih => exact sh_neg a ha p ih
  | con p q ih ih2 => exact sh_con a ha p q ih ih2
  | dis p q ih ih2 => exact sh_dis a ha p q ih ih2
  | qu k v p ih =>
    cases k with
    | A => exact sh_A a ha v p ih
    | S => exact sh_S a ha v p ih
    | c2 => exact sh_c2 a ha v p ih
    | c3 => exact sh_c3 a ha v p ih
    | c4 => exact sh_c4 a ha v p ih

end Go.Proofs.YtjdnjhoddlalaaaDoor

namespace Go.Proofs.YtjdnjhoddlalaaaDoor
open Go.RowKit
open Pl
set_option linter.unusedSimpArgs false
set_option linter.unusedVariables false

end Go.Proofs.YtjdnjhoddlalaaaDoor

namespace Go.Proofs.YtjdnjhoddlalaaaDoor
open Go.RowKit
open Pl
set_option linter.unusedSimpArgs false
set_option linter.unusedVariables false

theorem div_natS (m k : Nat) : (m : Int) / 2 ^ k = ((m / 2 ^ k : Nat) : Int) := by
  rw [Int.natCast_ediv, Int.natCast_pow]; rfl
theorem st_ofS {i : Int} {s r : ByteArray} (h : okB i s r = true) : ∃ a : St, a.ok ∧ i = a.n ∧ s = bs a.set ∧ r = bs a.rel := by
  rcases ok_cases i s r with h2 | h2
  · rw [h] at h2; cases h2
  · exact h2
theorem el_inS (n : Nat) (z : Int) : (decide (0 ≤ z) && decide (z ≤ (n : Int) - 1)) = elB n z := by
  unfold elB
  congr 1
  rw [decide_eq_decide]; omega
theorem elAll_of {i : Int} {zs : List Int} (h : ∀ j, j < zs.length → elB i (zs.getD j 0) = true) : elAll i zs = true := by
  unfold elAll
  rw [List.all_eq_true]
  intro z hz
  obtain ⟨j, hj, rfl⟩ := List.getElem_of_mem hz
  have := h j hj
  rwa [List.getD_eq_getElem?_getD, List.getElem?_eq_getElem hj] at this
theorem elAll_not {i : Int} {zs : List Int} {j : Nat} (hj : j < zs.length) (h : elB i (zs.getD j 0) = false) : elAll i zs = false := by
  refine Bool.eq_false_iff.2 fun hq => ?_
  unfold elAll at hq
  have := List.all_eq_true.1 hq (zs.getD j 0) (by rw [List.getD_eq_getElem?_getD, List.getElem?_eq_getElem hj]; exact List.getElem_mem hj)
  rw [h] at this; cases this
/-- the elements so far -/
def envK (zs : List Int) (k : Nat) : Env := fun v => if v.val < k then (zs.getD v.val 0).toNat else 0
theorem envK_succ (zs : List Int) (k : Nat) (hk : k < 4) (x : Nat) (hx : zs.getD k 0 = (x : Int)) : upd (envK zs k) ⟨k, hk⟩ x = envK zs (k + 1) := by
  funext u
  unfold upd envK
  by_cases hu : u = ⟨k, hk⟩
  · subst hu
    simp only [if_true, hx]
    rw [if_pos (by omega)]
    rfl
  · have : u.val ≠ k := fun e => hu (Fin.ext e)
    rw [if_neg hu]
    by_cases h2 : u.val < k
    · rw [if_pos h2, if_pos (by omega)]
    · rw [if_neg h2, if_neg (by omega)]
theorem envK_all (zs : List Int) : envK zs zs.length = envL (zs.map Int.toNat) := by
  funext u
  unfold envK envL
  by_cases h : u.val < zs.length
  · rw [if_pos h, List.getD_eq_getElem?_getD, List.getD_eq_getElem?_getD, List.getElem?_map, List.getElem?_eq_getElem h]; rfl
  · rw [if_neg h, List.getD_eq_getElem?_getD, List.getElem?_map, List.getElem?_eq_none (by omega)]; rfl

set_option maxHeartbeats 1000000 in
set_option maxRecDepth 100000 in
theorem l2True_calls (a : St) (ha : a.ok) (f : ByteArray) (g : Fm) (e : Env) (w : World) (hf : f.data.toList = g.text) (hs : f.size ≤ 4000) (he : ∀ v, e v < a.n) :
    Calls Tryd.prog 56 #[stA a, .string f, .agg (envA4 e)] w fun ed w' => ed = .returned (.bool (g.holds a e)) ∧ Below w.heap.size w w' := by
  have hc := fun W => l2Holds_all a ha g f 0 [] 0 e W (by simpa using hf) hs rfl he
  have XS := Lib.hid ((Bx.new w 24 #[.int .i64 (a.n : Int), .string (bs a.set), .string (bs a.rel)]).alloc (.cells #[.int .i64 (e 0 : Nat), .int .i64 (e 1 : Nat), .int .i64 (e 2 : Nat), .int .i64 (e 3 : Nat)] 78))
  have XE := Lib.hid (show Bx ((w.alloc (.cells #[.int .i64 (a.n : Int), .string (bs a.set), .string (bs a.rel)] 24)).alloc (.cells #[.int .i64 (e 0 : Nat), .int .i64 (e 1 : Nat), .int .i64 (e 2 : Nat), .int .i64 (e 3 : Nat)] 78)) (w.heap.size + 1) 78 #[.int .i64 (e 0 : Nat), .int .i64 (e 1 : Nat), .int .i64 (e 2 : Nat), .int .i64 (e 3 : Nat)] from bx_two w _ _)
  have BV := Lib.hid (show Below w.heap.size w ((w.alloc (.cells #[.int .i64 (a.n : Int), .string (bs a.set), .string (bs a.rel)] 24)).alloc (.cells #[.int .i64 (e 0 : Nat), .int .i64 (e 1 : Nat), .int .i64 (e 2 : Nat), .int .i64 (e 3 : Nat)] 78)) from ((Below.refl _ _).alloc (Nat.le_refl _) _).alloc (by simp) _)
  obtain ⟨s0, s1, s2⟩ := box_load XS.out
  have c0 := XE.out.cell 0
  have c1 := XE.out.cell 1
  have c2 := XE.out.cell 2
  have c3 := XE.out.cell 3
  simp only [List.getElem?_toArray, List.getElem?_cons_zero, List.getElem?_cons_succ] at c0 c1 c2 c3
  unfold stA envA4 at hc ⊢
  have Hc := Lib.hid hc
  clear hc hf he
  go_enter Tryd.func56, Tryd.ntmps56
  go_wp2_with (go_at_call 95; refine (Hc.out _).mono ?_; rintro ed w1 ⟨rfl, hz⟩; have B1 := Lib.hid (BV.out.trans (hz.mono BV.out.size)); clear hz s0 s1 s2 c0 c1 c2 c3)
  go_ret
  exact ⟨rfl, B1.out⟩

set_option maxHeartbeats 1000000 in
set_option maxRecDepth 100000 in
theorem l3Ready_calls (i : Int) (s r f : ByteArray) (k : Nat) (w : World) (hs : s.size ≤ maxLen) (hr : r.size ≤ maxLen) (hf : f.size ≤ maxLen) (hk : k ≤ 4) :
    Calls Tryd.prog 62 #[stV i s r, .string f, .int .i64 (k : Nat)] w fun e w' => e = .returned (.bool (rdyB i s r f k)) ∧ Below w.heap.size w w' := by
  have cS := fun W => StructureValid_spec i s r W hs hr
  have cF := fun W => FormulaValid_spec f W hf
  have B0 := Lib.hid (show Below w.heap.size w (w.alloc (.cells #[.int .i64 i, .string s, .string r] 24)) from (Below.refl _ _).alloc (Nat.le_refl _) _)
  obtain ⟨k0, k1, k2⟩ := box_load (Bx.new w 24 #[.int .i64 i, .string s, .string r])
  clear hs hr hf
  cases hok : okB i s r
  case false =>
    rw [rdy_noSt hok]
    simp only [hok] at cS
    have CS := Lib.hid cS
    clear cS cF hok
    go_enter Tryd.func62, Tryd.ntmps62
    go_wp2_with (go_at_call 52; refine (CS.out _).mono ?_; rintro e w1 ⟨rfl, hz⟩; have B1 := Lib.hid (B0.out.trans (hz.mono B0.out.size)); clear hz k0 k1 k2)
    go_ret
    exact ⟨rfl, B1.out⟩
  case true =>
  simp only [hok] at cS
  have CS := Lib.hid cS
  clear cS
  rcases fm_cases f with ⟨hb, hno⟩ | ⟨g, hb, hfm, hs4, hl4⟩
  · rw [rdy_noFm hb]
    simp only [hb] at cF
    have CF := Lib.hid cF
    clear cF hok hb hno
    go_enter Tryd.func62, Tryd.ntmps62
    go_wp2_with (first | (go_at_call 52; refine (CS.out _).mono ?_; rintro e w1 ⟨rfl, hz⟩; have B1 := Lib.hid (B0.out.trans (hz.mono B0.out.size)); clear hz k0 k1 k2) | (go_at_call 53; refine (CF.out _).mono ?_; rintro e w2 ⟨rfl, rfl⟩))
    go_ret
    exact ⟨rfl, B1.out⟩
  · obtain ⟨a, ha, rfl, rfl, rfl⟩ := st_ofS hok
    rw [rdy_of hb hfm ha k]
    simp only [hb] at cF
    have CF := Lib.hid cF
    have hcall := l2Free_calls g.size g f 0 [] 0
    have Hc := Lib.hid (fun W => hcall W (Nat.le_refl _) (by simpa using hfm) hs4 rfl)
    have Hdv := Lib.hid (div_natS g.freeBits k)
    have hki : (k : Int) ≤ 4 := by omega
    have hfr : g.freeBits < 16 := freeBits_lt g
    clear cF hok hb hfm hcall
    go_enter Tryd.func62, Tryd.ntmps62
    go_wp2_with (first | (go_at_call 52; refine (CS.out _).mono ?_; rintro e w1 ⟨rfl, hz⟩; have B1 := Lib.hid (B0.out.trans (hz.mono B0.out.size)); clear hz k0 k1 k2) | (go_at_call 53; refine (CF.out _).mono ?_; rintro e w2 ⟨rfl, rfl⟩) | (go_at_call 55; refine (Hc.out _).mono ?_; rintro e w2 ⟨rfl, rfl⟩))
    go_ret
    exact ⟨congrArg Ending.returned (show Value.bool ((g.freeBits : Int) / 2 ^ k == 0) = Value.bool _ from by congr 1; rw [Bool.eq_iff_iff, decide_eq_true_eq, beq_iff_eq]; have := Hdv.out; omega), B1.out⟩

set_option maxHeartbeats 4000000 in
set_option maxRecDepth 100000 in
theorem HoldsAt_spec (i : Int) (s r f : ByteArray) (A : Option Addr) (zs : List Int) (cap : Nat) (w : World) (hs : s.size ≤ maxLen) (hr : r.size ≤ maxLen) (hf : f.size ≤ maxLen) (hn : zs.length ≤ 1048576) (hcap : zs.length ≤ cap) (hA : LRow w A zs) :
    Calls Tryd.prog 11 #[stV i s r, .string f, .slice A zs.length cap] w fun e w' => e = .returned (.tuple #[.bool (holdV i s r f zs), .bool (holdB i s r f zs)]) ∧ Below w.heap.size w w' := by
  have cS := fun W => StructureValid_spec i s r W hs hr
  have cF := fun W => FormulaValid_spec f W hf
  have B0 := Lib.hid (show Below w.heap.size w ((w.alloc (.cells #[.int .i64 i, .string s, .string r] 24)).alloc (.cells #[.int .i64 0, .int .i64 0, .int .i64 0, .int .i64 0] 78)) from ((Below.refl _ _).alloc (Nat.le_refl _) _).alloc (by simp) _)
  have XS := Lib.hid ((Bx.new w 24 #[.int .i64 i, .string s, .string r]).alloc (.cells #[.int .i64 0, .int .i64 0, .int .i64 0, .int .i64 0] 78))
  have XE := Lib.hid (show Bx ((w.alloc (.cells #[.int .i64 i, .string s, .string r] 24)).alloc (.cells #[.int .i64 0, .int .i64 0, .int .i64 0, .int .i64 0] 78)) (w.heap.size + 1) 78 #[.int .i64 0, .int .i64 0, .int .i64 0, .int .i64 0] from bx_two w _ _)
  have HA0 := Lib.hid hA
  obtain ⟨k0, k1, k2⟩ := box_load XS.out
  clear hA hs hr hf
  cases hok : okB i s r
  case false =>
    have hh := rdy_noSt hok f zs.length
    rw [hold_no (hold_noRdy hh), hold_noRdy hh]
    simp only [hok] at cS
    have CS := Lib.hid cS
    clear cS cF hok hh
    go_enter Tryd.func11, Tryd.ntmps11
    go_wp2_with (go_at_call 52; refine (CS.out _).mono ?_; rintro e w1 ⟨rfl, hz⟩; have B1 := Lib.hid (B0.out.trans (hz.mono B0.out.size)); have XS1 := Lib.hid (XS.out.call hz); have XE1 := Lib.hid (XE.out.call hz); clear hz k0 k1 k2)
    go_ret2
    exact ⟨rfl, B1.out⟩
  case true =>
  simp only [hok] at cS
  have CS := Lib.hid cS
  clear cS
  rcases fm_cases f with ⟨hb, hno⟩ | ⟨g, hb, hfm, hs4, hl4⟩
  · rw [hold_no (hold_noRdy (rdy_noFm hb i s r zs.length)), hold_noRdy (rdy_noFm hb i s r zs.length)]
    simp only [hb] at cF
    have CF := Lib.hid cF
    clear cF hok hb hno
    go_enter Tryd.func11, Tryd.ntmps11
    go_wp2_with (first | (go_at_call 52; refine (CS.out _).mono ?_; rintro e w1 ⟨rfl, hz⟩; have B1 := Lib.hid (B0.out.trans (hz.mono B0.out.size)); have XS1 := Lib.hid (XS.out.call hz); have XE1 := Lib.hid (XE.out.call hz); clear hz k0 k1 k2) | (go_at_call 53; refine (CF.out _).mono ?_; rintro e w2 ⟨rfl, rfl⟩))
    go_ret2
    exact ⟨rfl, B1.out⟩
  simp only [hb] at cF
  have CF := Lib.hid cF
  clear cF
  by_cases h4 : zs.length ≤ 4
  case neg =>
    rw [hold_no (hold_noLen h4), hold_noLen h4]
    have h4i : ¬ (zs.length : Int) ≤ 4 := by omega
    clear hok hb hfm
    go_enter Tryd.func11, Tryd.ntmps11
    go_wp2_with (first | (go_at_call 52; refine (CS.out _).mono ?_; rintro e w1 ⟨rfl, hz⟩; have B1 := Lib.hid (B0.out.trans (hz.mono B0.out.size)); have XS1 := Lib.hid (XS.out.call hz); have XE1 := Lib.hid (XE.out.call hz); clear hz k0 k1 k2) | (go_at_call 53; refine (CF.out _).mono ?_; rintro e w2 ⟨rfl, rfl⟩))
    go_ret2
    exact ⟨rfl, B1.out⟩
  case pos =>
  have h4i : (zs.length : Int) ≤ 4 := by omega
  obtain ⟨a, ha, rfl, rfl, rfl⟩ := st_ofS hok
  have hry := rdy_of hb hfm ha zs.length
  have hcall := l2Free_calls g.size g f 0 [] 0
  have Hc := Lib.hid (fun W => hcall W (Nat.le_refl _) (by simpa using hfm) hs4 rfl)
  have hdv := div_natS g.freeBits zs.length
  have hfr : g.freeBits < 16 := freeBits_lt g
  have htru := fun e W he => l2True_calls a ha f g e W hfm hs4 he
  have hel0 := fun h => @hold_noEl a.n (bs a.set) (bs a.rel) f zs h
  have hel1 := fun h1 h2 => @hold_yes a.n (bs a.set) (bs a.rel) f zs h1 h4 h2
  have hno := fun h => @hold_no a.n (bs a.set) (bs a.rel) f zs h
  have hnr := fun h => @hold_noRdy a.n (bs a.set) (bs a.rel) f zs h
  have hyv := fun h => @hold_yesV a.n (bs a.set) (bs a.rel) f zs h
  have htv := tru_of hfm a (zs.map Int.toNat)
  have hlt := fun h => (@elAll_nats a.n zs h).2
  have h8 := ha.hi
  have h1n := ha.lo
  obtain ⟨VB, hVB⟩ : ∃ VB, VB = holdB a.n (bs a.set) (bs a.rel) f zs := ⟨_, rfl⟩
  obtain ⟨VA, hVA⟩ : ∃ VA, VA = holdV a.n (bs a.set) (bs a.rel) f zs := ⟨_, rfl⟩
  rw [htv, ← hVA, ← hVB] at hyv
  rw [← hVB] at hel0 hel1 hnr
  rw [← hVA, ← hVB] at hno
  rw [← hVA, ← hVB]
  have Hry := Lib.hid hry
  have Htru := Lib.hid htru
  have Hel0 := Lib.hid hel0
  have Hel1 := Lib.hid hel1
  have Hno := Lib.hid hno
  have Hnr := Lib.hid hnr
  have Hyv := Lib.hid hyv
  have Hlt := Lib.hid hlt
  have Hdv := Lib.hid hdv
  clear hok hb hfm hcall hry htru hel0 hel1 hno hnr hyv htv hlt hVB hVA hdv
  go_enter Tryd.func11, Tryd.ntmps11
  go_wp2_with (first | (go_at_call 52; refine (CS.out _).mono ?_; rintro e w1 ⟨rfl, hz⟩; have B1 := Lib.hid (B0.out.trans (hz.mono B0.out.size)); have XS1 := Lib.hid (XS.out.call hz); have XE1 := Lib.hid (XE.out.call hz); clear hz k0 k1 k2) | (go_at_call 53; refine (CF.out _).mono ?_; rintro e w2 ⟨rfl, rfl⟩))
  go_loopg [9] zs.length (fun c i1 wr => ∃ k : Nat, k + c = zs.length ∧ i1 = .int .i64 (k : Nat) ∧ (∀ j, j < k → elB a.n (zs.getD j 0) = true) ∧ Bx wr w.heap.size 24 #[.int .i64 (a.n : Int), .string (bs a.set), .string (bs a.rel)] ∧ Bx wr (w.heap.size + 1) 78 #[.int .i64 ((envK zs k) 0 : Nat), .int .i64 ((envK zs k) 1 : Nat), .int .i64 ((envK zs k) 2 : Nat), .int .i64 ((envK zs k) 3 : Nat)] ∧ Below w.heap.size w wr)
  case atStart => exact ⟨0, by omega, rfl, fun j hj => absurd hj (Nat.not_lt_zero _), XS1.out, XE1.out, B1.out⟩
  case round =>
    obtain ⟨k, hk, rfl, hall, hxs, hxe, hbr⟩ := hrel
    have Hall := Lib.hid hall
    have XS2 := Lib.hid hxs
    have XE2 := Lib.hid hxe
    have B2 := Lib.hid hbr
    clear hall hxs hxe hbr
    by_cases hlt : k < zs.length
    · have hlA := HA0.out
      obtain ⟨ga, rfl, hc0⟩ := hlA (by omega)
      have hgl : ga < w.heap.size := World.block_lt_of_cell? w _ (hc0 k hlt)
      have d1 := (B2.out.cell (p := ⟨ga, k, none⟩) hgl).trans (hc0 k hlt)
      have i1 : (0 : Int) ≤ (k : Int) := by omega
      have i2 : (k : Int) < (zs.length : Int) := by omega
      have i3 : (k : Int) < 4 := by omega
      obtain ⟨z, hz⟩ : ∃ z, z = zs.getD k 0 := ⟨_, rfl⟩
      rw [← hz] at d1
      have cin : ∀ W, Calls Tryd.prog 54 #[.int .i64 z, .int .i64 0, .int .i64 (IntKind.i64.wrap ((a.n : Int) - 1))] W fun e w' => e = .returned (.bool (elB a.n z)) ∧ W = w' := fun W => by
        have h := l1In_calls z 0 (IntKind.i64.wrap ((a.n : Int) - 1)) W
        rw [show decide (z ≤ IntKind.i64.wrap ((a.n : Int) - 1)) = decide (z ≤ (a.n : Int) - 1) by rw [IntWalk.i64_in _ (by omega)], el_inS] at h
        exact h
      have Hz := Lib.hid hz
      obtain ⟨m0, m1, m2⟩ := box_load XS2.out
      clear hc0 hlA hz
      rcases el_cases a.n z with he | ⟨x, rfl, hxn, he⟩
      · simp only [he] at cin
        have CIN := Lib.hid cin
        have Hv := Lib.hid (Hel0.out (elAll_not hlt (by rw [← Hz.out]; exact he)))
        clear cin he
        go_upto_region 7 with (fail)
        refine region_sched [(0, true), (1, true), (2, true), (3, true), (4, true), (5, true), (6, true), (7, false), (8, true)] (fun w' : World => w'.cell? ⟨ga, k, none⟩ = some (.int .i64 z) ∧ w'.cell? ⟨w.heap.size, 0, none⟩ = some (.int .i64 (a.n : Int))) (by kernel_rfl) (by kernel_rfl) (by kernel_rfl) (by kernel_rfl) (fun _ _ _ _ h => h) ?_ (fun Q1 hQ1 => ?_)
        · exact ⟨d1, m0⟩
        try simp only [List.append]
        refine sched_take' (v := ?_) (a' := ?_) rfl (by kernel_rfl) ?_ rfl ?_ ?_
        rotate_left 2
        · intro w hSw
          (try dsimp only at hSw)
          go_simp
          try with_reducible rfl
        · (try simp only [Act.put, List.setIfInBounds_toArray, List.set_cons_zero, List.set_cons_succ])
          try rfl
        refine sched_take' (v := ?_) (a' := ?_) rfl (by kernel_rfl) ?_ rfl ?_ ?_
        rotate_left 2
        · intro w hSw
          (try dsimp only at hSw)
          go_simp
          try with_reducible rfl
        · (try simp only [Act.put, List.setIfInBounds_toArray, List.set_cons_zero, List.set_cons_succ])
          try rfl
        refine sched_take' (v := ?_) (a' := ?_) rfl (by kernel_rfl) ?_ rfl ?_ ?_
        rotate_left 2
        · intro w hSw
          (try dsimp only at hSw)
          go_simp
          try with_reducible rfl
        · (try simp only [Act.put, List.setIfInBounds_toArray, List.set_cons_zero, List.set_cons_succ])
          try rfl
        refine sched_take' (v := .int .i64 z) (a' := ?_) rfl (by kernel_rfl) ?_ rfl ?_ ?_
        rotate_left 1
        · intro w hSw
          (try dsimp only at hSw)
          go_simp
          first | done | (obtain ⟨u0, u1⟩ := hSw; simp [*])
        · (try simp only [Act.put, List.setIfInBounds_toArray, List.set_cons_zero, List.set_cons_succ])
          try rfl
        refine sched_take' (v := ?_) (a' := ?_) rfl (by kernel_rfl) ?_ rfl ?_ ?_
        rotate_left 2
        · intro w hSw
          (try dsimp only at hSw)
          go_simp
          try with_reducible rfl
        · (try simp only [Act.put, List.setIfInBounds_toArray, List.set_cons_zero, List.set_cons_succ])
          try rfl
        refine sched_take' (v := .int .i64 (a.n : Int)) (a' := ?_) rfl (by kernel_rfl) ?_ rfl ?_ ?_
        rotate_left 1
        · intro w hSw
          (try dsimp only at hSw)
          go_simp
          first | done | (obtain ⟨u0, u1⟩ := hSw; simp [*])
        · (try simp only [Act.put, List.setIfInBounds_toArray, List.set_cons_zero, List.set_cons_succ])
          try rfl
        refine sched_take' (v := ?_) (a' := ?_) rfl (by kernel_rfl) ?_ rfl ?_ ?_
        rotate_left 2
        · intro w hSw
          (try dsimp only at hSw)
          go_simp
          try with_reducible rfl
        · (try simp only [Act.put, List.setIfInBounds_toArray, List.set_cons_zero, List.set_cons_succ])
          try rfl
        refine sched_call rfl (by kernel_rfl) (fun K1 hK1 => ?_)
        go_simp
        refine (CIN.out _).mono ?_
        rintro ed w3 ⟨rfl, rfl⟩
        go_wp2_with fail
        refine hK1.out _ _ ?_ (sched_lay (a' := ?_) ?_ ?_)
        · exact ⟨d1, m0⟩
        rotate_left 1
        · (try simp only [Act.put, List.getElem_toArray, List.getElem_cons_succ, List.getElem_cons_zero, List.setIfInBounds_toArray, List.set_cons_zero, List.set_cons_succ])
          try rfl
        clear hK1 K1
        refine sched_take' (v := ?_) (a' := ?_) rfl (by kernel_rfl) ?_ rfl ?_ ?_
        rotate_left 2
        · intro w hSw
          (try dsimp only at hSw)
          go_simp
          try with_reducible rfl
        · (try simp only [Act.put, List.setIfInBounds_toArray, List.set_cons_zero, List.set_cons_succ])
          try rfl
        refine sched_done (hQ1.out _ _ ?_)
        go_wp2_with fail
        go_ret2
        exact ⟨ret_pair (by show Value.bool false = Value.bool _; rw [Hno.out Hv.out]) (by show Value.bool false = Value.bool _; rw [Hv.out]), B2.out.drew⟩
      · simp only [he] at cin
        have CIN := Lib.hid cin
        have He := Lib.hid he
        have hk4 : k < 4 := by omega
        have XS3 := Lib.hid (show Bx (wr.drew.setCell ⟨w.heap.size + 1, k, none⟩ (.int .i64 (x : Nat))) w.heap.size 24 #[.int .i64 (a.n : Int), .string (bs a.set), .string (bs a.rel)] from XS2.out.drew.far (by simp) _)
        have XE3 := Lib.hid (show Bx (wr.drew.setCell ⟨w.heap.size + 1, k, none⟩ (.int .i64 (x : Nat))) (w.heap.size + 1) 78 (envA4 (envK zs (k + 1))) from by
          have := XE2.out.drew.set k (.int .i64 (x : Nat))
          rw [show (#[.int .i64 ((envK zs k) 0 : Nat), .int .i64 ((envK zs k) 1 : Nat), .int .i64 ((envK zs k) 2 : Nat), .int .i64 ((envK zs k) 3 : Nat)] : Array Value).setIfInBounds k (.int .i64 (x : Nat)) = envA4 (envK zs (k + 1)) from (envA_upd (envK zs k) ⟨k, hk4⟩ x).trans (by rw [envK_succ zs k hk4 x Hz.out.symm])] at this
          exact this)
        have fv := XE2.out.free k
        have cv := (XE2.out.cell k).trans (env_at (envK zs k) ⟨k, hk4⟩)
        have B3 := Lib.hid (show Below w.heap.size w (wr.drew.setCell ⟨w.heap.size + 1, k, none⟩ (.int .i64 (x : Nat))) from B2.out.drew.setCell (by simp) _)
        clear cin he
        go_upto_region 7 with (fail)
        refine region_sched [(0, true), (1, true), (2, true), (3, true), (4, true), (5, true), (6, true), (7, false), (8, true)] (fun w' : World => w'.cell? ⟨ga, k, none⟩ = some (.int .i64 (x : Nat)) ∧ w'.cell? ⟨w.heap.size, 0, none⟩ = some (.int .i64 (a.n : Int))) (by kernel_rfl) (by kernel_rfl) (by kernel_rfl) (by kernel_rfl) (fun _ _ _ _ h => h) ?_ (fun Q1 hQ1 => ?_)
        · exact ⟨d1, m0⟩
        try simp only [List.append]
        refine sched_take' (v := ?_) (a' := ?_) rfl (by kernel_rfl) ?_ rfl ?_ ?_
        rotate_left 2
        · intro w hSw
          (try dsimp only at hSw)
          go_simp
          try with_reducible rfl
        · (try simp only [Act.put, List.setIfInBounds_toArray, List.set_cons_zero, List.set_cons_succ])
          try rfl
        refine sched_take' (v := ?_) (a' := ?_) rfl (by kernel_rfl) ?_ rfl ?_ ?_
        rotate_left 2
        · intro w hSw
          (try dsimp only at hSw)
          go_simp
          try with_reducible rfl
        · (try simp only [Act.put, List.setIfInBounds_toArray, List.set_cons_zero, List.set_cons_succ])
          try rfl
        refine sched_take' (v := ?_) (a' := ?_) rfl (by kernel_rfl) ?_ rfl ?_ ?_
        rotate_left 2
        · intro w hSw
          (try dsimp only at hSw)
          go_simp
          try with_reducible rfl
        · (try simp only [Act.put, List.setIfInBounds_toArray, List.set_cons_zero, List.set_cons_succ])
          try rfl
        refine sched_take' (v := .int .i64 (x : Nat)) (a' := ?_) rfl (by kernel_rfl) ?_ rfl ?_ ?_
        rotate_left 1
        · intro w hSw
          (try dsimp only at hSw)
          go_simp
          first | done | (obtain ⟨u0, u1⟩ := hSw; simp [*])
        · (try simp only [Act.put, List.setIfInBounds_toArray, List.set_cons_zero, List.set_cons_succ])
          try rfl
        refine sched_take' (v := ?_) (a' := ?_) rfl (by kernel_rfl) ?_ rfl ?_ ?_
        rotate_left 2
        · intro w hSw
          (try dsimp only at hSw)
          go_simp
          try with_reducible rfl
        · (try simp only [Act.put, List.setIfInBounds_toArray, List.set_cons_zero, List.set_cons_succ])
          try rfl
        refine sched_take' (v := .int .i64 (a.n : Int)) (a' := ?_) rfl (by kernel_rfl) ?_ rfl ?_ ?_
        rotate_left 1
        · intro w hSw
          (try dsimp only at hSw)
          go_simp
          first | done | (obtain ⟨u0, u1⟩ := hSw; simp [*])
        · (try simp only [Act.put, List.setIfInBounds_toArray, List.set_cons_zero, List.set_cons_succ])
          try rfl
        refine sched_take' (v := ?_) (a' := ?_) rfl (by kernel_rfl) ?_ rfl ?_ ?_
        rotate_left 2
        · intro w hSw
          (try dsimp only at hSw)
          go_simp
          try with_reducible rfl
        · (try simp only [Act.put, List.setIfInBounds_toArray, List.set_cons_zero, List.set_cons_succ])
          try rfl
        refine sched_call rfl (by kernel_rfl) (fun K1 hK1 => ?_)
        go_simp
        refine (CIN.out _).mono ?_
        rintro ed w3 ⟨rfl, rfl⟩
        go_wp2_with fail
        refine hK1.out _ _ ?_ (sched_lay (a' := ?_) ?_ ?_)
        · exact ⟨d1, m0⟩
        rotate_left 1
        · (try simp only [Act.put, List.getElem_toArray, List.getElem_cons_succ, List.getElem_cons_zero, List.setIfInBounds_toArray, List.set_cons_zero, List.set_cons_succ])
          try rfl
        clear hK1 K1
        refine sched_take' (v := ?_) (a' := ?_) rfl (by kernel_rfl) ?_ rfl ?_ ?_
        rotate_left 2
        · intro w hSw
          (try dsimp only at hSw)
          go_simp
          try with_reducible rfl
        · (try simp only [Act.put, List.setIfInBounds_toArray, List.set_cons_zero, List.set_cons_succ])
          try rfl
        refine sched_done (hQ1.out _ _ ?_)
        go_wp2_with fail
        go_roundg (zs.length - k - 1)
        case rel => exact ⟨k + 1, by omega, by go_num, fun j hj => by
          by_cases hjk : j = k
          · subst hjk; rw [← Hz.out]; exact He.out
          · exact Hall.out j (by omega), XS3.out, XE3.out, B3.out⟩
        case measure => omega
    · have hke : k = zs.length := by omega
      subst hke
      have hall := elAll_of Hall.out
      have Hall2 := Lib.hid hall
      clear hall
      by_cases hfz : g.freeBits / 2 ^ zs.length = 0
      · have hry := Hry.out
        rw [decide_eq_true hfz] at hry
        have hv := Hel1.out hry Hall2.out
        have Hv := Lib.hid hv
        have Hw := Lib.hid (Hyv.out hv)
        have hz0 : (g.freeBits : Int) / 2 ^ zs.length = 0 := by rw [Hdv.out]; omega
        have htr := fun W => Htru.out (envK zs zs.length) W (by rw [envK_all]; exact env_lt ha (Hlt.out Hall2.out))
        unfold stA envA4 at htr
        have HTR := Lib.hid htr
        obtain ⟨m0, m1, m2⟩ := box_load XS2.out
        have c0 := XE2.out.cell 0
        have c1 := XE2.out.cell 1
        have c2 := XE2.out.cell 2
        have c3 := XE2.out.cell 3
        simp only [List.getElem?_toArray, List.getElem?_cons_zero, List.getElem?_cons_succ] at c0 c1 c2 c3
        clear hry hfz hv htr
        go_wp2_with (first | (go_at_call 55; refine (Hc.out _).mono ?_; rintro e w2 ⟨rfl, rfl⟩) | (go_at_call 56; refine (HTR.out _).mono ?_; rintro e w3 ⟨rfl, hz⟩; have B3 := Lib.hid (B2.out.trans (hz.mono B2.out.size)); clear hz m0 m1 m2 c0 c1 c2 c3))
        go_ret2
        exact ⟨ret_pair (by show Value.bool _ = Value.bool _; rw [Hw.out]; first | done | rfl | rw [envK_all]) (by show Value.bool true = Value.bool _; rw [Hv.out]), B3.out⟩
      · have hry := Hry.out
        rw [decide_eq_false hfz] at hry
        have Hv := Lib.hid (Hnr.out hry)
        have hne : ((g.freeBits : Int) / 2 ^ zs.length != 0) = true := by rw [Hdv.out, bne_iff_ne]; omega
        clear hry hfz
        go_wp2_with (go_at_call 55; refine (Hc.out _).mono ?_; rintro e w2 ⟨rfl, rfl⟩)
        go_ret2
        exact ⟨ret_pair (by show Value.bool false = Value.bool _; rw [Hno.out Hv.out]) (by show Value.bool false = Value.bool _; rw [Hv.out]), B2.out⟩

end Go.Proofs.YtjdnjhoddlalaaaDoor

namespace Go.Proofs.YtjdnjhoddlalaaaDoor
open Go.RowKit
open Pl
set_option linter.unusedSimpArgs false
set_option linter.unusedVariables false

/-- the elements below k that are marked -/
def rk (f : Nat → Bool) (k : Nat) : List Nat := (List.range k).filter f
theorem rk_succ (f : Nat → Bool) (k : Nat) : rk f (k + 1) = if f k then rk f k ++ [k] else rk f k := by
  unfold rk
  rw [List.range_succ, List.filter_append]
  cases h : f k <;> simp [h]
theorem rk_len (f : Nat → Bool) (k : Nat) : (rk f k).length ≤ k := by
  have := List.length_filter_le f (List.range k)
  simpa [rk] using this

theorem own_openZ {W : World} {base : Nat} {v : Value} {zs : List Int} (h : W.ownsRow base 3 1 v zs.length (intsV zs)) : ∃ A cap, v = .slice A zs.length cap ∧ zs.length ≤ cap ∧ LRow W A zs := by
  have h0 := h
  rcases h.2 with ⟨rfl, hn⟩ | ⟨g, cap, cur, rfl, _, _, hc, _⟩
  · exact ⟨none, 0, by rw [hn], by omega, fun hl => by omega⟩
  · exact ⟨some ⟨g, 0, none⟩, cap, rfl, hc, LRow_of h0⟩
theorem own_call {W W' : World} {base n : Nat} {e : TypeId} {v : Value} {xs : List Value} (h : W.ownsRow base e 1 v n xs) (hb : Below W.heap.size W W') : W'.ownsRow base e 1 v n xs := by
  obtain ⟨h1, h2⟩ := h
  refine ⟨h1, ?_⟩
  rcases h2 with h2 | ⟨g, c, cur, hv, hg, hh, hr⟩
  · exact .inl h2
  · exact .inr ⟨g, c, cur, hv, hg, (hb.block g (Array.getElem?_eq_some_iff.1 hh).1).trans hh, hr⟩
theorem own_others {W W' : World} {base n : Nat} {e : TypeId} {v : Value} {xs : List Value} {row : Option Nat} (h : W.ownsRow base e 1 v n xs) (hg : W.grownBy W' row) (hne : v.ownBlock ≠ row ∨ v.ownBlock = none) : W'.ownsRow base e 1 v n xs := by
  obtain ⟨h1, h2⟩ := h
  refine ⟨h1, ?_⟩
  rcases h2 with h2 | ⟨g, c, cur, hv, hb, hh, hr⟩
  · exact .inl h2
  · refine .inr ⟨g, c, cur, hv, hb, (hg.block g (Array.getElem?_eq_some_iff.1 hh).1 (fun e => ?_)).trans hh, hr⟩
    rcases hne with hne | hne
    · exact hne (by rw [hv]; exact e)
    · rw [hv] at hne; cases hne
/-- two lists do not share a block -/
def Apart (v u : Value) : Prop := v.ownBlock ≠ u.ownBlock ∨ v.ownBlock = none
theorem Apart.next {W : World} {base n H : Nat} {e : TypeId} {v u u' : Value} {xs : List Value} (h : Apart v u) (ho : W.ownsRow base e 1 v n xs) (hH : W.heap.size ≤ H) (hat : u'.ownBlock = u.ownBlock ∨ u'.ownBlock = some H) : Apart v u' := by
  rcases h with h | h
  · rcases hat with hat | hat
    · exact .inl (by rw [hat]; exact h)
    · refine .inl fun e => ?_
      rw [hat] at e
      have := (ho.lt _ e).2
      omega
  · exact .inr h
theorem Apart.symm {v u : Value} (h : Apart v u) : Apart u v := by
  cases hu : u.ownBlock with
  | none => exact .inr hu
  | some g =>
    rcases h with h | h
    · exact .inl (Ne.symm h)
    · exact .inl (by rw [h, hu]; simp)
theorem Apart.new {W W' : World} {base base' n n' : Nat} {e : TypeId} {v u : Value} {xs ys : List Value} (hv : W.ownsRow base e 1 v n xs) (hu : W'.ownsRow base' e 1 u n' ys) (hb : W.heap.size ≤ base') : Apart v u := by
  cases h : v.ownBlock with
  | none => exact .inr h
  | some g =>
    refine .inl fun e => ?_
    have h1 := (hv.lt g h).2
    have h2 := (hu.lt g (by rw [← e, h])).1
    omega
theorem natsI_snoc (l : List Nat) (k : Nat) : intsV (natsI (l ++ [k])) = intsV (natsI l) ++ [.int .i64 (k : Nat)] := by simp [intsV, natsI]
theorem intsV_snoc (l : List Int) (k : Int) : intsV (l ++ [k]) = intsV l ++ [.int .i64 k] := by simp [intsV]
theorem mod_at {n m : Nat} : (n : Int).tmod (m : Int) = ((n % m : Nat) : Int) := by rw [Int.ofNat_tmod]

theorem own_cells {W : World} {base n : Nat} {e : TypeId} {v : Value} {xs : List Value} (h : W.ownsRow base e 1 v n xs) {k : Nat} (hk : v.ownBlock = some k) : ∃ c t, W.heap[k]? = some (.cells c t (0, 0)) := by
  rcases h.2 with ⟨rfl, _⟩ | ⟨g, cap, cur, rfl, _, hh, _⟩
  · simp [Value.ownBlock] at hk
  · simp [Value.ownBlock] at hk
    subst hk
    exact ⟨cur, e, hh⟩
theorem own_base {W : World} {base base' n : Nat} {e : TypeId} {v : Value} {xs : List Value} (h : W.ownsRow base e 1 v n xs) (hb : base' ≤ base) : W.ownsRow base' e 1 v n xs :=
  ⟨h.1, h.2.imp (fun h => h) fun ⟨g, c, cur, h1, h2, h3⟩ => ⟨g, c, cur, h1, Nat.le_trans hb h2, h3⟩⟩
/-- lists of things of other types do not share a block -/
theorem Apart.types {W : World} {base base' n n' : Nat} {e e' : TypeId} {v u : Value} {xs ys : List Value} (hv : W.ownsRow base e 1 v n xs) (hu : W.ownsRow base' e' 1 u n' ys) (he : e ≠ e') : Apart v u := by
  cases h : v.ownBlock with
  | none => exact .inr h
  | some g =>
    refine .inl fun e2 => ?_
    rcases hv.2 with ⟨rfl, _⟩ | ⟨g1, c1, cur1, rfl, _, h1, _⟩
    · simp [Value.ownBlock] at h
    · rcases hu.2 with ⟨rfl, _⟩ | ⟨g2, c2, cur2, rfl, _, h2, _⟩
      · simp [Value.ownBlock] at e2
      · simp [Value.ownBlock] at e2
        subst e2
        rw [h1] at h2
        injection h2 with h2
        injection h2 with _ h2 _
        exact he h2
theorem own_zeroO (w : World) {t : TypeId} : (w.alloc (.cells #[] t)).ownsRow w.heap.size t 1 (.slice (some ⟨w.heap.size, 0, none⟩) 0 0) 0 [] :=
  ⟨rfl, .inr ⟨_, 0, #[], rfl, Nat.le_refl _, Bx.new w _ _, Nat.le_refl _, Nat.zero_le _, rfl, rfl⟩⟩

end Go.Proofs.YtjdnjhoddlalaaaDoor

namespace Go.Proofs.YtjdnjhoddlalaaaDoor
open Go.RowKit
open Pl
set_option linter.unusedSimpArgs false
set_option linter.unusedVariables false

/-- the elements for which a formula is true -/
noncomputable def setV (i : Int) (s r f : ByteArray) : List Nat := if rdyB i s r f 1 then rk (fun x => truV i s r f [x]) (ofSt i s r).n else []
theorem set_no {i : Int} {s r f : ByteArray} (h : rdyB i s r f 1 = false) : setV i s r f = [] := by unfold setV; rw [h]; rfl
theorem set_yes {a : St} {f : ByteArray} {g : Fm} (hf : f.data.toList = g.text) (h : rdyB a.n (bs a.set) (bs a.rel) f 1 = true) : setV a.n (bs a.set) (bs a.rel) f = rk (fun x => g.holds a (envL [x])) a.n := by
  unfold setV
  rw [h]
  simp only [tru_of hf, ofSt_eq, if_true]
theorem set_le (i : Int) (s r f : ByteArray) : (setV i s r f).length ≤ 8 := by
  unfold setV
  split
  · rename_i h
    rcases ok_cases i s r with h1 | ⟨a, ha, rfl, rfl, rfl⟩
    · rw [rdy_noSt h1] at h; cases h
    · have h8 := ha.hi
      rw [ofSt_eq]
      exact Nat.le_trans (rk_len _ _) h8
  · simp

end Go.Proofs.YtjdnjhoddlalaaaDoor

namespace Go.Proofs.YtjdnjhoddlalaaaDoor
open Go.RowKit
open Pl
set_option linter.unusedSimpArgs false
set_option linter.unusedVariables false

attribute [local go_sem ↓] Go.wp_at_zero Go.wp_at_succ

theorem l2True_one (a : St) (ha : a.ok) (f : ByteArray) (g : Fm) (x : Nat) (w : World) (hf : f.data.toList = g.text) (hs : f.size ≤ 4000) (hx : x < a.n) :
    Calls Tryd.prog 56 #[stA a, .string f, .agg #[.int .i64 (x : Nat), .int .i64 0, .int .i64 0, .int .i64 0]] w fun ed w' => ed = .returned (.bool (g.holds a (envL [x]))) ∧ Below w.heap.size w w' :=
  l2True_calls a ha f g (envL [x]) w hf hs (env_lt ha fun y hy => by simp at hy; subst hy; exact hx)
theorem rdy_fm {i : Int} {s r f : ByteArray} {k : Nat} (h : rdyB i s r f k = true) : ∃ (a : St) (g : Fm), a.ok ∧ i = a.n ∧ s = bs a.set ∧ r = bs a.rel ∧ f.data.toList = g.text ∧ f.size ≤ 4000 := by
  rcases ok_cases i s r with h1 | ⟨a, ha, h2, h3, h4⟩
  · rw [rdy_noSt h1] at h; cases h
  · rcases fm_cases f with ⟨hb, _⟩ | ⟨g, hb, hf, hs4, _⟩
    · rw [rdy_noFm hb] at h; cases h
    · exact ⟨a, g, ha, h2, h3, h4, hf, hs4⟩

end Go.Proofs.YtjdnjhoddlalaaaDoor

namespace Go.Proofs.YtjdnjhoddlalaaaDoor
open Pl

/-- the list with a number -/
def ptK (n : Nat) : Nat → Nat → List Nat
  | 0, _ => []
  | w + 1, k => ptK n w (k / n) ++ [k % n]
/-- a list's lists of one element more -/
def extL (n : Nat) (l : List Nat) : List (List Nat) := (List.range n).map fun x => l ++ [x]
/-- all lists of so many elements -/
def listsK (n : Nat) : Nat → List (List Nat)
  | 0 => [[]]
  | w + 1 => (listsK n w).flatMap (extL n)

theorem ptK_len (n : Nat) : ∀ w k, (ptK n w k).length = w
  | 0, _ => rfl
  | w + 1, k => by simp [ptK, ptK_len n w]
theorem ptK_lt {n : Nat} (hn : 0 < n) : ∀ w k, ∀ x ∈ ptK n w k, x < n
  | 0, _, x, h => by simp [ptK] at h
  | w + 1, k, x, h => by
    simp only [ptK, List.mem_append, List.mem_singleton] at h
    rcases h with h | rfl
    · exact ptK_lt hn w _ x h
    · exact Nat.mod_lt _ hn
theorem range_mul (m n : Nat) : List.range (m * n) = (List.range m).flatMap fun j => (List.range n).map fun x => j * n + x := by
  induction m with
  | zero => simp
  | succ m ih =>
    rw [List.range_succ, List.flatMap_append, ← ih, Nat.succ_mul, List.range_add]
    simp
theorem listsK_eq {n : Nat} (hn : 0 < n) : ∀ w, listsK n w = (List.range (n ^ w)).map (ptK n w)
  | 0 => by simp [listsK, ptK]
  | w + 1 => by
    rw [listsK, listsK_eq hn w, Nat.pow_succ, range_mul, List.map_flatMap, List.flatMap_map]
    refine congrArg (fun f => List.flatMap f (List.range (n ^ w))) (funext fun j => ?_)
    unfold extL
    rw [List.map_map]
    refine List.map_congr_left fun x hx => ?_
    have hx := List.mem_range.1 hx
    simp only [Function.comp, ptK]
    rw [Nat.mul_comm j n, Nat.mul_add_div hn, Nat.div_eq_of_lt hx, Nat.mul_add_mod, Nat.mod_eq_of_lt hx, Nat.add_zero]
theorem listsK_len {n : Nat} (hn : 0 < n) (w : Nat) : (listsK n w).length = n ^ w := by rw [listsK_eq hn]; simp
theorem listsK_mem {n : Nat} (hn : 0 < n) {w : Nat} {l : List Nat} (h : l ∈ listsK n w) : l.length = w ∧ ∀ x ∈ l, x < n := by
  rw [listsK_eq hn] at h
  obtain ⟨k, _, rfl⟩ := List.mem_map.1 h
  exact ⟨ptK_len n w k, ptK_lt hn w k⟩
theorem ptK_get {n : Nat} (hn : 0 < n) : ∀ w k p, p < w → (ptK n w k).getD p 0 = (k / n ^ (w - 1 - p)) % n
  | 0, _, p, h => by omega
  | w + 1, k, p, h => by
    simp only [ptK]
    by_cases hp : p = w
    · subst hp
      rw [List.getD_eq_getElem?_getD, List.getElem?_append_right (by rw [ptK_len]; exact Nat.le_refl _), ptK_len]
      simp
    · rw [List.getD_eq_getElem?_getD, List.getElem?_append_left (by rw [ptK_len]; omega), ← List.getD_eq_getElem?_getD, ptK_get hn w (k / n) p (by omega), Nat.div_div_eq_div_mul, ← Nat.pow_succ']
      congr 3
      omega

/-- all lists so far -/
def flatK (n : Nat) (Ls : List (List Nat)) (j x : Nat) : List (List Nat) := (Ls.take j).flatMap (extL n) ++ (List.range x).map fun y => Ls.getD j [] ++ [y]
theorem flatK_zero (n : Nat) (Ls : List (List Nat)) : flatK n Ls 0 0 = [] := rfl
theorem flatK_succ (n : Nat) (Ls : List (List Nat)) (j x : Nat) : flatK n Ls j (x + 1) = flatK n Ls j x ++ [Ls.getD j [] ++ [x]] := by
  unfold flatK
  rw [List.range_succ, List.map_append, ← List.append_assoc]
  rfl
theorem flatK_next {n : Nat} {Ls : List (List Nat)} {j : Nat} (hj : j < Ls.length) : flatK n Ls j n = flatK n Ls (j + 1) 0 := by
  unfold flatK
  rw [List.take_add_one, List.flatMap_append, List.getElem?_eq_getElem hj, List.getD_eq_getElem?_getD, List.getElem?_eq_getElem hj]
  simp [extL]
theorem flatK_all (n : Nat) (Ls : List (List Nat)) : flatK n Ls Ls.length 0 = Ls.flatMap (extL n) := by
  unfold flatK
  rw [List.take_length]
  simp
theorem flatK_len {n : Nat} (Ls : List (List Nat)) (j x : Nat) (hj : j ≤ Ls.length) : (flatK n Ls j x).length = j * n + x := by
  unfold flatK
  rw [List.length_append, List.length_flatMap]
  have : ((Ls.take j).map fun l => (extL n l).length) = List.replicate j n := by
    rw [List.eq_replicate_iff]
    refine ⟨by simp; omega, fun b hb => ?_⟩
    obtain ⟨l, _, rfl⟩ := List.mem_map.1 hb
    simp [extL]
  rw [this]
  simp

end Go.Proofs.YtjdnjhoddlalaaaDoor

namespace Go.Proofs.YtjdnjhoddlalaaaDoor
open Go.RowKit
open Pl
set_option linter.unusedSimpArgs false
set_option linter.unusedVariables false

noncomputable def ptB (i : Int) (s r f : ByteArray) (x : Int) : Bool := decide (0 ≤ x) && (decide (x ≤ 3) && rdyB i s r f x.toNat)
noncomputable def ptL (i : Int) (s r f : ByteArray) (x : Int) : List (List Nat) := if ptB i s r f x then (listsK (ofSt i s r).n x.toNat).filter (truV i s r f) else []
noncomputable def cptV (i : Int) (s r f : ByteArray) (x : Int) : Int := if ptB i s r f x then ((ptL i s r f x).length : Int) else -1
noncomputable def fstV (i : Int) (s r f : ByteArray) (x : Int) : List Nat := (ptL i s r f x).headD []
noncomputable def fstB (i : Int) (s r f : ByteArray) (x : Int) : Bool := ptB i s r f x && !(ptL i s r f x).isEmpty
noncomputable def sameV (i : Int) (s r f g : ByteArray) : Bool := (rdyB i s r f 3 && rdyB i s r g 3) && decide (ptL i s r f 3 = ptL i s r g 3)
theorem pt_neg {i : Int} {s r f : ByteArray} {x : Int} (h : ¬ 0 ≤ x) : ptB i s r f x = false := by unfold ptB; rw [decide_eq_false h]; rfl
theorem pt_big {i : Int} {s r f : ByteArray} {x : Int} (h : ¬ x ≤ 3) : ptB i s r f x = false := by unfold ptB; rw [decide_eq_false h]; simp
theorem pt_nat (i : Int) (s r f : ByteArray) {k : Nat} (h : k ≤ 3) : ptB i s r f (k : Nat) = rdyB i s r f k := by
  unfold ptB
  rw [decide_eq_true (show (0 : Int) ≤ (k : Nat) by omega), decide_eq_true (show ((k : Nat) : Int) ≤ 3 by omega)]
  rfl
theorem pt_cases {i : Int} {s r f : ByteArray} {x : Int} (h : ptB i s r f x = true) : ∃ k : Nat, x = (k : Nat) ∧ k ≤ 3 ∧ rdyB i s r f k = true := by
  unfold ptB at h
  simp only [Bool.and_eq_true, decide_eq_true_eq] at h
  refine ⟨x.toNat, by omega, by omega, h.2.2⟩
theorem ptL_no {i : Int} {s r f : ByteArray} {x : Int} (h : ptB i s r f x = false) : ptL i s r f x = [] := by unfold ptL; rw [h]; rfl
theorem ptL_yes {a : St} {f : ByteArray} {g : Fm} {k : Nat} (hf : f.data.toList = g.text) (h : ptB a.n (bs a.set) (bs a.rel) f (k : Nat) = true) : ptL a.n (bs a.set) (bs a.rel) f (k : Nat) = (listsK a.n k).filter fun l => g.holds a (envL l) := by
  unfold ptL
  rw [h]
  simp only [if_true, ofSt_eq]
  refine List.filter_congr fun l _ => ?_
  rw [tru_of hf]
theorem ptL_len (i : Int) (s r f : ByteArray) (x : Int) : ∀ l ∈ ptL i s r f x, l.length ≤ 3 := by
  intro l hl
  unfold ptL at hl
  split at hl
  · rename_i h
    obtain ⟨k, rfl, hk, hr⟩ := pt_cases h
    have hn : 0 < (ofSt i s r).n := by
      rcases ok_cases i s r with h1 | ⟨a, ha, rfl, rfl, rfl⟩
      · rw [rdy_noSt h1] at hr; cases hr
      · rw [ofSt_eq]; exact ha.lo
    have := (listsK_mem hn (List.mem_filter.1 hl).1).1
    simp at this
    omega
  · simp at hl
theorem fst_le (i : Int) (s r f : ByteArray) (x : Int) : (fstV i s r f x).length ≤ 8 := by
  unfold fstV
  cases h : ptL i s r f x with
  | nil => simp
  | cons l t =>
    have := ptL_len i s r f x l (by rw [h]; simp)
    simp; omega
/-- the lists so far -/
def ftK (P : List Nat → Bool) (Ls : List (List Nat)) (j : Nat) : List (List Nat) := (Ls.take j).filter P
theorem ftK_succ (P : List Nat → Bool) (Ls : List (List Nat)) (j : Nat) (hj : j < Ls.length) : ftK P Ls (j + 1) = if P (Ls.getD j []) then ftK P Ls j ++ [Ls.getD j []] else ftK P Ls j := by
  unfold ftK
  rw [List.take_add_one, List.getD_eq_getElem?_getD, List.getElem?_eq_getElem hj, List.filter_append]
  cases h : P Ls[j] <;> simp [h]
theorem ftK_all (P : List Nat → Bool) (Ls : List (List Nat)) : ftK P Ls Ls.length = Ls.filter P := by unfold ftK; rw [List.take_length]
theorem ftK_le (P : List Nat → Bool) (Ls : List (List Nat)) (j : Nat) : (ftK P Ls j).length ≤ Ls.length := by
  unfold ftK
  exact Nat.le_trans (List.length_filter_le _ _) (by simp; omega)

end Go.Proofs.YtjdnjhoddlalaaaDoor

namespace Go.Proofs.YtjdnjhoddlalaaaDoor
open Go.RowKit
open Pl
set_option linter.unusedSimpArgs false
set_option linter.unusedVariables false

/-- the places from the last one on -/
def ptE (n w k j : Nat) : Env := fun v => if v.val < w ∧ w ≤ v.val + j then (k / n ^ (w - 1 - v.val)) % n else 0
theorem ptE_zero (n w k : Nat) (v : Fin 4) : ptE n w k 0 v = 0 := by
  unfold ptE
  rw [if_neg (by omega)]
theorem ptE_succ {n w k j p : Nat} (hp : p < 4) (h : j + p + 1 = w) : upd (ptE n w k j) ⟨p, hp⟩ ((k / n ^ j) % n) = ptE n w k (j + 1) := by
  funext u
  unfold upd ptE
  by_cases hu : u = ⟨p, hp⟩
  · subst hu
    rw [if_pos rfl, if_pos (by constructor <;> (simp only; omega))]
    have : w - 1 - p = j := by omega
    simp only [this]
  · have : u.val ≠ p := fun e => hu (Fin.ext e)
    rw [if_neg hu]
    by_cases h2 : u.val < w ∧ w ≤ u.val + j
    · rw [if_pos h2, if_pos (by omega)]
    · rw [if_neg h2, if_neg (by omega)]
theorem ptE_all {n : Nat} (hn : 0 < n) (w k : Nat) : ptE n w k w = envL (ptK n w k) := by
  funext u
  unfold ptE envL
  by_cases h : u.val < w
  · rw [if_pos (by omega), ptK_get hn w k u.val h]
  · rw [if_neg (by omega), List.getD_eq_getElem?_getD, List.getElem?_eq_none (by rw [ptK_len]; omega)]; rfl
/-- how many of the first j lists -/
def cntK (P : List Nat → Bool) (n w j : Nat) : Nat := (((List.range j).map (ptK n w)).filter P).length
theorem cntK_succ (P : List Nat → Bool) (n w j : Nat) : cntK P n w (j + 1) = if P (ptK n w j) then cntK P n w j + 1 else cntK P n w j := by
  unfold cntK
  rw [List.range_succ, List.map_append, List.filter_append, List.length_append]
  cases h : P (ptK n w j) <;> simp [h]
theorem cntK_all {n : Nat} (hn : 0 < n) (P : List Nat → Bool) (w : Nat) : cntK P n w (n ^ w) = ((listsK n w).filter P).length := by unfold cntK; rw [listsK_eq hn]
theorem cntK_le (P : List Nat → Bool) (n w j : Nat) : cntK P n w j ≤ j := by
  unfold cntK
  exact Nat.le_trans (List.length_filter_le _ _) (by simp)
theorem first_at {n : Nat} (hn : 0 < n) {P : List Nat → Bool} {w j : Nat} (hj : j < n ^ w) (h0 : ∀ i, i < j → P (ptK n w i) = false) (h1 : P (ptK n w j) = true) : ∃ t, (listsK n w).filter P = ptK n w j :: t := by
  rw [listsK_eq hn, show n ^ w = j + (n ^ w - j) by omega, List.range_add, List.map_append, List.filter_append]
  have e1 : ((List.range j).map (ptK n w)).filter P = [] := by
    rw [List.filter_eq_nil_iff]
    intro l hl
    obtain ⟨i, hi, rfl⟩ := List.mem_map.1 hl
    rw [h0 i (List.mem_range.1 hi)]; simp
  rw [e1, List.nil_append, show n ^ w - j = (n ^ w - j - 1) + 1 by omega, List.range_succ_eq_map]
  simp [h1]
theorem first_none {n : Nat} (hn : 0 < n) {P : List Nat → Bool} {w : Nat} (h0 : ∀ i, i < n ^ w → P (ptK n w i) = false) : (listsK n w).filter P = [] := by
  rw [listsK_eq hn, List.filter_eq_nil_iff]
  intro l hl
  obtain ⟨i, hi, rfl⟩ := List.mem_map.1 hl
  rw [h0 i (List.mem_range.1 hi)]; simp
theorem same_all {n : Nat} (hn : 0 < n) {P Q : List Nat → Bool} {w : Nat} (h0 : ∀ i, i < n ^ w → P (ptK n w i) = Q (ptK n w i)) : (listsK n w).filter P = (listsK n w).filter Q := by
  rw [listsK_eq hn]
  refine List.filter_congr fun l hl => ?_
  obtain ⟨i, hi, rfl⟩ := List.mem_map.1 hl
  exact h0 i (List.mem_range.1 hi)
theorem same_not {n : Nat} (hn : 0 < n) {P Q : List Nat → Bool} {w j : Nat} (hj : j < n ^ w) (h : P (ptK n w j) ≠ Q (ptK n w j)) : (listsK n w).filter P ≠ (listsK n w).filter Q := by
  intro e
  have hm : ptK n w j ∈ listsK n w := by rw [listsK_eq hn]; exact List.mem_map.2 ⟨j, List.mem_range.2 hj, rfl⟩
  have h1 : ptK n w j ∈ (listsK n w).filter P ↔ ptK n w j ∈ (listsK n w).filter Q := by rw [e]
  rw [List.mem_filter, List.mem_filter] at h1
  apply h
  rw [Bool.eq_iff_iff]
  exact ⟨fun hp => (h1.1 ⟨hm, hp⟩).2, fun hq => (h1.2 ⟨hm, hq⟩).2⟩

end Go.Proofs.YtjdnjhoddlalaaaDoor

namespace Go.Proofs.YtjdnjhoddlalaaaDoor
open Go.RowKit
open Pl
set_option linter.unusedSimpArgs false
set_option linter.unusedVariables false

attribute [local go_sem ↓] Go.wp_at_zero Go.wp_at_succ

theorem pow_le {n w : Nat} (h8 : n ≤ 8) (hw : w ≤ 3) : n ^ w ≤ 512 := by
  have h1 : n ^ w ≤ 8 ^ w := Nat.pow_le_pow_left h8 w
  have h2 : 8 ^ w ≤ 8 ^ 3 := Nat.pow_le_pow_right (by omega) hw
  omega

set_option maxHeartbeats 1000000 in
set_option maxRecDepth 100000 in
theorem l3Power_calls (a : St) (ha : a.ok) (wd : Nat) (hw : wd ≤ 3) (w : World) :
    Calls Tryd.prog 63 #[stA a, .int .i64 (wd : Nat)] w fun e w' => e = .returned (.int .i64 (a.n ^ wd : Nat)) ∧ Below w.heap.size w w' := by
  have h8 := ha.hi
  have hB := (Below.refl w.heap.size w).alloc (Nat.le_refl _) (.cells #[.int .i64 (a.n : Int), .string (bs a.set), .string (bs a.rel)] 24)
  have HB := Lib.hid hB
  obtain ⟨k0, k1, k2⟩ := box_load (Bx.new w 24 #[.int .i64 (a.n : Int), .string (bs a.set), .string (bs a.rel)])
  clear hB
  unfold stA
  go_enter Tryd.func63, Tryd.ntmps63
  go_wp2_with fail
  go_loopg [5, 6] wd (fun c o i wr => ∃ k : Nat, k + c = wd ∧ i = .int .i64 (k : Nat) ∧ o = .int .i64 (a.n ^ k : Nat) ∧ wr = (w.alloc (.cells #[.int .i64 (a.n : Int), .string (bs a.set), .string (bs a.rel)] 24)))
  case atStart => exact ⟨0, by omega, rfl, rfl, rfl⟩
  case round =>
    obtain ⟨k, hk, rfl, rfl, rfl⟩ := hrel
    have hle := pow_le h8 (show k ≤ 3 by omega)
    have hps : a.n ^ (k + 1) = a.n ^ k * a.n := Nat.pow_succ ..
    obtain ⟨q, hq⟩ : ∃ q, q = a.n ^ k := ⟨_, rfl⟩
    rw [← hq] at hle hps ⊢
    have Hps := Lib.hid hps
    have Hq := Lib.hid hq
    have hmul : wrap64 ((q : Int) * (a.n : Int)) = ((q * a.n : Nat) : Int) := by
      have h1 : q * a.n ≤ 512 * 8 := Nat.mul_le_mul hle h8
      rw [← Int.natCast_mul]
      unfold wrap64; omega
    clear hq hps
    by_cases hlt : k < wd
    · have Hmul := Lib.hid hmul
      clear hmul
      go_wp2_with fail
      go_roundg (wd - k - 1)
      case rel => exact ⟨k + 1, by omega, by go_num, congrArg (Value.int .i64) (by rw [Hps.out]; first | exact Hmul.out | (rw [← Hmul.out]; rfl)), rfl⟩
      case measure => omega
    · go_wp2_with fail
      go_ret
      obtain rfl : k = wd := by omega
      exact ⟨congrArg Ending.returned (show Value.int .i64 (q : Nat) = .int .i64 (a.n ^ k : Nat) by rw [Hq.out]), HB.out⟩

set_option maxHeartbeats 2000000 in
set_option maxRecDepth 100000 in
theorem l3Point_calls (a : St) (ha : a.ok) (wd k : Nat) (hw : wd ≤ 3) (hk : k ≤ 512) (w : World) :
    Calls Tryd.prog 64 #[stA a, .int .i64 (k : Nat), .int .i64 (wd : Nat)] w fun e w' => e = .returned (.agg (envA4 (envL (ptK a.n wd k)))) ∧ Below w.heap.size w w' := by
  have h8 := ha.hi
  have hlo := ha.lo
  have XS := Lib.hid (((Bx.new w 24 #[.int .i64 (a.n : Int), .string (bs a.set), .string (bs a.rel)]).alloc (.cells #[.int .i64 0, .int .i64 0, .int .i64 0, .int .i64 0] 78)).alloc (.cells #[.int .i64 0, .int .i64 0, .int .i64 0, .int .i64 0] 78))
  have XR := Lib.hid (show Bx ((((w.alloc (.cells #[.int .i64 (a.n : Int), .string (bs a.set), .string (bs a.rel)] 24))).alloc (.cells #[.int .i64 0, .int .i64 0, .int .i64 0, .int .i64 0] 78)).alloc (.cells #[.int .i64 0, .int .i64 0, .int .i64 0, .int .i64 0] 78)) (w.heap.size + 1) 78 #[.int .i64 0, .int .i64 0, .int .i64 0, .int .i64 0] from (bx_two w (.cells #[.int .i64 (a.n : Int), .string (bs a.set), .string (bs a.rel)] 24) #[.int .i64 0, .int .i64 0, .int .i64 0, .int .i64 0]).alloc _)
  have XO := Lib.hid (show Bx ((((w.alloc (.cells #[.int .i64 (a.n : Int), .string (bs a.set), .string (bs a.rel)] 24))).alloc (.cells #[.int .i64 0, .int .i64 0, .int .i64 0, .int .i64 0] 78)).alloc (.cells #[.int .i64 0, .int .i64 0, .int .i64 0, .int .i64 0] 78)) (w.heap.size + 1 + 1) 78 #[.int .i64 ((ptE a.n wd k 0) 0 : Nat), .int .i64 ((ptE a.n wd k 0) 1 : Nat), .int .i64 ((ptE a.n wd k 0) 2 : Nat), .int .i64 ((ptE a.n wd k 0) 3 : Nat)] from by
    have h := bx_two (w.alloc (.cells #[.int .i64 (a.n : Int), .string (bs a.set), .string (bs a.rel)] 24)) (.cells #[.int .i64 0, .int .i64 0, .int .i64 0, .int .i64 0] 78) #[.int .i64 0, .int .i64 0, .int .i64 0, .int .i64 0] (t := 78)
    rw [World.size_alloc] at h
    simp only [ptE_zero]
    exact h)
  have BV := Lib.hid (show Below w.heap.size w ((((w.alloc (.cells #[.int .i64 (a.n : Int), .string (bs a.set), .string (bs a.rel)] 24))).alloc (.cells #[.int .i64 0, .int .i64 0, .int .i64 0, .int .i64 0] 78)).alloc (.cells #[.int .i64 0, .int .i64 0, .int .i64 0, .int .i64 0] 78)) from (((Below.refl _ _).alloc (Nat.le_refl _) _).alloc (by simp) _).alloc (by simp; omega) _)
  have hw3 : (wd : Int) ≤ 3 := by omega
  unfold stA
  go_enter Tryd.func64, Tryd.ntmps64
  go_wp2_with fail
  go_loopg [1, 8] wd (fun c nv i1 wr => ∃ j q : Nat, q = c ∧ j + q = wd ∧ i1 = .int .i64 ((q : Int) - 1) ∧ nv = .int .i64 (k / a.n ^ j : Nat) ∧ Bx wr w.heap.size 24 #[.int .i64 (a.n : Int), .string (bs a.set), .string (bs a.rel)] ∧ Bx wr (w.heap.size + 1) 78 #[.int .i64 0, .int .i64 0, .int .i64 0, .int .i64 0] ∧ Bx wr (w.heap.size + 1 + 1) 78 #[.int .i64 ((ptE a.n wd k j) 0 : Nat), .int .i64 ((ptE a.n wd k j) 1 : Nat), .int .i64 ((ptE a.n wd k j) 2 : Nat), .int .i64 ((ptE a.n wd k j) 3 : Nat)] ∧ Below w.heap.size w wr)
  case atStart => exact ⟨0, wd, rfl, by omega, rfl, by simp, XS.out, XR.out, XO.out, BV.out⟩
  case round =>
    obtain ⟨j, q, hqc, hj, rfl, rfl, hxs, hxr, hxo, hbl⟩ := hrel
    have HS := Lib.hid hxs
    have HR := Lib.hid hxr
    have HO := Lib.hid hxo
    have HB := Lib.hid hbl
    clear hxs hxr hxo hbl
    obtain ⟨m0, m1, m2⟩ := box_load HS.out
    rcases Nat.eq_zero_or_pos (wd - j) with h0 | h0
    · obtain rfl : j = wd := by omega
      have hc0 : q = 0 := by omega
      subst hc0 hqc
      rw [show (((0 : Nat) : Int) - 1) = -1 from rfl]
      have d0 := HO.out.cell 0
      have d1 := HO.out.cell 1
      have d2 := HO.out.cell 2
      have d3 := HO.out.cell 3
      have e0 := HR.out.free 0
      have e1 := HR.out.free 1
      have e2 := HR.out.free 2
      have e3 := HR.out.free 3
      have r0 := HR.out.cell 0
      have r1 := HR.out.cell 1
      have r2 := HR.out.cell 2
      have r3 := HR.out.cell 3
      simp only [List.getElem?_toArray, List.getElem?_cons_zero, List.getElem?_cons_succ] at d0 d1 d2 d3 r0 r1 r2 r3
      obtain ⟨E, hE⟩ : ∃ E, E = ptE a.n j k j := ⟨_, rfl⟩
      have hEE : E = envL (ptK a.n j k) := by rw [hE]; exact ptE_all hlo j k
      rw [← hE] at d0 d1 d2 d3
      have HE := Lib.hid hEE
      clear hE hEE
      go_wp2_with fail
      have x4 := (((HR.out.set 0 (.int .i64 (E 0 : Nat))).set 1 (.int .i64 (E 1 : Nat))).set 2 (.int .i64 (E 2 : Nat))).set 3 (.int .i64 (E 3 : Nat))
      have q0 := x4.cell 0
      have q1 := x4.cell 1
      have q2 := x4.cell 2
      have q3 := x4.cell 3
      simp at q0 q1 q2 q3
      refine bodyPost_ret (v := .agg (envA4 (envL (ptK a.n j k)))) ?_ rfl ⟨rfl, ?_⟩
      · rw [← HE.out]
        simp [results, Tryd.results64, go_sem, q0, q1, q2, q3]
        rfl
      · exact (((HB.out.setCell (by simp) _).setCell (by simp) _).setCell (by simp) _).setCell (by simp) _
    · obtain ⟨p, hp⟩ : ∃ p, q = p + 1 := ⟨q - 1, by omega⟩
      subst hp hqc
      have hpi : (((p + 1 : Nat) : Int) - 1) = (p : Int) := by omega
      rw [hpi]
      have hp4 : p < 4 := by omega
      have hp4i : (p : Int) < 4 := by omega
      have hp0i : (0 : Int) ≤ (p : Int) := by omega
      have hen := ptE_succ (n := a.n) (w := wd) (k := k) (j := j) hp4 (by omega)
      have hdd : k / a.n ^ (j + 1) = k / a.n ^ j / a.n := by rw [Nat.pow_succ, Nat.div_div_eq_div_mul]
      have hkl : k / a.n ^ j ≤ k := Nat.div_le_self _ _
      obtain ⟨K, hK⟩ : ∃ K, K = k / a.n ^ j := ⟨_, rfl⟩
      rw [← hK] at hen hdd hkl ⊢
      have hmod : (K : Int).tmod (a.n : Int) = ((K % a.n : Nat) : Int) := by rw [Int.ofNat_tmod]
      have hdiv : (K : Int).tdiv (a.n : Int) = ((K / a.n : Nat) : Int) := by rw [Int.ofNat_tdiv]
      have hml : K % a.n < a.n := Nat.mod_lt _ hlo
      have hdl : K / a.n ≤ K := Nat.div_le_self _ _
      have hn0 : ¬ (a.n : Int) = 0 := by omega
      have hn0b : ((a.n : Int) == 0) = false := by rw [beq_eq_false_iff_ne]; exact hn0
      have fv := HO.out.free p
      have cv := (HO.out.cell p).trans (env_at (ptE a.n wd k j) ⟨p, hp4⟩)
      have XS1 := Lib.hid (show Bx (wr.setCell ⟨w.heap.size + 1 + 1, p, none⟩ (.int .i64 (K % a.n : Nat))) w.heap.size 24 #[.int .i64 (a.n : Int), .string (bs a.set), .string (bs a.rel)] from HS.out.far (by simp; omega) _)
      have XR1 := Lib.hid (show Bx (wr.setCell ⟨w.heap.size + 1 + 1, p, none⟩ (.int .i64 (K % a.n : Nat))) (w.heap.size + 1) 78 #[.int .i64 0, .int .i64 0, .int .i64 0, .int .i64 0] from HR.out.far (by simp) _)
      have XO1 := Lib.hid (show Bx (wr.setCell ⟨w.heap.size + 1 + 1, p, none⟩ (.int .i64 (K % a.n : Nat))) (w.heap.size + 1 + 1) 78 (envA4 (ptE a.n wd k (j + 1))) from by
        have := HO.out.set p (.int .i64 (K % a.n : Nat))
        rw [show (#[.int .i64 ((ptE a.n wd k j) 0 : Nat), .int .i64 ((ptE a.n wd k j) 1 : Nat), .int .i64 ((ptE a.n wd k j) 2 : Nat), .int .i64 ((ptE a.n wd k j) 3 : Nat)] : Array Value).setIfInBounds p (.int .i64 (K % a.n : Nat)) = envA4 (ptE a.n wd k (j + 1)) from (envA_upd (ptE a.n wd k j) ⟨p, hp4⟩ (K % a.n)).trans (by rw [hen])] at this
        exact this)
      have B1 := Lib.hid (show Below w.heap.size w (wr.setCell ⟨w.heap.size + 1 + 1, p, none⟩ (.int .i64 (K % a.n : Nat))) from HB.out.setCell (by simp; omega) _)
      obtain ⟨t0, t1, t2⟩ := box_load XS1.out
      obtain ⟨M, hM⟩ : ∃ M, M = K % a.n := ⟨_, rfl⟩
      obtain ⟨D, hD⟩ : ∃ D, D = K / a.n := ⟨_, rfl⟩
      simp only [← hM, ← hD] at *
      have Hdd := Lib.hid hdd
      clear hen hM hD hdd hK
      go_wp2_with fail
      go_roundg p
      case rel => exact ⟨j + 1, p, rfl, by omega, by go_num, by rw [Hdd.out], XS1.out, XR1.out, XO1.out, B1.out⟩
      case measure => omega

end Go.Proofs.YtjdnjhoddlalaaaDoor
