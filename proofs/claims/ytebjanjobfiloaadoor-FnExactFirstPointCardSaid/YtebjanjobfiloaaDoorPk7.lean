/-
  Laws of the functions that the claim reaches, one after the other (packed by a program of the prover's: WDefSet, RelP, MkJ, DRelI, DRelS, WDefRel, LL, PtP, Lists, PtV, PtsI, PtEnv). Conditions: texts below the reach.
-/
import Derived.Test.YtebjanjobfiloaaDoorPk5
import Derived.Test.YtebjanjobfiloaaDoorPk6
import Derived.Test.YtebjanjobfiloaaDoorPk1
import Derived.Deep.RegionHeld3
import Derived.Deep.RegionWith
import Derived.RegionTactic
import Derived.Deep.DrawnRows
import Derived.Deep.LoopGhost
import Derived.Deep.DeepCutAuto
import Derived.Test.YtebjanjobfiloaaDoorPk0
import Derived.StillTailTactics
set_option linter.unusedSimpArgs false
set_option linter.unusedVariables false

namespace Go.Proofs.YtebjanjobfiloaaDoor
open Go.RowKit
open Pl
set_option linter.unusedSimpArgs false
set_option linter.unusedVariables false

set_option maxHeartbeats 4000000 in
set_option maxRecDepth 100000 in
theorem FnExactDefinedSet_walk (i : Int) (s r : ByteArray) (f : ByteArray) (w : World) (hi : (Lit.int .i64 i).wf = true) (hs : s.size ≤ maxLen) (hr : r.size ≤ maxLen) (h_f : f.size ≤ maxLen) :
    Calls Tryd.prog 6 #[stV i s r, .string f] w fun e w' => e = .returned (.bool true) ∧ Below w.heap.size w w' := by
  have Hs := Lib.hid hs
  have Hr := Lib.hid hr
  clear hs hr hi
  by_cases hg0 : f.size ≤ 1048576
  case neg =>
    have hgi : 1048576 < (f.size : Int) := by omega
    clear Hs Hr
    go_enter Tryd.func6, Tryd.ntmps6
    go_wp2_with fail
    go_ret
    exact ⟨rfl, (Below.refl _ _).alloc (Nat.le_refl _) _⟩
  case pos =>
  have hgi0 : (f.size : Int) ≤ 1048576 := by omega
  have h8 := set_le i s r f
  have c1' := fun W => DefinedSet_spec i s r f W Hs.out Hr.out h_f
  have c2' := fun W => DefinedSet_impl i s r f W Hs.out Hr.out
  obtain ⟨R, hR⟩ : ∃ R, R = setV i s r f := ⟨_, rfl⟩
  obtain ⟨VB, hVB⟩ : ∃ VB, VB = rdyB i s r f 1 := ⟨_, rfl⟩
  simp only [← hR, ← hVB] at c1' c2'
  rw [← hR] at h8
  have hbb : (VB != VB) = false := by cases VB <;> rfl
  have c1 : ∀ W, Calls Tryd.prog 20 #[stV i s r, .string f] W fun e w' => (∃ A cap, e = .returned (.tuple #[.slice A R.length cap, .bool VB]) ∧ LRow w' A (natsI R) ∧ ∀ g, A = some ⟨g, 0, none⟩ → g < w'.heap.size) ∧ Below W.heap.size W w' := fun W =>
    (c1' W).mono fun e w' ⟨⟨v, h1, h2⟩, h3⟩ => by
      obtain ⟨A, cap, rfl, _⟩ := own_open h2
      exact ⟨⟨A, cap, h1, LRow_of h2, fun g hg => (h2.lt g (by rw [hg]; rfl)).2⟩, h3⟩
  have c2 : ∀ W, Calls Tryd.prog 21 #[stV i s r, .string f] W fun e w' => (∃ A cap, e = .returned (.tuple #[.slice A R.length cap, .bool VB]) ∧ w'.ownsRow W.heap.size 3 1 (.slice A R.length cap) R.length (intsV (natsI R))) ∧ Below W.heap.size W w' := fun W =>
    (c2' W).mono fun e w' ⟨⟨v, h1, h2⟩, h3⟩ => by
      obtain ⟨A, cap, rfl, _⟩ := own_open h2
      exact ⟨⟨A, cap, h1, h2⟩, h3⟩
  have cm : ∀ (base : Nat) (A : Option Addr) (cap : Nat) (W : World), W.ownsRow base 3 1 (.slice A R.length cap) R.length (intsV (natsI R)) → base ≤ W.heap.size → Calls Tryd.prog 22 #[.slice A R.length cap, .int .i64 1] W fun e w' => e = .returned (.int .i64 (1 + (R.length : Int))) ∧ w'.ownsRow base 3 1 (.slice A R.length cap) R.length (intsV (marksI R.length)) ∧ Below base W w' :=
    fun base A cap W h hb => markIntS_calls base A R.length cap _ W (by omega) h hb
  have ch : ∀ (A : Option Addr) (cap : Nat) (W : World), LRow W A (marksI R.length) → Calls Tryd.prog 23 #[.slice A R.length cap, .int .i64 1] W fun e w' => e = .returned (.int .i64 (1 + (R.length : Int))) ∧ W = w' :=
    fun A cap W h => heldIntS_calls A R.length cap W (by omega) h
  have ce : ∀ (A C : Option Addr) (c1 c2 : Nat) (W : World), LRow W A (natsI R) → LRow W C (natsI R) → Calls Tryd.prog 15 #[.slice A R.length c1, .slice C R.length c2] W fun e w' => e = .returned (.bool true) ∧ Below W.heap.size W w' := fun A C c1 c2 W h1 h2 => by
    have h := eqIntS_calls A C c1 c2 (natsI R) W (by rw [natsI_len]; omega) h1 h2
    rwa [natsI_len] at h
  have C1 := Lib.hid c1
  have C2 := Lib.hid c2
  have CM := Lib.hid cm
  have CH := Lib.hid ch
  have CE := Lib.hid ce
  have Xa := Lib.hid (Bx.new w 23 #[.int .i64 i, .string s, .string r])
  have B0 := Lib.hid ((Below.refl w.heap.size w).alloc (Nat.le_refl _) (.cells #[.int .i64 i, .string s, .string r] 23))
  clear c1 c2 cm ch ce c1' c2' hR hVB
  go_enter Tryd.func6, Tryd.ntmps6
  obtain ⟨a0, a1, a2⟩ := box_load Xa.out
  go_wp2_with fail
  refine (szStructure_calls i s r 1048576 _ (Nat.le_refl _) Hs.out Hr.out).mono ?_
  clear a0 a1 a2
  rintro e w1 ⟨⟨m, rfl, hm⟩, hz⟩
  have B2 := Lib.hid (B0.out.trans (hz.mono B0.out.size))
  have Xa2 := Lib.hid (Xa.out.call hz)
  clear hm
  clear hz
  obtain ⟨a0, a1, a2⟩ := box_load Xa2.out
  by_cases h0 : 0 ≤ m
  · have hn : ¬ m < 0 := by omega
    have hR0 : (0 : Int) ≤ (R.length : Int) := by omega
    have hRb : (R.length : Int) ≤ 8 := by omega
    go_wp2_with fail
    refine (toStructure_calls i s r _).mono ?_
    clear a0 a1 a2
    rintro e w2 ⟨rfl, hz⟩
    have B3 := Lib.hid (B2.out.trans (hz.mono B2.out.size))
    have Xa3 := Lib.hid (Xa2.out.call hz)
    clear hz
    obtain ⟨a0, a1, a2⟩ := box_load Xa3.out
    go_wp2_with fail
    refine (C1.out _).mono ?_
    clear a0 a1 a2
    rintro e w3 ⟨⟨A3, cap3, rfl, ho, hg⟩, hz⟩
    have B4 := Lib.hid (B3.out.trans (hz.mono B3.out.size))
    have Xa4 := Lib.hid (Xa3.out.call hz)
    have L3 := Lib.hid ho
    have G3 := Lib.hid hg
    clear ho hg
    clear hz
    obtain ⟨a0, a1, a2⟩ := box_load Xa4.out
    go_wp2_with fail
    refine (toStructure_calls i s r _).mono ?_
    clear a0 a1 a2
    rintro e w4 ⟨rfl, hz⟩
    have B5 := Lib.hid (B4.out.trans (hz.mono B4.out.size))
    have Xa5 := Lib.hid (Xa4.out.call hz)
    have Lu5 := Lib.hid (L3.out.call hz)
    have Hz4 := Lib.hid hz.size
    clear hz
    obtain ⟨a0, a1, a2⟩ := box_load Xa5.out
    go_wp2_with fail
    refine (C2.out _).mono ?_
    clear a0 a1 a2
    rintro e w5 ⟨⟨A5, cap5, rfl, ho⟩, hz⟩
    have B6 := Lib.hid (B5.out.trans (hz.mono B5.out.size))
    have Xa6 := Lib.hid (Xa5.out.call hz)
    have Lu6 := Lib.hid (Lu5.out.call hz)
    have O5 := Lib.hid ho
    have Hz5 := Lib.hid hz.size
    clear ho
    clear hz
    obtain ⟨a0, a1, a2⟩ := box_load Xa6.out
    go_wp2_with fail
    refine (CE.out A5 _ _ _ _ (LRow_of O5.out) Lu6.out).mono ?_
    clear a0 a1 a2
    rintro e w6 ⟨rfl, hz⟩
    have B7 := Lib.hid (B6.out.trans (hz.mono B6.out.size))
    have Xa7 := Lib.hid (Xa6.out.call hz)
    have Lu7 := Lib.hid (Lu6.out.call hz)
    have O6 := Lib.hid (own_kp (B := 0) O5.out (.of_below hz) (Nat.zero_le _))
    have Hz6 := Lib.hid (Nat.le_trans Hz5.out hz.size)
    clear hz
    obtain ⟨a0, a1, a2⟩ := box_load Xa7.out
    go_wp2_with fail
    refine (CM.out w4.heap.size _ _ _ O6.out Hz6.out).mono ?_
    clear a0 a1 a2
    rintro e w7 ⟨rfl, ho, hz⟩
    have B7 := Lib.hid (B7.out.trans (hz.mono B5.out.size))
    have L7 := Lib.hid (Lu7.out.below (fun g hg => Nat.lt_of_lt_of_le (G3.out g hg) Hz4.out) hz)
    have M7 := Lib.hid (LRow_of ho)
    have X7 := Lib.hid (Xa7.out.below hz Xa5.out.lt)
    clear hz ho
    go_wp2_with fail
    refine (CH.out _ _ _ M7.out).mono ?_
    rintro e w8 ⟨rfl, rfl⟩
    obtain ⟨a0, a1, a2⟩ := box_load X7.out
    go_wp2_with fail
    refine (toStructure_calls i s r _).mono ?_
    clear a0 a1 a2
    rintro e w9 ⟨rfl, hz⟩
    have B21 := Lib.hid (B7.out.trans (hz.mono B7.out.size))
    have Xa21 := Lib.hid (X7.out.call hz)
    have Lu21 := Lib.hid (L7.out.call hz)
    have Lm21 := Lib.hid (M7.out.call hz)
    clear hz
    obtain ⟨a0, a1, a2⟩ := box_load Xa21.out
    go_wp2_with fail
    refine (C2.out _).mono ?_
    clear a0 a1 a2
    rintro e w10 ⟨⟨A10, cap10, rfl, ho⟩, hz⟩
    have B22 := Lib.hid (B21.out.trans (hz.mono B21.out.size))
    have Xa22 := Lib.hid (Xa21.out.call hz)
    have Lu22 := Lib.hid (Lu21.out.call hz)
    have Lm22 := Lib.hid (Lm21.out.call hz)
    have O10 := Lib.hid (LRow_of ho)
    clear ho
    clear hz
    obtain ⟨a0, a1, a2⟩ := box_load Xa22.out
    go_wp2_with fail
    refine (CE.out A10 _ _ _ _ O10.out Lu22.out).mono ?_
    clear a0 a1 a2
    rintro e w11 ⟨rfl, hz⟩
    have B23 := Lib.hid (B22.out.trans (hz.mono B22.out.size))
    have Xa23 := Lib.hid (Xa22.out.call hz)
    have Lu23 := Lib.hid (Lu22.out.call hz)
    have Lm23 := Lib.hid (Lm22.out.call hz)
    clear hz
    obtain ⟨a0, a1, a2⟩ := box_load Xa23.out
    go_wp2_with fail
    refine (CH.out _ _ _ Lm23.out).mono ?_
    rintro e w12 ⟨rfl, rfl⟩
    go_wp2_with fail
    go_ret
    exact ⟨rfl, B23.out⟩
  · go_wp2_with fail
    go_ret
    exact ⟨rfl, B2.out⟩

end Go.Proofs.YtebjanjobfiloaaDoor

namespace Go.Proofs.YtebjanjobfiloaaDoor
open Go.RowKit
open Pl
set_option linter.unusedSimpArgs false
set_option linter.unusedVariables false

/-- the pairs for which a formula is true, as a relation's text -/
noncomputable def relV (i : Int) (s r f : ByteArray) : ByteArray := if rdyB i s r f 2 then bs (relTo (ofSt i s r).n (fun x y => truV i s r f [x, y]) (ofSt i s r).n) else bs []
theorem rel_no {i : Int} {s r f : ByteArray} (h : rdyB i s r f 2 = false) : relV i s r f = bs [] := by unfold relV; rw [h]; rfl
theorem rel_yes {a : St} {f : ByteArray} {g : Fm} (hf : f.data.toList = g.text) (h : rdyB a.n (bs a.set) (bs a.rel) f 2 = true) : relV a.n (bs a.set) (bs a.rel) f = bs (relTo a.n (fun x y => g.holds a (envL [x, y])) a.n) := by
  unfold relV
  rw [h]
  simp only [tru_of hf, ofSt_eq, if_true]

end Go.Proofs.YtebjanjobfiloaaDoor

namespace Go.Proofs.YtebjanjobfiloaaDoor
open Go.RowKit
open Pl
set_option linter.unusedSimpArgs false
set_option linter.unusedVariables false

/-- all blocks of cells stay as they were -/
def Kc (W W' : World) : Prop := ∀ (g : Nat) (t : TypeId) (cs : Array Value), Bx W g t cs → Bx W' g t cs

set_option maxHeartbeats 1000000 in
set_option maxRecDepth 100000 in
theorem makeStructure_callsJ (n : Nat) (hn : n ≤ 8) (f : Nat → Bool) (g : Nat → Nat → Bool) (F G : FuncId) (fF cF fG cG : Array Value) (w : World)
    (eF : ∀ (args : Array Value) (W : World), (callFunc F args).run Tryd.prog W = .ok (.enter F args) W) (eG : ∀ (args : Array Value) (W : World), (callFunc G args).run Tryd.prog W = .ok (.enter G args) W)
    (J : World → Prop) (j0 : J w) (jA : ∀ W o, J W → J (W.alloc o)) (jD : ∀ W, J W → J W.drew) (jS : ∀ (W : World) (k : Nat) (t : TypeId) (cs : Array Value) (i : Nat) (v : Value), J W → w.heap.size ≤ k → Bx W k t cs → J (W.setCell ⟨k, i, none⟩ v))
    (hF : ∀ (x : Nat) (W : World), x < n → J W → Calls Tryd.prog F (fF.push (.int .i64 x) ++ cF) W fun e W' => e = .returned (.bool (f x)) ∧ J W' ∧ Kc W W')
    (hG : ∀ (x y : Nat) (W : World), x < n → y < n → J W → Calls Tryd.prog G (fG ++ (#[.int .i64 x, .int .i64 y] ++ cG)) W fun e W' => e = .returned (.bool (g x y)) ∧ J W' ∧ Kc W W') :
    Calls Tryd.prog 42 #[.int .i64 n, .func (.func F) fF cF, .func (.func G) fG cG] w fun e w' => e = .returned (stA (mkSt n f g)) ∧ J w' := by
  have HF := Lib.hid hF
  have HG := Lib.hid hG
  clear hF hG
  go_enter Tryd.func42, Tryd.ntmps42
  go_wp2_with fail
  go_loopg [13] n (fun c i wr => ∃ k : Nat, k + c = n ∧ i = .int .i64 k ∧ Bx wr w.heap.size 28 #[.int .i64 0, .string (bs []), .string (bs [])] ∧ Bx wr (w.heap.size + 1) 28 #[.int .i64 n, .string (bs (setTo f k)), .string (bs (relTo n g k))] ∧ J wr)
  case atStart => exact ⟨0, by omega, rfl, (Bx.new w _ _).alloc _, bx_two _ _ _, jA _ _ (jA _ _ j0)⟩
  case round =>
    obtain ⟨k, hk, rfl, hr0, hb0, hbw⟩ := hrel
    have Hr0 := Lib.hid hr0
    have Hb0 := Lib.hid hb0
    have Hbw := Lib.hid hbw
    clear hr0 hb0 hbw
    by_cases hlt : k < n
    · have c1 := Hb0.out.cell 1
      have f1 := Hb0.out.free 1
      simp at c1
      have s1 : (bs (setTo f k)).size ≤ 8 := by rw [bs_size, setTo_len]; omega
      have s2 : (bs [bitB (f k)]).size ≤ 1 := by rw [bs_size]; simp
      have hs3 : bs (setTo f k) ++ bs [bitB (f k)] = bs (setTo f (k + 1)) := by rw [append_bs, bs_data, bs_data, setTo_succ]
      have Hs3 := Lib.hid hs3
      clear hs3
      go_upto_region 5 with (fail)
      go_cut [22] (fun v wx => v = .string (bs (setTo f (k + 1))) ∧ Bx wx w.heap.size 28 #[.int .i64 0, .string (bs []), .string (bs [])] ∧ Bx wx (w.heap.size + 1) 28 #[.int .i64 n, .string (bs (setTo f (k + 1))), .string (bs (relTo n g k))] ∧ J wx)
      case first =>
        go_region_with (first | (go_at_call 61; refine (bitOf_calls _ _).mono ?_; rintro e w2 ⟨rfl, rfl⟩) | (go_simp; refine (HF.out k _ hlt (jD _ Hbw.out)).mono ?_; rintro e w1 ⟨rfl, hj', hz⟩; have HJ := Lib.hid hj'; clear hj'; have c2 := (hz _ _ _ Hb0.out.drew).cell 1; have f2 := (hz _ _ _ Hb0.out.drew).free 1; simp at c2; have Hz := Lib.hid hz; clear hz))
        all_goals
          go_wp2_with fail
          go_meet
          case rel => exact ⟨str_eq Hs3.out, (Hz.out _ _ _ Hr0.out.drew).far (by simp) _, by rw [← Hs3.out]; exact (Hz.out _ _ _ Hb0.out.drew).set 1 _, jS _ _ _ _ _ _ HJ.out (by simp) (Hz.out _ _ _ Hb0.out.drew)⟩
      case rest =>
        obtain ⟨rfl, hr1, hb1, hbw1⟩ := hcut
        have Hr1 := Lib.hid hr1
        have Hb1 := Lib.hid hb1
        have Hbw1 := Lib.hid hbw1
        clear hr1 hb1 hbw1 c1 f1 s1 s2
        go_wp2_with fail
        go_loopg [25] n (fun c i wr => ∃ j : Nat, j + c = n ∧ i = .int .i64 j ∧ Bx wr w.heap.size 28 #[.int .i64 0, .string (bs []), .string (bs [])] ∧ Bx wr (w.heap.size + 1) 28 #[.int .i64 n, .string (bs (setTo f (k + 1))), .string (bs (relAt n g k j))] ∧ J wr)
        case atStart => exact ⟨0, by omega, rfl, Hr1.out, by rw [relAt_zero]; exact Hb1.out, Hbw1.out⟩
        case round =>
          clear Hr0 Hb0 Hbw Hr1 Hb1 Hbw1 Hs3
          obtain ⟨j, hj, rfl, hr0, hb0, hbw⟩ := hrel
          have Hr0 := Lib.hid hr0
          have Hb0 := Lib.hid hb0
          have Hbw := Lib.hid hbw
          clear hr0 hb0 hbw
          by_cases hlj : j < n
          · have c1 := Hb0.out.cell 2
            have f1 := Hb0.out.free 2
            simp at c1
            have s1 : (bs (relAt n g k j)).size ≤ 100 := by
              rw [bs_size, relAt_len]
              have h64 := sq_le hn
              have hkn : k * n ≤ n * n := Nat.mul_le_mul_right n (by omega)
              omega
            have s2 : (bs [bitB (g k j)]).size ≤ 1 := by rw [bs_size]; simp
            have hs3 : bs (relAt n g k j) ++ bs [bitB (g k j)] = bs (relAt n g k (j + 1)) := by rw [append_bs, bs_data, bs_data, relAt_succ]
            have Hs3 := Lib.hid hs3
            clear hs3
            go_upto_region 9 with (fail)
            go_region_with (first | (go_at_call 61; refine (bitOf_calls _ _).mono ?_; rintro e w2 ⟨rfl, rfl⟩) | (go_simp; refine (HG.out k j _ hlt hlj (jD _ Hbw.out)).mono ?_; rintro e w1 ⟨rfl, hj', hz⟩; have HJ := Lib.hid hj'; clear hj'; have c2 := (hz _ _ _ Hb0.out.drew).cell 2; have f2 := (hz _ _ _ Hb0.out.drew).free 2; simp at c2; have Hz := Lib.hid hz; clear hz))
            all_goals
              go_wp2_with fail
              go_roundg (n - j - 1)
              case rel => exact ⟨j + 1, by omega, by go_num, (Hz.out _ _ _ Hr0.out.drew).far (by simp) _, by rw [← Hs3.out]; exact (Hz.out _ _ _ Hb0.out.drew).set 2 _, jS _ _ _ _ _ _ HJ.out (by simp) (Hz.out _ _ _ Hb0.out.drew)⟩
              case measure => omega
          · obtain rfl : n = j := by omega
            go_wp2_with fail
            go_roundg (n - k - 1)
            case rel => exact ⟨k + 1, by omega, by go_num, Hr0.out, by rw [relTo_succ]; exact Hb0.out, Hbw.out⟩
            case measure => omega
    · obtain rfl : n = k := by omega
      have c0 := Hb0.out.cell 0
      have c1 := Hb0.out.cell 1
      have c2 := Hb0.out.cell 2
      simp at c0 c1 c2
      have d0 := Hr0.out.cell 0
      have d1 := Hr0.out.cell 1
      have d2 := Hr0.out.cell 2
      have e0 := Hr0.out.free 0
      have e1 := Hr0.out.free 1
      have e2 := Hr0.out.free 2
      simp at d0 d1 d2
      go_wp2_with fail
      have x3 := ((Hr0.out.set 0 (.int .i64 n)).set 1 (.string (bs (setTo f n)))).set 2 (.string (bs (relTo n g n)))
      have q0 := x3.cell 0
      have q1 := x3.cell 1
      have q2 := x3.cell 2
      simp at q0 q1 q2
      refine bodyPost_ret (v := stA (mkSt n f g)) ?_ rfl ⟨rfl, ?_⟩
      · simp [results, Tryd.results42, go_sem, q0, q1, q2]
        exact ⟨rfl, rfl, rfl⟩
      · exact jS _ _ _ _ _ _ (jS _ _ _ _ _ _ (jS _ _ _ _ _ _ Hbw.out (Nat.le_refl _) Hr0.out) (Nat.le_refl _) (Hr0.out.set 0 _)) (Nat.le_refl _) ((Hr0.out.set 0 _).set 1 _)


end Go.Proofs.YtebjanjobfiloaaDoor

namespace Go.Proofs.YtebjanjobfiloaaDoor
open Go.RowKit
open Pl
set_option linter.unusedSimpArgs false
set_option linter.unusedVariables false

theorem Fz.kc {B : Nat} {W W' : World} (h : Fz B W W') : Kc W W' := fun g t cs hx => h.bx hx
theorem kc_call {W W' : World} (h : Below W.heap.size W W') : Kc W W' := fun g t cs hx => hx.call h

set_option maxHeartbeats 1000000 in
set_option maxRecDepth 100000 in
theorem rel1_calls (lo : Nat) (w0 : World) (a : St) (ha : a.ok) (hb : Nat) (g : Fm) (b gh gn x y : Nat) (W : World) (ht : TreeAt lo w0 g b) (hx : x < a.n) (hy : y < a.n) (hW : HoldW lo w0 a hb W) (hH : Bx W gh 61 #[.pointer (some ⟨hb + 1, 0, none⟩)]) (hN : Bx W gn 54 #[kidV b]) :
    Calls Tryd.prog 44 #[.int .i64 (x : Nat), .int .i64 (y : Nat), .pointer (some ⟨gh, 0, none⟩), .pointer (some ⟨gn, 0, none⟩)] W fun e W' => e = .returned (.bool (g.holds a (envL [x, y]))) ∧ HoldW lo w0 a hb W' ∧ Fz hb W W' := by
  have hcall := holds_calls lo w0 a ha hb g b [x, y] (some ⟨W.heap.size, 0, none⟩) 2 (W.alloc (.cells #[.int .i64 (x : Nat), .int .i64 (y : Nat)] 3)) ht (fun z hz => by simp at hz; rcases hz with rfl | rfl <;> assumption) (by simp) (LRow_two W x y) (hW.alloc _)
  simp only [List.length_cons, List.length_nil] at hcall
  have HC := Lib.hid hcall
  have F0 := Lib.hid (Fz.alloc (Nat.le_of_lt hW.cache.lt) (.cells #[.int .i64 (x : Nat), .int .i64 (y : Nat)] 3))
  have h0 := hH.cell 0
  have n0 := hN.cell 0
  simp only [List.getElem?_toArray, List.getElem?_cons_zero] at h0 n0
  clear hcall ht hx hy hW hH hN
  go_enter Tryd.func44, Tryd.ntmps44
  go_wp2_with fail
  refine (HC.out).mono ?_
  rintro e w4 ⟨rfl, hW4, hF⟩
  have W4 := Lib.hid hW4
  have F4 := Lib.hid (F0.out.trans hF)
  clear hW4 hF h0 n0
  go_wp2_with fail
  go_ret
  exact ⟨rfl, W4.out, F4.out⟩

theorem enter_rel1 : ∀ (args : Array Value) (w : World), (callFunc 44 args).run Tryd.prog w = .ok (.enter 44 args) w := enter_of Tryd.func44 (by kernel_rfl) (by kernel_rfl)
theorem enter_relS : ∀ (args : Array Value) (w : World), (callFunc 43 args).run Tryd.prog w = .ok (.enter 43 args) w := enter_of Tryd.func43 (by kernel_rfl) (by kernel_rfl)

set_option maxHeartbeats 4000000 in
set_option maxRecDepth 100000 in
theorem DefinedRel_impl (i : Int) (s r f : ByteArray) (w : World) (hs : s.size ≤ maxLen) (hr : r.size ≤ maxLen) :
    Calls Tryd.prog 19 #[stV i s r, .string f] w fun e w' => e = .returned (.tuple #[.string (relV i s r f), .bool (rdyB i s r f 2)]) ∧ Below w.heap.size w w' := by
  have HcI := fun W => isStructure_calls i s r W hs hr
  have B0 := Lib.hid (show Below w.heap.size w (w.alloc (.cells #[.int .i64 i, .string s, .string r] 28)) from (Below.refl _ _).alloc (Nat.le_refl _) _)
  have Xa := Lib.hid (Bx.new w 28 #[.int .i64 i, .string s, .string r])
  clear hs hr
  rcases fm_cases f with ⟨hb, hno⟩ | ⟨g, hb, hf, hs4, hl4⟩
  · rw [rel_no (rdy_noFm hb i s r 2), rdy_noFm hb i s r 2]
    have Hno := Lib.hid hno
    clear hb hno HcI
    go_enter Tryd.func19, Tryd.ntmps19
    go_wp2_with fail
    refine (parseFormula_no f _ Hno.out).mono ?_
    rintro e w1 ⟨rfl, hz⟩
    have B1 := Lib.hid (B0.out.trans (hz.mono (by simp)))
    have B1a := Lib.hid (B1.out.alloc B1.out.size (.cells #[.pointer none] 54))
    have n0 := (Bx.new w1 54 #[.pointer none]).cell 0
    simp only [List.getElem?_toArray, List.getElem?_cons_zero] at n0
    clear hz
    go_wp2_with fail
    go_ret2
    exact ⟨rfl, B1a.out⟩
  have Hf := Lib.hid hf
  have Hb := Lib.hid hb
  have hfr : g.freeBits < 16 := freeBits_lt g
  clear hf hb
  cases hok : okB i s r
  case false =>
    have hh := rdy_noSt hok f 2
    rw [rel_no (hh), hh]
    simp only [hok] at HcI
    clear hh hok
    have CI := Lib.hid HcI
    clear HcI
    go_enter Tryd.func19, Tryd.ntmps19
    go_wp2_with fail
    refine (parseFormula_yes f g _ hs4 Hf.out).mono ?_
    rintro e w1 ⟨b, rfl, htr, hz⟩
    have B1 := Lib.hid ((B0.out.trans (hz.mono B0.out.size)).alloc (B0.out.trans (hz.mono B0.out.size)).size (.cells #[kidV b] 54))
    have X1 := Lib.hid ((Xa.out.call hz).alloc (.cells #[kidV b] 54))
    have N1 := Lib.hid (Bx.new w1 54 #[kidV b])
    have T1 := Lib.hid htr
    have T1a := Lib.hid (htr.below ((Below.refl _ _).alloc (Nat.le_refl _) (.cells #[kidV b] 54)))
    clear hz htr
    obtain ⟨k0, k1, k2⟩ := box_load X1.out
    have n0 := N1.out.cell 0
    simp only [List.getElem?_toArray, List.getElem?_cons_zero] at n0
    go_wp2_with fail
    refine (CI.out _).mono ?_
    rintro e w2 ⟨rfl, hz⟩
    have B2 := Lib.hid (B1.out.trans (hz.mono B1.out.size))
    have X2 := Lib.hid (X1.out.call hz)
    have N2 := Lib.hid (N1.out.call hz)
    have T2 := Lib.hid (T1a.out.below hz)
    have D2 := Lib.hid (show Below w1.heap.size w1 w2 from ((Below.refl _ _).alloc (Nat.le_refl _) _).trans (hz.mono (by simp)))
    clear hz k0 k1 k2 n0
    have n0 := N2.out.cell 0
    simp only [List.getElem?_toArray, List.getElem?_cons_zero] at n0
    go_wp2_with fail
    go_ret2
    exact ⟨rfl, B2.out⟩
  case true =>
  simp only [hok] at HcI
  obtain ⟨a, ha, rfl, rfl, rfl⟩ := st_of hok
  have hry := rdy_of Hb.out Hf.out ha 2
  have CI := Lib.hid HcI
  clear HcI hok
  by_cases hfz : g.freeBits / 2 ^ 2 = 0
  case neg =>
    rw [decide_eq_false hfz] at hry
    rw [rel_no (hry), hry]
    clear hry
    have hne : ((g.freeBits : Int) / 2 ^ 2 != 0) = true := by rw [div_nat, bne_iff_ne]; omega
    clear hfz
    go_enter Tryd.func19, Tryd.ntmps19
    go_wp2_with fail
    refine (parseFormula_yes f g _ hs4 Hf.out).mono ?_
    rintro e w1 ⟨b, rfl, htr, hz⟩
    have B1 := Lib.hid ((B0.out.trans (hz.mono B0.out.size)).alloc (B0.out.trans (hz.mono B0.out.size)).size (.cells #[kidV b] 54))
    have X1 := Lib.hid ((Xa.out.call hz).alloc (.cells #[kidV b] 54))
    have N1 := Lib.hid (Bx.new w1 54 #[kidV b])
    have T1 := Lib.hid htr
    have T1a := Lib.hid (htr.below ((Below.refl _ _).alloc (Nat.le_refl _) (.cells #[kidV b] 54)))
    clear hz htr
    obtain ⟨k0, k1, k2⟩ := box_load X1.out
    have n0 := N1.out.cell 0
    simp only [List.getElem?_toArray, List.getElem?_cons_zero] at n0
    go_wp2_with fail
    refine (CI.out _).mono ?_
    rintro e w2 ⟨rfl, hz⟩
    have B2 := Lib.hid (B1.out.trans (hz.mono B1.out.size))
    have X2 := Lib.hid (X1.out.call hz)
    have N2 := Lib.hid (N1.out.call hz)
    have T2 := Lib.hid (T1a.out.below hz)
    have D2 := Lib.hid (show Below w1.heap.size w1 w2 from ((Below.refl _ _).alloc (Nat.le_refl _) _).trans (hz.mono (by simp)))
    clear hz k0 k1 k2 n0
    have n0 := N2.out.cell 0
    simp only [List.getElem?_toArray, List.getElem?_cons_zero] at n0
    obtain ⟨_, _, _, _, _, _, hc3, _⟩ := node_cells T2.out
    go_wp2_with fail
    go_ret2
    exact ⟨rfl, B2.out⟩
  case pos =>
  rw [decide_eq_true hfz] at hry
  have heq : (g.freeBits : Int) / 2 ^ 2 = 0 := by rw [div_nat]; omega
  clear hfz
  rw [rel_yes Hf.out hry, hry]
  have h8 := ha.hi
  clear hry
  go_enter Tryd.func19, Tryd.ntmps19
  go_wp2_with fail
  refine (parseFormula_yes f g _ hs4 Hf.out).mono ?_
  rintro e w1 ⟨b, rfl, htr, hz⟩
  have B1 := Lib.hid ((B0.out.trans (hz.mono B0.out.size)).alloc (B0.out.trans (hz.mono B0.out.size)).size (.cells #[kidV b] 54))
  have X1 := Lib.hid ((Xa.out.call hz).alloc (.cells #[kidV b] 54))
  have N1 := Lib.hid (Bx.new w1 54 #[kidV b])
  have T1 := Lib.hid htr
  have T1a := Lib.hid (htr.below ((Below.refl _ _).alloc (Nat.le_refl _) (.cells #[kidV b] 54)))
  clear hz htr
  obtain ⟨k0, k1, k2⟩ := box_load X1.out
  have n0 := N1.out.cell 0
  simp only [List.getElem?_toArray, List.getElem?_cons_zero] at n0
  go_wp2_with fail
  refine (CI.out _).mono ?_
  rintro e w2 ⟨rfl, hz⟩
  have B2 := Lib.hid (B1.out.trans (hz.mono B1.out.size))
  have X2 := Lib.hid (X1.out.call hz)
  have N2 := Lib.hid (N1.out.call hz)
  have T2 := Lib.hid (T1a.out.below hz)
  have D2 := Lib.hid (show Below w1.heap.size w1 w2 from ((Below.refl _ _).alloc (Nat.le_refl _) _).trans (hz.mono (by simp)))
  clear hz k0 k1 k2 n0
  have n0 := N2.out.cell 0
  simp only [List.getElem?_toArray, List.getElem?_cons_zero] at n0
  obtain ⟨_, _, _, _, _, _, hc3, _⟩ := node_cells T2.out
  obtain ⟨k0, k1, k2⟩ := box_load X2.out
  go_wp2_with fail
  refine (newHolder_calls (w.alloc (.cells #[.int .i64 (a.n : Int), .string (bs a.set), .string (bs a.rel)] 28)).heap.size w1 a w2 D2.out).mono ?_
  rintro e w3 ⟨rfl, hW, hz⟩
  have B3 := Lib.hid (B2.out.trans (hz.mono B2.out.size))
  have X3 := Lib.hid (X2.out.call hz)
  have N3 := Lib.hid (N2.out.call hz)
  have hlt3 := hW.box.lt
  have W3 := Lib.hid hW
  have Hlt3 := Lib.hid hlt3
  have hs23 := B2.out.size
  have HS23 := Lib.hid hs23
  clear hz k0 k1 k2 hc3 hW hlt3 hs23 n0
  generalize hhb : w2.heap.size + 1 = hb at *
  have Hhb := Lib.hid hhb
  clear hhb
  obtain ⟨k0, k1, k2⟩ := box_load (X3.out.alloc (.cells #[.pointer (some ⟨hb + 1, 0, none⟩)] 61))
  go_wp2_with fail
  refine (makeStructure_callsJ a.n h8 (fun x => a.inS x) (fun x y => g.holds a (envL [x, y])) 43 44 #[stA a] #[] #[] #[.pointer (some ⟨w3.heap.size, 0, none⟩), .pointer (some ⟨w1.heap.size, 0, none⟩)] (w3.alloc (.cells #[.pointer (some ⟨hb + 1, 0, none⟩)] 61)) enter_relS enter_rel1 (fun W : World => HoldW (w.alloc (.cells #[.int .i64 (a.n : Int), .string (bs a.set), .string (bs a.rel)] 28)).heap.size w1 a hb W ∧ Bx W w3.heap.size 61 #[.pointer (some ⟨hb + 1, 0, none⟩)] ∧ Bx W w1.heap.size 54 #[kidV b] ∧ Below w.heap.size w W) ?j0 ?jA ?jD ?jS ?hF ?hG).mono ?_
  case j0 => exact ⟨W3.out.alloc _, Bx.new w3 _ _, N3.out.alloc _, B3.out.alloc B3.out.size _⟩
  case jA => rintro W o' ⟨h1, h2, h3, h4⟩; exact ⟨h1.alloc _, h2.alloc _, h3.alloc _, h4.alloc h4.size _⟩
  case jD => rintro W ⟨h1, h2, h3, h4⟩; exact ⟨h1.drew, h2.drew, h3.drew, h4.drew⟩
  case jS =>
    rintro W k t cs i v ⟨h1, h2, h3, h4⟩ hk hx
    have g1 := Hlt3.out
    have g2 := N3.out.lt
    have g3 := B3.out.size
    simp at hk
    exact ⟨h1.set hx (by omega) i v, h2.far (by simp; omega) _, h3.far (by simp; omega) _, h4.setCell (by simp; omega) _⟩
  case hF =>
    rintro x W hx ⟨h1, h2, h3, h4⟩
    refine (inSet_calls a ha x hx W).mono fun e W' ⟨h5, hz⟩ => ?_
    exact ⟨h5, ⟨h1.call hz, h2.call hz, h3.call hz, h4.trans (hz.mono h4.size)⟩, kc_call hz⟩
  case hG =>
    rintro x y W hx hy ⟨h1, h2, h3, h4⟩
    refine (rel1_calls (w.alloc (.cells #[.int .i64 (a.n : Int), .string (bs a.set), .string (bs a.rel)] 28)).heap.size w1 a ha hb g b w3.heap.size w1.heap.size x y W T1.out hx hy h1 h2 h3).mono fun e W' ⟨h5, h6, hF⟩ => ?_
    exact ⟨h5, ⟨h6, hF.bx h2, hF.bx h3, h4.trans (hF.below.mono (by have := HS23.out; have := Hhb.out; omega))⟩, hF.kc⟩
  rintro e w5 ⟨rfl, hJ1, hJ2, hJ3, hJ4⟩
  have B5 := Lib.hid hJ4
  clear hJ1 hJ2 hJ3 hJ4 k0 k1 k2
  have hfd : ∀ (n : Int) (S R : ByteArray) (W : World), (Instr.field 28 (.agg #[.int .i64 n, .string S, .string R]) 2).run Tryd.prog W = .ok (.string R) W := fun _ _ _ _ => by kernel_rfl
  unfold stA
  go_wp2_with fail
  go_ret2
  exact ⟨rfl, B5.out⟩

end Go.Proofs.YtebjanjobfiloaaDoor

namespace Go.Proofs.YtebjanjobfiloaaDoor
open Go.RowKit
open Pl
set_option linter.unusedSimpArgs false
set_option linter.unusedVariables false

theorem l2True_two (a : St) (ha : a.ok) (f : ByteArray) (g : Fm) (x y : Nat) (w : World) (hf : f.data.toList = g.text) (hs : f.size ≤ 4000) (hx : x < a.n) (hy : y < a.n) :
    Calls Tryd.prog 34 #[stA a, .string f, .agg #[.int .i64 (x : Nat), .int .i64 (y : Nat), .int .i64 0, .int .i64 0]] w fun ed w' => ed = .returned (.bool (g.holds a (envL [x, y]))) ∧ Below w.heap.size w w' :=
  l2True_calls a ha f g (envL [x, y]) w hf hs (env_lt ha fun z hz => by simp at hz; rcases hz with rfl | rfl <;> assumption)

set_option maxHeartbeats 4000000 in
set_option maxRecDepth 100000 in
theorem l3Rel_calls (a : St) (ha : a.ok) (f : ByteArray) (g : Fm) (w : World) (hf : f.data.toList = g.text) (hs : f.size ≤ 4000) :
    Calls Tryd.prog 41 #[stA a, .string f] w fun e w' => e = .returned (.string (bs (relTo a.n (fun x y => g.holds a (envL [x, y])) a.n))) ∧ Below w.heap.size w w' := by
  obtain ⟨G0, hG0⟩ : ∃ G0 : Nat → Nat → Bool, G0 = fun x y => g.holds a (envL [x, y]) := ⟨_, rfl⟩
  have ct : ∀ (x y : Nat) (W : World), x < a.n → y < a.n → Calls Tryd.prog 34 #[.agg #[.int .i64 (a.n : Int), .string (bs a.set), .string (bs a.rel)], .string f, .agg #[.int .i64 (x : Nat), .int .i64 (y : Nat), .int .i64 0, .int .i64 0]] W fun ed w' => ed = .returned (.bool (G0 x y)) ∧ Below W.heap.size W w' := fun x y W hx hy => by
    rw [hG0]; exact l2True_two a ha f g x y W hf hs hx hy
  rw [← hG0]
  have CTR := Lib.hid ct
  have h8 := ha.hi
  have Xa := Lib.hid (Bx.new w 28 #[.int .i64 (a.n : Int), .string (bs a.set), .string (bs a.rel)])
  have B0 := Lib.hid ((Below.refl w.heap.size w).alloc (Nat.le_refl _) (.cells #[.int .i64 (a.n : Int), .string (bs a.set), .string (bs a.rel)] 28))
  clear ct hG0 hf
  unfold stA
  go_enter Tryd.func41, Tryd.ntmps41
  go_wp2_with fail
  go_loopg [5, 6] a.n (fun c o i wr => ∃ k : Nat, k + c = a.n ∧ i = .int .i64 (k : Nat) ∧ o = .string (bs (relTo a.n G0 k)) ∧ Bx wr w.heap.size 28 #[.int .i64 (a.n : Int), .string (bs a.set), .string (bs a.rel)] ∧ Below w.heap.size w wr)
  case atStart => exact ⟨0, by omega, rfl, rfl, Xa.out, B0.out⟩
  case round =>
    obtain ⟨k, hk, rfl, rfl, hxa, hbl⟩ := hrel
    have HX := Lib.hid hxa
    have Hbl := Lib.hid hbl
    clear hxa hbl
    obtain ⟨m0, m1, m2⟩ := box_load HX.out
    by_cases hlt : k < a.n
    · go_wp2_with fail
      go_loopg [5, 7] a.n (fun c o i wr => ∃ j : Nat, j + c = a.n ∧ i = .int .i64 (j : Nat) ∧ o = .string (bs (relAt a.n G0 k j)) ∧ Bx wr w.heap.size 28 #[.int .i64 (a.n : Int), .string (bs a.set), .string (bs a.rel)] ∧ Below w.heap.size w wr)
      case atStart => exact ⟨0, by omega, rfl, by rw [relAt_zero], HX.out, Hbl.out⟩
      case round =>
        clear m0 m1 m2
        obtain ⟨j, hj, rfl, rfl, hxa, hbl⟩ := hrel
        have HX := Lib.hid hxa
        have Hbl := Lib.hid hbl
        clear hxa hbl
        obtain ⟨m0, m1, m2⟩ := box_load HX.out
        have s1 : (bs (relAt a.n G0 k j)).size ≤ 100 := by
          rw [bs_size, relAt_len]
          have h64 := sq_le h8
          have hkn : k * a.n ≤ a.n * a.n := Nat.mul_le_mul_right a.n (by omega)
          omega
        by_cases hlj : j < a.n
        · have s2 : (bs [bitB (G0 k j)]).size ≤ 1 := by rw [bs_size]; simp
          have hs3 : bs (relAt a.n G0 k j) ++ bs [bitB (G0 k j)] = bs (relAt a.n G0 k (j + 1)) := by rw [append_bs, bs_data, bs_data, relAt_succ]
          have Hs3 := Lib.hid hs3
          have HC := Lib.hid (fun W => CTR.out k j W hlt hlj)
          clear hs3
          go_wp2_with (first | (go_at_call 34; refine (HC.out _).mono ?_; rintro e w4 ⟨rfl, hz⟩; have F4 := Lib.hid (Hbl.out.trans (hz.mono Hbl.out.size)); have X4 := Lib.hid (HX.out.call hz); clear hz m0 m1 m2; obtain ⟨m0, m1, m2⟩ := box_load X4.out) | (go_at_call 60; refine (l1Bit_calls _ _).mono ?_; rintro e w5 ⟨rfl, rfl⟩))
          go_roundg (a.n - j - 1)
          case rel => exact ⟨j + 1, by omega, by go_num, str_eq Hs3.out, X4.out, F4.out⟩
          case measure => omega
        · obtain rfl : j = a.n := by omega
          go_wp2_with fail
          go_roundg (a.n - k - 1)
          case rel => exact ⟨k + 1, by omega, by go_num, by rw [relTo_succ], HX.out, Hbl.out⟩
          case measure => omega
    · obtain rfl : k = a.n := by omega
      go_wp2_with fail
      go_ret
      exact ⟨rfl, Hbl.out⟩

set_option maxHeartbeats 1000000 in
set_option maxRecDepth 100000 in
theorem DefinedRel_spec (i : Int) (s r f : ByteArray) (w : World) (hs : s.size ≤ maxLen) (hr : r.size ≤ maxLen) (hf : f.size ≤ maxLen) :
    Calls Tryd.prog 18 #[stV i s r, .string f] w fun e w' => e = .returned (.tuple #[.string (relV i s r f), .bool (rdyB i s r f 2)]) ∧ Below w.heap.size w w' := by
  have cr := fun W => l3Ready_calls i s r f 2 W hs hr hf (by omega)
  have B0 := Lib.hid (show Below w.heap.size w (w.alloc (.cells #[.int .i64 i, .string s, .string r] 28)) from (Below.refl _ _).alloc (Nat.le_refl _) _)
  have Xa := Lib.hid (Bx.new w 28 #[.int .i64 i, .string s, .string r])
  obtain ⟨k0, k1, k2⟩ := box_load Xa.out
  clear hs hr hf
  cases hry : rdyB i s r f 2
  case false =>
    rw [rel_no hry]
    simp only [hry] at cr
    have CR := Lib.hid cr
    clear cr hry
    go_enter Tryd.func18, Tryd.ntmps18
    go_wp2_with fail
    refine (CR.out _).mono ?_
    rintro e w1 ⟨rfl, hz⟩
    have B1 := Lib.hid (B0.out.trans (hz.mono B0.out.size))
    clear hz k0 k1 k2
    go_wp2_with fail
    go_ret2
    exact ⟨rfl, B1.out⟩
  case true =>
    obtain ⟨a, g, ha, rfl, rfl, rfl, hfm, hs4⟩ := rdy_fm hry
    rw [rel_yes hfm hry]
    simp only [hry] at cr
    have CR := Lib.hid cr
    have CL := Lib.hid (fun W => l3Rel_calls a ha f g W hfm hs4)
    clear cr hry hfm
    go_enter Tryd.func18, Tryd.ntmps18
    go_wp2_with fail
    refine (CR.out _).mono ?_
    rintro e w1 ⟨rfl, hz⟩
    have B1 := Lib.hid (B0.out.trans (hz.mono B0.out.size))
    have X1 := Lib.hid (Xa.out.call hz)
    clear hz k0 k1 k2
    obtain ⟨k0, k1, k2⟩ := box_load X1.out
    go_wp2_with fail
    refine (CL.out _).mono ?_
    rintro e w2 ⟨rfl, hz⟩
    have B2 := Lib.hid (B1.out.trans (hz.mono B1.out.size))
    clear hz k0 k1 k2
    go_wp2_with fail
    go_ret2
    exact ⟨rfl, B2.out⟩

end Go.Proofs.YtebjanjobfiloaaDoor

namespace Go.Proofs.YtebjanjobfiloaaDoor
open Go.RowKit
open Pl
set_option linter.unusedSimpArgs false
set_option linter.unusedVariables false

set_option maxHeartbeats 4000000 in
set_option maxRecDepth 100000 in
theorem FnExactDefinedRel_walk (i : Int) (s r : ByteArray) (f : ByteArray) (w : World) (hi : (Lit.int .i64 i).wf = true) (hs : s.size ≤ maxLen) (hr : r.size ≤ maxLen) (h_f : f.size ≤ maxLen)  :
    Calls Tryd.prog 5 #[stV i s r, .string f] w fun e w' => e = .returned (.bool true) ∧ Below w.heap.size w w' := by
  have Hs := Lib.hid hs
  have Hr := Lib.hid hr
  clear hs hr hi
  by_cases hg0 : f.size ≤ 1048576
  case neg =>
    have hgi : 1048576 < (f.size : Int) := by omega
    clear Hs Hr
    go_enter Tryd.func5, Tryd.ntmps5
    go_wp2_with fail
    go_ret
    exact ⟨rfl, (Below.refl _ _).alloc (Nat.le_refl _) _⟩
  case pos =>
  have hgi0 : (f.size : Int) ≤ 1048576 := by omega
  have c1 := fun (W : World) => DefinedRel_spec i s r f W Hs.out Hr.out h_f
  have c2 := fun (W : World) => DefinedRel_impl i s r f W Hs.out Hr.out
  obtain ⟨RR, hRR⟩ : ∃ RR, RR = relV i s r f := ⟨_, rfl⟩
  simp only [← hRR] at c1 c2
  clear hRR
  obtain ⟨VB, hVB⟩ : ∃ VB, VB = rdyB i s r f 2 := ⟨_, rfl⟩
  simp only [← hVB] at c1 c2
  clear hVB
  have hbVB : (VB != VB) = false := by cases VB <;> rfl
  have C1 := Lib.hid c1
  have C2 := Lib.hid c2
  have B1 := Lib.hid ((Below.refl w.heap.size w).alloc (Nat.le_refl _) (.cells #[.int .i64 i, .string s, .string r] 23))
  have Xa1 := Lib.hid (Bx.new w 23 #[.int .i64 i, .string s, .string r])
  clear c1 c2
  go_enter Tryd.func5, Tryd.ntmps5
  obtain ⟨a0, a1, a2⟩ := box_load Xa1.out
  go_wp2_with fail
  refine (szStructure_calls i s r 1048576 _ (Nat.le_refl _) Hs.out Hr.out).mono ?_
  clear a0 a1 a2
  rintro e w1 ⟨⟨m, rfl, hm⟩, hz⟩
  have B2 := Lib.hid (B1.out.trans (hz.mono B1.out.size))
  have Xa2 := Lib.hid (Xa1.out.call hz)
  clear hm
  clear hz
  obtain ⟨a0, a1, a2⟩ := box_load Xa2.out
  by_cases h0 : 0 ≤ m
  · have hn : ¬ m < 0 := by omega
    go_wp2_with fail
    refine (toStructure_calls i s r _).mono ?_
    clear a0 a1 a2
    rintro e w2 ⟨rfl, hz⟩
    have B3 := Lib.hid (B2.out.trans (hz.mono B2.out.size))
    have Xa3 := Lib.hid (Xa2.out.call hz)
    clear hz
    obtain ⟨a0, a1, a2⟩ := box_load Xa3.out
    go_wp2_with fail
    refine (C1.out _).mono ?_
    clear a0 a1 a2
    rintro e w3 ⟨rfl, hz⟩
    have B4 := Lib.hid (B3.out.trans (hz.mono B3.out.size))
    have Xa4 := Lib.hid (Xa3.out.call hz)
    clear hz
    obtain ⟨a0, a1, a2⟩ := box_load Xa4.out
    go_wp2_with fail
    refine (toStructure_calls i s r _).mono ?_
    clear a0 a1 a2
    rintro e w4 ⟨rfl, hz⟩
    have B5 := Lib.hid (B4.out.trans (hz.mono B4.out.size))
    have Xa5 := Lib.hid (Xa4.out.call hz)
    clear hz
    obtain ⟨a0, a1, a2⟩ := box_load Xa5.out
    go_wp2_with fail
    refine (C2.out _).mono ?_
    clear a0 a1 a2
    rintro e w5 ⟨rfl, hz⟩
    have B6 := Lib.hid (B5.out.trans (hz.mono B5.out.size))
    have Xa6 := Lib.hid (Xa5.out.call hz)
    clear hz
    obtain ⟨a0, a1, a2⟩ := box_load Xa6.out
    go_wp2_with fail
    go_ret
    exact ⟨rfl, B6.out⟩
  · go_wp2_with fail
    go_ret
    exact ⟨rfl, B2.out⟩

end Go.Proofs.YtebjanjobfiloaaDoor

namespace Go.Proofs.YtebjanjobfiloaaDoor
open Go.RowKit
open Pl
set_option linter.unusedSimpArgs false
set_option linter.unusedVariables false

/-- one of the lists -/
def Inn (W : World) (base : Nat) (v : Value) (L : List Nat) : Prop := ∃ g cap, v = .slice (some ⟨g, 0, none⟩) L.length cap ∧ W.ownsRow base 3 1 v L.length (intsV (natsI L))
/-- the lists -/
def Inns (W : World) (base : Nat) (vals : List Value) (Ls : List (List Nat)) : Prop := vals.length = Ls.length ∧ ∀ (i : Nat) (v : Value) (L : List Nat), vals[i]? = some v → Ls[i]? = some L → Inn W base v L
/-- a list of lists -/
def LL (W : World) (base : Nat) (v : Value) (Ls : List (List Nat)) : Prop := (∃ g cap, v = .slice (some ⟨g, 0, none⟩) Ls.length cap) ∧ ∃ vals, W.ownsRow base 24 1 v Ls.length vals ∧ Inns W base vals Ls

theorem Inn.call {W W' : World} {base : Nat} {v : Value} {L : List Nat} (h : Inn W base v L) (hb : Below W.heap.size W W') : Inn W' base v L := by
  obtain ⟨g, cap, h1, h2⟩ := h
  exact ⟨g, cap, h1, own_call h2 hb⟩
theorem Inn.base {W : World} {base base' : Nat} {v : Value} {L : List Nat} (h : Inn W base v L) (hb : base' ≤ base) : Inn W base' v L := by
  obtain ⟨g, cap, h1, h2⟩ := h
  exact ⟨g, cap, h1, own_base h2 hb⟩
theorem Inn.grown {W W' : World} {base base2 n : Nat} {v u : Value} {L : List Nat} {xs : List Value} (h : Inn W base v L) (hu : W.ownsRow base2 24 1 u n xs) (hg : W.grownBy W' u.ownBlock) : Inn W' base v L := by
  obtain ⟨g, cap, h1, h2⟩ := h
  exact ⟨g, cap, h1, own_others h2 hg (Apart.types h2 hu (by decide))⟩
theorem Inns.call {W W' : World} {base : Nat} {vals : List Value} {Ls : List (List Nat)} (h : Inns W base vals Ls) (hb : Below W.heap.size W W') : Inns W' base vals Ls :=
  ⟨h.1, fun i v L h1 h2 => (h.2 i v L h1 h2).call hb⟩
theorem Inns.grown {W W' : World} {base base2 n : Nat} {vals : List Value} {u : Value} {Ls : List (List Nat)} {xs : List Value} (h : Inns W base vals Ls) (hu : W.ownsRow base2 24 1 u n xs) (hg : W.grownBy W' u.ownBlock) : Inns W' base vals Ls :=
  ⟨h.1, fun i v L h1 h2 => (h.2 i v L h1 h2).grown hu hg⟩
theorem Inns.snoc {W : World} {base : Nat} {vals : List Value} {Ls : List (List Nat)} {v : Value} {L : List Nat} (h : Inns W base vals Ls) (hv : Inn W base v L) : Inns W base (vals ++ [v]) (Ls ++ [L]) := by
  refine ⟨by simp [h.1], fun i u M h1 h2 => ?_⟩
  by_cases hi : i < vals.length
  · rw [List.getElem?_append_left hi] at h1
    rw [List.getElem?_append_left (by rw [← h.1]; exact hi)] at h2
    exact h.2 i u M h1 h2
  · rw [List.getElem?_append_right (by omega)] at h1
    rw [List.getElem?_append_right (by rw [← h.1]; omega)] at h2
    rw [← h.1] at h2
    have h0 : i - vals.length = 0 := by
      rcases Nat.eq_zero_or_pos (i - vals.length) with h0 | h0
      · exact h0
      · rw [List.getElem?_eq_none (by simp; omega)] at h1; cases h1
    rw [h0] at h1 h2
    simp at h1 h2
    subst h1 h2
    exact hv
theorem Inns.nil (W : World) (base : Nat) : Inns W base [] [] := ⟨rfl, fun i v L h => by simp at h⟩
theorem LL.call {W W' : World} {base : Nat} {v : Value} {Ls : List (List Nat)} (h : LL W base v Ls) (hb : Below W.heap.size W W') : LL W' base v Ls := by
  obtain ⟨hf, vals, h1, h2⟩ := h
  exact ⟨hf, vals, own_call h1 hb, h2.call hb⟩
theorem LL.alloc {W : World} {base : Nat} {v : Value} {Ls : List (List Nat)} (h : LL W base v Ls) (o : Obj) : LL (W.alloc o) base v Ls := h.call ((Below.refl _ _).alloc (Nat.le_refl _) _)
theorem LL.base {W : World} {base base' : Nat} {v : Value} {Ls : List (List Nat)} (h : LL W base v Ls) (hb : base' ≤ base) : LL W base' v Ls := by
  obtain ⟨hf, vals, h1, h2⟩ := h
  exact ⟨hf, vals, own_base h1 hb, h2.1, fun i v L g1 g2 => (h2.2 i v L g1 g2).base hb⟩
theorem Inn.fz {W W' : World} {B base : Nat} {v : Value} {L : List Nat} (h : Inn W base v L) (hf : Fz B W W') : Inn W' base v L := by
  obtain ⟨g, cap, h1, h2, h3⟩ := h
  refine ⟨g, cap, h1, h2, h3.imp (fun h => h) fun ⟨g, c, cur, hv, hg, hh, hr⟩ => ⟨g, c, cur, hv, hg, hf.cells _ _ _ _ hh, hr⟩⟩
theorem LL.fz {W W' : World} {B base : Nat} {v : Value} {Ls : List (List Nat)} (h : LL W base v Ls) (hf : Fz B W W') : LL W' base v Ls := by
  obtain ⟨hv, vals, ⟨h2, h3⟩, h4, h5⟩ := h
  exact ⟨hv, vals, ⟨h2, h3.imp (fun h => h) fun ⟨g, c, cur, hv, hg, hh, hr⟩ => ⟨g, c, cur, hv, hg, hf.cells _ _ _ _ hh, hr⟩⟩, h4, fun i v L g1 g2 => (h5 i v L g1 g2).fz hf⟩
/-- a list of lists beside another one that grows -/
theorem LL.others {W W' : World} {base base2 n : Nat} {v u : Value} {Ls : List (List Nat)} {xs : List Value} (h : LL W base v Ls) (hu : W.ownsRow base2 24 1 u n xs) (hg : W.grownBy W' u.ownBlock) (ha : Apart v u) : LL W' base v Ls := by
  obtain ⟨hf, vals, h1, h2⟩ := h
  exact ⟨hf, vals, own_others h1 hg ha, h2.grown hu hg⟩
/-- one list more -/
theorem LL.push {W W' : World} {base : Nat} {v v' u : Value} {Ls : List (List Nat)} {L : List Nat} {vals : List Value} (h1 : W.ownsRow base 24 1 v Ls.length vals) (h2 : Inns W base vals Ls) (hL : Inn W base u L) (ho : W'.ownsRow base 24 1 v' (Ls.length + 1) (vals ++ [u])) (hg : W.grownBy W' v.ownBlock) : LL W' base v' (Ls ++ [L]) :=
  ⟨by rw [List.length_append, List.length_singleton]; exact own_form ho, vals ++ [u], by rw [List.length_append, List.length_singleton]; exact ho, (h2.grown h1 hg).snoc (hL.grown h1 hg)⟩
theorem LL.new (W : World) : LL (W.alloc (.cells #[] 24)) W.heap.size (.slice (some ⟨W.heap.size, 0, none⟩) 0 0) [] := ⟨⟨_, _, rfl⟩, [], own_zeroO W, Inns.nil _ _⟩
/-- what a place of a list of lists holds -/
theorem LL.get {W : World} {base : Nat} {v : Value} {Ls : List (List Nat)} (h : LL W base v Ls) {k : Nat} (hk : k < Ls.length) :
    ∃ g cap gi ci, v = .slice (some ⟨g, 0, none⟩) Ls.length cap ∧ Ls.length ≤ cap ∧ W.cell? ⟨g, k, none⟩ = some (.slice (some ⟨gi, 0, none⟩) (Ls.getD k []).length ci) ∧ Inn W base (.slice (some ⟨gi, 0, none⟩) (Ls.getD k []).length ci) (Ls.getD k []) := by
  obtain ⟨_, vals, h1, h2⟩ := h
  obtain ⟨g, cap, rfl, hc1, _, _, _, hc⟩ := row_open h1 (by omega)
  have hkv : k < vals.length := by rw [h2.1]; exact hk
  have e1 : vals[k]? = some vals[k] := List.getElem?_eq_getElem hkv
  have e2 : Ls[k]? = some (Ls.getD k []) := by rw [List.getD_eq_getElem?_getD, List.getElem?_eq_getElem hk]; rfl
  obtain ⟨gi, ci, e3, e4⟩ := h2.2 k _ _ e1 e2
  refine ⟨g, cap, gi, ci, rfl, hc1, ?_, gi, ci, rfl, ?_⟩
  · rw [hc k hk, e1, e3]
  · rw [← e3]; exact e4
theorem LL.form {W : World} {base : Nat} {v : Value} {Ls : List (List Nat)} (h : LL W base v Ls) : ∃ g cap, v = .slice (some ⟨g, 0, none⟩) Ls.length cap := h.1
theorem Inn.row {W : World} {base : Nat} {v : Value} {L : List Nat} (h : Inn W base v L) : ∃ g cap, v = .slice (some ⟨g, 0, none⟩) L.length cap ∧ LRow W (some ⟨g, 0, none⟩) (natsI L) := by
  obtain ⟨g, cap, rfl, h2⟩ := h
  exact ⟨g, cap, rfl, LRow_of h2⟩
/-- behind one number more, the list whole -/
theorem app_twoI {w w1 w2 : World} {v1 v2 : Value} {o : List Nat} {x n : Nat} (hl : o.length = n) (hb : Below w.heap.size w w1) (hown1 : w1.ownsRow w.heap.size 3 1 v1 n (intsV (natsI o)))
    (hown : w2.ownsRow w.heap.size 3 1 v2 (n + 1) (intsV (natsI o) ++ [.int .i64 (x : Nat)])) (hg : (w1.alloc (.cells #[.int .i64 (x : Nat)] 3)).grownBy w2 v1.ownBlock) :
    ∃ g cap, v2 = .slice (some ⟨g, 0, none⟩) (n + 1) cap ∧ Inn w2 w.heap.size v2 (o ++ [x]) ∧ Below w.heap.size w w2 := by
  obtain ⟨g, cap, rfl⟩ := own_form hown
  refine ⟨g, cap, rfl, ⟨g, cap, by simp [hl], ?_⟩, (hb.alloc hb.size _).grown hg (by have := hb.size; simp; omega) (fun j hj => (hown1.lt j hj).1)⟩
  rw [show intsV (natsI (o ++ [x])) = intsV (natsI o) ++ [.int .i64 (x : Nat)] by simp [intsV, natsI], List.length_append, List.length_singleton, hl]
  exact hown

end Go.Proofs.YtebjanjobfiloaaDoor

namespace Go.Proofs.YtebjanjobfiloaaDoor
open Pl

/-- the list with a number -/
def ptK (n : Nat) : Nat → Nat → List Nat
  | 0, _ => []
  | w + 1, k => ptK n w (k / n) ++ [k % n]
/-- a list's lists of one element more -/
def extL (n : Nat) (l : List Nat) : List (List Nat) := (List.range n).map fun x => l ++ [x]
/-- all lists of so many elements -/
def listsK (n : Nat) : Nat → List (List Nat)
  | 0 => [[]]
  | w + 1 => (listsK n w).flatMap (extL n)

theorem ptK_len (n : Nat) : ∀ w k, (ptK n w k).length = w
  | 0, _ => rfl
  | w + 1, k => by simp [ptK, ptK_len n w]
theorem ptK_lt {n : Nat} (hn : 0 < n) : ∀ w k, ∀ x ∈ ptK n w k, x < n
  | 0, _, x, h => by simp [ptK] at h
  | w + 1, k, x, h => by
    simp only [ptK, List.mem_append, List.mem_singleton] at h
    rcases h with h | rfl
    · exact ptK_lt hn w _ x h
    · exact Nat.mod_lt _ hn
theorem range_mul (m n : Nat) : List.range (m * n) = (List.range m).flatMap fun j => (List.range n).map fun x => j * n + x := by
  induction m with
  | zero => simp
  | succ m ih =>
    rw [List.range_succ, List.flatMap_append, ← ih, Nat.succ_mul, List.range_add]
    simp
theorem listsK_eq {n : Nat} (hn : 0 < n) : ∀ w, listsK n w = (List.range (n ^ w)).map (ptK n w)
  | 0 => by simp [listsK, ptK]
  | w + 1 => by
    rw [listsK, listsK_eq hn w, Nat.pow_succ, range_mul, List.map_flatMap, List.flatMap_map]
    refine congrArg (fun f => List.flatMap f (List.range (n ^ w))) (funext fun j => ?_)
    unfold extL
    rw [List.map_map]
    refine List.map_congr_left fun x hx => ?_
    have hx := List.mem_range.1 hx
    simp only [Function.comp, ptK]
    rw [Nat.mul_comm j n, Nat.mul_add_div hn, Nat.div_eq_of_lt hx, Nat.mul_add_mod, Nat.mod_eq_of_lt hx, Nat.add_zero]
theorem listsK_len {n : Nat} (hn : 0 < n) (w : Nat) : (listsK n w).length = n ^ w := by rw [listsK_eq hn]; simp
theorem listsK_mem {n : Nat} (hn : 0 < n) {w : Nat} {l : List Nat} (h : l ∈ listsK n w) : l.length = w ∧ ∀ x ∈ l, x < n := by
  rw [listsK_eq hn] at h
  obtain ⟨k, _, rfl⟩ := List.mem_map.1 h
  exact ⟨ptK_len n w k, ptK_lt hn w k⟩
theorem ptK_get {n : Nat} (hn : 0 < n) : ∀ w k p, p < w → (ptK n w k).getD p 0 = (k / n ^ (w - 1 - p)) % n
  | 0, _, p, h => by omega
  | w + 1, k, p, h => by
    simp only [ptK]
    by_cases hp : p = w
    · subst hp
      rw [List.getD_eq_getElem?_getD, List.getElem?_append_right (by rw [ptK_len]; exact Nat.le_refl _), ptK_len]
      simp
    · rw [List.getD_eq_getElem?_getD, List.getElem?_append_left (by rw [ptK_len]; omega), ← List.getD_eq_getElem?_getD, ptK_get hn w (k / n) p (by omega), Nat.div_div_eq_div_mul, ← Nat.pow_succ']
      congr 3
      omega

/-- all lists so far -/
def flatK (n : Nat) (Ls : List (List Nat)) (j x : Nat) : List (List Nat) := (Ls.take j).flatMap (extL n) ++ (List.range x).map fun y => Ls.getD j [] ++ [y]
theorem flatK_zero (n : Nat) (Ls : List (List Nat)) : flatK n Ls 0 0 = [] := rfl
theorem flatK_succ (n : Nat) (Ls : List (List Nat)) (j x : Nat) : flatK n Ls j (x + 1) = flatK n Ls j x ++ [Ls.getD j [] ++ [x]] := by
  unfold flatK
  rw [List.range_succ, List.map_append, ← List.append_assoc]
  rfl
theorem flatK_next {n : Nat} {Ls : List (List Nat)} {j : Nat} (hj : j < Ls.length) : flatK n Ls j n = flatK n Ls (j + 1) 0 := by
  unfold flatK
  rw [List.take_add_one, List.flatMap_append, List.getElem?_eq_getElem hj, List.getD_eq_getElem?_getD, List.getElem?_eq_getElem hj]
  simp [extL]
theorem flatK_all (n : Nat) (Ls : List (List Nat)) : flatK n Ls Ls.length 0 = Ls.flatMap (extL n) := by
  unfold flatK
  rw [List.take_length]
  simp
theorem flatK_len {n : Nat} (Ls : List (List Nat)) (j x : Nat) (hj : j ≤ Ls.length) : (flatK n Ls j x).length = j * n + x := by
  unfold flatK
  rw [List.length_append, List.length_flatMap]
  have : ((Ls.take j).map fun l => (extL n l).length) = List.replicate j n := by
    rw [List.eq_replicate_iff]
    refine ⟨by simp; omega, fun b hb => ?_⟩
    obtain ⟨l, _, rfl⟩ := List.mem_map.1 hb
    simp [extL]
  rw [this]
  simp

end Go.Proofs.YtebjanjobfiloaaDoor

namespace Go.Proofs.YtebjanjobfiloaaDoor
open Go.RowKit
open Pl
set_option linter.unusedSimpArgs false
set_option linter.unusedVariables false

attribute [local go_sem ↓] Go.wp_at_zero Go.wp_at_succ

set_option maxHeartbeats 4000000 in
set_option maxRecDepth 100000 in
theorem listsOf_calls (n wd : Nat) (hn0 : 0 < n) (hn : n ≤ 8) (hwd : wd ≤ 3) (w : World) :
    Calls Tryd.prog 62 #[.int .i64 (n : Nat), .int .i64 (wd : Nat)] w fun e w' => (∃ v, e = .returned v ∧ LL w' w.heap.size v (listsK n wd)) ∧ Below w.heap.size w w' := by
  obtain ⟨i0, hi, hz0, hz1, hz2⟩ := info_parts (P := Tryd.prog) (e := 3) (z := .int .i64 0) (size := 1) (bytes := 8) (by kernel_rfl)
  obtain ⟨i1, hi', hz0', hz1', hz2'⟩ := info_parts (P := Tryd.prog) (e := 24) (z := .slice none 0 0) (size := 1) (bytes := 24) (by kernel_rfl)
  have L0 : LL ((w.alloc (.cells #[] 3)).alloc (.cells #[.slice (some ⟨w.heap.size, 0, none⟩) 0 0] 24)) w.heap.size (.slice (some ⟨w.heap.size + 1, 0, none⟩) 1 1) [[]] := by
    have hx : Bx ((w.alloc (.cells #[] 3)).alloc (.cells #[.slice (some ⟨w.heap.size, 0, none⟩) 0 0] 24)) (w.heap.size + 1) 24 #[.slice (some ⟨w.heap.size, 0, none⟩) 0 0] := bx_two w _ _
    refine ⟨⟨_, _, rfl⟩, [.slice (some ⟨w.heap.size, 0, none⟩) 0 0], ⟨rfl, .inr ⟨_, 1, _, rfl, by omega, hx, by simp, by unfold maxLen; omega, rfl, rfl⟩⟩, rfl, fun i v L h1 h2 => ?_⟩
    have h0 : i = 0 := by
      rcases Nat.eq_zero_or_pos i with h0 | h0
      · exact h0
      · rw [List.getElem?_eq_none (by simp; omega)] at h1; cases h1
    subst h0
    simp at h1 h2
    subst h1 h2
    exact ⟨_, _, rfl, (own_zeroO w).alloc _⟩
  have HL := Lib.hid L0
  have B0 := Lib.hid (show Below w.heap.size w ((w.alloc (.cells #[] 3)).alloc (.cells #[.slice (some ⟨w.heap.size, 0, none⟩) 0 0] 24)) from ((Below.refl _ _).alloc (Nat.le_refl _) _).alloc (by simp) _)
  clear L0
  go_enter Tryd.func62, Tryd.ntmps62
  go_wp2_with fail
  go_loopg [5, 13] wd (fun c v i wr => ∃ k : Nat, k + c = wd ∧ i = .int .i64 (k : Nat) ∧ LL wr w.heap.size v (listsK n k) ∧ Below w.heap.size w wr)
  case atStart => exact ⟨0, by omega, rfl, HL.out, B0.out⟩
  case round =>
    clear HL B0
    obtain ⟨wo, rfl⟩ : ∃ x, x = wr := ⟨wr, rfl⟩
    obtain ⟨k, hk, rfl, hll, hbl⟩ := hrel
    obtain ⟨Ls, hLs⟩ : ∃ Ls, Ls = listsK n k := ⟨_, rfl⟩
    rw [← hLs] at hll
    have hln : Ls.length = n ^ k := by rw [hLs]; exact listsK_len hn0 k
    by_cases hlt : k < wd
    · have h64 : n ^ k ≤ 64 := by
        have h1 : n ^ k ≤ 8 ^ k := Nat.pow_le_pow_left hn k
        have h2 : 8 ^ k ≤ 8 ^ 2 := Nat.pow_le_pow_right (by omega) (by omega)
        omega
      have hl64 : Ls.length ≤ 64 := by omega
      have hsucc : listsK n (k + 1) = Ls.flatMap (extL n) := by rw [hLs]; rfl
      obtain ⟨gA, cap0, rfl⟩ := hll.form
      obtain ⟨Bn, hBn⟩ : ∃ Bn, Bn = wo.heap.size := ⟨_, rfl⟩
      have Hll := Lib.hid hll
      have Hbl := Lib.hid hbl
      have Hsucc := Lib.hid hsucc
      have HLs := Lib.hid hLs
      have HBn := Lib.hid hBn
      have hls := hbl.size
      have Hls := Lib.hid hls
      clear hll hbl hsucc hLs hBn h64 hls hln
      have NL := Lib.hid (LL.new wo)
      have NB := Lib.hid ((Below.refl wo.heap.size wo).alloc (Nat.le_refl _) (.cells #[] 24))
      go_wp2_with fail
      go_loopg [6, 18] Ls.length (fun c v i wx => ∃ j : Nat, j + c = Ls.length ∧ i = .int .i64 (j : Nat) ∧ LL wx wo.heap.size v (flatK n Ls j 0) ∧ Below wo.heap.size wo wx)
      case atStart => exact ⟨0, by omega, rfl, by rw [flatK_zero]; exact NL.out, NB.out⟩
      case round =>
        clear NL NB
        obtain ⟨j, hj, rfl, hll, hbl⟩ := hrel
        have Nll := Lib.hid hll
        have Nbl := Lib.hid hbl
        clear hll hbl
        by_cases hjl : j < Ls.length
        · obtain ⟨g, cap, gi, ci, e1, hcl, hcell, hinn⟩ := (Hll.out.call Nbl.out).get hjl
          simp only [Value.slice.injEq, Option.some.injEq, Addr.mk.injEq, and_true, true_and] at e1
          obtain ⟨rfl, rfl⟩ := e1
          have j1 : (0 : Int) ≤ (j : Int) := by omega
          have j2 : (j : Int) < (Ls.length : Int) := by omega
          have hnx := fun x => flatK_succ n Ls j x
          have hnn := @flatK_next n Ls j hjl
          have hfl := fun x => @flatK_len n Ls j x (Nat.le_of_lt hjl)
          obtain ⟨L0, hL0⟩ : ∃ L0, L0 = Ls.getD j [] := ⟨_, rfl⟩
          simp only [← hL0] at hcell hinn hnx
          obtain ⟨lq, hlq⟩ : ∃ lq, L0.length = lq := ⟨_, rfl⟩
          rw [hlq] at hcell hinn
          have hlq3 : lq ≤ 3 := by
            have hm : L0 ∈ listsK n k := by rw [hL0, ← HLs.out, List.getD_eq_getElem?_getD, List.getElem?_eq_getElem hjl]; exact List.getElem_mem hjl
            have := (listsK_mem hn0 hm).1
            omega
          have Hinn := Lib.hid hinn
          have Hnx := Lib.hid hnx
          have Hnn := Lib.hid hnn
          have Hfl := Lib.hid hfl
          have Hlq := Lib.hid hlq
          have HL0 := Lib.hid hL0
          have hjn : j * n ≤ 63 * n := Nat.mul_le_mul_right n (by omega)
          have Hjn := Lib.hid (show j * n + n ≤ 600 by omega)
          clear hinn hnx hnn hfl hlq hL0 hjn
          go_wp2_with fail
          go_loopg [6, 23] n (fun c v i wy => ∃ x : Nat, x + c = n ∧ i = .int .i64 (x : Nat) ∧ LL wy wo.heap.size v (flatK n Ls j x) ∧ Below wo.heap.size wo wy ∧ Inn wy w.heap.size (.slice (some ⟨gi, 0, none⟩) lq ci) L0)
          case atStart => exact ⟨0, by omega, rfl, Nll.out, Nbl.out, Hinn.out⟩
          case round =>
            clear Nll Nbl Hinn hcell
            obtain ⟨wy, rfl⟩ : ∃ x, x = wr := ⟨wr, rfl⟩
            obtain ⟨x, hx, rfl, hll, hbl, hinn⟩ := hrel
            by_cases hxl : x < n
            · obtain ⟨⟨gn, cn, rfl⟩, vals, hrow, hins⟩ := hll
              have hfx := Hfl.out x
              have hL0 := LRow_of (show wy.ownsRow w.heap.size 3 1 (.slice (some ⟨gi, 0, none⟩) lq ci) lq (intsV (natsI L0)) from by obtain ⟨_, _, _, h2⟩ := hinn; rw [Hlq.out] at h2; exact h2)
              obtain ⟨FL, hFL⟩ : ∃ FL, FL = flatK n Ls j x := ⟨_, rfl⟩
              rw [← hFL] at hrow hins hfx ⊢
              obtain ⟨fl, hfl⟩ : ∃ fl, FL.length = fl := ⟨_, rfl⟩
              rw [hfl] at hfx hrow ⊢
              have hf600 : fl ≤ 600 := by have := Hjn.out; omega
              have x1 : (0 : Int) ≤ (x : Int) := by omega
              have Row := Lib.hid hrow
              have Ins := Lib.hid hins
              have Bl := Lib.hid hbl
              have In0 := Lib.hid hinn
              have HL0r := Lib.hid hL0
              have HFL := Lib.hid hFL
              have Hflen := Lib.hid hfl
              have hsz := hbl.size
              have Hsz := Lib.hid hsz
              clear hrow hins hbl hinn hL0 hFL hfl hsz hfx
              go_wp2_with (first | (at_builtin; refine wpList_append_own_at _ rfl (.tmp 27) (.tmp 28) 24 rfl wy.heap.size 3 i0 (.int .i64 0) 1 8 Tryd.underlying24 hi hz0 hz1 hz2 rfl (by decide) _ 0 [] rfl (own_zero wy) ⟨gi, 0, none⟩ lq _ (intsV (natsI L0)) rfl (by simp [intsV_len, natsI_len, Hlq.out]) (LRow.news (HL0r.out.alloc _)) (ints_oneCell .i64 _) (by unfold maxLen; omega) (by omega) (by simp) ?_; intro v1 w1 ho1 hg1 hnn hat1; clear hnn hat1; have O1 := Lib.hid (app_one ho1 hg1).1; have B2 := Lib.hid (app_one ho1 hg1).2; clear ho1 hg1) | (at_builtin; refine wpList_append_own_at _ rfl (.tmp 29) (.tmp 31) 24 rfl wy.heap.size 3 i0 (.int .i64 0) 1 8 Tryd.underlying24 hi hz0 hz1 hz2 rfl (by decide) _ lq (intsV (natsI L0)) rfl (O1.out.alloc _) ⟨w1.heap.size, 0, none⟩ 1 1 [.int .i64 (x : Nat)] rfl rfl (cell_one_new _ _ _) (ints_oneCell .i64 [((x : Nat) : Int)]) (by unfold maxLen; omega) (by omega) (by have := B2.out.size; simp; omega) ?_; intro v2 w2 ho2 hg2 hnn hat2; clear hnn hat2; obtain ⟨g2, cp2, rfl, hI2, hY2⟩ := app_twoI Hlq.out B2.out O1.out ho2 hg2; have I2 := Lib.hid hI2; have Y2 := Lib.hid hY2; have Row2 := Lib.hid (own_call Row.out hY2); have Bl2 := Lib.hid (Bl.out.trans (hY2.mono Bl.out.size)); clear ho2 hg2 hI2 hY2) | (at_builtin; refine wpList_append_own_at _ rfl (.tmp 26) (.tmp 33) 71 rfl wo.heap.size 24 i1 (.slice none 0 0) 1 24 Tryd.underlying71 hi' hz0' hz1' hz2' rfl (by decide) _ fl vals rfl (Row2.out.alloc _) ⟨w2.heap.size, 0, none⟩ 1 1 [.slice (some ⟨g2, 0, none⟩) (lq + 1) cp2] rfl rfl (cell_one_new _ _ _) (fun u hu => by simp at hu; subst hu; rfl) (by unfold maxLen; omega) (by omega) (by have := Bl2.out.size; simp; omega) ?_; intro v3 w3 ho3 hg3 hnn hat3; clear hnn hat3))
              go_roundg (n - x - 1)
              case rel =>
                refine ⟨x + 1, by omega, by go_num, ?_, (Bl2.out.alloc Bl2.out.size _).grown hg3 (by have := Bl2.out.size; simp; omega) (fun q hq => (Row2.out.lt q hq).1), ?_⟩
                · rw [Hnx.out x, ← HFL.out]
                  exact LL.push (by rw [Hflen.out]; exact Row2.out.alloc _) ((Ins.out.call Y2.out).call ((Below.refl _ _).alloc (Nat.le_refl _) _)) ((I2.out.base Bl.out.size).call ((Below.refl _ _).alloc (Nat.le_refl _) _)) (by rw [Hflen.out]; exact ho3) hg3
                · exact ((In0.out.call Y2.out).call ((Below.refl _ _).alloc (Nat.le_refl _) _)).grown (Row2.out.alloc _) hg3
              case measure => omega
            · obtain rfl : x = n := by omega
              have Bl := Lib.hid hbl
              have Lx := Lib.hid hll
              clear hbl hll hinn
              go_wp2_with fail
              go_roundg (Ls.length - j - 1)
              case rel => exact ⟨j + 1, by omega, by go_num, by rw [← Hnn.out]; exact Lx.out, Bl.out⟩
              case measure => omega
        · obtain rfl : j = Ls.length := by omega
          go_wp2_with fail
          go_roundg (wd - k - 1)
          case rel => exact ⟨k + 1, by omega, by go_num, by rw [Hsucc.out, ← flatK_all]; exact Nll.out.base Hls.out, Hbl.out.trans (Nbl.out.mono Hls.out)⟩
          case measure => omega
    · obtain rfl : k = wd := by omega
      have Hll := Lib.hid hll
      have Hbl := Lib.hid hbl
      have HLs := Lib.hid hLs
      clear hll hbl hLs hln
      go_wp2_with fail
      go_ret
      exact ⟨⟨_, rfl, by rw [← HLs.out]; exact Hll.out⟩, Hbl.out⟩

end Go.Proofs.YtebjanjobfiloaaDoor

namespace Go.Proofs.YtebjanjobfiloaaDoor
open Go.RowKit
open Pl
set_option linter.unusedSimpArgs false
set_option linter.unusedVariables false

noncomputable def ptB (i : Int) (s r f : ByteArray) (x : Int) : Bool := decide (0 ≤ x) && (decide (x ≤ 3) && rdyB i s r f x.toNat)
noncomputable def ptL (i : Int) (s r f : ByteArray) (x : Int) : List (List Nat) := if ptB i s r f x then (listsK (ofSt i s r).n x.toNat).filter (truV i s r f) else []
noncomputable def cntV (i : Int) (s r f : ByteArray) (x : Int) : Int := if ptB i s r f x then ((ptL i s r f x).length : Int) else -1
noncomputable def fstV (i : Int) (s r f : ByteArray) (x : Int) : List Nat := (ptL i s r f x).headD []
noncomputable def fstB (i : Int) (s r f : ByteArray) (x : Int) : Bool := ptB i s r f x && !(ptL i s r f x).isEmpty
noncomputable def sameV (i : Int) (s r f g : ByteArray) : Bool := (rdyB i s r f 3 && rdyB i s r g 3) && decide (ptL i s r f 3 = ptL i s r g 3)
theorem pt_neg {i : Int} {s r f : ByteArray} {x : Int} (h : ¬ 0 ≤ x) : ptB i s r f x = false := by unfold ptB; rw [decide_eq_false h]; rfl
theorem pt_big {i : Int} {s r f : ByteArray} {x : Int} (h : ¬ x ≤ 3) : ptB i s r f x = false := by unfold ptB; rw [decide_eq_false h]; simp
theorem pt_nat (i : Int) (s r f : ByteArray) {k : Nat} (h : k ≤ 3) : ptB i s r f (k : Nat) = rdyB i s r f k := by
  unfold ptB
  rw [decide_eq_true (show (0 : Int) ≤ (k : Nat) by omega), decide_eq_true (show ((k : Nat) : Int) ≤ 3 by omega)]
  rfl
theorem pt_cases {i : Int} {s r f : ByteArray} {x : Int} (h : ptB i s r f x = true) : ∃ k : Nat, x = (k : Nat) ∧ k ≤ 3 ∧ rdyB i s r f k = true := by
  unfold ptB at h
  simp only [Bool.and_eq_true, decide_eq_true_eq] at h
  refine ⟨x.toNat, by omega, by omega, h.2.2⟩
theorem ptL_no {i : Int} {s r f : ByteArray} {x : Int} (h : ptB i s r f x = false) : ptL i s r f x = [] := by unfold ptL; rw [h]; rfl
theorem ptL_yes {a : St} {f : ByteArray} {g : Fm} {k : Nat} (hf : f.data.toList = g.text) (h : ptB a.n (bs a.set) (bs a.rel) f (k : Nat) = true) : ptL a.n (bs a.set) (bs a.rel) f (k : Nat) = (listsK a.n k).filter fun l => g.holds a (envL l) := by
  unfold ptL
  rw [h]
  simp only [if_true, ofSt_eq]
  refine List.filter_congr fun l _ => ?_
  rw [tru_of hf]
theorem ptL_len (i : Int) (s r f : ByteArray) (x : Int) : ∀ l ∈ ptL i s r f x, l.length ≤ 3 := by
  intro l hl
  unfold ptL at hl
  split at hl
  · rename_i h
    obtain ⟨k, rfl, hk, hr⟩ := pt_cases h
    have hn : 0 < (ofSt i s r).n := by
      rcases ok_cases i s r with h1 | ⟨a, ha, rfl, rfl, rfl⟩
      · rw [rdy_noSt h1] at hr; cases hr
      · rw [ofSt_eq]; exact ha.lo
    have := (listsK_mem hn (List.mem_filter.1 hl).1).1
    simp at this
    omega
  · simp at hl
theorem fst_le (i : Int) (s r f : ByteArray) (x : Int) : (fstV i s r f x).length ≤ 8 := by
  unfold fstV
  cases h : ptL i s r f x with
  | nil => simp
  | cons l t =>
    have := ptL_len i s r f x l (by rw [h]; simp)
    simp; omega
/-- the lists so far -/
def ftK (P : List Nat → Bool) (Ls : List (List Nat)) (j : Nat) : List (List Nat) := (Ls.take j).filter P
theorem ftK_succ (P : List Nat → Bool) (Ls : List (List Nat)) (j : Nat) (hj : j < Ls.length) : ftK P Ls (j + 1) = if P (Ls.getD j []) then ftK P Ls j ++ [Ls.getD j []] else ftK P Ls j := by
  unfold ftK
  rw [List.take_add_one, List.getD_eq_getElem?_getD, List.getElem?_eq_getElem hj, List.filter_append]
  cases h : P Ls[j] <;> simp [h]
theorem ftK_all (P : List Nat → Bool) (Ls : List (List Nat)) : ftK P Ls Ls.length = Ls.filter P := by unfold ftK; rw [List.take_length]
theorem ftK_le (P : List Nat → Bool) (Ls : List (List Nat)) (j : Nat) : (ftK P Ls j).length ≤ Ls.length := by
  unfold ftK
  exact Nat.le_trans (List.length_filter_le _ _) (by simp; omega)

end Go.Proofs.YtebjanjobfiloaaDoor

namespace Go.Proofs.YtebjanjobfiloaaDoor
open Go.RowKit
open Pl
set_option linter.unusedSimpArgs false
set_option linter.unusedVariables false

attribute [local go_sem ↓] Go.wp_at_zero Go.wp_at_succ

set_option maxHeartbeats 4000000 in
set_option maxRecDepth 100000 in
theorem pointsOf_no (i : Int) (s r f : ByteArray) (x : Int) (w : World) (hs : s.size ≤ maxLen) (hr : r.size ≤ maxLen) (h : ptB i s r f x = false) :
    Calls Tryd.prog 47 #[stV i s r, .string f, .int .i64 x] w fun e w' => e = .returned (.tuple #[.slice none 0 0, .bool false]) ∧ Below w.heap.size w w' := by
  have HcI := fun W => isStructure_calls i s r W hs hr
  have B0 := Lib.hid (show Below w.heap.size w (w.alloc (.cells #[.int .i64 i, .string s, .string r] 28)) from (Below.refl _ _).alloc (Nat.le_refl _) _)
  have Xa := Lib.hid (Bx.new w 28 #[.int .i64 i, .string s, .string r])
  clear hs hr
  rcases fm_cases f with ⟨hb, hno⟩ | ⟨g, hb, hf, hs4, hl4⟩
  · have Hno := Lib.hid hno
    clear hb hno HcI h
    go_enter Tryd.func47, Tryd.ntmps47
    go_wp2_with fail
    refine (parseFormula_no f _ Hno.out).mono ?_
    rintro e w1 ⟨rfl, hz⟩
    have B1 := Lib.hid (B0.out.trans (hz.mono (by simp)))
    clear hz
    go_wp2_with fail
    go_ret2
    exact ⟨rfl, B1.out⟩
  have Hf := Lib.hid hf
  have Hb := Lib.hid hb
  have hfr : g.freeBits < 16 := freeBits_lt g
  clear hf hb
  cases hok : okB i s r
  case false =>
    simp only [hok] at HcI
    clear hok h
    have CI := Lib.hid HcI
    clear HcI
    go_enter Tryd.func47, Tryd.ntmps47
    go_wp2_with fail
    refine (parseFormula_yes f g _ hs4 Hf.out).mono ?_
    rintro e w1 ⟨b, rfl, htr, hz⟩
    have B1 := Lib.hid (B0.out.trans (hz.mono (by simp)))
    have X1 := Lib.hid (Xa.out.call hz)
    have T1 := Lib.hid htr
    clear hz htr
    obtain ⟨k0, k1, k2⟩ := box_load X1.out
    go_wp2_with fail
    refine (CI.out _).mono ?_
    rintro e w2 ⟨rfl, hz⟩
    have B2 := Lib.hid (B1.out.trans (hz.mono B1.out.size))
    have X2 := Lib.hid (X1.out.call hz)
    have T2 := Lib.hid (T1.out.below hz)
    have D2 := Lib.hid hz
    clear hz k0 k1 k2
    go_wp2_with fail
    go_ret2
    exact ⟨rfl, B2.out⟩
  case true =>
  simp only [hok] at HcI
  have CI := Lib.hid HcI
  clear HcI
  by_cases hx0 : 0 ≤ x
  case neg =>
    clear hok h
    go_enter Tryd.func47, Tryd.ntmps47
    go_wp2_with fail
    refine (parseFormula_yes f g _ hs4 Hf.out).mono ?_
    rintro e w1 ⟨b, rfl, htr, hz⟩
    have B1 := Lib.hid (B0.out.trans (hz.mono (by simp)))
    have X1 := Lib.hid (Xa.out.call hz)
    have T1 := Lib.hid htr
    clear hz htr
    obtain ⟨k0, k1, k2⟩ := box_load X1.out
    go_wp2_with fail
    refine (CI.out _).mono ?_
    rintro e w2 ⟨rfl, hz⟩
    have B2 := Lib.hid (B1.out.trans (hz.mono B1.out.size))
    have X2 := Lib.hid (X1.out.call hz)
    have T2 := Lib.hid (T1.out.below hz)
    have D2 := Lib.hid hz
    clear hz k0 k1 k2
    go_wp2_with fail
    go_ret2
    exact ⟨rfl, B2.out⟩
  case pos =>
  by_cases hx3 : x ≤ 3
  case neg =>
    clear hok h
    go_enter Tryd.func47, Tryd.ntmps47
    go_wp2_with fail
    refine (parseFormula_yes f g _ hs4 Hf.out).mono ?_
    rintro e w1 ⟨b, rfl, htr, hz⟩
    have B1 := Lib.hid (B0.out.trans (hz.mono (by simp)))
    have X1 := Lib.hid (Xa.out.call hz)
    have T1 := Lib.hid htr
    clear hz htr
    obtain ⟨k0, k1, k2⟩ := box_load X1.out
    go_wp2_with fail
    refine (CI.out _).mono ?_
    rintro e w2 ⟨rfl, hz⟩
    have B2 := Lib.hid (B1.out.trans (hz.mono B1.out.size))
    have X2 := Lib.hid (X1.out.call hz)
    have T2 := Lib.hid (T1.out.below hz)
    have D2 := Lib.hid hz
    clear hz k0 k1 k2
    go_wp2_with fail
    go_ret2
    exact ⟨rfl, B2.out⟩
  case pos =>
  obtain ⟨k, rfl⟩ : ∃ k : Nat, x = (k : Nat) := ⟨x.toNat, by omega⟩
  obtain ⟨a, ha, rfl, rfl, rfl⟩ := st_of hok
  rw [pt_nat _ _ _ _ (by omega), rdy_of Hb.out Hf.out ha k] at h
  have hne : ((g.freeBits : Int) / 2 ^ k != 0) = true := by rw [div_nat, bne_iff_ne]; have := of_decide_eq_false h; omega
  clear hok h
  go_enter Tryd.func47, Tryd.ntmps47
  go_wp2_with fail
  refine (parseFormula_yes f g _ hs4 Hf.out).mono ?_
  rintro e w1 ⟨b, rfl, htr, hz⟩
  have B1 := Lib.hid (B0.out.trans (hz.mono (by simp)))
  have X1 := Lib.hid (Xa.out.call hz)
  have T1 := Lib.hid htr
  clear hz htr
  obtain ⟨k0, k1, k2⟩ := box_load X1.out
  go_wp2_with fail
  refine (CI.out _).mono ?_
  rintro e w2 ⟨rfl, hz⟩
  have B2 := Lib.hid (B1.out.trans (hz.mono B1.out.size))
  have X2 := Lib.hid (X1.out.call hz)
  have T2 := Lib.hid (T1.out.below hz)
  have D2 := Lib.hid hz
  clear hz k0 k1 k2
  obtain ⟨_, _, _, _, _, _, hc3, _⟩ := node_cells T2.out
  go_wp2_with fail
  go_ret2
  exact ⟨rfl, B2.out⟩

set_option maxHeartbeats 4000000 in
set_option maxRecDepth 100000 in
theorem pointsOf_yes (i : Int) (s r f : ByteArray) (x : Int) (w : World) (hs : s.size ≤ maxLen) (hr : r.size ≤ maxLen) (h : ptB i s r f x = true) :
    Calls Tryd.prog 47 #[stV i s r, .string f, .int .i64 x] w fun e w' => (∃ v, e = .returned (.tuple #[v, .bool true]) ∧ LL w' w.heap.size v (ptL i s r f x)) ∧ Below w.heap.size w w' := by
  obtain ⟨i1, hi', hz0', hz1', hz2'⟩ := info_parts (P := Tryd.prog) (e := 24) (z := .slice none 0 0) (size := 1) (bytes := 24) (by kernel_rfl)
  have HcI := fun W => isStructure_calls i s r W hs hr
  have B0 := Lib.hid (show Below w.heap.size w (w.alloc (.cells #[.int .i64 i, .string s, .string r] 28)) from (Below.refl _ _).alloc (Nat.le_refl _) _)
  have Xa := Lib.hid (Bx.new w 28 #[.int .i64 i, .string s, .string r])
  clear hs hr
  obtain ⟨k, rfl, hk3, hry⟩ := pt_cases h
  rcases fm_cases f with ⟨hb, hno⟩ | ⟨g, hb, hf, hs4, hl4⟩
  · rw [rdy_noFm hb] at hry; cases hry
  cases hok : okB i s r
  case false => rw [rdy_noSt hok] at hry; cases hry
  case true =>
  simp only [hok] at HcI
  have CI := Lib.hid HcI
  obtain ⟨a, ha, rfl, rfl, rfl⟩ := st_of hok
  rw [ptL_yes hf h]
  rw [rdy_of hb hf ha k] at hry
  have heq : (g.freeBits : Int) / 2 ^ k = 0 := by rw [div_nat]; have := of_decide_eq_true hry; omega
  have hfr : g.freeBits < 16 := freeBits_lt g
  have hk0 : (0 : Int) ≤ (k : Int) := by omega
  have hk3i : (k : Int) ≤ 3 := by omega
  have h8 := ha.hi
  have hlo := ha.lo
  have Hf := Lib.hid hf
  obtain ⟨PP, hPP⟩ : ∃ PP : List Nat → Bool, PP = fun l => g.holds a (envL l) := ⟨_, rfl⟩
  rw [← hPP]
  have HPP := Lib.hid hPP
  obtain ⟨Ls, hLs⟩ : ∃ Ls, Ls = listsK a.n k := ⟨_, rfl⟩
  rw [← hLs]
  have hmem : ∀ l ∈ Ls, l.length = k ∧ ∀ y ∈ l, y < a.n := fun l hl => listsK_mem hlo (by rw [← hLs]; exact hl)
  have hl512 : Ls.length ≤ 512 := by
    rw [hLs, listsK_len hlo]
    have h1 : a.n ^ k ≤ 8 ^ k := Nat.pow_le_pow_left h8 k
    have h2 : 8 ^ k ≤ 8 ^ 3 := Nat.pow_le_pow_right (by omega) hk3
    omega
  have cl := fun W => listsOf_calls a.n k hlo h8 hk3 W
  simp only [← hLs] at cl
  have CLs := Lib.hid cl
  have Hmem := Lib.hid hmem
  clear HcI hok h hry hb hf hPP hLs hmem cl hl4
  go_enter Tryd.func47, Tryd.ntmps47
  go_wp2_with fail
  refine (parseFormula_yes f g _ hs4 Hf.out).mono ?_
  rintro e w1 ⟨b, rfl, htr, hz⟩
  have B1 := Lib.hid (B0.out.trans (hz.mono (by simp)))
  have X1 := Lib.hid (Xa.out.call hz)
  have T1 := Lib.hid htr
  clear hz htr
  obtain ⟨k0, k1, k2⟩ := box_load X1.out
  go_wp2_with fail
  refine (CI.out _).mono ?_
  rintro e w2 ⟨rfl, hz⟩
  have B2 := Lib.hid (B1.out.trans (hz.mono B1.out.size))
  have X2 := Lib.hid (X1.out.call hz)
  have T2 := Lib.hid (T1.out.below hz)
  have D2 := Lib.hid hz
  clear hz k0 k1 k2
  obtain ⟨_, _, _, _, _, _, hc3, _⟩ := node_cells T2.out
  obtain ⟨k0, k1, k2⟩ := box_load X2.out
  go_wp2_with fail
  refine (newHolder_calls (w.alloc (.cells #[.int .i64 (a.n : Int), .string (bs a.set), .string (bs a.rel)] 28)).heap.size w1 a w2 D2.out).mono ?_
  rintro e w3 ⟨rfl, hW, hz⟩
  have B3 := Lib.hid ((B2.out.trans (hz.mono B2.out.size)).alloc (B2.out.trans (hz.mono B2.out.size)).size (.cells #[] 24))
  have X3 := Lib.hid ((X2.out.call hz).alloc (.cells #[] 24))
  have W3 := Lib.hid (hW.alloc (.cells #[] 24))
  have Hlt3 := Lib.hid hW.box.lt
  have HS23 := Lib.hid B2.out.size
  have HS3 := Lib.hid (show w.heap.size ≤ w3.heap.size from Nat.le_trans B2.out.size hz.size)
  have N3 := Lib.hid (LL.new w3)
  clear hz k0 k1 k2 hc3 hW
  generalize hhb : w2.heap.size + 1 = hb at *
  have Hhb := Lib.hid hhb
  clear hhb
  obtain ⟨k0, k1, k2⟩ := box_load X3.out
  go_wp2_with fail
  refine (CLs.out _).mono ?_
  rintro e w4 ⟨⟨v4, rfl, hL4⟩, hz⟩
  have B4 := Lib.hid (B3.out.trans (hz.mono B3.out.size))
  have W4 := Lib.hid (W3.out.call hz)
  have N4 := Lib.hid (N3.out.call hz)
  have L4 := Lib.hid hL4
  have A4 := Lib.hid (show Apart v4 (.slice (some ⟨w3.heap.size, 0, none⟩) 0 0) from Apart.symm (Apart.new N3.out.2.choose_spec.1 hL4.2.choose_spec.1 (Nat.le_refl _)))
  have S4 := Lib.hid (show w3.heap.size ≤ w4.heap.size from by have := hz.size; simp at this; omega)
  clear hz k0 k1 k2 hL4
  obtain ⟨gl, cl, rfl⟩ := L4.out.form
  go_wp2_with fail
  go_loopg [10, 47] Ls.length (fun c o xi wr => ∃ j : Nat, j + c = Ls.length ∧ xi = .int .i64 (j : Nat) ∧ LL wr w3.heap.size o (ftK PP Ls j) ∧ LL wr (w3.heap.size + 1) (.slice (some ⟨gl, 0, none⟩) Ls.length cl) Ls ∧ Apart (.slice (some ⟨gl, 0, none⟩) Ls.length cl) o ∧ HoldW (w.alloc (.cells #[.int .i64 (a.n : Int), .string (bs a.set), .string (bs a.rel)] 28)).heap.size w1 a hb wr ∧ Below w.heap.size w wr)
  case atStart => exact ⟨0, by omega, rfl, N4.out, by have := L4.out; rwa [World.size_alloc] at this, A4.out, W4.out, B4.out⟩
  case round =>
    clear N4 L4 A4 W4 B4 N3 X3 W3
    obtain ⟨j, hj, rfl, ho, hl, hap, hWr, hbl⟩ := hrel
    have Hl := Lib.hid hl
    have Hap := Lib.hid hap
    have HWr := Lib.hid hWr
    have Hbl := Lib.hid hbl
    clear hl hap hWr hbl
    by_cases hjl : j < Ls.length
    · obtain ⟨g1, c1, gi, ci, e1, hcl, hcell, hinn⟩ := Hl.out.get hjl
      simp only [Value.slice.injEq, Option.some.injEq, Addr.mk.injEq, and_true, true_and] at e1
      obtain ⟨rfl, rfl⟩ := e1
      have j1 : (0 : Int) ≤ (j : Int) := by omega
      have j2 : (j : Int) < (Ls.length : Int) := by omega
      have hsucc := ftK_succ PP Ls j hjl
      have hle := ftK_le PP Ls j
      obtain ⟨L0, hL0⟩ : ∃ L0, L0 = Ls.getD j [] := ⟨_, rfl⟩
      have hm0 := Hmem.out L0 (by rw [hL0, List.getD_eq_getElem?_getD, List.getElem?_eq_getElem hjl]; exact List.getElem_mem hjl)
      simp only [← hL0] at hcell hinn hsucc
      obtain ⟨FK, hFK⟩ : ∃ FK, FK = ftK PP Ls j := ⟨_, rfl⟩
      rw [← hFK] at ho hsucc hle
      obtain ⟨⟨go, co, rfl⟩, vals, hrow, hins⟩ := ho
      obtain ⟨fl, hfl⟩ : ∃ fl, FK.length = fl := ⟨_, rfl⟩
      rw [hfl] at hrow hle Hap
      have hL0l : L0.length = k := hm0.1
      rw [hL0l] at hcell hinn
      have hLR := LRow_of (show wr.ownsRow (w3.heap.size + 1) 3 1 (.slice (some ⟨gi, 0, none⟩) k ci) k (intsV (natsI L0)) from by obtain ⟨_, _, _, h2⟩ := hinn; rw [hL0l] at h2; exact h2)
      have hcall := holds_calls (w.alloc (.cells #[.int .i64 (a.n : Int), .string (bs a.set), .string (bs a.rel)] 28)).heap.size w1 a ha hb g b L0 (some ⟨gi, 0, none⟩) ci wr T1.out hm0.2 (by omega) hLR HWr.out
      rw [show g.holds a (envL L0) = PP L0 by rw [HPP.out], hL0l] at hcall
      have HC := Lib.hid hcall
      have Row := Lib.hid hrow
      have Ins := Lib.hid hins
      have In0 := Lib.hid hinn
      have Hfl := Lib.hid hfl
      have HFK := Lib.hid hFK
      have Hsucc := Lib.hid hsucc
      clear hcall hrow hins hinn hfl hFK hsucc hL0 hm0 hLR hL0l
      rw [Hfl.out]
      cases hq : PP L0 with
      | false =>
        rw [hq] at HC
        have hs2 := Hsucc.out
        rw [hq] at hs2
        have Hs2 := Lib.hid hs2
        clear hs2 hq
        go_wp2_with fail
        refine (HC.out).mono ?_
        rintro e w5 ⟨rfl, hW5, hF⟩
        have W5 := Lib.hid hW5
        have F5 := Lib.hid (Hbl.out.trans (hF.below.mono (by have := HS23.out; have := Hhb.out; omega)))
        have L5 := Lib.hid (Hl.out.fz hF)
        have O5 := Lib.hid (show LL w5 w3.heap.size (.slice (some ⟨go, 0, none⟩) fl co) FK from LL.fz ⟨⟨_, _, by rw [Hfl.out]⟩, vals, by rw [Hfl.out]; exact Row.out, Ins.out⟩ hF)
        clear hW5 hF hcell
        go_wp2_with fail
        go_roundg (Ls.length - j - 1)
        case rel => exact ⟨j + 1, by omega, by go_num, by rw [Hs2.out]; exact O5.out, L5.out, Hap.out, W5.out, F5.out⟩
        case measure => omega
      | true =>
        rw [hq] at HC
        have hs2 := Hsucc.out
        rw [hq] at hs2
        have Hs2 := Lib.hid hs2
        clear hs2 hq
        go_wp2_with fail
        refine (HC.out).mono ?_
        rintro e w5 ⟨rfl, hW5, hF⟩
        have W5 := Lib.hid hW5
        have F5 := Lib.hid (Hbl.out.trans (hF.below.mono (by have := HS23.out; have := Hhb.out; omega)))
        have L5 := Lib.hid (Hl.out.fz hF)
        have R5 := Lib.hid (own_fz Row.out hF)
        have I5 := Lib.hid (show Inns w5 w3.heap.size vals FK from (show LL w5 w3.heap.size (.slice (some ⟨go, 0, none⟩) fl co) FK from LL.fz ⟨⟨_, _, by rw [Hfl.out]⟩, vals, by rw [Hfl.out]; exact Row.out, Ins.out⟩ hF) |> fun _ => ⟨Ins.out.1, fun q v L h1 h2 => (Ins.out.2 q v L h1 h2).fz hF⟩)
        have Z5 := Lib.hid (show Inn w5 w3.heap.size (.slice (some ⟨gi, 0, none⟩) k ci) L0 from (In0.out.fz hF).base (by omega))
        have S5 := Lib.hid (show w3.heap.size ≤ w5.heap.size from by have := (R5.out.lt go rfl); omega)
        clear hW5 hF
        have hcell5 := hcell
        clear hcell hcell5
        go_wp2_with (at_builtin; refine wpList_append_own_at _ rfl (.tmp 55) (.tmp 57) 71 rfl w3.heap.size 24 i1 (.slice none 0 0) 1 24 Tryd.underlying71 hi' hz0' hz1' hz2' rfl (by decide) _ fl vals rfl (R5.out.alloc _) ⟨w5.heap.size, 0, none⟩ 1 1 [.slice (some ⟨gi, 0, none⟩) k ci] rfl rfl (cell_one_new _ _ _) (fun u hu => by simp at hu; subst hu; rfl) (by unfold maxLen; omega) (by omega) (by have := S5.out; simp; omega) ?_; intro v6 w6 ho6 hg6 hnn hat6; clear hnn; have W6 := Lib.hid ((W5.out.alloc _).own (R5.out.alloc _) (by have := Hlt3.out; omega) hg6); have A6 := Lib.hid hat6; clear hat6)
        go_roundg (Ls.length - j - 1)
        case rel =>
          refine ⟨j + 1, by omega, by go_num, ?_, ?_, ?_, W6.out, ?_⟩
          · rw [Hs2.out]
            exact LL.push (W := w5.alloc (.cells #[.slice (some ⟨gi, 0, none⟩) k ci] 24)) (v := .slice (some ⟨go, 0, none⟩) fl co) (by rw [Hfl.out]; exact R5.out.alloc _) (I5.out.call ((Below.refl _ _).alloc (Nat.le_refl _) _)) (Z5.out.call ((Below.refl _ _).alloc (Nat.le_refl _) _)) (by rw [Hfl.out]; exact ho6) hg6
          · exact (L5.out.alloc _).others (R5.out.alloc _) hg6 Hap.out
          · exact Hap.out.next (L5.out.alloc _).2.choose_spec.1 (Nat.le_refl _) A6.out
          · exact (F5.out.alloc F5.out.size _).grown hg6 (by have := F5.out.size; simp; omega) (fun q hq => by have h1 := (R5.out.lt q hq).1; have h2 := HS3.out; omega)
        case measure => omega
    · obtain rfl : j = Ls.length := by omega
      obtain ⟨go, co, rfl⟩ := ho.form
      have Ho := Lib.hid ho
      clear ho
      go_wp2_with fail
      go_ret2
      exact ⟨⟨_, rfl, by rw [← ftK_all]; exact Ho.out.base HS3.out⟩, Hbl.out⟩

set_option maxRecDepth 100000 in
set_option maxHeartbeats 1000000 in
theorem CountPoints_impl (i : Int) (s r f : ByteArray) (x : Int) (w : World) (hs : s.size ≤ maxLen) (hr : r.size ≤ maxLen) :
    Calls Tryd.prog 25 #[stV i s r, .string f, .int .i64 x] w fun e w' => e = .returned (.int .i64 (cntV i s r f x)) ∧ Below w.heap.size w w' := by
  have B0 := Lib.hid (show Below w.heap.size w (w.alloc (.cells #[.int .i64 i, .string s, .string r] 28)) from (Below.refl _ _).alloc (Nat.le_refl _) _)
  obtain ⟨k0, k1, k2⟩ := box_load (Bx.new w 28 #[.int .i64 i, .string s, .string r])
  unfold cntV
  cases hp : ptB i s r f x
  case false =>
    have CP := Lib.hid (fun W => pointsOf_no i s r f x W hs hr hp)
    clear hs hr hp
    go_enter Tryd.func25, Tryd.ntmps25
    go_wp2_with fail
    refine (CP.out _).mono ?_
    rintro e w1 ⟨rfl, hz⟩
    have B1 := Lib.hid (B0.out.trans (hz.mono B0.out.size))
    clear hz k0 k1 k2
    go_wp2_with fail
    go_ret
    exact ⟨rfl, B1.out⟩
  case true =>
    have CP := Lib.hid (fun W => pointsOf_yes i s r f x W hs hr hp)
    clear hs hr hp
    go_enter Tryd.func25, Tryd.ntmps25
    go_wp2_with fail
    refine (CP.out _).mono ?_
    rintro e w1 ⟨⟨v, rfl, hL⟩, hz⟩
    have B1 := Lib.hid (B0.out.trans (hz.mono B0.out.size))
    obtain ⟨gl, cl, rfl⟩ := hL.form
    clear hz k0 k1 k2 hL
    go_wp2_with fail
    go_ret
    exact ⟨rfl, B1.out⟩

set_option maxRecDepth 100000 in
set_option maxHeartbeats 1000000 in
theorem FirstPoint_impl (i : Int) (s r f : ByteArray) (x : Int) (w : World) (hs : s.size ≤ maxLen) (hr : r.size ≤ maxLen) :
    Calls Tryd.prog 29 #[stV i s r, .string f, .int .i64 x] w fun e w' => (∃ v, e = .returned (.tuple #[v, .bool (fstB i s r f x)]) ∧ w'.ownsRow w.heap.size 3 1 v (fstV i s r f x).length (intsV (natsI (fstV i s r f x)))) ∧ Below w.heap.size w w' := by
  have B0 := Lib.hid (show Below w.heap.size w (w.alloc (.cells #[.int .i64 i, .string s, .string r] 28)) from (Below.refl _ _).alloc (Nat.le_refl _) _)
  obtain ⟨k0, k1, k2⟩ := box_load (Bx.new w 28 #[.int .i64 i, .string s, .string r])
  unfold fstB fstV
  cases hp : ptB i s r f x
  case false =>
    rw [ptL_no hp]
    have CP := Lib.hid (fun W => pointsOf_no i s r f x W hs hr hp)
    clear hs hr hp
    go_enter Tryd.func29, Tryd.ntmps29
    go_wp2_with fail
    refine (CP.out _).mono ?_
    rintro e w1 ⟨rfl, hz⟩
    have B1 := Lib.hid (B0.out.trans (hz.mono B0.out.size))
    clear hz k0 k1 k2
    go_wp2_with fail
    go_ret2
    exact ⟨⟨_, rfl, rfl, .inl ⟨rfl, rfl⟩⟩, B1.out⟩
  case true =>
    have cp := fun W => pointsOf_yes i s r f x W hs hr hp
    clear hs hr hp
    obtain ⟨Q, hQ⟩ : ∃ Q, Q = ptL i s r f x := ⟨_, rfl⟩
    simp only [← hQ] at cp
    rw [← hQ]
    have CP := Lib.hid cp
    clear cp hQ
    go_enter Tryd.func29, Tryd.ntmps29
    go_wp2_with fail
    refine (CP.out _).mono ?_
    rintro e w1 ⟨⟨v, rfl, hL⟩, hz⟩
    have B1 := Lib.hid (B0.out.trans (hz.mono B0.out.size))
    cases Q with
    | nil =>
      obtain ⟨gl, cl, rfl⟩ := hL.form
      clear hz k0 k1 k2 hL
      simp only [List.length_nil]
      go_wp2_with fail
      go_ret2
      exact ⟨⟨_, rfl, rfl, .inl ⟨rfl, rfl⟩⟩, B1.out⟩
    | cons l t =>
      obtain ⟨gl, cl, gi, ci, rfl, hcl, hcell, hinn⟩ := hL.get (k := 0) (by simp)
      simp only [List.getD_cons_zero] at hcell hinn
      have In0 := Lib.hid hinn
      have hsz : ((l :: t).length : Int) = (t.length : Int) + 1 := by simp
      obtain ⟨ln, hln⟩ : ∃ ln, ln = (l :: t).length := ⟨_, rfl⟩
      rw [← hln]
      have hpos : (0 : Int) < (ln : Int) := by rw [hln]; simp only [List.length_cons]; omega
      have hne : ((ln : Int) == 0) = false := by rw [beq_eq_false_iff_ne]; omega
      clear hz k0 k1 k2 hL hinn hln hsz
      go_wp2_with fail
      go_ret2
      obtain ⟨_, _, _, h2⟩ := In0.out
      exact ⟨⟨_, rfl, own_base h2 (by have := B0.out.size; omega)⟩, B1.out⟩

end Go.Proofs.YtebjanjobfiloaaDoor

namespace Go.Proofs.YtebjanjobfiloaaDoor
open Go.RowKit
open Pl
set_option linter.unusedSimpArgs false
set_option linter.unusedVariables false

/-- the places from the last one on -/
def ptE (n w k j : Nat) : Env := fun v => if v.val < w ∧ w ≤ v.val + j then (k / n ^ (w - 1 - v.val)) % n else 0
theorem ptE_zero (n w k : Nat) (v : Fin 4) : ptE n w k 0 v = 0 := by
  unfold ptE
  rw [if_neg (by omega)]
theorem ptE_succ {n w k j p : Nat} (hp : p < 4) (h : j + p + 1 = w) : upd (ptE n w k j) ⟨p, hp⟩ ((k / n ^ j) % n) = ptE n w k (j + 1) := by
  funext u
  unfold upd ptE
  by_cases hu : u = ⟨p, hp⟩
  · subst hu
    rw [if_pos rfl, if_pos (by constructor <;> (simp only; omega))]
    have : w - 1 - p = j := by omega
    simp only [this]
  · have : u.val ≠ p := fun e => hu (Fin.ext e)
    rw [if_neg hu]
    by_cases h2 : u.val < w ∧ w ≤ u.val + j
    · rw [if_pos h2, if_pos (by omega)]
    · rw [if_neg h2, if_neg (by omega)]
theorem ptE_all {n : Nat} (hn : 0 < n) (w k : Nat) : ptE n w k w = envL (ptK n w k) := by
  funext u
  unfold ptE envL
  by_cases h : u.val < w
  · rw [if_pos (by omega), ptK_get hn w k u.val h]
  · rw [if_neg (by omega), List.getD_eq_getElem?_getD, List.getElem?_eq_none (by rw [ptK_len]; omega)]; rfl
/-- how many of the first j lists -/
def cntK (P : List Nat → Bool) (n w j : Nat) : Nat := (((List.range j).map (ptK n w)).filter P).length
theorem cntK_succ (P : List Nat → Bool) (n w j : Nat) : cntK P n w (j + 1) = if P (ptK n w j) then cntK P n w j + 1 else cntK P n w j := by
  unfold cntK
  rw [List.range_succ, List.map_append, List.filter_append, List.length_append]
  cases h : P (ptK n w j) <;> simp [h]
theorem cntK_all {n : Nat} (hn : 0 < n) (P : List Nat → Bool) (w : Nat) : cntK P n w (n ^ w) = ((listsK n w).filter P).length := by unfold cntK; rw [listsK_eq hn]
theorem cntK_le (P : List Nat → Bool) (n w j : Nat) : cntK P n w j ≤ j := by
  unfold cntK
  exact Nat.le_trans (List.length_filter_le _ _) (by simp)
theorem first_at {n : Nat} (hn : 0 < n) {P : List Nat → Bool} {w j : Nat} (hj : j < n ^ w) (h0 : ∀ i, i < j → P (ptK n w i) = false) (h1 : P (ptK n w j) = true) : ∃ t, (listsK n w).filter P = ptK n w j :: t := by
  rw [listsK_eq hn, show n ^ w = j + (n ^ w - j) by omega, List.range_add, List.map_append, List.filter_append]
  have e1 : ((List.range j).map (ptK n w)).filter P = [] := by
    rw [List.filter_eq_nil_iff]
    intro l hl
    obtain ⟨i, hi, rfl⟩ := List.mem_map.1 hl
    rw [h0 i (List.mem_range.1 hi)]; simp
  rw [e1, List.nil_append, show n ^ w - j = (n ^ w - j - 1) + 1 by omega, List.range_succ_eq_map]
  simp [h1]
theorem first_none {n : Nat} (hn : 0 < n) {P : List Nat → Bool} {w : Nat} (h0 : ∀ i, i < n ^ w → P (ptK n w i) = false) : (listsK n w).filter P = [] := by
  rw [listsK_eq hn, List.filter_eq_nil_iff]
  intro l hl
  obtain ⟨i, hi, rfl⟩ := List.mem_map.1 hl
  rw [h0 i (List.mem_range.1 hi)]; simp
theorem same_all {n : Nat} (hn : 0 < n) {P Q : List Nat → Bool} {w : Nat} (h0 : ∀ i, i < n ^ w → P (ptK n w i) = Q (ptK n w i)) : (listsK n w).filter P = (listsK n w).filter Q := by
  rw [listsK_eq hn]
  refine List.filter_congr fun l hl => ?_
  obtain ⟨i, hi, rfl⟩ := List.mem_map.1 hl
  exact h0 i (List.mem_range.1 hi)
theorem same_not {n : Nat} (hn : 0 < n) {P Q : List Nat → Bool} {w j : Nat} (hj : j < n ^ w) (h : P (ptK n w j) ≠ Q (ptK n w j)) : (listsK n w).filter P ≠ (listsK n w).filter Q := by
  intro e
  have hm : ptK n w j ∈ listsK n w := by rw [listsK_eq hn]; exact List.mem_map.2 ⟨j, List.mem_range.2 hj, rfl⟩
  have h1 : ptK n w j ∈ (listsK n w).filter P ↔ ptK n w j ∈ (listsK n w).filter Q := by rw [e]
  rw [List.mem_filter, List.mem_filter] at h1
  apply h
  rw [Bool.eq_iff_iff]
  exact ⟨fun hp => (h1.1 ⟨hm, hp⟩).2, fun hq => (h1.2 ⟨hm, hq⟩).2⟩

end Go.Proofs.YtebjanjobfiloaaDoor
