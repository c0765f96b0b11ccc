/-
  makeStructure, the closures given by their contracts. Condition: at most eight elements.
-/
import Derived.Test.YtgnmlijfenjehaaDoorIn
import Derived.Deep.RegionHeld3
import Derived.Deep.RegionWith
import Derived.RegionTactic
import Derived.Deep.DrawnRows
import Derived.Deep.LoopGhost
import Derived.Deep.DeepCutAuto
namespace Go.Proofs.YtgnmlijfenjehaaDoor
open Go.RowKit
open Pl
set_option linter.unusedSimpArgs false
set_option linter.unusedVariables false

theorem bitOf_calls (b : Bool) (w : World) : Calls Tryd.prog 96 #[.bool b] w fun e w' => e = .returned (.string (bs [bitB b])) ∧ w = w' := by
  cases b
  all_goals
    go_enter Tryd.func96, Tryd.ntmps96
    go_wp2_with fail
    go_ret
    exact ⟨rfl, rfl⟩

theorem l1Bit_calls (b : Bool) (w : World) : Calls Tryd.prog 86 #[.bool b] w fun e w' => e = .returned (.string (bs [bitB b])) ∧ w = w' := by
  cases b
  all_goals
    go_enter Tryd.func86, Tryd.ntmps86
    go_wp2_with fail
    go_ret
    exact ⟨rfl, rfl⟩

/-- the set's bits up to k, the relation's bits up to row k, up to place j of row k -/
def setTo (f : Nat → Bool) (k : Nat) : List UInt8 := (List.range k).map fun x => bitB (f x)
def relTo (n : Nat) (g : Nat → Nat → Bool) (k : Nat) : List UInt8 := (List.range k).flatMap fun x => (List.range n).map fun y => bitB (g x y)
def relAt (n : Nat) (g : Nat → Nat → Bool) (k j : Nat) : List UInt8 := relTo n g k ++ (List.range j).map fun y => bitB (g k y)

theorem setTo_succ (f : Nat → Bool) (k : Nat) : setTo f (k + 1) = setTo f k ++ [bitB (f k)] := by simp [setTo, List.range_succ]
theorem relAt_succ (n : Nat) (g : Nat → Nat → Bool) (k j : Nat) : relAt n g k (j + 1) = relAt n g k j ++ [bitB (g k j)] := by simp [relAt, List.range_succ]
theorem relAt_zero (n : Nat) (g : Nat → Nat → Bool) (k : Nat) : relAt n g k 0 = relTo n g k := by simp [relAt]
theorem relTo_succ (n : Nat) (g : Nat → Nat → Bool) (k : Nat) : relTo n g (k + 1) = relAt n g k n := by simp [relTo, relAt, List.range_succ]
theorem setTo_len (f : Nat → Bool) (k : Nat) : (setTo f k).length = k := by simp [setTo]
theorem relTo_len (n : Nat) (g : Nat → Nat → Bool) (k : Nat) : (relTo n g k).length = k * n := (flat_get (fun x y => bitB (g x y)) k).1
theorem relAt_len (n : Nat) (g : Nat → Nat → Bool) (k j : Nat) : (relAt n g k j).length = k * n + j := by simp [relAt, relTo_len]

theorem enter_of {P : Program} {F : FuncId} {fn : Func} (hf : P.funcs[F]? = some fn) (hn : (fn.name == "runtime.NumGoroutine") = false) (hb : fn.body.isNone = false) : ∀ (args : Array Value) (w : World), (callFunc F args).run P w = .ok (.enter F args) w := by
  intro args w
  have hn2 : ¬ fn.name = "runtime.NumGoroutine" := beq_eq_false_iff_ne.1 hn
  have hb2 : ¬ fn.body = none := by intro e; rw [e] at hb; cases hb
  simp [callFunc, hf, hn2, hb2]

/-- a block that is known whole -/
def Bx (w : World) (g : Nat) (t : TypeId) (cs : Array Value) : Prop := w.heap[g]? = some (.cells cs t (0, 0))

theorem Bx.lt {w : World} {g : Nat} {t : TypeId} {cs : Array Value} (h : Bx w g t cs) : g < w.heap.size := by
  rcases Nat.lt_or_ge g w.heap.size with h1 | h1
  · exact h1
  · unfold Bx at h; rw [Array.getElem?_eq_none h1] at h; cases h
theorem Bx.cell {w : World} {g : Nat} {t : TypeId} {cs : Array Value} (h : Bx w g t cs) (i : Nat) : w.cell? ⟨g, i, none⟩ = cs[i]? := by
  unfold Bx at h; simp [World.cell?, h]
theorem Bx.free {w : World} {g : Nat} {t : TypeId} {cs : Array Value} (h : Bx w g t cs) (i : Nat) : w.frozen? ⟨g, i, none⟩ = false := by
  unfold Bx at h; simp [World.frozen?, h]
theorem Bx.new (w : World) (t : TypeId) (cs : Array Value) : Bx (w.alloc (.cells cs t)) w.heap.size t cs := heap_alloc_new w _
theorem bx_two (w : World) (o : Obj) (cs : Array Value) {t : TypeId} : Bx ((w.alloc o).alloc (.cells cs t)) (w.heap.size + 1) t cs := by
  have h := Bx.new (w.alloc o) t cs
  rwa [World.size_alloc] at h
theorem Bx.alloc {w : World} {g : Nat} {t : TypeId} {cs : Array Value} (h : Bx w g t cs) (o : Obj) : Bx (w.alloc o) g t cs := (Below.heap_alloc w o g h.lt).trans h
theorem Bx.drew {w : World} {g : Nat} {t : TypeId} {cs : Array Value} (h : Bx w g t cs) : Bx w.drew g t cs := h
theorem Bx.drewN {w : World} {g : Nat} {t : TypeId} {cs : Array Value} (h : Bx w g t cs) (k : Nat) : Bx (w.drewN k) g t cs := h
theorem Bx.below {w w' : World} {g B : Nat} {t : TypeId} {cs : Array Value} (h : Bx w g t cs) (hb : Below B w w') (hg : g < B) : Bx w' g t cs := (hb.block g hg).trans h
theorem Bx.call {w w' : World} {g : Nat} {t : TypeId} {cs : Array Value} (h : Bx w g t cs) (hb : Below w.heap.size w w') : Bx w' g t cs := h.below hb h.lt
theorem Bx.set {w : World} {g : Nat} {t : TypeId} {cs : Array Value} (h : Bx w g t cs) (i : Nat) (u : Value) : Bx (w.setCell ⟨g, i, none⟩ u) g t (cs.setIfInBounds i u) := by
  unfold Bx at h ⊢
  simp [World.setCell, Array.getElem?_modify, h]
theorem Bx.far {w : World} {g : Nat} {t : TypeId} {cs : Array Value} (h : Bx w g t cs) {p : Addr} (hp : g ≠ p.block) (u : Value) : Bx (w.setCell p u) g t cs := (Below.heap_setCell w p u g hp).trans h

set_option maxHeartbeats 1000000 in
set_option maxRecDepth 100000 in
theorem makeStructure_calls (n : Nat) (hn : n ≤ 8) (f : Nat → Bool) (g : Nat → Nat → Bool) (F G : FuncId) (fF cF fG cG : Array Value) (w : World)
    (eF : ∀ (args : Array Value) (W : World), (callFunc F args).run Tryd.prog W = .ok (.enter F args) W) (eG : ∀ (args : Array Value) (W : World), (callFunc G args).run Tryd.prog W = .ok (.enter G args) W)
    (hF : ∀ (x : Nat) (W : World), x < n → Below w.heap.size w W → Calls Tryd.prog F (fF.push (.int .i64 x) ++ cF) W fun e W' => e = .returned (.bool (f x)) ∧ Below W.heap.size W W')
    (hG : ∀ (x y : Nat) (W : World), x < n → y < n → Below w.heap.size w W → Calls Tryd.prog G (fG ++ (#[.int .i64 x, .int .i64 y] ++ cG)) W fun e W' => e = .returned (.bool (g x y)) ∧ Below W.heap.size W W') :
    Calls Tryd.prog 75 #[.int .i64 n, .func (.func F) fF cF, .func (.func G) fG cG] w fun e w' => e = .returned (stA (mkSt n f g)) ∧ Below w.heap.size w w' := by
  have HF := Lib.hid hF
  have HG := Lib.hid hG
  clear hF hG
  go_enter Tryd.func75, Tryd.ntmps75
  go_wp2_with fail
  go_loopg [13] n (fun c i wr => ∃ k : Nat, k + c = n ∧ i = .int .i64 k ∧ Bx wr w.heap.size 27 #[.int .i64 0, .string (bs []), .string (bs [])] ∧ Bx wr (w.heap.size + 1) 27 #[.int .i64 n, .string (bs (setTo f k)), .string (bs (relTo n g k))] ∧ Below w.heap.size w wr)
  case atStart => exact ⟨0, by omega, rfl, (Bx.new w _ _).alloc _, bx_two _ _ _, ((Below.refl _ _).alloc (Nat.le_refl _) _).alloc (by simp) _⟩
  case round =>
    obtain ⟨k, hk, rfl, hr0, hb0, hbw⟩ := hrel
    have Hr0 := Lib.hid hr0
    have Hb0 := Lib.hid hb0
    have Hbw := Lib.hid hbw
    clear hr0 hb0 hbw
    by_cases hlt : k < n
    · have c1 := Hb0.out.cell 1
      have f1 := Hb0.out.free 1
      simp at c1
      have s1 : (bs (setTo f k)).size ≤ 8 := by rw [bs_size, setTo_len]; omega
      have s2 : (bs [bitB (f k)]).size ≤ 1 := by rw [bs_size]; simp
      have hs3 : bs (setTo f k) ++ bs [bitB (f k)] = bs (setTo f (k + 1)) := by rw [append_bs, bs_data, bs_data, setTo_succ]
      have Hs3 := Lib.hid hs3
      clear hs3
      go_upto_region 5 with (fail)
      go_cut [22] (fun v wx => v = .string (bs (setTo f (k + 1))) ∧ Bx wx w.heap.size 27 #[.int .i64 0, .string (bs []), .string (bs [])] ∧ Bx wx (w.heap.size + 1) 27 #[.int .i64 n, .string (bs (setTo f (k + 1))), .string (bs (relTo n g k))] ∧ Below w.heap.size w wx)
      case first =>
        go_region_with (first | (go_at_call 96; refine (bitOf_calls _ _).mono ?_; rintro e w2 ⟨rfl, rfl⟩) | (go_simp; refine (HF.out k _ hlt Hbw.out.drew).mono ?_; rintro e w1 ⟨rfl, hz⟩; have c2 := (Hb0.out.drew.call hz).cell 1; have f2 := (Hb0.out.drew.call hz).free 1; simp at c2; have Hz := Lib.hid hz; clear hz))
        all_goals
          go_wp2_with fail
          go_meet
          case rel => exact ⟨str_eq Hs3.out, (Hr0.out.drew.call Hz.out).far (by simp) _, by rw [← Hs3.out]; exact (Hb0.out.drew.call Hz.out).set 1 _, (Hbw.out.drew.trans (Hz.out.mono Hbw.out.drew.size)).setCell (by simp) _⟩
      case rest =>
        obtain ⟨rfl, hr1, hb1, hbw1⟩ := hcut
        have Hr1 := Lib.hid hr1
        have Hb1 := Lib.hid hb1
        have Hbw1 := Lib.hid hbw1
        clear hr1 hb1 hbw1 c1 f1 s1 s2
        go_wp2_with fail
        go_loopg [25] n (fun c i wr => ∃ j : Nat, j + c = n ∧ i = .int .i64 j ∧ Bx wr w.heap.size 27 #[.int .i64 0, .string (bs []), .string (bs [])] ∧ Bx wr (w.heap.size + 1) 27 #[.int .i64 n, .string (bs (setTo f (k + 1))), .string (bs (relAt n g k j))] ∧ Below w.heap.size w wr)
        case atStart => exact ⟨0, by omega, rfl, Hr1.out, by rw [relAt_zero]; exact Hb1.out, Hbw1.out⟩
        case round =>
          clear Hr0 Hb0 Hbw Hr1 Hb1 Hbw1 Hs3
          obtain ⟨j, hj, rfl, hr0, hb0, hbw⟩ := hrel
          have Hr0 := Lib.hid hr0
          have Hb0 := Lib.hid hb0
          have Hbw := Lib.hid hbw
          clear hr0 hb0 hbw
          by_cases hlj : j < n
          · have c1 := Hb0.out.cell 2
            have f1 := Hb0.out.free 2
            simp at c1
            have s1 : (bs (relAt n g k j)).size ≤ 100 := by
              rw [bs_size, relAt_len]
              have h64 := sq_le hn
              have hkn : k * n ≤ n * n := Nat.mul_le_mul_right n (by omega)
              omega
            have s2 : (bs [bitB (g k j)]).size ≤ 1 := by rw [bs_size]; simp
            have hs3 : bs (relAt n g k j) ++ bs [bitB (g k j)] = bs (relAt n g k (j + 1)) := by rw [append_bs, bs_data, bs_data, relAt_succ]
            have Hs3 := Lib.hid hs3
            clear hs3
            go_upto_region 9 with (fail)
            go_region_with (first | (go_at_call 96; refine (bitOf_calls _ _).mono ?_; rintro e w2 ⟨rfl, rfl⟩) | (go_simp; refine (HG.out k j _ hlt hlj Hbw.out.drew).mono ?_; rintro e w1 ⟨rfl, hz⟩; have c2 := (Hb0.out.drew.call hz).cell 2; have f2 := (Hb0.out.drew.call hz).free 2; simp at c2; have Hz := Lib.hid hz; clear hz))
            all_goals
              go_wp2_with fail
              go_roundg (n - j - 1)
              case rel => exact ⟨j + 1, by omega, by go_num, (Hr0.out.drew.call Hz.out).far (by simp) _, by rw [← Hs3.out]; exact (Hb0.out.drew.call Hz.out).set 2 _, (Hbw.out.drew.trans (Hz.out.mono Hbw.out.drew.size)).setCell (by simp) _⟩
              case measure => omega
          · obtain rfl : n = j := by omega
            go_wp2_with fail
            go_roundg (n - k - 1)
            case rel => exact ⟨k + 1, by omega, by go_num, Hr0.out, by rw [relTo_succ]; exact Hb0.out, Hbw.out⟩
            case measure => omega
    · obtain rfl : n = k := by omega
      have c0 := Hb0.out.cell 0
      have c1 := Hb0.out.cell 1
      have c2 := Hb0.out.cell 2
      simp at c0 c1 c2
      have d0 := Hr0.out.cell 0
      have d1 := Hr0.out.cell 1
      have d2 := Hr0.out.cell 2
      have e0 := Hr0.out.free 0
      have e1 := Hr0.out.free 1
      have e2 := Hr0.out.free 2
      simp at d0 d1 d2
      go_wp2_with fail
      have x3 := ((Hr0.out.set 0 (.int .i64 n)).set 1 (.string (bs (setTo f n)))).set 2 (.string (bs (relTo n g n)))
      have q0 := x3.cell 0
      have q1 := x3.cell 1
      have q2 := x3.cell 2
      simp at q0 q1 q2
      refine bodyPost_ret (v := stA (mkSt n f g)) ?_ rfl ⟨rfl, ?_⟩
      · simp [results, Tryd.results75, go_sem, q0, q1, q2]
        exact ⟨rfl, rfl, rfl⟩
      · exact ((Hbw.out.setCell (Nat.le_refl _) _).setCell (Nat.le_refl _) _).setCell (Nat.le_refl _) _

end Go.Proofs.YtgnmlijfenjehaaDoor
