/-
  OrbitOf of the reference. Condition: texts below the reach.
-/
import Derived.Test.YtgnmlijfenjehaaDoorOrbI
import Derived.Test.YtgnmlijfenjehaaDoorSPart2
namespace Go.Proofs.YtgnmlijfenjehaaDoor
open Go.RowKit
open Pl
set_option linter.unusedSimpArgs false
set_option linter.unusedVariables false
attribute [local go_sem ↓] Go.wp_at_zero Go.wp_at_succ

theorem own_ne {w : World} {base g n : Nat} {t e : TypeId} {cs : Array Value} {v : Value} {xs : List Value} (h : w.ownsRow base e 1 v n xs) (hb : Bx w g t cs) (hte : t ≠ e) : some g ≠ v.ownBlock := by
  obtain ⟨_, ⟨rfl, _⟩ | ⟨g', c', cur, rfl, _, hh, _⟩⟩ := h
  · simp [Value.ownBlock]
  · intro he
    have : g = g' := by simpa [Value.ownBlock] using he
    subst this
    unfold Bx at hb
    rw [hb] at hh
    injection hh with hh
    injection hh with _ hh _
    exact hte hh

theorem own_slice1 {W : World} {base : Nat} {v : Value} {o : List Nat} (h : W.ownsRow base 3 1 v o.length (intsV (natsI o))) : ∃ A cap, v = .slice A o.length cap := by
  obtain ⟨A, cap, h, _⟩ := own_open h
  exact ⟨A, cap, h⟩

theorem own_base {w : World} {base base' n : Nat} {e : TypeId} {v : Value} {xs : List Value} (h : w.ownsRow base e 1 v n xs) (hb : base' ≤ base) : w.ownsRow base' e 1 v n xs :=
  ⟨h.1, h.2.imp (fun h => h) fun ⟨g, c, cur, h1, h2, h3⟩ => ⟨g, c, cur, h1, by omega, h3⟩⟩

/-- what lies in memory while the elements are gone through -/
structure OrbF (w : World) (bb : Nat) (ca cb : Array Value) (o : Value) (L : List Nat) (V : World) : Prop where
  fst : Bx V w.heap.size 27 ca
  snd : Bx V bb 27 cb
  out : V.ownsRow w.heap.size 3 1 o L.length (intsV (natsI L))
  bel : Below w.heap.size w V

theorem OrbF.call {w V V' : World} {bb : Nat} {ca cb : Array Value} {o : Value} {L : List Nat} (h : OrbF w bb ca cb o L V) (hz : Below V.heap.size V V') : OrbF w bb ca cb o L V' :=
  ⟨h.fst.call hz, h.snd.call hz, own_kp (B := 0) h.out (.of_below hz) (Nat.zero_le _), h.bel.trans (hz.mono h.bel.size)⟩
theorem OrbF.drew {w V : World} {bb : Nat} {ca cb : Array Value} {o : Value} {L : List Nat} (h : OrbF w bb ca cb o L V) : OrbF w bb ca cb o L V.drew := ⟨h.fst, h.snd, h.out, h.bel.drew⟩
theorem OrbF.put {w V V' : World} {bb : Nat} {ca cb : Array Value} {o o' : Value} {L : List Nat} {k : Nat} (h : OrbF w bb ca cb o L V)
    (ho : V'.ownsRow w.heap.size 3 1 o' (L.length + 1) (intsV (natsI L) ++ [.int .i64 (k : Nat)])) (hg : (V.alloc (.cells #[.int .i64 (k : Nat)] 3)).grownBy V' o.ownBlock) : OrbF w bb ca cb o' (L ++ [k]) V' := by
  refine ⟨(h.fst.alloc _).grown hg (own_ne h.out h.fst (by decide)), (h.snd.alloc _).grown hg (own_ne h.out h.snd (by decide)), ?_, (h.bel.alloc h.bel.size _).grown hg (by have := h.bel.size; simp; omega) (fun j hj => (h.out.lt j hj).1)⟩
  rw [show intsV (natsI (L ++ [k])) = intsV (natsI L) ++ [.int .i64 (k : Nat)] by simp [intsV, natsI], List.length_append, List.length_singleton]
  exact ho

/-- what lies in memory while the order is made -/
structure OrdF (w : World) (base : Nat) (ca : Array Value) (o : Value) (L : List Nat) (V : World) : Prop where
  fst : Bx V w.heap.size 27 ca
  snd : Bx V (w.heap.size + 1) 3 #[]
  out : V.ownsRow base 3 1 o L.length (intsV (natsI L))
  bel : Below w.heap.size w V
  sz : base ≤ V.heap.size

theorem OrdF.put {w V V' : World} {base : Nat} {ca : Array Value} {o o' : Value} {L : List Nat} {k : Nat} (h : OrdF w base ca o L V) (hb : w.heap.size + 2 ≤ base)
    (ho : V'.ownsRow base 3 1 o' (L.length + 1) (intsV (natsI L) ++ [.int .i64 (k : Nat)])) (hg : (V.alloc (.cells #[.int .i64 (k : Nat)] 3)).grownBy V' o.ownBlock) : OrdF w base ca o' (L ++ [k]) V' := by
  refine ⟨(h.fst.alloc _).grown hg (own_ne h.out h.fst (by decide)), (h.snd.alloc _).grown hg (fun e => by have := (h.out.lt _ e.symm).1; omega), ?_, (h.bel.alloc h.bel.size _).grown hg (by have := h.bel.size; simp; omega) (fun j hj => by have := (h.out.lt j hj).1; omega), ?_⟩
  · rw [show intsV (natsI (L ++ [k])) = intsV (natsI L) ++ [.int .i64 (k : Nat)] by simp [intsV, natsI], List.length_append, List.length_singleton]
    exact ho
  · have h1 := hg.size
    have h2 := h.sz
    simp at h1
    omega

theorem lrow_one (w : World) (y : Nat) : LRow (w.alloc (.cells #[.int .i64 (y : Nat)] 3)) (some ⟨w.heap.size, 0, none⟩) (natsI [y]) := fun _ => ⟨_, rfl, fun i hi => by
  simp [natsI] at hi
  subst hi
  have := (Bx.new w 3 #[.int .i64 (y : Nat)]).cell 0
  simp [natsI]⟩

theorem front_succ (n x : Nat) : frontL (n + 1) x = if n = x then frontL n x else frontL n x ++ [n] := by
  unfold frontL
  rw [List.range_succ, List.filter_append]
  by_cases h : n = x <;> simp [h]
theorem front_len (n x : Nat) : (frontL n x).length ≤ n + 1 := by
  unfold frontL
  have := List.length_filter_le (fun y => y != x) (List.range n)
  simp at this ⊢
  omega

set_option maxHeartbeats 4000000 in
set_option maxRecDepth 100000 in
theorem OrbitOf_ok (a : St) (ha : a.ok) (x : Nat) (hx : x < a.n) (w : World) (hs : (bs a.set).size ≤ maxLen) (hr : (bs a.rel).size ≤ maxLen) :
    Calls Tryd.prog 29 #[stV (a.n : Int) (bs a.set) (bs a.rel), .int .i64 (x : Nat)] w fun e w' => (∃ v, e = .returned v ∧ w'.ownsRow w.heap.size 3 1 v (orbS a x).length (intsV (natsI (orbS a x)))) ∧ Below w.heap.size w w' := by
  have hn1 := ha.lo
  have hn8 := ha.hi
  obtain ⟨i0, hi, hz0, hz1, hz2⟩ := info_parts (P := Tryd.prog) (e := 3) (z := .int .i64 0) (size := 1) (bytes := 8) (by kernel_rfl)
  have hv : ∀ W, Calls Tryd.prog 28 #[stV (a.n : Int) (bs a.set) (bs a.rel)] W fun e w' => e = .returned (.bool true) ∧ Below W.heap.size W w' := fun W => by
    have h := StructureValid_spec a.n (bs a.set) (bs a.rel) W hs hr
    rwa [okB_true ha] at h
  have hin : ∀ W, Calls Tryd.prog 48 #[.int .i64 (x : Nat), .int .i64 0, .int .i64 ((a.n : Int) - 1)] W fun e w' => e = .returned (.bool true) ∧ W = w' := fun W => by
    have h := l1In_calls (x : Nat) 0 ((a.n : Int) - 1) W
    rwa [show (decide ((0 : Int) ≤ (x : Nat)) && decide (((x : Nat) : Int) ≤ (a.n : Int) - 1)) = true by rw [decide_eq_true (by omega), decide_eq_true (by omega)]; rfl] at h
  have hm := front_perm hx
  have hbok : (a.part (frontL a.n x)).ok := mkSt_ok (by rw [hm.len]; exact hn1) (by rw [hm.len]; exact hn8)
  have hbn : (a.part (frontL a.n x)).n = a.n := hm.len
  have hp : ∀ W A cap, LRow W A (natsI (frontL a.n x)) → Calls Tryd.prog 57 #[stV (a.n : Int) (bs a.set) (bs a.rel), .slice A (frontL a.n x).length cap] W fun e w' => e = .returned (stV (a.n : Int) (bs (a.part (frontL a.n x)).set) (bs (a.part (frontL a.n x)).rel)) ∧ Below W.heap.size W w' := fun W A cap hA => by
    have h := l1Part_calls a ha (frontL a.n x) hm.lt (by rw [hm.len]; exact hn8) A cap W hA
    have e : stA (a.part (frontL a.n x)) = stV (a.n : Int) (bs (a.part (frontL a.n x)).set) (bs (a.part (frontL a.n x)).rel) := by show stV ((a.part (frontL a.n x)).n : Int) _ _ = _; rw [hbn]
    rw [e] at h
    exact h
  have hord : ∀ y, y < a.n → ∀ W g, LRow W (some ⟨g, 0, none⟩) (natsI [y]) → Calls Tryd.prog 60 #[stV (a.n : Int) (bs a.set) (bs a.rel), .slice (some ⟨g, 0, none⟩) 1 1, stV (a.n : Int) (bs (a.part (frontL a.n x)).set) (bs (a.part (frontL a.n x)).rel)] W fun e w' => FstL (shapes a (a.part (frontL a.n x)) (a.n - 1) [y]) e w' ∧ Below W.heap.size W w' := fun y hy W g hL => by
    have h := l1Order_calls a _ ha hbok hbn.symm (fits_c a _ ha hbok hbn.symm) (a.n - 1) [y] g 1 W (by simp; omega) (by simpa using hy) hL
    have e : stA (a.part (frontL a.n x)) = stV (a.n : Int) (bs (a.part (frontL a.n x)).set) (bs (a.part (frontL a.n x)).rel) := by show stV ((a.part (frontL a.n x)).n : Int) _ _ = _; rw [hbn]
    rw [e] at h
    exact h
  have hsc : ∀ y, y < a.n → ∀ W, Calls Tryd.prog 58 #[stV (a.n : Int) (bs a.set) (bs a.rel), .int .i64 (y : Nat)] W fun e w' => e = .returned (.bool (a.inS y)) ∧ Below W.heap.size W w' := fun y hy W => l1Set_calls a ha y hy W
  have hrc : ∀ y z, y < a.n → z < a.n → ∀ W, Calls Tryd.prog 59 #[stV (a.n : Int) (bs a.set) (bs a.rel), .int .i64 (y : Nat), .int .i64 (z : Nat)] W fun e w' => e = .returned (.bool (a.inR y z)) ∧ Below W.heap.size W w' := fun y z hy hz W => l1Rel_calls a ha y z hy hz W
  obtain ⟨Q, hQ⟩ : ∃ Q : Nat → Bool, Q = fun y => a.inS y == a.inS x && (a.inR y y == a.inR x x && !(shapes a (a.part (frontL a.n x)) (a.n - 1) [y]).isEmpty) := ⟨_, rfl⟩
  have hQk : ∀ y, Q y = (a.inS y == a.inS x && (a.inR y y == a.inR x x && !(shapes a (a.part (frontL a.n x)) (a.n - 1) [y]).isEmpty)) := fun y => by rw [hQ]
  have hR : orbS a x = rk Q a.n := by rw [hQ]; rfl
  rw [hR]
  have hfl := hm.len
  have Hv := Lib.hid hv
  have Hin := Lib.hid hin
  have Hp := Lib.hid hp
  have Hord := Lib.hid hord
  have Hs := Lib.hid hsc
  have Hr := Lib.hid hrc
  have HQ := Lib.hid hQk
  have Hfl := Lib.hid hfl
  clear hv hin hp hord hsc hrc hQk hQ hR hm hbok hbn hfl hs hr ha
  generalize (fun y => shapes a (a.part (frontL a.n x)) (a.n - 1) [y]) = SH at *
  generalize bs (a.part (frontL a.n x)).set = S2 at *
  generalize bs (a.part (frontL a.n x)).rel = R2 at *
  obtain ⟨sh, hsh⟩ : ∃ sh : Nat → List (List Nat), sh = fun y => shapes a (a.part (frontL a.n x)) (a.n - 1) [y] := ⟨_, rfl⟩
  have hsh2 : ∀ y, shapes a (a.part (frontL a.n x)) (a.n - 1) [y] = sh y := fun y => by rw [hsh]
  have hHo := Hord.out
  have hHQ := HQ.out
  simp only [hsh2] at hHo hHQ
  obtain ⟨sS, hsS⟩ : ∃ sS : Nat → Bool, sS = a.inS := ⟨_, rfl⟩
  obtain ⟨sR, hsR⟩ : ∃ sR : Nat → Nat → Bool, sR = a.inR := ⟨_, rfl⟩
  have hHs := Hs.out
  have hHr := Hr.out
  rw [← hsS] at hHs hHQ
  rw [← hsR] at hHr hHQ
  clear Hord HQ Hs Hr hsh hsh2 hsS hsR SH
  have Hord := Lib.hid hHo
  have HQ := Lib.hid hHQ
  have Hs := Lib.hid hHs
  have Hr := Lib.hid hHr
  clear hHo hHQ hHs hHr
  generalize a.n = n at *
  generalize bs a.set = S at *
  generalize bs a.rel = R at *
  clear a
  have hw1 : IntKind.i64.wrap ((n : Int) - 1) = (n : Int) - 1 := IntWalk.i64_in _ (by omega)
  obtain ⟨V, hV⟩ : ∃ V, V = (w.alloc (.cells #[.int .i64 n, .string S, .string R] 27)).alloc (.cells #[] 3) := ⟨_, rfl⟩
  have hV2 : V.heap.size = w.heap.size + 2 := by rw [hV]; simp
  have xa : Bx V w.heap.size 27 #[.int .i64 n, .string S, .string R] := by rw [hV]; exact (Bx.new w _ _).alloc _
  have xo : Bx V (w.heap.size + 1) 3 #[] := by rw [hV]; exact bx_two w _ _
  have hbV : Below w.heap.size w V := by rw [hV]; exact ((Below.refl _ _).alloc (Nat.le_refl _) _).alloc (by simp) _
  obtain ⟨k0, k1, k2⟩ := box_load xa
  have Xa := Lib.hid xa
  have Xo := Lib.hid xo
  have HbV := Lib.hid hbV
  have HV := Lib.hid hV
  have HV2 := Lib.hid hV2
  clear xa xo hbV hV hV2
  go_enter Tryd.func29, Tryd.ntmps29
  go_upto_region 2 with (fail)
  rw [← HV.out]
  go_wp2_with fail
  refine (Hv.out _).mono ?_
  rintro e w1 ⟨rfl, hz⟩
  have Xa1 := Lib.hid (Xa.out.call hz)
  have Xo1 := Lib.hid (Xo.out.call hz)
  have B1 := Lib.hid (HbV.out.trans (hz.mono HbV.out.size))
  have Hw1 := Lib.hid (show w.heap.size + 2 ≤ w1.heap.size by have := hz.size; have := HV2.out; omega)
  clear hz k0 k1 k2 Xa Xo HbV HV HV2
  obtain ⟨k0, k1, k2⟩ := box_load Xa1.out
  go_wp2_with fail
  refine (Hin.out _).mono ?_
  rintro e w2 ⟨rfl, rfl⟩
  clear hw1
  go_wp2_with fail
  clear k0 k1 k2
  go_loopg [6, 7] n (fun c o i wr => ∃ k : Nat, k + c = n ∧ i = .int .i64 k ∧ OrdF w w1.heap.size #[.int .i64 n, .string S, .string R] o (frontL k x) wr)
  case atStart =>
    refine ⟨0, by omega, rfl, ⟨Xa1.out.alloc _, Xo1.out.alloc _, ?_, B1.out.alloc B1.out.size _, by simp⟩⟩
    exact ⟨rfl, .inr ⟨_, 1, #[.int .i64 (x : Nat)], rfl, Nat.le_refl _, Bx.new w1 _ _, Nat.le_refl _, by unfold maxLen; omega, rfl, rfl⟩⟩
  case round =>
    obtain ⟨k, hk, rfl, hf⟩ := hrel
    have F0 := Lib.hid hf
    obtain ⟨k0, k1, k2⟩ := box_load hf.fst
    have hfr := front_len k x
    clear hf
    by_cases hlt : k < n
    · have j1 : (k : Int) < (n : Int) := by omega
      have hfs := front_succ k x
      by_cases hkx : k = x
      · have h1 : ((k : Int) != (x : Int)) = false := by simp [hkx]
        have h2 : ((k : Int) == (x : Int)) = true := by simp [hkx]
        rw [if_pos hkx] at hfs
        have Hfs := Lib.hid hfs
        have Hkx := Lib.hid hkx
        clear hfs hkx
        go_wp2_with fail
        go_roundg (n - k - 1)
        case rel => exact ⟨k + 1, by omega, by go_num, by rw [Hfs.out]; exact F0.out⟩
        case measure => omega
      · have h1 : ((k : Int) != (x : Int)) = true := by simp; omega
        have h2 : ((k : Int) == (x : Int)) = false := by simp; omega
        rw [if_neg hkx] at hfs
        have Hfs := Lib.hid hfs
        clear hfs hkx
        go_wp2_with (at_builtin; refine wpList_append_own_at _ rfl (.tmp 36) (.tmp 38) 24 rfl w1.heap.size 3 i0 (.int .i64 0) 1 8 Tryd.underlying24 hi hz0 hz1 hz2 rfl (by decide) _ (frontL k x).length (intsV (natsI (frontL k x))) rfl (F0.out.out.alloc _) ⟨wr.heap.size, 0, none⟩ 1 1 [.int .i64 (k : Nat)] rfl rfl (cell_one_new _ _ _) (ints_oneCell .i64 [((k : Nat) : Int)]) (by unfold maxLen; omega) (by omega) (by have := F0.out.sz; simp; omega) ?_; intro v2 w5 ho5 hg5 hn5 hat5; clear hn5 hat5; have F1 := Lib.hid (F0.out.put Hw1.out ho5 hg5); clear ho5 hg5)
        go_roundg (n - k - 1)
        case rel => exact ⟨k + 1, by omega, by go_num, by rw [Hfs.out]; exact F1.out⟩
        case measure => omega
    · obtain rfl : n = k := by omega
      obtain ⟨A, cap, rfl⟩ := own_slice1 F0.out.out
      have L0 := Lib.hid (LRow_of F0.out.out)
      go_wp2_with fail
      refine (Hp.out _ A cap L0.out).mono ?_
      rintro e w6 ⟨rfl, hz⟩
      have F1 : Hid (OrbF w w6.heap.size #[.int .i64 n, .string S, .string R] #[.int .i64 n, .string S2, .string R2] (.slice (some ⟨w.heap.size + 1, 0, none⟩) 0 0) [] (w6.alloc (.cells #[.int .i64 n, .string S2, .string R2] 27))) :=
        ⟨(F0.out.fst.call hz).alloc _, Bx.new w6 _ _, ⟨rfl, .inr ⟨_, 0, #[], rfl, by omega, (F0.out.snd.call hz).alloc _, Nat.le_refl _, Nat.zero_le _, rfl, rfl⟩⟩, (F0.out.bel.trans (hz.mono F0.out.bel.size)).alloc (F0.out.bel.trans (hz.mono F0.out.bel.size)).size _⟩
      clear hz F0 L0 k0 k1 k2 hfr hlt Hfl
      go_wp2_with fail
      go_loopg [5, 9] n (fun c o i wr => ∃ k : Nat, k + c = n ∧ i = .int .i64 k ∧ OrbF w w6.heap.size #[.int .i64 n, .string S, .string R] #[.int .i64 n, .string S2, .string R2] o (rk Q k) wr)
      case atStart => exact ⟨0, by omega, rfl, F1.out⟩
      case round =>
        clear F1
        obtain ⟨k, hk, rfl, hf⟩ := hrel
        have F1 := Lib.hid hf
        obtain ⟨k0, k1, k2⟩ := box_load hf.fst
        have hrl := rk_len Q k
        clear hf
        by_cases hlt : k < n
        · have j1 : (k : Int) < (n : Int) := by omega
          obtain ⟨p, hp⟩ : ∃ p, (sS k != sS x) = p := ⟨_, rfl⟩
          obtain ⟨q, hq⟩ : ∃ q, (sR k k != sR x x) = q := ⟨_, rfl⟩
          go_upto_region 14 with (fail)
          clear k0 k1 k2
          refine region_sched [(0, true), (1, true), (3, true), (4, true), (2, false), (5, false), (6, true), (7, true), (8, true), (9, true), (10, true), (12, true), (13, true), (14, true), (11, false), (15, false), (16, true), (17, true)] (fun w' : World => w'.cell? ⟨w.heap.size, 0, none⟩ = some (.int .i64 n) ∧ w'.cell? ⟨w.heap.size, 1, none⟩ = some (.string S) ∧ w'.cell? ⟨w.heap.size, 2, none⟩ = some (.string R)) (by kernel_rfl) (by kernel_rfl) (by kernel_rfl) (by kernel_rfl) (fun _ _ _ _ h => h) ?_ (fun Q1 hQ1 => ?_)
          · exact box_load F1.out.drew.1
          try simp only [List.append]
          refine sched_take' (v := ?_) (a' := ?_) rfl (by kernel_rfl) ?_ rfl ?_ ?_
          rotate_left 2
          · intro w hSw
            (try dsimp only at hSw)
            go_simp
            try with_reducible rfl
          · (try simp only [Act.put, List.setIfInBounds_toArray, List.set_cons_zero, List.set_cons_succ])
            try rfl
          refine sched_take' (v := ?_) (a' := ?_) rfl (by kernel_rfl) ?_ rfl ?_ ?_
          rotate_left 2
          · intro w hSw
            (try dsimp only at hSw)
            go_simp
            try with_reducible rfl
          · (try simp only [Act.put, List.setIfInBounds_toArray, List.set_cons_zero, List.set_cons_succ])
            try rfl
          refine sched_take' (v := ?_) (a' := ?_) rfl (by kernel_rfl) ?_ rfl ?_ ?_
          rotate_left 2
          · intro w hSw
            (try dsimp only at hSw)
            go_simp
            try with_reducible rfl
          · (try simp only [Act.put, List.setIfInBounds_toArray, List.set_cons_zero, List.set_cons_succ])
            try rfl
          refine sched_take' (v := ?_) (a' := ?_) rfl (by kernel_rfl) ?_ rfl ?_ ?_
          rotate_left 2
          · intro w hSw
            (try dsimp only at hSw)
            go_simp
            try with_reducible rfl
          · (try simp only [Act.put, List.setIfInBounds_toArray, List.set_cons_zero, List.set_cons_succ])
            try rfl
          refine sched_call rfl (by kernel_rfl) (fun K1 hK1 => ?_)
          go_simp
          refine (Hs.out k hlt _).mono ?_
          rintro e w2 ⟨rfl, hz⟩
          have F2 := Lib.hid (F1.out.drew.call hz)
          clear hz
          go_wp2_with fail
          refine hK1.out _ _ ?_ (sched_lay (a' := ?_) ?_ ?_)
          · exact box_load F2.out.1
          rotate_left 1
          · (try simp only [Act.put, List.getElem_toArray, List.getElem_cons_succ, List.getElem_cons_zero, List.setIfInBounds_toArray, List.set_cons_zero, List.set_cons_succ])
            try rfl
          clear hK1 K1
          refine sched_call rfl (by kernel_rfl) (fun K1 hK1 => ?_)
          go_simp
          refine (Hs.out x hx _).mono ?_
          rintro e w3 ⟨rfl, hz⟩
          have F3 := Lib.hid (F2.out.call hz)
          clear hz
          go_wp2_with fail
          refine hK1.out _ _ ?_ (sched_lay (a' := ?_) ?_ ?_)
          · exact box_load F3.out.1
          rotate_left 1
          · (try simp only [Act.put, List.getElem_toArray, List.getElem_cons_succ, List.getElem_cons_zero, List.setIfInBounds_toArray, List.set_cons_zero, List.set_cons_succ])
            try rfl
          clear hK1 K1
          refine sched_take' (v := .bool p) (a' := ?_) rfl (by kernel_rfl) ?_ rfl ?_ ?_
          rotate_left 1
          · intro w hSw
            (try dsimp only at hSw)
            go_simp
            first | done | exact hp | (rw [← hp]; simp [bne]; done) | simpa using hp
          · (try simp only [Act.put, List.setIfInBounds_toArray, List.set_cons_zero, List.set_cons_succ])
            try rfl
          refine sched_take' (v := ?_) (a' := ?_) rfl (by kernel_rfl) ?_ rfl ?_ ?_
          rotate_left 2
          · intro w hSw
            (try dsimp only at hSw)
            go_simp
            try with_reducible rfl
          · (try simp only [Act.put, List.setIfInBounds_toArray, List.set_cons_zero, List.set_cons_succ])
            try rfl
          cases p with
          | true =>
            refine sched_skip' (a' := ?_) rfl (by kernel_rfl) rfl ?_ ?_
            rotate_left 1
            · (try simp only [Act.put, List.setIfInBounds_toArray, List.set_cons_zero, List.set_cons_succ])
              try rfl
            refine sched_skip' (a' := ?_) rfl (by kernel_rfl) rfl ?_ ?_
            rotate_left 1
            · (try simp only [Act.put, List.setIfInBounds_toArray, List.set_cons_zero, List.set_cons_succ])
              try rfl
            refine sched_skip' (a' := ?_) rfl (by kernel_rfl) rfl ?_ ?_
            rotate_left 1
            · (try simp only [Act.put, List.setIfInBounds_toArray, List.set_cons_zero, List.set_cons_succ])
              try rfl
            refine sched_skip' (a' := ?_) rfl (by kernel_rfl) rfl ?_ ?_
            rotate_left 1
            · (try simp only [Act.put, List.setIfInBounds_toArray, List.set_cons_zero, List.set_cons_succ])
              try rfl
            refine sched_skip' (a' := ?_) rfl (by kernel_rfl) rfl ?_ ?_
            rotate_left 1
            · (try simp only [Act.put, List.setIfInBounds_toArray, List.set_cons_zero, List.set_cons_succ])
              try rfl
            refine sched_skip' (a' := ?_) rfl (by kernel_rfl) rfl ?_ ?_
            rotate_left 1
            · (try simp only [Act.put, List.setIfInBounds_toArray, List.set_cons_zero, List.set_cons_succ])
              try rfl
            refine sched_skipC' (a' := ?_) rfl (by kernel_rfl) ?_ rfl ?_ ?_
            rotate_left 1
            · exact box_load F3.out.1
            · (try simp only [Act.put, List.setIfInBounds_toArray, List.set_cons_zero, List.set_cons_succ])
              try rfl
            refine sched_skipC' (a' := ?_) rfl (by kernel_rfl) ?_ rfl ?_ ?_
            rotate_left 1
            · exact box_load F3.out.1
            · (try simp only [Act.put, List.setIfInBounds_toArray, List.set_cons_zero, List.set_cons_succ])
              try rfl
            refine sched_skip' (a' := ?_) rfl (by kernel_rfl) rfl ?_ ?_
            rotate_left 1
            · (try simp only [Act.put, List.setIfInBounds_toArray, List.set_cons_zero, List.set_cons_succ])
              try rfl
            refine sched_take' (v := ?_) (a' := ?_) rfl (by kernel_rfl) ?_ rfl ?_ ?_
            rotate_left 2
            · intro w hSw
              (try dsimp only at hSw)
              go_simp
              try with_reducible rfl
            · (try simp only [Act.put, List.setIfInBounds_toArray, List.set_cons_zero, List.set_cons_succ])
              try rfl
            refine sched_done (hQ1.out _ _ ?_)
            have Hk := Lib.hid (show rk Q (k + 1) = rk Q k by rw [rk_succ, show Q k = false from by rw [HQ.out, show (sS k == sS x) = false by simpa [bne] using hp]; simp]; rfl)
            clear hp hq
            go_wp2_with fail
            go_roundg (n - k - 1)
            case rel => exact ⟨k + 1, by omega, by go_num, by rw [Hk.out]; exact F3.out⟩
            case measure => omega
          | false =>
            refine sched_take' (v := ?_) (a' := ?_) rfl (by kernel_rfl) ?_ rfl ?_ ?_
            rotate_left 2
            · intro w hSw
              (try dsimp only at hSw)
              go_simp
              try with_reducible rfl
            · (try simp only [Act.put, List.setIfInBounds_toArray, List.set_cons_zero, List.set_cons_succ])
              try rfl
            refine sched_take' (v := ?_) (a' := ?_) rfl (by kernel_rfl) ?_ rfl ?_ ?_
            rotate_left 2
            · intro w hSw
              (try dsimp only at hSw)
              go_simp
              try with_reducible rfl
            · (try simp only [Act.put, List.setIfInBounds_toArray, List.set_cons_zero, List.set_cons_succ])
              try rfl
            refine sched_take' (v := ?_) (a' := ?_) rfl (by kernel_rfl) ?_ rfl ?_ ?_
            rotate_left 2
            · intro w hSw
              (try dsimp only at hSw)
              go_simp
              try with_reducible rfl
            · (try simp only [Act.put, List.setIfInBounds_toArray, List.set_cons_zero, List.set_cons_succ])
              try rfl
            refine sched_take' (v := ?_) (a' := ?_) rfl (by kernel_rfl) ?_ rfl ?_ ?_
            rotate_left 2
            · intro w hSw
              (try dsimp only at hSw)
              go_simp
              try with_reducible rfl
            · (try simp only [Act.put, List.setIfInBounds_toArray, List.set_cons_zero, List.set_cons_succ])
              try rfl
            refine sched_take' (v := ?_) (a' := ?_) rfl (by kernel_rfl) ?_ rfl ?_ ?_
            rotate_left 2
            · intro w hSw
              (try dsimp only at hSw)
              go_simp
              try with_reducible rfl
            · (try simp only [Act.put, List.setIfInBounds_toArray, List.set_cons_zero, List.set_cons_succ])
              try rfl
            refine sched_take' (v := ?_) (a' := ?_) rfl (by kernel_rfl) ?_ rfl ?_ ?_
            rotate_left 2
            · intro w hSw
              (try dsimp only at hSw)
              go_simp
              try with_reducible rfl
            · (try simp only [Act.put, List.setIfInBounds_toArray, List.set_cons_zero, List.set_cons_succ])
              try rfl
            refine sched_call rfl (by kernel_rfl) (fun K1 hK1 => ?_)
            go_simp
            refine (Hr.out k k hlt hlt _).mono ?_
            rintro e w4 ⟨rfl, hz⟩
            have F4 := Lib.hid (F3.out.call hz)
            clear hz
            go_wp2_with fail
            refine hK1.out _ _ ?_ (sched_lay (a' := ?_) ?_ ?_)
            · exact box_load F4.out.1
            rotate_left 1
            · (try simp only [Act.put, List.getElem_toArray, List.getElem_cons_succ, List.getElem_cons_zero, List.setIfInBounds_toArray, List.set_cons_zero, List.set_cons_succ])
              try rfl
            clear hK1 K1
            refine sched_call rfl (by kernel_rfl) (fun K1 hK1 => ?_)
            go_simp
            refine (Hr.out x x hx hx _).mono ?_
            rintro e w5 ⟨rfl, hz⟩
            have F5 := Lib.hid (F4.out.call hz)
            clear hz
            go_wp2_with fail
            refine hK1.out _ _ ?_ (sched_lay (a' := ?_) ?_ ?_)
            · exact box_load F5.out.1
            rotate_left 1
            · (try simp only [Act.put, List.getElem_toArray, List.getElem_cons_succ, List.getElem_cons_zero, List.setIfInBounds_toArray, List.set_cons_zero, List.set_cons_succ])
              try rfl
            clear hK1 K1
            refine sched_take' (v := .bool q) (a' := ?_) rfl (by kernel_rfl) ?_ rfl ?_ ?_
            rotate_left 1
            · intro w hSw
              (try dsimp only at hSw)
              go_simp
              first | done | exact hq | (rw [← hq]; simp [bne]; done) | simpa using hq
            · (try simp only [Act.put, List.setIfInBounds_toArray, List.set_cons_zero, List.set_cons_succ])
              try rfl
            refine sched_take' (v := ?_) (a' := ?_) rfl (by kernel_rfl) ?_ rfl ?_ ?_
            rotate_left 2
            · intro w hSw
              (try dsimp only at hSw)
              go_simp
              try with_reducible rfl
            · (try simp only [Act.put, List.setIfInBounds_toArray, List.set_cons_zero, List.set_cons_succ])
              try rfl
            refine sched_done (hQ1.out _ _ ?_)
            cases q with
            | true =>
              have Hk := Lib.hid (show rk Q (k + 1) = rk Q k by rw [rk_succ, show Q k = false from by rw [HQ.out, show (sR k k == sR x x) = false by simpa [bne] using hq]; simp]; rfl)
              clear hp hq
              go_wp2_with fail
              go_roundg (n - k - 1)
              case rel => exact ⟨k + 1, by omega, by go_num, by rw [Hk.out]; exact F5.out⟩
              case measure => omega
            | false =>
              have hS1 : (sS k == sS x) = true := by simpa [bne] using hp
              have hS2 : (sR k k == sR x x) = true := by simpa [bne] using hq
              have hqk := HQ.out k
              rw [hS1, hS2, Bool.true_and, Bool.true_and] at hqk
              have HQk := Lib.hid hqk
              obtain ⟨k0, k1, k2⟩ := box_load F5.out.1
              obtain ⟨l0, l1, l2⟩ := box_load (F5.out.1.alloc (.cells #[.int .i64 (k : Nat)] 3))
              obtain ⟨m0, m1, m2⟩ := box_load (F5.out.2.alloc (.cells #[.int .i64 (k : Nat)] 3))
              clear hp hq hS1 hS2 hqk
              go_wp2_with fail
              refine (Hord.out k hlt _ _ (lrow_one w5 k)).mono ?_
              rintro e w7 ⟨⟨g7, cap7, rfl, hl7⟩, hz⟩
              have F7 := Lib.hid ((F5.out.call ((Below.refl _ _).alloc (Nat.le_refl _) _)).call hz)
              obtain ⟨q2, hq2⟩ : ∃ q2, q2 = !(sh k).isEmpty := ⟨_, rfl⟩
              rw [← hq2]
              have hQ2 : Q k = q2 := by rw [HQk.out, hq2]
              generalize (sh k).headD [] = RR at *
              clear hz hl7 k0 k1 k2 l0 l1 l2 m0 m1 m2 hq2 HQk
              cases q2 with
              | false =>
                have Hk := Lib.hid (show rk Q (k + 1) = rk Q k by rw [rk_succ, hQ2]; rfl)
                clear hQ2
                go_wp2_with fail
                go_roundg (n - k - 1)
                case rel => exact ⟨k + 1, by omega, by go_num, by rw [Hk.out]; exact F7.out⟩
                case measure => omega
              | true =>
                have Hk := Lib.hid (show rk Q (k + 1) = rk Q k ++ [k] by rw [rk_succ, hQ2]; rfl)
                clear hQ2
                go_wp2_with (at_builtin; refine wpList_append_own_at _ rfl (.tmp 76) (.tmp 78) 24 rfl w.heap.size 3 i0 (.int .i64 0) 1 8 Tryd.underlying24 hi hz0 hz1 hz2 rfl (by decide) _ (rk Q k).length (intsV (natsI (rk Q k))) rfl (F7.out.out.alloc _) ⟨w7.heap.size, 0, none⟩ 1 1 [.int .i64 (k : Nat)] rfl rfl (cell_one_new _ _ _) (ints_oneCell .i64 [((k : Nat) : Int)]) (by unfold maxLen; omega) (by omega) (by have := F7.out.bel.size; simp; omega) ?_; intro v2 w8 ho5 hg5 hn5 hat5; clear hn5 hat5; have F8 := Lib.hid (F7.out.put ho5 hg5); clear ho5 hg5)
                go_roundg (n - k - 1)
                case rel => exact ⟨k + 1, by omega, by go_num, by rw [Hk.out]; exact F8.out⟩
                case measure => omega
        · obtain rfl : n = k := by omega
          go_wp2_with fail
          go_ret
          exact ⟨⟨_, rfl, F1.out.out⟩, F1.out.bel⟩

end Go.Proofs.YtgnmlijfenjehaaDoor
