/-
  Laws of the functions that the claim reaches, one after the other (packed by a program of the prover's: DesI, DesS, SPartOf, LawAny2, SetP, DsL, CountWidth, RegC, WDsLaw, Hold4, DSetI, Gs, Sym, LawAny, PtP). Conditions: texts below the reach.
-/
import Derived.Test.YtpaleogkgfclnaaGreatDoorPg10
import Derived.Test.YtpaleogkgfclnaaGreatDoorPg8
import Derived.Test.YtpaleogkgfclnaaGreatDoorPg9
import Derived.Test.YtpaleogkgfclnaaGreatDoorPg3
import Derived.Test.YtpaleogkgfclnaaGreatDoorPg7
import Derived.Test.YtpaleogkgfclnaaGreatDoorPg4
import Derived.Test.YtpaleogkgfclnaaGreatDoorPg0
import Derived.Test.YtpaleogkgfclnaaGreatDoorPg1
import Derived.StillTailTactics
import Derived.BigQuiet
set_option linter.unusedSimpArgs false
set_option linter.unusedVariables false

namespace Go.Proofs.YtpaleogkgfclnaaGreatDoor
open Go.RowKit
open Pl
set_option linter.unusedSimpArgs false
set_option linter.unusedVariables false
attribute [local go_sem ↓] Go.wp_at_zero Go.wp_at_succ

theorem quL_cat (j k : Nat) : bs (quL j k) ++ (⟨#[83]⟩ ++ nmT (j + k)) = bs (quL j (k + 1)) := by
  rw [quL_succ, qu_name]
  exact eq_bs (by simp [bs_data])
theorem own_single (w : World) (t : TypeId) (v : Value) : (w.alloc (.cells #[v] t)).ownsRow w.heap.size t 1 (.slice (some ⟨w.heap.size, 0, none⟩) 1 1) 1 [v] :=
  ⟨rfl, .inr ⟨_, 1, #[v], rfl, Nat.le_refl _, Bx.new w _ _, Nat.le_refl _, by unfold maxLen; omega, rfl, rfl⟩⟩

set_option maxHeartbeats 8000000 in
set_option maxRecDepth 100000 in
theorem DescribeStructure_impl (i : Int) (s r : ByteArray) (w : World) (hs : s.size ≤ maxLen) (hr : r.size ≤ maxLen) :
    Calls Tryz.prog 6 #[stV i s r] w fun e w' => e = .returned (.tuple #[.string (dsV i s r).1, .bool (dsV i s r).2]) ∧ Below w.heap.size w w' := by
  have HcI := fun W => isStructure_calls i s r W hs hr
  have B0 := Lib.hid ((Below.refl w.heap.size w).alloc (Nat.le_refl _) (.cells #[.int .i64 i, .string s, .string r] 24))
  have X0 := Lib.hid (Bx.new w 24 #[.int .i64 i, .string s, .string r])
  cases hok : okB i s r
  case false =>
    rw [ds_no hok]
    simp only [hok] at HcI
    have CI := Lib.hid HcI
    clear HcI hok hs hr
    go_enter Tryz.func6, Tryz.ntmps6
    obtain ⟨x0, x1, x2⟩ := box_load X0.out
    go_wp2_with fail
    refine (CI.out _).mono ?_
    rintro e w1 ⟨rfl, hz⟩
    have B1 := Lib.hid (B0.out.trans (hz.mono B0.out.size))
    clear hz x0 x1 x2
    go_wp2_with fail
    go_ret2
    exact ⟨rfl, B1.out⟩
  case true =>
  simp only [hok] at HcI
  rcases ok_cases i s r with h | ⟨a, ha, rfl, rfl, rfl⟩
  · rw [hok] at h; cases h
  have CI := Lib.hid HcI
  have hlo := ha.lo
  have h8 := ha.hi
  clear HcI hok hs hr
  by_cases h3 : a.n ≤ 3
  case neg =>
    rw [ds_big (by omega)]
    have h3i : (3 : Int) < (a.n : Int) := by omega
    go_enter Tryz.func6, Tryz.ntmps6
    obtain ⟨x0, x1, x2⟩ := box_load X0.out
    go_wp2_with fail
    refine (CI.out _).mono ?_
    rintro e w1 ⟨rfl, hz⟩
    have B1 := Lib.hid (B0.out.trans (hz.mono B0.out.size))
    have X1 := Lib.hid (X0.out.call hz)
    clear hz x0 x1 x2
    obtain ⟨x0, x1, x2⟩ := box_load X1.out
    go_wp2_with fail
    go_ret2
    exact ⟨rfl, B1.out⟩
  case pos =>
  have h3i : ((a.n : Nat) : Int) ≤ 3 := by omega
  rw [ds_yes ha h3]
  have HDB := Lib.hid (fun W => describedBy_calls a ha (by omega) W)
  have hdl := des_len (n := a.n) (by omega) a.inS a.inR noQ
  rw [← bs_size] at hdl
  have htl := dst_len (a := a) (by omega)
  have htx : bs (quL 0 a.n) ++ bs (desF a.n a.inS a.inR noQ).text = bs (dstF a).text := by rw [dst_text]; exact eq_bs (by simp [bs_data])
  have hsf := fun W => shortFormula_yes (bs (dstF a).text) W (by rw [bs_size]; omega)
  rw [← htx] at hsf ⊢
  obtain ⟨D, hD⟩ : ∃ D, D = bs (desF a.n a.inS a.inR noQ).text := ⟨_, rfl⟩
  rw [← hD] at HDB hdl hsf ⊢
  have HSF := Lib.hid hsf
  clear htl htx hsf hD
  go_enter Tryz.func6, Tryz.ntmps6
  obtain ⟨x0, x1, x2⟩ := box_load X0.out
  go_wp2_with fail
  refine (CI.out _).mono ?_
  rintro e w1 ⟨rfl, hz⟩
  have B1 := Lib.hid (B0.out.trans (hz.mono B0.out.size))
  have X1 := Lib.hid (X0.out.call hz)
  clear hz x0 x1 x2
  obtain ⟨x0, x1, x2⟩ := box_load X1.out
  go_wp2_with fail
  go_loopg [4, 16] a.n (fun q ov xv wr => ∃ k : Nat, k + q = a.n ∧ ov = .string (bs (quL 0 k)) ∧ xv = .int .i64 (k : Nat) ∧ wr = w1)
  case atStart => exact ⟨0, by omega, rfl, rfl, rfl⟩
  case round =>
    obtain ⟨k, hk, rfl, rfl, rfl⟩ := hrel
    have hqz : (bs (quL 0 k)).size ≤ 20 := by rw [bs_size, quL_len]; omega
    by_cases hlt : k < a.n
    · have hs1 := nm_size k
      go_wp2_with fail
      refine (nameOf_calls k (by omega) _).mono ?_
      rintro e w2 ⟨rfl, rfl⟩
      go_wp2_with fail
      go_roundg (a.n - k - 1)
      case rel => exact ⟨k + 1, by omega, str_eq (by have := quL_cat 0 k; rwa [Nat.zero_add] at this), by go_num, rfl⟩
      case measure => omega
    · obtain rfl : k = a.n := by omega
      have hgk : gk = 0 := by omega
      subst hgk
      clear hlt hk
      go_wp2_with fail
      refine (HDB.out _).mono ?_
      rintro e w2 ⟨rfl, hz⟩
      have B2 := Lib.hid (B1.out.trans (hz.mono B1.out.size))
      clear hz x0 x1 x2
      go_wp2_with fail
      refine (HSF.out _).mono ?_
      rintro e w3 ⟨rfl, rfl⟩
      go_wp2_with fail
      go_ret2
      exact ⟨rfl, B2.out⟩

set_option maxHeartbeats 8000000 in
set_option maxRecDepth 100000 in
theorem DescribeElement_impl (i : Int) (s r : ByteArray) (z : Int) (w : World) (hs : s.size ≤ maxLen) (hr : r.size ≤ maxLen) :
    Calls Tryz.prog 16 #[stV i s r, .int .i64 z] w fun e w' => e = .returned (.tuple #[.string (deV i s r z).1, .bool (deV i s r z).2]) ∧ Below w.heap.size w w' := by
  obtain ⟨i0, hi, hz0, hz1, hz2⟩ := info_parts (P := Tryz.prog) (e := 3) (z := .int .i64 0) (size := 1) (bytes := 8) (by kernel_rfl)
  have HcI := fun W => hasElement_calls i s r z W hs hr
  have B0 := Lib.hid ((Below.refl w.heap.size w).alloc (Nat.le_refl _) (.cells #[.int .i64 i, .string s, .string r] 24))
  have X0 := Lib.hid (Bx.new w 24 #[.int .i64 i, .string s, .string r])
  cases hok : okB i s r && elB i z
  case false =>
    rw [show deV i s r z = (bs [], false) by
      rcases Bool.and_eq_false_iff.1 hok with h | h
      · exact de_no h
      · exact de_far h]
    simp only [hok] at HcI
    have CI := Lib.hid HcI
    clear HcI hok hs hr
    go_enter Tryz.func16, Tryz.ntmps16
    obtain ⟨x0, x1, x2⟩ := box_load X0.out
    go_wp2_with fail
    refine (CI.out _).mono ?_
    rintro e w1 ⟨rfl, hz⟩
    have B1 := Lib.hid (B0.out.trans (hz.mono B0.out.size))
    clear hz x0 x1 x2
    go_wp2_with fail
    go_ret2
    exact ⟨rfl, B1.out⟩
  case true =>
  simp only [hok] at HcI
  obtain ⟨hok1, hel⟩ := Bool.and_eq_true_iff.1 hok
  rcases ok_cases i s r with h | ⟨a, ha, rfl, rfl, rfl⟩
  · rw [hok1] at h; cases h
  rcases el_cases a.n z with h | ⟨x, rfl, hx, _⟩
  · rw [hel] at h; cases h
  have CI := Lib.hid HcI
  have hlo := ha.lo
  have h8 := ha.hi
  clear HcI hok hok1 hel hs hr
  by_cases h4 : a.n ≤ 4
  case neg =>
    rw [de_big (by omega)]
    have h4i : (4 : Int) < (a.n : Int) := by omega
    go_enter Tryz.func16, Tryz.ntmps16
    obtain ⟨x0, x1, x2⟩ := box_load X0.out
    go_wp2_with fail
    refine (CI.out _).mono ?_
    rintro e w1 ⟨rfl, hz⟩
    have B1 := Lib.hid (B0.out.trans (hz.mono B0.out.size))
    have X1 := Lib.hid (X0.out.call hz)
    clear hz x0 x1 x2
    obtain ⟨x0, x1, x2⟩ := box_load X1.out
    go_wp2_with fail
    go_ret2
    exact ⟨rfl, B1.out⟩
  case pos =>
  have h4i : ((a.n : Nat) : Int) ≤ 4 := by omega
  rw [de_yes ha hx h4]
  have hm := front_perm hx
  have hml := hm.len
  obtain ⟨c, hc⟩ : ∃ c, c = a.part (frontL a.n x) := ⟨_, rfl⟩
  rw [← hc]
  have hcn : c.n = a.n := by rw [hc]; exact hml
  have hcok : c.ok := by rw [hc]; exact part_ok (by rw [hml]; exact hlo) (by rw [hml]; exact h8)
  have hpa : ∀ (A : Option Addr) (cap : Nat) (W : World), LRow W A (natsI (frontL a.n x)) → Calls Tryz.prog 43 #[stV (a.n : Int) (bs a.set) (bs a.rel), .slice A a.n cap] W fun e w' => e = .returned (stV (c.n : Int) (bs c.set) (bs c.rel)) ∧ Below W.heap.size W w' := fun A cap W hA => by
    have h := partOf_calls a ha (frontL a.n x) hm.lt (by rw [hml]; exact h8) A cap W hA
    rw [hml, ← hc] at h
    exact h
  have HPA := Lib.hid hpa
  have HDB := Lib.hid (fun W => describedBy_calls c hcok (by omega) W)
  have hdl := des_len (n := c.n) (by omega) c.inS c.inR noQ
  rw [← bs_size] at hdl
  have htl := del_len (a := c) (by omega)
  have htx : bs (quL 1 (a.n - 1)) ++ bs (desF c.n c.inS c.inR noQ).text = bs (delF c).text := by rw [del_text, hcn]; exact eq_bs (by simp [bs_data])
  have hsf := fun W => shortFormula_yes (bs (delF c).text) W (by rw [bs_size]; omega)
  rw [← htx] at hsf ⊢
  obtain ⟨D, hD⟩ : ∃ D, D = bs (desF c.n c.inS c.inR noQ).text := ⟨_, rfl⟩
  rw [← hD] at HDB hdl hsf ⊢
  have HSF := Lib.hid hsf
  have HML := Lib.hid hml
  clear htl htx hsf hD hpa hcn hcok hc hm hml
  go_enter Tryz.func16, Tryz.ntmps16
  obtain ⟨x0, x1, x2⟩ := box_load X0.out
  go_wp2_with fail
  refine (CI.out _).mono ?_
  rintro e w1 ⟨rfl, hz⟩
  have B1 := Lib.hid (B0.out.trans (hz.mono B0.out.size))
  have X1 := Lib.hid (X0.out.call hz)
  clear hz x0 x1 x2
  obtain ⟨x0, x1, x2⟩ := box_load X1.out
  have B2 := Lib.hid (B1.out.alloc B1.out.size (.cells #[.int .i64 (x : Nat)] 3))
  have X2 := Lib.hid (X1.out.alloc (.cells #[.int .i64 (x : Nat)] 3))
  have O2 := Lib.hid (show (w1.alloc (.cells #[.int .i64 (x : Nat)] 3)).ownsRow w.heap.size 3 1 (.slice (some ⟨w1.heap.size, 0, none⟩) (frontL 0 x).length 1) (frontL 0 x).length (intsV (natsI (frontL 0 x))) from own_base (own_single w1 3 (.int .i64 (x : Nat))) B1.out.size)
  obtain ⟨y0, y1, y2⟩ := box_load X2.out
  go_wp2_with fail
  go_loopg [6, 23] a.n (fun q ov xv wr => ∃ (k g cp : Nat), k + q = a.n ∧ xv = .int .i64 (k : Nat) ∧ ov = .slice (some ⟨g, 0, none⟩) (frontL k x).length cp ∧ wr.ownsRow w.heap.size 3 1 (.slice (some ⟨g, 0, none⟩) (frontL k x).length cp) (frontL k x).length (intsV (natsI (frontL k x))) ∧ Bx wr w.heap.size 24 #[.int .i64 (a.n : Int), .string (bs a.set), .string (bs a.rel)] ∧ Below w.heap.size w wr)
  case atStart => exact ⟨0, _, 1, by omega, rfl, rfl, O2.out, X2.out, B2.out⟩
  case round =>
    clear O2 X2 B2 X1 B1 x0 x1 x2 y0 y1 y2
    obtain ⟨k, g, cp, hk, rfl, rfl, ho, hx2, hb⟩ := hrel
    have O1 := Lib.hid ho
    have XB := Lib.hid hx2
    have HB := Lib.hid hb
    clear ho hx2 hb
    obtain ⟨wo, rfl⟩ : ∃ x, x = wr := ⟨wr, rfl⟩
    by_cases hlt : k < a.n
    · have hfl := front_len k x
      by_cases he : k = x
      · have hne : (((k : Nat) : Int) != ((x : Nat) : Int)) = false := by rw [bne, he]; simp
        have HE := Lib.hid he
        clear he
        go_wp2_with fail
        go_roundg (a.n - k - 1)
        case rel => exact ⟨k + 1, g, cp, by omega, by go_num, by rw [front_succ, if_pos HE.out], by rw [front_succ, if_pos HE.out]; exact O1.out, XB.out, HB.out⟩
        case measure => omega
      · have hne : (((k : Nat) : Int) != ((x : Nat) : Int)) = true := by rw [bne_iff_ne]; omega
        have HE := Lib.hid he
        clear he
        go_wp2_with (at_builtin; refine wpList_append_own_at _ rfl (.tmp 29) (.tmp 31) 31 rfl w.heap.size 3 i0 (.int .i64 0) 1 8 Tryz.underlying31 hi hz0 hz1 hz2 rfl (by decide) _ (frontL k x).length (intsV (natsI (frontL k x))) rfl (O1.out.alloc _) ⟨wo.heap.size, 0, none⟩ 1 1 [.int .i64 (k : Nat)] rfl rfl (cell_one_new _ _ _) (ints_oneCell .i64 [((k : Nat) : Int)]) (by unfold maxLen; omega) (by omega) (by have := HB.out.size; first | omega | (simp; omega)) ?_; intro v5 w5 ho5 hg5 hn5 hat5; clear hn5 hat5; obtain ⟨g5, cp5, rfl⟩ := own_form ho5; have E5 := Lib.hid ((HB.out.alloc HB.out.size (.cells #[.int .i64 (k : Nat)] 3)).grown hg5 (by have := HB.out.size; simp; omega) (fun j hj => (O1.out.lt j hj).1)); have X5 := Lib.hid ((XB.out.alloc (.cells #[.int .i64 (k : Nat)] 3)).grown hg5 (own_apart O1.out XB.out (by decide))); have Z5 := Lib.hid ho5; clear ho5 hg5)
        go_roundg (a.n - k - 1)
        case rel => exact ⟨k + 1, g5, cp5, by omega, by go_num, by rw [front_succ, if_neg HE.out, List.length_append]; rfl, by rw [front_succ, if_neg HE.out, natsI_snoc, List.length_append]; exact Z5.out, X5.out, E5.out⟩
        case measure => omega
    · obtain rfl : k = a.n := by omega
      have hgk : gk = 0 := by omega
      subst hgk
      clear hlt hk
      have LO := Lib.hid (LRow_of O1.out)
      rw [HML.out]
      obtain ⟨x0, x1, x2⟩ := box_load XB.out
      go_wp2_with fail
      go_loopg [8, 9] (a.n - 1) (fun q ov xv wr => ∃ m : Nat, m + 1 + q = a.n ∧ ov = .string (bs (quL 1 m)) ∧ xv = .int .i64 ((m + 1 : Nat) : Int) ∧ wr = wo)
      case atStart => exact ⟨0, by omega, rfl, rfl, rfl⟩
      case round =>
        obtain ⟨m, hm, rfl, rfl, rfl⟩ := hrel
        have hqz : (bs (quL 1 m)).size ≤ 20 := by rw [bs_size, quL_len]; omega
        by_cases hlt : m + 1 < a.n
        · have hs1 := nm_size (m + 1)
          go_wp2_with fail
          refine (nameOf_calls (m + 1) (by omega) _).mono ?_
          rintro e w2 ⟨rfl, rfl⟩
          go_wp2_with fail
          go_roundg (a.n - m - 1 - 1)
          case rel => exact ⟨m + 1, by omega, str_eq (by have := quL_cat 1 m; rwa [Nat.add_comm 1 m] at this), by go_num, rfl⟩
          case measure => omega
        · obtain rfl : m = a.n - 1 := by omega
          have hgk : gk = 0 := by omega
          subst hgk
          clear hlt hm
          go_wp2_with fail
          refine (HPA.out _ cp _ LO.out).mono ?_
          rintro e w2 ⟨rfl, hz⟩
          have B2 := Lib.hid (HB.out.trans (hz.mono HB.out.size))
          clear hz x0 x1 x2
          go_wp2_with fail
          refine (HDB.out _).mono ?_
          rintro e w3 ⟨rfl, hz⟩
          have B3 := Lib.hid (B2.out.trans (hz.mono B2.out.size))
          clear hz
          go_wp2_with fail
          refine (HSF.out _).mono ?_
          rintro e w4 ⟨rfl, rfl⟩
          go_wp2_with fail
          go_ret2
          exact ⟨rfl, B3.out⟩

end Go.Proofs.YtpaleogkgfclnaaGreatDoor

namespace Go.Proofs.YtpaleogkgfclnaaGreatDoor
open Go.RowKit
open Pl
set_option linter.unusedSimpArgs false
set_option linter.unusedVariables false
attribute [local go_sem ↓] Go.wp_at_zero Go.wp_at_succ

theorem des_range {a : St} : desF a.n (fun i => a.inS (app (List.range a.n) i)) (fun i j => a.inR (app (List.range a.n) i) (app (List.range a.n) j)) noQ = desF a.n a.inS a.inR noQ :=
  des_congr (fun i hi => by show a.inS (app (List.range a.n) i) = _; rw [app_range hi]) (fun i j hi hj => by show a.inR (app (List.range a.n) i) (app (List.range a.n) j) = _; rw [app_range hi, app_range hj]) (fun _ _ _ _ => rfl)
theorem des_part {a : St} {m : List Nat} (hm : IsPerm a.n m) : desF a.n (fun i => a.inS (app m i)) (fun i j => a.inR (app m i) (app m j)) noQ = desF (a.part m).n (a.part m).inS (a.part m).inR noQ := by
  have hn : (a.part m).n = a.n := hm.len
  rw [hn]
  have hl := hm.len
  have h1 : ∀ i, i < m.length → (a.part m).inS i = a.inS (app m i) := fun i h => mkSt_inS h
  have h2 : ∀ i j, i < m.length → j < m.length → (a.part m).inR i j = a.inR (app m i) (app m j) := fun i j h h' => mkSt_inR h h'
  exact des_congr (fun i hi => (h1 i (by omega)).symm) (fun i j hi hj => (h2 i j (by omega) (by omega)).symm) (fun _ _ _ _ => rfl)

set_option maxHeartbeats 8000000 in
set_option maxRecDepth 100000 in
theorem DescribeStructure_spec (i : Int) (s r : ByteArray) (w : World) (hs : s.size ≤ maxLen) (hr : r.size ≤ maxLen) :
    Calls Tryz.prog 7 #[stV i s r] w fun e w' => e = .returned (.tuple #[.string (dsV i s r).1, .bool (dsV i s r).2]) ∧ Below w.heap.size w w' := by
  have HcI := fun W => StructureValid_spec i s r W hs hr
  have B0 := Lib.hid ((Below.refl w.heap.size w).alloc (Nat.le_refl _) (.cells #[.int .i64 i, .string s, .string r] 24))
  have X0 := Lib.hid (Bx.new w 24 #[.int .i64 i, .string s, .string r])
  cases hok : okB i s r
  case false =>
    rw [ds_no hok]
    simp only [hok] at HcI
    have CI := Lib.hid HcI
    clear HcI hok hs hr
    go_enter Tryz.func7, Tryz.ntmps7
    obtain ⟨x0, x1, x2⟩ := box_load X0.out
    go_wp2_with fail
    refine (CI.out _).mono ?_
    rintro e w1 ⟨rfl, hz⟩
    have B1 := Lib.hid (B0.out.trans (hz.mono B0.out.size))
    have X1 := Lib.hid (X0.out.call hz)
    clear hz x0 x1 x2
    obtain ⟨x0, x1, x2⟩ := box_load X1.out
    go_wp2_with fail
    go_ret2
    exact ⟨rfl, B1.out⟩
  case true =>
  simp only [hok] at HcI
  rcases ok_cases i s r with h | ⟨a, ha, rfl, rfl, rfl⟩
  · rw [hok] at h; cases h
  have CI := Lib.hid HcI
  have hlo := ha.lo
  have h8 := ha.hi
  clear HcI hok hs hr
  by_cases h3 : a.n ≤ 3
  case neg =>
    rw [ds_big (by omega)]
    have h3i : (3 : Int) < (a.n : Int) := by omega
    go_enter Tryz.func7, Tryz.ntmps7
    obtain ⟨x0, x1, x2⟩ := box_load X0.out
    go_wp2_with fail
    refine (CI.out _).mono ?_
    rintro e w1 ⟨rfl, hz⟩
    have B1 := Lib.hid (B0.out.trans (hz.mono B0.out.size))
    have X1 := Lib.hid (X0.out.call hz)
    clear hz x0 x1 x2
    obtain ⟨x0, x1, x2⟩ := box_load X1.out
    go_wp2_with fail
    go_ret2
    exact ⟨rfl, B1.out⟩
  case pos =>
  have h3i : ((a.n : Nat) : Int) ≤ 3 := by omega
  rw [ds_yes ha h3]
  have HAL := Lib.hid (fun W => l3All_calls a.n h8 W)
  have hcl := fun (g cap : Nat) (W : World) (hc : a.n ≤ cap) (hA : LRow W (some ⟨g, 0, none⟩) (natsI (List.range a.n))) => l3Closed_calls a ha (List.range a.n) (IsPerm.range a.n) (by omega) 0 (Nat.zero_le _) g cap hc W hA
  rw [des_range, Nat.sub_zero, ← dst_text] at hcl
  have HCL := Lib.hid hcl
  clear hcl
  go_enter Tryz.func7, Tryz.ntmps7
  obtain ⟨x0, x1, x2⟩ := box_load X0.out
  go_wp2_with fail
  refine (CI.out _).mono ?_
  rintro e w1 ⟨rfl, hz⟩
  have B1 := Lib.hid (B0.out.trans (hz.mono B0.out.size))
  have X1 := Lib.hid (X0.out.call hz)
  clear hz x0 x1 x2
  obtain ⟨x0, x1, x2⟩ := box_load X1.out
  go_upto_region 3 with (fail)
  have X2 := Lib.hid X1.out.drew
  have B2 := Lib.hid B1.out.drew
  clear x0 x1 x2
  refine region_sched [(0, true), (1, true), (2, true), (3, false), (4, false), (5, true), (6, true)] (fun w' : World => w'.cell? ⟨w.heap.size, 0, none⟩ = some (.int .i64 (a.n : Int)) ∧ w'.cell? ⟨w.heap.size, 1, none⟩ = some (.string (bs a.set)) ∧ w'.cell? ⟨w.heap.size, 2, none⟩ = some (.string (bs a.rel))) (by kernel_rfl) (by kernel_rfl) (by kernel_rfl) (by kernel_rfl) (fun _ _ _ _ h => h) ?_ (fun Q1 hQ1 => ?_)
  · exact box_load X2.out
  try simp only [List.append]
  refine sched_take' (v := .agg #[.int .i64 (a.n : Int), .string (bs a.set), .string (bs a.rel)]) (a' := ?_) rfl (by kernel_rfl) ?_ rfl ?_ ?_
  rotate_left 1
  · intro w hSw
    (try dsimp only at hSw)
    go_simp
    first | done | (obtain ⟨u0, u1, u2⟩ := hSw; simp [*])
  · (try simp only [Act.put, List.setIfInBounds_toArray, List.set_cons_zero, List.set_cons_succ])
    try rfl
  refine sched_take' (v := ?_) (a' := ?_) rfl (by kernel_rfl) ?_ rfl ?_ ?_
  rotate_left 2
  · intro w hSw
    (try dsimp only at hSw)
    go_simp
    try with_reducible rfl
  · (try simp only [Act.put, List.setIfInBounds_toArray, List.set_cons_zero, List.set_cons_succ])
    try rfl
  refine sched_take' (v := .int .i64 (a.n : Int)) (a' := ?_) rfl (by kernel_rfl) ?_ rfl ?_ ?_
  rotate_left 1
  · intro w hSw
    (try dsimp only at hSw)
    go_simp
    first | done | (obtain ⟨u0, u1, u2⟩ := hSw; simp [*])
  · (try simp only [Act.put, List.setIfInBounds_toArray, List.set_cons_zero, List.set_cons_succ])
    try rfl
  refine sched_call rfl (by kernel_rfl) (fun K1 hK1 => ?_)
  go_simp
  refine (HAL.out _).mono ?_
  rintro e w3 ⟨⟨g, cap, rfl, hgc, hrw⟩, hz⟩
  have X3 := Lib.hid (X2.out.call hz)
  have B3 := Lib.hid (B2.out.trans (hz.mono B2.out.size))
  have HRW := Lib.hid hrw
  clear hz hrw
  go_wp2_with fail
  refine hK1.out _ _ ?_ (sched_lay (a' := ?_) ?_ ?_)
  · exact box_load X3.out
  rotate_left 1
  · (try simp only [Act.put, List.getElem_toArray, List.getElem_cons_succ, List.getElem_cons_zero, List.setIfInBounds_toArray, List.set_cons_zero, List.set_cons_succ])
    try rfl
  clear hK1 K1
  refine sched_call rfl (by kernel_rfl) (fun K1 hK1 => ?_)
  go_simp
  refine (HCL.out g cap _ hgc HRW.out).mono ?_
  rintro e w4 ⟨rfl, hz⟩
  have X4 := Lib.hid (X3.out.call hz)
  have B4 := Lib.hid (B3.out.trans (hz.mono B3.out.size))
  clear hz
  go_wp2_with fail
  refine hK1.out _ _ ?_ (sched_lay (a' := ?_) ?_ ?_)
  · exact box_load X4.out
  rotate_left 1
  · (try simp only [Act.put, List.getElem_toArray, List.getElem_cons_succ, List.getElem_cons_zero, List.setIfInBounds_toArray, List.set_cons_zero, List.set_cons_succ])
    try rfl
  clear hK1 K1
  refine sched_take' (v := ?_) (a' := ?_) rfl (by kernel_rfl) ?_ rfl ?_ ?_
  rotate_left 2
  · intro w hSw
    (try dsimp only at hSw)
    go_simp
    try with_reducible rfl
  · (try simp only [Act.put, List.setIfInBounds_toArray, List.set_cons_zero, List.set_cons_succ])
    try rfl
  refine sched_take' (v := ?_) (a' := ?_) rfl (by kernel_rfl) ?_ rfl ?_ ?_
  rotate_left 2
  · intro w hSw
    (try dsimp only at hSw)
    go_simp
    try with_reducible rfl
  · (try simp only [Act.put, List.setIfInBounds_toArray, List.set_cons_zero, List.set_cons_succ])
    try rfl
  refine sched_done (hQ1.out _ _ ?_)
  go_wp2_with fail
  go_ret2
  exact ⟨rfl, B4.out⟩

set_option maxHeartbeats 8000000 in
set_option maxRecDepth 100000 in
theorem DescribeElement_spec (i : Int) (s r : ByteArray) (z : Int) (w : World) (hs : s.size ≤ maxLen) (hr : r.size ≤ maxLen) :
    Calls Tryz.prog 17 #[stV i s r, .int .i64 z] w fun e w' => e = .returned (.tuple #[.string (deV i s r z).1, .bool (deV i s r z).2]) ∧ Below w.heap.size w w' := by
  obtain ⟨i0, hi, hz0, hz1, hz2⟩ := info_parts (P := Tryz.prog) (e := 3) (z := .int .i64 0) (size := 1) (bytes := 8) (by kernel_rfl)
  have HcI := fun W => StructureValid_spec i s r W hs hr
  have B0 := Lib.hid ((Below.refl w.heap.size w).alloc (Nat.le_refl _) (.cells #[.int .i64 i, .string s, .string r] 24))
  have X0 := Lib.hid (Bx.new w 24 #[.int .i64 i, .string s, .string r])
  cases hok : okB i s r
  case false =>
    rw [de_no hok]
    simp only [hok] at HcI
    have CI := Lib.hid HcI
    clear HcI hok hs hr
    go_enter Tryz.func17, Tryz.ntmps17
    obtain ⟨x0, x1, x2⟩ := box_load X0.out
    go_wp2_with fail
    refine (CI.out _).mono ?_
    rintro e w1 ⟨rfl, hz⟩
    have B1 := Lib.hid (B0.out.trans (hz.mono B0.out.size))
    have X1 := Lib.hid (X0.out.call hz)
    clear hz x0 x1 x2
    obtain ⟨x0, x1, x2⟩ := box_load X1.out
    go_wp2_with fail
    go_ret2
    exact ⟨rfl, B1.out⟩
  case true =>
  simp only [hok] at HcI
  rcases ok_cases i s r with h | ⟨a, ha, rfl, rfl, rfl⟩
  · rw [hok] at h; cases h
  have CI := Lib.hid HcI
  have hlo := ha.lo
  have h8 := ha.hi
  clear HcI hok hs hr
  by_cases h4 : a.n ≤ 4
  case neg =>
    rw [de_big (by omega)]
    have h4i : (4 : Int) < (a.n : Int) := by omega
    go_enter Tryz.func17, Tryz.ntmps17
    obtain ⟨x0, x1, x2⟩ := box_load X0.out
    go_wp2_with fail
    refine (CI.out _).mono ?_
    rintro e w1 ⟨rfl, hz⟩
    have B1 := Lib.hid (B0.out.trans (hz.mono B0.out.size))
    have X1 := Lib.hid (X0.out.call hz)
    clear hz x0 x1 x2
    obtain ⟨x0, x1, x2⟩ := box_load X1.out
    go_wp2_with fail
    go_ret2
    exact ⟨rfl, B1.out⟩
  case pos =>
  have h4i : ((a.n : Nat) : Int) ≤ 4 := by omega
  have hin := fun (W : World) => l1In_calls z 0 ((a.n : Int) - 1) W
  rcases el_cases a.n z with hel | ⟨x, rfl, hx, hel⟩
  · rw [de_far hel]
    have hd : (decide (0 ≤ z) && decide (z ≤ (a.n : Int) - 1)) = false := by
      unfold elB at hel
      rw [← hel]
      congr 1
      rw [decide_eq_decide]
      omega
    simp only [hd] at hin
    have HIN := Lib.hid hin
    clear hin hd hel
    go_enter Tryz.func17, Tryz.ntmps17
    obtain ⟨x0, x1, x2⟩ := box_load X0.out
    go_wp2_with fail
    refine (CI.out _).mono ?_
    rintro e w1 ⟨rfl, hz⟩
    have B1 := Lib.hid (B0.out.trans (hz.mono B0.out.size))
    have X1 := Lib.hid (X0.out.call hz)
    clear hz x0 x1 x2
    obtain ⟨x0, x1, x2⟩ := box_load X1.out
    go_wp2_with fail
    refine (HIN.out _).mono ?_
    rintro e w2 ⟨rfl, rfl⟩
    go_wp2_with fail
    go_ret2
    exact ⟨rfl, B1.out⟩
  have hd : (decide ((0 : Int) ≤ (x : Nat)) && decide (((x : Nat) : Int) ≤ (a.n : Int) - 1)) = true := by rw [decide_eq_true (by omega), decide_eq_true (by omega)]; rfl
  simp only [hd] at hin
  have HIN := Lib.hid hin
  rw [de_yes ha hx h4]
  have hm := front_perm hx
  have hml := hm.len
  have hcl := fun (g cap : Nat) (W : World) (hc : a.n ≤ cap) (hA : LRow W (some ⟨g, 0, none⟩) (natsI (frontL a.n x))) => l3Closed_calls a ha (frontL a.n x) hm h4 1 hlo g cap hc W hA
  have hcn : (a.part (frontL a.n x)).n = a.n := hml
  have htx := del_text (a.part (frontL a.n x))
  rw [hcn] at htx
  rw [des_part hm, hcn] at hcl
  rw [← htx] at hcl
  have HCL := Lib.hid hcl
  have HML := Lib.hid hml
  clear hcl htx hcn hm hml hin hd hel
  go_enter Tryz.func17, Tryz.ntmps17
  obtain ⟨x0, x1, x2⟩ := box_load X0.out
  go_wp2_with fail
  refine (CI.out _).mono ?_
  rintro e w1 ⟨rfl, hz⟩
  have B1 := Lib.hid (B0.out.trans (hz.mono B0.out.size))
  have X1 := Lib.hid (X0.out.call hz)
  clear hz x0 x1 x2
  obtain ⟨x0, x1, x2⟩ := box_load X1.out
  have B2 := Lib.hid (B1.out.alloc B1.out.size (.cells #[.int .i64 (x : Nat)] 3))
  have X2 := Lib.hid (X1.out.alloc (.cells #[.int .i64 (x : Nat)] 3))
  have O2 := Lib.hid (show (w1.alloc (.cells #[.int .i64 (x : Nat)] 3)).ownsRow w.heap.size 3 1 (.slice (some ⟨w1.heap.size, 0, none⟩) (frontL 0 x).length 1) (frontL 0 x).length (intsV (natsI (frontL 0 x))) from own_base (own_single w1 3 (.int .i64 (x : Nat))) B1.out.size)
  go_wp2_with fail
  refine (HIN.out _).mono ?_
  rintro e w2 ⟨rfl, rfl⟩
  obtain ⟨y0, y1, y2⟩ := box_load X2.out
  go_wp2_with fail
  go_loopg [6, 7] a.n (fun q ov xv wr => ∃ (k g cp : Nat), k + q = a.n ∧ xv = .int .i64 (k : Nat) ∧ ov = .slice (some ⟨g, 0, none⟩) (frontL k x).length cp ∧ wr.ownsRow w.heap.size 3 1 (.slice (some ⟨g, 0, none⟩) (frontL k x).length cp) (frontL k x).length (intsV (natsI (frontL k x))) ∧ Bx wr w.heap.size 24 #[.int .i64 (a.n : Int), .string (bs a.set), .string (bs a.rel)] ∧ Below w.heap.size w wr)
  case atStart => exact ⟨0, _, 1, by omega, rfl, rfl, O2.out, X2.out, B2.out⟩
  case round =>
    clear O2 X2 B2 X1 B1 x0 x1 x2 y0 y1 y2
    obtain ⟨k, g, cp, hk, rfl, rfl, ho, hx2, hb⟩ := hrel
    have O1 := Lib.hid ho
    have XB := Lib.hid hx2
    have HB := Lib.hid hb
    clear ho hx2 hb
    obtain ⟨wo, rfl⟩ : ∃ x, x = wr := ⟨wr, rfl⟩
    obtain ⟨x0, x1, x2⟩ := box_load XB.out
    by_cases hlt : k < a.n
    · have hfl := front_len k x
      by_cases he : k = x
      · have hne : (((k : Nat) : Int) != ((x : Nat) : Int)) = false := by rw [bne, he]; simp
        have HE := Lib.hid he
        clear he
        go_wp2_with fail
        go_roundg (a.n - k - 1)
        case rel => exact ⟨k + 1, g, cp, by omega, by go_num, by rw [front_succ, if_pos HE.out], by rw [front_succ, if_pos HE.out]; exact O1.out, XB.out, HB.out⟩
        case measure => omega
      · have hne : (((k : Nat) : Int) != ((x : Nat) : Int)) = true := by rw [bne_iff_ne]; omega
        have HE := Lib.hid he
        clear he
        go_wp2_with (at_builtin; refine wpList_append_own_at _ rfl (.tmp 35) (.tmp 37) 31 rfl w.heap.size 3 i0 (.int .i64 0) 1 8 Tryz.underlying31 hi hz0 hz1 hz2 rfl (by decide) _ (frontL k x).length (intsV (natsI (frontL k x))) rfl (O1.out.alloc _) ⟨wo.heap.size, 0, none⟩ 1 1 [.int .i64 (k : Nat)] rfl rfl (cell_one_new _ _ _) (ints_oneCell .i64 [((k : Nat) : Int)]) (by unfold maxLen; omega) (by omega) (by have := HB.out.size; first | omega | (simp; omega)) ?_; intro v5 w5 ho5 hg5 hn5 hat5; clear hn5 hat5; obtain ⟨g5, cp5, rfl⟩ := own_form ho5; have E5 := Lib.hid ((HB.out.alloc HB.out.size (.cells #[.int .i64 (k : Nat)] 3)).grown hg5 (by have := HB.out.size; simp; omega) (fun j hj => (O1.out.lt j hj).1)); have X5 := Lib.hid ((XB.out.alloc (.cells #[.int .i64 (k : Nat)] 3)).grown hg5 (own_apart O1.out XB.out (by decide))); have Z5 := Lib.hid ho5; clear ho5 hg5)
        go_roundg (a.n - k - 1)
        case rel => exact ⟨k + 1, g5, cp5, by omega, by go_num, by rw [front_succ, if_neg HE.out, List.length_append]; rfl, by rw [front_succ, if_neg HE.out, natsI_snoc, List.length_append]; exact Z5.out, X5.out, E5.out⟩
        case measure => omega
    · obtain rfl : k = a.n := by omega
      have hgk : gk = 0 := by omega
      subst hgk
      clear hlt hk
      have LO := Lib.hid (LRow_of O1.out)
      have hcp : a.n ≤ cp := by
        have e0 := HML.out
        rcases O1.out.2 with ⟨e, _⟩ | ⟨g', c', cur, e, _, _, h5, _⟩
        · cases e
        · injection e with _ _ e
          subst e
          omega
      rw [HML.out]
      go_wp2_with fail
      refine (HCL.out g cp _ hcp LO.out).mono ?_
      rintro e w3 ⟨rfl, hz⟩
      have B3 := Lib.hid (HB.out.trans (hz.mono HB.out.size))
      clear hz x0 x1 x2
      go_wp2_with fail
      go_ret2
      exact ⟨rfl, B3.out⟩

end Go.Proofs.YtpaleogkgfclnaaGreatDoor

namespace Go.Proofs.YtpaleogkgfclnaaGreatDoor
open Go.RowKit
open Pl
set_option linter.unusedSimpArgs false
set_option linter.unusedVariables false

end Go.Proofs.YtpaleogkgfclnaaGreatDoor

namespace Go.Proofs.YtpaleogkgfclnaaGreatDoor
open Go.RowKit
open Pl
set_option linter.unusedSimpArgs false
set_option linter.unusedVariables false

theorem natsI_nodup {l : List Nat} (h : l.Nodup) : (natsI l).Nodup := by
  unfold natsI
  exact map_nodup _ h fun x _ y _ e => by omega
theorem natsI_toNat (l : List Nat) : (natsI l).map Int.toNat = l := by
  unfold natsI
  rw [List.map_map]
  conv => rhs; rw [← List.map_id l]
  exact List.map_congr_left fun x _ => by simp
theorem partB_nats {a : St} (ha : a.ok) {l : List Nat} (h1 : ∀ x ∈ l, x < a.n) (h2 : l.Nodup) (h3 : 0 < l.length) : partB a.n (bs a.set) (bs a.rel) (natsI l) = true := by
  unfold partB
  have e1 : elAll (a.n : Int) (natsI l) = true := by
    unfold elAll
    rw [List.all_eq_true]
    intro z hz
    obtain ⟨x, hx, rfl⟩ := List.mem_map.1 hz
    have := h1 x hx
    unfold elB
    simp
    omega
  have e2 : nodB (natsI l) = true := decide_eq_true (natsI_nodup h2)
  rw [okB_true ha, e1, e2, natsI_len, decide_eq_true h3]
  rfl
theorem partO_nats {a : St} (ha : a.ok) {l : List Nat} (h1 : ∀ x ∈ l, x < a.n) (h2 : l.Nodup) (h3 : 0 < l.length) : partO a.n (bs a.set) (bs a.rel) (natsI l) = some (a.part l) := by
  rw [part_yes (partB_nats ha h1 h2 h3), natsI_toNat]
theorem moveO_nats {a : St} (ha : a.ok) {l : List Nat} (h : IsPerm a.n l) : moveO a.n (bs a.set) (bs a.rel) (natsI l) = some (a.part l) := by
  unfold moveO
  rw [natsI_len, if_pos (by rw [h.len]), partO_nats ha h.lt h.nodup (by rw [h.len]; exact ha.lo)]
theorem st_100' {a : St} (ha : a.ok) : (bs a.set).size ≤ maxLen ∧ (bs a.rel).size ≤ maxLen := by have := st_small ha; unfold maxLen; omega

theorem part_st {a : St} (ha : a.ok) {l : List Nat} (h1 : ∀ x ∈ l, x < a.n) (h2 : l.Nodup) (h3 : 0 < l.length) (h8 : l.length ≤ 8) (A : Option Addr) (cap : Nat) (hc : l.length ≤ cap) (W : World) (hA : LRow W A (natsI l)) :
    Calls Tryz.prog 36 #[stA a, .slice A l.length cap] W fun e w' => e = .returned (.tuple #[stA (a.part l), .bool true]) ∧ Below W.heap.size W w' := by
  have h := PartOf_impl (a.n : Int) (bs a.set) (bs a.rel) A (natsI l) cap W (st_100' ha).1 (st_100' ha).2 (by rw [natsI_len]; omega) (by rw [natsI_len]; exact hc) hA
  rw [partO_nats ha h1 h2 h3, natsI_len] at h
  exact h
theorem move_st {a : St} (ha : a.ok) {l : List Nat} (hp : IsPerm a.n l) (A : Option Addr) (cap : Nat) (hc : l.length ≤ cap) (W : World) (hA : LRow W A (natsI l)) :
    Calls Tryz.prog 11 #[stA a, .slice A l.length cap] W fun e w' => e = .returned (.tuple #[stA (a.part l), .bool true]) ∧ Below W.heap.size W w' := by
  have h8 := ha.hi
  have hl := hp.len
  have h := MoveElements_impl (a.n : Int) (bs a.set) (bs a.rel) A (natsI l) cap W (st_100' ha).1 (st_100' ha).2 (by rw [natsI_len]; omega) (by rw [natsI_len]; exact hc) hA
  rw [moveO_nats ha hp, natsI_len] at h
  exact h

theorem shpI_any (i : Int) (s r : ByteArray) (j : Int) (t u : ByteArray) (hs : s.size ≤ 100) (hr : r.size ≤ 100) (ht : t.size ≤ 100) (hu : u.size ≤ 100) (L : List (List Nat)) (hL : shpL i s r j t u = L) (W : World) :
    Calls Tryz.prog 10 #[stV i s r, stV j t u] W fun e w' => (∃ A cap, e = .returned (.tuple #[.slice A (L.headD []).length cap, .bool (!L.isEmpty)]) ∧ (L.headD []).length ≤ cap ∧ LRow w' A (natsI (L.headD []))) ∧ Below W.heap.size W w' := by
  subst hL
  refine (SameShape_impl i s r j t u W (by unfold maxLen; omega) (by unfold maxLen; omega) (by unfold maxLen; omega) (by unfold maxLen; omega)).mono fun e w' ⟨⟨v, h1, h2⟩, hb⟩ => ⟨?_, hb⟩
  obtain ⟨A, cap, rfl, hc, hrow⟩ := own_open h2
  exact ⟨A, cap, h1, hc, hrow⟩
theorem shp_sym {i : Int} {s r : ByteArray} {j : Int} {t u : ByteArray} (h : shpL i s r j t u = []) : shpL j t u i s r = [] := by
  rcases shp_cases j t u i s r with ⟨_, h1⟩ | ⟨_, _, h1⟩ | ⟨_, _, _, h1⟩ | ⟨b, a, hb, ha, hab, rfl, rfl, rfl, rfl, rfl, rfl, h1⟩
  · exact h1
  · exact h1
  · exact h1
  · rw [h1]
    have h2 : shpL a.n (bs a.set) (bs a.rel) b.n (bs b.set) (bs b.rel) = isos a b := by
      unfold shpL
      rw [okB_true ha, okB_true hb, ofSt_eq, ofSt_eq, hab]
      simp
    rw [h2] at h
    have := isos_ne_sym (a := a) (b := b) hab.symm
    rw [h] at this
    simpa using this
theorem shp_st {a b : St} (ha : a.ok) (hb : b.ok) (hab : a.n = b.n) : shpL a.n (bs a.set) (bs a.rel) b.n (bs b.set) (bs b.rel) = isos a b := by
  unfold shpL
  rw [okB_true ha, okB_true hb, ofSt_eq, ofSt_eq, hab]
  simp

end Go.Proofs.YtpaleogkgfclnaaGreatDoor

namespace Go.Proofs.YtpaleogkgfclnaaGreatDoor
open Go.RowKit
open Pl
set_option linter.unusedSimpArgs false
set_option linter.unusedVariables false

/-- the elements for which a formula is true -/
noncomputable def setV (i : Int) (s r f : ByteArray) : List Nat := if rdyB i s r f 1 then rk (fun x => truV i s r f [x]) (ofSt i s r).n else []
theorem set_no {i : Int} {s r f : ByteArray} (h : rdyB i s r f 1 = false) : setV i s r f = [] := by unfold setV; rw [h]; rfl
theorem set_yes {a : St} {f : ByteArray} {g : Fm} (hf : f.data.toList = g.text) (h : rdyB a.n (bs a.set) (bs a.rel) f 1 = true) : setV a.n (bs a.set) (bs a.rel) f = rk (fun x => g.holds a (envL [x])) a.n := by
  unfold setV
  rw [h]
  simp only [tru_of hf, ofSt_eq, if_true]
theorem set_le (i : Int) (s r f : ByteArray) : (setV i s r f).length ≤ 8 := by
  unfold setV
  split
  · rename_i h
    rcases ok_cases i s r with h1 | ⟨a, ha, rfl, rfl, rfl⟩
    · rw [rdy_noSt h1] at h; cases h
    · have h8 := ha.hi
      rw [ofSt_eq]
      exact Nat.le_trans (rk_len _ _) h8
  · simp

end Go.Proofs.YtpaleogkgfclnaaGreatDoor

namespace Go.Proofs.YtpaleogkgfclnaaGreatDoor
open Go.RowKit
open Pl
set_option linter.unusedSimpArgs false
set_option linter.unusedVariables false

theorem shp_far {a b : St} (h : ¬ a.n = b.n) : shpL a.n (bs a.set) (bs a.rel) b.n (bs b.set) (bs b.rel) = [] := by
  unfold shpL
  rw [decide_eq_false (show ¬ (a.n : Int) = b.n by omega), Bool.and_false, Bool.and_false]
  rfl
theorem list_some {α : Type} {L : List α} : (!L.isEmpty) = true ↔ ∃ m, m ∈ L := by
  cases L with
  | nil => simp
  | cons m r => exact ⟨fun _ => ⟨m, by simp⟩, fun _ => rfl⟩
/-- the description of a structure is true in those of its shape alone -/
theorem dst_in {a b : St} (ha : a.ok) (hb : b.ok) (h3 : a.n ≤ 3) : holdB b.n (bs b.set) (bs b.rel) (bs (dstF a).text) [] = true ∧
    holdV b.n (bs b.set) (bs b.rel) (bs (dstF a).text) [] = !(shpL a.n (bs a.set) (bs a.rel) b.n (bs b.set) (bs b.rel)).isEmpty := by
  obtain ⟨_, _, hf⟩ := dst_facts ha.lo h3
  have hl : (dstF a).text.length ≤ 4000 := by have := dst_len (a := a) (by omega); omega
  obtain ⟨h1, h2⟩ := hold_fm hb hl (ns := []) (by simp) (by simp) (by rw [hf]; rfl)
  refine ⟨h1, h2.trans ?_⟩
  rw [Bool.eq_iff_iff, dst_holds h3, list_some]
  by_cases hn : b.n = a.n
  · rw [shp_st ha hb hn.symm]
    constructor
    · rintro ⟨_, m, hm⟩
      exact ⟨_, iso_inv hn hm⟩
    · rintro ⟨m, hm⟩
      exact ⟨hn, _, iso_inv hn.symm hm⟩
  · rw [shp_far fun e => hn e.symm]
    exact ⟨fun h => absurd h.1 hn, fun ⟨m, hm⟩ => absurd hm (by simp)⟩
theorem dst_part {a : St} (ha : a.ok) (h3 : a.n ≤ 3) {l : List Nat} (hp : IsPerm a.n l) : holdB (a.part l).n (bs (a.part l).set) (bs (a.part l).rel) (bs (dstF a).text) [] = true ∧ holdV (a.part l).n (bs (a.part l).set) (bs (a.part l).rel) (bs (dstF a).text) [] = true := by
  have hn : (a.part l).n = a.n := hp.len
  have hok : (a.part l).ok := part_ok (by rw [hp.len]; exact ha.lo) (by rw [hp.len]; exact ha.hi)
  obtain ⟨h1, h2⟩ := dst_in ha hok h3
  refine ⟨h1, h2.trans ?_⟩
  rw [list_some, shp_st ha hok hn.symm]
  exact ⟨l, part_iso hp⟩
theorem dst_self {a : St} (ha : a.ok) (h3 : a.n ≤ 3) : holdB a.n (bs a.set) (bs a.rel) (bs (dstF a).text) [] = true ∧ holdV a.n (bs a.set) (bs a.rel) (bs (dstF a).text) [] = true := by
  have h := dst_part ha h3 (IsPerm.range a.n)
  rwa [part_range ha] at h
/-- the description of an element defines its orbit -/
theorem del_len' {a : St} {x : Nat} (hx : x < a.n) (h4 : a.n ≤ 4) : (delF (a.part (frontL a.n x))).text.length ≤ 4000 := by
  have hn : (a.part (frontL a.n x)).n = a.n := (front_perm hx).len
  have := del_len (a := a.part (frontL a.n x)) (by omega)
  omega
theorem del_free {a : St} {x : Nat} (hx : x < a.n) (h4 : a.n ≤ 4) : (delF (a.part (frontL a.n x))).freeBits = 1 := by
  have hn : (a.part (frontL a.n x)).n = a.n := (front_perm hx).len
  exact del_facts (by omega) (by omega)
theorem del_set {a : St} (ha : a.ok) {x : Nat} (hx : x < a.n) (h4 : a.n ≤ 4) : rdyB a.n (bs a.set) (bs a.rel) (bs (delF (a.part (frontL a.n x))).text) 1 = true ∧
    setV a.n (bs a.set) (bs a.rel) (bs (delF (a.part (frontL a.n x))).text) = orbV a.n (bs a.set) (bs a.rel) (x : Nat) := by
  have hl := del_len' hx h4
  have h1 : rdyB a.n (bs a.set) (bs a.rel) (bs (delF (a.part (frontL a.n x))).text) 1 = true := by
    rw [rdy_of (fm_bs hl) (bs_list _) ha, del_free hx h4]
    rfl
  refine ⟨h1, ?_⟩
  rw [set_yes (bs_list _) h1, orbV_nat ha hx]
  show (List.range a.n).filter _ = (List.range a.n).filter _
  refine List.filter_congr fun y hy => ?_
  have hy := List.mem_range.1 hy
  have h2 := del_orbit hx hy h4 (envL [y]) rfl
  rw [Bool.eq_iff_iff, h2]
  show y ∈ (List.range a.n).filter _ ↔ _
  rw [List.mem_filter]
  exact ⟨fun h => h.2, fun h => ⟨List.mem_range.2 hy, h⟩⟩
theorem del_at {a b : St} (ha : a.ok) (hb : b.ok) {x y : Nat} (hx : x < a.n) (h4 : a.n < 4) (hy : y < b.n) : holdB b.n (bs b.set) (bs b.rel) (bs (delF (a.part (frontL a.n x))).text) [(y : Int)] = true ∧
    (holdV b.n (bs b.set) (bs b.rel) (bs (delF (a.part (frontL a.n x))).text) [(y : Int)] = true → (!(shpL a.n (bs a.set) (bs a.rel) b.n (bs b.set) (bs b.rel)).isEmpty) = true) := by
  have hl := del_len' hx (by omega)
  obtain ⟨h1, h2⟩ := hold_fm hb hl (ns := [y]) (by simpa using hy) (by simp) (by rw [del_free hx (by omega)]; exact (by decide : 1 / 2 ^ 1 = 0))
  refine ⟨h1, fun h => ?_⟩
  have h3 := h2.symm.trans h
  obtain ⟨hn, m, hm⟩ := del_shape hx h4 (envL [y]) hy h3
  rw [list_some, shp_st ha hb hn.symm]
  exact ⟨m, hm⟩
end Go.Proofs.YtpaleogkgfclnaaGreatDoor

namespace Go.Proofs.YtpaleogkgfclnaaGreatDoor
open Go.RowKit
open Pl

/-- does a text count, where it is a formula -/
noncomputable def cntV (l : List UInt8) : Bool := decide (numV l (fun f => if f.counts then 1 else 0) = 1)

theorem cntV_yes {l : List UInt8} {f : Fm} (h : l = f.text) (hl : l.length ≤ 4000) : cntV l = f.counts := by
  unfold cntV
  rw [numV_yes _ h hl]
  cases f.counts <;> simp

theorem cntV_no {l : List UInt8} (h : ¬ IsFm l) : cntV l = false := by
  unfold cntV
  rw [numV_no _ h]
  rfl

theorem findB_lt {c : UInt8} {l : List UInt8} (h : c ∉ l) : findB c l < 0 := by
  have := mt findB_nonneg.1 h
  omega

theorem CountsOf_impl (s : ByteArray) (w : World) :
    Calls Tryz.prog 14 #[.string s] w fun e w' => e = .returned (.bool (cntV s.data.toList)) ∧ Below w.heap.size w w' := by
  rcases fm_cases s with ⟨hb, hno⟩ | ⟨f, hb, hf, hs4, hl4⟩
  · have hv := cntV_no hno
    rw [hv]
    have Hno := Lib.hid hno
    clear hb hv hno
    go_enter Tryz.func14, Tryz.ntmps14
    go_wp2_with (go_at_call 37; refine (parseFormula_no s w Hno.out).mono ?_; rintro e w1 ⟨rfl, hb1⟩)
    go_ret
    exact ⟨rfl, hb1⟩
  · have hv := cntV_yes hf (by rw [hf]; exact hl4)
    rw [hv]
    have Hf := Lib.hid hf
    clear hb hv hf
    go_enter Tryz.func14, Tryz.ntmps14
    go_wp2_with (first | (go_at_call 37; refine (parseFormula_yes s f w hs4 Hf.out).mono ?_; rintro e w1 ⟨b, rfl, htr, hb1⟩; have Htr := Lib.hid htr; clear htr) | (go_at_call 40; refine (counts_calls f.size f b _ _ (Nat.le_refl _) Htr.out).mono ?_; rintro e w' ⟨rfl, rfl⟩))
    go_ret
    exact ⟨rfl, hb1⟩

/-- how many variables -/
def Pl.Fm.width (f : Fm) : Nat := (varsL f.allBits 4).length

theorem width_bit (f : Fm) (k : Nat) (hk : k < 4) : f.allBits.testBit k = decide (0 ≤ findB (UInt8.ofNat (97 + k)) f.text) := by
  rw [Bool.eq_iff_iff, decide_eq_true_iff, findB_nonneg]
  exact all_text f ⟨k, hk⟩

end Go.Proofs.YtpaleogkgfclnaaGreatDoor

namespace Go.Proofs.YtpaleogkgfclnaaGreatDoor
open Go.RowKit
set_option linter.unusedVariables false

section
variable {md : Region.Mode} {ops : Array Oper}

/-- a part of the order -/
def schedPart (md : Region.Mode) (ops : Array Oper) : List (Nat × Bool) → Array Bool → Bool
  | [], _ => true
  | (i, true) :: is, listed => Region.free md ops listed i && ((Region.ready md ops listed).contains i && schedPart md ops is (listed.setIfInBounds i true))
  | (i, false) :: is, listed => (Region.ready md ops listed == [i]) && schedPart md ops is (listed.setIfInBounds i true)
/-- what is listed behind it -/
def layB : List (Nat × Bool) → Array Bool → Array Bool
  | [], l => l
  | (i, _) :: is, l => layB is (l.setIfInBounds i true)
theorem schedOk_app : ∀ (is1 is2 : List (Nat × Bool)) (l : Array Bool), schedPart md ops is1 l = true → schedOk md ops is2 (layB is1 l) = true → schedOk md ops (is1 ++ is2) l = true := by
  intro is1
  induction is1 with
  | nil => intro is2 l _ h; exact h
  | cons p is ih =>
    obtain ⟨i, b⟩ := p
    intro is2 l h1 h2
    cases b with
    | true =>
      simp only [schedPart, Bool.and_eq_true] at h1
      simp only [List.cons_append, schedOk, Bool.and_eq_true]
      exact ⟨h1.1, h1.2.1, ih is2 _ h1.2.2 h2⟩
    | false =>
      simp only [schedPart, Bool.and_eq_true] at h1
      simp only [List.cons_append, schedOk, Bool.and_eq_true]
      exact ⟨h1.1, ih is2 _ h1.2 h2⟩
theorem schedOk_cut (is1 is2 : List (Nat × Bool)) (l l' : Array Bool) (h1 : schedPart md ops is1 l = true) (hl : layB is1 l = l') (h2 : schedOk md ops is2 l' = true) : schedOk md ops (is1 ++ is2) l = true :=
  schedOk_app is1 is2 l h1 (by rw [hl]; exact h2)
end

end Go.Proofs.YtpaleogkgfclnaaGreatDoor

namespace Go.Proofs.YtpaleogkgfclnaaGreatDoor
open Go.RowKit
open Pl
set_option linter.unusedSimpArgs false
set_option linter.unusedVariables false
attribute [local go_sem ↓] Go.wp_at_zero Go.wp_at_succ

/-- the law's order of n elements -/
def ordM (n m k : Nat) : List Nat := (List.range k).map fun i => (i + m) % n
theorem ordM_succ (n m k : Nat) : ordM n m (k + 1) = ordM n m k ++ [(k + m) % n] := by simp [ordM, List.range_succ]
theorem ordM_mod (n m k : Nat) : ordM n m k = ordM n (m % n) k := by
  unfold ordM
  apply List.map_congr_left
  intro i _
  simp [Nat.add_mod]
theorem ordM_dec : ∀ n : Fin 9, ∀ m : Fin 8, 1 ≤ n.val → (ordM n.val m.val n.val).Nodup ∧ ∀ x ∈ ordM n.val m.val n.val, x < n.val := by decide +kernel
theorem ordM_perm {n : Nat} (h1 : 1 ≤ n) (h8 : n ≤ 8) (m : Nat) : IsPerm n (ordM n m n) := by
  have hm : m % n < n := Nat.mod_lt _ (by omega)
  have h := ordM_dec ⟨n, by omega⟩ ⟨m % n, by omega⟩ h1
  rw [ordM_mod]
  exact ⟨by simp [ordM], h.1, h.2⟩
theorem own_capD {W : World} {base n g cp : Nat} {e : TypeId} {xs : List Value} (h : W.ownsRow base e 1 (.slice (some ⟨g, 0, none⟩) n cp) n xs) : n ≤ cp := by
  rcases h.2 with ⟨e, _⟩ | ⟨g', c', cur, e, _, _, h5, _⟩
  · cases e
  · injection e with _ _ e
    subst e
    exact h5

set_option maxHeartbeats 16000000 in
set_option maxRecDepth 100000 in
theorem FnDescribeStructure_walk (A : Option Addr) (n cap : Nat) (AA : Option Addr) (n2 cap2 : Nat) (w : World) (h : ByRow w A n) (hc : n ≤ cap) (hm : cap ≤ maxLen) (h2 : ByRow w AA n2) (hc2 : n2 ≤ cap2) (hm2 : cap2 ≤ maxLen) :
    Calls Tryz.prog 3 #[.slice A n cap, .slice AA n2 cap2] w fun e w' => e = .returned (.bool true) ∧ Below w.heap.size w w' := by
  obtain ⟨i0, hi, hz0, hz1, hz2⟩ := info_parts (P := Tryz.prog) (e := 3) (z := .int .i64 0) (size := 1) (bytes := 8) (by kernel_rfl)
  by_cases hn : n ≤ 1048576
  case neg =>
    have hni : (1048576 : Int) < (n : Int) := by omega
    clear h hc hm h2 hc2 hm2
    go_enter Tryz.func3, Tryz.ntmps3
    go_wp2_with fail
    go_ret
    exact ⟨rfl, Below.refl _ _⟩
  case pos =>
  have hni : (n : Int) ≤ 1048576 := by omega
  by_cases hn2 : n2 ≤ 1048576
  case neg =>
    have hni2 : (1048576 : Int) < (n2 : Int) := by omega
    clear h hc hm h2 hc2 hm2
    go_enter Tryz.func3, Tryz.ntmps3
    go_wp2_with fail
    go_ret
    exact ⟨rfl, Below.refl _ _⟩
  case pos =>
  have hni2 : (n2 : Int) ≤ 1048576 := by omega
  have HD := Lib.hid (DrawDescribeStructure_calls A n cap w h hn hc hm)
  have HE := Lib.hid (fun (W : World) (h : ByRow W AA n2) => DrawDescribeStructure_calls AA n2 cap2 W h hn2 hc2 hm2)
  have HM := Lib.hid h2
  clear h hc hm h2 hc2 hm2
  go_enter Tryz.func3, Tryz.ntmps3
  go_wp2_with fail
  refine (HD.out).mono ?_
  rintro e w1 ⟨⟨i, s, r, rfl, hi1, hs, hr⟩, hz⟩
  have B1 := Lib.hid (hz.alloc hz.size (.cells #[.int .i64 i, .string s, .string r] 24))
  have X1 := Lib.hid (Bx.new w1 24 #[.int .i64 i, .string s, .string r])
  have M1 := Lib.hid ((HM.out.call hz).call ((Below.refl _ _).alloc (Nat.le_refl _) (.cells #[.int .i64 i, .string s, .string r] 24)))
  have ci := fun W => DescribeStructure_impl i s r W (by unfold maxLen; omega) (by unfold maxLen; omega)
  have cs := fun W => DescribeStructure_spec i s r W (by unfold maxLen; omega) (by unfold maxLen; omega)
  clear hz hi1
  rcases ds_cases i s r with hv | ⟨a, ha, h3, rfl, rfl, rfl, hv⟩
  · simp only [hv] at ci cs
    have CI := Lib.hid ci
    have CS := Lib.hid cs
    clear ci cs hv
    obtain ⟨x0, x1, x2⟩ := box_load X1.out
    go_wp2_with fail
    refine (CI.out _).mono ?_
    rintro e w2 ⟨rfl, hz⟩
    have B2 := Lib.hid (B1.out.trans (hz.mono B1.out.size))
    have X2 := Lib.hid (X1.out.call hz)
    clear hz
    clear x0 x1 x2
    obtain ⟨x0, x1, x2⟩ := box_load X2.out
    go_wp2_with fail
    refine (CS.out _).mono ?_
    rintro e w3 ⟨rfl, hz⟩
    have B3 := Lib.hid (B2.out.trans (hz.mono B2.out.size))
    have X3 := Lib.hid (X2.out.call hz)
    clear hz
    go_wp2_with fail
    go_ret
    exact ⟨rfl, B3.out⟩
  simp only [hv] at ci cs
  clear hv
  have hlo := ha.lo
  have h8 := ha.hi
  obtain ⟨hf1, hf2, hf3⟩ := dst_facts hlo h3
  have htl := dst_len (a := a) (by omega)
  have hfd : (bs (dstF a).text).data.toList = (dstF a).text := bs_list _
  have hlen : (bs (dstF a).text).data.toList.length ≤ 4000 := by rw [hfd]; omega
  have cfv := fun W => FreeVars_impl (bs (dstF a).text) W
  rw [txtV_yes freeT hfd hlen, show freeT (dstF a) = [] by unfold freeT; rw [hf3]; rfl, show bs [] = (⟨#[]⟩ : ByteArray) from rfl] at cfv
  have crk := fun W => RankOf_impl (bs (dstF a).text) W
  rw [numV_yes Fm.rank hfd hlen, hf1] at crk
  have cco := fun W => CountsOf_impl (bs (dstF a).text) W
  rw [cntV_yes hfd hlen, hf2] at cco
  obtain ⟨l, hl⟩ : ∃ l, l = ordM a.n n2 a.n := ⟨_, rfl⟩
  have hp : IsPerm a.n l := by rw [hl]; exact ordM_perm hlo h8 n2
  have hll := hp.len
  have cm : ∀ (A2 : Option Addr) (c2 : Nat), a.n ≤ c2 → ∀ W, LRow W A2 (natsI l) → Calls Tryz.prog 11 #[stV a.n (bs a.set) (bs a.rel), .slice A2 a.n c2] W fun e w' => e = .returned (.tuple #[stV (a.part l).n (bs (a.part l).set) (bs (a.part l).rel), .bool true]) ∧ Below W.heap.size W w' := fun A2 c2 hc2 W hW => by
    have := move_st ha hp A2 c2 (by rw [hll]; exact hc2) W hW
    rwa [hll] at this
  have hok : (a.part l).ok := part_ok (by rw [hll]; exact hlo) (by rw [hll]; exact h8)
  have chc := fun W => HoldsIn_impl (a.part l).n (bs (a.part l).set) (bs (a.part l).rel) (bs (dstF a).text) W (st_100' hok).1 (st_100' hok).2
  rw [(dst_part ha h3 hp).1, (dst_part ha h3 hp).2] at chc
  have cha := fun W => HoldsIn_impl a.n (bs a.set) (bs a.rel) (bs (dstF a).text) W (st_100' ha).1 (st_100' ha).2
  rw [(dst_self ha h3).1, (dst_self ha h3).2] at cha
  have chb := fun (j : Int) (t u : ByteArray) (ht : t.size ≤ 100) (hu : u.size ≤ 100) W => HoldsIn_impl j t u (bs (dstF a).text) W (by unfold maxLen; omega) (by unfold maxLen; omega)
  have hin := fun (b : St) (hb : b.ok) => dst_in ha hb h3
  obtain ⟨FT, hFT⟩ : ∃ FT, FT = bs (dstF a).text := ⟨_, rfl⟩
  simp only [← hFT] at ci cs cfv crk cco chc cha chb hin
  have CI := Lib.hid ci
  have CS := Lib.hid cs
  have CFV := Lib.hid cfv
  have CRK := Lib.hid crk
  have CCO := Lib.hid cco
  have CM := Lib.hid cm
  have CHC := Lib.hid chc
  have CHA := Lib.hid cha
  have CHB := Lib.hid chb
  have HIN := Lib.hid hin
  have HL := Lib.hid hl
  have HAO := Lib.hid ha
  clear ci cs cfv crk cco cm chc cha chb hin hf1 hf2 hf3 htl hfd hlen hok hp hll hl hFT
  obtain ⟨x0, x1, x2⟩ := box_load X1.out
  go_wp2_with fail
  refine (CI.out _).mono ?_
  rintro e w2 ⟨rfl, hz⟩
  have B2 := Lib.hid (B1.out.trans (hz.mono B1.out.size))
  have X2 := Lib.hid (X1.out.call hz)
  have M2 := Lib.hid (M1.out.call hz)
  clear hz
  clear x0 x1 x2
  obtain ⟨x0, x1, x2⟩ := box_load X2.out
  go_wp2_with fail
  refine (CS.out _).mono ?_
  rintro e w3 ⟨rfl, hz⟩
  have B3 := Lib.hid (B2.out.trans (hz.mono B2.out.size))
  have X3 := Lib.hid (X2.out.call hz)
  have M3 := Lib.hid (M2.out.call hz)
  clear hz
  clear x0 x1 x2
  go_wp2_with fail
  refine (HE.out _ M3.out).mono ?_
  rintro e w4 ⟨⟨j, t, u, rfl, hj, ht, hu⟩, hz⟩
  have B4 := Lib.hid ((B3.out.trans (hz.mono B3.out.size)).alloc (Nat.le_trans B3.out.size hz.size) (.cells #[.int .i64 j, .string t, .string u] 24))
  have X4 := Lib.hid ((X3.out.call hz).alloc (.cells #[.int .i64 j, .string t, .string u] 24))
  have Y4 := Lib.hid (Bx.new w4 24 #[.int .i64 j, .string t, .string u])
  have csv := fun W => StructureValid_impl j t u W (by unfold maxLen; omega) (by unfold maxLen; omega)
  clear hz hj X1 X2 B1 B2 M1 M2 M3 HD HE HM
  obtain ⟨y0, y1, y2⟩ := box_load Y4.out
  cases hokb : okB j t u
  case false =>
    simp only [hokb] at csv
    have CSV := Lib.hid csv
    clear csv hokb
    go_wp2_with fail
    refine (CSV.out _).mono ?_
    rintro e w5 ⟨rfl, hz⟩
    have B5 := Lib.hid (B4.out.trans (hz.mono B4.out.size))
    have X5 := Lib.hid (X4.out.call hz)
    clear hz
    clear y0 y1 y2
    obtain ⟨NB, hNB⟩ : ∃ NB, NB = w5.heap.size := ⟨_, rfl⟩
    have HNB := Lib.hid (show w.heap.size ≤ NB from by rw [hNB]; exact B5.out.size)
    have S4 := Lib.hid (show Below w.heap.size w (w5.alloc (.cells #[] 3)) from B5.out.alloc B5.out.size (.cells #[] 3))
    have X4b := Lib.hid (X5.out.alloc (.cells #[] 3))
    have O4 := Lib.hid (show (w5.alloc (.cells #[] 3)).ownsRow NB 3 1 (.slice (some ⟨w5.heap.size, 0, none⟩) 0 0) 0 (intsV (natsI (ordM a.n n2 0))) from by rw [hNB]; exact own_zeroO w5 (t := 3))
    have hxb : w1.heap.size < NB := by rw [hNB]; exact X5.out.lt
    have HXB := Lib.hid hxb
    have G4 := Lib.hid (show NB ≤ (w5.alloc (.cells #[] 3)).heap.size from by rw [hNB]; simp)
    clear hNB hxb
    go_wp2_with fail
    go_loopg [15, 16] a.n (fun c ov iv wr => ∃ (k cp gg : Nat), k + c = a.n ∧ iv = .int .i64 (k : Nat) ∧ ov = .slice (some ⟨gg, 0, none⟩) k cp ∧ wr.ownsRow NB 3 1 (.slice (some ⟨gg, 0, none⟩) k cp) k (intsV (natsI (ordM a.n n2 k))) ∧ Bx wr w1.heap.size 24 #[.int .i64 (a.n : Int), .string (bs a.set), .string (bs a.rel)] ∧ Below w.heap.size w wr ∧ NB ≤ wr.heap.size)
    case atStart => exact ⟨0, 0, _, by omega, rfl, rfl, O4.out, X4b.out, S4.out, G4.out⟩
    case round =>
      clear O4 X4b S4 G4
      obtain ⟨k, cp, gg, hk, rfl, rfl, ho, hx, hs, hgz⟩ := hrel
      have O1 := Lib.hid ho
      have XK := Lib.hid hx
      have HS := Lib.hid hs
      have HGZ := Lib.hid hgz
      clear ho hx hs hgz
      obtain ⟨wo, rfl⟩ : ∃ x, x = wr := ⟨wr, rfl⟩
      obtain ⟨x0, x1, x2⟩ := box_load XK.out
      by_cases hlt : k < a.n
      · obtain ⟨y, hy⟩ : ∃ y, y = (k + n2) % a.n := ⟨_, rfl⟩
        have hyb : y < a.n := by rw [hy]; exact Nat.mod_lt _ (by omega)
        have hm3 : (wrap64 ((k : Int) + (n2 : Int))).tmod (a.n : Int) = (y : Nat) := by
          rw [IntWalk.wrap64_in _ (by omega), hy, ← Int.natCast_add, Int.ofNat_tmod]
        have hm4 : ((k : Int) + (n2 : Int)) % (a.n : Int) = (y : Nat) := by rw [hy]; simp
        have Hy := Lib.hid hy
        clear hy
        go_wp2_with (at_builtin; (first | rw [hm3] | rw [hm4] | skip); refine wpList_append_own_at _ rfl (.tmp 93) (.tmp 101) 31 rfl NB 3 i0 (.int .i64 0) 1 8 Tryz.underlying31 hi hz0 hz1 hz2 rfl (by decide) _ k (intsV (natsI (ordM a.n n2 k))) rfl (O1.out.alloc _) ⟨wo.heap.size, 0, none⟩ 1 1 [.int .i64 (y : Nat)] rfl rfl (cell_one_new _ _ _) (ints_oneCell .i64 [((y : Nat) : Int)]) (by unfold maxLen; omega) (by omega) (by have := HGZ.out; first | omega | (simp; omega)) ?_; intro v5 w5 ho5 hg5 hn5 hat5; clear hn5 hat5; have E5 := Lib.hid ((HS.out.alloc HS.out.size (.cells #[.int .i64 (y : Nat)] 3)).grown hg5 (by have := HS.out.size; simp; omega) (fun j hj => by have := (O1.out.lt j hj).1; have := HNB.out; omega)); have Z5 := Lib.hid ho5; have hg6 := Lib.hid hg5; have E6 := Lib.hid (show wo.heap.size ≤ w5.heap.size from by have := hg5.size; simp at this; omega); clear ho5 hg5; obtain ⟨g5, cp5, rfl⟩ := shape_pos Z5.out (by omega))
        go_roundg (a.n - k - 1)
        case rel => exact ⟨k + 1, cp5, g5, by omega, by go_num, rfl, by rw [ordM_succ, natsI_snoc, ← Hy.out]; exact Z5.out, (XK.out.alloc _).grown hg6.out (fun e => by have := (O1.out.lt _ e.symm).1; have := HXB.out; omega), E5.out, by have := E6.out; have := HGZ.out; omega⟩
        case measure => omega
      · obtain rfl : k = a.n := by omega
        have hgk : gk = 0 := by omega
        subst hgk
        clear hlt hk
        have hcp := own_capD O1.out
        have LO := Lib.hid (show LRow wo (some ⟨gg, 0, none⟩) (natsI l) from by rw [HL.out]; exact LRow_of O1.out)
        go_wp2_with fail
        refine (CM.out _ cp hcp _ LO.out).mono ?_
        rintro e w6 ⟨rfl, hz⟩
        have B6 := Lib.hid ((HS.out.trans (hz.mono HS.out.size)).alloc (Nat.le_trans HS.out.size hz.size) (.cells #[.int .i64 ((a.part l).n : Int), .string (bs (a.part l).set), .string (bs (a.part l).rel)] 24))
        have X6 := Lib.hid ((XK.out.call hz).alloc (.cells #[.int .i64 ((a.part l).n : Int), .string (bs (a.part l).set), .string (bs (a.part l).rel)] 24))
        have Z6 := Lib.hid (Bx.new w6 24 #[.int .i64 ((a.part l).n : Int), .string (bs (a.part l).set), .string (bs (a.part l).rel)])
        clear hz x0 x1 x2 O1 LO
        obtain ⟨z0, z1, z2⟩ := box_load Z6.out
        go_wp2_with fail
        refine (CHC.out _).mono ?_
        rintro e w7 ⟨rfl, hz⟩
        have B7 := Lib.hid (B6.out.trans (hz.mono B6.out.size))
        have X7 := Lib.hid (X6.out.call hz)
        clear hz z0 z1 z2
        obtain ⟨x0, x1, x2⟩ := box_load X7.out
        go_wp2_with fail
        refine (CHA.out _).mono ?_
        rintro e w8 ⟨rfl, hz⟩
        have B8 := Lib.hid (B7.out.trans (hz.mono B7.out.size))
        have X8 := Lib.hid (X7.out.call hz)
        clear hz x0 x1 x2
        go_upto_region 22 with (fail)
        have X20 := Lib.hid X8.out.drew
        have D20 := Lib.hid B8.out.drew
        clear X6 X7 B6 B7
        refine region_sched [(0, true), (1, true), (2, true), (3, true), (4, true), (5, true), (6, false), (7, true), (8, true), (9, true), (10, true), (12, true), (13, true), (14, true), (11, false), (15, true), (16, true), (17, true), (18, true), (19, false), (20, true), (21, true), (22, true)] (fun w' : World => w'.cell? ⟨w1.heap.size, 0, none⟩ = some (.int .i64 (a.n : Int))) (by kernel_rfl) (by kernel_rfl) (by kernel_rfl) (by kernel_rfl) (fun _ _ _ _ h => h) ?_ (fun Q1 hQ1 => ?_)
        · exact (box_load X20.out).1
        try simp only [List.append]
        refine sched_take' (v := ?_) (a' := ?_) rfl (by kernel_rfl) ?_ rfl ?_ ?_
        rotate_left 2
        · intro w hSw
          (try dsimp only at hSw)
          go_simp
          try with_reducible rfl
        · (try simp only [Act.put, List.setIfInBounds_toArray, List.set_cons_zero, List.set_cons_succ])
          try rfl
        refine sched_take' (v := ?_) (a' := ?_) rfl (by kernel_rfl) ?_ rfl ?_ ?_
        rotate_left 2
        · intro w hSw
          (try dsimp only at hSw)
          go_simp
          try with_reducible rfl
        · (try simp only [Act.put, List.setIfInBounds_toArray, List.set_cons_zero, List.set_cons_succ])
          try rfl
        refine sched_take' (v := ?_) (a' := ?_) rfl (by kernel_rfl) ?_ rfl ?_ ?_
        rotate_left 2
        · intro w hSw
          (try dsimp only at hSw)
          go_simp
          try with_reducible rfl
        · (try simp only [Act.put, List.setIfInBounds_toArray, List.set_cons_zero, List.set_cons_succ])
          try rfl
        refine sched_take' (v := ?_) (a' := ?_) rfl (by kernel_rfl) ?_ rfl ?_ ?_
        rotate_left 2
        · intro w hSw
          (try dsimp only at hSw)
          go_simp
          try with_reducible rfl
        · (try simp only [Act.put, List.setIfInBounds_toArray, List.set_cons_zero, List.set_cons_succ])
          try rfl
        refine sched_take' (v := ?_) (a' := ?_) rfl (by kernel_rfl) ?_ rfl ?_ ?_
        rotate_left 2
        · intro w hSw
          (try dsimp only at hSw)
          go_simp
          try with_reducible rfl
        · (try simp only [Act.put, List.setIfInBounds_toArray, List.set_cons_zero, List.set_cons_succ])
          try rfl
        refine sched_take' (v := ?_) (a' := ?_) rfl (by kernel_rfl) ?_ rfl ?_ ?_
        rotate_left 2
        · intro w hSw
          (try dsimp only at hSw)
          go_simp
          try with_reducible rfl
        · (try simp only [Act.put, List.setIfInBounds_toArray, List.set_cons_zero, List.set_cons_succ])
          try rfl
        refine sched_call rfl (by kernel_rfl) (fun K1 hK1 => ?_)
        go_simp
        refine (CFV.out _).mono ?_
        rintro e w21 ⟨rfl, hz⟩
        have X21 := Lib.hid (X20.out.call hz)
        have D21 := Lib.hid (D20.out.trans (hz.mono D20.out.size))
        clear hz
        go_wp2_with fail
        refine hK1.out _ _ ?_ (sched_lay (a' := ?_) ?_ ?_)
        · exact (box_load X21.out).1
        rotate_left 1
        · (try simp only [Act.put, List.getElem_toArray, List.getElem_cons_succ, List.getElem_cons_zero, List.setIfInBounds_toArray, List.set_cons_zero, List.set_cons_succ])
          try rfl
        clear hK1 K1
        refine sched_take' (v := .bool true) (a' := ?_) rfl (by kernel_rfl) ?_ rfl ?_ ?_
        rotate_left 1
        · intro w hSw
          (try dsimp only at hSw)
          go_simp
          first | done | rfl | (trace_state; fail) | (simp; done)
        · (try simp only [Act.put, List.setIfInBounds_toArray, List.set_cons_zero, List.set_cons_succ])
          try rfl
        refine sched_take' (v := .bool true) (a' := ?_) rfl (by kernel_rfl) ?_ rfl ?_ ?_
        rotate_left 1
        · intro w hSw
          (try dsimp only at hSw)
          go_simp
          first | done | rfl | (trace_state; fail) | (simp; done)
        · (try simp only [Act.put, List.setIfInBounds_toArray, List.set_cons_zero, List.set_cons_succ])
          try rfl
        refine sched_take' (v := ?_) (a' := ?_) rfl (by kernel_rfl) ?_ rfl ?_ ?_
        rotate_left 2
        · intro w hSw
          (try dsimp only at hSw)
          go_simp
          try with_reducible rfl
        · (try simp only [Act.put, List.setIfInBounds_toArray, List.set_cons_zero, List.set_cons_succ])
          try rfl
        refine sched_take' (v := ?_) (a' := ?_) rfl (by kernel_rfl) ?_ rfl ?_ ?_
        rotate_left 2
        · intro w hSw
          (try dsimp only at hSw)
          go_simp
          try with_reducible rfl
        · (try simp only [Act.put, List.setIfInBounds_toArray, List.set_cons_zero, List.set_cons_succ])
          try rfl
        refine sched_take' (v := ?_) (a' := ?_) rfl (by kernel_rfl) ?_ rfl ?_ ?_
        rotate_left 2
        · intro w hSw
          (try dsimp only at hSw)
          go_simp
          try with_reducible rfl
        · (try simp only [Act.put, List.setIfInBounds_toArray, List.set_cons_zero, List.set_cons_succ])
          try rfl
        refine sched_take' (v := .int .i64 (a.n : Int)) (a' := ?_) rfl (by kernel_rfl) ?_ rfl ?_ ?_
        rotate_left 1
        · intro w hSw
          (try dsimp only at hSw)
          go_simp
          first | done | exact hSw | (simp [hSw]; done) | (simp [*]; done)
        · (try simp only [Act.put, List.setIfInBounds_toArray, List.set_cons_zero, List.set_cons_succ])
          try rfl
        refine sched_take' (v := .int .i64 ((a.n : Int) + 1)) (a' := ?_) rfl (by kernel_rfl) ?_ rfl ?_ ?_
        rotate_left 1
        · intro w hSw
          (try dsimp only at hSw)
          go_simp
          first | done | (rw [IntWalk.i64_in _ (by omega)]) | (simp [IntWalk.i64_in]; omega)
        · (try simp only [Act.put, List.setIfInBounds_toArray, List.set_cons_zero, List.set_cons_succ])
          try rfl
        refine sched_call rfl (by kernel_rfl) (fun K1 hK1 => ?_)
        go_simp
        refine (CRK.out _).mono ?_
        rintro e w22 ⟨rfl, hz⟩
        have X22 := Lib.hid (X21.out.call hz)
        have D22 := Lib.hid (D21.out.trans (hz.mono D21.out.size))
        clear hz
        go_wp2_with fail
        refine hK1.out _ _ ?_ (sched_lay (a' := ?_) ?_ ?_)
        · exact (box_load X22.out).1
        rotate_left 1
        · (try simp only [Act.put, List.getElem_toArray, List.getElem_cons_succ, List.getElem_cons_zero, List.setIfInBounds_toArray, List.set_cons_zero, List.set_cons_succ])
          try rfl
        clear hK1 K1
        refine sched_take' (v := .bool true) (a' := ?_) rfl (by kernel_rfl) ?_ rfl ?_ ?_
        rotate_left 1
        · intro w hSw
          (try dsimp only at hSw)
          go_simp
          first | done | rfl | (trace_state; fail) | (simp; done)
        · (try simp only [Act.put, List.setIfInBounds_toArray, List.set_cons_zero, List.set_cons_succ])
          try rfl
        refine sched_take' (v := .bool true) (a' := ?_) rfl (by kernel_rfl) ?_ rfl ?_ ?_
        rotate_left 1
        · intro w hSw
          (try dsimp only at hSw)
          go_simp
          first | done | rfl | (trace_state; fail) | (simp; done)
        · (try simp only [Act.put, List.setIfInBounds_toArray, List.set_cons_zero, List.set_cons_succ])
          try rfl
        refine sched_take' (v := ?_) (a' := ?_) rfl (by kernel_rfl) ?_ rfl ?_ ?_
        rotate_left 2
        · intro w hSw
          (try dsimp only at hSw)
          go_simp
          try with_reducible rfl
        · (try simp only [Act.put, List.setIfInBounds_toArray, List.set_cons_zero, List.set_cons_succ])
          try rfl
        refine sched_take' (v := ?_) (a' := ?_) rfl (by kernel_rfl) ?_ rfl ?_ ?_
        rotate_left 2
        · intro w hSw
          (try dsimp only at hSw)
          go_simp
          try with_reducible rfl
        · (try simp only [Act.put, List.setIfInBounds_toArray, List.set_cons_zero, List.set_cons_succ])
          try rfl
        refine sched_call rfl (by kernel_rfl) (fun K1 hK1 => ?_)
        go_simp
        refine (CCO.out _).mono ?_
        rintro e w23 ⟨rfl, hz⟩
        have X23 := Lib.hid (X22.out.call hz)
        have D23 := Lib.hid (D22.out.trans (hz.mono D22.out.size))
        clear hz
        go_wp2_with fail
        refine hK1.out _ _ ?_ (sched_lay (a' := ?_) ?_ ?_)
        · exact (box_load X23.out).1
        rotate_left 1
        · (try simp only [Act.put, List.getElem_toArray, List.getElem_cons_succ, List.getElem_cons_zero, List.setIfInBounds_toArray, List.set_cons_zero, List.set_cons_succ])
          try rfl
        clear hK1 K1
        refine sched_take' (v := .bool true) (a' := ?_) rfl (by kernel_rfl) ?_ rfl ?_ ?_
        rotate_left 1
        · intro w hSw
          (try dsimp only at hSw)
          go_simp
          first | done | rfl | (trace_state; fail) | (simp; done)
        · (try simp only [Act.put, List.setIfInBounds_toArray, List.set_cons_zero, List.set_cons_succ])
          try rfl
        refine sched_take' (v := .bool true) (a' := ?_) rfl (by kernel_rfl) ?_ rfl ?_ ?_
        rotate_left 1
        · intro w hSw
          (try dsimp only at hSw)
          go_simp
          first | done | rfl | (trace_state; fail) | (simp; done)
        · (try simp only [Act.put, List.setIfInBounds_toArray, List.set_cons_zero, List.set_cons_succ])
          try rfl
        refine sched_take' (v := ?_) (a' := ?_) rfl (by kernel_rfl) ?_ rfl ?_ ?_
        rotate_left 2
        · intro w hSw
          (try dsimp only at hSw)
          go_simp
          try with_reducible rfl
        · (try simp only [Act.put, List.setIfInBounds_toArray, List.set_cons_zero, List.set_cons_succ])
          try rfl
        refine sched_done (hQ1.out _ _ ?_)
        go_wp2_with fail
        go_ret
        exact ⟨rfl, D23.out⟩
  case true =>
    simp only [hokb] at csv
    rcases ok_cases j t u with h | ⟨b, hb, rfl, rfl, rfl⟩
    · rw [hokb] at h; cases h
    have CSV := Lib.hid csv
    obtain ⟨hb1, hb2⟩ := HIN.out b hb
    have hst := st_small ha
    have hsb := st_small hb
    have chb := fun W => CHB.out b.n (bs b.set) (bs b.rel) ht hu W
    simp only [hb1, hb2] at chb
    have csh := fun W => shpI_any a.n (bs a.set) (bs a.rel) b.n (bs b.set) (bs b.rel) (by omega) (by omega) (by omega) (by omega) _ rfl W
    obtain ⟨LL, hLL⟩ : ∃ LL, LL = shpL a.n (bs a.set) (bs a.rel) b.n (bs b.set) (bs b.rel) := ⟨_, rfl⟩
    simp only [← hLL] at chb csh
    obtain ⟨V, hV⟩ : ∃ V, V = !LL.isEmpty := ⟨_, rfl⟩
    simp only [← hV] at chb csh
    have hVV : (V != V) = false := by cases V <;> rfl
    have CHBB := Lib.hid chb
    have CSH := Lib.hid csh
    clear csv hokb hb1 hb2 hst hsb chb csh hLL hV ha
    go_wp2_with fail
    refine (CSV.out _).mono ?_
    rintro e w5 ⟨rfl, hz⟩
    have B5 := Lib.hid (B4.out.trans (hz.mono B4.out.size))
    have X5 := Lib.hid (X4.out.call hz)
    have Y5 := Lib.hid (Y4.out.call hz)
    clear hz
    clear y0 y1 y2
    obtain ⟨y0, y1, y2⟩ := box_load Y5.out
    go_wp2_with fail
    refine (CHBB.out _).mono ?_
    rintro e w6 ⟨rfl, hz⟩
    have B6 := Lib.hid (B5.out.trans (hz.mono B5.out.size))
    have X6 := Lib.hid (X5.out.call hz)
    have Y6 := Lib.hid (Y5.out.call hz)
    clear hz
    clear y0 y1 y2
    obtain ⟨x0, x1, x2⟩ := box_load X6.out
    obtain ⟨y0, y1, y2⟩ := box_load Y6.out
    go_wp2_with fail
    refine (CSH.out _).mono ?_
    rintro e w7 ⟨⟨A7, c7, rfl, hc7, hr7⟩, hz⟩
    have B7 := Lib.hid (B6.out.trans (hz.mono B6.out.size))
    have X7 := Lib.hid (X6.out.call hz)
    clear hz
    clear y0 y1 y2 x0 x1 x2 hc7 hr7
    obtain ⟨NB, hNB⟩ : ∃ NB, NB = w7.heap.size := ⟨_, rfl⟩
    have HNB := Lib.hid (show w.heap.size ≤ NB from by rw [hNB]; exact B7.out.size)
    have S4 := Lib.hid (show Below w.heap.size w (w7.alloc (.cells #[] 3)) from B7.out.alloc B7.out.size (.cells #[] 3))
    have X4b := Lib.hid (X7.out.alloc (.cells #[] 3))
    have O4 := Lib.hid (show (w7.alloc (.cells #[] 3)).ownsRow NB 3 1 (.slice (some ⟨w7.heap.size, 0, none⟩) 0 0) 0 (intsV (natsI (ordM a.n n2 0))) from by rw [hNB]; exact own_zeroO w7 (t := 3))
    have hxb : w1.heap.size < NB := by rw [hNB]; exact X7.out.lt
    have HXB := Lib.hid hxb
    have G4 := Lib.hid (show NB ≤ (w7.alloc (.cells #[] 3)).heap.size from by rw [hNB]; simp)
    clear hNB hxb
    go_wp2_with fail
    go_loopg [15, 16] a.n (fun c ov iv wr => ∃ (k cp gg : Nat), k + c = a.n ∧ iv = .int .i64 (k : Nat) ∧ ov = .slice (some ⟨gg, 0, none⟩) k cp ∧ wr.ownsRow NB 3 1 (.slice (some ⟨gg, 0, none⟩) k cp) k (intsV (natsI (ordM a.n n2 k))) ∧ Bx wr w1.heap.size 24 #[.int .i64 (a.n : Int), .string (bs a.set), .string (bs a.rel)] ∧ Below w.heap.size w wr ∧ NB ≤ wr.heap.size)
    case atStart => exact ⟨0, 0, _, by omega, rfl, rfl, O4.out, X4b.out, S4.out, G4.out⟩
    case round =>
      clear O4 X4b S4 G4
      obtain ⟨k, cp, gg, hk, rfl, rfl, ho, hx, hs, hgz⟩ := hrel
      have O1 := Lib.hid ho
      have XK := Lib.hid hx
      have HS := Lib.hid hs
      have HGZ := Lib.hid hgz
      clear ho hx hs hgz
      obtain ⟨wo, rfl⟩ : ∃ x, x = wr := ⟨wr, rfl⟩
      obtain ⟨x0, x1, x2⟩ := box_load XK.out
      by_cases hlt : k < a.n
      · obtain ⟨y, hy⟩ : ∃ y, y = (k + n2) % a.n := ⟨_, rfl⟩
        have hyb : y < a.n := by rw [hy]; exact Nat.mod_lt _ (by omega)
        have hm3 : (wrap64 ((k : Int) + (n2 : Int))).tmod (a.n : Int) = (y : Nat) := by
          rw [IntWalk.wrap64_in _ (by omega), hy, ← Int.natCast_add, Int.ofNat_tmod]
        have hm4 : ((k : Int) + (n2 : Int)) % (a.n : Int) = (y : Nat) := by rw [hy]; simp
        have Hy := Lib.hid hy
        clear hy
        go_wp2_with (at_builtin; (first | rw [hm3] | rw [hm4] | skip); refine wpList_append_own_at _ rfl (.tmp 93) (.tmp 101) 31 rfl NB 3 i0 (.int .i64 0) 1 8 Tryz.underlying31 hi hz0 hz1 hz2 rfl (by decide) _ k (intsV (natsI (ordM a.n n2 k))) rfl (O1.out.alloc _) ⟨wo.heap.size, 0, none⟩ 1 1 [.int .i64 (y : Nat)] rfl rfl (cell_one_new _ _ _) (ints_oneCell .i64 [((y : Nat) : Int)]) (by unfold maxLen; omega) (by omega) (by have := HGZ.out; first | omega | (simp; omega)) ?_; intro v5 w5 ho5 hg5 hn5 hat5; clear hn5 hat5; have E5 := Lib.hid ((HS.out.alloc HS.out.size (.cells #[.int .i64 (y : Nat)] 3)).grown hg5 (by have := HS.out.size; simp; omega) (fun j hj => by have := (O1.out.lt j hj).1; have := HNB.out; omega)); have Z5 := Lib.hid ho5; have hg6 := Lib.hid hg5; have E6 := Lib.hid (show wo.heap.size ≤ w5.heap.size from by have := hg5.size; simp at this; omega); clear ho5 hg5; obtain ⟨g5, cp5, rfl⟩ := shape_pos Z5.out (by omega))
        go_roundg (a.n - k - 1)
        case rel => exact ⟨k + 1, cp5, g5, by omega, by go_num, rfl, by rw [ordM_succ, natsI_snoc, ← Hy.out]; exact Z5.out, (XK.out.alloc _).grown hg6.out (fun e => by have := (O1.out.lt _ e.symm).1; have := HXB.out; omega), E5.out, by have := E6.out; have := HGZ.out; omega⟩
        case measure => omega
      · obtain rfl : k = a.n := by omega
        have hgk : gk = 0 := by omega
        subst hgk
        clear hlt hk
        have hcp := own_capD O1.out
        have LO := Lib.hid (show LRow wo (some ⟨gg, 0, none⟩) (natsI l) from by rw [HL.out]; exact LRow_of O1.out)
        go_wp2_with fail
        refine (CM.out _ cp hcp _ LO.out).mono ?_
        rintro e w6 ⟨rfl, hz⟩
        have B6 := Lib.hid ((HS.out.trans (hz.mono HS.out.size)).alloc (Nat.le_trans HS.out.size hz.size) (.cells #[.int .i64 ((a.part l).n : Int), .string (bs (a.part l).set), .string (bs (a.part l).rel)] 24))
        have X6 := Lib.hid ((XK.out.call hz).alloc (.cells #[.int .i64 ((a.part l).n : Int), .string (bs (a.part l).set), .string (bs (a.part l).rel)] 24))
        have Z6 := Lib.hid (Bx.new w6 24 #[.int .i64 ((a.part l).n : Int), .string (bs (a.part l).set), .string (bs (a.part l).rel)])
        clear hz x0 x1 x2 O1 LO
        obtain ⟨z0, z1, z2⟩ := box_load Z6.out
        go_wp2_with fail
        refine (CHC.out _).mono ?_
        rintro e w7 ⟨rfl, hz⟩
        have B7 := Lib.hid (B6.out.trans (hz.mono B6.out.size))
        have X7 := Lib.hid (X6.out.call hz)
        clear hz z0 z1 z2
        obtain ⟨x0, x1, x2⟩ := box_load X7.out
        go_wp2_with fail
        refine (CHA.out _).mono ?_
        rintro e w8 ⟨rfl, hz⟩
        have B8 := Lib.hid (B7.out.trans (hz.mono B7.out.size))
        have X8 := Lib.hid (X7.out.call hz)
        clear hz x0 x1 x2
        go_upto_region 22 with (fail)
        have X20 := Lib.hid X8.out.drew
        have D20 := Lib.hid B8.out.drew
        clear X6 X7 B6 B7
        refine region_sched [(0, true), (1, true), (2, true), (3, true), (4, true), (5, true), (6, false), (7, true), (8, true), (9, true), (10, true), (12, true), (13, true), (14, true), (11, false), (15, true), (16, true), (17, true), (18, true), (19, false), (20, true), (21, true), (22, true)] (fun w' : World => w'.cell? ⟨w1.heap.size, 0, none⟩ = some (.int .i64 (a.n : Int))) (by kernel_rfl) (by kernel_rfl) (by kernel_rfl) (by kernel_rfl) (fun _ _ _ _ h => h) ?_ (fun Q1 hQ1 => ?_)
        · exact (box_load X20.out).1
        try simp only [List.append]
        refine sched_take' (v := ?_) (a' := ?_) rfl (by kernel_rfl) ?_ rfl ?_ ?_
        rotate_left 2
        · intro w hSw
          (try dsimp only at hSw)
          go_simp
          try with_reducible rfl
        · (try simp only [Act.put, List.setIfInBounds_toArray, List.set_cons_zero, List.set_cons_succ])
          try rfl
        refine sched_take' (v := ?_) (a' := ?_) rfl (by kernel_rfl) ?_ rfl ?_ ?_
        rotate_left 2
        · intro w hSw
          (try dsimp only at hSw)
          go_simp
          try with_reducible rfl
        · (try simp only [Act.put, List.setIfInBounds_toArray, List.set_cons_zero, List.set_cons_succ])
          try rfl
        refine sched_take' (v := ?_) (a' := ?_) rfl (by kernel_rfl) ?_ rfl ?_ ?_
        rotate_left 2
        · intro w hSw
          (try dsimp only at hSw)
          go_simp
          try with_reducible rfl
        · (try simp only [Act.put, List.setIfInBounds_toArray, List.set_cons_zero, List.set_cons_succ])
          try rfl
        refine sched_take' (v := ?_) (a' := ?_) rfl (by kernel_rfl) ?_ rfl ?_ ?_
        rotate_left 2
        · intro w hSw
          (try dsimp only at hSw)
          go_simp
          try with_reducible rfl
        · (try simp only [Act.put, List.setIfInBounds_toArray, List.set_cons_zero, List.set_cons_succ])
          try rfl
        refine sched_take' (v := ?_) (a' := ?_) rfl (by kernel_rfl) ?_ rfl ?_ ?_
        rotate_left 2
        · intro w hSw
          (try dsimp only at hSw)
          go_simp
          try with_reducible rfl
        · (try simp only [Act.put, List.setIfInBounds_toArray, List.set_cons_zero, List.set_cons_succ])
          try rfl
        refine sched_take' (v := ?_) (a' := ?_) rfl (by kernel_rfl) ?_ rfl ?_ ?_
        rotate_left 2
        · intro w hSw
          (try dsimp only at hSw)
          go_simp
          try with_reducible rfl
        · (try simp only [Act.put, List.setIfInBounds_toArray, List.set_cons_zero, List.set_cons_succ])
          try rfl
        refine sched_call rfl (by kernel_rfl) (fun K1 hK1 => ?_)
        go_simp
        refine (CFV.out _).mono ?_
        rintro e w21 ⟨rfl, hz⟩
        have X21 := Lib.hid (X20.out.call hz)
        have D21 := Lib.hid (D20.out.trans (hz.mono D20.out.size))
        clear hz
        go_wp2_with fail
        refine hK1.out _ _ ?_ (sched_lay (a' := ?_) ?_ ?_)
        · exact (box_load X21.out).1
        rotate_left 1
        · (try simp only [Act.put, List.getElem_toArray, List.getElem_cons_succ, List.getElem_cons_zero, List.setIfInBounds_toArray, List.set_cons_zero, List.set_cons_succ])
          try rfl
        clear hK1 K1
        refine sched_take' (v := .bool true) (a' := ?_) rfl (by kernel_rfl) ?_ rfl ?_ ?_
        rotate_left 1
        · intro w hSw
          (try dsimp only at hSw)
          go_simp
          first | done | rfl | (trace_state; fail) | (simp; done)
        · (try simp only [Act.put, List.setIfInBounds_toArray, List.set_cons_zero, List.set_cons_succ])
          try rfl
        refine sched_take' (v := .bool true) (a' := ?_) rfl (by kernel_rfl) ?_ rfl ?_ ?_
        rotate_left 1
        · intro w hSw
          (try dsimp only at hSw)
          go_simp
          first | done | rfl | (trace_state; fail) | (simp; done)
        · (try simp only [Act.put, List.setIfInBounds_toArray, List.set_cons_zero, List.set_cons_succ])
          try rfl
        refine sched_take' (v := ?_) (a' := ?_) rfl (by kernel_rfl) ?_ rfl ?_ ?_
        rotate_left 2
        · intro w hSw
          (try dsimp only at hSw)
          go_simp
          try with_reducible rfl
        · (try simp only [Act.put, List.setIfInBounds_toArray, List.set_cons_zero, List.set_cons_succ])
          try rfl
        refine sched_take' (v := ?_) (a' := ?_) rfl (by kernel_rfl) ?_ rfl ?_ ?_
        rotate_left 2
        · intro w hSw
          (try dsimp only at hSw)
          go_simp
          try with_reducible rfl
        · (try simp only [Act.put, List.setIfInBounds_toArray, List.set_cons_zero, List.set_cons_succ])
          try rfl
        refine sched_take' (v := ?_) (a' := ?_) rfl (by kernel_rfl) ?_ rfl ?_ ?_
        rotate_left 2
        · intro w hSw
          (try dsimp only at hSw)
          go_simp
          try with_reducible rfl
        · (try simp only [Act.put, List.setIfInBounds_toArray, List.set_cons_zero, List.set_cons_succ])
          try rfl
        refine sched_take' (v := .int .i64 (a.n : Int)) (a' := ?_) rfl (by kernel_rfl) ?_ rfl ?_ ?_
        rotate_left 1
        · intro w hSw
          (try dsimp only at hSw)
          go_simp
          first | done | exact hSw | (simp [hSw]; done) | (simp [*]; done)
        · (try simp only [Act.put, List.setIfInBounds_toArray, List.set_cons_zero, List.set_cons_succ])
          try rfl
        refine sched_take' (v := .int .i64 ((a.n : Int) + 1)) (a' := ?_) rfl (by kernel_rfl) ?_ rfl ?_ ?_
        rotate_left 1
        · intro w hSw
          (try dsimp only at hSw)
          go_simp
          first | done | (rw [IntWalk.i64_in _ (by omega)]) | (simp [IntWalk.i64_in]; omega)
        · (try simp only [Act.put, List.setIfInBounds_toArray, List.set_cons_zero, List.set_cons_succ])
          try rfl
        refine sched_call rfl (by kernel_rfl) (fun K1 hK1 => ?_)
        go_simp
        refine (CRK.out _).mono ?_
        rintro e w22 ⟨rfl, hz⟩
        have X22 := Lib.hid (X21.out.call hz)
        have D22 := Lib.hid (D21.out.trans (hz.mono D21.out.size))
        clear hz
        go_wp2_with fail
        refine hK1.out _ _ ?_ (sched_lay (a' := ?_) ?_ ?_)
        · exact (box_load X22.out).1
        rotate_left 1
        · (try simp only [Act.put, List.getElem_toArray, List.getElem_cons_succ, List.getElem_cons_zero, List.setIfInBounds_toArray, List.set_cons_zero, List.set_cons_succ])
          try rfl
        clear hK1 K1
        refine sched_take' (v := .bool true) (a' := ?_) rfl (by kernel_rfl) ?_ rfl ?_ ?_
        rotate_left 1
        · intro w hSw
          (try dsimp only at hSw)
          go_simp
          first | done | rfl | (trace_state; fail) | (simp; done)
        · (try simp only [Act.put, List.setIfInBounds_toArray, List.set_cons_zero, List.set_cons_succ])
          try rfl
        refine sched_take' (v := .bool true) (a' := ?_) rfl (by kernel_rfl) ?_ rfl ?_ ?_
        rotate_left 1
        · intro w hSw
          (try dsimp only at hSw)
          go_simp
          first | done | rfl | (trace_state; fail) | (simp; done)
        · (try simp only [Act.put, List.setIfInBounds_toArray, List.set_cons_zero, List.set_cons_succ])
          try rfl
        refine sched_take' (v := ?_) (a' := ?_) rfl (by kernel_rfl) ?_ rfl ?_ ?_
        rotate_left 2
        · intro w hSw
          (try dsimp only at hSw)
          go_simp
          try with_reducible rfl
        · (try simp only [Act.put, List.setIfInBounds_toArray, List.set_cons_zero, List.set_cons_succ])
          try rfl
        refine sched_take' (v := ?_) (a' := ?_) rfl (by kernel_rfl) ?_ rfl ?_ ?_
        rotate_left 2
        · intro w hSw
          (try dsimp only at hSw)
          go_simp
          try with_reducible rfl
        · (try simp only [Act.put, List.setIfInBounds_toArray, List.set_cons_zero, List.set_cons_succ])
          try rfl
        refine sched_call rfl (by kernel_rfl) (fun K1 hK1 => ?_)
        go_simp
        refine (CCO.out _).mono ?_
        rintro e w23 ⟨rfl, hz⟩
        have X23 := Lib.hid (X22.out.call hz)
        have D23 := Lib.hid (D22.out.trans (hz.mono D22.out.size))
        clear hz
        go_wp2_with fail
        refine hK1.out _ _ ?_ (sched_lay (a' := ?_) ?_ ?_)
        · exact (box_load X23.out).1
        rotate_left 1
        · (try simp only [Act.put, List.getElem_toArray, List.getElem_cons_succ, List.getElem_cons_zero, List.setIfInBounds_toArray, List.set_cons_zero, List.set_cons_succ])
          try rfl
        clear hK1 K1
        refine sched_take' (v := .bool true) (a' := ?_) rfl (by kernel_rfl) ?_ rfl ?_ ?_
        rotate_left 1
        · intro w hSw
          (try dsimp only at hSw)
          go_simp
          first | done | rfl | (trace_state; fail) | (simp; done)
        · (try simp only [Act.put, List.setIfInBounds_toArray, List.set_cons_zero, List.set_cons_succ])
          try rfl
        refine sched_take' (v := .bool true) (a' := ?_) rfl (by kernel_rfl) ?_ rfl ?_ ?_
        rotate_left 1
        · intro w hSw
          (try dsimp only at hSw)
          go_simp
          first | done | rfl | (trace_state; fail) | (simp; done)
        · (try simp only [Act.put, List.setIfInBounds_toArray, List.set_cons_zero, List.set_cons_succ])
          try rfl
        refine sched_take' (v := ?_) (a' := ?_) rfl (by kernel_rfl) ?_ rfl ?_ ?_
        rotate_left 2
        · intro w hSw
          (try dsimp only at hSw)
          go_simp
          try with_reducible rfl
        · (try simp only [Act.put, List.setIfInBounds_toArray, List.set_cons_zero, List.set_cons_succ])
          try rfl
        refine sched_done (hQ1.out _ _ ?_)
        go_wp2_with fail
        go_ret
        exact ⟨rfl, D23.out⟩

end Go.Proofs.YtpaleogkgfclnaaGreatDoor

namespace Go.Proofs.YtpaleogkgfclnaaGreatDoor
open Go.RowKit
open Pl
set_option linter.unusedSimpArgs false
set_option linter.unusedVariables false

theorem own_fz {W W' : World} {B base n : Nat} {e : TypeId} {v : Value} {xs : List Value} (h : W.ownsRow base e 1 v n xs) (hf : Fz B W W') : W'.ownsRow base e 1 v n xs := by
  obtain ⟨h1, h2⟩ := h
  refine ⟨h1, ?_⟩
  rcases h2 with h2 | ⟨g, c, cur, hv, hg, hh, hr⟩
  · exact .inl h2
  · exact .inr ⟨g, c, cur, hv, hg, hf.cells _ _ _ _ hh, hr⟩
theorem HoldW.own {lo : Nat} {w0 : World} {a : St} {hb : Nat} {W W' : World} (h : HoldW lo w0 a hb W) {base n : Nat} {e : TypeId} {v : Value} {xs : List Value} (ho : W.ownsRow base e 1 v n xs) (hb2 : hb + 1 < base) (hg : W.grownBy W' v.ownBlock) : HoldW lo w0 a hb W' :=
  h.app hg fun k hk => ⟨by have := (ho.lt k hk).1; omega, own_cells ho hk⟩
theorem LRow_fz {W W' : World} {B : Nat} {A : Option Addr} {zs : List Int} (h : LRow W A zs) (hf : Fz B W W') : LRow W' A zs := fun hn => by
  obtain ⟨g, rfl, hc⟩ := h hn
  exact ⟨g, rfl, fun i hi => hf.cell (hc i hi)⟩
theorem LRow_one (W : World) (x : Nat) : LRow (W.alloc (.cells #[.int .i64 (x : Nat)] 3)) (some ⟨W.heap.size, 0, none⟩) (natsI [x]) := fun _ => ⟨_, rfl, fun i hi => by
  have : i = 0 := by simp [natsI] at hi; omega
  subst this
  exact ((Bx.new W 3 #[.int .i64 (x : Nat)]).cell 0)⟩
theorem LRow_two (W : World) (x y : Nat) : LRow (W.alloc (.cells #[.int .i64 (x : Nat), .int .i64 (y : Nat)] 3)) (some ⟨W.heap.size, 0, none⟩) (natsI [x, y]) := fun _ => ⟨_, rfl, fun i hi => by
  have : i = 0 ∨ i = 1 := by simp [natsI] at hi; omega
  rcases this with rfl | rfl
  · exact ((Bx.new W 3 #[.int .i64 (x : Nat), .int .i64 (y : Nat)]).cell 0)
  · exact ((Bx.new W 3 #[.int .i64 (x : Nat), .int .i64 (y : Nat)]).cell 1)⟩

end Go.Proofs.YtpaleogkgfclnaaGreatDoor

namespace Go.Proofs.YtpaleogkgfclnaaGreatDoor
open Go.RowKit
open Pl
set_option linter.unusedSimpArgs false
set_option linter.unusedVariables false

attribute [local go_sem ↓] Go.wp_at_zero Go.wp_at_succ

set_option maxHeartbeats 4000000 in
set_option maxRecDepth 100000 in
theorem DefinedSet_impl (i : Int) (s r f : ByteArray) (w : World) (hs : s.size ≤ maxLen) (hr : r.size ≤ maxLen) :
    Calls Tryz.prog 18 #[stV i s r, .string f] w fun e w' => (∃ v, e = .returned (.tuple #[v, .bool (rdyB i s r f 1)]) ∧ w'.ownsRow w.heap.size 3 1 v (setV i s r f).length (intsV (natsI (setV i s r f)))) ∧ Below w.heap.size w w' := by
  obtain ⟨i0, hi, hz0, hz1, hz2⟩ := info_parts (P := Tryz.prog) (e := 3) (z := .int .i64 0) (size := 1) (bytes := 8) (by kernel_rfl)
  have HcI := fun W => isStructure_calls i s r W hs hr
  have B0 := Lib.hid (show Below w.heap.size w (w.alloc (.cells #[.int .i64 i, .string s, .string r] 24)) from (Below.refl _ _).alloc (Nat.le_refl _) _)
  have Xa := Lib.hid (Bx.new w 24 #[.int .i64 i, .string s, .string r])
  clear hs hr
  rcases fm_cases f with ⟨hb, hno⟩ | ⟨g, hb, hf, hs4, hl4⟩
  · rw [set_no (rdy_noFm hb i s r 1), rdy_noFm hb i s r 1]
    have Hno := Lib.hid hno
    clear hb hno HcI
    go_enter Tryz.func18, Tryz.ntmps18
    go_wp2_with fail
    refine (parseFormula_no f _ Hno.out).mono ?_
    rintro e w1 ⟨rfl, hz⟩
    have B1 := Lib.hid (B0.out.trans (hz.mono (by simp)))
    clear hz
    go_wp2_with fail
    go_ret2
    exact ⟨⟨_, rfl, rfl, .inl ⟨rfl, rfl⟩⟩, B1.out⟩
  have Hf := Lib.hid hf
  have Hb := Lib.hid hb
  have hfr : g.freeBits < 16 := freeBits_lt g
  clear hf hb
  cases hok : okB i s r
  case false =>
    have hh := rdy_noSt hok f 1
    rw [set_no (hh), hh]
    simp only [hok] at HcI
    clear hh hok
    have CI := Lib.hid HcI
    clear HcI
    go_enter Tryz.func18, Tryz.ntmps18
    go_wp2_with fail
    refine (parseFormula_yes f g _ hs4 Hf.out).mono ?_
    rintro e w1 ⟨b, rfl, htr, hz⟩
    have B1 := Lib.hid (B0.out.trans (hz.mono (by simp)))
    have X1 := Lib.hid (Xa.out.call hz)
    have T1 := Lib.hid htr
    clear hz htr
    obtain ⟨k0, k1, k2⟩ := box_load X1.out
    go_wp2_with fail
    refine (CI.out _).mono ?_
    rintro e w2 ⟨rfl, hz⟩
    have B2 := Lib.hid (B1.out.trans (hz.mono B1.out.size))
    have X2 := Lib.hid (X1.out.call hz)
    have T2 := Lib.hid (T1.out.below hz)
    have D2 := Lib.hid hz
    clear hz k0 k1 k2
    go_wp2_with fail
    go_ret2
    exact ⟨⟨_, rfl, rfl, .inl ⟨rfl, rfl⟩⟩, B2.out⟩
  case true =>
  simp only [hok] at HcI
  obtain ⟨a, ha, rfl, rfl, rfl⟩ := st_of hok
  have hry := rdy_of Hb.out Hf.out ha 1
  have CI := Lib.hid HcI
  clear HcI hok
  by_cases hfz : g.freeBits / 2 ^ 1 = 0
  case neg =>
    rw [decide_eq_false hfz] at hry
    rw [set_no (hry), hry]
    clear hry
    have hne : ((g.freeBits : Int) / 2 ^ 1 != 0) = true := by rw [div_nat, bne_iff_ne]; omega
    clear hfz
    rw [Int.pow_one] at hne
    try simp only [Int.pow_one] at hne
    go_enter Tryz.func18, Tryz.ntmps18
    go_wp2_with fail
    refine (parseFormula_yes f g _ hs4 Hf.out).mono ?_
    rintro e w1 ⟨b, rfl, htr, hz⟩
    have B1 := Lib.hid (B0.out.trans (hz.mono (by simp)))
    have X1 := Lib.hid (Xa.out.call hz)
    have T1 := Lib.hid htr
    clear hz htr
    obtain ⟨k0, k1, k2⟩ := box_load X1.out
    go_wp2_with fail
    refine (CI.out _).mono ?_
    rintro e w2 ⟨rfl, hz⟩
    have B2 := Lib.hid (B1.out.trans (hz.mono B1.out.size))
    have X2 := Lib.hid (X1.out.call hz)
    have T2 := Lib.hid (T1.out.below hz)
    have D2 := Lib.hid hz
    clear hz k0 k1 k2
    obtain ⟨_, _, _, _, _, _, hc3, _⟩ := node_cells T2.out
    go_wp2_with fail
    go_ret2
    exact ⟨⟨_, rfl, rfl, .inl ⟨rfl, rfl⟩⟩, B2.out⟩
  case pos =>
  rw [decide_eq_true hfz] at hry
  have heq : (g.freeBits : Int) / 2 ^ 1 = 0 := by rw [div_nat]; omega
  clear hfz
  rw [set_yes Hf.out hry, hry]
  obtain ⟨R0, hR0⟩ : ∃ R0 : Nat → Bool, R0 = fun x => g.holds a (envL [x]) := ⟨_, rfl⟩
  rw [← hR0]
  have HR := Lib.hid hR0
  have h8 := ha.hi
  have hzz : ∀ x, x < a.n → ∀ y ∈ [x], y < a.n := fun x hx y hy => by simp at hy; subst hy; exact hx
  clear hry hR0
  go_enter Tryz.func18, Tryz.ntmps18
  go_wp2_with fail
  refine (parseFormula_yes f g _ hs4 Hf.out).mono ?_
  rintro e w1 ⟨b, rfl, htr, hz⟩
  have B1 := Lib.hid (B0.out.trans (hz.mono (by simp)))
  have X1 := Lib.hid (Xa.out.call hz)
  have T1 := Lib.hid htr
  clear hz htr
  obtain ⟨k0, k1, k2⟩ := box_load X1.out
  go_wp2_with fail
  refine (CI.out _).mono ?_
  rintro e w2 ⟨rfl, hz⟩
  have B2 := Lib.hid (B1.out.trans (hz.mono B1.out.size))
  have X2 := Lib.hid (X1.out.call hz)
  have T2 := Lib.hid (T1.out.below hz)
  have D2 := Lib.hid hz
  clear hz k0 k1 k2
  obtain ⟨_, _, _, _, _, _, hc3, _⟩ := node_cells T2.out
  obtain ⟨k0, k1, k2⟩ := box_load X2.out
  go_wp2_with fail
  refine (newHolder_calls (w.alloc (.cells #[.int .i64 (a.n : Int), .string (bs a.set), .string (bs a.rel)] 24)).heap.size w1 a w2 D2.out).mono ?_
  rintro e w3 ⟨rfl, hW, hz⟩
  have B3 := Lib.hid (B2.out.trans (hz.mono B2.out.size))
  have X3 := Lib.hid (X2.out.call hz)
  have hlt3 := hW.box.lt
  have W3 := Lib.hid (hW.alloc (.cells #[] 3))
  have Hlt3 := Lib.hid hlt3
  have hs23 := B2.out.size
  have HS23 := Lib.hid hs23
  clear hz k0 k1 k2 hc3 hW hlt3 hs23
  obtain ⟨k0, k1, k2⟩ := box_load X3.out
  obtain ⟨m0, m1, m2⟩ := box_load (X3.out.alloc (.cells #[] 3))
  generalize hhb : w2.heap.size + 1 = hb at *
  have Hhb := Lib.hid hhb
  clear hhb
  go_wp2_with fail
  go_loopg [8, 32] a.n (fun c o xi wr => ∃ k : Nat, k + c = a.n ∧ xi = .int .i64 (k : Nat) ∧ (wr.ownsRow w3.heap.size 3 1 o (rk R0 k).length (intsV (natsI (rk R0 k))) ∧ w3.heap.size ≤ wr.heap.size) ∧ HoldW (w.alloc (.cells #[.int .i64 (a.n : Int), .string (bs a.set), .string (bs a.rel)] 24)).heap.size w1 a hb wr ∧ Below w.heap.size w wr)
  case atStart => exact ⟨0, by omega, rfl, ⟨own_zeroO w3, by simp⟩, W3.out, B3.out.alloc B3.out.size _⟩
  case round =>
    obtain ⟨k, hk, rfl, ⟨ho, hs4'⟩, hWr, hbl⟩ := hrel
    clear k0 k1 k2 m0 m1 m2
    have Ho := Lib.hid ho
    have Hbl := Lib.hid hbl
    have Hs4 := Lib.hid hs4'
    have HWr := Lib.hid hWr
    have hrl := rk_len R0 k
    clear ho hbl hs4' hWr
    by_cases hlt : k < a.n
    · have j1 : (0 : Int) ≤ (k : Int) := by omega
      have j2 : (k : Int) < (a.n : Int) := by omega
      have hcall := holds_calls (w.alloc (.cells #[.int .i64 (a.n : Int), .string (bs a.set), .string (bs a.rel)] 24)).heap.size w1 a ha hb g b [k] (some ⟨wr.heap.size, 0, none⟩) 1 (wr.alloc (.cells #[.int .i64 (k : Nat)] 3)) T1.out (hzz k hlt) (by simp) (LRow_one wr k) (HWr.out.alloc _)
      rw [show g.holds a (envL [k]) = R0 k by rw [HR.out]] at hcall
      simp only [List.length_singleton] at hcall
      have F0 := Lib.hid (show Below w.heap.size w (wr.alloc (.cells #[.int .i64 (k : Nat)] 3)) from Hbl.out.alloc Hbl.out.size _)
      have O1 := Lib.hid (Ho.out.alloc (.cells #[.int .i64 (k : Nat)] 3))
      have HC := Lib.hid hcall
      clear hcall
      cases hq : R0 k with
      | false =>
        have hsc : rk R0 (k + 1) = rk R0 k := by rw [rk_succ, hq]; rfl
        rw [hq] at HC
        have Hsc := Lib.hid hsc
        clear hsc hq
        go_wp2_with fail
        refine (HC.out).mono ?_
        rintro e w4 ⟨rfl, hW4, hF⟩
        have W4 := Lib.hid hW4
        have F4 := Lib.hid (F0.out.trans (hF.below.mono (by have := HS23.out; have := Hhb.out; omega)))
        have O4 := Lib.hid (own_fz O1.out hF)
        have S4 := Lib.hid (show w3.heap.size ≤ w4.heap.size from by have h1 := hF.below.size; have h2 := Hs4.out; simp at h1; omega)
        clear hW4 hF
        go_wp2_with fail
        go_roundg (a.n - k - 1)
        case rel => exact ⟨k + 1, by omega, by go_num, ⟨by rw [Hsc.out]; exact O4.out, S4.out⟩, W4.out, F4.out⟩
        case measure => omega
      | true =>
        have hsc : rk R0 (k + 1) = rk R0 k ++ [k] := by rw [rk_succ, hq]; rfl
        rw [hq] at HC
        have Hsc := Lib.hid hsc
        clear hsc hq
        go_wp2_with fail
        refine (HC.out).mono ?_
        rintro e w4 ⟨rfl, hW4, hF⟩
        have W4 := Lib.hid hW4
        have F4 := Lib.hid (F0.out.trans (hF.below.mono (by have := HS23.out; have := Hhb.out; omega)))
        have O4 := Lib.hid (own_fz O1.out hF)
        have S4 := Lib.hid (show w3.heap.size ≤ w4.heap.size from by have h1 := hF.below.size; have h2 := Hs4.out; simp at h1; omega)
        clear hW4 hF
        go_wp2_with (at_builtin; refine wpList_append_own_at _ rfl (.tmp 40) (.tmp 42) 31 rfl w3.heap.size 3 i0 (.int .i64 0) 1 8 Tryz.underlying31 hi hz0 hz1 hz2 rfl (by decide) _ (rk R0 k).length (intsV (natsI (rk R0 k))) rfl (O4.out.alloc _) ⟨w4.heap.size, 0, none⟩ 1 1 [.int .i64 (k : Nat)] rfl rfl (cell_one_new _ _ _) (ints_oneCell .i64 [((k : Nat) : Int)]) (by unfold maxLen; omega) (by omega) (by have := S4.out; simp; omega) ?_; intro v2 w5 ho5 hg5 hn5 hat5; clear hn5 hat5; have W5 := Lib.hid ((W4.out.alloc _).own (O4.out.alloc _) (by have := Hlt3.out; omega) hg5))
        go_roundg (a.n - k - 1)
        case rel =>
          refine ⟨k + 1, by omega, by go_num, ⟨by rw [Hsc.out, show intsV (natsI (rk R0 k ++ [k])) = intsV (natsI (rk R0 k)) ++ [.int .i64 (k : Nat)] by simp [intsV, natsI], List.length_append, List.length_singleton]; exact ho5, ?_⟩, W5.out, ?_⟩
          · have h1 := hg5.size
            have h2 := S4.out
            simp at h1
            omega
          · exact (F4.out.alloc F4.out.size _).grown hg5 (by have := F4.out.size; simp; omega) (fun j hj => by have h1 := (O4.out.lt j hj).1; have h2 := B3.out.size; omega)
        case measure => omega
    · obtain rfl : k = a.n := by omega
      go_wp2_with fail
      go_ret2
      exact ⟨⟨_, rfl, own_base Ho.out (by have := B3.out.size; omega)⟩, Hbl.out⟩

end Go.Proofs.YtpaleogkgfclnaaGreatDoor

namespace Go.Proofs.YtpaleogkgfclnaaGreatDoor
open Go.RowKit
open Pl
set_option linter.unusedSimpArgs false
set_option linter.unusedVariables false

theorem getD_eq {xs ys : List Int} (hl : xs.length = ys.length) (h : ∀ j, j < xs.length → xs.getD j 0 = ys.getD j 0) : xs = ys := by
  apply List.ext_getElem hl
  intro i h1 h2
  have := h i h1
  simpa [List.getD, h1, h2] using this

set_option maxHeartbeats 400000 in
theorem gsSame_calls (A C : Option Addr) (c1 c2 : Nat) (xs ys : List Int) (w : World) (hm : xs.length ≤ 1048576) (hm2 : ys.length ≤ 1048576) (h1 : LRow w A xs) (h2 : LRow w C ys) :
    Calls Tryz.prog 20 #[.slice A xs.length c1, .slice C ys.length c2] w fun e w' => e = .returned (.bool (decide (xs = ys))) ∧ Below w.heap.size w w' := by
  have H1 := Lib.hid h1
  have H2 := Lib.hid h2
  clear h1 h2
  obtain ⟨V, hV⟩ : ∃ V, V = decide (xs = ys) := ⟨_, rfl⟩
  rw [← hV]
  have HV := Lib.hid hV
  clear hV
  by_cases hl : xs.length = ys.length
  · have hli : ((xs.length : Int) != (ys.length : Int)) = false := by simp; omega
    have hli3 : ¬ (xs.length : Int) ≠ (ys.length : Int) := by omega
    have hli2 : (xs.length : Int) = (ys.length : Int) := by omega
    have Hl := Lib.hid hl
    clear hl hli3
    go_enter Tryz.func20, Tryz.ntmps20
    go_wp2_with fail
    go_loopg [5] xs.length (fun c i wr => ∃ k : Nat, k + c = xs.length ∧ i = .int .i64 k ∧ Below w.heap.size w wr ∧ ∀ j, j < k → xs.getD j 0 = ys.getD j 0)
    case atStart => exact ⟨0, by omega, rfl, Below.refl _ _, fun j hj => absurd hj (Nat.not_lt_zero _)⟩
    case round =>
      obtain ⟨k, hk, rfl, hbr, hall⟩ := hrel
      have Hall := Lib.hid hall
      clear hall
      by_cases hlt : k < xs.length
      · obtain ⟨g, rfl, hc⟩ := H1.out (by omega)
        obtain ⟨g2, rfl, hc2⟩ := H2.out (by have := Hl.out; omega)
        have hlt2 : k < ys.length := by have := Hl.out; omega
        have d1 := (hbr.cell (World.block_lt_of_cell? w _ (hc k hlt))).trans (hc k hlt)
        have d2 := (hbr.cell (World.block_lt_of_cell? w _ (hc2 k hlt2))).trans (hc2 k hlt2)
        have Hbr := Lib.hid hbr
        obtain ⟨z1, hz1⟩ : ∃ z, z = xs.getD k 0 := ⟨_, rfl⟩
        obtain ⟨z2, hz2⟩ : ∃ z, z = ys.getD k 0 := ⟨_, rfl⟩
        rw [← hz1] at d1
        rw [← hz2] at d2
        have Z1 := Lib.hid hz1
        have Z2 := Lib.hid hz2
        have hki : (k : Int) < (ys.length : Int) := by omega
        clear hbr hc hc2 hz1 hz2
        by_cases hz : z1 = z2
        · have hb : (z1 != z2) = false := by simp [hz]
          subst hz
          go_upto_region 6 with (fail)
          go_quiet (fail)
          go_wp2_with fail
          go_roundg (xs.length - k - 1)
          case rel =>
            refine ⟨k + 1, by omega, by go_num, below_drewN' Hbr.out _, fun j hj => ?_⟩
            by_cases hjk : j = k
            · subst hjk; rw [← Z1.out, ← Z2.out]
            · exact Hall.out j (by omega)
          case measure => omega
        · have hb : (z1 != z2) = true := by simp [hz]
          have Hz := Lib.hid hz
          clear hz
          go_upto_region 6 with (fail)
          go_quiet (fail)
          go_wp2_with fail
          go_ret
          exact ⟨by rw [HV.out, decide_eq_false (fun e => Hz.out (by rw [Z1.out, Z2.out, e]))]; rfl, below_drewN' Hbr.out _⟩
      · have Hbr := Lib.hid hbr
        have hkl : k = xs.length := by omega
        have hke : xs = ys := getD_eq Hl.out (fun j hj => Hall.out j (by omega))
        have Hke := Lib.hid hke
        clear hbr hke hkl
        go_wp2_with fail
        go_ret
        exact ⟨by rw [HV.out, decide_eq_true Hke.out]; rfl, Hbr.out⟩
  · have hli : ((xs.length : Int) != (ys.length : Int)) = true := by simp; omega
    have hli2 : ¬ (xs.length : Int) = (ys.length : Int) := by omega
    have Hl := Lib.hid hl
    clear hl
    go_enter Tryz.func20, Tryz.ntmps20
    go_wp2_with fail
    go_ret
    exact ⟨by rw [HV.out, decide_eq_false (fun e => Hl.out (by rw [e]))]; rfl, Below.refl _ _⟩

end Go.Proofs.YtpaleogkgfclnaaGreatDoor

namespace Go.Proofs.YtpaleogkgfclnaaGreatDoor
open Go.RowKit
open Pl
set_option linter.unusedSimpArgs false
set_option linter.unusedVariables false

end Go.Proofs.YtpaleogkgfclnaaGreatDoor

namespace Go.Proofs.YtpaleogkgfclnaaGreatDoor
open Go.RowKit
open Pl
set_option linter.unusedSimpArgs false
set_option linter.unusedVariables false

/-- contracts over any structure, as a law asks them -/
theorem orbI_any (i : Int) (s r : ByteArray) (x : Int) (hs : s.size ≤ 100) (hr : r.size ≤ 100) (W : World) :
    Calls Tryz.prog 21 #[stV i s r, .int .i64 x] W fun e w' => (∃ A cap, e = .returned (.slice A (orbV i s r x).length cap) ∧ LRow w' A (natsI (orbV i s r x))) ∧ Below W.heap.size W w' :=
  (OrbitOf_impl i s r x W (by unfold maxLen; omega) (by unfold maxLen; omega)).mono fun e w' ⟨⟨v, h1, h2⟩, h3⟩ => by
    obtain ⟨A, cap, rfl⟩ := own_slice2 h2
    exact ⟨⟨A, cap, h1, LRow_of h2⟩, h3⟩
theorem natsI_inj {a b : List Nat} (h : natsI a = natsI b) : a = b := by
  unfold natsI at h
  have := congrArg (List.map Int.toNat) h
  simpa [List.map_map, Function.comp_def] using this
theorem same_any (A C : Option Addr) (c1 c2 : Nat) (xs ys : List Nat) (W : World) (hx : xs.length ≤ 100) (hy : ys.length ≤ 100) (h1 : LRow W A (natsI xs)) (h2 : LRow W C (natsI ys)) :
    Calls Tryz.prog 20 #[.slice A xs.length c1, .slice C ys.length c2] W fun e w' => e = .returned (.bool (decide (xs = ys))) ∧ Below W.heap.size W w' := by
  have h := gsSame_calls A C c1 c2 (natsI xs) (natsI ys) W (by rw [natsI_len]; omega) (by rw [natsI_len]; omega) h1 h2
  rw [natsI_len, natsI_len] at h
  rwa [show decide (natsI xs = natsI ys) = decide (xs = ys) from decide_eq_decide.2 ⟨natsI_inj, fun e => by rw [e]⟩] at h
theorem fact_le8 : ∀ {n : Nat}, n ≤ 8 → fact n ≤ 40320 ∧ 0 < fact n := by
  intro n h
  have : n = 0 ∨ n = 1 ∨ n = 2 ∨ n = 3 ∨ n = 4 ∨ n = 5 ∨ n = 6 ∨ n = 7 ∨ n = 8 := by omega
  rcases this with rfl | rfl | rfl | rfl | rfl | rfl | rfl | rfl | rfl <;> decide

end Go.Proofs.YtpaleogkgfclnaaGreatDoor

namespace Go.Proofs.YtpaleogkgfclnaaGreatDoor
open Pl

/-- the list with a number -/
def ptK (n : Nat) : Nat → Nat → List Nat
  | 0, _ => []
  | w + 1, k => ptK n w (k / n) ++ [k % n]
/-- a list's lists of one element more -/
def extL (n : Nat) (l : List Nat) : List (List Nat) := (List.range n).map fun x => l ++ [x]
/-- all lists of so many elements -/
def listsK (n : Nat) : Nat → List (List Nat)
  | 0 => [[]]
  | w + 1 => (listsK n w).flatMap (extL n)

theorem ptK_len (n : Nat) : ∀ w k, (ptK n w k).length = w
  | 0, _ => rfl
  | w + 1, k => by simp [ptK, ptK_len n w]
theorem ptK_lt {n : Nat} (hn : 0 < n) : ∀ w k, ∀ x ∈ ptK n w k, x < n
  | 0, _, x, h => by simp [ptK] at h
  | w + 1, k, x, h => by
    simp only [ptK, List.mem_append, List.mem_singleton] at h
    rcases h with h | rfl
    · exact ptK_lt hn w _ x h
    · exact Nat.mod_lt _ hn
theorem range_mul (m n : Nat) : List.range (m * n) = (List.range m).flatMap fun j => (List.range n).map fun x => j * n + x := by
  induction m with
  | zero => simp
  | succ m ih =>
    rw [List.range_succ, List.flatMap_append, ← ih, Nat.succ_mul, List.range_add]
    simp
theorem listsK_eq {n : Nat} (hn : 0 < n) : ∀ w, listsK n w = (List.range (n ^ w)).map (ptK n w)
  | 0 => by simp [listsK, ptK]
  | w + 1 => by
    rw [listsK, listsK_eq hn w, Nat.pow_succ, range_mul, List.map_flatMap, List.flatMap_map]
    refine congrArg (fun f => List.flatMap f (List.range (n ^ w))) (funext fun j => ?_)
    unfold extL
    rw [List.map_map]
    refine List.map_congr_left fun x hx => ?_
    have hx := List.mem_range.1 hx
    simp only [Function.comp, ptK]
    rw [Nat.mul_comm j n, Nat.mul_add_div hn, Nat.div_eq_of_lt hx, Nat.mul_add_mod, Nat.mod_eq_of_lt hx, Nat.add_zero]
theorem listsK_len {n : Nat} (hn : 0 < n) (w : Nat) : (listsK n w).length = n ^ w := by rw [listsK_eq hn]; simp
theorem listsK_mem {n : Nat} (hn : 0 < n) {w : Nat} {l : List Nat} (h : l ∈ listsK n w) : l.length = w ∧ ∀ x ∈ l, x < n := by
  rw [listsK_eq hn] at h
  obtain ⟨k, _, rfl⟩ := List.mem_map.1 h
  exact ⟨ptK_len n w k, ptK_lt hn w k⟩
theorem ptK_get {n : Nat} (hn : 0 < n) : ∀ w k p, p < w → (ptK n w k).getD p 0 = (k / n ^ (w - 1 - p)) % n
  | 0, _, p, h => by omega
  | w + 1, k, p, h => by
    simp only [ptK]
    by_cases hp : p = w
    · subst hp
      rw [List.getD_eq_getElem?_getD, List.getElem?_append_right (by rw [ptK_len]; exact Nat.le_refl _), ptK_len]
      simp
    · rw [List.getD_eq_getElem?_getD, List.getElem?_append_left (by rw [ptK_len]; omega), ← List.getD_eq_getElem?_getD, ptK_get hn w (k / n) p (by omega), Nat.div_div_eq_div_mul, ← Nat.pow_succ']
      congr 3
      omega

/-- all lists so far -/
def flatK (n : Nat) (Ls : List (List Nat)) (j x : Nat) : List (List Nat) := (Ls.take j).flatMap (extL n) ++ (List.range x).map fun y => Ls.getD j [] ++ [y]
theorem flatK_zero (n : Nat) (Ls : List (List Nat)) : flatK n Ls 0 0 = [] := rfl
theorem flatK_succ (n : Nat) (Ls : List (List Nat)) (j x : Nat) : flatK n Ls j (x + 1) = flatK n Ls j x ++ [Ls.getD j [] ++ [x]] := by
  unfold flatK
  rw [List.range_succ, List.map_append, ← List.append_assoc]
  rfl
theorem flatK_next {n : Nat} {Ls : List (List Nat)} {j : Nat} (hj : j < Ls.length) : flatK n Ls j n = flatK n Ls (j + 1) 0 := by
  unfold flatK
  rw [List.take_add_one, List.flatMap_append, List.getElem?_eq_getElem hj, List.getD_eq_getElem?_getD, List.getElem?_eq_getElem hj]
  simp [extL]
theorem flatK_all (n : Nat) (Ls : List (List Nat)) : flatK n Ls Ls.length 0 = Ls.flatMap (extL n) := by
  unfold flatK
  rw [List.take_length]
  simp
theorem flatK_len {n : Nat} (Ls : List (List Nat)) (j x : Nat) (hj : j ≤ Ls.length) : (flatK n Ls j x).length = j * n + x := by
  unfold flatK
  rw [List.length_append, List.length_flatMap]
  have : ((Ls.take j).map fun l => (extL n l).length) = List.replicate j n := by
    rw [List.eq_replicate_iff]
    refine ⟨by simp; omega, fun b hb => ?_⟩
    obtain ⟨l, _, rfl⟩ := List.mem_map.1 hb
    simp [extL]
  rw [this]
  simp

end Go.Proofs.YtpaleogkgfclnaaGreatDoor
