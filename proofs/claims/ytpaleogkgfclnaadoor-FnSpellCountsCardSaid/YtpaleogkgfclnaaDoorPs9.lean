/-
  Laws of the functions that the claim reaches, one after the other (packed by a program of the prover's: FmB, GsH, FvP, Sem2, PnP, CountWidth, SpLP, DrawF, DrawC, GsFour, RegC, WPushLaw, WSpellLaw). Conditions: texts below the reach.
-/
import Derived.Test.YtpaleogkgfclnaaDoorPs8
import Derived.Test.YtpaleogkgfclnaaDoorPs6
import Derived.Test.YtpaleogkgfclnaaDoorPs4
import Derived.Test.YtpaleogkgfclnaaDoorPs2
import Derived.Test.YtpaleogkgfclnaaDoorPs0
set_option linter.unusedSimpArgs false
set_option linter.unusedVariables false

namespace Go.Proofs.YtpaleogkgfclnaaDoor
open Pl
set_option linter.unusedSimpArgs false
set_option linter.unusedVariables false

theorem fm_bs {g : Fm} (h : g.text.length ≤ 4000) : fmB (bs g.text).data.toList = true := fmB_true.2 ⟨by simpa [bs] using h, g, by simp [bs]⟩
theorem bs_list (l : List UInt8) : (bs l).data.toList = l := by simp [bs]
theorem elAll_of_nats {n : Nat} {ns : List Nat} (h : ∀ x ∈ ns, x < n) : elAll n (natsI ns) = true := by
  unfold elAll
  rw [List.all_eq_true]
  intro z hz
  obtain ⟨x, hx, rfl⟩ := List.mem_map.1 hz
  have := h x hx
  unfold elB
  simp
  omega
theorem natsI_back (l : List Nat) : (natsI l).map Int.toNat = l := by
  unfold natsI
  rw [List.map_map]
  conv => rhs; rw [← List.map_id l]
  exact List.map_congr_left fun x _ => by simp

/-- HoldsAt of a formula, with elements for all that is free -/
theorem hold_fm {a : St} (ha : a.ok) {g : Fm} (hg : g.text.length ≤ 4000) {ns : List Nat} (hn : ∀ x ∈ ns, x < a.n) (hl : ns.length ≤ 4) (hf : g.freeBits / 2 ^ ns.length = 0) :
    holdB a.n (bs a.set) (bs a.rel) (bs g.text) (natsI ns) = true ∧ holdV a.n (bs a.set) (bs a.rel) (bs g.text) (natsI ns) = g.holds a (envL ns) := by
  have h1 : rdyB a.n (bs a.set) (bs a.rel) (bs g.text) (natsI ns).length = true := by
    rw [rdy_of (fm_bs hg) (bs_list _) ha, natsI_len, decide_eq_true hf]
  have h2 := hold_yes h1 (by rw [natsI_len]; exact hl) (elAll_of_nats hn)
  refine ⟨h2, ?_⟩
  rw [hold_yesV h2, natsI_back, tru_of (bs_list _)]
theorem hold_four {a : St} (ha : a.ok) {g : Fm} (hg : g.text.length ≤ 4000) {ns : List Nat} (hn : ∀ x ∈ ns, x < a.n) (hl : ns.length = 4) :
    holdV a.n (bs a.set) (bs a.rel) (bs g.text) (natsI ns) = g.holds a (envL ns) :=
  (hold_fm ha hg hn (by omega) (by have := freeBits_lt g; rw [hl]; omega)).2
/-- HoldsAt of anything: no, or a formula, a structure and elements -/
theorem hold_cases (i : Int) (s r f : ByteArray) (zs : List Int) : (holdB i s r f zs = false ∧ holdV i s r f zs = false) ∨
    ∃ (a : St) (g : Fm) (ns : List Nat), a.ok ∧ i = a.n ∧ s = bs a.set ∧ r = bs a.rel ∧ f = bs g.text ∧ g.text.length ≤ 4000 ∧ zs = natsI ns ∧ (∀ x ∈ ns, x < a.n) ∧ ns.length ≤ 4 ∧ g.freeBits / 2 ^ ns.length = 0 ∧ holdB i s r f zs = true ∧ holdV i s r f zs = g.holds a (envL ns) := by
  cases h : holdB i s r f zs with
  | false => exact .inl ⟨rfl, hold_no h⟩
  | true =>
    right
    have h0 := h
    unfold holdB rdyB at h
    simp only [Bool.and_eq_true, decide_eq_true_eq] at h
    obtain ⟨⟨h1, h2, h3⟩, h4, h5⟩ := h
    rcases ok_cases i s r with hq | ⟨a, ha, rfl, rfl, rfl⟩
    · rw [h1] at hq; cases hq
    rcases fm_cases f with ⟨hq, _⟩ | ⟨g, hb, hf, hs4, hl4⟩
    · rw [h2] at hq; cases hq
    obtain ⟨e1, e2⟩ := elAll_nats h5
    rw [fmOf_eq hf] at h3
    refine ⟨a, g, zs.map Int.toNat, ha, rfl, rfl, rfl, eq_bs hf, hl4, e1, e2, by simpa using h4, by simpa using h3, rfl, ?_⟩
    rw [hold_yesV h0, tru_of hf]

theorem text_app (l m : List UInt8) : bs l ++ bs m = bs (l ++ m) := by rw [append_bs, bs_list, bs_list]
theorem mk_bs (x : Array UInt8) : ByteArray.mk x = bs x.toList := by unfold bs; simp

end Go.Proofs.YtpaleogkgfclnaaDoor

namespace Go.Proofs.YtpaleogkgfclnaaDoor
open Go.RowKit
open Pl
set_option linter.unusedSimpArgs false
set_option linter.unusedVariables false

set_option maxRecDepth 100000 in
theorem gsHolds_calls (i : Int) (s r f : ByteArray) (A : Option Addr) (zs : List Int) (cap : Nat) (w : World) (hs : s.size ≤ maxLen) (hr : r.size ≤ maxLen) (hn : zs.length ≤ 1048576) (hcap : zs.length ≤ cap) (hA : LRow w A zs) :
    Calls Tryd.prog 12 #[stV i s r, .string f, .slice A zs.length cap] w fun e w' => e = .returned (.bool (holdV i s r f zs)) ∧ Below w.heap.size w w' := by
  have B0 := Lib.hid ((Below.refl w.heap.size w).alloc (Nat.le_refl _) (.cells #[.int .i64 i, .string s, .string r] 27))
  have hc := HoldsAt_impl i s r f A zs cap (w.alloc (.cells #[.int .i64 i, .string s, .string r] 27)) hs hr hn hcap (hA.alloc _)
  have Hc := Lib.hid hc
  obtain ⟨k0, k1, k2⟩ := box_load (Bx.new w 27 #[.int .i64 i, .string s, .string r])
  clear hc hs hr hA
  go_enter Tryd.func12, Tryd.ntmps12
  go_wp2_with fail
  refine (Hc.out).mono ?_
  rintro e w1 ⟨rfl, hz⟩
  have B1 := Lib.hid (B0.out.trans (hz.mono B0.out.size))
  clear hz k0 k1 k2
  go_wp2_with fail
  go_ret
  exact ⟨rfl, B1.out⟩
theorem st_len {a : St} (ha : a.ok) : (bs a.set).size ≤ maxLen ∧ (bs a.rel).size ≤ maxLen := by have := st_small ha; unfold maxLen; omega
/-- gsHolds of a formula with four elements -/
theorem gs_four (a : St) (ha : a.ok) (g : Fm) (hg : g.text.length ≤ 4000) (f : ByteArray) (hf : f = bs g.text) (ns : List Nat) (hn : ∀ x ∈ ns, x < a.n) (hl : ns.length = 4) (A : Option Addr) (cap : Nat) (hcap : 4 ≤ cap) (b : Bool) (hb : g.holds a (envL ns) = b) (w : World) (hA : LRow w A (natsI ns)) :
    Calls Tryd.prog 12 #[stV a.n (bs a.set) (bs a.rel), .string f, .slice A 4 cap] w fun e w' => e = .returned (.bool b) ∧ Below w.heap.size w w' := by
  subst hf
  have h := gsHolds_calls a.n (bs a.set) (bs a.rel) (bs g.text) A (natsI ns) cap w (st_len ha).1 (st_len ha).2 (by rw [natsI_len, hl]; omega) (by rw [natsI_len, hl]; exact hcap) hA
  rw [hold_four ha hg hn hl, natsI_len, hl, hb] at h
  exact h
theorem four_cells {W : World} {g a b c d : Nat} (h : LRow W (some ⟨g, 0, none⟩) (natsI [a, b, c, d])) : W.cell? ⟨g, 0, none⟩ = some (.int .i64 (a : Nat)) ∧ W.cell? ⟨g, 1, none⟩ = some (.int .i64 (b : Nat)) ∧ W.cell? ⟨g, 2, none⟩ = some (.int .i64 (c : Nat)) ∧ W.cell? ⟨g, 3, none⟩ = some (.int .i64 (d : Nat)) := by
  obtain ⟨g', hg, hc⟩ := h (by simp [natsI])
  injection hg with hg
  injection hg with hg _ _
  subst hg
  exact ⟨hc 0 (by simp [natsI]), hc 1 (by simp [natsI]), hc 2 (by simp [natsI]), hc 3 (by simp [natsI])⟩
theorem LRow_four (W : World) (a b c d : Nat) : LRow (W.alloc (.cells #[.int .i64 (a : Nat), .int .i64 (b : Nat), .int .i64 (c : Nat), .int .i64 (d : Nat)] 3)) (some ⟨W.heap.size, 0, none⟩) (natsI [a, b, c, d]) := fun _ => ⟨_, rfl, fun i hi => by
  have hx := Bx.new W 3 #[.int .i64 (a : Nat), .int .i64 (b : Nat), .int .i64 (c : Nat), .int .i64 (d : Nat)]
  have : i = 0 ∨ i = 1 ∨ i = 2 ∨ i = 3 := by simp [natsI] at hi; omega
  rcases this with rfl | rfl | rfl | rfl
  · exact hx.cell 0
  · exact hx.cell 1
  · exact hx.cell 2
  · exact hx.cell 3⟩
theorem len4 {ns : List Nat} (h : ns.length = 4) : ∃ a b c d, ns = [a, b, c, d] := by
  match ns, h with
  | [a, b, c, d], _ => exact ⟨a, b, c, d, rfl⟩

end Go.Proofs.YtpaleogkgfclnaaDoor

namespace Go.Proofs.YtpaleogkgfclnaaDoor
open Go.RowKit
open Pl
set_option linter.unusedSimpArgs false
set_option linter.unusedVariables false

theorem vars_at (m : Nat) : ∀ n, n ≤ 4 → ∀ k, k < (varsL m n).length → ∃ v : Fin 4, (varsL m n).getD k 0 = vb v := by
  intro n
  induction n with
  | zero => intro _ k hk; simp [varsL] at hk
  | succ n ih =>
    intro hn k hk
    cases h : m.testBit n with
    | false => rw [varsL_no h] at hk ⊢; exact ih (by omega) k hk
    | true =>
      rw [varsL_yes h] at hk ⊢
      by_cases hlt : k < (varsL m n).length
      · obtain ⟨v, hv⟩ := ih (by omega) k hlt
        refine ⟨v, ?_⟩
        rw [← hv, List.getD_eq_getElem?_getD, List.getD_eq_getElem?_getD, List.getElem?_append_left hlt]
      · have : k = (varsL m n).length := by simp at hk; omega
        refine ⟨⟨n, by omega⟩, ?_⟩
        rw [this, List.getD_eq_getElem?_getD]
        simp [vb]
theorem vars_mem (m : Nat) {n k : Nat} (hk : k < n) (h : m.testBit k = true) : UInt8.ofNat (97 + k) ∈ varsL m n := by
  unfold varsL
  exact List.mem_map.2 ⟨k, List.mem_filter.2 ⟨List.mem_range.2 hk, h⟩, rfl⟩
/-- an element that is not free may be changed -/
theorem holds_set {a : St} {g : Fm} {ns : List Nat} {k x : Nat} (hk : k < 4) (h : g.freeBits.testBit k = false) : g.holds a (envL (ns.set k x)) = g.holds a (envL ns) := by
  apply holds_free
  intro v hv
  have hne : v.val ≠ k := by
    intro e
    unfold Fm.isFree at hv
    rw [e, h] at hv
    cases hv
  unfold envL
  rw [List.getD_eq_getElem?_getD, List.getD_eq_getElem?_getD, List.getElem?_set_ne (Ne.symm hne)]
theorem holds_some {a : St} {q : Fm} {e : Env} {v : Fin 4} (hv : e v < a.n) (h : q.holds a e = true) : (Fm.qu .S v q).holds a e = true := by
  show decide (0 < Pl.cnt a.n (fun x => q.holds a (upd e v x))) = true
  rw [decide_eq_true_eq]
  have he : upd e v (e v) = e := by
    funext u
    by_cases hu : u = v
    · subst hu; rw [upd_same]
    · rw [upd_other hu]
  have h1 := cnt_split a.n (e v + 1) (fun x => q.holds a (upd e v x)) (by omega)
  have h2 := cnt_succ (e v) (fun x => q.holds a (upd e v x))
  simp only [he, h, if_true] at h2
  omega
/-- HoldsIn of a formula: no, or no free variables -/
theorem in_cases {a : St} (ha : a.ok) {q : Fm} (hq : q.text.length ≤ 4000) (e : Env) : holdB a.n (bs a.set) (bs a.rel) (bs q.text) [] = false ∨ (holdB a.n (bs a.set) (bs a.rel) (bs q.text) [] = true ∧ holdV a.n (bs a.set) (bs a.rel) (bs q.text) [] = q.holds a e) := by
  by_cases h0 : q.freeBits = 0
  · right
    have := hold_fm ha hq (ns := []) (by simp) (by simp) (by rw [h0]; rfl)
    refine ⟨this.1, this.2.trans (holds_free a q _ _ fun v hv => ?_)⟩
    unfold Fm.isFree at hv
    rw [h0] at hv
    simp at hv
  · left
    cases h : holdB a.n (bs a.set) (bs a.rel) (bs q.text) [] with
    | false => rfl
    | true =>
      exfalso
      unfold holdB at h
      simp only [Bool.and_eq_true] at h
      have h1 := h.1
      rw [show (([] : List Int).length) = 0 from rfl, rdy_of (fm_bs hq) (bs_list _) ha] at h1
      simp at h1
      exact h0 h1
/-- gsHolds of a formula with elements for all that is free -/
theorem gs_any (a : St) (ha : a.ok) (g : Fm) (hg : g.text.length ≤ 4000) (f : ByteArray) (hf : f = bs g.text) (ns : List Nat) (hn : ∀ x ∈ ns, x < a.n) (hl : ns.length ≤ 4) (hfr : g.freeBits / 2 ^ ns.length = 0) (A : Option Addr) (cap : Nat) (hcap : ns.length ≤ cap) (b : Bool) (hb : g.holds a (envL ns) = b) (w : World) (hA : LRow w A (natsI ns)) :
    Calls Tryd.prog 12 #[stV a.n (bs a.set) (bs a.rel), .string f, .slice A ns.length cap] w fun e w' => e = .returned (.bool b) ∧ Below w.heap.size w w' := by
  subst hf
  have h := gsHolds_calls a.n (bs a.set) (bs a.rel) (bs g.text) A (natsI ns) cap w (st_len ha).1 (st_len ha).2 (by rw [natsI_len]; omega) (by rw [natsI_len]; exact hcap) hA
  rw [(hold_fm ha hg hn hl hfr).2, natsI_len, hb] at h
  exact h
theorem ext_one {l : List UInt8} {k : Nat} (h : k < l.length) : (bs l).extract k (k + 1) = bs [l.getD k 0] := by
  apply eq_bs
  rw [Lib.extract_data, bs_list]
  rw [List.getD_eq_getElem?_getD, List.getElem?_eq_getElem h]
  rw [show k + 1 = k + 1 from rfl]
  apply List.ext_getElem
  · simp; omega
  · intro i h1 h2
    simp at h2
    subst h2
    simp
theorem cmp_at {l : List UInt8} {k m : Nat} (hk : k < 4) (hm : m < (bs l).size) (hk2 : k < (ByteArray.mk #[97, 98, 99, 100]).size) (h : ((((bs l)[m]'hm).toNat : Int) == (((ByteArray.mk #[97, 98, 99, 100])[k]'hk2).toNat : Int)) = false) : l.getD m 0 ≠ UInt8.ofNat (97 + k) := by
  intro e
  have hm2 : m < l.length := by rw [bs_size] at hm; exact hm
  have e1 : (bs l)[m]'hm = l.getD m 0 := by
    rw [List.getD_eq_getElem?_getD, List.getElem?_eq_getElem hm2]
    rfl
  have e2 : (ByteArray.mk #[97, 98, 99, 100])[k]'hk2 = UInt8.ofNat (97 + k) := by
    match k, hk with
    | 0, _ => rfl
    | 1, _ => rfl
    | 2, _ => rfl
    | 3, _ => rfl
  rw [e1, e2, e] at h
  simp at h
theorem LRow.set {W : World} {g : Nat} {ns : List Nat} {k x : Nat} (h : LRow W (some ⟨g, 0, none⟩) (natsI ns)) (hk : k < ns.length) : LRow (W.setCell ⟨g, k, none⟩ (.int .i64 (x : Nat))) (some ⟨g, 0, none⟩) (natsI (ns.set k x)) := by
  intro hl
  obtain ⟨g', hg, hc⟩ := h (by rw [natsI_len]; omega)
  injection hg with hg
  injection hg with hg _ _
  subst hg
  refine ⟨g, rfl, fun i hi => ?_⟩
  rw [natsI_len, List.length_set] at hi
  have h2 := hc i (by rw [natsI_len]; exact hi)
  by_cases e : i = k
  · subst e
    rw [World.cell?_setCell_same _ _ _ h2]
    simp [natsI, List.getD, hi]
  · rw [World.cell?_setCell_other _ _ _ _ (by intro e2; injection e2 with _ e2 _; exact e e2.symm), h2]
    simp [natsI, List.getD, List.getElem?_set_ne (Ne.symm e)]
theorem LRow.far {W : World} {g : Nat} {A : Option Addr} {zs : List Int} (h : LRow W A zs) (hA : ∀ b, A = some ⟨b, 0, none⟩ → b ≠ g) (k : Nat) (u : Value) : LRow (W.setCell ⟨g, k, none⟩ u) A zs := by
  intro hl
  obtain ⟨b, hb, hc⟩ := h hl
  refine ⟨b, hb, fun i hi => ?_⟩
  rw [World.cell?_setCell_other _ _ _ _ (by intro e2; injection e2 with e2 _ _; exact hA b hb e2.symm)]
  exact hc i hi

end Go.Proofs.YtpaleogkgfclnaaDoor

namespace Go.Proofs.YtpaleogkgfclnaaDoor
open Pl

theorem free_all (f : Fm) (v : Fin 4) (h : f.isFree v) : f.allBits.testBit v.val = true := by
  unfold Fm.isFree at h
  induction f with
  | tru => exact h
  | fls => exact h
  | pr u => exact h
  | eq u w => exact h
  | rel u w => exact h
  | neg p ih => exact ih h
  | con p q ihp ihq =>
    simp only [Fm.freeBits, Fm.allBits, Nat.testBit_or, Bool.or_eq_true] at *
    exact h.imp ihp ihq
  | dis p q ihp ihq =>
    simp only [Fm.freeBits, Fm.allBits, Nat.testBit_or, Bool.or_eq_true] at *
    exact h.imp ihp ihq
  | qu k u p ih =>
    have := (free_qu k u p v).1 h
    simp only [Fm.allBits, Nat.testBit_or, Bool.or_eq_true]
    exact .inr (ih this.1)

theorem holds_repl (a : St) (v w : Fin 4) : ∀ (f : Fm) (e : Env), f.allBits.testBit w.val = false → (f.repl v w).holds a e = f.holds a (upd e v (e w)) := by
  intro f
  induction f with
  | tru => intros; rfl
  | fls => intros; rfl
  | pr u =>
    intro e _
    simp only [Fm.repl, Fm.holds]
    by_cases h : u = v
    · subst h; rw [if_pos rfl, upd_same]
    · rw [if_neg h, upd_other h]
  | eq u t =>
    intro e _
    have hu : ∀ s : Fin 4, e (if s = v then w else s) = upd e v (e w) s := fun s => by
      unfold upd; by_cases h : s = v <;> simp [h]
    simp only [Fm.repl, Fm.holds, hu]
  | rel u t =>
    intro e _
    have hu : ∀ s : Fin 4, e (if s = v then w else s) = upd e v (e w) s := fun s => by
      unfold upd; by_cases h : s = v <;> simp [h]
    simp only [Fm.repl, Fm.holds, hu]
  | neg p ih => intro e h; simp only [Fm.repl, Fm.holds, ih e h]
  | con p q ihp ihq =>
    intro e h
    simp only [Fm.allBits, Nat.testBit_or, Bool.or_eq_false_iff] at h
    simp only [Fm.repl, Fm.holds, ihp e h.1, ihq e h.2]
  | dis p q ihp ihq =>
    intro e h
    simp only [Fm.allBits, Nat.testBit_or, Bool.or_eq_false_iff] at h
    simp only [Fm.repl, Fm.holds, ihp e h.1, ihq e h.2]
  | qu k u p ih =>
    intro e h
    simp only [Fm.allBits, Nat.testBit_or, Bool.or_eq_false_iff] at h
    have hwu : w ≠ u := by
      rintro rfl
      have := h.1
      rw [bit_test] at this
      simp at this
    simp only [Fm.repl]
    by_cases hu : u = v
    · subst hu
      rw [if_pos rfl]
      refine holds_free a _ _ _ fun t ht => ?_
      have := (free_qu k u p t).1 ht
      rw [upd_other this.2]
    · rw [if_neg hu]
      simp only [Fm.holds]
      rw [cnt_congr fun x _ => ?_]
      rw [ih _ h.2, upd_other hwu]
      congr 1
      funext t
      unfold upd
      by_cases h1 : t = v
      · subst h1; simp [Ne.symm hu]
      · by_cases h2 : t = u <;> simp [h1, h2, hu]

theorem cnt_two {n : Nat} {p : Nat → Bool} : 2 ≤ cnt n p ↔ ∃ x y, x < n ∧ y < n ∧ x ≠ y ∧ p x = true ∧ p y = true := by
  constructor
  · intro h
    unfold cnt at h
    have hnd : ((List.range n).filter p).Nodup := List.nodup_range.filter _
    match hl : (List.range n).filter p, h, hnd with
    | x :: y :: t, _, hnd =>
      have hx : x ∈ (List.range n).filter p := by rw [hl]; simp
      have hy : y ∈ (List.range n).filter p := by rw [hl]; simp
      obtain ⟨h1, h2⟩ := List.mem_filter.1 hx
      obtain ⟨h3, h4⟩ := List.mem_filter.1 hy
      have hne : x ≠ y := by
        rintro rfl
        exact (List.nodup_cons.1 hnd).1 (by simp)
      exact ⟨x, y, List.mem_range.1 h1, List.mem_range.1 h3, hne, h2, h4⟩
  · rintro ⟨x, y, hx, hy, hne, h1, h2⟩
    have := nodup_len_le [x, y] ((List.range n).filter p) (by simp [hne]) (fun z hz => by
      simp only [List.mem_cons, List.not_mem_nil, or_false] at hz
      rcases hz with rfl | rfl
      · exact List.mem_filter.2 ⟨List.mem_range.2 hx, h1⟩
      · exact List.mem_filter.2 ⟨List.mem_range.2 hy, h2⟩)
    exact this

theorem holds_two (a : St) (p : Fm) (v w : Fin 4) (e : Env) (hw : p.allBits.testBit w.val = false) (hv : v ≠ w) :
    (Fm.qu .S v (.qu .S w (.con (.neg (.eq v w)) (.con p (p.repl v w))))).holds a e = (Fm.qu .c2 v p).holds a e := by
  rw [Bool.eq_iff_iff]
  have hL : (Fm.qu .S v (.qu .S w (.con (.neg (.eq v w)) (.con p (p.repl v w))))).holds a e = decide (0 < cnt a.n fun x => decide (0 < cnt a.n fun y => (!(upd (upd e v x) w y v == upd (upd e v x) w y w) && (p.holds a (upd (upd e v x) w y) && (p.repl v w).holds a (upd (upd e v x) w y))))) := rfl
  have hR : (Fm.qu .c2 v p).holds a e = decide (2 ≤ cnt a.n fun x => p.holds a (upd e v x)) := rfl
  rw [hL, hR, decide_eq_true_eq, decide_eq_true_eq, cnt_pos, cnt_two]
  have h1 : ∀ x y, p.holds a (upd (upd e v x) w y) = p.holds a (upd e v x) := fun x y => holds_free a p _ _ fun u hu => by
    rw [upd_other]
    rintro rfl
    rw [free_all p u hu] at hw
    cases hw
  have h2 : ∀ x y, (p.repl v w).holds a (upd (upd e v x) w y) = p.holds a (upd e v y) := fun x y => by
    rw [holds_repl a v w p _ hw, upd_same]
    refine holds_free a p _ _ fun u hu => ?_
    have huw : u ≠ w := by rintro rfl; rw [free_all p u hu] at hw; cases hw
    unfold upd
    by_cases huv : u = v
    · simp [huv]
    · simp [huv, huw]
  constructor
  · rintro ⟨x, hx, h⟩
    replace h := cnt_pos.1 (of_decide_eq_true h)
    obtain ⟨y, hy, h⟩ := h
    simp only [Bool.and_eq_true, Bool.not_eq_true', beq_eq_false_iff_ne] at h
    rw [h1, h2, upd_same, upd_other hv, upd_same] at h
    exact ⟨x, y, hx, hy, h.1, h.2.1, h.2.2⟩
  · rintro ⟨x, y, hx, hy, hne, g1, g2⟩
    refine ⟨x, hx, decide_eq_true (cnt_pos.2 ⟨y, hy, ?_⟩)⟩
    simp only [Bool.and_eq_true, Bool.not_eq_true', beq_eq_false_iff_ne]
    rw [h1, h2, upd_same, upd_other hv, upd_same]
    exact ⟨hne, g1, g2⟩

theorem holds_spell (a : St) : ∀ (f g : Fm), f.spell = some g → ∀ e, g.holds a e = f.holds a e := by
  intro f
  induction f with
  | tru => intro g h e; simp [Fm.spell] at h; subst h; rfl
  | fls => intro g h e; simp [Fm.spell] at h; subst h; rfl
  | pr v => intro g h e; simp [Fm.spell] at h; subst h; rfl
  | eq v w => intro g h e; simp [Fm.spell] at h; subst h; rfl
  | rel v w => intro g h e; simp [Fm.spell] at h; subst h; rfl
  | neg p ih =>
    intro g h e
    simp only [Fm.spell] at h
    split at h
    · rename_i p' hp
      injection h with h; subst h
      simp only [Fm.holds, ih p' hp]
    · cases h
  | con p q ihp ihq =>
    intro g h e
    simp only [Fm.spell] at h
    split at h
    · rename_i p' hp
      split at h
      · rename_i q' hq
        injection h with h; subst h
        simp only [Fm.holds, ihp p' hp, ihq q' hq]
      · cases h
    · cases h
  | dis p q ihp ihq =>
    intro g h e
    simp only [Fm.spell] at h
    split at h
    · rename_i p' hp
      split at h
      · rename_i q' hq
        injection h with h; subst h
        simp only [Fm.holds, ihp p' hp, ihq q' hq]
      · cases h
    · cases h
  | qu k v p ih =>
    intro g h e
    cases k with
    | c3 => simp [Fm.spell] at h
    | c4 => simp [Fm.spell] at h
    | A =>
      simp only [Fm.spell] at h
      split at h
      · rename_i p' hp
        injection h with h; subst h
        simp only [Fm.holds, ih p' hp]
      · cases h
    | S =>
      simp only [Fm.spell] at h
      split at h
      · rename_i p' hp
        injection h with h; subst h
        simp only [Fm.holds, ih p' hp]
      · cases h
    | c2 =>
      simp only [Fm.spell] at h
      split at h
      · rename_i p' hp
        split at h
        · rename_i w hw
          injection h with h; subst h
          obtain ⟨hw1, hw2⟩ := freshV_some hw
          rw [holds_two a p' v w e hw1 hw2]
          simp only [Fm.holds, ih p' hp]
        · cases h
      · cases h

theorem repl_rank (v w : Fin 4) (f : Fm) : (f.repl v w).rank = f.rank := by
  induction f with
  | qu k u p ih => by_cases h : u = v <;> simp [Fm.repl, Fm.rank, h, ih]
  | neg p ih => simp [Fm.repl, Fm.rank, ih]
  | con p q ihp ihq => simp [Fm.repl, Fm.rank, ihp, ihq]
  | dis p q ihp ihq => simp [Fm.repl, Fm.rank, ihp, ihq]
  | _ => simp [Fm.repl, Fm.rank]

theorem repl_counts (v w : Fin 4) (f : Fm) : (f.repl v w).counts = f.counts := by
  induction f with
  | qu k u p ih => by_cases h : u = v <;> simp [Fm.repl, Fm.counts, h, ih]
  | neg p ih => simp [Fm.repl, Fm.counts, ih]
  | con p q ihp ihq => simp [Fm.repl, Fm.counts, ihp, ihq]
  | dis p q ihp ihq => simp [Fm.repl, Fm.counts, ihp, ihq]
  | _ => simp [Fm.repl, Fm.counts]

theorem repl_free {v w : Fin 4} {f : Fm} (hw : f.allBits.testBit w.val = false) (u : Fin 4) (huv : u ≠ v) (huw : u ≠ w) : (f.repl v w).isFree u ↔ f.isFree u := by
  have hb : ∀ s t : Fin 4, (1 <<< s.val).testBit t.val = decide (s = t) := bit_test
  unfold Fm.isFree
  induction f with
  | tru => rfl
  | fls => rfl
  | pr s =>
    by_cases h : s = v
    · subst h; simp [Fm.repl, Fm.freeBits, hb, Ne.symm huv, Ne.symm huw, -Nat.testBit_shiftLeft]
    · simp [Fm.repl, h]
  | eq s t =>
    by_cases h : s = v <;> by_cases h2 : t = v <;> simp [Fm.repl, Fm.freeBits, hb, h, h2, Ne.symm huv, Ne.symm huw, -Nat.testBit_shiftLeft]
  | rel s t =>
    by_cases h : s = v <;> by_cases h2 : t = v <;> simp [Fm.repl, Fm.freeBits, hb, h, h2, Ne.symm huv, Ne.symm huw, -Nat.testBit_shiftLeft]
  | neg p ih => exact ih hw
  | con p q ihp ihq =>
    simp only [Fm.allBits, Nat.testBit_or, Bool.or_eq_false_iff] at hw
    simp only [Fm.repl, Fm.freeBits, Nat.testBit_or, Bool.or_eq_true]
    exact or_congr (ihp hw.1) (ihq hw.2)
  | dis p q ihp ihq =>
    simp only [Fm.allBits, Nat.testBit_or, Bool.or_eq_false_iff] at hw
    simp only [Fm.repl, Fm.freeBits, Nat.testBit_or, Bool.or_eq_true]
    exact or_congr (ihp hw.1) (ihq hw.2)
  | qu k s p ih =>
    simp only [Fm.allBits, Nat.testBit_or, Bool.or_eq_false_iff] at hw
    simp only [Fm.repl]
    by_cases h : s = v
    · rw [if_pos h]
    · rw [if_neg h]
      have h1 := free_qu k s (p.repl v w) u
      have h2 := free_qu k s p u
      unfold Fm.isFree at h1 h2
      rw [h1, h2]
      exact and_congr_left' (ih hw.2)

theorem two_free {p : Fm} {v w : Fin 4} (hw : p.allBits.testBit w.val = false) (u : Fin 4) :
    (Fm.qu .S v (.qu .S w (.con (.neg (.eq v w)) (.con p (p.repl v w))))).isFree u ↔ (Fm.qu .c2 v p).isFree u := by
  rw [free_qu, free_qu, free_qu]
  constructor
  · rintro ⟨⟨h, huw⟩, huv⟩
    refine ⟨?_, huv⟩
    unfold Fm.isFree at h
    simp only [Fm.freeBits, Nat.testBit_or, bit_test, Bool.or_eq_true, decide_eq_true_eq] at h
    rcases h with (h | h) | h | h
    · exact absurd h.symm huv
    · exact absurd h.symm huw
    · exact h
    · exact (repl_free hw u huv huw).1 h
  · rintro ⟨h, huv⟩
    have huw : u ≠ w := by rintro rfl; rw [free_all p u h] at hw; cases hw
    refine ⟨⟨?_, huw⟩, huv⟩
    unfold Fm.isFree at h ⊢
    simp only [Fm.freeBits, Nat.testBit_or, Bool.or_eq_true]
    exact .inr (.inl h)

theorem spell_facts : ∀ (f g : Fm), f.spell = some g → g.rank = f.rank ∧ g.counts = false ∧ (∀ u, g.isFree u ↔ f.isFree u) ∧ ∀ u : Fin 4, f.allBits.testBit u.val = true → g.allBits.testBit u.val = true := by
  intro f
  induction f with
  | tru => intro g h; simp [Fm.spell] at h; subst h; exact ⟨rfl, rfl, fun _ => Iff.rfl, fun _ h => h⟩
  | fls => intro g h; simp [Fm.spell] at h; subst h; exact ⟨rfl, rfl, fun _ => Iff.rfl, fun _ h => h⟩
  | pr v => intro g h; simp [Fm.spell] at h; subst h; exact ⟨rfl, rfl, fun _ => Iff.rfl, fun _ h => h⟩
  | eq v w => intro g h; simp [Fm.spell] at h; subst h; exact ⟨rfl, rfl, fun _ => Iff.rfl, fun _ h => h⟩
  | rel v w => intro g h; simp [Fm.spell] at h; subst h; exact ⟨rfl, rfl, fun _ => Iff.rfl, fun _ h => h⟩
  | neg p ih =>
    intro g h
    simp only [Fm.spell] at h
    split at h
    · rename_i p' hp
      injection h with h; subst h
      exact ih p' hp
    · cases h
  | con p q ihp ihq =>
    intro g h
    simp only [Fm.spell] at h
    split at h
    · rename_i p' hp
      split at h
      · rename_i q' hq
        injection h with h; subst h
        obtain ⟨a1, a2, a3, a4⟩ := ihp p' hp
        obtain ⟨b1, b2, b3, b4⟩ := ihq q' hq
        refine ⟨by simp only [Fm.rank, a1, b1], by simp only [Fm.counts, a2, b2]; rfl, fun u => ?_, fun u hu => ?_⟩
        · have c1 := a3 u; have c2 := b3 u
          unfold Fm.isFree at *
          simp only [Fm.freeBits, Nat.testBit_or, Bool.or_eq_true, c1, c2]
        · simp only [Fm.allBits, Nat.testBit_or, Bool.or_eq_true] at hu ⊢
          exact hu.imp (a4 u) (b4 u)
      · cases h
    · cases h
  | dis p q ihp ihq =>
    intro g h
    simp only [Fm.spell] at h
    split at h
    · rename_i p' hp
      split at h
      · rename_i q' hq
        injection h with h; subst h
        obtain ⟨a1, a2, a3, a4⟩ := ihp p' hp
        obtain ⟨b1, b2, b3, b4⟩ := ihq q' hq
        refine ⟨by simp only [Fm.rank, a1, b1], by simp only [Fm.counts, a2, b2]; rfl, fun u => ?_, fun u hu => ?_⟩
        · have c1 := a3 u; have c2 := b3 u
          unfold Fm.isFree at *
          simp only [Fm.freeBits, Nat.testBit_or, Bool.or_eq_true, c1, c2]
        · simp only [Fm.allBits, Nat.testBit_or, Bool.or_eq_true] at hu ⊢
          exact hu.imp (a4 u) (b4 u)
      · cases h
    · cases h
  | qu k v p ih =>
    intro g h
    have one : ∀ (k : Qn) (p' : Fm), p.spell = some p' → isCoB k.b = false → (Fm.qu k v p').rank = (Fm.qu k v p).rank ∧ (Fm.qu k v p').counts = false ∧ (∀ u, (Fm.qu k v p').isFree u ↔ (Fm.qu k v p).isFree u) ∧ ∀ u : Fin 4, (Fm.qu k v p).allBits.testBit u.val = true → (Fm.qu k v p').allBits.testBit u.val = true := by
      intro k p' hp hk
      obtain ⟨a1, a2, a3, a4⟩ := ih p' hp
      refine ⟨by simp only [Fm.rank, a1], by simp only [Fm.counts, a2, hk]; rfl, fun u => ?_, fun u hu => ?_⟩
      · rw [free_qu, free_qu, a3]
      · simp only [Fm.allBits, Nat.testBit_or, Bool.or_eq_true] at hu ⊢
        exact hu.imp id (a4 u)
    cases k with
    | c3 => simp [Fm.spell] at h
    | c4 => simp [Fm.spell] at h
    | A =>
      simp only [Fm.spell] at h
      split at h
      · rename_i p' hp
        injection h with h; subst h
        exact one .A p' hp rfl
      · cases h
    | S =>
      simp only [Fm.spell] at h
      split at h
      · rename_i p' hp
        injection h with h; subst h
        exact one .S p' hp rfl
      · cases h
    | c2 =>
      simp only [Fm.spell] at h
      split at h
      · rename_i p' hp
        split at h
        · rename_i w hw
          injection h with h; subst h
          obtain ⟨hw1, hw2⟩ := freshV_some hw
          obtain ⟨a1, a2, a3, a4⟩ := ih p' hp
          refine ⟨?_, ?_, fun u => ?_, fun u hu => ?_⟩
          · simp only [Fm.rank, repl_rank, a1, Qn.n]; omega
          · simp only [Fm.counts, repl_counts, a2]; rfl
          · rw [two_free hw1, free_qu, free_qu, a3]
          · simp only [Fm.allBits, Nat.testBit_or, Bool.or_eq_true] at hu ⊢
            rcases hu with hu | hu
            · exact .inl hu
            · exact .inr (.inr (.inr (.inl (a4 u hu))))
        · cases h
      · cases h

theorem push_facts (f : Fm) : ∀ b, (f.push b).rank = f.rank ∧ ∀ u, (f.push b).isFree u ↔ f.isFree u := by
  induction f with
  | neg p ih => intro b; exact ih (!b)
  | con p q ihp ihq =>
    intro b
    obtain ⟨a1, a2⟩ := ihp b
    obtain ⟨b1, b2⟩ := ihq b
    have h : ∀ u, ((p.push b).freeBits ||| (q.push b).freeBits).testBit u = (p.freeBits ||| q.freeBits).testBit u ∨ 4 ≤ u := by
      intro u
      by_cases hu : u < 4
      · left
        have c1 := a2 ⟨u, hu⟩; have c2 := b2 ⟨u, hu⟩
        unfold Fm.isFree at c1 c2
        rw [Nat.testBit_or, Nat.testBit_or, Bool.eq_iff_iff, Bool.or_eq_true, Bool.or_eq_true, c1, c2]
      · right; omega
    refine ⟨by cases b <;> simp [Fm.push, Fm.rank, a1, b1], fun u => ?_⟩
    have := h u.val
    have hu := u.isLt
    rcases this with h1 | h1
    · unfold Fm.isFree; cases b <;> simp [Fm.push, Fm.freeBits, -Nat.testBit_or, h1]
    · omega
  | dis p q ihp ihq =>
    intro b
    obtain ⟨a1, a2⟩ := ihp b
    obtain ⟨b1, b2⟩ := ihq b
    have h : ∀ u, ((p.push b).freeBits ||| (q.push b).freeBits).testBit u = (p.freeBits ||| q.freeBits).testBit u ∨ 4 ≤ u := by
      intro u
      by_cases hu : u < 4
      · left
        have c1 := a2 ⟨u, hu⟩; have c2 := b2 ⟨u, hu⟩
        unfold Fm.isFree at c1 c2
        rw [Nat.testBit_or, Nat.testBit_or, Bool.eq_iff_iff, Bool.or_eq_true, Bool.or_eq_true, c1, c2]
      · right; omega
    refine ⟨by cases b <;> simp [Fm.push, Fm.rank, a1, b1], fun u => ?_⟩
    have := h u.val
    have hu := u.isLt
    rcases this with h1 | h1
    · unfold Fm.isFree; cases b <;> simp [Fm.push, Fm.freeBits, -Nat.testBit_or, h1]
    · omega
  | qu k v p ih =>
    intro b
    have hq : ∀ (k k' : Qn) (c : Bool) (u : Fin 4), (Fm.qu k v (p.push c)).isFree u ↔ (Fm.qu k' v p).isFree u := fun k k' c u => by
      rw [free_qu, free_qu, (ih c).2 u]
    cases k <;> cases b <;> exact ⟨by simp [Fm.push, Fm.rank, Qn.n, (ih true).1, (ih false).1], fun u => by first | exact hq .A .A _ u | exact hq .S .A _ u | exact hq .A .S _ u | exact hq .S .S _ u | exact hq .c2 .c2 _ u | exact hq .c3 .c3 _ u | exact hq .c4 .c4 _ u⟩
  | tru => intro b; cases b <;> exact ⟨rfl, fun _ => Iff.rfl⟩
  | fls => intro b; cases b <;> exact ⟨rfl, fun _ => Iff.rfl⟩
  | pr v => intro b; cases b <;> exact ⟨rfl, fun _ => Iff.rfl⟩
  | eq v w => intro b; cases b <;> exact ⟨rfl, fun _ => Iff.rfl⟩
  | rel v w => intro b; cases b <;> exact ⟨rfl, fun _ => Iff.rfl⟩

end Go.Proofs.YtpaleogkgfclnaaDoor

namespace Go.Proofs.YtpaleogkgfclnaaDoor
open Go.RowKit
open Pl
set_option linter.unusedSimpArgs false
set_option linter.unusedVariables false

/-- what may stand behind a negation -/
def okc (b : UInt8) : Bool := b == 80 || b == 61 || b == 69 || b == 50 || b == 51 || b == 52
/-- negations ahead of such alone -/
def negB : List UInt8 → Bool
  | x :: y :: r => (x != 33 || okc y) && negB (y :: r)
  | _ => true
def negF : Fm → Bool
  | .neg p => okc p.op && negF p
  | .con p q => negF p && negF q
  | .dis p q => negF p && negF q
  | .qu _ _ p => negF p
  | _ => true
theorem negB_cons {x : UInt8} (h : x ≠ 33) (r : List UInt8) : negB (x :: r) = negB r := by
  cases r with
  | nil => rfl
  | cons y r => show ((x != 33 || okc y) && negB (y :: r)) = _; rw [bne_iff_ne.2 h]; rfl
theorem vb_ne (v : Fin 4) : vb v ≠ 33 := by revert v; decide
theorem qb_ne (k : Qn) : k.b ≠ 33 := by cases k <;> decide
theorem op_cons (f : Fm) : ∃ t, f.text = f.op :: t := ⟨_, f.text_eq⟩
theorem negB_text : ∀ (f : Fm) (r : List UInt8), negF f = true → negB r = true → negB (f.text ++ r) = true := by
  intro f
  induction f with
  | tru => intro r _ h; show negB (116 :: r) = true; rw [negB_cons (by decide)]; exact h
  | fls => intro r _ h; show negB (102 :: r) = true; rw [negB_cons (by decide)]; exact h
  | pr v => intro r _ h; show negB (80 :: vb v :: r) = true; rw [negB_cons (by decide), negB_cons (vb_ne v)]; exact h
  | eq v w => intro r _ h; show negB (61 :: vb v :: vb w :: r) = true; rw [negB_cons (by decide), negB_cons (vb_ne v), negB_cons (vb_ne w)]; exact h
  | rel v w => intro r _ h; show negB (69 :: vb v :: vb w :: r) = true; rw [negB_cons (by decide), negB_cons (vb_ne v), negB_cons (vb_ne w)]; exact h
  | neg p ih =>
    intro r hf h
    simp only [negF, Bool.and_eq_true] at hf
    have h1 := ih r hf.2 h
    obtain ⟨t, ht⟩ := op_cons p
    show negB (33 :: (p.text ++ r)) = true
    rw [ht] at h1 ⊢
    show ((33 != 33 || okc p.op) && negB (p.op :: (t ++ r))) = true
    rw [hf.1]
    simpa using h1
  | con p q ihp ihq =>
    intro r hf h
    simp only [negF, Bool.and_eq_true] at hf
    show negB (38 :: ((p.text ++ q.text) ++ r)) = true
    rw [negB_cons (by decide), List.append_assoc]
    exact ihp _ hf.1 (ihq _ hf.2 h)
  | dis p q ihp ihq =>
    intro r hf h
    simp only [negF, Bool.and_eq_true] at hf
    show negB (124 :: ((p.text ++ q.text) ++ r)) = true
    rw [negB_cons (by decide), List.append_assoc]
    exact ihp _ hf.1 (ihq _ hf.2 h)
  | qu k v p ih =>
    intro r hf h
    simp only [negF] at hf
    show negB (k.b :: vb v :: (p.text ++ r)) = true
    rw [negB_cons (qb_ne k), negB_cons (vb_ne v)]
    exact ih _ hf h
theorem push_negF : ∀ (f : Fm) (b : Bool), negF (f.push b) = true := by
  intro f
  induction f with
  | tru => intro b; cases b <;> rfl
  | fls => intro b; cases b <;> rfl
  | pr v => intro b; cases b <;> rfl
  | eq v w => intro b; cases b <;> rfl
  | rel v w => intro b; cases b <;> rfl
  | neg p ih => intro b; exact ih (!b)
  | con p q ihp ihq => intro b; cases b <;> simp [Fm.push, negF, ihp, ihq]
  | dis p q ihp ihq => intro b; cases b <;> simp [Fm.push, negF, ihp, ihq]
  | qu k v p ih => intro b; cases k <;> cases b <;> simp [Fm.push, negF, ih, okc, Fm.op, Qn.b]
theorem push_again : ∀ (f : Fm), negF f = true → f.push false = f := by
  intro f
  induction f with
  | tru => intro _; rfl
  | fls => intro _; rfl
  | pr v => intro _; rfl
  | eq v w => intro _; rfl
  | rel v w => intro _; rfl
  | neg p ih =>
    intro h
    simp only [negF, Bool.and_eq_true] at h
    have h1 := ih h.2
    show p.push true = .neg p
    cases p with
    | tru => exact absurd h.1 (by simp [okc, Fm.op, Qn.b])
    | fls => exact absurd h.1 (by simp [okc, Fm.op, Qn.b])
    | pr v => rfl
    | eq v w => rfl
    | rel v w => rfl
    | neg q => exact absurd h.1 (by simp [okc, Fm.op, Qn.b])
    | con q q2 => exact absurd h.1 (by simp [okc, Fm.op, Qn.b])
    | dis q q2 => exact absurd h.1 (by simp [okc, Fm.op, Qn.b])
    | qu k v q =>
      cases k with
      | A => exact absurd h.1 (by simp [okc, Fm.op, Qn.b])
      | S => exact absurd h.1 (by simp [okc, Fm.op, Qn.b])
      | c2 => simp only [Fm.push] at h1 ⊢; simp at h1 ⊢; exact h1
      | c3 => simp only [Fm.push] at h1 ⊢; simp at h1 ⊢; exact h1
      | c4 => simp only [Fm.push] at h1 ⊢; simp at h1 ⊢; exact h1
  | con p q ihp ihq =>
    intro h
    simp only [negF, Bool.and_eq_true] at h
    show Fm.con (p.push false) (q.push false) = _
    rw [ihp h.1, ihq h.2]
  | dis p q ihp ihq =>
    intro h
    simp only [negF, Bool.and_eq_true] at h
    show Fm.dis (p.push false) (q.push false) = _
    rw [ihp h.1, ihq h.2]
  | qu k v p ih =>
    intro h
    simp only [negF] at h
    have h1 := ih h
    cases k <;> simp [Fm.push, h1]
theorem negB_at : ∀ (l : List UInt8), negB l = true → ∀ i, i + 1 < l.length → l.getD i 0 = 33 → okc (l.getD (i + 1) 0) = true := by
  intro l
  induction l with
  | nil => intro _ i hi; simp at hi
  | cons x l ih =>
    intro h i hi hx
    cases l with
    | nil => simp at hi
    | cons y l =>
      simp only [negB, Bool.and_eq_true] at h
      cases i with
      | zero =>
        have : x = 33 := by simpa using hx
        subst this
        simpa using h.1
      | succ i => 
        have := ih h.2 i (by simpa using hi) (by simpa using hx)
        simpa using this
theorem pushed_at (f : Fm) (i : Nat) (hi : i + 1 < (f.push false).text.length) (h : (f.push false).text.getD i 0 = 33) : okc ((f.push false).text.getD (i + 1) 0) = true := by
  have h1 := negB_text (f.push false) [] (push_negF f false) rfl
  rw [List.append_nil] at h1
  exact negB_at _ h1 i hi h
theorem free_text {f g : Fm} (h : ∀ u, g.isFree u ↔ f.isFree u) : freeT g = freeT f := by
  unfold freeT varsL
  congr 1
  apply List.filter_congr
  intro k hk
  have hk4 := List.mem_range.1 hk
  have := h ⟨k, hk4⟩
  unfold Fm.isFree at this
  rw [Bool.eq_iff_iff]
  exact this
/-- PushNot: no, or the pushed formula -/
theorem push_cases (s : ByteArray) : optV s.data.toList pushO = (bs [], false) ∨ ∃ f : Fm, s = bs f.text ∧ f.text.length ≤ 4000 ∧ (f.push false).text.length ≤ 4000 ∧ optV s.data.toList pushO = (bs (f.push false).text, true) := by
  rcases fm_cases s with ⟨_, h⟩ | ⟨f, hb, hf, hs, hl⟩
  · left; exact optV_no _ h
  · by_cases ht : (f.push false).text.length ≤ 4000
    · right
      refine ⟨f, eq_bs hf, hl, ht, ?_⟩
      exact optV_yes pushO hf (by rw [hf]; exact hl) rfl ht
    · left
      exact optV_long (t := (f.push false).text) pushO hf (by rw [hf]; exact hl) rfl (by omega)
theorem push_twice {f : Fm} (hl : (f.push false).text.length ≤ 4000) : optV (bs (f.push false).text).data.toList pushO = (bs (f.push false).text, true) := by
  refine optV_yes (f := f.push false) pushO (bs_list _) (by rw [bs_list]; exact hl) ?_ hl
  show some ((f.push false).push false).text = _
  rw [push_again _ (push_negF f false)]
end Go.Proofs.YtpaleogkgfclnaaDoor

namespace Go.Proofs.YtpaleogkgfclnaaDoor
open Go.RowKit
open Pl

/-- does a text count, where it is a formula -/
noncomputable def cntV (l : List UInt8) : Bool := decide (numV l (fun f => if f.counts then 1 else 0) = 1)

theorem cntV_yes {l : List UInt8} {f : Fm} (h : l = f.text) (hl : l.length ≤ 4000) : cntV l = f.counts := by
  unfold cntV
  rw [numV_yes _ h hl]
  cases f.counts <;> simp

theorem cntV_no {l : List UInt8} (h : ¬ IsFm l) : cntV l = false := by
  unfold cntV
  rw [numV_no _ h]
  rfl

theorem findB_lt {c : UInt8} {l : List UInt8} (h : c ∉ l) : findB c l < 0 := by
  have := mt findB_nonneg.1 h
  omega

theorem CountsOf_impl (s : ByteArray) (w : World) :
    Calls Tryd.prog 13 #[.string s] w fun e w' => e = .returned (.bool (cntV s.data.toList)) ∧ Below w.heap.size w w' := by
  rcases fm_cases s with ⟨hb, hno⟩ | ⟨f, hb, hf, hs4, hl4⟩
  · have hv := cntV_no hno
    rw [hv]
    have Hno := Lib.hid hno
    clear hb hv hno
    go_enter Tryd.func13, Tryd.ntmps13
    go_wp2_with (go_at_call 29; refine (parseFormula_no s w Hno.out).mono ?_; rintro e w1 ⟨rfl, hb1⟩)
    go_ret
    exact ⟨rfl, hb1⟩
  · have hv := cntV_yes hf (by rw [hf]; exact hl4)
    rw [hv]
    have Hf := Lib.hid hf
    clear hb hv hf
    go_enter Tryd.func13, Tryd.ntmps13
    go_wp2_with (first | (go_at_call 29; refine (parseFormula_yes s f w hs4 Hf.out).mono ?_; rintro e w1 ⟨b, rfl, htr, hb1⟩; have Htr := Lib.hid htr; clear htr) | (go_at_call 37; refine (counts_calls f.size f b _ _ (Nat.le_refl _) Htr.out).mono ?_; rintro e w' ⟨rfl, rfl⟩))
    go_ret
    exact ⟨rfl, hb1⟩

/-- how many variables -/
def Pl.Fm.width (f : Fm) : Nat := (varsL f.allBits 4).length

theorem WidthOf_impl (s : ByteArray) (w : World) :
    Calls Tryd.prog 16 #[.string s] w fun e w' => e = .returned (.int .i64 (numV s.data.toList Fm.width)) ∧ Below w.heap.size w w' := by
  rcases fm_cases s with ⟨hb, hno⟩ | ⟨f, hb, hf, hs4, hl4⟩
  · have hv := numV_no Fm.width hno
    rw [hv]
    have Hno := Lib.hid hno
    clear hb hv hno
    go_enter Tryd.func16, Tryd.ntmps16
    go_wp2_with (go_at_call 29; refine (parseFormula_no s w Hno.out).mono ?_; rintro e w1 ⟨rfl, hb1⟩)
    go_ret
    exact ⟨rfl, hb1⟩
  · have hv := numV_yes Fm.width hf (by rw [hf]; exact hl4)
    rw [hv]
    have Hf := Lib.hid hf
    have hsz : (bs (varsL f.allBits 4)).size = f.width := by rw [bs_size]; rfl
    have Hsz := Lib.hid hsz
    clear hb hv hf hsz
    go_enter Tryd.func16, Tryd.ntmps16
    go_wp2_with (first | (go_at_call 29; refine (parseFormula_yes s f w hs4 Hf.out).mono ?_; rintro e w1 ⟨b, rfl, htr, hb1⟩; obtain ⟨_, _, _, _, _, _, _, hc4, _⟩ := node_cells htr; clear htr) | (go_at_call 39; refine (varsText_calls _ (allBits_lt f) _).mono ?_; rintro e w' ⟨rfl, rfl⟩))
    go_ret
    exact ⟨ret_int (by rw [Hsz.out]), hb1⟩

theorem width_bit (f : Fm) (k : Nat) (hk : k < 4) : f.allBits.testBit k = decide (0 ≤ findB (UInt8.ofNat (97 + k)) f.text) := by
  rw [Bool.eq_iff_iff, decide_eq_true_iff, findB_nonneg]
  exact all_text f ⟨k, hk⟩

end Go.Proofs.YtpaleogkgfclnaaDoor

namespace Go.Proofs.YtpaleogkgfclnaaDoor
open Go.RowKit
open Pl
set_option linter.unusedSimpArgs false
set_option linter.unusedVariables false

/-- SpellCounts: no, or the formula spelled out -/
theorem spell_cases (s : ByteArray) : optV s.data.toList spellO = (bs [], false) ∨ ∃ f g : Fm, s = bs f.text ∧ f.text.length ≤ 4000 ∧ g.text.length ≤ 4000 ∧ f.spell = some g ∧ optV s.data.toList spellO = (bs g.text, true) := by
  rcases fm_cases s with ⟨_, h⟩ | ⟨f, hb, hf, hs, hl⟩
  · left; exact optV_no _ h
  · cases hg : f.spell with
    | none => left; exact optV_none spellO hf (by rw [hf]; exact hl) (by unfold spellO; rw [hg]; rfl)
    | some g =>
      have hO : spellO f = some g.text := by unfold spellO; rw [hg]; rfl
      by_cases ht : g.text.length ≤ 4000
      · right
        exact ⟨f, g, eq_bs hf, hl, ht, hg, optV_yes spellO hf (by rw [hf]; exact hl) hO ht⟩
      · left
        exact optV_long spellO hf (by rw [hf]; exact hl) hO (by omega)
theorem width_mono : ∀ m k : Fin 16, (∀ u : Fin 4, m.val.testBit u.val = true → k.val.testBit u.val = true) → (varsL m.val 4).length ≤ (varsL k.val 4).length := by decide +kernel
theorem spell_width {f g : Fm} (h : ∀ u : Fin 4, f.allBits.testBit u.val = true → g.allBits.testBit u.val = true) : f.width ≤ g.width := width_mono ⟨f.allBits, allBits_lt f⟩ ⟨g.allBits, allBits_lt g⟩ h
end Go.Proofs.YtpaleogkgfclnaaDoor

namespace Go.Proofs.YtpaleogkgfclnaaDoor
open Go.RowKit
open Pl
set_option linter.unusedSimpArgs false
set_option linter.unusedVariables false

end Go.Proofs.YtpaleogkgfclnaaDoor

namespace Go.Proofs.YtpaleogkgfclnaaDoor
open Go.RowKit
open Pl
set_option linter.unusedSimpArgs false
set_option linter.unusedVariables false

set_option maxHeartbeats 1000000 in
theorem DrawCountSymmetries_calls (A : Option Addr) (n cap : Nat) (w : World) (h : ByRow w A n) (hn : n ≤ 1048576) (hc : n ≤ cap) (hm : cap ≤ maxLen) :
    Calls Tryd.prog 9 #[.slice A n cap] w fun e w' => StS e ∧ Below w.heap.size w w' := by
  have ho := fun W h => l15Open_calls A n cap W h hn hc hm
  have Ho := Lib.hid ho
  have H0 := Lib.hid (h.call ((Below.refl w.heap.size w).alloc (Nat.le_refl _) (.cells #[.int .i64 0, .string (bs []), .string (bs [])] 27)))
  have hop := fun (rb n cap : Nat) (A : Option Addr) (W : World) (h : Rd W rb A n cap 0) => l1Open_calls rb A n cap 0 W h (by omega)
  have Hop := Lib.hid hop
  have X0 := Lib.hid (Bx.new w 27 #[.int .i64 0, .string (bs []), .string (bs [])])
  have B0 := Lib.hid ((Below.refl w.heap.size w).alloc (Nat.le_refl _) (.cells #[.int .i64 0, .string (bs []), .string (bs [])] 27))
  clear ho hop h hn hc hm
  go_enter Tryd.func9, Tryd.ntmps9
  go_wp2_with fail
  refine (Ho.out _ H0.out).mono ?_
  rintro e w1 ⟨⟨A', n', cap', rfl, hr⟩, hb⟩
  have F1 := Lib.hid (Fr.new (rb := w.heap.size + 1) B0.out hr hb (by simp))
  have X1 := Lib.hid (X0.out.call hb)
  have hne : w.heap.size ≠ (w.alloc (.cells #[.int .i64 0, .string (bs []), .string (bs [])] 27)).heap.size := by simp
  clear hr hb
  go_wp2_with fail
  refine (Hop.out _ _ _ _ _ F1.out.rd).mono ?_
  rintro e w2 ⟨⟨i, s, r, p', rfl, hi, hs, hr, _, hrd⟩, hg⟩
  have F2 := Lib.hid (F1.out.step hrd hg)
  have hax := X1.out.grown' hg (by simp)
  obtain ⟨c0, c1, c2⟩ := box_load hax
  have f0 := hax.free 0
  have f1 := hax.free 1
  have f2 := hax.free 2
  obtain ⟨q0, q1, q2⟩ := box_load (hax.puts (.int .i64 i) (.string s) (.string r))
  have HI := Lib.hid hi
  clear hrd hg hax hi hne
  go_wp2_with fail
  refine bodyPost_ret (v := stV i s r) ?_ rfl ⟨⟨i, s, r, rfl, HI.out, hs, hr⟩, below_puts F2.out.bel (Nat.le_refl _) _ _ _⟩
  simp [results, Tryd.results9, go_sem, q0, q1, q2]
end Go.Proofs.YtpaleogkgfclnaaDoor

namespace Go.Proofs.YtpaleogkgfclnaaDoor
open Go.RowKit
open Pl
set_option linter.unusedSimpArgs false
set_option linter.unusedVariables false

attribute [local go_sem ↓] Go.wp_at_zero Go.wp_at_succ

/-- four elements in memory -/
def FourP (a : St) (w : World) (e : Ending) (w' : World) : Prop := ∃ g y0 y1 y2 y3, e = .returned (.slice (some ⟨g, 0, none⟩) 4 4) ∧ y0 < a.n ∧ y1 < a.n ∧ y2 < a.n ∧ y3 < a.n ∧ LRow w' (some ⟨g, 0, none⟩) (natsI [y0, y1, y2, y3]) ∧ w.heap.size ≤ g

set_option maxHeartbeats 4000000 in
set_option maxRecDepth 100000 in
theorem gsFour_calls (a : St) (ha : a.ok) (AA : Option Addr) (n2 cap2 : Nat) (hn : n2 ≤ 1048576) (k : Nat) (hk : k ≤ 1000) (w : World) (h : ByRow w AA n2) :
    Calls Tryd.prog 11 #[stV a.n (bs a.set) (bs a.rel), .slice AA n2 cap2, .int .i64 (k : Nat)] w fun e w' => FourP a w e w' ∧ Below w.heap.size w w' := by
  have HB := Lib.hid ((Below.refl w.heap.size w).alloc (Nat.le_refl _) (.cells #[.int .i64 (a.n : Int), .string (bs a.set), .string (bs a.rel)] 27))
  have X1 := Lib.hid (Bx.new w 27 #[.int .i64 (a.n : Int), .string (bs a.set), .string (bs a.rel)])
  have HR := Lib.hid (h.call HB.out)
  have h8 := ha.hi
  have hlo := ha.lo
  clear h
  go_enter Tryd.func11, Tryd.ntmps11
  go_wp2_with fail
  generalize hw1 : w.alloc (.cells #[.int .i64 (a.n : Int), .string (bs a.set), .string (bs a.rel)] 27) = w1 at *
  go_loopg [7, 8] 8 (fun c xv iv wr => ∃ j x : Nat, j + c = 8 ∧ iv = .int .i64 (j : Nat) ∧ xv = .int .i64 (x : Nat) ∧ x ≤ 1100000 ∧ w1 = wr)
  case atStart => exact ⟨0, 7 * k + n2, by omega, rfl, by go_num, by omega, rfl⟩
  case round =>
    obtain ⟨j, x, hj, rfl, rfl, hx, rfl⟩ := hrel
    obtain ⟨x0, x1, x2⟩ := box_load X1.out
    by_cases hlt : j < n2
    · by_cases hlt8 : j < 8
      · obtain ⟨ad, rfl, hc⟩ := HR.out (by omega)
        obtain ⟨b, hb, hcb⟩ := hc j hlt
        clear hc
        go_wp2_with fail
        go_roundg (8 - j - 1)
        case rel => exact ⟨j + 1, (x * 5 + b) % 1000003, by omega, by go_num, by go_num, by omega, rfl⟩
        case measure => omega
      · obtain rfl : j = 8 := by omega
        have hgk : gk = 0 := by omega
        subst hgk
        clear x0 x1 x2
        have B3 := Lib.hid (HB.out.drew.alloc (by have := HB.out.size; simpa using this) (.cells #[.int .i64 (x % a.n : Nat), .int .i64 (x / 11 % a.n : Nat), .int .i64 (x / 101 % a.n : Nat), .int .i64 (x / 1009 % a.n : Nat)] 3))
        have y0 := (X1.out.drew.alloc (.cells #[.int .i64 (x % a.n : Nat), .int .i64 (x / 11 % a.n : Nat), .int .i64 (x / 101 % a.n : Nat), .int .i64 (x / 1009 % a.n : Nat)] 3)).cell 0
        have x0 := X1.out.drew.cell 0
        have r0 : ((x : Nat) : Int).tmod (a.n : Int) = ((x % a.n : Nat) : Int) := by rw [Int.ofNat_tmod]
        have r1 : ((x / 11 : Nat) : Int).tmod (a.n : Int) = ((x / 11 % a.n : Nat) : Int) := by rw [Int.ofNat_tmod]
        have r2 : ((x / 101 : Nat) : Int).tmod (a.n : Int) = ((x / 101 % a.n : Nat) : Int) := by rw [Int.ofNat_tmod]
        have r3 : ((x / 1009 : Nat) : Int).tmod (a.n : Int) = ((x / 1009 % a.n : Nat) : Int) := by rw [Int.ofNat_tmod]
        have d1 : ((x : Nat) : Int).tdiv 11 = ((x / 11 : Nat) : Int) := by rw [Int.tdiv_eq_ediv_of_nonneg (by omega)]; simp
        have d2 : ((x : Nat) : Int).tdiv 101 = ((x / 101 : Nat) : Int) := by rw [Int.tdiv_eq_ediv_of_nonneg (by omega)]; simp
        have d3 : ((x : Nat) : Int).tdiv 1009 = ((x / 1009 : Nat) : Int) := by rw [Int.tdiv_eq_ediv_of_nonneg (by omega)]; simp
        have c1 : IntKind.i64.wrap ((x : Int) / 11) = (x : Int) / 11 := IntWalk.i64_in _ (by omega)
        have c2 : IntKind.i64.wrap ((x : Int) / 101) = (x : Int) / 101 := IntWalk.i64_in _ (by omega)
        have c3 : IntKind.i64.wrap ((x : Int) / 1009) = (x : Int) / 1009 := IntWalk.i64_in _ (by omega)
        have e1 : ((x : Int) / 11).tmod (a.n : Int) = (x : Int) / 11 % (a.n : Int) := Int.tmod_eq_emod_of_nonneg (by omega)
        have e2 : ((x : Int) / 101).tmod (a.n : Int) = (x : Int) / 101 % (a.n : Int) := Int.tmod_eq_emod_of_nonneg (by omega)
        have e3 : ((x : Int) / 1009).tmod (a.n : Int) = (x : Int) / 1009 % (a.n : Int) := Int.tmod_eq_emod_of_nonneg (by omega)
        go_upto_region 6 with (fail)
        refine region_sched [(0, true), (1, true), (2, true), (3, true), (4, true), (5, true), (6, true), (7, true), (8, true), (9, true), (10, true), (11, true), (12, true), (13, true), (14, true), (15, true), (16, true), (17, true), (18, true), (19, false), (20, true)] (fun w' : World => w'.cell? ⟨w.heap.size, 0, none⟩ = some (.int .i64 (a.n : Int))) (by kernel_rfl) (by kernel_rfl) (by kernel_rfl) (by kernel_rfl) (fun _ _ _ _ h => h) ?_ (fun Q1 hQ1 => ?_)
        · exact x0
        try simp only [List.append]
        refine sched_take' (v := ?_) (a' := ?_) rfl (by kernel_rfl) ?_ rfl ?_ ?_
        rotate_left 2
        · intro w hSw
          (try dsimp only at hSw)
          go_simp
          try with_reducible rfl
        · (try simp only [Act.put, List.setIfInBounds_toArray, List.set_cons_zero, List.set_cons_succ])
          try rfl
        refine sched_take' (v := ?_) (a' := ?_) rfl (by kernel_rfl) ?_ rfl ?_ ?_
        rotate_left 2
        · intro w hSw
          (try dsimp only at hSw)
          go_simp
          try with_reducible rfl
        · (try simp only [Act.put, List.setIfInBounds_toArray, List.set_cons_zero, List.set_cons_succ])
          try rfl
        refine sched_take' (v := .int .i64 (a.n : Int)) (a' := ?_) rfl (by kernel_rfl) ?_ rfl ?_ ?_
        rotate_left 1
        · intro w hSw
          (try dsimp only at hSw)
          go_simp
          first | done | (simp [hSw]; done)
        · (try simp only [Act.put, List.setIfInBounds_toArray, List.set_cons_zero, List.set_cons_succ])
          try rfl
        refine sched_take' (v := .int .i64 (x % a.n : Nat)) (a' := ?_) rfl (by kernel_rfl) ?_ rfl ?_ ?_
        rotate_left 1
        · intro w hSw
          (try dsimp only at hSw)
          go_simp
          first | done | omega | exact r0 | (rw [r0]; done) | (rw [if_neg (by omega), e1]; done) | (rw [if_neg (by omega), e2]; done) | (rw [if_neg (by omega), e3]; done) | exact c1 | exact c2 | exact c3 | (trace_state; done)
        · (try simp only [Act.put, List.setIfInBounds_toArray, List.set_cons_zero, List.set_cons_succ])
          try rfl
        refine sched_take' (v := ?_) (a' := ?_) rfl (by kernel_rfl) ?_ rfl ?_ ?_
        rotate_left 2
        · intro w hSw
          (try dsimp only at hSw)
          go_simp
          try with_reducible rfl
        · (try simp only [Act.put, List.setIfInBounds_toArray, List.set_cons_zero, List.set_cons_succ])
          try rfl
        refine sched_take' (v := .int .i64 (x / 11 : Nat)) (a' := ?_) rfl (by kernel_rfl) ?_ rfl ?_ ?_
        rotate_left 1
        · intro w hSw
          (try dsimp only at hSw)
          go_simp
          first | done | omega | exact d1 | (rw [d1]; done) | (rw [if_neg (by omega), e1]; done) | (rw [if_neg (by omega), e2]; done) | (rw [if_neg (by omega), e3]; done) | exact c1 | exact c2 | exact c3 | (trace_state; done)
        · (try simp only [Act.put, List.setIfInBounds_toArray, List.set_cons_zero, List.set_cons_succ])
          try rfl
        refine sched_take' (v := ?_) (a' := ?_) rfl (by kernel_rfl) ?_ rfl ?_ ?_
        rotate_left 2
        · intro w hSw
          (try dsimp only at hSw)
          go_simp
          try with_reducible rfl
        · (try simp only [Act.put, List.setIfInBounds_toArray, List.set_cons_zero, List.set_cons_succ])
          try rfl
        refine sched_take' (v := .int .i64 (a.n : Int)) (a' := ?_) rfl (by kernel_rfl) ?_ rfl ?_ ?_
        rotate_left 1
        · intro w hSw
          (try dsimp only at hSw)
          go_simp
          first | done | (simp [hSw]; done)
        · (try simp only [Act.put, List.setIfInBounds_toArray, List.set_cons_zero, List.set_cons_succ])
          try rfl
        refine sched_take' (v := .int .i64 (x / 11 % a.n : Nat)) (a' := ?_) rfl (by kernel_rfl) ?_ rfl ?_ ?_
        rotate_left 1
        · intro w hSw
          (try dsimp only at hSw)
          go_simp
          first | done | omega | exact r1 | (rw [r1]; done) | (rw [if_neg (by omega), e1]; done) | (rw [if_neg (by omega), e2]; done) | (rw [if_neg (by omega), e3]; done) | exact c1 | exact c2 | exact c3 | (trace_state; done)
        · (try simp only [Act.put, List.setIfInBounds_toArray, List.set_cons_zero, List.set_cons_succ])
          try rfl
        refine sched_take' (v := ?_) (a' := ?_) rfl (by kernel_rfl) ?_ rfl ?_ ?_
        rotate_left 2
        · intro w hSw
          (try dsimp only at hSw)
          go_simp
          try with_reducible rfl
        · (try simp only [Act.put, List.setIfInBounds_toArray, List.set_cons_zero, List.set_cons_succ])
          try rfl
        refine sched_take' (v := .int .i64 (x / 101 : Nat)) (a' := ?_) rfl (by kernel_rfl) ?_ rfl ?_ ?_
        rotate_left 1
        · intro w hSw
          (try dsimp only at hSw)
          go_simp
          first | done | omega | exact d2 | (rw [d2]; done) | (rw [if_neg (by omega), e1]; done) | (rw [if_neg (by omega), e2]; done) | (rw [if_neg (by omega), e3]; done) | exact c1 | exact c2 | exact c3 | (trace_state; done)
        · (try simp only [Act.put, List.setIfInBounds_toArray, List.set_cons_zero, List.set_cons_succ])
          try rfl
        refine sched_take' (v := ?_) (a' := ?_) rfl (by kernel_rfl) ?_ rfl ?_ ?_
        rotate_left 2
        · intro w hSw
          (try dsimp only at hSw)
          go_simp
          try with_reducible rfl
        · (try simp only [Act.put, List.setIfInBounds_toArray, List.set_cons_zero, List.set_cons_succ])
          try rfl
        refine sched_take' (v := .int .i64 (a.n : Int)) (a' := ?_) rfl (by kernel_rfl) ?_ rfl ?_ ?_
        rotate_left 1
        · intro w hSw
          (try dsimp only at hSw)
          go_simp
          first | done | (simp [hSw]; done)
        · (try simp only [Act.put, List.setIfInBounds_toArray, List.set_cons_zero, List.set_cons_succ])
          try rfl
        refine sched_take' (v := .int .i64 (x / 101 % a.n : Nat)) (a' := ?_) rfl (by kernel_rfl) ?_ rfl ?_ ?_
        rotate_left 1
        · intro w hSw
          (try dsimp only at hSw)
          go_simp
          first | done | omega | exact r2 | (rw [r2]; done) | (rw [if_neg (by omega), e1]; done) | (rw [if_neg (by omega), e2]; done) | (rw [if_neg (by omega), e3]; done) | exact c1 | exact c2 | exact c3 | (trace_state; done)
        · (try simp only [Act.put, List.setIfInBounds_toArray, List.set_cons_zero, List.set_cons_succ])
          try rfl
        refine sched_take' (v := ?_) (a' := ?_) rfl (by kernel_rfl) ?_ rfl ?_ ?_
        rotate_left 2
        · intro w hSw
          (try dsimp only at hSw)
          go_simp
          try with_reducible rfl
        · (try simp only [Act.put, List.setIfInBounds_toArray, List.set_cons_zero, List.set_cons_succ])
          try rfl
        refine sched_take' (v := .int .i64 (x / 1009 : Nat)) (a' := ?_) rfl (by kernel_rfl) ?_ rfl ?_ ?_
        rotate_left 1
        · intro w hSw
          (try dsimp only at hSw)
          go_simp
          first | done | omega | exact d3 | (rw [d3]; done) | (rw [if_neg (by omega), e1]; done) | (rw [if_neg (by omega), e2]; done) | (rw [if_neg (by omega), e3]; done) | exact c1 | exact c2 | exact c3 | (trace_state; done)
        · (try simp only [Act.put, List.setIfInBounds_toArray, List.set_cons_zero, List.set_cons_succ])
          try rfl
        refine sched_take' (v := ?_) (a' := ?_) rfl (by kernel_rfl) ?_ rfl ?_ ?_
        rotate_left 2
        · intro w hSw
          (try dsimp only at hSw)
          go_simp
          try with_reducible rfl
        · (try simp only [Act.put, List.setIfInBounds_toArray, List.set_cons_zero, List.set_cons_succ])
          try rfl
        refine sched_take' (v := .int .i64 (a.n : Int)) (a' := ?_) rfl (by kernel_rfl) ?_ rfl ?_ ?_
        rotate_left 1
        · intro w hSw
          (try dsimp only at hSw)
          go_simp
          first | done | (simp [hSw]; done)
        · (try simp only [Act.put, List.setIfInBounds_toArray, List.set_cons_zero, List.set_cons_succ])
          try rfl
        refine sched_take' (v := .int .i64 (x / 1009 % a.n : Nat)) (a' := ?_) rfl (by kernel_rfl) ?_ rfl ?_ ?_
        rotate_left 1
        · intro w hSw
          (try dsimp only at hSw)
          go_simp
          first | done | omega | exact r3 | (rw [r3]; done) | (rw [if_neg (by omega), e1]; done) | (rw [if_neg (by omega), e2]; done) | (rw [if_neg (by omega), e3]; done) | exact c1 | exact c2 | exact c3 | (trace_state; done)
        · (try simp only [Act.put, List.setIfInBounds_toArray, List.set_cons_zero, List.set_cons_succ])
          try rfl
        refine sched_call rfl (by kernel_rfl) (fun K1 hK1 => ?_)
        go_simp
        refine hK1.out _ _ ?_ (sched_lay (a' := ?_) ?_ ?_)
        · exact y0
        rotate_left 1
        · (try simp only [Act.put, List.getElem_toArray, List.getElem_cons_succ, List.getElem_cons_zero, List.setIfInBounds_toArray, List.set_cons_zero, List.set_cons_succ])
          try rfl
        clear hK1 K1
        refine sched_take' (v := ?_) (a' := ?_) rfl (by kernel_rfl) ?_ rfl ?_ ?_
        rotate_left 2
        · intro w hSw
          (try dsimp only at hSw)
          go_simp
          try with_reducible rfl
        · (try simp only [Act.put, List.setIfInBounds_toArray, List.set_cons_zero, List.set_cons_succ])
          try rfl
        refine sched_done (hQ1.out _ _ ?_)
        go_wp2_with fail
        go_ret
        refine ⟨⟨w1.heap.size, x % a.n, x / 11 % a.n, x / 101 % a.n, x / 1009 % a.n, rfl, Nat.mod_lt _ hlo, Nat.mod_lt _ hlo, Nat.mod_lt _ hlo, Nat.mod_lt _ hlo, ?_, by have := HB.out.size; simpa using this⟩, B3.out⟩
        exact LRow_four w1.drew _ _ _ _
    · clear x0 x1 x2
      have B3 := Lib.hid (HB.out.drew.alloc (by have := HB.out.size; simpa using this) (.cells #[.int .i64 (x % a.n : Nat), .int .i64 (x / 11 % a.n : Nat), .int .i64 (x / 101 % a.n : Nat), .int .i64 (x / 1009 % a.n : Nat)] 3))
      have y0 := (X1.out.drew.alloc (.cells #[.int .i64 (x % a.n : Nat), .int .i64 (x / 11 % a.n : Nat), .int .i64 (x / 101 % a.n : Nat), .int .i64 (x / 1009 % a.n : Nat)] 3)).cell 0
      have x0 := X1.out.drew.cell 0
      have r0 : ((x : Nat) : Int).tmod (a.n : Int) = ((x % a.n : Nat) : Int) := by rw [Int.ofNat_tmod]
      have r1 : ((x / 11 : Nat) : Int).tmod (a.n : Int) = ((x / 11 % a.n : Nat) : Int) := by rw [Int.ofNat_tmod]
      have r2 : ((x / 101 : Nat) : Int).tmod (a.n : Int) = ((x / 101 % a.n : Nat) : Int) := by rw [Int.ofNat_tmod]
      have r3 : ((x / 1009 : Nat) : Int).tmod (a.n : Int) = ((x / 1009 % a.n : Nat) : Int) := by rw [Int.ofNat_tmod]
      have d1 : ((x : Nat) : Int).tdiv 11 = ((x / 11 : Nat) : Int) := by rw [Int.tdiv_eq_ediv_of_nonneg (by omega)]; simp
      have d2 : ((x : Nat) : Int).tdiv 101 = ((x / 101 : Nat) : Int) := by rw [Int.tdiv_eq_ediv_of_nonneg (by omega)]; simp
      have d3 : ((x : Nat) : Int).tdiv 1009 = ((x / 1009 : Nat) : Int) := by rw [Int.tdiv_eq_ediv_of_nonneg (by omega)]; simp
      have c1 : IntKind.i64.wrap ((x : Int) / 11) = (x : Int) / 11 := IntWalk.i64_in _ (by omega)
      have c2 : IntKind.i64.wrap ((x : Int) / 101) = (x : Int) / 101 := IntWalk.i64_in _ (by omega)
      have c3 : IntKind.i64.wrap ((x : Int) / 1009) = (x : Int) / 1009 := IntWalk.i64_in _ (by omega)
      have e1 : ((x : Int) / 11).tmod (a.n : Int) = (x : Int) / 11 % (a.n : Int) := Int.tmod_eq_emod_of_nonneg (by omega)
      have e2 : ((x : Int) / 101).tmod (a.n : Int) = (x : Int) / 101 % (a.n : Int) := Int.tmod_eq_emod_of_nonneg (by omega)
      have e3 : ((x : Int) / 1009).tmod (a.n : Int) = (x : Int) / 1009 % (a.n : Int) := Int.tmod_eq_emod_of_nonneg (by omega)
      go_upto_region 6 with (fail)
      refine region_sched [(0, true), (1, true), (2, true), (3, true), (4, true), (5, true), (6, true), (7, true), (8, true), (9, true), (10, true), (11, true), (12, true), (13, true), (14, true), (15, true), (16, true), (17, true), (18, true), (19, false), (20, true)] (fun w' : World => w'.cell? ⟨w.heap.size, 0, none⟩ = some (.int .i64 (a.n : Int))) (by kernel_rfl) (by kernel_rfl) (by kernel_rfl) (by kernel_rfl) (fun _ _ _ _ h => h) ?_ (fun Q1 hQ1 => ?_)
      · exact x0
      try simp only [List.append]
      refine sched_take' (v := ?_) (a' := ?_) rfl (by kernel_rfl) ?_ rfl ?_ ?_
      rotate_left 2
      · intro w hSw
        (try dsimp only at hSw)
        go_simp
        try with_reducible rfl
      · (try simp only [Act.put, List.setIfInBounds_toArray, List.set_cons_zero, List.set_cons_succ])
        try rfl
      refine sched_take' (v := ?_) (a' := ?_) rfl (by kernel_rfl) ?_ rfl ?_ ?_
      rotate_left 2
      · intro w hSw
        (try dsimp only at hSw)
        go_simp
        try with_reducible rfl
      · (try simp only [Act.put, List.setIfInBounds_toArray, List.set_cons_zero, List.set_cons_succ])
        try rfl
      refine sched_take' (v := .int .i64 (a.n : Int)) (a' := ?_) rfl (by kernel_rfl) ?_ rfl ?_ ?_
      rotate_left 1
      · intro w hSw
        (try dsimp only at hSw)
        go_simp
        first | done | (simp [hSw]; done)
      · (try simp only [Act.put, List.setIfInBounds_toArray, List.set_cons_zero, List.set_cons_succ])
        try rfl
      refine sched_take' (v := .int .i64 (x % a.n : Nat)) (a' := ?_) rfl (by kernel_rfl) ?_ rfl ?_ ?_
      rotate_left 1
      · intro w hSw
        (try dsimp only at hSw)
        go_simp
        first | done | omega | exact r0 | (rw [r0]; done) | (rw [if_neg (by omega), e1]; done) | (rw [if_neg (by omega), e2]; done) | (rw [if_neg (by omega), e3]; done) | exact c1 | exact c2 | exact c3 | (trace_state; done)
      · (try simp only [Act.put, List.setIfInBounds_toArray, List.set_cons_zero, List.set_cons_succ])
        try rfl
      refine sched_take' (v := ?_) (a' := ?_) rfl (by kernel_rfl) ?_ rfl ?_ ?_
      rotate_left 2
      · intro w hSw
        (try dsimp only at hSw)
        go_simp
        try with_reducible rfl
      · (try simp only [Act.put, List.setIfInBounds_toArray, List.set_cons_zero, List.set_cons_succ])
        try rfl
      refine sched_take' (v := .int .i64 (x / 11 : Nat)) (a' := ?_) rfl (by kernel_rfl) ?_ rfl ?_ ?_
      rotate_left 1
      · intro w hSw
        (try dsimp only at hSw)
        go_simp
        first | done | omega | exact d1 | (rw [d1]; done) | (rw [if_neg (by omega), e1]; done) | (rw [if_neg (by omega), e2]; done) | (rw [if_neg (by omega), e3]; done) | exact c1 | exact c2 | exact c3 | (trace_state; done)
      · (try simp only [Act.put, List.setIfInBounds_toArray, List.set_cons_zero, List.set_cons_succ])
        try rfl
      refine sched_take' (v := ?_) (a' := ?_) rfl (by kernel_rfl) ?_ rfl ?_ ?_
      rotate_left 2
      · intro w hSw
        (try dsimp only at hSw)
        go_simp
        try with_reducible rfl
      · (try simp only [Act.put, List.setIfInBounds_toArray, List.set_cons_zero, List.set_cons_succ])
        try rfl
      refine sched_take' (v := .int .i64 (a.n : Int)) (a' := ?_) rfl (by kernel_rfl) ?_ rfl ?_ ?_
      rotate_left 1
      · intro w hSw
        (try dsimp only at hSw)
        go_simp
        first | done | (simp [hSw]; done)
      · (try simp only [Act.put, List.setIfInBounds_toArray, List.set_cons_zero, List.set_cons_succ])
        try rfl
      refine sched_take' (v := .int .i64 (x / 11 % a.n : Nat)) (a' := ?_) rfl (by kernel_rfl) ?_ rfl ?_ ?_
      rotate_left 1
      · intro w hSw
        (try dsimp only at hSw)
        go_simp
        first | done | omega | exact r1 | (rw [r1]; done) | (rw [if_neg (by omega), e1]; done) | (rw [if_neg (by omega), e2]; done) | (rw [if_neg (by omega), e3]; done) | exact c1 | exact c2 | exact c3 | (trace_state; done)
      · (try simp only [Act.put, List.setIfInBounds_toArray, List.set_cons_zero, List.set_cons_succ])
        try rfl
      refine sched_take' (v := ?_) (a' := ?_) rfl (by kernel_rfl) ?_ rfl ?_ ?_
      rotate_left 2
      · intro w hSw
        (try dsimp only at hSw)
        go_simp
        try with_reducible rfl
      · (try simp only [Act.put, List.setIfInBounds_toArray, List.set_cons_zero, List.set_cons_succ])
        try rfl
      refine sched_take' (v := .int .i64 (x / 101 : Nat)) (a' := ?_) rfl (by kernel_rfl) ?_ rfl ?_ ?_
      rotate_left 1
      · intro w hSw
        (try dsimp only at hSw)
        go_simp
        first | done | omega | exact d2 | (rw [d2]; done) | (rw [if_neg (by omega), e1]; done) | (rw [if_neg (by omega), e2]; done) | (rw [if_neg (by omega), e3]; done) | exact c1 | exact c2 | exact c3 | (trace_state; done)
      · (try simp only [Act.put, List.setIfInBounds_toArray, List.set_cons_zero, List.set_cons_succ])
        try rfl
      refine sched_take' (v := ?_) (a' := ?_) rfl (by kernel_rfl) ?_ rfl ?_ ?_
      rotate_left 2
      · intro w hSw
        (try dsimp only at hSw)
        go_simp
        try with_reducible rfl
      · (try simp only [Act.put, List.setIfInBounds_toArray, List.set_cons_zero, List.set_cons_succ])
        try rfl
      refine sched_take' (v := .int .i64 (a.n : Int)) (a' := ?_) rfl (by kernel_rfl) ?_ rfl ?_ ?_
      rotate_left 1
      · intro w hSw
        (try dsimp only at hSw)
        go_simp
        first | done | (simp [hSw]; done)
      · (try simp only [Act.put, List.setIfInBounds_toArray, List.set_cons_zero, List.set_cons_succ])
        try rfl
      refine sched_take' (v := .int .i64 (x / 101 % a.n : Nat)) (a' := ?_) rfl (by kernel_rfl) ?_ rfl ?_ ?_
      rotate_left 1
      · intro w hSw
        (try dsimp only at hSw)
        go_simp
        first | done | omega | exact r2 | (rw [r2]; done) | (rw [if_neg (by omega), e1]; done) | (rw [if_neg (by omega), e2]; done) | (rw [if_neg (by omega), e3]; done) | exact c1 | exact c2 | exact c3 | (trace_state; done)
      · (try simp only [Act.put, List.setIfInBounds_toArray, List.set_cons_zero, List.set_cons_succ])
        try rfl
      refine sched_take' (v := ?_) (a' := ?_) rfl (by kernel_rfl) ?_ rfl ?_ ?_
      rotate_left 2
      · intro w hSw
        (try dsimp only at hSw)
        go_simp
        try with_reducible rfl
      · (try simp only [Act.put, List.setIfInBounds_toArray, List.set_cons_zero, List.set_cons_succ])
        try rfl
      refine sched_take' (v := .int .i64 (x / 1009 : Nat)) (a' := ?_) rfl (by kernel_rfl) ?_ rfl ?_ ?_
      rotate_left 1
      · intro w hSw
        (try dsimp only at hSw)
        go_simp
        first | done | omega | exact d3 | (rw [d3]; done) | (rw [if_neg (by omega), e1]; done) | (rw [if_neg (by omega), e2]; done) | (rw [if_neg (by omega), e3]; done) | exact c1 | exact c2 | exact c3 | (trace_state; done)
      · (try simp only [Act.put, List.setIfInBounds_toArray, List.set_cons_zero, List.set_cons_succ])
        try rfl
      refine sched_take' (v := ?_) (a' := ?_) rfl (by kernel_rfl) ?_ rfl ?_ ?_
      rotate_left 2
      · intro w hSw
        (try dsimp only at hSw)
        go_simp
        try with_reducible rfl
      · (try simp only [Act.put, List.setIfInBounds_toArray, List.set_cons_zero, List.set_cons_succ])
        try rfl
      refine sched_take' (v := .int .i64 (a.n : Int)) (a' := ?_) rfl (by kernel_rfl) ?_ rfl ?_ ?_
      rotate_left 1
      · intro w hSw
        (try dsimp only at hSw)
        go_simp
        first | done | (simp [hSw]; done)
      · (try simp only [Act.put, List.setIfInBounds_toArray, List.set_cons_zero, List.set_cons_succ])
        try rfl
      refine sched_take' (v := .int .i64 (x / 1009 % a.n : Nat)) (a' := ?_) rfl (by kernel_rfl) ?_ rfl ?_ ?_
      rotate_left 1
      · intro w hSw
        (try dsimp only at hSw)
        go_simp
        first | done | omega | exact r3 | (rw [r3]; done) | (rw [if_neg (by omega), e1]; done) | (rw [if_neg (by omega), e2]; done) | (rw [if_neg (by omega), e3]; done) | exact c1 | exact c2 | exact c3 | (trace_state; done)
      · (try simp only [Act.put, List.setIfInBounds_toArray, List.set_cons_zero, List.set_cons_succ])
        try rfl
      refine sched_call rfl (by kernel_rfl) (fun K1 hK1 => ?_)
      go_simp
      refine hK1.out _ _ ?_ (sched_lay (a' := ?_) ?_ ?_)
      · exact y0
      rotate_left 1
      · (try simp only [Act.put, List.getElem_toArray, List.getElem_cons_succ, List.getElem_cons_zero, List.setIfInBounds_toArray, List.set_cons_zero, List.set_cons_succ])
        try rfl
      clear hK1 K1
      refine sched_take' (v := ?_) (a' := ?_) rfl (by kernel_rfl) ?_ rfl ?_ ?_
      rotate_left 2
      · intro w hSw
        (try dsimp only at hSw)
        go_simp
        try with_reducible rfl
      · (try simp only [Act.put, List.setIfInBounds_toArray, List.set_cons_zero, List.set_cons_succ])
        try rfl
      refine sched_done (hQ1.out _ _ ?_)
      go_wp2_with fail
      go_ret
      refine ⟨⟨w1.heap.size, x % a.n, x / 11 % a.n, x / 101 % a.n, x / 1009 % a.n, rfl, Nat.mod_lt _ hlo, Nat.mod_lt _ hlo, Nat.mod_lt _ hlo, Nat.mod_lt _ hlo, ?_, by have := HB.out.size; simpa using this⟩, B3.out⟩
      exact LRow_four w1.drew _ _ _ _

end Go.Proofs.YtpaleogkgfclnaaDoor

namespace Go.Proofs.YtpaleogkgfclnaaDoor
open Go.RowKit
set_option linter.unusedVariables false

section
variable {md : Region.Mode} {ops : Array Oper}

/-- a part of the order -/
def schedPart (md : Region.Mode) (ops : Array Oper) : List (Nat × Bool) → Array Bool → Bool
  | [], _ => true
  | (i, true) :: is, listed => Region.free md ops listed i && ((Region.ready md ops listed).contains i && schedPart md ops is (listed.setIfInBounds i true))
  | (i, false) :: is, listed => (Region.ready md ops listed == [i]) && schedPart md ops is (listed.setIfInBounds i true)
/-- what is listed behind it -/
def layB : List (Nat × Bool) → Array Bool → Array Bool
  | [], l => l
  | (i, _) :: is, l => layB is (l.setIfInBounds i true)
theorem schedOk_app : ∀ (is1 is2 : List (Nat × Bool)) (l : Array Bool), schedPart md ops is1 l = true → schedOk md ops is2 (layB is1 l) = true → schedOk md ops (is1 ++ is2) l = true := by
  intro is1
  induction is1 with
  | nil => intro is2 l _ h; exact h
  | cons p is ih =>
    obtain ⟨i, b⟩ := p
    intro is2 l h1 h2
    cases b with
    | true =>
      simp only [schedPart, Bool.and_eq_true] at h1
      simp only [List.cons_append, schedOk, Bool.and_eq_true]
      exact ⟨h1.1, h1.2.1, ih is2 _ h1.2.2 h2⟩
    | false =>
      simp only [schedPart, Bool.and_eq_true] at h1
      simp only [List.cons_append, schedOk, Bool.and_eq_true]
      exact ⟨h1.1, ih is2 _ h1.2 h2⟩
theorem schedOk_cut (is1 is2 : List (Nat × Bool)) (l l' : Array Bool) (h1 : schedPart md ops is1 l = true) (hl : layB is1 l = l') (h2 : schedOk md ops is2 l' = true) : schedOk md ops (is1 ++ is2) l = true :=
  schedOk_app is1 is2 l h1 (by rw [hl]; exact h2)
end

end Go.Proofs.YtpaleogkgfclnaaDoor

namespace Go.Proofs.YtpaleogkgfclnaaDoor
open Go.RowKit
open Pl
set_option linter.unusedSimpArgs false
set_option linter.unusedVariables false

attribute [local go_sem ↓] Go.wp_at_zero Go.wp_at_succ

theorem twoSt_ok : St.ok ⟨2, [49, 48], [48, 49, 49, 48]⟩ := ⟨by decide, by decide, rfl, rfl, by unfold IsBit; decide, by unfold IsBit; decide⟩
/-- a row of bytes beside a block that is written -/
theorem ByRow.put {W : World} {A : Option Addr} {n g : Nat} (h : ByRow W A n) (hg : ∀ x, A = some x → 0 < n → x.block ≠ g) (i : Nat) (v : Value) : ByRow (W.setCell ⟨g, i, none⟩ v) A n := fun hn => by
  obtain ⟨x, rfl, hc⟩ := h hn
  have hx := hg x rfl hn
  refine ⟨x, rfl, fun j hj => ?_⟩
  obtain ⟨b, hb, hcell⟩ := hc j hj
  refine ⟨b, hb, ?_⟩
  rw [← hcell]
  have hbl : (x.add j).block = x.block := by unfold Addr.add; split <;> rfl
  exact World.cell?_of_block (by rw [hbl]; exact Below.heap_setCell W _ _ _ (by simp; omega))

end Go.Proofs.YtpaleogkgfclnaaDoor

namespace Go.Proofs.YtpaleogkgfclnaaDoor
open Go.RowKit
open Pl
set_option linter.unusedSimpArgs false
set_option linter.unusedVariables false

attribute [local go_sem ↓] Go.wp_at_zero Go.wp_at_succ

theorem threeSt_ok : St.ok ⟨3, [49, 48, 49], [48, 49, 49, 48, 48, 49, 49, 48, 48]⟩ := ⟨by decide, by decide, rfl, rfl, by unfold IsBit; decide, by unfold IsBit; decide⟩

set_option maxHeartbeats 16000000 in
set_option maxRecDepth 100000 in
theorem FnSpellCounts_walk (A : Option Addr) (n cap : Nat) (AA : Option Addr) (n2 cap2 : Nat) (w : World) (h : ByRow w A n) (hc : n ≤ cap) (hm : cap ≤ maxLen) (h2 : ByRow w AA n2) (hc2 : n2 ≤ cap2) (hm2 : cap2 ≤ maxLen) :
    Calls Tryd.prog 3 #[.slice A n cap, .slice AA n2 cap2] w fun e w' => e = .returned (.bool true) ∧ Below w.heap.size w w' := by
  by_cases hn : n ≤ 1048576
  case neg =>
    have hni : (1048576 : Int) < (n : Int) := by omega
    clear h hc hm h2 hc2 hm2
    go_enter Tryd.func3, Tryd.ntmps3
    go_wp2_with fail
    go_ret
    exact ⟨rfl, Below.refl _ _⟩
  case pos =>
  have hni : (n : Int) ≤ 1048576 := by omega
  by_cases hn2 : n2 ≤ 1048576
  case neg =>
    have hni2 : (1048576 : Int) < (n2 : Int) := by omega
    clear h hc hm h2 hc2 hm2
    go_enter Tryd.func3, Tryd.ntmps3
    go_wp2_with fail
    go_ret
    exact ⟨rfl, Below.refl _ _⟩
  case pos =>
  have hni2 : (n2 : Int) ≤ 1048576 := by omega
  have H2 := Lib.hid h2
  have HD := Lib.hid (DrawSpellCounts_calls A n cap w h hn hc hm)
  have HDC := Lib.hid (fun (W : World) (hW : ByRow W AA n2) => DrawCountSymmetries_calls AA n2 cap2 W hW hn2 hc2 hm2)
  have HROW0 := Lib.hid (show ∀ x, AA = some x → 0 < n2 → x.block < w.heap.size from fun x hx h0 => by
    obtain ⟨y, hy, hcc⟩ := h2 h0
    rw [hx] at hy
    injection hy with hy
    subst hy
    obtain ⟨b, _, hcell⟩ := hcc 0 h0
    have := World.block_lt_of_cell? w _ hcell
    have hbl : (x.add 0).block = x.block := by unfold Addr.add; split <;> rfl
    rwa [hbl] at this)
  clear h hc hm h2 hc2 hm2
  go_enter Tryd.func3, Tryd.ntmps3
  go_wp2_with fail
  refine (HD.out).mono ?_
  rintro e w1 ⟨⟨t, rfl, ht⟩, hz⟩
  have B1 := Lib.hid hz
  have R1 := Lib.hid (H2.out.call hz)
  clear hz
  have ci := fun W => SpellCounts_impl t W
  have cs := fun W => SpellCounts_spec t W (by unfold maxLen; omega)
  rcases spell_cases t with hv | ⟨f, GG, rfl, hfl, hgg, hsg, hv⟩
  · simp only [hv] at ci cs
    have CI := Lib.hid ci
    have CS := Lib.hid cs
    clear ci cs hv
    go_wp2_with fail
    refine (CI.out _).mono ?_
    rintro e w2 ⟨rfl, hz⟩
    have B2 := Lib.hid (B1.out.trans (hz.mono B1.out.size))
    clear hz
    go_wp2_with fail
    refine (CS.out _).mono ?_
    rintro e w3 ⟨rfl, hz⟩
    have B3 := Lib.hid (B2.out.trans (hz.mono B2.out.size))
    clear hz
    go_wp2_with fail
    go_ret
    exact ⟨rfl, B3.out⟩
  simp only [hv] at ci cs
  clear hv
  obtain ⟨pf1, pf2, pf3, pf4⟩ := spell_facts f GG hsg
  have hsem : ∀ (a : St) (e : Env), GG.holds a e = f.holds a e := fun a e => holds_spell a f GG hsg e
  have hwid := spell_width pf4
  have hcg := fun W => CountsOf_impl (bs GG.text) W
  simp only [cntV_yes (bs_list _) (by rw [bs_list]; exact hgg), pf2] at hcg
  have hrg := fun W => RankOf_impl (bs GG.text) W
  simp only [numV_yes Fm.rank (bs_list _) (by rw [bs_list]; exact hgg), pf1] at hrg
  have hrf := fun W => RankOf_impl (bs f.text) W
  simp only [numV_yes Fm.rank (bs_list _) (by rw [bs_list]; exact hfl)] at hrf
  have hvg := fun W => FreeVars_impl (bs GG.text) W
  simp only [txtV_yes freeT (bs_list _) (by rw [bs_list]; exact hgg), free_text pf3] at hvg
  have hvf := fun W => FreeVars_impl (bs f.text) W
  simp only [txtV_yes freeT (bs_list _) (by rw [bs_list]; exact hfl)] at hvf
  have hwg := fun W => WidthOf_impl (bs GG.text) W
  simp only [numV_yes Fm.width (bs_list _) (by rw [bs_list]; exact hgg)] at hwg
  have hwf := fun W => WidthOf_impl (bs f.text) W
  simp only [numV_yes Fm.width (bs_list _) (by rw [bs_list]; exact hfl)] at hwf
  obtain ⟨GT, hGT⟩ : ∃ GT, GT = bs GG.text := ⟨_, rfl⟩
  obtain ⟨FT, hFT⟩ : ∃ FT, FT = bs f.text := ⟨_, rfl⟩
  rw [← hGT] at hcg hrg hvg hwg ci cs
  rw [← hFT] at hrf hvf hwf ci cs ht ⊢
  obtain ⟨RK, hRK⟩ : ∃ RK, RK = f.rank := ⟨_, rfl⟩
  obtain ⟨FV, hFV⟩ : ∃ FV, FV = bs (freeT f) := ⟨_, rfl⟩
  obtain ⟨WG, hWG⟩ : ∃ WG, WG = GG.width := ⟨_, rfl⟩
  obtain ⟨WF, hWF⟩ : ∃ WF, WF = f.width := ⟨_, rfl⟩
  rw [← hRK] at hrg hrf
  rw [← hFV] at hvg hvf
  rw [← hWG] at hwg hwid
  rw [← hWF] at hwf hwid
  have hwi : (WF : Int) ≤ (WG : Int) := by omega
  have CI := Lib.hid ci
  have CS := Lib.hid cs
  have HCG := Lib.hid hcg
  have HRG := Lib.hid hrg
  have HRF := Lib.hid hrf
  have HVG := Lib.hid hvg
  have HVF := Lib.hid hvf
  have HWG := Lib.hid hwg
  have HWF := Lib.hid hwf
  have HSEM := Lib.hid hsem
  have HGT := Lib.hid hGT
  have HFT := Lib.hid hFT
  clear ci cs hcg hrg hrf hvg hvf hwg hwf hsem hGT hFT pf1 pf2 pf3 pf4 hRK hFV hWG hWF hsg hwid
  go_wp2_with fail
  refine (CI.out _).mono ?_
  rintro e w2 ⟨rfl, hz⟩
  have B2 := Lib.hid (B1.out.trans (hz.mono B1.out.size))
  have R2 := Lib.hid (R1.out.call hz)
  clear hz
  go_wp2_with fail
  refine (CS.out _).mono ?_
  rintro e w4 ⟨rfl, hz⟩
  have B4 := Lib.hid (B2.out.trans (hz.mono B2.out.size))
  have R4 := Lib.hid (R2.out.call hz)
  clear hz B1 B2 R1 R2 CI CS
  go_wp2_with fail
  refine (HDC.out _ R4.out).mono ?_
  rintro e w5 ⟨⟨i, s, r, rfl, hi, hs, hr⟩, hz⟩
  have B5 := Lib.hid ((B4.out.trans (hz.mono B4.out.size)).alloc (Nat.le_trans B4.out.size hz.size) (.cells #[.int .i64 i, .string s, .string r] 27))
  have R5 := Lib.hid ((R4.out.call hz).call ((Below.refl w5.heap.size w5).alloc (Nat.le_refl _) (.cells #[.int .i64 i, .string s, .string r] 27)))
  have X5 := Lib.hid (Bx.new w5 27 #[.int .i64 i, .string s, .string r])
  have HROW := Lib.hid (show ∀ x, AA = some x → 0 < n2 → x.block ≠ w5.heap.size from fun x hx h0 => by have e1 := HROW0.out x hx h0; have e2 := B4.out.size; have e3 := hz.size; omega)
  have W5 := Lib.hid (show w.heap.size ≤ w5.heap.size from Nat.le_trans B4.out.size hz.size)
  clear hz hi
  have HVA := Lib.hid (fun W => StructureValid_impl i s r W (by unfold maxLen; omega) (by unfold maxLen; omega))
  obtain ⟨x0, x1, x2⟩ := box_load X5.out
  go_wp2_with fail
  refine (HVA.out _).mono ?_
  rintro e w6 ⟨rfl, hz⟩
  have B6 := Lib.hid (B5.out.trans (hz.mono B5.out.size))
  have R6 := Lib.hid (R5.out.call hz)
  have X6 := Lib.hid (X5.out.call hz)
  clear hz x0 x1 x2
  rcases ok_cases i s r with hno | ⟨a, ha, rfl, rfl, rfl⟩
  · have Z6 := Lib.hid ((X6.out.puts (.int .i64 3) (.string ⟨#[49, 48, 49]⟩) (.string ⟨#[48, 49, 49, 48, 48, 49, 49, 48, 48]⟩)))
    have E6 := Lib.hid (below_puts B6.out W5.out (.int .i64 3) (.string ⟨#[49, 48, 49]⟩) (.string ⟨#[48, 49, 49, 48, 48, 49, 49, 48, 48]⟩))
    have RR6 := Lib.hid (((((R6.out.put (g := w5.heap.size) (HROW.out) 0 (.int .i64 3)).put HROW.out 1 (.string ⟨#[49, 48, 49]⟩)).put HROW.out 2 (.string ⟨#[48, 49, 49, 48, 48, 49, 49, 48, 48]⟩))))
    obtain ⟨c0, c1, c2⟩ := box_load X6.out
    have f0 := X6.out.free 0
    have f1 := X6.out.free 1
    have f2 := X6.out.free 2
    rw [hno]
    clear hno
    go_upto_region 11 with (fail)
    obtain ⟨a, hae⟩ : ∃ a : St, a = ⟨3, [49, 48, 49], [48, 49, 49, 48, 48, 49, 49, 48, 48]⟩ := ⟨_, rfl⟩
    have ha : a.ok := by rw [hae]; exact threeSt_ok
    have XL := Lib.hid (show Bx _ w5.heap.size 27 #[.int .i64 (a.n : Int), .string (bs a.set), .string (bs a.rel)] from by rw [hae]; exact Z6.out)
    have RL := Lib.hid RR6.out
    have BL := Lib.hid E6.out
    clear c0 c1 c2 f0 f1 f2 Z6 E6 RR6 X6 B6 R6 X5 B5 R5 hae
    as_aux_lemma =>
      have HG4 := Lib.hid (fun (q : Nat) (hq : q ≤ 1000) (W : World) (hW : ByRow W AA n2) => gsFour_calls a ha AA n2 cap2 hn2 q hq W hW)
      have HGG := Lib.hid (fun (q : List Nat) (hqx : ∀ x ∈ q, x < a.n) (hq : q.length = 4) (b : Bool) (hb : f.holds a (envL q) = b) (A2 : Option Addr) (W : World) (hW : LRow W A2 (natsI q)) => gs_four a ha GG hgg GT HGT.out q hqx hq A2 4 (Nat.le_refl _) b (by rw [HSEM.out]; exact hb) W hW)
      have HGF := Lib.hid (fun (q : List Nat) (hqx : ∀ x ∈ q, x < a.n) (hq : q.length = 4) (b : Bool) (hb : f.holds a (envL q) = b) (A2 : Option Addr) (W : World) (hW : LRow W A2 (natsI q)) => gs_four a ha f hfl FT HFT.out q hqx hq A2 4 (Nat.le_refl _) b hb W hW)
      go_wp2_with fail
      go_loopg [11] 6 (fun c iv wr => ∃ k : Nat, k + c = 6 ∧ iv = .int .i64 (k : Nat) ∧ Bx wr w5.heap.size 27 #[.int .i64 (a.n : Int), .string (bs a.set), .string (bs a.rel)] ∧ ByRow wr AA n2 ∧ Below w.heap.size w wr)
      case atStart => exact ⟨0, by omega, rfl, XL.out, RL.out, BL.out⟩
      case round =>
        clear XL RL BL
        obtain ⟨k, hk, rfl, hxs, hby, hbl⟩ := hrel
        have HXs := Lib.hid hxs
        have HBY := Lib.hid hby
        have HB := Lib.hid hbl
        clear hxs hby hbl
        obtain ⟨x0, x1, x2⟩ := box_load HXs.out
        by_cases hlt : k < 6
        · go_wp2_with fail
          refine (HG4.out k (by omega) _ HBY.out).mono ?_
          rintro e w10 ⟨⟨gq, y0, y1, y2, y3, rfl, z0, z1, z2, z3, hq, hgq⟩, hz⟩
          have B10 := Lib.hid (HB.out.trans (hz.mono HB.out.size))
          have X10 := Lib.hid (HXs.out.call hz)
          have R10 := Lib.hid (HBY.out.call hz)
          have Q10 := Lib.hid hq
          have hyx : ∀ x ∈ [y0, y1, y2, y3], x < a.n := fun x hx => by simp at hx; rcases hx with rfl | rfl | rfl | rfl <;> assumption
          obtain ⟨V, hV⟩ : ∃ V, V = f.holds a (envL [y0, y1, y2, y3]) := ⟨_, rfl⟩
          have HGQ := Lib.hid (HGG.out [y0, y1, y2, y3] hyx rfl V hV.symm (some ⟨gq, 0, none⟩))
          have HFQ := Lib.hid (HGF.out [y0, y1, y2, y3] hyx rfl V hV.symm (some ⟨gq, 0, none⟩))
          have VV : (V != V) = false := by cases V <;> rfl
          clear hz hq hgq z0 z1 z2 z3 x0 x1 x2 hyx hV
          have B11 := Lib.hid B10.out.drew
          have X11 := Lib.hid X10.out.drew
          have R11 := Lib.hid (R10.out.call (Below.refl w10.heap.size w10).drew)
          have Q11 := Lib.hid (show LRow w10.drew (some ⟨gq, 0, none⟩) (natsI [y0, y1, y2, y3]) from Q10.out)
          obtain ⟨x0, x1, x2⟩ := box_load X11.out
          go_upto_region 15 with (fail)
          refine region_sched [(0, true), (1, true), (2, true), (4, true), (5, true), (6, true), (3, false), (7, false), (8, true)] (fun w' : World => w'.cell? ⟨w5.heap.size, 0, none⟩ = some (.int .i64 (a.n : Int)) ∧ w'.cell? ⟨w5.heap.size, 1, none⟩ = some (.string (bs a.set)) ∧ w'.cell? ⟨w5.heap.size, 2, none⟩ = some (.string (bs a.rel))) (by kernel_rfl) (by kernel_rfl) (by kernel_rfl) (by kernel_rfl) (fun _ _ _ _ h => h) ?_ (fun Q1 hQ1 => ?_)
          · exact ⟨x0, x1, x2⟩
          try simp only [List.append]
          refine sched_take' (v := .agg #[.int .i64 (a.n : Int), .string (bs a.set), .string (bs a.rel)]) (a' := ?_) rfl (by kernel_rfl) ?_ rfl ?_ ?_
          rotate_left 1
          · intro w hSw
            (try dsimp only at hSw)
            go_simp
            first | done | (obtain ⟨u0, u1, u2⟩ := hSw; simp [u0, u1, u2])
          · (try simp only [Act.put, List.setIfInBounds_toArray, List.set_cons_zero, List.set_cons_succ])
            try rfl
          refine sched_take' (v := ?_) (a' := ?_) rfl (by kernel_rfl) ?_ rfl ?_ ?_
          rotate_left 2
          · intro w hSw
            (try dsimp only at hSw)
            go_simp
            try with_reducible rfl
          · (try simp only [Act.put, List.setIfInBounds_toArray, List.set_cons_zero, List.set_cons_succ])
            try rfl
          refine sched_take' (v := ?_) (a' := ?_) rfl (by kernel_rfl) ?_ rfl ?_ ?_
          rotate_left 2
          · intro w hSw
            (try dsimp only at hSw)
            go_simp
            try with_reducible rfl
          · (try simp only [Act.put, List.setIfInBounds_toArray, List.set_cons_zero, List.set_cons_succ])
            try rfl
          refine sched_take' (v := .agg #[.int .i64 (a.n : Int), .string (bs a.set), .string (bs a.rel)]) (a' := ?_) rfl (by kernel_rfl) ?_ rfl ?_ ?_
          rotate_left 1
          · intro w hSw
            (try dsimp only at hSw)
            go_simp
            first | done | (obtain ⟨u0, u1, u2⟩ := hSw; simp [u0, u1, u2])
          · (try simp only [Act.put, List.setIfInBounds_toArray, List.set_cons_zero, List.set_cons_succ])
            try rfl
          refine sched_take' (v := ?_) (a' := ?_) rfl (by kernel_rfl) ?_ rfl ?_ ?_
          rotate_left 2
          · intro w hSw
            (try dsimp only at hSw)
            go_simp
            try with_reducible rfl
          · (try simp only [Act.put, List.setIfInBounds_toArray, List.set_cons_zero, List.set_cons_succ])
            try rfl
          refine sched_take' (v := ?_) (a' := ?_) rfl (by kernel_rfl) ?_ rfl ?_ ?_
          rotate_left 2
          · intro w hSw
            (try dsimp only at hSw)
            go_simp
            try with_reducible rfl
          · (try simp only [Act.put, List.setIfInBounds_toArray, List.set_cons_zero, List.set_cons_succ])
            try rfl
          refine sched_call rfl (by kernel_rfl) (fun K1 hK1 => ?_)
          go_simp
          refine (HGQ.out _ Q11.out).mono ?_
          rintro e w12 ⟨rfl, hz⟩
          have B12 := Lib.hid (B11.out.trans (hz.mono B11.out.size))
          have X12 := Lib.hid (X11.out.call hz)
          have R12 := Lib.hid (R11.out.call hz)
          have Q12 := Lib.hid (Q11.out.call hz)
          clear hz x0 x1 x2
          obtain ⟨x0, x1, x2⟩ := box_load X12.out
          go_wp2_with fail
          refine hK1.out _ _ ?_ (sched_lay (a' := ?_) ?_ ?_)
          · exact ⟨x0, x1, x2⟩
          rotate_left 1
          · (try simp only [Act.put, List.getElem_toArray, List.getElem_cons_succ, List.getElem_cons_zero, List.setIfInBounds_toArray, List.set_cons_zero, List.set_cons_succ])
            try rfl
          clear hK1 K1
          refine sched_call rfl (by kernel_rfl) (fun K1 hK1 => ?_)
          go_simp
          refine (HFQ.out _ Q12.out).mono ?_
          rintro e w13 ⟨rfl, hz⟩
          have B13 := Lib.hid (B12.out.trans (hz.mono B12.out.size))
          have X13 := Lib.hid (X12.out.call hz)
          have R13 := Lib.hid (R12.out.call hz)
          have Q13 := Lib.hid (Q12.out.call hz)
          clear hz x0 x1 x2
          obtain ⟨x0, x1, x2⟩ := box_load X13.out
          go_wp2_with fail
          refine hK1.out _ _ ?_ (sched_lay (a' := ?_) ?_ ?_)
          · exact ⟨x0, x1, x2⟩
          rotate_left 1
          · (try simp only [Act.put, List.getElem_toArray, List.getElem_cons_succ, List.getElem_cons_zero, List.setIfInBounds_toArray, List.set_cons_zero, List.set_cons_succ])
            try rfl
          clear hK1 K1
          refine sched_take' (v := .bool false) (a' := ?_) rfl (by kernel_rfl) ?_ rfl ?_ ?_
          rotate_left 1
          · intro w hSw
            (try dsimp only at hSw)
            go_simp
            first | done | exact VV | (simp [VV]; done) | rfl
          · (try simp only [Act.put, List.setIfInBounds_toArray, List.set_cons_zero, List.set_cons_succ])
            try rfl
          refine sched_done (hQ1.out _ _ ?_)
          go_wp2_with fail
          go_roundg (6 - k - 1)
          case rel => exact ⟨k + 1, by omega, by go_num, X13.out, R13.out, B13.out⟩
          case measure => omega
        · obtain rfl : k = 6 := by omega
          obtain ⟨wo, hwo⟩ : ∃ x, x = wr := ⟨_, rfl⟩
          subst hwo
          clear HXs x0 x1 x2 HBY HG4 HGG HGF
          have B8 := HB
          clear HB
          go_wp2_with fail
          refine (HCG.out _).mono ?_
          rintro e w9 ⟨rfl, hz⟩
          have B9 := Lib.hid (B8.out.trans (hz.mono B8.out.size))
          clear hz
          go_wp2_with fail
          refine (HRG.out _).mono ?_
          rintro e w10 ⟨rfl, hz⟩
          have B10 := Lib.hid (B9.out.trans (hz.mono B9.out.size))
          clear hz
          go_wp2_with fail
          refine (HRF.out _).mono ?_
          rintro e w11 ⟨rfl, hz⟩
          have B11 := Lib.hid (B10.out.trans (hz.mono B10.out.size))
          clear hz
          go_wp2_with fail
          refine (HVG.out _).mono ?_
          rintro e w12 ⟨rfl, hz⟩
          have B12 := Lib.hid (B11.out.trans (hz.mono B11.out.size))
          clear hz
          go_wp2_with fail
          refine (HVF.out _).mono ?_
          rintro e w13 ⟨rfl, hz⟩
          have B13 := Lib.hid (B12.out.trans (hz.mono B12.out.size))
          clear hz
          go_wp2_with fail
          refine (HWG.out _).mono ?_
          rintro e w14 ⟨rfl, hz⟩
          have B14 := Lib.hid (B13.out.trans (hz.mono B13.out.size))
          clear hz
          go_wp2_with fail
          refine (HWF.out _).mono ?_
          rintro e w15 ⟨rfl, hz⟩
          have B15 := Lib.hid (B14.out.trans (hz.mono B14.out.size))
          clear hz
          go_wp2_with fail
          go_ret
          exact ⟨rfl, B15.out⟩
  · have hok := okB_true ha
    rw [hok]
    have h8 := ha.hi
    have hlo := ha.lo
    clear hok
    have XL := Lib.hid X6.out
    have RL := Lib.hid R6.out
    have BL := Lib.hid B6.out
    clear X6 B6 R6 X5 B5 R5
    as_aux_lemma =>
      have HG4 := Lib.hid (fun (q : Nat) (hq : q ≤ 1000) (W : World) (hW : ByRow W AA n2) => gsFour_calls a ha AA n2 cap2 hn2 q hq W hW)
      have HGG := Lib.hid (fun (q : List Nat) (hqx : ∀ x ∈ q, x < a.n) (hq : q.length = 4) (b : Bool) (hb : f.holds a (envL q) = b) (A2 : Option Addr) (W : World) (hW : LRow W A2 (natsI q)) => gs_four a ha GG hgg GT HGT.out q hqx hq A2 4 (Nat.le_refl _) b (by rw [HSEM.out]; exact hb) W hW)
      have HGF := Lib.hid (fun (q : List Nat) (hqx : ∀ x ∈ q, x < a.n) (hq : q.length = 4) (b : Bool) (hb : f.holds a (envL q) = b) (A2 : Option Addr) (W : World) (hW : LRow W A2 (natsI q)) => gs_four a ha f hfl FT HFT.out q hqx hq A2 4 (Nat.le_refl _) b hb W hW)
      go_wp2_with fail
      go_loopg [11] 6 (fun c iv wr => ∃ k : Nat, k + c = 6 ∧ iv = .int .i64 (k : Nat) ∧ Bx wr w5.heap.size 27 #[.int .i64 (a.n : Int), .string (bs a.set), .string (bs a.rel)] ∧ ByRow wr AA n2 ∧ Below w.heap.size w wr)
      case atStart => exact ⟨0, by omega, rfl, XL.out, RL.out, BL.out⟩
      case round =>
        clear XL RL BL
        obtain ⟨k, hk, rfl, hxs, hby, hbl⟩ := hrel
        have HXs := Lib.hid hxs
        have HBY := Lib.hid hby
        have HB := Lib.hid hbl
        clear hxs hby hbl
        obtain ⟨x0, x1, x2⟩ := box_load HXs.out
        by_cases hlt : k < 6
        · go_wp2_with fail
          refine (HG4.out k (by omega) _ HBY.out).mono ?_
          rintro e w10 ⟨⟨gq, y0, y1, y2, y3, rfl, z0, z1, z2, z3, hq, hgq⟩, hz⟩
          have B10 := Lib.hid (HB.out.trans (hz.mono HB.out.size))
          have X10 := Lib.hid (HXs.out.call hz)
          have R10 := Lib.hid (HBY.out.call hz)
          have Q10 := Lib.hid hq
          have hyx : ∀ x ∈ [y0, y1, y2, y3], x < a.n := fun x hx => by simp at hx; rcases hx with rfl | rfl | rfl | rfl <;> assumption
          obtain ⟨V, hV⟩ : ∃ V, V = f.holds a (envL [y0, y1, y2, y3]) := ⟨_, rfl⟩
          have HGQ := Lib.hid (HGG.out [y0, y1, y2, y3] hyx rfl V hV.symm (some ⟨gq, 0, none⟩))
          have HFQ := Lib.hid (HGF.out [y0, y1, y2, y3] hyx rfl V hV.symm (some ⟨gq, 0, none⟩))
          have VV : (V != V) = false := by cases V <;> rfl
          clear hz hq hgq z0 z1 z2 z3 x0 x1 x2 hyx hV
          have B11 := Lib.hid B10.out.drew
          have X11 := Lib.hid X10.out.drew
          have R11 := Lib.hid (R10.out.call (Below.refl w10.heap.size w10).drew)
          have Q11 := Lib.hid (show LRow w10.drew (some ⟨gq, 0, none⟩) (natsI [y0, y1, y2, y3]) from Q10.out)
          obtain ⟨x0, x1, x2⟩ := box_load X11.out
          go_upto_region 15 with (fail)
          refine region_sched [(0, true), (1, true), (2, true), (4, true), (5, true), (6, true), (3, false), (7, false), (8, true)] (fun w' : World => w'.cell? ⟨w5.heap.size, 0, none⟩ = some (.int .i64 (a.n : Int)) ∧ w'.cell? ⟨w5.heap.size, 1, none⟩ = some (.string (bs a.set)) ∧ w'.cell? ⟨w5.heap.size, 2, none⟩ = some (.string (bs a.rel))) (by kernel_rfl) (by kernel_rfl) (by kernel_rfl) (by kernel_rfl) (fun _ _ _ _ h => h) ?_ (fun Q1 hQ1 => ?_)
          · exact ⟨x0, x1, x2⟩
          try simp only [List.append]
          refine sched_take' (v := .agg #[.int .i64 (a.n : Int), .string (bs a.set), .string (bs a.rel)]) (a' := ?_) rfl (by kernel_rfl) ?_ rfl ?_ ?_
          rotate_left 1
          · intro w hSw
            (try dsimp only at hSw)
            go_simp
            first | done | (obtain ⟨u0, u1, u2⟩ := hSw; simp [u0, u1, u2])
          · (try simp only [Act.put, List.setIfInBounds_toArray, List.set_cons_zero, List.set_cons_succ])
            try rfl
          refine sched_take' (v := ?_) (a' := ?_) rfl (by kernel_rfl) ?_ rfl ?_ ?_
          rotate_left 2
          · intro w hSw
            (try dsimp only at hSw)
            go_simp
            try with_reducible rfl
          · (try simp only [Act.put, List.setIfInBounds_toArray, List.set_cons_zero, List.set_cons_succ])
            try rfl
          refine sched_take' (v := ?_) (a' := ?_) rfl (by kernel_rfl) ?_ rfl ?_ ?_
          rotate_left 2
          · intro w hSw
            (try dsimp only at hSw)
            go_simp
            try with_reducible rfl
          · (try simp only [Act.put, List.setIfInBounds_toArray, List.set_cons_zero, List.set_cons_succ])
            try rfl
          refine sched_take' (v := .agg #[.int .i64 (a.n : Int), .string (bs a.set), .string (bs a.rel)]) (a' := ?_) rfl (by kernel_rfl) ?_ rfl ?_ ?_
          rotate_left 1
          · intro w hSw
            (try dsimp only at hSw)
            go_simp
            first | done | (obtain ⟨u0, u1, u2⟩ := hSw; simp [u0, u1, u2])
          · (try simp only [Act.put, List.setIfInBounds_toArray, List.set_cons_zero, List.set_cons_succ])
            try rfl
          refine sched_take' (v := ?_) (a' := ?_) rfl (by kernel_rfl) ?_ rfl ?_ ?_
          rotate_left 2
          · intro w hSw
            (try dsimp only at hSw)
            go_simp
            try with_reducible rfl
          · (try simp only [Act.put, List.setIfInBounds_toArray, List.set_cons_zero, List.set_cons_succ])
            try rfl
          refine sched_take' (v := ?_) (a' := ?_) rfl (by kernel_rfl) ?_ rfl ?_ ?_
          rotate_left 2
          · intro w hSw
            (try dsimp only at hSw)
            go_simp
            try with_reducible rfl
          · (try simp only [Act.put, List.setIfInBounds_toArray, List.set_cons_zero, List.set_cons_succ])
            try rfl
          refine sched_call rfl (by kernel_rfl) (fun K1 hK1 => ?_)
          go_simp
          refine (HGQ.out _ Q11.out).mono ?_
          rintro e w12 ⟨rfl, hz⟩
          have B12 := Lib.hid (B11.out.trans (hz.mono B11.out.size))
          have X12 := Lib.hid (X11.out.call hz)
          have R12 := Lib.hid (R11.out.call hz)
          have Q12 := Lib.hid (Q11.out.call hz)
          clear hz x0 x1 x2
          obtain ⟨x0, x1, x2⟩ := box_load X12.out
          go_wp2_with fail
          refine hK1.out _ _ ?_ (sched_lay (a' := ?_) ?_ ?_)
          · exact ⟨x0, x1, x2⟩
          rotate_left 1
          · (try simp only [Act.put, List.getElem_toArray, List.getElem_cons_succ, List.getElem_cons_zero, List.setIfInBounds_toArray, List.set_cons_zero, List.set_cons_succ])
            try rfl
          clear hK1 K1
          refine sched_call rfl (by kernel_rfl) (fun K1 hK1 => ?_)
          go_simp
          refine (HFQ.out _ Q12.out).mono ?_
          rintro e w13 ⟨rfl, hz⟩
          have B13 := Lib.hid (B12.out.trans (hz.mono B12.out.size))
          have X13 := Lib.hid (X12.out.call hz)
          have R13 := Lib.hid (R12.out.call hz)
          have Q13 := Lib.hid (Q12.out.call hz)
          clear hz x0 x1 x2
          obtain ⟨x0, x1, x2⟩ := box_load X13.out
          go_wp2_with fail
          refine hK1.out _ _ ?_ (sched_lay (a' := ?_) ?_ ?_)
          · exact ⟨x0, x1, x2⟩
          rotate_left 1
          · (try simp only [Act.put, List.getElem_toArray, List.getElem_cons_succ, List.getElem_cons_zero, List.setIfInBounds_toArray, List.set_cons_zero, List.set_cons_succ])
            try rfl
          clear hK1 K1
          refine sched_take' (v := .bool false) (a' := ?_) rfl (by kernel_rfl) ?_ rfl ?_ ?_
          rotate_left 1
          · intro w hSw
            (try dsimp only at hSw)
            go_simp
            first | done | exact VV | (simp [VV]; done) | rfl
          · (try simp only [Act.put, List.setIfInBounds_toArray, List.set_cons_zero, List.set_cons_succ])
            try rfl
          refine sched_done (hQ1.out _ _ ?_)
          go_wp2_with fail
          go_roundg (6 - k - 1)
          case rel => exact ⟨k + 1, by omega, by go_num, X13.out, R13.out, B13.out⟩
          case measure => omega
        · obtain rfl : k = 6 := by omega
          obtain ⟨wo, hwo⟩ : ∃ x, x = wr := ⟨_, rfl⟩
          subst hwo
          clear HXs x0 x1 x2 HBY HG4 HGG HGF
          have B8 := HB
          clear HB
          go_wp2_with fail
          refine (HCG.out _).mono ?_
          rintro e w9 ⟨rfl, hz⟩
          have B9 := Lib.hid (B8.out.trans (hz.mono B8.out.size))
          clear hz
          go_wp2_with fail
          refine (HRG.out _).mono ?_
          rintro e w10 ⟨rfl, hz⟩
          have B10 := Lib.hid (B9.out.trans (hz.mono B9.out.size))
          clear hz
          go_wp2_with fail
          refine (HRF.out _).mono ?_
          rintro e w11 ⟨rfl, hz⟩
          have B11 := Lib.hid (B10.out.trans (hz.mono B10.out.size))
          clear hz
          go_wp2_with fail
          refine (HVG.out _).mono ?_
          rintro e w12 ⟨rfl, hz⟩
          have B12 := Lib.hid (B11.out.trans (hz.mono B11.out.size))
          clear hz
          go_wp2_with fail
          refine (HVF.out _).mono ?_
          rintro e w13 ⟨rfl, hz⟩
          have B13 := Lib.hid (B12.out.trans (hz.mono B12.out.size))
          clear hz
          go_wp2_with fail
          refine (HWG.out _).mono ?_
          rintro e w14 ⟨rfl, hz⟩
          have B14 := Lib.hid (B13.out.trans (hz.mono B13.out.size))
          clear hz
          go_wp2_with fail
          refine (HWF.out _).mono ?_
          rintro e w15 ⟨rfl, hz⟩
          have B15 := Lib.hid (B14.out.trans (hz.mono B14.out.size))
          clear hz
          go_wp2_with fail
          go_ret
          exact ⟨rfl, B15.out⟩

end Go.Proofs.YtpaleogkgfclnaaDoor
