/-
  FormatStructure and OtherStructure, the program's and the reference's. Condition: texts below the reach.
-/
import Derived.Test.YtpaoffjicgmleaaDoorTurn
import Derived.Laws.IdiomStrings
import Derived.Laws.BytesString
namespace Go.Proofs.YtpaoffjicgmleaaDoor
open Go.RowKit
open Pl
set_option linter.unusedSimpArgs false
set_option linter.unusedVariables false

theorem flip_snoc (s : ByteArray) (k : Nat) (h : k < s.size) : bs (flipL (s.data.toList.take k)) ++ bs [bitB (s[k] == 48)] = bs (flipL (s.data.toList.take (k + 1))) := by
  rw [append_bs, bs_data, bs_data]
  congr 1
  unfold flipL
  rw [List.take_succ_eq_append_getElem (by simpa using h), List.map_append]
  rfl

theorem otherBits_calls (s : ByteArray) (w : World) (hs : s.size ≤ 64) :
    Calls Tryd.prog 56 #[.string s] w fun e w' => e = .returned (.string (bs (flipL s.data.toList))) ∧ w = w' := by
  go_enter Tryd.func56, Tryd.ntmps56
  go_wp2_with fail
  go_loop [3, 7] (fun o i => ∃ k : Nat, k ≤ s.size ∧ i = .int .i64 k ∧ o = .string (bs (flipL (s.data.toList.take k)))) (fun _ i => s.size - (intOf i).toNat)
  case atStart => exact ⟨0, Nat.zero_le _, rfl, rfl⟩
  case round =>
    obtain ⟨k, hk, rfl, rfl⟩ := hrel
    by_cases hlt : k < s.size
    · have hsn := flip_snoc s k hlt
      rw [← bit_ne (m := 48) rfl] at hsn
      have s1 : (bs (flipL (s.data.toList.take k))).size ≤ 64 := by rw [bs_size]; simp [flipL]; omega
      have s2 : (bs [bitB ((s[k].toNat : Int) == 48)]).size ≤ 1 := by rw [bs_size]; simp
      have Hsn := Lib.hid hsn
      clear hsn
      go_wp2_with (go_at_call 85; refine (bitOf_calls _ _).mono ?_; rintro e w' ⟨rfl, rfl⟩)
      go_round
      case rel => exact ⟨k + 1, by omega, by go_num, str_eq Hsn.out⟩
      case measure => simp [intOf]; omega
    · have e1 : flipL (s.data.toList.take k) = flipL s.data.toList := by rw [List.take_of_length_le (by simp; omega)]
      rw [e1]
      clear e1
      go_wp2_with fail
      go_ret
      exact ⟨rfl, rfl⟩

def byteS (b : UInt8) : Value := .int .u8 b.toNat

/-- a row of bytes that may be written -/
def BRow (w : World) (g : Nat) (l : List UInt8) : Prop := ∀ j, j < l.length → w.cell? ⟨g, j, none⟩ = some (byteS (l.getD j 0)) ∧ w.frozen? ⟨g, j, none⟩ = false

/-- the first k bytes turned -/
def flipTo (l : List UInt8) (k : Nat) : List UInt8 := flipL (l.take k) ++ l.drop k

theorem flipTo_len (l : List UInt8) (k : Nat) : (flipTo l k).length = l.length := by simp [flipTo, flipL]; omega
theorem flipTo_get (l : List UInt8) (k j : Nat) (h : j < l.length) : (flipTo l k).getD j 0 = if j < k then bitB (l[j] == 48) else l[j] := by
  unfold flipTo
  by_cases hj : j < k
  · rw [if_pos hj, List.getD_eq_getElem?_getD, List.getElem?_append_left (by simp [flipL]; omega)]
    simp [flipL, List.getElem?_take, hj, h]
  · rw [if_neg hj, List.getD_eq_getElem?_getD, List.getElem?_append_right (by simp [flipL]; omega)]
    have e : j - (flipL (l.take k)).length = j - k := by simp [flipL]; omega
    rw [e, List.getElem?_drop, show k + (j - k) = j by omega]
    simp [h]

theorem BRow.step {w : World} {g : Nat} {l : List UInt8} {k : Nat} (h : BRow w g (flipTo l k)) (hk : k < l.length) : BRow (w.setCell ⟨g, k, none⟩ (byteS (bitB (l[k] == 48)))) g (flipTo l (k + 1)) := by
  intro j hj
  rw [flipTo_len] at hj
  have h1 := h j (by rw [flipTo_len]; exact hj)
  refine ⟨?_, by rw [World.frozen?_setCell]; exact h1.2⟩
  rw [flipTo_get l (k + 1) j hj]
  by_cases e : j = k
  · subst e
    rw [if_pos (Nat.lt_succ_self _), World.cell?_setCell_same w _ _ h1.1]
  · rw [World.cell?_setCell_other w _ _ _ (by intro h2; injection h2 with _ h3; exact e h3.symm), h1.1, flipTo_get l k j hj]
    by_cases hjk : j < k
    · rw [if_pos hjk, if_pos (by omega)]
    · rw [if_neg hjk, if_neg (by omega)]

theorem bytes_pushS : ∀ (bytes : List UInt8) (s : ByteArray), (bytes.map fun b => (b.toNat : Int)).foldl (fun r n => r.push (UInt8.ofNat n.toNat)) s = bs (s.data.toList ++ bytes) := by
  intro bytes
  induction bytes with
  | nil => intro s; simp [bs_of]
  | cons b bytes ih =>
    intro s
    rw [List.map_cons, List.foldl_cons, ih]
    congr 1
    simp

theorem row_text {w : World} {g cap : Nat} {l : List UInt8} (h : BRow w g l) : (convert 22 9 (.slice (some ⟨g, 0, none⟩) l.length cap)).run Tryd.prog w = .ok (.string (bs l)) w := by
  rw [run_convert_bytes_string w _ _ 5 _ _ cap Tryd.underlying22 Tryd.underlying5 Tryd.underlying9]
  rw [run_bytesToString w ⟨g, 0, none⟩ l.length cap (l.map fun b => (b.toNat : Int))]
  · rw [bytes_pushS]; rfl
  · have hcells := run_loadCells (P := Tryd.prog) (w := w) ⟨g, 0, none⟩ l.length (fun j => byteS (l.getD j 0)) (fun j hj => by
      have e1 : (⟨g, 0, none⟩ : Addr).add j = ⟨g, j, none⟩ := by unfold Addr.add; split <;> simp_all
      rw [e1]; exact (h j hj).1)
    rw [hcells]
    congr 1
    apply Array.ext'
    simp only [List.map_map]
    apply List.ext_getElem?
    intro i
    by_cases hi : i < l.length
    · simp [List.getElem?_map, hi, byteS, List.getD]
    · simp [hi, List.getElem?_eq_none (show l.length ≤ i by omega)]

theorem bytesRow_get (s : ByteArray) (cap j : Nat) (h : j < s.size) : (bytesRow s cap)[j]? = some (byteS (s.data.toList.getD j 0)) := by
  unfold bytesRow
  have hl : j < s.data.size := h
  rw [Array.getElem?_append_left (by simpa using hl)]
  simp [byteS, List.getD, Array.getElem?_eq_getElem hl]

theorem bytesRow_size (s : ByteArray) (cap : Nat) : s.size ≤ (bytesRow s cap).size := by
  have h1 : s.size = s.data.size := rfl
  unfold bytesRow; rw [h1]; simp only [Array.size_append, Array.size_map]; omega

theorem flip_byte {b : UInt8} (h : IsBit b) : IntKind.u8.wrap (97 - (b.toNat : Int)) = ((bitB (b == 48)).toNat : Int) := by
  rcases h with rfl | rfl <;> decide

set_option maxHeartbeats 1000000 in
theorem l1Flip_calls (s : ByteArray) (w : World) (hs : s.size ≤ 64) (hb : ∀ b ∈ s.data.toList, IsBit b) :
    Calls Tryd.prog 58 #[.string s] w fun e w' => e = .returned (.string (bs (flipL s.data.toList))) ∧ Below w.heap.size w w' := by
  have hcv := run_bytes_of_string (P := Tryd.prog) w 9 22 5 s Tryd.underlying9 Tryd.underlying22 Tryd.underlying5
  obtain ⟨cap, hcap⟩ : ∃ cap, cap = grownCap w s.size 0 5 := ⟨_, rfl⟩
  rw [← hcap] at hcv
  have hrow : BRow (w.drew.alloc (.cells (bytesRow s cap) 5 ((bytesRow s cap).size, (bytesRow s cap).size + 1))) w.heap.size (flipTo s.data.toList 0) := by
    intro j hj
    rw [flipTo_len] at hj
    have hj' : j < s.size := by rw [Lib.size_eq]; exact hj
    have hh : (w.drew.alloc (.cells (bytesRow s cap) 5 ((bytesRow s cap).size, (bytesRow s cap).size + 1))).heap[w.heap.size]? = some (.cells (bytesRow s cap) 5 ((bytesRow s cap).size, (bytesRow s cap).size + 1)) := heap_alloc_new w.drew _
    have hsz := bytesRow_size s cap
    constructor
    · simp only [World.cell?, hh]
      rw [flipTo_get _ 0 j hj, if_neg (Nat.not_lt_zero _)]
      have := bytesRow_get s cap j hj'
      rw [this, List.getD_eq_getElem?_getD, List.getElem?_eq_getElem hj, Option.getD_some]
      rfl
    · simp only [World.frozen?, hh]
      simp; omega
  have hbel : Below w.heap.size w (w.drew.alloc (.cells (bytesRow s cap) 5 ((bytesRow s cap).size, (bytesRow s cap).size + 1))) := (Below.refl w.heap.size w).drew.alloc (Nat.le_refl _) _
  generalize (w.drew.alloc (.cells (bytesRow s cap) 5 ((bytesRow s cap).size, (bytesRow s cap).size + 1))) = w1 at hcv hrow hbel
  have Hrow := Lib.hid hrow
  have Hbel := Lib.hid hbel
  have Hb := Lib.hid hb
  clear hrow hbel hb hcap
  go_enter Tryd.func58, Tryd.ntmps58
  go_wp2_with fail
  go_loopg [4] s.size (fun c i wr => ∃ k : Nat, k + c = s.size ∧ i = .int .i64 k ∧ BRow wr w.heap.size (flipTo s.data.toList k) ∧ Below w.heap.size w wr)
  case atStart => exact ⟨0, by omega, rfl, Hrow.out, Hbel.out⟩
  case round =>
    obtain ⟨k, hk, rfl, hr, hbr⟩ := hrel
    have Hr := Lib.hid hr
    have Hbr := Lib.hid hbr
    clear hr hbr
    by_cases hlt : k < s.size
    · have hl : k < s.data.toList.length := by rw [← Lib.size_eq]; exact hlt
      obtain ⟨c1, f1⟩ := Hr.out k (by rw [flipTo_len]; exact hl)
      rw [flipTo_get _ k k hl, if_neg (Nat.lt_irrefl _)] at c1
      have hst := Hr.out.step hl
      have hbit := Hb.out _ (List.getElem_mem hl)
      have hfb := flip_byte hbit
      generalize s.data.toList[k] = b at c1 hst hfb
      have Hst := Lib.hid hst
      unfold byteS at c1
      clear hst hbit
      go_wp2_with fail
      go_roundg (gk - 1)
      case rel => exact ⟨k + 1, by omega, by go_num, Hst.out, Hbr.out.setCell (by simp) _⟩
      case measure => omega
    · have hk2 : k = s.size := by omega
      have e1 : flipTo s.data.toList k = flipL s.data.toList := by
        unfold flipTo
        rw [List.take_of_length_le (by rw [← Lib.size_eq]; omega), List.drop_eq_nil_of_le (by rw [← Lib.size_eq]; omega), List.append_nil]
      have hcv2 : ∀ cap, (convert 22 9 (.slice (some ⟨w.heap.size, 0, none⟩) s.size cap)).run Tryd.prog wr = .ok (.string (bs (flipL s.data.toList))) wr := fun cap => by
        have h1 := row_text (cap := cap) Hr.out
        rw [flipTo_len, ← Lib.size_eq, e1] at h1
        exact h1
      clear e1 hk2
      go_wp2_with fail
      go_ret
      exact ⟨rfl, Hbr.out⟩

def otherO (i : Int) (s r : ByteArray) : Option St := if okB i s r then some (ofSt i s r).other else none
def fmtV (i : Int) (s r : ByteArray) : ByteArray := if okB i s r then s ++ ⟨#[58]⟩ ++ r else bs []

theorem other_eq {a : St} (ha : a.ok) : stV (a.n : Int) (bs (flipL (bs a.set).data.toList)) (bs (flipL (bs a.rel).data.toList)) = stA a.other := by
  show stV _ _ _ = stV _ _ _
  rw [bs_data, bs_data, other_set ha, other_rel ha]
  rfl

theorem st_small {a : St} (ha : a.ok) : (bs a.set).size ≤ 64 ∧ (bs a.rel).size ≤ 64 := by
  have h8 := ha.hi; have h1 := ha.sl; have h2 := ha.rl; have h3 := sq_le h8
  rw [bs_size, bs_size]
  constructor <;> omega

set_option maxHeartbeats 2000000 in
theorem OtherStructure_impl (i : Int) (s r : ByteArray) (w : World) (hs : s.size ≤ maxLen) (hr : r.size ≤ maxLen) :
    Calls Tryd.prog 17 #[stV i s r] w fun e w' => e = .returned (resV (otherO i s r)) ∧ Below w.heap.size w w' := by
  have hc : ∀ W, Calls Tryd.prog 46 #[stV i s r] W fun e w' => e = .returned (.bool (okB i s r)) ∧ Below W.heap.size W w' := fun W => isStructure_calls i s r W hs hr
  rcases ok_cases i s r with hok | ⟨a, ha, rfl, rfl, rfl⟩
  · have hv : otherO i s r = none := by unfold otherO; rw [hok]; rfl
    rw [hv]
    rw [hok] at hc
    have Hc := Lib.hid hc
    clear hc hs hr hok hv
    go_enter Tryd.func17, Tryd.ntmps17
    go_wp2_with fail
    refine (Hc.out _).mono ?_
    rintro e w1 ⟨rfl, hz⟩
    have x1 := (bx_two w (.cells #[.int .i64 i, .string s, .string r] 24) #[.int .i64 0, .string (bs []), .string (bs [])] (t := 24)).call hz
    have HB := Lib.hid (((((Below.refl w.heap.size w).alloc (Nat.le_refl _) _).alloc (by simp) _).trans (hz.mono (by simp; omega))))
    obtain ⟨k0, k1, k2⟩ := box_load x1
    have f0 := x1.free 0
    have f1 := x1.free 1
    have f2 := x1.free 2
    have y1 := ((x1.set 0 (.int .i64 0)).set 1 (.string (bs []))).set 2 (.string (bs []))
    obtain ⟨q0, q1, q2⟩ := box_load (a := .int .i64 0) (b := .string (bs [])) (c := .string (bs [])) y1
    clear hz y1
    have Hx := Lib.hid x1
    clear x1
    go_wp2_with fail
    refine bodyPost_ret (v := resV none) ?_ rfl ⟨rfl, ?_⟩
    · have e0 : (⟨#[]⟩ : ByteArray) = bs [] := rfl
      simp only [e0]
      simp [results, Tryd.results17, go_sem, q0, q1, q2, resV]
    · exact ((HB.out.setCell (by simp) _).setCell (by simp) _).setCell (by simp) _
  · have hok := okB_true ha
    have hv : otherO a.n (bs a.set) (bs a.rel) = some a.other := by unfold otherO; rw [hok]; rfl
    rw [hv]
    rw [hok] at hc
    have Hc := Lib.hid hc
    have c1 : ∀ W, Calls Tryd.prog 56 #[.string (bs a.set)] W fun e w' => e = .returned (.string (bs (flipL (bs a.set).data.toList))) ∧ Below W.heap.size W w' := fun W => (otherBits_calls (bs a.set) W (st_small ha).1).mono (by rintro e w' ⟨rfl, rfl⟩; exact ⟨rfl, Below.refl _ _⟩)
    have c2 : ∀ W, Calls Tryd.prog 56 #[.string (bs a.rel)] W fun e w' => e = .returned (.string (bs (flipL (bs a.rel).data.toList))) ∧ Below W.heap.size W w' := fun W => (otherBits_calls (bs a.rel) W (st_small ha).2).mono (by rintro e w' ⟨rfl, rfl⟩; exact ⟨rfl, Below.refl _ _⟩)
    have hfin := other_eq ha
    generalize bs (flipL (bs a.set).data.toList) = S2 at c1 hfin
    generalize bs (flipL (bs a.rel).data.toList) = R2 at c2 hfin
    have hres : resV (some a.other) = .tuple #[stV (a.n : Int) S2 R2, .bool true] := by rw [hfin]; rfl
    rw [hres]
    have C1 := Lib.hid c1
    have C2 := Lib.hid c2
    clear hc hs hr hok hv c1 c2 hfin hres
    generalize bs a.set = S at *
    generalize bs a.rel = R at *
    generalize a.n = n at *
    go_enter Tryd.func17, Tryd.ntmps17
    go_wp2_with fail
    refine (Hc.out _).mono ?_
    rintro e w1 ⟨rfl, hz⟩
    have x0 := ((Bx.new w 24 #[.int .i64 n, .string S, .string R]).alloc (.cells #[.int .i64 0, .string (bs []), .string (bs [])] 24)).call hz
    have x1 := (bx_two w (.cells #[.int .i64 n, .string S, .string R] 24) #[.int .i64 0, .string (bs []), .string (bs [])] (t := 24)).call hz
    have HB := Lib.hid (((((Below.refl w.heap.size w).alloc (Nat.le_refl _) (.cells #[.int .i64 n, .string S, .string R] 24)).alloc (by simp) (.cells #[.int .i64 0, .string (bs []), .string (bs [])] 24)).trans (hz.mono (by simp; omega))))
    obtain ⟨k0, k1, k2⟩ := box_load x0
    have f0 := x1.free 0
    have f1 := x1.free 1
    have f2 := x1.free 2
    obtain ⟨d0, d1, d2⟩ := box_load x1
    have X0 := Lib.hid x0
    have X1 := Lib.hid x1
    clear hz x0 x1
    go_wp2_with fail
    go_region_held3 (fun w' => w'.cell? ⟨w.heap.size, 0, none⟩ = some (.int .i64 n) ∧ w'.cell? ⟨w.heap.size, 1, none⟩ = some (.string S) ∧ w'.cell? ⟨w.heap.size, 2, none⟩ = some (.string R)) (first | go_keep | exact ⟨m0, m1, m2⟩ | exact ⟨l0, l1, l2⟩) (first | (go_at_call 56; (with_reducible refine (C1.out _).mono ?_); rintro e w2 ⟨rfl, hz⟩; obtain ⟨m0, m1, m2⟩ := box_load (X0.out.drew.call hz); have X02 := Lib.hid (X0.out.drew.call hz); have X12 := Lib.hid (X1.out.drew.call hz); have HB2 := Lib.hid (HB.out.drew.trans (hz.mono HB.out.drew.size)); clear hz) | (go_at_call 56; (with_reducible refine (C2.out _).mono ?_); rintro e w3 ⟨rfl, hz⟩; obtain ⟨l0, l1, l2⟩ := box_load (X02.out.call hz); obtain ⟨n0, n1, n2⟩ := box_load (X12.out.call hz); have g0 := (X12.out.call hz).free 0; have g1 := (X12.out.call hz).free 1; have g2 := (X12.out.call hz).free 2; have X13 := Lib.hid (X12.out.call hz); have HB3 := Lib.hid (HB2.out.trans (hz.mono HB2.out.size)); clear hz))
    all_goals
      go_wp2_with fail
      have y1 := ((X13.out.set 0 (.int .i64 n)).set 1 (.string S2)).set 2 (.string R2)
      obtain ⟨q0, q1, q2⟩ := box_load (a := .int .i64 n) (b := .string S2) (c := .string R2) y1
      refine bodyPost_ret (v := .tuple #[stV (n : Int) S2 R2, .bool true]) ?_ rfl ⟨rfl, ?_⟩
      · simp [results, Tryd.results17, go_sem, q0, q1, q2]
      · exact ((HB3.out.setCell (by simp) _).setCell (by simp) _).setCell (by simp) _

set_option maxHeartbeats 2000000 in
theorem OtherStructure_spec (i : Int) (s r : ByteArray) (w : World) (hs : s.size ≤ maxLen) (hr : r.size ≤ maxLen) :
    Calls Tryd.prog 18 #[stV i s r] w fun e w' => e = .returned (resV (otherO i s r)) ∧ Below w.heap.size w w' := by
  have hc : ∀ W, Calls Tryd.prog 57 #[stV i s r] W fun e w' => e = .returned (.bool (okB i s r)) ∧ Below W.heap.size W w' := fun W => StructureValid_spec i s r W hs hr
  rcases ok_cases i s r with hok | ⟨a, ha, rfl, rfl, rfl⟩
  · have hv : otherO i s r = none := by unfold otherO; rw [hok]; rfl
    rw [hv]
    rw [hok] at hc
    have Hc := Lib.hid hc
    clear hc hs hr hok hv
    go_enter Tryd.func18, Tryd.ntmps18
    go_wp2_with fail
    refine (Hc.out _).mono ?_
    rintro e w1 ⟨rfl, hz⟩
    have x1 := (bx_two w (.cells #[.int .i64 i, .string s, .string r] 24) #[.int .i64 0, .string (bs []), .string (bs [])] (t := 24)).call hz
    have HB := Lib.hid (((((Below.refl w.heap.size w).alloc (Nat.le_refl _) _).alloc (by simp) _).trans (hz.mono (by simp; omega))))
    obtain ⟨k0, k1, k2⟩ := box_load x1
    have f0 := x1.free 0
    have f1 := x1.free 1
    have f2 := x1.free 2
    have y1 := ((x1.set 0 (.int .i64 0)).set 1 (.string (bs []))).set 2 (.string (bs []))
    obtain ⟨q0, q1, q2⟩ := box_load (a := .int .i64 0) (b := .string (bs [])) (c := .string (bs [])) y1
    clear hz y1
    have Hx := Lib.hid x1
    clear x1
    go_wp2_with fail
    refine bodyPost_ret (v := resV none) ?_ rfl ⟨rfl, ?_⟩
    · have e0 : (⟨#[]⟩ : ByteArray) = bs [] := rfl
      simp only [e0]
      simp [results, Tryd.results18, go_sem, q0, q1, q2, resV]
    · exact ((HB.out.setCell (by simp) _).setCell (by simp) _).setCell (by simp) _
  · have hok := okB_true ha
    have hv : otherO a.n (bs a.set) (bs a.rel) = some a.other := by unfold otherO; rw [hok]; rfl
    rw [hv]
    rw [hok] at hc
    have Hc := Lib.hid hc
    have c1 : ∀ W, Calls Tryd.prog 58 #[.string (bs a.set)] W fun e w' => e = .returned (.string (bs (flipL (bs a.set).data.toList))) ∧ Below W.heap.size W w' := fun W => l1Flip_calls (bs a.set) W (st_small ha).1 ha.sb
    have c2 : ∀ W, Calls Tryd.prog 58 #[.string (bs a.rel)] W fun e w' => e = .returned (.string (bs (flipL (bs a.rel).data.toList))) ∧ Below W.heap.size W w' := fun W => l1Flip_calls (bs a.rel) W (st_small ha).2 ha.rb
    have hfin := other_eq ha
    generalize bs (flipL (bs a.set).data.toList) = S2 at c1 hfin
    generalize bs (flipL (bs a.rel).data.toList) = R2 at c2 hfin
    have hres : resV (some a.other) = .tuple #[stV (a.n : Int) S2 R2, .bool true] := by rw [hfin]; rfl
    rw [hres]
    have C1 := Lib.hid c1
    have C2 := Lib.hid c2
    clear hc hs hr hok hv c1 c2 hfin hres
    generalize bs a.set = S at *
    generalize bs a.rel = R at *
    generalize a.n = n at *
    go_enter Tryd.func18, Tryd.ntmps18
    go_wp2_with fail
    refine (Hc.out _).mono ?_
    rintro e w1 ⟨rfl, hz⟩
    have x0 := ((Bx.new w 24 #[.int .i64 n, .string S, .string R]).alloc (.cells #[.int .i64 0, .string (bs []), .string (bs [])] 24)).call hz
    have x1 := (bx_two w (.cells #[.int .i64 n, .string S, .string R] 24) #[.int .i64 0, .string (bs []), .string (bs [])] (t := 24)).call hz
    have HB := Lib.hid (((((Below.refl w.heap.size w).alloc (Nat.le_refl _) (.cells #[.int .i64 n, .string S, .string R] 24)).alloc (by simp) (.cells #[.int .i64 0, .string (bs []), .string (bs [])] 24)).trans (hz.mono (by simp; omega))))
    obtain ⟨k0, k1, k2⟩ := box_load x0
    have f0 := x1.free 0
    have f1 := x1.free 1
    have f2 := x1.free 2
    obtain ⟨d0, d1, d2⟩ := box_load x1
    have X0 := Lib.hid x0
    have X1 := Lib.hid x1
    clear hz x0 x1
    go_wp2_with fail
    go_region_held3 (fun w' => w'.cell? ⟨w.heap.size, 0, none⟩ = some (.int .i64 n) ∧ w'.cell? ⟨w.heap.size, 1, none⟩ = some (.string S) ∧ w'.cell? ⟨w.heap.size, 2, none⟩ = some (.string R)) (first | go_keep | exact ⟨m0, m1, m2⟩ | exact ⟨l0, l1, l2⟩) (first | (go_at_call 58; (with_reducible refine (C1.out _).mono ?_); rintro e w2 ⟨rfl, hz⟩; obtain ⟨m0, m1, m2⟩ := box_load (X0.out.drew.call hz); have X02 := Lib.hid (X0.out.drew.call hz); have X12 := Lib.hid (X1.out.drew.call hz); have HB2 := Lib.hid (HB.out.drew.trans (hz.mono HB.out.drew.size)); clear hz) | (go_at_call 58; (with_reducible refine (C2.out _).mono ?_); rintro e w3 ⟨rfl, hz⟩; obtain ⟨l0, l1, l2⟩ := box_load (X02.out.call hz); obtain ⟨n0, n1, n2⟩ := box_load (X12.out.call hz); have g0 := (X12.out.call hz).free 0; have g1 := (X12.out.call hz).free 1; have g2 := (X12.out.call hz).free 2; have X13 := Lib.hid (X12.out.call hz); have HB3 := Lib.hid (HB2.out.trans (hz.mono HB2.out.size)); clear hz))
    all_goals
      go_wp2_with fail
      have y1 := ((X13.out.set 0 (.int .i64 n)).set 1 (.string S2)).set 2 (.string R2)
      obtain ⟨q0, q1, q2⟩ := box_load (a := .int .i64 n) (b := .string S2) (c := .string R2) y1
      refine bodyPost_ret (v := .tuple #[stV (n : Int) S2 R2, .bool true]) ?_ rfl ⟨rfl, ?_⟩
      · simp [results, Tryd.results18, go_sem, q0, q1, q2]
      · exact ((HB3.out.setCell (by simp) _).setCell (by simp) _).setCell (by simp) _

end Go.Proofs.YtpaoffjicgmleaaDoor
