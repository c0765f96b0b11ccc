/-
  ParseStructure, the program's and the reference's, and the law's walk. Condition: texts below the reach.
-/
import Derived.Test.YtpaoffjicgmleaaDoorFmt
import Derived.Test.YtpaoffjicgmleaaDoorSpecA
import Derived.Lib.Bytealg
import Derived.Lib.IndexBytes
import Derived.Test.YtpaoffjicgmleaaDoorList
import Derived.Test.YtpaoffjicgmleaaDoorReg
namespace Go.Proofs.YtpaoffjicgmleaaDoor
open Go.RowKit
open Pl
set_option linter.unusedSimpArgs false
set_option linter.unusedVariables false

theorem index_find (c : UInt8) : ∀ l : List UInt8, Lib.indexByte l c = findB c l := by
  intro l
  induction l with
  | nil => rfl
  | cons b l ih =>
    unfold Lib.indexByte
    rw [ih]
    unfold findB
    rw [List.findIdx?_cons]
    by_cases h : b = c
    · subst h; simp
    · have h1 : (b == c) = false := by simpa using h
      rw [h1]
      cases hf : l.findIdx? (· == c) with
      | none => simp
      | some k => simp

theorem find_lt {c : UInt8} {l : List UInt8} {k : Nat} (h : findB c l = k) : k < l.length := by
  unfold findB at h
  cases hf : l.findIdx? (· == c) with
  | none => rw [hf] at h; simp at h
  | some j =>
    rw [hf] at h
    obtain ⟨h1, _⟩ := List.findIdx?_eq_some_iff_getElem.1 hf
    simp at h
    omega

set_option maxRecDepth 100000 in
theorem slIndexByte_pst (s : ByteArray) (c : Int) (w : World) :
    Calls Tryd.prog 104 #[.string s, .int .u8 c] w fun e w' => e = .returned (.int .i64 (Lib.indexByte s.data.toList c.toNat.toUInt8)) ∧ w = w' := by
  go_enter Tryd.func104, Tryd.ntmps104
  go_wp2
  rw [run_callFunc_extern Tryd.func112 (by kernel_rfl) (by kernel_rfl) (by kernel_rfl) (by kernel_rfl), Lib.run_indexByteString]
  simp only [Result.andThen]
  rw [Oper.upon_value]
  go_wp2
  go_ret
  exact ⟨rfl, rfl⟩

set_option maxRecDepth 100000 in
theorem slIndex_pst (s t : ByteArray) (b : UInt8) (ht : t.data.toList = [b]) (w : World) :
    Calls Tryd.prog 96 #[.string s, .string t] w fun e w' => e = .returned (.int .i64 (Lib.indexByte s.data.toList b)) ∧ w = w' := by
  have hsz : t.size = 1 := by have := congrArg List.length ht; simpa using this
  have hb : ∀ h : 0 < t.size, t[0] = b := fun h => by
    have h1 : t.data.toList[0]? = some b := by rw [ht]; rfl
    rw [List.getElem?_eq_getElem (by simpa using h)] at h1
    injection h1
  have Hb := Lib.hid hb
  have Ht := Lib.hid ht
  clear hb ht
  go_enter Tryd.func96, Tryd.ntmps96
  go_wp2_with (go_at_call 104; refine (slIndexByte_pst _ _ _).mono ?_; rintro e w' ⟨rfl, rfl⟩)
  · go_ret
    refine ⟨ret_int ?_, rfl⟩
    have he : (t.toList == s.toList) = true := by assumption
    have he2 : t.toList = s.toList := eq_of_beq he
    rw [ByteArray.toList_eq, ByteArray.toList_eq, Ht.out] at he2
    rw [← he2]
    simp [Lib.indexByte]
  · go_ret
    exact ⟨ret_int (by rw [Hb.out (by omega)]), rfl⟩

/-- a text parted at the first sign ':' -/
def CutR (s : ByteArray) (e : Ending) : Prop := (findB 58 s.data.toList = -1 → ∃ a b, e = .returned (.tuple #[.string a, .string b, .bool false])) ∧ ∀ k : Nat, findB 58 s.data.toList = k → e = .returned (.tuple #[.string (s.extract 0 k), .string (s.extract (k + 1) s.size), .bool true])

set_option maxHeartbeats 400000 in
theorem slCut_calls (s : ByteArray) (w : World) (hs : s.size ≤ maxLen) :
    Calls Tryd.prog 89 #[.string s, .string ⟨#[58]⟩] w fun e w' => CutR s e ∧ Below w.heap.size w w' := by
  unfold maxLen at hs
  have hix : ∀ W, Calls Tryd.prog 96 #[.string s, .string ⟨#[58]⟩] W fun e w' => e = .returned (.int .i64 (findB 58 s.data.toList)) ∧ W = w' := fun W => by
    rw [← index_find]; exact slIndex_pst s ⟨#[58]⟩ 58 rfl W
  rcases (show findB 58 s.data.toList = -1 ∨ ∃ k : Nat, findB 58 s.data.toList = k ∧ k < s.size from by
    have h := findB_ge 58 s.data.toList
    by_cases h0 : findB 58 s.data.toList = -1
    · exact .inl h0
    · refine .inr ⟨(findB 58 s.data.toList).toNat, by omega, ?_⟩
      have := find_lt (c := 58) (l := s.data.toList) (k := (findB 58 s.data.toList).toNat) (by omega)
      simpa using this) with h | ⟨k, h, hk⟩
  · have hP : ∀ a b, CutR s (.returned (.tuple #[.string a, .string b, .bool false])) := fun a b => ⟨fun _ => ⟨a, b, rfl⟩, fun k hk => by rw [h] at hk; omega⟩
    rw [h] at hix
    have Hix := Lib.hid hix
    have HP := Lib.hid hP
    clear hix hP h
    go_enter Tryd.func89, Tryd.ntmps89
    go_wp2_with (go_at_call 96; refine (Hix.out _).mono ?_; rintro e w' ⟨rfl, rfl⟩)
    go_ret3
    exact ⟨HP.out _ _, Below.refl _ _⟩
  · have hP : CutR s (.returned (.tuple #[.string (s.extract 0 k), .string (s.extract (k + 1) s.size), .bool true])) := ⟨fun h2 => by rw [h] at h2; omega, fun j hj => by
      have e : j = k := by omega
      rw [e]⟩
    rw [h] at hix
    have Hix := Lib.hid hix
    have HP := Lib.hid hP
    have i1 : (0 : Int) ≤ (k : Int) := by omega
    have i2 : (k : Int) ≤ (s.size : Int) := by omega
    have i3 : (k : Int) + 1 ≤ (s.size : Int) := by omega
    have i4 : (0 : Int) ≤ (k : Int) + 1 := by omega
    have i5 : IntKind.i64.wrap ((k : Int) + 1) = (k : Int) + 1 := IntWalk.i64_in _ (by omega)
    have i6 : ((k : Int) + 1).toNat = k + 1 := by omega
    clear hix hP h
    go_enter Tryd.func89, Tryd.ntmps89
    go_upto_region 3 with (go_at_call 96; refine (Hix.out _).mono ?_; rintro e w' ⟨rfl, rfl⟩)
    go_quiet (fail)
    clear i5 i6
    go_wp2_with fail
    go_ret3
    exact ⟨HP.out, below_drewN' (Below.refl _ _) _⟩

theorem Cut_calls (s : ByteArray) (w : World) (hs : s.size ≤ maxLen) :
    Calls Tryd.prog 65 #[.string s, .string ⟨#[58]⟩] w fun e w' => (∃ a b q, e = .returned (.tuple #[.string a, .string b, .bool q]) ∧ CutR s e) ∧ Below w.heap.size w w' := by
  have hc : ∀ W, Calls Tryd.prog 89 #[.string s, .string ⟨#[58]⟩] W fun e w' => (∃ a b q, e = .returned (.tuple #[.string a, .string b, .bool q]) ∧ CutR s e) ∧ Below W.heap.size W w' := fun W =>
    (slCut_calls s W hs).mono fun e w' ⟨h, hb⟩ => ⟨by
      by_cases h0 : findB 58 s.data.toList = -1
      · obtain ⟨a, b, e1⟩ := h.1 h0
        exact ⟨a, b, false, e1, h⟩
      · have hg := findB_ge 58 s.data.toList
        have e1 := h.2 (findB 58 s.data.toList).toNat (by omega)
        exact ⟨_, _, true, e1, h⟩, hb⟩
  have Hc := Lib.hid hc
  clear hc hs
  go_enter Tryd.func65, Tryd.ntmps65
  go_wp2_with fail
  refine (Hc.out _).mono ?_
  rintro e w1 ⟨⟨a, b, q, rfl, h⟩, hz⟩
  have H := Lib.hid h
  have Hz := Lib.hid hz
  clear h hz
  go_wp2_with fail
  go_ret3
  exact ⟨⟨a, b, q, rfl, H.out⟩, Hz.out⟩

/-- the structure that a text says -/
def parseO (s : ByteArray) : Option St := if findB 58 s.data.toList = -1 then none else
  if okB (findB 58 s.data.toList) (s.extract 0 (findB 58 s.data.toList).toNat) (s.extract ((findB 58 s.data.toList).toNat + 1) s.size) then some (ofSt (findB 58 s.data.toList) (s.extract 0 (findB 58 s.data.toList).toNat) (s.extract ((findB 58 s.data.toList).toNat + 1) s.size)) else none

theorem parse_cases (s : ByteArray) : (findB 58 s.data.toList = -1 ∧ parseO s = none) ∨ ∃ k : Nat, findB 58 s.data.toList = k ∧ k < s.size ∧
    ((okB k (s.extract 0 k) (s.extract (k + 1) s.size) = false ∧ parseO s = none) ∨ ∃ a : St, a.ok ∧ okB k (s.extract 0 k) (s.extract (k + 1) s.size) = true ∧ k = a.n ∧ s.extract 0 k = bs a.set ∧ s.extract (k + 1) s.size = bs a.rel ∧ parseO s = some a) := by
  by_cases h0 : findB 58 s.data.toList = -1
  · exact .inl ⟨h0, by unfold parseO; rw [if_pos h0]⟩
  · have hg := findB_ge 58 s.data.toList
    obtain ⟨k, hk⟩ : ∃ k : Nat, findB 58 s.data.toList = k := ⟨(findB 58 s.data.toList).toNat, by omega⟩
    have hlt := find_lt hk
    refine .inr ⟨k, hk, by simpa using hlt, ?_⟩
    have hp : parseO s = if okB k (s.extract 0 k) (s.extract (k + 1) s.size) then some (ofSt k (s.extract 0 k) (s.extract (k + 1) s.size)) else none := by
      unfold parseO
      rw [if_neg h0, hk]
      rfl
    rcases ok_cases (k : Int) (s.extract 0 k) (s.extract (k + 1) s.size) with h | ⟨a, ha, h1, h2, h3⟩
    · exact .inl ⟨h, by rw [hp, h]; rfl⟩
    · have hok : okB k (s.extract 0 k) (s.extract (k + 1) s.size) = true := by rw [h1, h2, h3]; exact okB_true ha
      exact .inr ⟨a, ha, hok, by omega, h2, h3, by rw [hp, hok, h1, h2, h3, ofSt_eq]; rfl⟩

theorem ext_sz (s : ByteArray) (i j : Nat) : (s.extract i j).size ≤ s.size := by rw [ByteArray.size_extract]; omega
theorem ext_len (s : ByteArray) (k : Nat) (h : k < s.size) : (s.extract 0 k).size = k := by rw [ByteArray.size_extract]; omega

set_option maxHeartbeats 2000000 in
set_option maxRecDepth 100000 in
theorem ParseStructure_impl (s : ByteArray) (w : World) (hs : s.size ≤ 1048576) :
    Calls Tryd.prog 25 #[.string s] w fun e w' => e = .returned (resV (parseO s)) ∧ Below w.heap.size w w' := by
  have hm : s.size ≤ maxLen := by unfold maxLen; omega
  have hv : ∀ (k : Nat) W, Calls Tryd.prog 46 #[stV k (s.extract 0 k) (s.extract (k + 1) s.size)] W fun e w' => e = .returned (.bool (okB k (s.extract 0 k) (s.extract (k + 1) s.size))) ∧ Below W.heap.size W w' := fun k W => isStructure_calls k _ _ W (Nat.le_trans (ext_sz _ _ _) hm) (Nat.le_trans (ext_sz _ _ _) hm)
  have hx0 := Lib.hid (Bx.new w 24 #[.int .i64 0, .string (bs []), .string (bs [])])
  have hb0 := Lib.hid ((Below.refl w.heap.size w).alloc (Nat.le_refl _) (.cells #[.int .i64 0, .string (bs []), .string (bs [])] 24))
  have hc : ∀ W, Calls Tryd.prog 65 #[.string s, .string ⟨#[58]⟩] W fun e w' => (∃ a b q, e = .returned (.tuple #[.string a, .string b, .bool q]) ∧ CutR s e) ∧ Below W.heap.size W w' := fun W => Cut_calls s W hm
  rcases parse_cases s with ⟨h0, hp⟩ | ⟨k, h0, hk, hh⟩
  · rw [hp]
    have hc2 : ∀ W, Calls Tryd.prog 65 #[.string s, .string ⟨#[58]⟩] W fun e w' => (∃ a b, e = .returned (.tuple #[.string a, .string b, .bool false])) ∧ Below W.heap.size W w' := fun W => (hc W).mono fun e w' ⟨⟨_, _, _, _, h⟩, hz⟩ => ⟨h.1 h0, hz⟩
    have Hc := Lib.hid hc2
    clear hc hc2 hv hm h0 hp hs
    go_enter Tryd.func25, Tryd.ntmps25
    go_wp2_with fail
    refine (Hc.out _).mono ?_
    rintro e w1 ⟨⟨a, b, rfl⟩, hz⟩
    have hx1 := (hx0.out.call hz).alloc (.cells #[.int .i64 a.size, .string a, .string b] 24)
    have HB := Lib.hid ((hb0.out.trans (hz.mono hb0.out.size)).alloc (hb0.out.trans (hz.mono hb0.out.size)).size (.cells #[.int .i64 a.size, .string a, .string b] 24))
    have f0 := hx1.free 0
    have f1 := hx1.free 1
    have f2 := hx1.free 2
    obtain ⟨c0, c1, c2⟩ := box_load hx1
    have y1 := ((hx1.set 0 (.int .i64 0)).set 1 (.string (bs []))).set 2 (.string (bs []))
    obtain ⟨q0, q1, q2⟩ := box_load (a := .int .i64 0) (b := .string (bs [])) (c := .string (bs [])) y1
    clear y1
    clear hz hx1
    go_wp2_with fail
    refine bodyPost_ret (v := resV none) ?_ rfl ⟨rfl, ?_⟩
    · have e0 : (⟨#[]⟩ : ByteArray) = bs [] := rfl
      simp only [e0]
      simp [results, Tryd.results25, go_sem, q0, q1, q2, resV]
    · first
      | exact HB.out
      | exact Below.setCell (p := ⟨w.heap.size, 2, none⟩) (Below.setCell (p := ⟨w.heap.size, 1, none⟩) (Below.setCell (p := ⟨w.heap.size, 0, none⟩) HB.out (Nat.le_refl _) _) (Nat.le_refl _) _) (Nat.le_refl _) _

  · have hsz := ext_len s k hk
    have hvk := hv k
    have hc2 := hc
    replace hc2 : ∀ W, Calls Tryd.prog 65 #[.string s, .string ⟨#[58]⟩] W fun e w' => e = .returned (.tuple #[.string (s.extract 0 k), .string (s.extract (k + 1) s.size), .bool true]) ∧ Below W.heap.size W w' := fun W => (hc W).mono fun e w' ⟨⟨_, _, _, _, h⟩, hz⟩ => ⟨h.2 k h0, hz⟩
    clear hc hv hm h0 hs hk
    generalize s.extract 0 k = S1 at *
    generalize s.extract (k + 1) s.size = S2 at *
    rcases hh with ⟨ho, hp⟩ | ⟨a, ha, ho, e1, e2, e3, hp⟩
    · rw [hp]
      rw [ho] at hvk
      clear ho hp
      have Hc := Lib.hid hc2
      have Hv := Lib.hid hvk
      clear hc2 hvk
      go_enter Tryd.func25, Tryd.ntmps25
      go_wp2_with fail
      refine (Hc.out _).mono ?_
      rintro e w1 ⟨rfl, hz⟩
      have hx1 := Lib.hid ((hx0.out.call hz).alloc (.cells #[.int .i64 k, .string S1, .string S2] 24))
      have ha1 := Lib.hid (Bx.new w1 24 #[.int .i64 k, .string S1, .string S2])
      have hb1 := Lib.hid ((hb0.out.trans (hz.mono hb0.out.size)).alloc (hb0.out.trans (hz.mono hb0.out.size)).size (.cells #[.int .i64 k, .string S1, .string S2] 24))
      clear hz
      go_wp2_with fail
      refine (Hv.out _).mono ?_
      rintro e w2 ⟨rfl, hz⟩
      have hx2 := hx1.out.call hz
      have HB := Lib.hid (hb1.out.trans (hz.mono hb1.out.size))
      have f0 := hx2.free 0
      have f1 := hx2.free 1
      have f2 := hx2.free 2
      obtain ⟨c0, c1, c2⟩ := box_load hx2
      have y1 := ((hx2.set 0 (.int .i64 0)).set 1 (.string (bs []))).set 2 (.string (bs []))
      obtain ⟨q0, q1, q2⟩ := box_load (a := .int .i64 0) (b := .string (bs [])) (c := .string (bs [])) y1
      clear y1
      clear hz hx2
      go_wp2_with fail
      refine bodyPost_ret (v := resV none) ?_ rfl ⟨rfl, ?_⟩
      · have e0 : (⟨#[]⟩ : ByteArray) = bs [] := rfl
        simp only [e0]
        simp [results, Tryd.results25, go_sem, q0, q1, q2, resV]
      · first
        | exact HB.out
        | exact Below.setCell (p := ⟨w.heap.size, 2, none⟩) (Below.setCell (p := ⟨w.heap.size, 1, none⟩) (Below.setCell (p := ⟨w.heap.size, 0, none⟩) HB.out (Nat.le_refl _) _) (Nat.le_refl _) _) (Nat.le_refl _) _

    · rw [ho] at hvk
      have hres : resV (some a) = .tuple #[stV k S1 S2, .bool true] := by rw [e2, e3, e1]; rfl
      rw [hp, hres]
      clear ho hp hres e1 e2 e3 ha
      have Hc := Lib.hid hc2
      have Hv := Lib.hid hvk
      clear hc2 hvk
      go_enter Tryd.func25, Tryd.ntmps25
      go_wp2_with fail
      refine (Hc.out _).mono ?_
      rintro e w1 ⟨rfl, hz⟩
      have hx1 := Lib.hid ((hx0.out.call hz).alloc (.cells #[.int .i64 k, .string S1, .string S2] 24))
      have ha1 := Lib.hid (Bx.new w1 24 #[.int .i64 k, .string S1, .string S2])
      have hb1 := Lib.hid ((hb0.out.trans (hz.mono hb0.out.size)).alloc (hb0.out.trans (hz.mono hb0.out.size)).size (.cells #[.int .i64 k, .string S1, .string S2] 24))
      clear hz
      go_wp2_with fail
      refine (Hv.out _).mono ?_
      rintro e w2 ⟨rfl, hz⟩
      have hx2 := hx1.out.call hz
      have ha2 := ha1.out.call hz
      have HB := Lib.hid (hb1.out.trans (hz.mono hb1.out.size))
      have f0 := hx2.free 0
      have f1 := hx2.free 1
      have f2 := hx2.free 2
      obtain ⟨c0, c1, c2⟩ := box_load hx2
      obtain ⟨d0, d1, d2⟩ := box_load ha2
      have y1 := ((hx2.set 0 (.int .i64 k)).set 1 (.string S1)).set 2 (.string S2)
      obtain ⟨q0, q1, q2⟩ := box_load (a := .int .i64 k) (b := .string S1) (c := .string S2) y1
      clear hz y1 hx2 ha2
      go_wp2_with fail
      refine bodyPost_ret (v := .tuple #[stV k S1 S2, .bool true]) ?_ rfl ⟨rfl, ?_⟩
      · have e0 : (⟨#[]⟩ : ByteArray) = bs [] := rfl
        simp only [e0]
        simp [results, Tryd.results25, go_sem, q0, q1, q2, resV]
      · first
        | exact HB.out
        | exact Below.setCell (p := ⟨w.heap.size, 2, none⟩) (Below.setCell (p := ⟨w.heap.size, 1, none⟩) (Below.setCell (p := ⟨w.heap.size, 0, none⟩) HB.out (Nat.le_refl _) _) (Nat.le_refl _) _) (Nat.le_refl _) _

set_option maxHeartbeats 2000000 in
set_option maxRecDepth 100000 in
theorem ParseStructure_spec (s : ByteArray) (w : World) (hs : s.size ≤ 1048576) :
    Calls Tryd.prog 27 #[.string s] w fun e w' => e = .returned (resV (parseO s)) ∧ Below w.heap.size w w' := by
  have hm : s.size ≤ maxLen := by unfold maxLen; omega
  have hv : ∀ (k : Nat) W, Calls Tryd.prog 57 #[stV k (s.extract 0 k) (s.extract (k + 1) s.size)] W fun e w' => e = .returned (.bool (okB k (s.extract 0 k) (s.extract (k + 1) s.size))) ∧ Below W.heap.size W w' := fun k W => StructureValid_spec k _ _ W (Nat.le_trans (ext_sz _ _ _) hm) (Nat.le_trans (ext_sz _ _ _) hm)
  have hx0 := Lib.hid (Bx.new w 24 #[.int .i64 0, .string (bs []), .string (bs [])])
  have hb0 := Lib.hid ((Below.refl w.heap.size w).alloc (Nat.le_refl _) (.cells #[.int .i64 0, .string (bs []), .string (bs [])] 24))
  have hc : ∀ W, Calls Tryd.prog 67 #[.string s, .int .u8 58] W fun e w' => e = .returned (.int .i64 (findB 58 s.data.toList)) ∧ W = w' := fun W => l15Find_calls s 58 W hm
  rcases parse_cases s with ⟨h0, hp⟩ | ⟨k, h0, hk, hh⟩
  · rw [hp]
    rw [h0] at hc
    have Hc := Lib.hid hc
    have hx1 := hx0.out
    have HB := hb0
    clear hc hv hm h0 hp hs
    have f0 := hx1.free 0
    have f1 := hx1.free 1
    have f2 := hx1.free 2
    obtain ⟨c0, c1, c2⟩ := box_load hx1
    have y1 := ((hx1.set 0 (.int .i64 0)).set 1 (.string (bs []))).set 2 (.string (bs []))
    obtain ⟨q0, q1, q2⟩ := box_load (a := .int .i64 0) (b := .string (bs [])) (c := .string (bs [])) y1
    clear y1
    clear hx1
    go_enter Tryd.func27, Tryd.ntmps27
    go_wp2_with fail
    refine (Hc.out _).mono ?_
    rintro e w1 ⟨rfl, rfl⟩
    go_wp2_with fail
    refine bodyPost_ret (v := resV none) ?_ rfl ⟨rfl, ?_⟩
    · have e0 : (⟨#[]⟩ : ByteArray) = bs [] := rfl
      simp only [e0]
      simp [results, Tryd.results27, go_sem, q0, q1, q2, resV]
    · first
      | exact HB.out
      | exact Below.setCell (p := ⟨w.heap.size, 2, none⟩) (Below.setCell (p := ⟨w.heap.size, 1, none⟩) (Below.setCell (p := ⟨w.heap.size, 0, none⟩) HB.out (Nat.le_refl _) _) (Nat.le_refl _) _) (Nat.le_refl _) _

  · have hsz := ext_len s k hk
    have hvk := hv k
    have hc2 := hc
    rw [h0] at hc2
    clear hc hv hm h0
    rcases hh with ⟨ho, hp⟩ | ⟨a, ha, ho, e1, e2, e3, hp⟩
    · rw [hp]
      rw [ho] at hvk
      clear ho hp
      have Hc := Lib.hid hc2
      have Hv := Lib.hid hvk
      clear hc2 hvk
      have i1 : (0 : Int) ≤ (k : Int) := by omega
      have i2 : (k : Int) ≤ (s.size : Int) := by omega
      have i3 : (k : Int) + 1 ≤ (s.size : Int) := by omega
      have i4 : (0 : Int) ≤ (k : Int) + 1 := by omega
      have i5 : IntKind.i64.wrap ((k : Int) + 1) = (k : Int) + 1 := IntWalk.i64_in _ (by omega)
      have i6 : ((k : Int) + 1).toNat = k + 1 := by omega
      have i7 : ¬ (k : Int) < 0 := by omega
      go_enter Tryd.func27, Tryd.ntmps27
      go_upto_region 4 with (go_at_call 67; refine (Hc.out _).mono ?_; rintro e w1 ⟨rfl, rfl⟩)
      refine region_sched [(0, true), (1, true), (2, true), (3, true), (4, true), (5, true), (6, true), (7, true), (8, true), (9, false), (10, false)] (fun _ => True) (by kernel_rfl) (by kernel_rfl) (by kernel_rfl) (by kernel_rfl) (fun _ _ _ _ h => h) ?_ (fun Q1 hQ1 => ?_)
      · trivial
      try simp only [List.append]
      refine sched_take' (v := ?_) (a' := ?_) rfl (by kernel_rfl) ?_ rfl ?_ ?_
      rotate_left 2
      · intro w hSw
        (try dsimp only at hSw)
        go_simp
        try with_reducible rfl
      · (try simp only [Act.put, List.setIfInBounds_toArray, List.set_cons_zero, List.set_cons_succ])
        try rfl
      refine sched_take' (v := ?_) (a' := ?_) rfl (by kernel_rfl) ?_ rfl ?_ ?_
      rotate_left 2
      · intro w hSw
        (try dsimp only at hSw)
        go_simp
        try with_reducible rfl
      · (try simp only [Act.put, List.setIfInBounds_toArray, List.set_cons_zero, List.set_cons_succ])
        try rfl
      refine sched_take' (v := ?_) (a' := ?_) rfl (by kernel_rfl) ?_ rfl ?_ ?_
      rotate_left 2
      · intro w hSw
        (try dsimp only at hSw)
        go_simp
        try with_reducible rfl
      · (try simp only [Act.put, List.setIfInBounds_toArray, List.set_cons_zero, List.set_cons_succ])
        try rfl
      refine sched_take' (v := ?_) (a' := ?_) rfl (by kernel_rfl) ?_ rfl ?_ ?_
      rotate_left 2
      · intro w hSw
        (try dsimp only at hSw)
        go_simp
        try with_reducible rfl
      · (try simp only [Act.put, List.setIfInBounds_toArray, List.set_cons_zero, List.set_cons_succ])
        try rfl
      refine sched_take' (v := ?_) (a' := ?_) rfl (by kernel_rfl) ?_ rfl ?_ ?_
      rotate_left 2
      · intro w hSw
        (try dsimp only at hSw)
        go_simp
        try with_reducible rfl
      · (try simp only [Act.put, List.setIfInBounds_toArray, List.set_cons_zero, List.set_cons_succ])
        try rfl
      refine sched_take' (v := ?_) (a' := ?_) rfl (by kernel_rfl) ?_ rfl ?_ ?_
      rotate_left 2
      · intro w hSw
        (try dsimp only at hSw)
        go_simp
        try with_reducible rfl
      · (try simp only [Act.put, List.setIfInBounds_toArray, List.set_cons_zero, List.set_cons_succ])
        try rfl
      refine sched_take' (v := ?_) (a' := ?_) rfl (by kernel_rfl) ?_ rfl ?_ ?_
      rotate_left 2
      · intro w hSw
        (try dsimp only at hSw)
        go_simp
        try with_reducible rfl
      · (try simp only [Act.put, List.setIfInBounds_toArray, List.set_cons_zero, List.set_cons_succ])
        try rfl
      refine sched_take' (v := ?_) (a' := ?_) rfl (by kernel_rfl) ?_ rfl ?_ ?_
      rotate_left 2
      · intro w hSw
        (try dsimp only at hSw)
        go_simp
        try with_reducible rfl
      · (try simp only [Act.put, List.setIfInBounds_toArray, List.set_cons_zero, List.set_cons_succ])
        try rfl
      refine sched_take' (v := ?_) (a' := ?_) rfl (by kernel_rfl) ?_ rfl ?_ ?_
      rotate_left 2
      · intro w hSw
        (try dsimp only at hSw)
        go_simp
        try with_reducible rfl
      · (try simp only [Act.put, List.setIfInBounds_toArray, List.set_cons_zero, List.set_cons_succ])
        try rfl
      refine sched_call rfl (by kernel_rfl) (fun K1 hK1 => ?_)
      go_simp
      refine hK1.out _ _ ?_ (sched_lay (a' := ?_) ?_ ?_)
      · trivial
      rotate_left 1
      · (try simp only [Act.put, List.getElem_toArray, List.getElem_cons_succ, List.getElem_cons_zero, List.setIfInBounds_toArray, List.set_cons_zero, List.set_cons_succ])
        try rfl
      clear hK1 K1
      refine sched_call rfl (by kernel_rfl) (fun K1 hK1 => ?_)
      go_simp
      refine hK1.out _ _ ?_ (sched_lay (a' := ?_) ?_ ?_)
      · trivial
      rotate_left 1
      · (try simp only [Act.put, List.getElem_toArray, List.getElem_cons_succ, List.getElem_cons_zero, List.setIfInBounds_toArray, List.set_cons_zero, List.set_cons_succ])
        try rfl
      clear hK1 K1
      refine sched_done (hQ1.out _ _ ?_)
      clear i5 i6
      generalize hS1 : s.extract 0 k = S1 at *
      generalize hS2 : s.extract (k + 1) s.size = S2 at *
      have HS1 := Lib.hid hS1
      have HS2 := Lib.hid hS2
      clear hS1 hS2
      have hx1 := Lib.hid (hx0.out.alloc (.cells #[.int .i64 k, .string S1, .string S2] 24)).drew
      have ha1 := Lib.hid (bx_two w (.cells #[.int .i64 0, .string (bs []), .string (bs [])] 24) #[.int .i64 k, .string S1, .string S2] (t := 24)).drew
      have hb1 := Lib.hid (hb0.out.alloc (by simp) (.cells #[.int .i64 k, .string S1, .string S2] 24)).drew
      obtain ⟨a0, a1, a2⟩ := box_load ha1.out
      go_wp2_with fail
      refine (Hv.out _).mono ?_
      rintro e w2 ⟨rfl, hz⟩
      clear a0 a1 a2
      have hx2 := hx1.out.call hz
      have HB := Lib.hid (hb1.out.trans (hz.mono hb1.out.size))
      have f0 := hx2.free 0
      have f1 := hx2.free 1
      have f2 := hx2.free 2
      obtain ⟨c0, c1, c2⟩ := box_load hx2
      have y1 := ((hx2.set 0 (.int .i64 0)).set 1 (.string (bs []))).set 2 (.string (bs []))
      obtain ⟨q0, q1, q2⟩ := box_load (a := .int .i64 0) (b := .string (bs [])) (c := .string (bs [])) y1
      clear y1
      clear hz hx2
      go_wp2_with fail
      refine bodyPost_ret (v := resV none) ?_ rfl ⟨rfl, ?_⟩
      · have e0 : (⟨#[]⟩ : ByteArray) = bs [] := rfl
        simp only [e0]
        simp [results, Tryd.results27, go_sem, q0, q1, q2, resV]
      · first
        | exact HB.out
        | exact Below.setCell (p := ⟨w.heap.size, 2, none⟩) (Below.setCell (p := ⟨w.heap.size, 1, none⟩) (Below.setCell (p := ⟨w.heap.size, 0, none⟩) HB.out (Nat.le_refl _) _) (Nat.le_refl _) _) (Nat.le_refl _) _

    · rw [ho] at hvk
      have hres : resV (some a) = .tuple #[stV k (s.extract 0 k) (s.extract (k + 1) s.size), .bool true] := by rw [e2, e3, e1]; rfl
      rw [hp, hres]
      clear ho hp hres e1 e2 e3 ha
      have Hc := Lib.hid hc2
      have Hv := Lib.hid hvk
      clear hc2 hvk
      have i1 : (0 : Int) ≤ (k : Int) := by omega
      have i2 : (k : Int) ≤ (s.size : Int) := by omega
      have i3 : (k : Int) + 1 ≤ (s.size : Int) := by omega
      have i4 : (0 : Int) ≤ (k : Int) + 1 := by omega
      have i5 : IntKind.i64.wrap ((k : Int) + 1) = (k : Int) + 1 := IntWalk.i64_in _ (by omega)
      have i6 : ((k : Int) + 1).toNat = k + 1 := by omega
      have i7 : ¬ (k : Int) < 0 := by omega
      go_enter Tryd.func27, Tryd.ntmps27
      go_upto_region 4 with (go_at_call 67; refine (Hc.out _).mono ?_; rintro e w1 ⟨rfl, rfl⟩)
      refine region_sched [(0, true), (1, true), (2, true), (3, true), (4, true), (5, true), (6, true), (7, true), (8, true), (9, false), (10, false)] (fun _ => True) (by kernel_rfl) (by kernel_rfl) (by kernel_rfl) (by kernel_rfl) (fun _ _ _ _ h => h) ?_ (fun Q1 hQ1 => ?_)
      · trivial
      try simp only [List.append]
      refine sched_take' (v := ?_) (a' := ?_) rfl (by kernel_rfl) ?_ rfl ?_ ?_
      rotate_left 2
      · intro w hSw
        (try dsimp only at hSw)
        go_simp
        try with_reducible rfl
      · (try simp only [Act.put, List.setIfInBounds_toArray, List.set_cons_zero, List.set_cons_succ])
        try rfl
      refine sched_take' (v := ?_) (a' := ?_) rfl (by kernel_rfl) ?_ rfl ?_ ?_
      rotate_left 2
      · intro w hSw
        (try dsimp only at hSw)
        go_simp
        try with_reducible rfl
      · (try simp only [Act.put, List.setIfInBounds_toArray, List.set_cons_zero, List.set_cons_succ])
        try rfl
      refine sched_take' (v := ?_) (a' := ?_) rfl (by kernel_rfl) ?_ rfl ?_ ?_
      rotate_left 2
      · intro w hSw
        (try dsimp only at hSw)
        go_simp
        try with_reducible rfl
      · (try simp only [Act.put, List.setIfInBounds_toArray, List.set_cons_zero, List.set_cons_succ])
        try rfl
      refine sched_take' (v := ?_) (a' := ?_) rfl (by kernel_rfl) ?_ rfl ?_ ?_
      rotate_left 2
      · intro w hSw
        (try dsimp only at hSw)
        go_simp
        try with_reducible rfl
      · (try simp only [Act.put, List.setIfInBounds_toArray, List.set_cons_zero, List.set_cons_succ])
        try rfl
      refine sched_take' (v := ?_) (a' := ?_) rfl (by kernel_rfl) ?_ rfl ?_ ?_
      rotate_left 2
      · intro w hSw
        (try dsimp only at hSw)
        go_simp
        try with_reducible rfl
      · (try simp only [Act.put, List.setIfInBounds_toArray, List.set_cons_zero, List.set_cons_succ])
        try rfl
      refine sched_take' (v := ?_) (a' := ?_) rfl (by kernel_rfl) ?_ rfl ?_ ?_
      rotate_left 2
      · intro w hSw
        (try dsimp only at hSw)
        go_simp
        try with_reducible rfl
      · (try simp only [Act.put, List.setIfInBounds_toArray, List.set_cons_zero, List.set_cons_succ])
        try rfl
      refine sched_take' (v := ?_) (a' := ?_) rfl (by kernel_rfl) ?_ rfl ?_ ?_
      rotate_left 2
      · intro w hSw
        (try dsimp only at hSw)
        go_simp
        try with_reducible rfl
      · (try simp only [Act.put, List.setIfInBounds_toArray, List.set_cons_zero, List.set_cons_succ])
        try rfl
      refine sched_take' (v := ?_) (a' := ?_) rfl (by kernel_rfl) ?_ rfl ?_ ?_
      rotate_left 2
      · intro w hSw
        (try dsimp only at hSw)
        go_simp
        try with_reducible rfl
      · (try simp only [Act.put, List.setIfInBounds_toArray, List.set_cons_zero, List.set_cons_succ])
        try rfl
      refine sched_take' (v := ?_) (a' := ?_) rfl (by kernel_rfl) ?_ rfl ?_ ?_
      rotate_left 2
      · intro w hSw
        (try dsimp only at hSw)
        go_simp
        try with_reducible rfl
      · (try simp only [Act.put, List.setIfInBounds_toArray, List.set_cons_zero, List.set_cons_succ])
        try rfl
      refine sched_call rfl (by kernel_rfl) (fun K1 hK1 => ?_)
      go_simp
      refine hK1.out _ _ ?_ (sched_lay (a' := ?_) ?_ ?_)
      · trivial
      rotate_left 1
      · (try simp only [Act.put, List.getElem_toArray, List.getElem_cons_succ, List.getElem_cons_zero, List.setIfInBounds_toArray, List.set_cons_zero, List.set_cons_succ])
        try rfl
      clear hK1 K1
      refine sched_call rfl (by kernel_rfl) (fun K1 hK1 => ?_)
      go_simp
      refine hK1.out _ _ ?_ (sched_lay (a' := ?_) ?_ ?_)
      · trivial
      rotate_left 1
      · (try simp only [Act.put, List.getElem_toArray, List.getElem_cons_succ, List.getElem_cons_zero, List.setIfInBounds_toArray, List.set_cons_zero, List.set_cons_succ])
        try rfl
      clear hK1 K1
      refine sched_done (hQ1.out _ _ ?_)
      clear i5 i6
      generalize hS1 : s.extract 0 k = S1 at *
      generalize hS2 : s.extract (k + 1) s.size = S2 at *
      have HS1 := Lib.hid hS1
      have HS2 := Lib.hid hS2
      clear hS1 hS2
      have hx1 := Lib.hid (hx0.out.alloc (.cells #[.int .i64 k, .string S1, .string S2] 24)).drew
      have ha1 := Lib.hid (bx_two w (.cells #[.int .i64 0, .string (bs []), .string (bs [])] 24) #[.int .i64 k, .string S1, .string S2] (t := 24)).drew
      have hb1 := Lib.hid (hb0.out.alloc (by simp) (.cells #[.int .i64 k, .string S1, .string S2] 24)).drew
      obtain ⟨a0, a1, a2⟩ := box_load ha1.out
      go_wp2_with fail
      refine (Hv.out _).mono ?_
      rintro e w2 ⟨rfl, hz⟩
      clear a0 a1 a2
      have hx2 := hx1.out.call hz
      have ha2 := ha1.out.call hz
      have HB := Lib.hid (hb1.out.trans (hz.mono hb1.out.size))
      have f0 := hx2.free 0
      have f1 := hx2.free 1
      have f2 := hx2.free 2
      obtain ⟨c0, c1, c2⟩ := box_load hx2
      obtain ⟨d0, d1, d2⟩ := box_load ha2
      have y1 := ((hx2.set 0 (.int .i64 k)).set 1 (.string S1)).set 2 (.string S2)
      obtain ⟨q0, q1, q2⟩ := box_load (a := .int .i64 k) (b := .string S1) (c := .string S2) y1
      clear hz y1 hx2 ha2
      go_wp2_with fail
      refine bodyPost_ret (v := .tuple #[stV k S1 S2, .bool true]) ?_ rfl ⟨by rw [HS1.out, HS2.out], ?_⟩
      · have e0 : (⟨#[]⟩ : ByteArray) = bs [] := rfl
        simp only [e0]
        simp [results, Tryd.results27, go_sem, q0, q1, q2, resV]
      · first
        | exact HB.out
        | exact Below.setCell (p := ⟨w.heap.size, 2, none⟩) (Below.setCell (p := ⟨w.heap.size, 1, none⟩) (Below.setCell (p := ⟨w.heap.size, 0, none⟩) HB.out (Nat.le_refl _) _) (Nat.le_refl _) _) (Nat.le_refl _) _

end Go.Proofs.YtpaoffjicgmleaaDoor
