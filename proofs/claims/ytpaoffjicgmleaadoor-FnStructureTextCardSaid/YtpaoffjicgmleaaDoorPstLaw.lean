/-
  A structure is read from its text, and a text that is read is that of the structure. No condition.
-/
import Derived.Test.YtpaoffjicgmleaaDoorParseSt
namespace Go.Proofs.YtpaoffjicgmleaaDoor
open Go.RowKit
open Pl
set_option linter.unusedSimpArgs false
set_option linter.unusedVariables false

theorem bit_ne58 {b : UInt8} (h : IsBit b) : b ≠ 58 := by rcases h with rfl | rfl <;> decide

theorem cut_ext {s : ByteArray} {l r : List UInt8} (h : s.data.toList = l ++ 58 :: r) : s.extract 0 l.length = bs l ∧ s.extract (l.length + 1) s.size = bs r := by
  constructor
  · apply eq_bs
    rw [Lib.extract_data, h]
    simp
  · have hs : s.size = l.length + (r.length + 1) := by rw [size_le_of h]; simp
    apply eq_bs
    rw [Lib.extract_data, h, hs]
    rw [show l.length + 1 = (l ++ [58]).length from by simp, show l ++ 58 :: r = (l ++ [58]) ++ r from by simp, List.drop_left, List.take_of_length_le (by simp; omega)]

theorem parse_fmt {a : St} (ha : a.ok) : parseO (fmtV a.n (bs a.set) (bs a.rel)) = some a := by
  have he : fmtV a.n (bs a.set) (bs a.rel) = bs (a.set ++ 58 :: a.rel) := by
    rw [fmt_yes (okB_true ha), append_bs, append_bs]
    simp [bs_data]
  have hd : (fmtV a.n (bs a.set) (bs a.rel)).data.toList = a.set ++ 58 :: a.rel := by rw [he, bs_data]
  have hf : findB 58 (fmtV a.n (bs a.set) (bs a.rel)).data.toList = a.set.length := by
    rw [hd]
    refine findB_at (by simp) (fun i hi => ?_)
    rw [List.getElem?_append_left hi, List.getElem?_eq_getElem hi]
    intro e
    exact bit_ne58 (ha.sb _ (List.getElem_mem hi)) (Option.some.inj e)
  obtain ⟨h1, h2⟩ := cut_ext hd
  unfold parseO
  rw [hf, if_neg (by omega), Int.toNat_natCast, h1, h2, ha.sl, if_pos (okB_true ha), ofSt_eq]

theorem fmt_parse {s : ByteArray} {a : St} (h : parseO s = some a) : a.ok ∧ fmtV a.n (bs a.set) (bs a.rel) = s := by
  rcases parse_cases s with ⟨_, h1⟩ | ⟨k, hk, hlt, ⟨_, h1⟩ | ⟨b, hb, hok, hn, h1, h2, h3⟩⟩
  · rw [h1] at h; cases h
  · rw [h1] at h; cases h
  · rw [h3] at h
    obtain rfl := Option.some.inj h
    refine ⟨hb, ?_⟩
    rw [fmt_yes (okB_true hb), ← h1, ← h2]
    have hkl : k < s.data.toList.length := by rw [← Lib.size_eq]; exact hlt
    have hc : s.data.toList[k] = 58 := by
      have hk2 := hk
      unfold findB at hk2
      cases hf : s.data.toList.findIdx? (· == 58) with
      | none => rw [hf] at hk2; simp at hk2
      | some j =>
        rw [hf] at hk2
        obtain ⟨h4, h5, _⟩ := List.findIdx?_eq_some_iff_getElem.1 hf
        have h9 : (j : Int) = (k : Int) := by simpa using hk2
        have hjk : j = k := by omega
        subst hjk
        simpa using h5
    have key : s.extract 0 k ++ ⟨#[58]⟩ ++ s.extract (k + 1) s.size = bs s.data.toList := by
      rw [append_bs, append_bs]
      congr 1
      rw [bs_data, Lib.extract_data, Lib.extract_data]
      have hsz : s.size = s.data.toList.length := Lib.size_eq s
      rw [hsz]
      have := List.take_append_drop (k + 1) s.data.toList
      rw [List.take_succ_eq_append_getElem hkl, hc] at this
      have e : List.take (s.data.toList.length - (k + 1)) (List.drop (k + 1) s.data.toList) = List.drop (k + 1) s.data.toList := List.take_of_length_le (by simp)
      rw [e]
      simpa using this
    rw [key, bs_of]

theorem fmt_empty {i : Int} {s r : ByteArray} : fmtV i s r = bs [] ↔ okB i s r = false := by
  constructor
  · intro e
    cases h : okB i s r with
    | false => rfl
    | true =>
      rw [fmt_yes h] at e
      have e2 := congrArg ByteArray.size e
      rw [ByteArray.size_append, ByteArray.size_append] at e2
      have h3 : (bs []).size = 0 := rfl
      have h4 : (ByteArray.mk #[58]).size = 1 := rfl
      omega
  · exact fmt_no

end Go.Proofs.YtpaoffjicgmleaaDoor
