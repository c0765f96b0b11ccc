/-
  Formulas joined: the program's joined and the reference's l2Join. Condition: each text has at most 4000 bytes, there are at most 2^20 of them.
-/
import Derived.Test.YtjmfldakfokoaaaStrs
import Derived.Test.YtjmfldakfokoaaaSpecPush
namespace Go.Proofs.Ytjmfldakfokoaaa
open Go.RowKit
open Pl
set_option linter.unusedSimpArgs false

/-- the texts up to one, each behind the operator -/
def preL (c : UInt8) (zs : List ByteArray) (k : Nat) : List UInt8 := ((zs.take k).map fun z => c :: z.data.toList).flatten

theorem preL_zero (c : UInt8) (zs : List ByteArray) : preL c zs 0 = [] := by simp [preL]

theorem preL_succ (c : UInt8) {zs : List ByteArray} {k : Nat} (h : k < zs.length) : preL c zs (k + 1) = preL c zs k ++ c :: (zs.getD k ByteArray.empty).data.toList := by
  unfold preL
  have hg : zs.getD k ByteArray.empty = zs[k] := by simp [List.getD, h]
  rw [List.take_succ_eq_append_getElem h, List.map_append, List.flatten_append, hg]
  simp only [List.map_cons, List.map_nil, List.flatten_cons, List.flatten_nil, List.append_nil]

theorem preL_len (c : UInt8) (zs : List ByteArray) (hs : ∀ z ∈ zs, z.size ≤ 4000) (k : Nat) (hk : k ≤ zs.length) : (preL c zs k).length ≤ 4001 * k := by
  induction k with
  | zero => simp [preL]
  | succ k ih =>
    rw [preL_succ c (by omega)]
    have hg : zs.getD k ByteArray.empty = zs[k] := by simp [List.getD, show k < zs.length by omega]
    have h1 := hs zs[k] (List.getElem_mem _)
    rw [Lib.size_eq] at h1
    rw [hg]
    have := ih (by omega)
    simp only [List.length_append, List.length_cons]
    omega

/-- the texts joined -/
def joinL (c : UInt8) (zs : List ByteArray) : List UInt8 :=
  if zs.length = 0 then (if c = 38 then [116] else [102]) else preL c zs (zs.length - 1) ++ (zs.getD (zs.length - 1) ByteArray.empty).data.toList

theorem joined_calls (op : ByteArray) (c : UInt8) (g : Nat) (zs : List ByteArray) (w : World) (hop : op.data.toList = [c]) (hc : (c = 38 ∧ op = ⟨#[38]⟩) ∨ (c = 124 ∧ op = ⟨#[124]⟩)) (hn : zs.length ≤ 1048576) (hs : ∀ z ∈ zs, z.size ≤ 4000)
    (hv : SRow w (.slice (some ⟨g, 0, none⟩) zs.length zs.length) zs) :
    Calls Try.prog 40 #[.string op, .slice (some ⟨g, 0, none⟩) zs.length zs.length] w fun e w' => e = .returned (.string (bs (joinL c zs))) ∧ w = w' := by
  rcases hv with ⟨h, _⟩ | ⟨a, cap, e1, _, _, hcell, _⟩
  · simp at h
  simp only [Value.slice.injEq, Option.some.injEq] at e1
  obtain ⟨rfl, _, _⟩ := e1
  simp only [add_zero_at] at hcell
  have Hcell := Lib.hid hcell
  have Hs := Lib.hid hs
  clear hcell hs
  by_cases h0 : zs.length = 0
  · have hj : joinL c zs = if c = 38 then [116] else [102] := by unfold joinL; rw [if_pos h0]
    rw [hj, h0]
    rcases hc with ⟨rfl, rfl⟩ | ⟨rfl, rfl⟩
    · clear hj
      go_enter Try.func40, Try.ntmps40
      go_wp2_with fail
      go_ret
      exact ⟨rfl, rfl⟩
    · clear hj
      go_enter Try.func40, Try.ntmps40
      go_wp2_with fail
      go_ret
      exact ⟨rfl, rfl⟩
  · have hj : joinL c zs = preL c zs (zs.length - 1) ++ (zs.getD (zs.length - 1) ByteArray.empty).data.toList := by unfold joinL; rw [if_neg h0]
    have Hj := Lib.hid hj
    have hos : op.size = 1 := by rw [Lib.size_eq, hop]; rfl
    have Hop := Lib.hid hop
    clear hj hop hc
    have hlz := Hcell.out (zs.length - 1) (by omega)
    have hlz2 : (zs.getD (zs.length - 1) ByteArray.empty).size ≤ 4000 := by
      have hg : zs.getD (zs.length - 1) ByteArray.empty = zs[zs.length - 1] := by simp [List.getD, show zs.length - 1 < zs.length by omega]
      rw [hg]; exact Hs.out _ (List.getElem_mem _)
    obtain ⟨z, hz⟩ : ∃ z, z = zs.getD (zs.length - 1) ByteArray.empty := ⟨_, rfl⟩
    rw [← hz] at hlz hlz2
    have Hz := Lib.hid hz
    clear hz
    obtain ⟨n, hnn⟩ : ∃ n, zs.length = n + 1 := ⟨zs.length - 1, by omega⟩
    have hn1 : zs.length - 1 = n := by omega
    rw [hn1] at hlz
    rw [hnn]
    have Hn := Lib.hid hnn
    have hn2 : n < 1048576 := by omega
    clear hnn hn1 hn h0
    go_enter Try.func40, Try.ntmps40
    go_wp2_with fail
    go_loop [5, 19] (fun o i => ∃ k : Nat, k ≤ n ∧ i = .int .i64 k ∧ o = .string (bs (preL c zs k))) (fun _ i => n - (intOf i).toNat)
    case atStart => exact ⟨0, by omega, rfl, by rw [preL_zero]; rfl⟩
    case round =>
      obtain ⟨k, hk, rfl, rfl⟩ := hrel
      have hpl : (bs (preL c zs k)).size ≤ 4001 * k := by rw [bs_size]; exact preL_len c zs Hs.out k (by have := Hn.out; omega)
      by_cases hlt : k < n
      · have hcl := Hcell.out k (by have := Hn.out; omega)
        have hy2 : (zs.getD k ByteArray.empty).size ≤ 4000 := by
          have hkk : k < zs.length := by have := Hn.out; omega
          have hg : zs.getD k ByteArray.empty = zs[k] := by simp [List.getD, hkk]
          rw [hg]; exact Hs.out _ (List.getElem_mem _)
        have hsu := preL_succ c (zs := zs) (k := k) (by have := Hn.out; omega)
        generalize zs.getD k ByteArray.empty = y at hcl hy2 hsu
        have Hsu := Lib.hid hsu
        clear hsu
        go_wp2_with fail
        go_round
        case rel => exact ⟨k + 1, by omega, by go_num, str_eq (eq_bs (by simp [bs_data, Hsu.out, Hop.out]))⟩
        case measure => simp [intOf]; omega
      · obtain rfl : k = n := by omega
        go_wp2_with fail
        go_ret
        refine ⟨congrArg (fun x => Ending.returned (.string x)) (eq_bs ?_), rfl⟩
        rw [Hj.out, ← Hz.out, Hn.out]
        simp [bs_data]

theorem l2Join_calls (op : ByteArray) (c : UInt8) (g : Nat) (zs : List ByteArray) (w : World) (hop : op.data.toList = [c]) (hc : (c = 38 ∧ op = ⟨#[38]⟩) ∨ (c = 124 ∧ op = ⟨#[124]⟩)) (hn : zs.length ≤ 1048576) (hs : ∀ z ∈ zs, z.size ≤ 4000)
    (hv : SRow w (.slice (some ⟨g, 0, none⟩) zs.length zs.length) zs) :
    Calls Try.prog 38 #[.string op, .slice (some ⟨g, 0, none⟩) zs.length zs.length] w fun e w' => e = .returned (.string (bs (joinL c zs))) ∧ Below w.heap.size w w' := by
  rcases hv with ⟨h, _⟩ | ⟨a, cap, e1, _, _, hcell, _⟩
  · simp at h
  simp only [Value.slice.injEq, Option.some.injEq] at e1
  obtain ⟨rfl, _, _⟩ := e1
  simp only [add_zero_at] at hcell
  have Hcell := Lib.hid hcell
  have Hs := Lib.hid hs
  clear hcell hs
  by_cases h0 : zs.length = 0
  · have hj : joinL c zs = if c = 38 then [116] else [102] := by unfold joinL; rw [if_pos h0]
    rw [hj, h0]
    have hf1 : ∀ w, Calls Try.prog 50 #[.string ⟨#[38, 124]⟩, .int .u8 38] w fun e w' => e = .returned (.int .i64 0) ∧ w' = w := fun w => (l15Find_calls ⟨#[38, 124]⟩ 38 w (by decide)).mono (by rintro e w' ⟨rfl, rfl⟩; exact ⟨rfl, rfl⟩)
    have hf2 : ∀ w, Calls Try.prog 50 #[.string ⟨#[38, 124]⟩, .int .u8 124] w fun e w' => e = .returned (.int .i64 1) ∧ w' = w := fun w => (l15Find_calls ⟨#[38, 124]⟩ 124 w (by decide)).mono (by rintro e w' ⟨rfl, rfl⟩; exact ⟨rfl, rfl⟩)
    have Hf1 := Lib.hid hf1
    have Hf2 := Lib.hid hf2
    clear hf1 hf2
    rcases hc with ⟨rfl, rfl⟩ | ⟨rfl, rfl⟩
    · clear hj
      go_enter Try.func38, Try.ntmps38
      go_upto_region 2 with (fail)
      go_quiet ((go_at_call 50; exact Calls.quiet_of_same (Hf1.out _)))
      go_wp2_with fail
      go_ret
      exact ⟨rfl, below_drewN (Below.refl _ _) _⟩
    · clear hj
      go_enter Try.func38, Try.ntmps38
      go_upto_region 2 with (fail)
      go_quiet ((go_at_call 50; exact Calls.quiet_of_same (Hf2.out _)))
      go_wp2_with fail
      go_ret
      exact ⟨rfl, below_drewN (Below.refl _ _) _⟩
  · have hj : joinL c zs = preL c zs (zs.length - 1) ++ (zs.getD (zs.length - 1) ByteArray.empty).data.toList := by unfold joinL; rw [if_neg h0]
    have Hj := Lib.hid hj
    have hos : op.size = 1 := by rw [Lib.size_eq, hop]; rfl
    have Hop := Lib.hid hop
    clear hj hop hc
    obtain ⟨J, hJ⟩ : ∃ J, J = joinL c zs := ⟨_, rfl⟩
    rw [← hJ]
    have HJ := Lib.hid hJ
    clear hJ
    go_enter Try.func38, Try.ntmps38
    go_wp2_with fail
    go_loop [5, 6] (fun o i => ∃ k : Nat, k ≤ zs.length ∧ i = .int .i64 k ∧ ((k < zs.length ∧ o = .string (bs (preL c zs k))) ∨ (k = zs.length ∧ o = .string (bs J)))) (fun _ i => zs.length - (intOf i).toNat)
    case atStart => exact ⟨0, by omega, rfl, .inl ⟨by omega, by rw [preL_zero]; rfl⟩⟩
    case round =>
      obtain ⟨k, hk, rfl, ⟨hlt, rfl⟩ | ⟨rfl, rfl⟩⟩ := hrel
      · have hpl : (bs (preL c zs k)).size ≤ 4001 * k := by rw [bs_size]; exact preL_len c zs Hs.out k (by omega)
        have hcl := Hcell.out k hlt
        have hy2 : (zs.getD k ByteArray.empty).size ≤ 4000 := by
          have hg : zs.getD k ByteArray.empty = zs[k] := by simp [List.getD, hlt]
          rw [hg]; exact Hs.out _ (List.getElem_mem _)
        have hsu := preL_succ c (zs := zs) (k := k) hlt
        by_cases hk1 : k + 1 < zs.length
        · generalize zs.getD k ByteArray.empty = y at hcl hy2 hsu
          have Hsu := Lib.hid hsu
          clear hsu
          go_wp2_with fail
          go_round
          case rel => exact ⟨k + 1, by omega, by go_num, .inl ⟨hk1, str_eq (eq_bs (by simp [bs_data, Hsu.out, Hop.out]))⟩⟩
          case measure => simp [intOf]; omega
        · have hkz : zs.length - 1 = k := by omega
          have hJ2 : J = preL c zs k ++ (zs.getD k ByteArray.empty).data.toList := by rw [HJ.out, Hj.out, hkz]
          clear hsu
          generalize zs.getD k ByteArray.empty = y at hcl hy2 hJ2
          have HJ2 := Lib.hid hJ2
          clear hJ2
          go_wp2_with fail
          go_round
          case rel => exact ⟨k + 1, by omega, by go_num, .inr ⟨by omega, str_eq (eq_bs (by simp [bs_data, HJ2.out]))⟩⟩
          case measure => simp [intOf]; omega
      · go_wp2_with fail
        go_ret
        exact ⟨rfl, Below.refl _ _⟩

end Go.Proofs.Ytjmfldakfokoaaa
