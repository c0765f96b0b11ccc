/-
  JoinFormulas, the program's and the reference's. Condition: at most 2^20 texts, below the reach.
-/
import Derived.Test.YtjmfldakfokoaaaJoin
import Derived.Test.YtjmfldakfokoaaaNot
namespace Go.Proofs.Ytjmfldakfokoaaa
open Go.RowKit
open Pl
set_option linter.unusedSimpArgs false

open Classical in
/-- formulas joined by an operator, and whether there is such a text -/
noncomputable def joinV (op : ByteArray) (zs : List ByteArray) : ByteArray × Bool :=
  if (op = ⟨#[38]⟩ ∨ op = ⟨#[124]⟩) ∧ (∀ z ∈ zs, IsFm z.data.toList) ∧ (joinL (op.data.toList.headD 0) zs).length ≤ 4000 then (bs (joinL (op.data.toList.headD 0) zs), true) else (bs [], false)

theorem joinV_no {op : ByteArray} {zs : List ByteArray} (h : ¬ ((op = ⟨#[38]⟩ ∨ op = ⟨#[124]⟩) ∧ (∀ z ∈ zs, IsFm z.data.toList) ∧ (joinL (op.data.toList.headD 0) zs).length ≤ 4000)) : joinV op zs = (bs [], false) := if_neg h
theorem joinV_yes {op : ByteArray} {zs : List ByteArray} (h : (op = ⟨#[38]⟩ ∨ op = ⟨#[124]⟩) ∧ (∀ z ∈ zs, IsFm z.data.toList) ∧ (joinL (op.data.toList.headD 0) zs).length ≤ 4000) : joinV op zs = (bs (joinL (op.data.toList.headD 0) zs), true) := if_pos h


set_option maxHeartbeats 1000000 in
set_option maxRecDepth 100000 in
theorem JoinFormulas_spec (op : ByteArray) (g : Nat) (zs : List ByteArray) (w : World) (hn : zs.length ≤ 1048576) (hv : SRow w (.slice (some ⟨g, 0, none⟩) zs.length zs.length) zs) :
    Calls Try.prog 15 #[.string op, .slice (some ⟨g, 0, none⟩) zs.length zs.length] w fun e w' => e = .returned (.tuple #[.string (joinV op zs).1, .bool (joinV op zs).2]) ∧ Below w.heap.size w w' := by
  by_cases hc : ∃ c, op.data.toList = [c] ∧ ((c = 38 ∧ op = ⟨#[38]⟩) ∨ (c = 124 ∧ op = ⟨#[124]⟩))
  · obtain ⟨c, hop, hc⟩ := hc
    have hhd : op.data.toList.headD 0 = c := by rw [hop]; rfl
    have hor : op = ⟨#[38]⟩ ∨ op = ⟨#[124]⟩ := by rcases hc with ⟨_, h⟩ | ⟨_, h⟩ <;> simp [h]
    obtain ⟨J, hJ⟩ : ∃ J, joinL (op.data.toList.headD 0) zs = J := ⟨_, rfl⟩
    have hjoin : (∀ z ∈ zs, IsFm z.data.toList) → ∀ W, Below w.heap.size w W → Calls Try.prog 38 #[.string op, .slice (some ⟨g, 0, none⟩) zs.length zs.length] W fun e w' => e = .returned (.string (bs J)) ∧ Below W.heap.size W w' := fun ha W hW =>
      have hs4 : ∀ z ∈ zs, z.size ≤ 4000 := fun z hz => by rw [Lib.size_eq]; exact (ha z hz).1
      by rw [← hJ, hhd]; exact l2Join_calls op c g zs W hop hc hn hs4 (hv.lt W hW)
    have hv2 := hv
    rcases hv2 with ⟨h, _⟩ | ⟨a, cap, e1, _, _, hcell, hsz⟩
    · simp at h
    simp only [Value.slice.injEq, Option.some.injEq] at e1
    obtain ⟨rfl, e2, e3⟩ := e1
    clear e2 e3
    simp only [add_zero_at] at hcell
    have Hcell := Lib.hid hcell
    have Hsz := Lib.hid hsz
    have Hjoin0 := Lib.hid hjoin
    obtain ⟨V, hV⟩ : ∃ V, V = joinV op zs := ⟨_, rfl⟩
    rw [← hV]
    have HV := Lib.hid hV
    have Hor := Lib.hid hor
    have HJ := Lib.hid hJ
    clear hcell hsz hjoin hV hor hhd hop hv hJ
    rcases hc with ⟨rfl, rfl⟩ | ⟨rfl, rfl⟩
    all_goals
      go_enter Try.func15, Try.ntmps15
      go_wp2_with fail
      go_loopg [6] zs.length (fun c i wr => ∃ k : Nat, k + c = zs.length ∧ i = .int .i64 k ∧ (∀ j, j < k → IsFm (zs.getD j ByteArray.empty).data.toList) ∧ Below w.heap.size w wr)
      case atStart => exact ⟨0, by omega, rfl, fun j hj => absurd hj (Nat.not_lt_zero _), Below.refl _ _⟩
      case round =>
        obtain ⟨k, hk, rfl, hall, hbr⟩ := hrel
        have Hall := Lib.hid hall
        have Hbr := Lib.hid hbr
        clear hall hbr
        by_cases hlt : k < zs.length
        · have hcl := (Hbr.out.cell (World.block_lt_of_cell? w _ (Hcell.out k hlt))).trans (Hcell.out k hlt)
          have hg : zs.getD k ByteArray.empty = zs[k] := by simp [List.getD, hlt]
          have hmem : zs[k] ∈ zs := List.getElem_mem _
          have hy : (zs.getD k ByteArray.empty).size ≤ maxLen := by rw [hg]; exact Hsz.out _ hmem
          have hkk : ∀ P : ByteArray → Prop, (∀ z ∈ zs, P z) → P (zs.getD k ByteArray.empty) := fun P h => by rw [hg]; exact h _ hmem
          clear hg hmem
          obtain ⟨y, hyz⟩ : ∃ y, y = zs.getD k ByteArray.empty := ⟨_, rfl⟩
          rw [← hyz] at hcl hy hkk
          have Hyz := Lib.hid hyz
          have Hy := Lib.hid hy
          have Hkk := Lib.hid hkk
          clear hyz hy hkk
          rcases fm_cases y with ⟨hb, hno⟩ | ⟨f, hb, hf, hs4, hl4⟩
          · have Hb := Lib.hid hb
            have Hno := Lib.hid hno
            clear hb hno
            go_wp2_with (go_at_call 25; refine (FormulaValid_spec y _ Hy.out).mono ?_; rintro e w' ⟨rfl, rfl⟩; rw [Hb.out])
            go_ret2
            exact ⟨by rw [HV.out, joinV_no (fun h => Hno.out (Hkk.out (fun z => IsFm z.data.toList) h.2.1))]; rfl, Hbr.out⟩
          · have Hb := Lib.hid hb
            have Hf := Lib.hid hf
            have Hs4 := Lib.hid hs4
            have Hl4 := Lib.hid hl4
            clear hb hf hs4 hl4
            go_wp2_with (go_at_call 25; refine (FormulaValid_spec y _ Hy.out).mono ?_; rintro e w' ⟨rfl, rfl⟩; rw [Hb.out])
            go_roundg (gk - 1)
            case rel =>
              refine ⟨k + 1, by omega, by go_num, fun j hj => ?_, Hbr.out⟩
              by_cases hjk : j = k
              · subst hjk; rw [← Hyz.out]; exact ⟨by rw [← Lib.size_eq]; exact Hs4.out, f, Hf.out⟩
              · exact Hall.out j (by omega)
            case measure => omega
        · obtain rfl : k = zs.length := by omega
          have hall2 : ∀ z ∈ zs, IsFm z.data.toList := fun z hz => by
            obtain ⟨j, hj, rfl⟩ := List.getElem_of_mem hz
            have := Hall.out j hj
            simpa [List.getD, hj] using this
          have hjoin := Hjoin0.out hall2
          have Hjoin := Lib.hid hjoin
          have Hall2 := Lib.hid hall2
          clear hjoin hall2
          by_cases hlen : J.length ≤ 4000
          · have hz4 := hlen
            rw [← bs_size] at hz4
            have Hlen := Lib.hid hlen
            clear hlen
            go_wp2_with (first | (go_at_call 38; refine (Hjoin.out _ Hbr.out).mono ?_; rintro e w2 ⟨rfl, hb2⟩))
            go_ret2
            exact ⟨by rw [HV.out, joinV_yes ⟨by first | exact .inl rfl | exact .inr rfl, Hall2.out, by rw [HJ.out]; exact Hlen.out⟩, HJ.out]; rfl, (Hbr.out.trans (hb2.mono Hbr.out.size))⟩
          · have hz4 : 4000 < (bs J).size := by rw [bs_size]; exact Nat.lt_of_not_le hlen
            have Hlen := Lib.hid hlen
            clear hlen
            go_wp2_with (first | (go_at_call 38; refine (Hjoin.out _ Hbr.out).mono ?_; rintro e w2 ⟨rfl, hb2⟩))
            go_ret2
            exact ⟨by rw [HV.out, joinV_no (fun h => Hlen.out (by have := h.2.2; rw [HJ.out] at this; exact this))]; rfl, (Hbr.out.trans (hb2.mono Hbr.out.size))⟩
  · have h1 : ¬ op = ⟨#[38]⟩ := by rintro rfl; exact hc ⟨38, rfl, .inl ⟨rfl, rfl⟩⟩
    have h2 : ¬ op = ⟨#[124]⟩ := by rintro rfl; exact hc ⟨124, rfl, .inr ⟨rfl, rfl⟩⟩
    have hV : joinV op zs = (bs [], false) := joinV_no (by rintro ⟨rfl | rfl, _⟩; exact hc ⟨38, rfl, .inl ⟨rfl, rfl⟩⟩; exact hc ⟨124, rfl, .inr ⟨rfl, rfl⟩⟩)
    rw [hV]
    have g1 : ¬ op.toList = [38] := by rw [ByteArray.toList_eq]; intro e; exact h1 (by rw [← bs_of op, e]; rfl)
    have g2 : ¬ op.toList = [124] := by rw [ByteArray.toList_eq]; intro e; exact h2 (by rw [← bs_of op, e]; rfl)
    have b1 : (op.toList == [38]) = false := beq_eq_false_iff_ne.2 g1
    have b2 : (op.toList == [124]) = false := beq_eq_false_iff_ne.2 g2
    clear hV hc hv h1 h2
    go_enter Try.func15, Try.ntmps15
    go_wp2_with fail
    go_ret2
    exact ⟨rfl, Below.refl _ _⟩

set_option maxHeartbeats 1000000 in
set_option maxRecDepth 100000 in
theorem JoinFormulas_impl (op : ByteArray) (g : Nat) (zs : List ByteArray) (w : World) (hn : zs.length ≤ 1048576) (hv : SRow w (.slice (some ⟨g, 0, none⟩) zs.length zs.length) zs) :
    Calls Try.prog 17 #[.string op, .slice (some ⟨g, 0, none⟩) zs.length zs.length] w fun e w' => e = .returned (.tuple #[.string (joinV op zs).1, .bool (joinV op zs).2]) ∧ Below w.heap.size w w' := by
  by_cases hc : ∃ c, op.data.toList = [c] ∧ ((c = 38 ∧ op = ⟨#[38]⟩) ∨ (c = 124 ∧ op = ⟨#[124]⟩))
  · obtain ⟨c, hop, hc⟩ := hc
    have hhd : op.data.toList.headD 0 = c := by rw [hop]; rfl
    have hor : op = ⟨#[38]⟩ ∨ op = ⟨#[124]⟩ := by rcases hc with ⟨_, h⟩ | ⟨_, h⟩ <;> simp [h]
    obtain ⟨J, hJ⟩ : ∃ J, joinL (op.data.toList.headD 0) zs = J := ⟨_, rfl⟩
    have hjoin : (∀ z ∈ zs, IsFm z.data.toList) → ∀ W, Below w.heap.size w W → Calls Try.prog 40 #[.string op, .slice (some ⟨g, 0, none⟩) zs.length zs.length] W fun e w' => e = .returned (.string (bs J)) ∧ Below W.heap.size W w' := fun ha W hW =>
      have hs4 : ∀ z ∈ zs, z.size ≤ 4000 := fun z hz => by rw [Lib.size_eq]; exact (ha z hz).1
      by rw [← hJ, hhd]; exact ((joined_calls op c g zs W hop hc hn hs4 (hv.lt W hW)).mono (by rintro e w' ⟨rfl, rfl⟩; exact ⟨rfl, Below.refl _ _⟩))
    have hv2 := hv
    rcases hv2 with ⟨h, _⟩ | ⟨a, cap, e1, _, _, hcell, hsz⟩
    · simp at h
    simp only [Value.slice.injEq, Option.some.injEq] at e1
    obtain ⟨rfl, e2, e3⟩ := e1
    clear e2 e3
    simp only [add_zero_at] at hcell
    have Hcell := Lib.hid hcell
    have Hsz := Lib.hid hsz
    have Hjoin0 := Lib.hid hjoin
    obtain ⟨V, hV⟩ : ∃ V, V = joinV op zs := ⟨_, rfl⟩
    rw [← hV]
    have HV := Lib.hid hV
    have Hor := Lib.hid hor
    have HJ := Lib.hid hJ
    clear hcell hsz hjoin hV hor hhd hop hv hJ
    rcases hc with ⟨rfl, rfl⟩ | ⟨rfl, rfl⟩
    all_goals
      go_enter Try.func17, Try.ntmps17
      go_wp2_with fail
      go_loopg [16] zs.length (fun c i wr => ∃ k : Nat, k + c = zs.length ∧ i = .int .i64 k ∧ (∀ j, j < k → IsFm (zs.getD j ByteArray.empty).data.toList) ∧ Below w.heap.size w wr)
      case atStart => exact ⟨0, by omega, rfl, fun j hj => absurd hj (Nat.not_lt_zero _), Below.refl _ _⟩
      case round =>
        obtain ⟨k, hk, rfl, hall, hbr⟩ := hrel
        have Hall := Lib.hid hall
        have Hbr := Lib.hid hbr
        clear hall hbr
        by_cases hlt : k < zs.length
        · have hcl := (Hbr.out.cell (World.block_lt_of_cell? w _ (Hcell.out k hlt))).trans (Hcell.out k hlt)
          have hg : zs.getD k ByteArray.empty = zs[k] := by simp [List.getD, hlt]
          have hmem : zs[k] ∈ zs := List.getElem_mem _
          have hy : (zs.getD k ByteArray.empty).size ≤ maxLen := by rw [hg]; exact Hsz.out _ hmem
          have hkk : ∀ P : ByteArray → Prop, (∀ z ∈ zs, P z) → P (zs.getD k ByteArray.empty) := fun P h => by rw [hg]; exact h _ hmem
          clear hg hmem
          obtain ⟨y, hyz⟩ : ∃ y, y = zs.getD k ByteArray.empty := ⟨_, rfl⟩
          rw [← hyz] at hcl hy hkk
          have Hyz := Lib.hid hyz
          have Hy := Lib.hid hy
          have Hkk := Lib.hid hkk
          clear hyz hy hkk
          rcases fm_cases y with ⟨hb, hno⟩ | ⟨f, hb, hf, hs4, hl4⟩
          · have Hb := Lib.hid hb
            have Hno := Lib.hid hno
            clear hb hno
            go_wp2_with (go_at_call 34; refine (parseFormula_no y _ Hno.out).mono ?_; rintro e w2 ⟨rfl, hb2⟩)
            go_ret2
            exact ⟨by rw [HV.out, joinV_no (fun h => Hno.out (Hkk.out (fun z => IsFm z.data.toList) h.2.1))]; rfl, (Hbr.out.trans (hb2.mono Hbr.out.size))⟩
          · have Hb := Lib.hid hb
            have Hf := Lib.hid hf
            have Hs4 := Lib.hid hs4
            have Hl4 := Lib.hid hl4
            clear hb hf hs4 hl4
            go_wp2_with (go_at_call 34; refine (parseFormula_yes y f _ Hs4.out Hf.out).mono ?_; rintro e w2 ⟨b, rfl, htr, hb2⟩; clear htr)
            go_roundg (gk - 1)
            case rel =>
              refine ⟨k + 1, by omega, by go_num, fun j hj => ?_, (Hbr.out.trans (hb2.mono Hbr.out.size))⟩
              by_cases hjk : j = k
              · subst hjk; rw [← Hyz.out]; exact ⟨by rw [← Lib.size_eq]; exact Hs4.out, f, Hf.out⟩
              · exact Hall.out j (by omega)
            case measure => omega
        · obtain rfl : k = zs.length := by omega
          have hall2 : ∀ z ∈ zs, IsFm z.data.toList := fun z hz => by
            obtain ⟨j, hj, rfl⟩ := List.getElem_of_mem hz
            have := Hall.out j hj
            simpa [List.getD, hj] using this
          have hjoin := Hjoin0.out hall2
          have Hjoin := Lib.hid hjoin
          have Hall2 := Lib.hid hall2
          clear hjoin hall2
          by_cases hlen : J.length ≤ 4000
          · have hz4 := hlen
            rw [← bs_size] at hz4
            have Hlen := Lib.hid hlen
            clear hlen
            go_wp2_with (first | (go_at_call 40; refine (Hjoin.out _ Hbr.out).mono ?_; rintro e w2 ⟨rfl, hb2⟩) | (go_at_call 39; refine (shortFormula_yes _ _ hz4).mono ?_; rintro e w3 ⟨rfl, rfl⟩))
            go_ret2
            exact ⟨by rw [HV.out, joinV_yes ⟨by first | exact .inl rfl | exact .inr rfl, Hall2.out, by rw [HJ.out]; exact Hlen.out⟩, HJ.out]; rfl, (Hbr.out.trans (hb2.mono Hbr.out.size))⟩
          · have hz4 : 4000 < (bs J).size := by rw [bs_size]; exact Nat.lt_of_not_le hlen
            have Hlen := Lib.hid hlen
            clear hlen
            go_wp2_with (first | (go_at_call 40; refine (Hjoin.out _ Hbr.out).mono ?_; rintro e w2 ⟨rfl, hb2⟩) | (go_at_call 39; refine (shortFormula_no _ _ _ (fun _ => hz4)).mono ?_; rintro e w3 ⟨rfl, rfl⟩))
            go_ret2
            exact ⟨by rw [HV.out, joinV_no (fun h => Hlen.out (by have := h.2.2; rw [HJ.out] at this; exact this))]; rfl, (Hbr.out.trans (hb2.mono Hbr.out.size))⟩
  · have h1 : ¬ op = ⟨#[38]⟩ := by rintro rfl; exact hc ⟨38, rfl, .inl ⟨rfl, rfl⟩⟩
    have h2 : ¬ op = ⟨#[124]⟩ := by rintro rfl; exact hc ⟨124, rfl, .inr ⟨rfl, rfl⟩⟩
    have hV : joinV op zs = (bs [], false) := joinV_no (by rintro ⟨rfl | rfl, _⟩; exact hc ⟨38, rfl, .inl ⟨rfl, rfl⟩⟩; exact hc ⟨124, rfl, .inr ⟨rfl, rfl⟩⟩)
    rw [hV]
    have g1 : ¬ op.toList = [38] := by rw [ByteArray.toList_eq]; intro e; exact h1 (by rw [← bs_of op, e]; rfl)
    have g2 : ¬ op.toList = [124] := by rw [ByteArray.toList_eq]; intro e; exact h2 (by rw [← bs_of op, e]; rfl)
    have b1 : (op.toList == [38]) = false := beq_eq_false_iff_ne.2 g1
    have b2 : (op.toList == [124]) = false := beq_eq_false_iff_ne.2 g2
    clear hV hc hv h1 h2
    go_enter Try.func17, Try.ntmps17
    go_wp2_with fail
    go_ret2
    exact ⟨rfl, Below.refl _ _⟩

end Go.Proofs.Ytjmfldakfokoaaa
