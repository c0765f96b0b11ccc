/-
  Proved here: FnSpellCounts returns true for all bytes.
  The frame of this text follows the kit's proof-skeleton; it was written by a program of the prover's (mkframe.py).
-/
import Derived.Test.YtpaleogkgfclnaaDoorFacts
import Derived.Test.YtpaleogkgfclnaaDoorTie
import Derived.Test.YtpaleogkgfclnaaDoorCards
import Derived.SevenTiedAt
import Derived.Lay
import Derived.LaidOnce
import Derived.Test.YtpaleogkgfclnaaDoorRows
import Derived.Test.YtpaleogkgfclnaaDoorPs9
import Derived.WalkKit
import Derived.ProofKit
import Derived.OpenShut
import Derived.ShutString
import Derived.ChangeOld
import Derived.Below
namespace Go.Proofs.YtpaleogkgfclnaaDoor.fnSpellCounts
open Go.ChangeShapes Go.WideShapes Go.ChangeAt Go.RowKit
open Go.ChangeMaps (open_string shut_string)
set_option linter.unusedVariables false

open Facts (own laidOut and_mk)

set_option maxRecDepth 100000 in
theorem lifted (os : Os) (started : os.Started) (H : Type) (enc : TypeId × Value → H) :
    ReturnsInHanded {} Tryd.checked os 3 .any (fun w args => (Rows.fnSpellCountsSpec.pre enc Tryd.prog Tryd.f3 [] false w args ∧ laidMetH Tryd.prog Rows.fnSpellCountsRow.laid w) ∧ sizedMet enc Tryd.prog Tryd.f3 (OpenSpec.ofChange Rows.fnSpellCountsSpec) false w args)
      (Rows.fnSpellCountsSpec.post enc Tryd.prog Tryd.f3 false true false false) := by
  refine returnsInHanded_of_change_and (C := Tryd.checked) (X := fun w _ => laidMetH Tryd.prog Rows.fnSpellCountsRow.laid w) (fun _ _ _ hh h => h.of_heap hh) own started (by kernel_rfl) Tryd.func3
    (ChangeSpec.witness_shaped (enc := enc) (C := Tryd.checked) (os := os) (X := fun w _ => laidMetH Tryd.prog Rows.fnSpellCountsRow.laid w) false (World.laidAll Tryd.prog os Rows.fnSpellCountsRow.laid) #[.slice none 0 0, .slice none 0 0] 8 (World.laidAll_os _ _ _)
      (World.shaped_of_ZipB (by kernel_rfl) (by kernel_rfl)) (by kernel_rfl) (by kernel_rfl) (by kernel_rfl)
      (by rw [MakeChecks.laidMetH_plain _ _ _ (by kernel_rfl)]; exact laidMet_laidAll _ (by kernel_rfl) (by kernel_rfl))) ?_
  intro W base args ds gs before hval0 hW _ _ hL _
  have hval : ∀ (j : Nat) t v, Tryd.f3.params[j]? = some t → args[j]? = some v → Value.okWide Tryd.prog W .any base t v := hval0
  have hW' := hW
  obtain ⟨p, q, hA0, hV, rfl, hfz, hnd⟩ := hW
  have hA : DataW.TrodAll enc Tryd.prog W 0 (fun _ => true) true Tryd.f3.params.toList args.toList ds p := hA0
  rw [Tryd.params3] at hA hval
  obtain ⟨v0, vs0, d0, ds0, p0, q0, hargs, rfl, rfl, h0, r0⟩ := trodAll_cons hA
  obtain ⟨v1, vs1, d1, ds1, p1, q1, rfl, rfl, rfl, h1, r1⟩ := trodAll_cons r0
  obtain ⟨rfl, rfl, rfl⟩ := trodAll_nil r1
  obtain rfl : args = #[v0, v1] := by cases args; simp_all
  obtain ⟨rfl, rfl⟩ := trodVars_none hV
  have k0 := h0
  have lt0 : ∀ x ∈ p0, x.block < W.heap.size := by obtain ⟨m, hm⟩ := k0; exact DataW.trod_lt m _ _ _ hm
  obtain ⟨a0, len0, cap0, rfl⟩ := okWide_slice Tryd.underlying22 (hval 0 22 v0 rfl rfl)
  obtain ⟨w0, x0, y0⟩ : ByRow W a0 len0 ∧ len0 ≤ cap0 ∧ cap0 ≤ maxLen := by
    obtain ⟨fuel, hf⟩ := h0
    rcases open_ints Tryd.underlying22 Tryd.underlying5 (by kernel_rfl) hf with ⟨hcs, _⟩ | ⟨x, l, c, zs, hcs, _, hl, hm, hz, _, hcell, hwz⟩
    · simp [Value.cells] at hcs
      obtain ⟨rfl, rfl, rfl⟩ := hcs
      exact ⟨fun h => absurd h (Nat.lt_irrefl _), Nat.le_refl _, Nat.zero_le _⟩
    · simp [Value.cells] at hcs
      obtain ⟨rfl, rfl, rfl⟩ := hcs
      have hll : zs.length = cap0 := by simpa using hz
      refine ⟨fun _ => ⟨_, rfl, fun i hi => ?_⟩, hl, hm⟩
      obtain ⟨b, hb, he⟩ := byte_of (hwz _ (getD_mem (show i < zs.length by omega)))
      exact ⟨b, hb, by rw [hcell i (by omega), he]⟩
  have k1 := h1
  have lt1 : ∀ x ∈ p1, x.block < W.heap.size := by obtain ⟨m, hm⟩ := k1; exact DataW.trod_lt m _ _ _ hm
  obtain ⟨a1, len1, cap1, rfl⟩ := okWide_slice Tryd.underlying22 (hval 1 22 v1 rfl rfl)
  obtain ⟨w1, x1, y1⟩ : ByRow W a1 len1 ∧ len1 ≤ cap1 ∧ cap1 ≤ maxLen := by
    obtain ⟨fuel, hf⟩ := h1
    rcases open_ints Tryd.underlying22 Tryd.underlying5 (by kernel_rfl) hf with ⟨hcs, _⟩ | ⟨x, l, c, zs, hcs, _, hl, hm, hz, _, hcell, hwz⟩
    · simp [Value.cells] at hcs
      obtain ⟨rfl, rfl, rfl⟩ := hcs
      exact ⟨fun h => absurd h (Nat.lt_irrefl _), Nat.le_refl _, Nat.zero_le _⟩
    · simp [Value.cells] at hcs
      obtain ⟨rfl, rfl, rfl⟩ := hcs
      have hll : zs.length = cap1 := by simpa using hz
      refine ⟨fun _ => ⟨_, rfl, fun i hi => ?_⟩, hl, hm⟩
      obtain ⟨b, hb, he⟩ := byte_of (hwz _ (getD_mem (show i < zs.length by omega)))
      exact ⟨b, hb, by rw [hcell i (by omega), he]⟩
  clear hA0 hval0
  refine (FnSpellCounts_walk a0 len0 cap0 a1 len1 cap1 W w0 x0 y0 w1 x1 y1).mono fun e W' ⟨he, bel⟩ => ?_
  subst he
  exact ⟨_, rfl, _, _, _, [], _, [], hW', trodAll_mk1 (shut_bool Tryd.underlying4 _), (trodAll_cons_mk (Below.trod laidOut (by kernel_rfl) (of_decide_eq_true (by kernel_rfl)) k0 bel lt0) (trodAll_cons_mk (Below.trod laidOut (by kernel_rfl) (of_decide_eq_true (by kernel_rfl)) k1 bel lt1) trodAll_mk0)), rfl, bel.frame _, fun h => by cases h⟩

set_option maxRecDepth 100000 in
theorem closed : joinedFacts Tryd.prog 3 Tryd.f3 Rows.fnSpellCountsSpec Rows.fnSpellCountsRow = true := by
  unfold joinedFacts
  repeat' (with_reducible refine and_mk ?_ ?_)
  · (as_aux_lemma => kernel_rfl)
  · exact laidOut
  · exact Facts.rowed
  · (as_aux_lemma => kernel_rfl)
  · (as_aux_lemma => kernel_rfl)
  · (as_aux_lemma => kernel_rfl)
  · (rw [Facts.stops]; as_aux_lemma => kernel_rfl)
  · (as_aux_lemma => kernel_rfl)
  · (rw [Facts.stopKnobs]; as_aux_lemma => kernel_rfl)
  · (as_aux_lemma => kernel_rfl)
  · (as_aux_lemma => kernel_rfl)
  · (as_aux_lemma => kernel_rfl)
  · (as_aux_lemma => kernel_rfl)
  · (as_aux_lemma => kernel_rfl)
  · (as_aux_lemma => kernel_rfl)
  · (as_aux_lemma => kernel_rfl)
  · (as_aux_lemma => kernel_rfl)
  · (as_aux_lemma => kernel_rfl)
  · (as_aux_lemma => kernel_rfl)
  · (as_aux_lemma => kernel_rfl)
  · (as_aux_lemma => kernel_rfl)
  · (as_aux_lemma => kernel_rfl)
  · (rw [Facts.plainKeys]; as_aux_lemma => kernel_rfl)
  · (as_aux_lemma => kernel_rfl)
  · exact Facts.stopsHeard
  · exact Facts.mayEnter
  · (rw [Facts.lifts]; as_aux_lemma => kernel_rfl)
  · (rw [Facts.make]; as_aux_lemma => kernel_rfl)
  · (as_aux_lemma => kernel_rfl)
  · (as_aux_lemma => kernel_rfl)
  · (as_aux_lemma => kernel_rfl)
  · (as_aux_lemma => kernel_rfl)

theorem named : Tryd.prog.funcNamed Rows.fnSpellCountsRow.func = some 3 := by kernel_rfl

theorem notMain : Check.packageOf Tryd.f3.name ≠ "main" := by decide +kernel
theorem w1 : Rows.fnSpellCountsRow.wrapper = false := rfl
theorem w2 : Rows.fnSpellCountsRow.mainSum = "" := rfl
theorem notWrapped : Tryd.f3.isWrapper Tryd.pinned.checked.prog Rows.fnSpellCountsRow.wrapper Rows.fnSpellCountsRow.mainSum := by
  rw [w1, w2]
  exact @Facts.noWrapper Tryd.pinned.checked.prog Tryd.f3 notMain

theorem over : Rows.fnSpellCountsRow.holds Tryd.pinned (OpenSpec.ofChange Rows.fnSpellCountsSpec) :=
  OpenClaim.holds_of_wide 3 Tryd.f3 rfl rfl rfl rfl rfl rfl rfl ⟨rfl, rfl, rfl, rfl, rfl⟩ rfl rfl rfl rfl rfl named Tryd.func3 closed
    (of_decide_eq_true (by kernel_rfl)) notWrapped
    (fun os started H enc _ => lifted os started H enc)

theorem wf : Rows.fnSpellCountsRow.wfByText (OpenSpec.ofChange Rows.fnSpellCountsSpec) = true := by kernel_rfl
theorem goesNot : false = Rows.fnSpellCountsRow.goesBy Tryd.pinned.checked.prog := by kernel_rfl
theorem noStand : ([22, 22].all fun u => !Tryd.prog.wantsStandIn u) = true := by kernel_rfl
theorem main : Tryd.pinned.checked.prog.mainIs = some (Rows.fnSpellCountsCard.stood.harness.1, Rows.fnSpellCountsCard.stood.harness.2.toList) := by kernel_rfl

/-- the statement -/
theorem proved : Rows.FnSpellCountsCardSaid :=
  Claim7.holds_tied_plain_at .later [] [.data, .pinned] true Rows.fnSpellCountsCard.stood.harness false over (fun _ h => by cases h) wf (fun _ h => by cases h) fnSpellCounts_row_tie rfl ⟨rfl, rfl⟩ main rfl
    (fun f fn hf hfn => by
      obtain rfl : f = 3 := Option.some.inj (named.symm.trans hf) |>.symm
      obtain rfl : fn = Tryd.f3 := (Option.some.inj (Tryd.func3.symm.trans hfn)).symm
      exact ⟨Facts.looks.symm, fun j t ht => by
        rw [Tryd.params3] at ht
        have hm : t ∈ [22, 22] := by simpa using Array.mem_of_getElem? ht
        exact (show Tryd.prog.wantsStandIn t = false by simpa using List.all_eq_true.1 noStand t hm)⟩)
    goesNot
#print axioms proved
end Go.Proofs.YtpaleogkgfclnaaDoor.fnSpellCounts
