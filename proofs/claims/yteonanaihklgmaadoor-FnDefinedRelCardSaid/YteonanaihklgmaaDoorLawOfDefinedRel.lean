/-
  Proved here: the program's DefinedRel answers the law on defined relations, for all arguments: a pair is in it exactly if the formula is true for it, and all symmetries of the structure are ones of the structure with this relation. No condition.
  The frame of this text follows the kit's proof-skeleton; it was written by a program of the prover's (mkframe.py).
-/
import Derived.Test.YteonanaihklgmaaDoorFacts
import Derived.Test.YteonanaihklgmaaDoorTie
import Derived.Test.YteonanaihklgmaaDoorCards
import Derived.SevenTiedAt
import Derived.Lay
import Derived.LaidOnce
import Derived.Test.YteonanaihklgmaaDoorRows
import Derived.Test.YteonanaihklgmaaDoorPq13
import Derived.WalkKit
import Derived.ProofKit
import Derived.OpenShut
import Derived.ShutString
import Derived.ChangeOld
import Derived.Below
namespace Go.Proofs.YteonanaihklgmaaDoor.fnDefinedRel
open Go.ChangeShapes Go.WideShapes Go.ChangeAt Go.RowKit
open Go.ChangeMaps (open_string shut_string)
set_option linter.unusedVariables false

open Facts (own laidOut and_mk)

set_option maxRecDepth 100000 in
theorem lifted (os : Os) (started : os.Started) (H : Type) (enc : TypeId × Value → H) :
    ReturnsInHanded {} Tryd.checked os 6 .any (fun w args => (Rows.fnDefinedRelSpec.pre enc Tryd.prog Tryd.f6 [] false w args ∧ laidMetH Tryd.prog Rows.fnDefinedRelRow.laid w) ∧ sizedMet enc Tryd.prog Tryd.f6 (OpenSpec.ofChange Rows.fnDefinedRelSpec) false w args)
      (Rows.fnDefinedRelSpec.post enc Tryd.prog Tryd.f6 false true false false) := by
  refine returnsInHanded_of_change_and (C := Tryd.checked) (X := fun w _ => laidMetH Tryd.prog Rows.fnDefinedRelRow.laid w) (fun _ _ _ hh h => h.of_heap hh) own started (by kernel_rfl) Tryd.func6
    (ChangeSpec.witness_shaped (enc := enc) (C := Tryd.checked) (os := os) (X := fun w _ => laidMetH Tryd.prog Rows.fnDefinedRelRow.laid w) false (World.laidAll Tryd.prog os Rows.fnDefinedRelRow.laid) #[.slice none 0 0] 8 (World.laidAll_os _ _ _)
      (World.shaped_of_ZipB (by kernel_rfl) (by kernel_rfl)) (by kernel_rfl) (by kernel_rfl) (by kernel_rfl)
      (by rw [MakeChecks.laidMetH_plain _ _ _ (by kernel_rfl)]; exact laidMet_laidAll _ (by kernel_rfl) (by kernel_rfl))) ?_
  intro W base args ds gs before hval0 hW _ _ hL _
  have hval : ∀ (j : Nat) t v, Tryd.f6.params[j]? = some t → args[j]? = some v → Value.okWide Tryd.prog W .any base t v := hval0
  have hW' := hW
  obtain ⟨p, q, hA0, hV, rfl, hfz, hnd⟩ := hW
  have hA : DataW.TrodAll enc Tryd.prog W 0 (fun _ => true) true Tryd.f6.params.toList args.toList ds p := hA0
  rw [Tryd.params6] at hA hval
  obtain ⟨v0, vs0, d0, ds0, p0, q0, hargs, rfl, rfl, h0, r0⟩ := trodAll_cons hA
  obtain ⟨rfl, rfl, rfl⟩ := trodAll_nil r0
  obtain rfl : args = #[v0] := by cases args; simp_all
  obtain ⟨rfl, rfl⟩ := trodVars_none hV
  have k0 := h0
  have lt0 : ∀ x ∈ p0, x.block < W.heap.size := by obtain ⟨m, hm⟩ := k0; exact DataW.trod_lt m _ _ _ hm
  obtain ⟨a0, len0, cap0, rfl⟩ := okWide_slice Tryd.underlying22 (hval 0 22 v0 rfl rfl)
  obtain ⟨w0, x0, y0⟩ : ByRow W a0 len0 ∧ len0 ≤ cap0 ∧ cap0 ≤ maxLen := by
    obtain ⟨fuel, hf⟩ := h0
    rcases open_ints Tryd.underlying22 Tryd.underlying5 (by kernel_rfl) hf with ⟨hcs, _⟩ | ⟨x, l, c, zs, hcs, _, hl, hm, hz, _, hcell, hwz⟩
    · simp [Value.cells] at hcs
      obtain ⟨rfl, rfl, rfl⟩ := hcs
      exact ⟨fun h => absurd h (Nat.lt_irrefl _), Nat.le_refl _, Nat.zero_le _⟩
    · simp [Value.cells] at hcs
      obtain ⟨rfl, rfl, rfl⟩ := hcs
      have hll : zs.length = cap0 := by simpa using hz
      refine ⟨fun _ => ⟨_, rfl, fun i hi => ?_⟩, hl, hm⟩
      obtain ⟨b, hb, he⟩ := byte_of (hwz _ (getD_mem (show i < zs.length by omega)))
      exact ⟨b, hb, by rw [hcell i (by omega), he]⟩
  clear hA0 hval0
  refine (FnDefinedRel_walk a0 len0 cap0 W w0 x0 y0).mono fun e W' ⟨he, bel⟩ => ?_
  subst he
  exact ⟨_, rfl, _, _, _, [], _, [], hW', trodAll_mk1 (shut_bool Tryd.underlying4 _), (trodAll_cons_mk (Below.trod laidOut (by kernel_rfl) (of_decide_eq_true (by kernel_rfl)) k0 bel lt0) trodAll_mk0), rfl, bel.frame _, fun h => by cases h⟩

set_option maxRecDepth 100000 in
theorem closed : joinedFacts Tryd.prog 6 Tryd.f6 Rows.fnDefinedRelSpec Rows.fnDefinedRelRow = true := by
  unfold joinedFacts
  repeat' (with_reducible refine and_mk ?_ ?_)
  · (as_aux_lemma => kernel_rfl)
  · exact laidOut
  · exact Facts.rowed
  · (as_aux_lemma => kernel_rfl)
  · (as_aux_lemma => kernel_rfl)
  · (as_aux_lemma => kernel_rfl)
  · (rw [Facts.stops]; as_aux_lemma => kernel_rfl)
  · (as_aux_lemma => kernel_rfl)
  · (rw [Facts.stopKnobs]; as_aux_lemma => kernel_rfl)
  · (as_aux_lemma => kernel_rfl)
  · (as_aux_lemma => kernel_rfl)
  · (as_aux_lemma => kernel_rfl)
  · (as_aux_lemma => kernel_rfl)
  · (as_aux_lemma => kernel_rfl)
  · (as_aux_lemma => kernel_rfl)
  · (as_aux_lemma => kernel_rfl)
  · (as_aux_lemma => kernel_rfl)
  · (as_aux_lemma => kernel_rfl)
  · (as_aux_lemma => kernel_rfl)
  · (as_aux_lemma => kernel_rfl)
  · (as_aux_lemma => kernel_rfl)
  · (as_aux_lemma => kernel_rfl)
  · (rw [Facts.plainKeys]; as_aux_lemma => kernel_rfl)
  · (as_aux_lemma => kernel_rfl)
  · exact Facts.stopsHeard
  · exact Facts.mayEnter
  · (rw [Facts.lifts]; as_aux_lemma => kernel_rfl)
  · (rw [Facts.make]; as_aux_lemma => kernel_rfl)
  · (as_aux_lemma => kernel_rfl)
  · (as_aux_lemma => kernel_rfl)
  · (as_aux_lemma => kernel_rfl)
  · (as_aux_lemma => kernel_rfl)

theorem named : Tryd.prog.funcNamed Rows.fnDefinedRelRow.func = some 6 := by kernel_rfl

theorem notMain : Check.packageOf Tryd.f6.name ≠ "main" := by decide +kernel
theorem w1 : Rows.fnDefinedRelRow.wrapper = false := rfl
theorem w2 : Rows.fnDefinedRelRow.mainSum = "" := rfl
theorem notWrapped : Tryd.f6.isWrapper Tryd.pinned.checked.prog Rows.fnDefinedRelRow.wrapper Rows.fnDefinedRelRow.mainSum := by
  rw [w1, w2]
  exact @Facts.noWrapper Tryd.pinned.checked.prog Tryd.f6 notMain

theorem over : Rows.fnDefinedRelRow.holds Tryd.pinned (OpenSpec.ofChange Rows.fnDefinedRelSpec) :=
  OpenClaim.holds_of_wide 6 Tryd.f6 rfl rfl rfl rfl rfl rfl rfl ⟨rfl, rfl, rfl, rfl, rfl⟩ rfl rfl rfl rfl rfl named Tryd.func6 closed
    (of_decide_eq_true (by kernel_rfl)) notWrapped
    (fun os started H enc _ => lifted os started H enc)

theorem wf : Rows.fnDefinedRelRow.wfByText (OpenSpec.ofChange Rows.fnDefinedRelSpec) = true := by kernel_rfl
theorem goesNot : false = Rows.fnDefinedRelRow.goesBy Tryd.pinned.checked.prog := by kernel_rfl
theorem noStand : ([22].all fun u => !Tryd.prog.wantsStandIn u) = true := by kernel_rfl
theorem main : Tryd.pinned.checked.prog.mainIs = some (Rows.fnDefinedRelCard.stood.harness.1, Rows.fnDefinedRelCard.stood.harness.2.toList) := by kernel_rfl

/-- the statement -/
theorem proved : Rows.FnDefinedRelCardSaid :=
  Claim7.holds_tied_plain_at .later [] [.data, .pinned] true Rows.fnDefinedRelCard.stood.harness false over (fun _ h => by cases h) wf (fun _ h => by cases h) fnDefinedRel_row_tie rfl ⟨rfl, rfl⟩ main rfl
    (fun f fn hf hfn => by
      obtain rfl : f = 6 := Option.some.inj (named.symm.trans hf) |>.symm
      obtain rfl : fn = Tryd.f6 := (Option.some.inj (Tryd.func6.symm.trans hfn)).symm
      exact ⟨Facts.looks.symm, fun j t ht => by
        rw [Tryd.params6] at ht
        have hm : t ∈ [22] := by simpa using Array.mem_of_getElem? ht
        exact (show Tryd.prog.wantsStandIn t = false by simpa using List.all_eq_true.1 noStand t hm)⟩)
    goesNot
#print axioms proved
end Go.Proofs.YteonanaihklgmaaDoor.fnDefinedRel
