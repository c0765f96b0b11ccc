/-
  Proved here: the program's DescribeElement returns what the reference's returns, for all arguments (the statement FnExactDescribeElementCardSaid). Its conditions are the statement's own.
  The frame of this text follows the kit's proof-skeleton; it was written by a program of the prover's (mkframe.py).
-/
import Derived.Test.YtpaleogkgfclnaaDoorFacts
import Derived.Test.YtpaleogkgfclnaaDoorTie
import Derived.Test.YtpaleogkgfclnaaDoorCards
import Derived.SevenTiedAt
import Derived.Lay
import Derived.LaidOnce
import Derived.Test.YtpaleogkgfclnaaDoorRows
import Derived.Test.YtpaleogkgfclnaaDoorPd8
import Derived.WalkKit
import Derived.ProofKit
import Derived.OpenShut
import Derived.ShutString
import Derived.ChangeOld
import Derived.Below
import Derived.Lib.SmallJoins
namespace Go.Proofs.YtpaleogkgfclnaaDoor.fnExactDescribeElement
open Go.ChangeShapes Go.WideShapes Go.ChangeAt Go.RowKit
open Go.ChangeMaps (open_string shut_string)
open Go.Joins
set_option linter.unusedVariables false

open Facts (own laidOut and_mk)

set_option maxRecDepth 100000 in
theorem lifted (os : Os) (started : os.Started) (H : Type) (enc : TypeId × Value → H) :
    ReturnsInHanded {} Tryd.checked os 5 .any (fun w args => (Rows.fnExactDescribeElementSpec.pre enc Tryd.prog Tryd.f5 [] false w args ∧ laidMetH Tryd.prog Rows.fnExactDescribeElementRow.laid w) ∧ sizedMet enc Tryd.prog Tryd.f5 (OpenSpec.ofChange Rows.fnExactDescribeElementSpec) false w args)
      (Rows.fnExactDescribeElementSpec.post enc Tryd.prog Tryd.f5 false true false false) := by
  refine returnsInHanded_of_change_and (C := Tryd.checked) (X := fun w _ => laidMetH Tryd.prog Rows.fnExactDescribeElementRow.laid w) (fun _ _ _ hh h => h.of_heap hh) own started (by kernel_rfl) Tryd.func5
    (ChangeSpec.witness_shaped (enc := enc) (C := Tryd.checked) (os := os) (X := fun w _ => laidMetH Tryd.prog Rows.fnExactDescribeElementRow.laid w) false (World.laidAll Tryd.prog os Rows.fnExactDescribeElementRow.laid) #[.agg #[.int .i64 0, .string ByteArray.empty, .string ByteArray.empty], .int .i64 0] 8 (World.laidAll_os _ _ _)
      (World.shaped_of_ZipB (by kernel_rfl) (by kernel_rfl)) (by kernel_rfl) (by kernel_rfl) (by kernel_rfl)
      (by rw [MakeChecks.laidMetH_plain _ _ _ (by kernel_rfl)]; exact laidMet_laidAll _ (by kernel_rfl) (by kernel_rfl))) ?_
  intro W base args ds gs before hval0 hW _ _ hL _
  have hval : ∀ (j : Nat) t v, Tryd.f5.params[j]? = some t → args[j]? = some v → Value.okWide Tryd.prog W .any base t v := hval0
  have hW' := hW
  obtain ⟨p, q, hA0, hV, rfl, hfz, hnd⟩ := hW
  have hA : DataW.TrodAll enc Tryd.prog W 0 (fun _ => true) true Tryd.f5.params.toList args.toList ds p := hA0
  rw [Tryd.params5] at hA hval
  obtain ⟨v0, vs0, d0, ds0, p0, q0, hargs, rfl, rfl, h0, r0⟩ := trodAll_cons hA
  obtain ⟨v1, vs1, d1, ds1, p1, q1, rfl, rfl, rfl, h1, r1⟩ := trodAll_cons r0
  obtain ⟨rfl, rfl, rfl⟩ := trodAll_nil r1
  obtain rfl : args = #[v0, v1] := by cases args; simp_all
  obtain ⟨rfl, rfl⟩ := trodVars_none hV
  have k0 := h0
  have lt0 : ∀ x ∈ p0, x.block < W.heap.size := by obtain ⟨m, hm⟩ := k0; exact DataW.trod_lt m _ _ _ hm
  obtain ⟨c0_0, c1_0, c2_0, y0_0, y1_0, y2_0, m0, rfl, _, _, hy0_0, hy1_0, hy2_0⟩ := open_agg3 Tryd.underlying37 (by kernel_rfl) (by kernel_rfl) (hval 0 37 v0 rfl rfl) h0
  obtain ⟨a0, e0_0, _, wf0⟩ := DataW.trod_int Tryd.underlying3 hy0_0
  obtain ⟨b0, e1_0, _, ws0⟩ := DataW.trod_string Tryd.underlying9 hy1_0
  obtain ⟨g0, e2_0, _, wr0⟩ := DataW.trod_string Tryd.underlying9 hy2_0
  simp at e0_0 e1_0 e2_0
  subst e0_0 e1_0 e2_0
  have k1 := h1
  have lt1 : ∀ x ∈ p1, x.block < W.heap.size := by obtain ⟨m, hm⟩ := k1; exact DataW.trod_lt m _ _ _ hm
  obtain ⟨a1, rfl, _, _, w1⟩ := open_int Tryd.underlying3 (hval 1 3 v1 rfl rfl) h1
  clear hA0 hval0
  refine (FnExactDescribeElement_walk a0 b0 g0 a1 W wf0 ws0 wr0 w1).mono fun e W' ⟨he, bel⟩ => ?_
  subst he
  exact ⟨_, rfl, _, _, _, [], _, [], hW', trodAll_mk1 (shut_bool Tryd.underlying4 _), (trodAll_cons_mk (Below.trod laidOut (by kernel_rfl) (of_decide_eq_true (by kernel_rfl)) k0 bel lt0) (trodAll_cons_mk (Below.trod laidOut (by kernel_rfl) (of_decide_eq_true (by kernel_rfl)) k1 bel lt1) trodAll_mk0)), rfl, bel.frame _, fun h => by cases h⟩

set_option maxRecDepth 100000 in
theorem closed : joinedFacts Tryd.prog 5 Tryd.f5 Rows.fnExactDescribeElementSpec Rows.fnExactDescribeElementRow = true := by
  unfold joinedFacts
  repeat' (with_reducible refine and_mk ?_ ?_)
  · (as_aux_lemma => kernel_rfl)
  · exact laidOut
  · exact Facts.rowed
  · (as_aux_lemma => kernel_rfl)
  · (as_aux_lemma => kernel_rfl)
  · (as_aux_lemma => kernel_rfl)
  · (rw [Facts.stops]; as_aux_lemma => kernel_rfl)
  · (as_aux_lemma => kernel_rfl)
  · (rw [Facts.stopKnobs]; as_aux_lemma => kernel_rfl)
  · (as_aux_lemma => kernel_rfl)
  · (as_aux_lemma => kernel_rfl)
  · (as_aux_lemma => kernel_rfl)
  · (as_aux_lemma => kernel_rfl)
  · (as_aux_lemma => kernel_rfl)
  · (as_aux_lemma => kernel_rfl)
  · (as_aux_lemma => kernel_rfl)
  · (as_aux_lemma => kernel_rfl)
  · (as_aux_lemma => kernel_rfl)
  · (as_aux_lemma => kernel_rfl)
  · (as_aux_lemma => kernel_rfl)
  · (as_aux_lemma => kernel_rfl)
  · (as_aux_lemma => kernel_rfl)
  · (rw [Facts.plainKeys]; as_aux_lemma => kernel_rfl)
  · (as_aux_lemma => kernel_rfl)
  · exact Facts.stopsHeard
  · exact Facts.mayEnter
  · (rw [Facts.lifts]; as_aux_lemma => kernel_rfl)
  · (rw [Facts.make]; as_aux_lemma => kernel_rfl)
  · (as_aux_lemma => kernel_rfl)
  · (as_aux_lemma => kernel_rfl)
  · (as_aux_lemma => kernel_rfl)
  · (as_aux_lemma => kernel_rfl)

theorem named : Tryd.prog.funcNamed Rows.fnExactDescribeElementRow.func = some 5 := by kernel_rfl

theorem notMain : Check.packageOf Tryd.f5.name ≠ "main" := by decide +kernel
theorem w1 : Rows.fnExactDescribeElementRow.wrapper = false := rfl
theorem w2 : Rows.fnExactDescribeElementRow.mainSum = "" := rfl
theorem notWrapped : Tryd.f5.isWrapper Tryd.pinned.checked.prog Rows.fnExactDescribeElementRow.wrapper Rows.fnExactDescribeElementRow.mainSum := by
  rw [w1, w2]
  exact @Facts.noWrapper Tryd.pinned.checked.prog Tryd.f5 notMain

theorem over : Rows.fnExactDescribeElementRow.holds Tryd.pinned (OpenSpec.ofChange Rows.fnExactDescribeElementSpec) :=
  OpenClaim.holds_of_wide 5 Tryd.f5 rfl rfl rfl rfl rfl rfl rfl ⟨rfl, rfl, rfl, rfl, rfl⟩ rfl rfl rfl rfl rfl named Tryd.func5 closed
    (of_decide_eq_true (by kernel_rfl)) notWrapped
    (fun os started H enc _ => lifted os started H enc)

theorem wf : Rows.fnExactDescribeElementRow.wfByText (OpenSpec.ofChange Rows.fnExactDescribeElementSpec) = true := by kernel_rfl
theorem goesNot : false = Rows.fnExactDescribeElementRow.goesBy Tryd.pinned.checked.prog := by kernel_rfl
theorem noStand : ([37, 3].all fun u => !Tryd.prog.wantsStandIn u) = true := by kernel_rfl
theorem main : Tryd.pinned.checked.prog.mainIs = some (Rows.fnExactDescribeElementCard.stood.harness.1, Rows.fnExactDescribeElementCard.stood.harness.2.toList) := by kernel_rfl

/-- the statement -/
theorem proved : Rows.FnExactDescribeElementCardSaid :=
  Claim7.holds_tied_plain_at .later [] [.data, .pinned] true Rows.fnExactDescribeElementCard.stood.harness false over (fun _ h => by cases h) wf (fun _ h => by cases h) fnExactDescribeElement_row_tie rfl ⟨rfl, rfl⟩ main rfl
    (fun f fn hf hfn => by
      obtain rfl : f = 5 := Option.some.inj (named.symm.trans hf) |>.symm
      obtain rfl : fn = Tryd.f5 := (Option.some.inj (Tryd.func5.symm.trans hfn)).symm
      exact ⟨Facts.looks.symm, fun j t ht => by
        rw [Tryd.params5] at ht
        have hm : t ∈ [37, 3] := by simpa using Array.mem_of_getElem? ht
        exact (show Tryd.prog.wantsStandIn t = false by simpa using List.all_eq_true.1 noStand t hm)⟩)
    goesNot
#print axioms proved
end Go.Proofs.YtpaleogkgfclnaaDoor.fnExactDescribeElement
