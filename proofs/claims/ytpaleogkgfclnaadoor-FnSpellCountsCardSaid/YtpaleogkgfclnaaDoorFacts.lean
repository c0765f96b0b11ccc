/-
  Closed facts of the translation, each asked of the kernel once. No condition.
-/
import Derived.Test.YtpaleogkgfclnaaDoorRows
import Derived.ProofKit
import Derived.WalkKit
import Derived.JoinedOf
import Derived.SevenTiedAt
namespace Go.Proofs.YtpaleogkgfclnaaDoor
namespace Facts

theorem own : ownKnob Tryd.prog.godebug = none := by kernel_rfl
theorem laidOut : laidOutB Tryd.prog = true := by kernel_rfl
theorem rowed : mapsRowed Tryd.prog = true := by kernel_rfl
theorem stops : Tryd.prog.stops = [] := by kernel_rfl
theorem stopKnobs : Tryd.prog.stopKnobs = [] := by kernel_rfl
theorem plainKeys : Tryd.prog.plainKeys = true := by kernel_rfl
theorem stopsHeard : Tryd.prog.stopsHeard = true := by kernel_rfl
theorem mayEnter : Tryd.prog.mayEnter = true := by kernel_rfl
theorem lifts : Tryd.prog.liftsFinal = false := by kernel_rfl
theorem make : Tryd.prog.make = some .cut := by kernel_rfl
theorem looks : Tryd.prog.looks [] = false := by kernel_rfl

theorem and_mk {a b : Bool} (h1 : a = true) (h2 : b = true) : (a && b) = true := by rw [h1, h2]; rfl

theorem noWrapper {P : Program} {fn : Func} (h : Check.packageOf fn.name ≠ "main") : fn.isWrapper P false "" := by
  unfold Func.isWrapper
  rw [if_neg h]
  exact ⟨rfl, rfl⟩

end Facts
end Go.Proofs.YtpaleogkgfclnaaDoor
