/-
  Closed facts of the translation, each asked of the kernel once. No condition.
-/
import Derived.Test.YtpaleogkgfclnaaGreatDoorRows
import Derived.ProofKit
import Derived.WalkKit
import Derived.JoinedOf
import Derived.SevenTiedAt
namespace Go.Proofs.YtpaleogkgfclnaaGreatDoor
namespace Facts

theorem own : ownKnob Tryz.prog.godebug = none := by kernel_rfl
theorem laidOut : laidOutB Tryz.prog = true := by kernel_rfl
theorem rowed : mapsRowed Tryz.prog = true := by kernel_rfl
theorem stops : Tryz.prog.stops = [] := by kernel_rfl
theorem stopKnobs : Tryz.prog.stopKnobs = [] := by kernel_rfl
theorem plainKeys : Tryz.prog.plainKeys = true := by kernel_rfl
theorem stopsHeard : Tryz.prog.stopsHeard = true := by kernel_rfl
theorem mayEnter : Tryz.prog.mayEnter = true := by kernel_rfl
theorem lifts : Tryz.prog.liftsFinal = false := by kernel_rfl
theorem make : Tryz.prog.make = some .cut := by kernel_rfl
theorem looks : Tryz.prog.looks [] = false := by kernel_rfl

theorem and_mk {a b : Bool} (h1 : a = true) (h2 : b = true) : (a && b) = true := by rw [h1, h2]; rfl

theorem noWrapper {P : Program} {fn : Func} (h : Check.packageOf fn.name ≠ "main") : fn.isWrapper P false "" := by
  unfold Func.isWrapper
  rw [if_neg h]
  exact ⟨rfl, rfl⟩

end Facts
end Go.Proofs.YtpaleogkgfclnaaGreatDoor
