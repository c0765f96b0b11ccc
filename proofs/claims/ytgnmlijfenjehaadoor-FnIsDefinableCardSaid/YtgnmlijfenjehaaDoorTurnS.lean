/-
  The reference's TurnStructure. Condition: texts below the reach.
-/
import Derived.Test.YtgnmlijfenjehaaDoorTurn
namespace Go.Proofs.YtgnmlijfenjehaaDoor
open Go.RowKit
open Pl
set_option linter.unusedSimpArgs false
set_option linter.unusedVariables false

end Go.Proofs.YtgnmlijfenjehaaDoor
