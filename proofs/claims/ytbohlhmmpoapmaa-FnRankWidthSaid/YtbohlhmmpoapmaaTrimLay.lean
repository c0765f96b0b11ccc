/-
  Nothing: this seat does not reach strings.Trim. No condition.
-/
import Derived.Test.YtbohlhmmpoapmaaProg
import Derived.Shelf.Strings.SlTrimAscii
namespace Go.Proofs
end Go.Proofs
