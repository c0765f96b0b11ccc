/-
  Nothing: this seat does not reach strings.Trim. No condition.
-/
import Derived.Test.YtpaleogkgfclnaaProg
import Derived.Shelf.Strings.SlTrimAscii
namespace Go.Proofs
end Go.Proofs
