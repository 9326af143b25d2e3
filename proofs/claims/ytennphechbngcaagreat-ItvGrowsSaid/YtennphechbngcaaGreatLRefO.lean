/-
  The document's own answer, layer 2: a number's digits to 2^32, and the number of such digits. No conditions but bounds on lengths.
  The document's own answer, layer 2: Times, by digits to 2^32. No conditions but bounds on lengths.
-/
import Derived.Deep.RegionLaw
import Derived.Test.YtennphechbngcaaGreatLRefM
import Derived.Test.YtennphechbngcaaGreatLRefE
import Derived.Test.YtennphechbngcaaGreatLSame
namespace Go.Proofs.YtennphechbngcaaGreat
open Go.RowKit
set_option linter.unusedVariables false
set_option linter.unusedSimpArgs false

end Go.Proofs.YtennphechbngcaaGreat

namespace Go.Proofs.YtennphechbngcaaGreat
open Go.RowKit
set_option linter.unusedVariables false
set_option linter.unusedSimpArgs false

end Go.Proofs.YtennphechbngcaaGreat
