/-
  The document's own answer, layer 5: Times, Turned. No conditions but bounds on lengths.
-/
import Derived.Deep.RegionLaw
import Derived.Test.YtennphechbngcaaGreatLWhJ
import Derived.Test.YtennphechbngcaaGreatLWhF
import Derived.Test.YtennphechbngcaaGreatLRefO
import Derived.Test.YtennphechbngcaaGreatLClone
namespace Go.Proofs.YtennphechbngcaaGreat
open Go.RowKit
set_option linter.unusedVariables false
set_option linter.unusedSimpArgs false

end Go.Proofs.YtennphechbngcaaGreat
