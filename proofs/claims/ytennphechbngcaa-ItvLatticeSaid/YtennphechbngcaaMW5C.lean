/-
  The document's own answer, layer 5: Times, Turned. No conditions but bounds on lengths.
-/
import Derived.Deep.RegionLaw
import Derived.Test.YtennphechbngcaaMWhJ
import Derived.Test.YtennphechbngcaaMWhF
import Derived.Test.YtennphechbngcaaMRefO
import Derived.Test.YtennphechbngcaaMClone
namespace Go.Proofs.Ytennphechbngcaa
open Go.RowKit
set_option linter.unusedVariables false
set_option linter.unusedSimpArgs false

end Go.Proofs.Ytennphechbngcaa
