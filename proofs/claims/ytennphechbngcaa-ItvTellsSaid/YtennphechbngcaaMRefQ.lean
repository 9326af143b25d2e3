/-
  The document's own answer, layer 3: Over (the quotient and what is left over, bit by bit). No conditions but bounds on lengths, and that the second number is not 0.
-/
import Derived.Deep.RegionHeld3
import Derived.Test.YtennphechbngcaaMRefI
import Derived.Test.YtennphechbngcaaMRefO
import Derived.Test.YtennphechbngcaaMWhJ
import Derived.Test.YtennphechbngcaaMWhK
namespace Go.Proofs.Ytennphechbngcaa
open Go.RowKit
set_option linter.unusedVariables false
set_option linter.unusedSimpArgs false

end Go.Proofs.Ytennphechbngcaa
