/-
  The document's own answer, layer 5: Times, Turned. No conditions but bounds on lengths.
-/
import Derived.Deep.RegionLaw
import Derived.Test.YtamenhffplhddaaGreatLWhJ
import Derived.Test.YtamenhffplhddaaGreatLWhF
import Derived.Test.YtamenhffplhddaaGreatLRefO
import Derived.Test.YtamenhffplhddaaGreatLClone
namespace Go.Proofs.YtamenhffplhddaaGreat
open Go.RowKit
set_option linter.unusedVariables false
set_option linter.unusedSimpArgs false

end Go.Proofs.YtamenhffplhddaaGreat
