/-
  The document's own answer, layer 5: Sum, Times. No conditions but bounds on lengths.
  The document's own answer, layer 5: Add, Mul, at any signs and words. No conditions but bounds on lengths.
-/
import Derived.Deep.RegionWith
import Derived.Test.YtamenhffplhddaaGreatLWhJ
import Derived.Test.YtamenhffplhddaaGreatLWhF
import Derived.Test.YtamenhffplhddaaGreatLRefI
import Derived.Test.YtamenhffplhddaaGreatLRefO
import Derived.Test.YtamenhffplhddaaGreatLW5C
namespace Go.Proofs.YtamenhffplhddaaGreat
open Go.RowKit
set_option linter.unusedVariables false
set_option linter.unusedSimpArgs false

end Go.Proofs.YtamenhffplhddaaGreat

namespace Go.Proofs.YtamenhffplhddaaGreat
open Go.RowKit
set_option linter.unusedVariables false
set_option linter.unusedSimpArgs false

end Go.Proofs.YtamenhffplhddaaGreat
