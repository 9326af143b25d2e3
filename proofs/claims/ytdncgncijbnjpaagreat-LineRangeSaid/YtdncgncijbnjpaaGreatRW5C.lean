/- The document's own answer, layer 5: Times, Turned. No conditions but bounds on lengths. -/
import Derived.Deep.RegionLaw
import Derived.Test.YtdncgncijbnjpaaGreatRWhJ
import Derived.Test.YtdncgncijbnjpaaGreatRWhF
import Derived.Test.YtdncgncijbnjpaaGreatRRefO
import Derived.Test.YtdncgncijbnjpaaGreatRClone
set_option linter.unusedVariables false
set_option linter.unusedSimpArgs false
set_option maxRecDepth 100000
set_option maxHeartbeats 40000000
namespace Go.Proofs.YtdncgncijbnjpaaGreat
open Go.RowKit
end Go.Proofs.YtdncgncijbnjpaaGreat
