/- The document's own answer, layer 2: Times, by digits to 2^32. No conditions but bounds on lengths. -/
import Derived.Deep.RegionLaw
import Derived.Test.YtdncgncijbnjpaaGreatRRefM
import Derived.Test.YtdncgncijbnjpaaGreatRRefE
import Derived.Test.YtdncgncijbnjpaaGreatRSame
set_option linter.unusedVariables false
set_option linter.unusedSimpArgs false
set_option maxRecDepth 100000
set_option maxHeartbeats 40000000
namespace Go.Proofs.YtdncgncijbnjpaaGreat
open Go.RowKit
end Go.Proofs.YtdncgncijbnjpaaGreat
