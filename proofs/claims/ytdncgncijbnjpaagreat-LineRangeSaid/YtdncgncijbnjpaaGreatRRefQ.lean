/- The document's own answer, layer 3: Over (the quotient and what is left over, bit by bit). No conditions but bounds on lengths, and that the second number is not 0. -/
import Derived.Deep.RegionHeld3
import Derived.Test.YtdncgncijbnjpaaGreatRRefI
import Derived.Test.YtdncgncijbnjpaaGreatRRefO
import Derived.Test.YtdncgncijbnjpaaGreatRWhJ
import Derived.Test.YtdncgncijbnjpaaGreatRWhK
set_option linter.unusedVariables false
set_option linter.unusedSimpArgs false
set_option maxRecDepth 100000
set_option maxHeartbeats 40000000
namespace Go.Proofs.YtdncgncijbnjpaaGreat
open Go.RowKit
end Go.Proofs.YtdncgncijbnjpaaGreat
