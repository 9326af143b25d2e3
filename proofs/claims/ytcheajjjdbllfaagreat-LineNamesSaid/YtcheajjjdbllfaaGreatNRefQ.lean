/- The document's own answer, layer 3: Over (the quotient and what is left over, bit by bit). No conditions but bounds on lengths, and that the second number is not 0. -/
import Derived.Deep.RegionHeld3
import Derived.Test.YtcheajjjdbllfaaGreatNRefI
import Derived.Test.YtcheajjjdbllfaaGreatNRefO
import Derived.Test.YtcheajjjdbllfaaGreatNWhJ
import Derived.Test.YtcheajjjdbllfaaGreatNWhK
set_option linter.unusedVariables false
set_option linter.unusedSimpArgs false
set_option maxRecDepth 100000
set_option maxHeartbeats 40000000
namespace Go.Proofs.YtcheajjjdbllfaaGreat
open Go.RowKit
end Go.Proofs.YtcheajjjdbllfaaGreat
