/- The document's own answer, layer 5: Sum, Times. No conditions but bounds on lengths. -/
import Derived.Deep.RegionWith
import Derived.Test.YtcheajjjdbllfaaGreatNWhJ
import Derived.Test.YtcheajjjdbllfaaGreatNWhF
import Derived.Test.YtcheajjjdbllfaaGreatNRefI
import Derived.Test.YtcheajjjdbllfaaGreatNRefO
import Derived.Test.YtcheajjjdbllfaaGreatNW5C
set_option linter.unusedVariables false
set_option linter.unusedSimpArgs false
set_option maxRecDepth 100000
set_option maxHeartbeats 40000000
namespace Go.Proofs.YtcheajjjdbllfaaGreat
open Go.RowKit
end Go.Proofs.YtcheajjjdbllfaaGreat
