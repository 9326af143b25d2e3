/- The contracts of mul.Pow. -/
import Derived.Lib.RabinKarpLaws
import Derived.Test.YtcheajjjdbllfaaGreatNRefE
set_option linter.unusedVariables false
set_option linter.unusedSimpArgs false
set_option maxRecDepth 100000
set_option maxHeartbeats 40000000
namespace Go.Proofs.YtcheajjjdbllfaaGreat
open Go.RowKit
end Go.Proofs.YtcheajjjdbllfaaGreat
