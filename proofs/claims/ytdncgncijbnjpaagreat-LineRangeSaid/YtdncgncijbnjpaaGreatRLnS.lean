/- slices.Clone of a form of two intervals. No conditions. -/
import Derived.Test.YtdncgncijbnjpaaGreatRTelJ
import Derived.Test.YtdncgncijbnjpaaGreatRClone
import Derived.Test.YtdncgncijbnjpaaGreatRLnR
set_option linter.unusedVariables false
set_option linter.unusedSimpArgs false
set_option maxRecDepth 100000
set_option maxHeartbeats 40000000
namespace Go.Proofs.YtdncgncijbnjpaaGreat
open Go.RowKit
end Go.Proofs.YtdncgncijbnjpaaGreat
