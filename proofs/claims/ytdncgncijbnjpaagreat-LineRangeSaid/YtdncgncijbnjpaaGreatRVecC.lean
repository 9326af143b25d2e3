/- The document's row of ints, and that two rows of the same ints are the same. No conditions but bounds on lengths. -/
import Derived.StillTailTactics
import Derived.Test.YtdncgncijbnjpaaGreatRWhJ
set_option linter.unusedVariables false
set_option linter.unusedSimpArgs false
set_option maxRecDepth 100000
set_option maxHeartbeats 40000000
namespace Go.Proofs.YtdncgncijbnjpaaGreat
open Go.RowKit
end Go.Proofs.YtdncgncijbnjpaaGreat
