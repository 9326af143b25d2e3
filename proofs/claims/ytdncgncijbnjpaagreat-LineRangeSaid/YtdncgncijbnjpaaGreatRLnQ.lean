/- line.boxed and line.packed where they say yes. No conditions but bounds. -/
import Derived.LoopN
import Derived.Test.YtdncgncijbnjpaaGreatRLnM
set_option linter.unusedVariables false
set_option linter.unusedSimpArgs false
set_option maxRecDepth 100000
set_option maxHeartbeats 40000000
namespace Go.Proofs.YtdncgncijbnjpaaGreat
open Go.RowKit
theorem goes34 : Goes 75 := goes_of Tryz.func75 rfl rfl
end Go.Proofs.YtdncgncijbnjpaaGreat
