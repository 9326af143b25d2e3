/- What mul's and the document's products and powers answer, at any words: the same. -/
import Derived.Test.YtdncgncijbnjpaaGreatRRefO
import Derived.Test.YtdncgncijbnjpaaGreatRRefI
set_option linter.unusedVariables false
set_option linter.unusedSimpArgs false
set_option maxRecDepth 100000
set_option maxHeartbeats 40000000
namespace Go.Proofs.YtdncgncijbnjpaaGreat
open Go.RowKit
end Go.Proofs.YtdncgncijbnjpaaGreat
