/- The document's own answer, layer 5: Turned. No conditions but bounds on lengths. -/
import Derived.Deep.RegionLaw
import Derived.Deep.RegionHeld3
import Derived.Test.YtcheajjjdbllfaaGreatNW5D
import Derived.Test.YtcheajjjdbllfaaGreatNWhH
set_option linter.unusedVariables false
set_option linter.unusedSimpArgs false
set_option maxRecDepth 100000
set_option maxHeartbeats 40000000
namespace Go.Proofs.YtcheajjjdbllfaaGreat
open Go.RowKit
theorem IsI.old {w : World} {Z : Zone} {v : Value} {s : Bool} {l : List Nat} (h : IsI w Z v s l) : IsI w old v s l := h.mono (le_old _)
end Go.Proofs.YtcheajjjdbllfaaGreat
