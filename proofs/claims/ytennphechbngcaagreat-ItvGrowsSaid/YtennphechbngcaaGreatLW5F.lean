/-
  The document's own answer, layer 5: Turned. No conditions but bounds on lengths.
  The document's own answer, layer 5: Compared, Cmp, Sub, Neg. No conditions but bounds on lengths.
-/
import Derived.Deep.RegionLaw
import Derived.Deep.RegionHeld3
import Derived.Test.YtennphechbngcaaGreatLW5D
namespace Go.Proofs.YtennphechbngcaaGreat
open Go.RowKit
set_option linter.unusedVariables false
set_option linter.unusedSimpArgs false

end Go.Proofs.YtennphechbngcaaGreat

namespace Go.Proofs.YtennphechbngcaaGreat
open Go.RowKit
set_option linter.unusedVariables false
set_option linter.unusedSimpArgs false

theorem IsI.old {w : World} {Z : Zone} {v : Value} {s : Bool} {l : List Nat} (h : IsI w Z v s l) : IsI w old v s l := h.mono (le_old _)

end Go.Proofs.YtennphechbngcaaGreat
