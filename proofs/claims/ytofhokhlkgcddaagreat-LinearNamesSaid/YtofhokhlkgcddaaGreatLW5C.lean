/-
  The document's own answer, layer 5: Times, Turned. No conditions but bounds on lengths.
-/
import Derived.Deep.RegionLaw
import Derived.Test.YtofhokhlkgcddaaGreatLWhJ
import Derived.Test.YtofhokhlkgcddaaGreatLWhF
import Derived.Test.YtofhokhlkgcddaaGreatLRefO
import Derived.Test.YtofhokhlkgcddaaGreatLClone
namespace Go.Proofs.YtofhokhlkgcddaaGreat
open Go.RowKit
set_option linter.unusedVariables false
set_option linter.unusedSimpArgs false

end Go.Proofs.YtofhokhlkgcddaaGreat
