/-
  The document's own answer, layer 5: Sum, Times. No conditions but bounds on lengths.
  The document's own answer, layer 5: Add, Mul, at any signs and words. No conditions but bounds on lengths.
-/
import Derived.Deep.RegionWith
import Derived.Test.YtofhokhlkgcddaaGreatLWhJ
import Derived.Test.YtofhokhlkgcddaaGreatLWhF
import Derived.Test.YtofhokhlkgcddaaGreatLRefI
import Derived.Test.YtofhokhlkgcddaaGreatLRefO
import Derived.Test.YtofhokhlkgcddaaGreatLW5C
namespace Go.Proofs.YtofhokhlkgcddaaGreat
open Go.RowKit
set_option linter.unusedVariables false
set_option linter.unusedSimpArgs false

end Go.Proofs.YtofhokhlkgcddaaGreat

namespace Go.Proofs.YtofhokhlkgcddaaGreat
open Go.RowKit
set_option linter.unusedVariables false
set_option linter.unusedSimpArgs false

end Go.Proofs.YtofhokhlkgcddaaGreat
