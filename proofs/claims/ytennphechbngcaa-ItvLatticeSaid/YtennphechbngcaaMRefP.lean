/-
  What mul's and the document's products and powers answer, at any words: the same.
-/
import Derived.Test.YtennphechbngcaaMRefO
import Derived.Test.YtennphechbngcaaMRefI
namespace Go.Proofs.Ytennphechbngcaa
open Go.RowKit
set_option linter.unusedVariables false
set_option linter.unusedSimpArgs false

end Go.Proofs.Ytennphechbngcaa
