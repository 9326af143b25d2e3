/- The contract of facetroomref01.Same: two slices of words are the same, or not. No conditions. -/
import Derived.Deep.Draws
import Derived.Test.YtdncgncijbnjpaaGreatRNatA
set_option linter.unusedVariables false
set_option linter.unusedSimpArgs false
set_option maxRecDepth 100000
set_option maxHeartbeats 40000000
namespace Go.Proofs.YtdncgncijbnjpaaGreat
open Go.RowKit
theorem below_drewN' {B : Nat} {a w : World} (h : Below B a w) (n : Nat) : Below B a (w.drewN n) := ⟨h.os, h.tape, h.output, h.size, h.block⟩
end Go.Proofs.YtdncgncijbnjpaaGreat
