/- (*looker).other of a quotient whose second number may be 0 and that stays within 64 bits. No conditions but bounds. -/
import Derived.Laws.EntriesVeiled
import Derived.Maps.Range
import Derived.Deep.RegionHeld3
import Derived.Deep.DeepCutAuto
import Derived.Test.YtdncgncijbnjpaaGreatRTelJ
import Derived.Test.YtdncgncijbnjpaaGreatRLnM
set_option linter.unusedVariables false
set_option linter.unusedSimpArgs false
set_option maxRecDepth 100000
set_option maxHeartbeats 40000000
namespace Go.Proofs.YtdncgncijbnjpaaGreat
open Go.RowKit
theorem Box6.newB (W : World) (a b c d e f : Value) (t : TypeId) : Box6 (W.alloc (.cells #[a, b, c, d, e, f] t)).drew W.heap.size a b c d e f := (Box6.new W a b c d e f t).below bdr_
theorem zeroP_n : IvN 6000 ((0, 0) : IvP).1 ((0, 0) : IvP).2 := iv_n (by decide) (by decide) (by decide) (by omega)
end Go.Proofs.YtdncgncijbnjpaaGreat
