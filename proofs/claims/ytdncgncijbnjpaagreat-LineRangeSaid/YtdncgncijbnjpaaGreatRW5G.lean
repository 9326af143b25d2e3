/- The document's own answer, layer 5: Turned. No conditions but bounds on lengths. -/
import Derived.Deep.RegionLaw
import Derived.Deep.RegionHeld3
import Derived.Test.YtdncgncijbnjpaaGreatRW5D
import Derived.Test.YtdncgncijbnjpaaGreatRWhH
set_option linter.unusedVariables false
set_option linter.unusedSimpArgs false
set_option maxRecDepth 100000
set_option maxHeartbeats 40000000
namespace Go.Proofs.YtdncgncijbnjpaaGreat
open Go.RowKit
theorem st {w : World} {g i b j k : Nat} {v x y : Value} (h : w.cell? ⟨g, i, none⟩ = some v) (hn : b ≠ g) : ((w.setCell ⟨b, j, none⟩ x).setCell ⟨b, k, none⟩ y).cell? ⟨g, i, none⟩ = some v := by
 rw [World.cell?_setCell_other _ _ _ _ (fun e => hn (by injection e)), World.cell?_setCell_other _ _ _ _ (fun e => hn (by injection e))]
 exact h
end Go.Proofs.YtdncgncijbnjpaaGreat
