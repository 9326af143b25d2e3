/- Arguments of the statements, opened: slices of words. No conditions. -/
import Derived.Test.YtcheajjjdbllfaaGreatRows
import Derived.ProofKit
import Derived.OpenShut
import Derived.ShutString
import Derived.ChangeOld
import Derived.Test.YtcheajjjdbllfaaGreatNMem
set_option linter.unusedVariables false
set_option linter.unusedSimpArgs false
set_option maxRecDepth 100000
set_option maxHeartbeats 40000000
namespace Go.Proofs.YtcheajjjdbllfaaGreat
open Go.ChangeShapes Go.WideShapes Go.ChangeAt Go.RowKit
variable {Z : Zone} {s : Bool} {v : Value} {w : World}
theorem ownKnob_ : ownKnob Tryz.prog.godebug = none := by kernel_rfl
def IsI (w : World) (Z : Zone) (v : Value) (s : Bool) (l : List Nat) : Prop := ∃ u, v = .agg #[.bool s, u] ∧ IsU w Z u l
theorem IsI.mono {Y : Zone} {l : List Nat} (h : IsI w Z v s l) (hz : Z.le Y) : IsI w Y v s l := by obtain ⟨u, e, h⟩ := h; exact ⟨u, e, h.mono hz⟩
theorem IsI.below {w' : World} {l : List Nat} (h : IsI w Z v s l) (hb : Below w.heap.size w w') : IsI w' Z v s l := by obtain ⟨u, e, h⟩ := h; exact ⟨u, e, h.below hb⟩
end Go.Proofs.YtcheajjjdbllfaaGreat
