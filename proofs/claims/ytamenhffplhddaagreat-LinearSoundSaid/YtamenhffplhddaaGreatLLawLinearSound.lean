/-
  facetroomlaw17.LinearSound, walked: in each of its ways. No conditions.
-/
import Derived.Test.YtamenhffplhddaaGreatLLlsB
namespace Go.Proofs.YtamenhffplhddaaGreat
open Go.RowKit
set_option linter.unusedVariables false
set_option linter.unusedSimpArgs false

theorem lawLinearSound {w : World} {f x y : Value} {ps qs : List Iv} (hf : IsIvs w old f ps) (hx : IsIvs w old x qs) {bs : List Nat} (hb : y = bytesV bs ∧ bs.length = 16 ∧ ∀ b ∈ bs, b ≤ 255) :
    Calls Tryz.prog 7 #[f, x, y] w fun e w' => e = .returned (.bool true) ∧ Below w.heap.size w w' := by
  cases k1 : greatF ps 10 3 with
  | true => exact lls_great1 hf hx hb k1
  | false =>
    cases k2 : greatF qs 10 3 with
    | true => exact lls_great2 hf hx hb k1 k2
    | false =>
      by_cases hE : errFB ps qs = 0
      · exact lls_good hf hx hb k1 k2 hE
      · exact lls_bad hf hx hb k1 k2 hE

end Go.Proofs.YtamenhffplhddaaGreat
