/-
  facetroomlaw17.LinearSums, walked: in each of its ways. No conditions.
-/
import Derived.Test.YtamenhffplhddaaGreatLLltB
namespace Go.Proofs.YtamenhffplhddaaGreat
open Go.RowKit
set_option linter.unusedVariables false
set_option linter.unusedSimpArgs false

theorem lawLinearSums {w : World} {f g x a y : Value} {ps ts qs : List Iv} {p : Iv} {bs : List Nat} (hf : IsIvs w old f ps) (hg : IsIvs w old g ts) (hx : IsIvs w old x qs) (ha : IsItv w old a p) (hb : y = bytesV bs ∧ bs.length = 16 ∧ ∀ b ∈ bs, b ≤ 255) :
    Calls Tryz.prog 6 #[f, g, x, a, y] w fun e w' => e = .returned (.bool true) ∧ Below w.heap.size w w' := by
  cases k1 : greatF ps 10 3 with
  | true => exact llt_great1 hf hg hx ha hb k1
  | false =>
    cases k2 : greatF ts 10 3 with
    | true => exact llt_great2 hf hg hx ha hb k1 k2
    | false =>
      cases k3 : greatF qs 10 3 with
      | true => exact llt_great3 hf hg hx ha hb k1 k2 k3
      | false =>
        cases k4 : greatI p 3 with
        | true => exact llt_great4 hf hg hx ha hb k1 k2 k3 k4
        | false =>
          by_cases hE : errAdd ps ts = 0
          · by_cases hE2 : errFB (fmOf (addLL (ps.map Iv.P) (ts.map Iv.P))) qs = 0
            · cases hE3 : p.ok with
              | true => exact llt_good hf hg hx ha hb k1 k2 k3 k4 hE hE2 hE3
              | false => exact llt_bad3 hf hg hx ha hb k1 k2 k3 k4 hE hE2 hE3
            · exact llt_bad2 hf hg hx ha hb k1 k2 k3 k4 hE hE2
          · exact llt_bad1 hf hg hx ha hb k1 k2 k3 k4 hE

end Go.Proofs.YtamenhffplhddaaGreat
