/-
  The contracts of nat.Cmp, nat.Of, nat.Word. No conditions.
-/
import Derived.Test.YtodcjaobbnjikabLawA
import Derived.Test.YtodcjaobbnjikabCmpB
namespace Go.Proofs.Ytodcjaobbnjikab
open Go.RowKit
set_option linter.unusedVariables false
set_option linter.unusedSimpArgs false

theorem same_no {w : World} {Z Y : Zone} {a b : Value} {la lb : List Nat} (ha : IsU w Z a la) (hb : IsU w Y b lb) (h : la ≠ lb) :
    Calls Try.prog 7 #[a, b] w fun e w' => e = .returned (.bool false) ∧ Below w.heap.size w w' :=
  (same_dec ha hb).mono fun e w' h' => by rwa [decide_eq_false h] at h'
theorem same_noN {w : World} {Z Y : Zone} {a b : Value} {m n : Nat} (ha : IsN w Z a m) (hb : IsN w Y b n) (h : m ≠ n) :
    Calls Try.prog 7 #[a, b] w fun e w' => e = .returned (.bool false) ∧ Below w.heap.size w w' :=
  same_no ha hb fun e => h (limbs_inj e)

end Go.Proofs.Ytodcjaobbnjikab
