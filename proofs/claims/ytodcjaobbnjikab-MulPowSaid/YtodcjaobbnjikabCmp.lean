/-
  The contracts of cmp.Compare at int and at uint64, of slices.Backward at numbers, and of nat.compare. No conditions.
-/
import Derived.RangeFuncNested
import Derived.RangeFuncBound
import Derived.RangeFuncCalls
import Derived.RangeFuncLeaves
import Derived.RangeFuncBox
import Derived.Shelf.Abstract
import Derived.Shelf.RegionOpen
import Derived.WalkKit
import Derived.OwnWalkIn
import Derived.TacticsInMore
import Derived.LoopNIn
import Derived.LoopIn
import Derived.Maps.AppendAt
import Derived.Test.YtodcjaobbnjikabNatB
namespace Go.Proofs.Ytodcjaobbnjikab
open Go.RowKit Go.Shelf
set_option linter.unusedVariables false
set_option linter.unusedSimpArgs false

/-- -1, 0 or 1. -/
def cmp3 (x y : Int) : Int := if x < y then -1 else if y < x then 1 else 0

section
attribute [local go_sem] Oper.semAt_some

/-- A place of a list. -/
abbrev Place (l : List Nat) := { i : Nat // i < l.length }
abbrev encB (l : List Nat) (i : Place l) : Array Value := #[.int .i64 (i.1 : Int), .int .u64 ((l[i.1]'i.2 : Nat) : Int)]
/-- The first k places, from the last one on. -/
def backs (n k : Nat) : List Nat := upto (fun j => n - 1 - j) k
theorem backs_succ (n k : Nat) : backs n (k + 1) = backs n k ++ [n - 1 - k] := upto_succ _ _

end
end Go.Proofs.Ytodcjaobbnjikab
