/-
  No cell of these rows narrows 'for every input' (looked for: loops, veiled, ifaces, maps, wideKeys, modest, calm, conditions, laid).
  DERIVED. THE GIVEN ROWS OF THIS SEAT. 4 by the template 'for every input the law returns true; each argument reads behind the call as it read before'; 0 by the template 'total and deterministic' (their statements: YtajmijnoikkffaaTotals.lean).
  GIVEN WITH THE SEED: the statements are not yours to turn. If you find one false, say at which input.
  Laid BY PROGRAM, IN A SANDBOX (cutbox-rows.mjs): the forced cells as the released guide's own fill.sh prints them over the translation 78a4b2bf992b5da9… (all of the seat's roots in one cut). By AI agents, Wed Nov 11 2026. No macro, syntax, notation, axiom, sorry.
-/
import Derived.Test.YtajmijnoikkffaaChecked
import GoSem.Claim
import GoSem.ClaimJoined
import GoSem.ClaimMapViews
import Derived.JoinedTies
import Derived.KernelRfl
namespace Go.Proofs.Ytajmijnoikkffaa
/- THE CELL 'sum', in the pinned program and in every row, IS THE sha256 OF THE DUMP (.gsa) THAT YtajmijnoikkffaaProg.lean LOADS. Nothing in Lean hashes anything: it is a label: what it is worth is what the hold of that sum in a sandbox is worth. -/
noncomputable def Try.pinned : Pinned := { name := "ytajmijnoikkffaa", sum := "78a4b2bf992b5da96f511576cd50d5365c74f829a2eeb5a95e054d7385570d81", checked := Try.checked }
namespace Rows
def none {H : Type} : Left H := { results := [], args := [] }

/-- 'facetroomlaw18.RowsForm': WHATEVER THE INPUT: true; the input reads as it did. -/
def rowsFormSpec : ChangeSpec := { name := "rowsForm", fn := fun _ => fun
  | [d] => { results := [.lit (.bool true)], args := [d] }
  | _ => none }
def rowsFormRow : OpenClaim := { program := "ytajmijnoikkffaa", sum := "78a4b2bf992b5da96f511576cd50d5365c74f829a2eeb5a95e054d7385570d81", func := "facetroom/facetroomlaw18.RowsForm", spec := "rowsForm", inPlace := ["math/bits.Add64", "math/bits.Sub64", "slices.overlaps[facetroom/api.Vec]"], unfollowed := true, recurses := true, named := ["math/bits.divideError", "math/bits.overflowError"], apart := false }
def RowsFormSaid : Prop := rowsFormRow.holds Try.pinned (OpenSpec.ofChange rowsFormSpec)

/-- ITS FALSE NEIGHBOUR: 'it returns false'. Refute it at one input. -/
def rowsFormWrong : ChangeSpec := { name := "rowsForm", fn := fun _ => fun
  | [d] => { results := [.lit (.bool false)], args := [d] }
  | _ => none }
def RowsFormWrongFalsely : Prop := rowsFormRow.holds Try.pinned (OpenSpec.ofChange rowsFormWrong)

/-- 'facetroomlaw18.RowsSame': WHATEVER THE INPUT: true; the input reads as it did. -/
def rowsSameSpec : ChangeSpec := { name := "rowsSame", fn := fun _ => fun
  | [d1, d2, d3, d4, d5] => { results := [.lit (.bool true)], args := [d1, d2, d3, d4, d5] }
  | _ => none }
def rowsSameRow : OpenClaim := { program := "ytajmijnoikkffaa", sum := "78a4b2bf992b5da96f511576cd50d5365c74f829a2eeb5a95e054d7385570d81", func := "facetroom/facetroomlaw18.RowsSame", spec := "rowsSame", inPlace := ["math/bits.Add64", "math/bits.Sub64", "slices.overlaps[facetroom/api.Vec]"], unfollowed := true, recurses := true, named := ["math/bits.divideError", "math/bits.overflowError"], apart := false }
def RowsSameSaid : Prop := rowsSameRow.holds Try.pinned (OpenSpec.ofChange rowsSameSpec)

/-- ITS FALSE NEIGHBOUR: 'it returns false'. Refute it at one input. -/
def rowsSameWrong : ChangeSpec := { name := "rowsSame", fn := fun _ => fun
  | [d1, d2, d3, d4, d5] => { results := [.lit (.bool false)], args := [d1, d2, d3, d4, d5] }
  | _ => none }
def RowsSameWrongFalsely : Prop := rowsSameRow.holds Try.pinned (OpenSpec.ofChange rowsSameWrong)

/-- 'facetroomlaw18.RowsRest': WHATEVER THE INPUT: true; the input reads as it did. -/
def rowsRestSpec : ChangeSpec := { name := "rowsRest", fn := fun _ => fun
  | [d1, d2] => { results := [.lit (.bool true)], args := [d1, d2] }
  | _ => none }
def rowsRestRow : OpenClaim := { program := "ytajmijnoikkffaa", sum := "78a4b2bf992b5da96f511576cd50d5365c74f829a2eeb5a95e054d7385570d81", func := "facetroom/facetroomlaw18.RowsRest", spec := "rowsRest", inPlace := ["math/bits.Add64", "math/bits.Sub64", "slices.overlaps[facetroom/api.Vec]"], unfollowed := true, recurses := true, named := ["math/bits.divideError", "math/bits.overflowError"], apart := false }
def RowsRestSaid : Prop := rowsRestRow.holds Try.pinned (OpenSpec.ofChange rowsRestSpec)

/-- ITS FALSE NEIGHBOUR: 'it returns false'. Refute it at one input. -/
def rowsRestWrong : ChangeSpec := { name := "rowsRest", fn := fun _ => fun
  | [d1, d2] => { results := [.lit (.bool false)], args := [d1, d2] }
  | _ => none }
def RowsRestWrongFalsely : Prop := rowsRestRow.holds Try.pinned (OpenSpec.ofChange rowsRestWrong)

/-- 'facetroomlaw18.RowsKernel': WHATEVER THE INPUT: true; the input reads as it did. -/
def rowsKernelSpec : ChangeSpec := { name := "rowsKernel", fn := fun _ => fun
  | [d1, d2] => { results := [.lit (.bool true)], args := [d1, d2] }
  | _ => none }
def rowsKernelRow : OpenClaim := { program := "ytajmijnoikkffaa", sum := "78a4b2bf992b5da96f511576cd50d5365c74f829a2eeb5a95e054d7385570d81", func := "facetroom/facetroomlaw18.RowsKernel", spec := "rowsKernel", inPlace := ["math/bits.Add64", "math/bits.Sub64", "slices.overlaps[facetroom/api.Vec]"], unfollowed := true, recurses := true, named := ["math/bits.divideError", "math/bits.overflowError"], apart := false }
def RowsKernelSaid : Prop := rowsKernelRow.holds Try.pinned (OpenSpec.ofChange rowsKernelSpec)

/-- ITS FALSE NEIGHBOUR: 'it returns false'. Refute it at one input. -/
def rowsKernelWrong : ChangeSpec := { name := "rowsKernel", fn := fun _ => fun
  | [d1, d2] => { results := [.lit (.bool false)], args := [d1, d2] }
  | _ => none }
def RowsKernelWrongFalsely : Prop := rowsKernelRow.holds Try.pinned (OpenSpec.ofChange rowsKernelWrong)

/- THE SECOND FORM. 'bulk': how many values and letters a reading holds, each counted each time it is reached (what is shared counts as often as it is met; a slice's spare places count too). A statement '..UptoSaid' is the law's where the arguments, and the package variables that the reading takes, are together of bulk at most 1048576: NARROWER than '..Said'. Prove '..Said' where nothing that the law and all that it calls make is longer than what came in: it says more and counts as full. Else prove '..UptoSaid'. A law counts once. -/
mutual
def uptoBulk {H : Type} : DataW H → Nat
  | .lit (.string bytes) => bytes.length + 1
  | .lit _ => 1
  | .nil => 1
  | .ptr d => uptoBulk d + 1
  | .slice elems spare => uptoBulkAll elems + uptoBulkAll spare + 1
  | .agg parts => uptoBulkAll parts + 1
  | .iface _ d => uptoBulk d + 1
  | .map entries => uptoBulkEntries entries + 1
  | .held _ => 1
def uptoBulkAll {H : Type} : List (DataW H) → Nat
  | [] => 0
  | d :: r => uptoBulk d + uptoBulkAll r
def uptoBulkEntries {H : Type} : List (Lit × DataW H) → Nat
  | [] => 0
  | x :: r => uptoBulkEntry x + uptoBulkEntries r
def uptoBulkEntry {H : Type} : Lit × DataW H → Nat
  | (.string bytes, d) => bytes.length + uptoBulk d + 1
  | (_, d) => uptoBulk d + 1
 end
def uptoSmall : (H : Type) → List (DataW H) → Bool := fun _ ds => decide (uptoBulkAll ds ≤ 1048576)
def OpenSpec.upto (s : _root_.Go.ChangeSpec) : _root_.Go.OpenSpec := { _root_.Go.OpenSpec.ofChange s with cond := some uptoSmall }

/-- 'facetroomlaw18.RowsForm', WHERE WHAT IT READS IS OF BULK AT MOST 1048576: true; the input reads as it did. -/
def rowsFormUptoRow : OpenClaim := { program := "ytajmijnoikkffaa", sum := "78a4b2bf992b5da96f511576cd50d5365c74f829a2eeb5a95e054d7385570d81", func := "facetroom/facetroomlaw18.RowsForm", spec := "rowsForm", inPlace := ["math/bits.Add64", "math/bits.Sub64", "slices.overlaps[facetroom/api.Vec]"], unfollowed := true, recurses := true, named := ["math/bits.divideError", "math/bits.overflowError"], apart := false, narrowed := true }
def RowsFormUptoSaid : Prop := rowsFormUptoRow.holds Try.pinned (OpenSpec.upto rowsFormSpec)

/-- 'facetroomlaw18.RowsSame', WHERE WHAT IT READS IS OF BULK AT MOST 1048576: true; the input reads as it did. -/
def rowsSameUptoRow : OpenClaim := { program := "ytajmijnoikkffaa", sum := "78a4b2bf992b5da96f511576cd50d5365c74f829a2eeb5a95e054d7385570d81", func := "facetroom/facetroomlaw18.RowsSame", spec := "rowsSame", inPlace := ["math/bits.Add64", "math/bits.Sub64", "slices.overlaps[facetroom/api.Vec]"], unfollowed := true, recurses := true, named := ["math/bits.divideError", "math/bits.overflowError"], apart := false, narrowed := true }
def RowsSameUptoSaid : Prop := rowsSameUptoRow.holds Try.pinned (OpenSpec.upto rowsSameSpec)

/-- 'facetroomlaw18.RowsRest', WHERE WHAT IT READS IS OF BULK AT MOST 1048576: true; the input reads as it did. -/
def rowsRestUptoRow : OpenClaim := { program := "ytajmijnoikkffaa", sum := "78a4b2bf992b5da96f511576cd50d5365c74f829a2eeb5a95e054d7385570d81", func := "facetroom/facetroomlaw18.RowsRest", spec := "rowsRest", inPlace := ["math/bits.Add64", "math/bits.Sub64", "slices.overlaps[facetroom/api.Vec]"], unfollowed := true, recurses := true, named := ["math/bits.divideError", "math/bits.overflowError"], apart := false, narrowed := true }
def RowsRestUptoSaid : Prop := rowsRestUptoRow.holds Try.pinned (OpenSpec.upto rowsRestSpec)

/-- 'facetroomlaw18.RowsKernel', WHERE WHAT IT READS IS OF BULK AT MOST 1048576: true; the input reads as it did. -/
def rowsKernelUptoRow : OpenClaim := { program := "ytajmijnoikkffaa", sum := "78a4b2bf992b5da96f511576cd50d5365c74f829a2eeb5a95e054d7385570d81", func := "facetroom/facetroomlaw18.RowsKernel", spec := "rowsKernel", inPlace := ["math/bits.Add64", "math/bits.Sub64", "slices.overlaps[facetroom/api.Vec]"], unfollowed := true, recurses := true, named := ["math/bits.divideError", "math/bits.overflowError"], apart := false, narrowed := true }
def RowsKernelUptoSaid : Prop := rowsKernelUptoRow.holds Try.pinned (OpenSpec.upto rowsKernelSpec)

end Rows
end Go.Proofs.Ytajmijnoikkffaa
