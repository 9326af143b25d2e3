/-
  No cell of these rows narrows 'for every input' (looked for: loops, veiled, ifaces, maps, wideKeys, modest, calm, conditions, laid).
  DERIVED. THE GIVEN ROWS OF THIS SEAT. 12 by the template 'for every input the law returns true; each argument reads behind the call as it read before'; 0 by the template 'total and deterministic' (their statements: YthdmfggcfkeenaaTotals.lean).
  GIVEN WITH THE SEED: the statements are not yours to turn. If you find one false, say at which input.
  Laid BY PROGRAM, IN A SANDBOX (cutbox-rows.mjs): the forced cells as the released guide's own fill.sh prints them over the translation bdf09b8fbdc1b869… (all of the seat's roots in one cut). By AI agents, Wed Nov 11 2026. No macro, syntax, notation, axiom, sorry.
-/
import Derived.Test.YthdmfggcfkeenaaChecked
import GoSem.Claim
import GoSem.ClaimJoined
import GoSem.ClaimMapViews
import Derived.JoinedTies
import Derived.KernelRfl
namespace Go.Proofs.Ythdmfggcfkeenaa
/- THE CELL 'sum', in the pinned program and in every row, IS THE sha256 OF THE DUMP (.gsa) THAT YthdmfggcfkeenaaProg.lean LOADS. Nothing in Lean hashes anything: it is a label: what it is worth is what the hold of that sum in a sandbox is worth. -/
noncomputable def Try.pinned : Pinned := { name := "ythdmfggcfkeenaa", sum := "bdf09b8fbdc1b8692db4c6888496057394d974564d74fb33ab8eecaac9cf50aa", checked := Try.checked }
namespace Rows
def none {H : Type} : Left H := { results := [], args := [] }

/-- 'facetroomlaw02.MulNames': WHATEVER THE INPUT: true; the input reads as it did. -/
def mulNamesSpec : ChangeSpec := { name := "mulNames", fn := fun _ => fun
  | [] => { results := [.lit (.bool true)], args := [] }
  | _ => none }
def mulNamesRow : OpenClaim := { program := "ythdmfggcfkeenaa", sum := "bdf09b8fbdc1b8692db4c6888496057394d974564d74fb33ab8eecaac9cf50aa", func := "facetroom/facetroomlaw02.MulNames", spec := "mulNames", inPlace := ["math/bits.Add64", "math/bits.Sub64"], unfollowed := true, recurses := true, apart := false }
def MulNamesSaid : Prop := mulNamesRow.holds Try.pinned (OpenSpec.ofChange mulNamesSpec)

/-- ITS FALSE NEIGHBOUR: 'it returns false'. Refute it at one input. -/
def mulNamesWrong : ChangeSpec := { name := "mulNames", fn := fun _ => fun
  | [] => { results := [.lit (.bool false)], args := [] }
  | _ => none }
def MulNamesWrongFalsely : Prop := mulNamesRow.holds Try.pinned (OpenSpec.ofChange mulNamesWrong)

/-- 'facetroomlaw02.MulLong': WHATEVER THE INPUT: true; the input reads as it did. -/
def mulLongSpec : ChangeSpec := { name := "mulLong", fn := fun _ => fun
  | [d1, d2, d3] => { results := [.lit (.bool true)], args := [d1, d2, d3] }
  | _ => none }
def mulLongRow : OpenClaim := { program := "ythdmfggcfkeenaa", sum := "bdf09b8fbdc1b8692db4c6888496057394d974564d74fb33ab8eecaac9cf50aa", func := "facetroom/facetroomlaw02.MulLong", spec := "mulLong", inPlace := ["math/bits.Add64", "math/bits.Sub64"], unfollowed := true, recurses := true, apart := false }
def MulLongSaid : Prop := mulLongRow.holds Try.pinned (OpenSpec.ofChange mulLongSpec)

/-- ITS FALSE NEIGHBOUR: 'it returns false'. Refute it at one input. -/
def mulLongWrong : ChangeSpec := { name := "mulLong", fn := fun _ => fun
  | [d1, d2, d3] => { results := [.lit (.bool false)], args := [d1, d2, d3] }
  | _ => none }
def MulLongWrongFalsely : Prop := mulLongRow.holds Try.pinned (OpenSpec.ofChange mulLongWrong)

/-- 'facetroomlaw03.DivTwice': WHATEVER THE INPUT: true; the input reads as it did. -/
def divTwiceSpec : ChangeSpec := { name := "divTwice", fn := fun _ => fun
  | [d1, d2, d3, d4] => { results := [.lit (.bool true)], args := [d1, d2, d3, d4] }
  | _ => none }
def divTwiceRow : OpenClaim := { program := "ythdmfggcfkeenaa", sum := "bdf09b8fbdc1b8692db4c6888496057394d974564d74fb33ab8eecaac9cf50aa", func := "facetroom/facetroomlaw03.DivTwice", spec := "divTwice", inPlace := ["math/bits.Add64", "math/bits.Sub64"], unfollowed := true, recurses := true, named := ["math/bits.divideError", "math/bits.overflowError"], apart := false }
def DivTwiceSaid : Prop := divTwiceRow.holds Try.pinned (OpenSpec.ofChange divTwiceSpec)

/-- ITS FALSE NEIGHBOUR: 'it returns false'. Refute it at one input. -/
def divTwiceWrong : ChangeSpec := { name := "divTwice", fn := fun _ => fun
  | [d1, d2, d3, d4] => { results := [.lit (.bool false)], args := [d1, d2, d3, d4] }
  | _ => none }
def DivTwiceWrongFalsely : Prop := divTwiceRow.holds Try.pinned (OpenSpec.ofChange divTwiceWrong)

/-- 'facetroomlaw03.DivNames': WHATEVER THE INPUT: true; the input reads as it did. -/
def divNamesSpec : ChangeSpec := { name := "divNames", fn := fun _ => fun
  | [] => { results := [.lit (.bool true)], args := [] }
  | _ => none }
def divNamesRow : OpenClaim := { program := "ythdmfggcfkeenaa", sum := "bdf09b8fbdc1b8692db4c6888496057394d974564d74fb33ab8eecaac9cf50aa", func := "facetroom/facetroomlaw03.DivNames", spec := "divNames", inPlace := ["math/bits.Add64", "math/bits.Sub64"], unfollowed := true, recurses := true, named := ["math/bits.divideError", "math/bits.overflowError"], apart := false }
def DivNamesSaid : Prop := divNamesRow.holds Try.pinned (OpenSpec.ofChange divNamesSpec)

/-- ITS FALSE NEIGHBOUR: 'it returns false'. Refute it at one input. -/
def divNamesWrong : ChangeSpec := { name := "divNames", fn := fun _ => fun
  | [] => { results := [.lit (.bool false)], args := [] }
  | _ => none }
def DivNamesWrongFalsely : Prop := divNamesRow.holds Try.pinned (OpenSpec.ofChange divNamesWrong)

/-- 'facetroomlaw03.DivTells': WHATEVER THE INPUT: true; the input reads as it did. -/
def divTellsSpec : ChangeSpec := { name := "divTells", fn := fun _ => fun
  | [d1, d2, d3] => { results := [.lit (.bool true)], args := [d1, d2, d3] }
  | _ => none }
def divTellsRow : OpenClaim := { program := "ythdmfggcfkeenaa", sum := "bdf09b8fbdc1b8692db4c6888496057394d974564d74fb33ab8eecaac9cf50aa", func := "facetroom/facetroomlaw03.DivTells", spec := "divTells", inPlace := ["math/bits.Add64", "math/bits.Sub64"], unfollowed := true, recurses := true, named := ["math/bits.divideError", "math/bits.overflowError"], apart := false }
def DivTellsSaid : Prop := divTellsRow.holds Try.pinned (OpenSpec.ofChange divTellsSpec)

/-- ITS FALSE NEIGHBOUR: 'it returns false'. Refute it at one input. -/
def divTellsWrong : ChangeSpec := { name := "divTells", fn := fun _ => fun
  | [d1, d2, d3] => { results := [.lit (.bool false)], args := [d1, d2, d3] }
  | _ => none }
def DivTellsWrongFalsely : Prop := divTellsRow.holds Try.pinned (OpenSpec.ofChange divTellsWrong)

/-- 'facetroomlaw03.DivBack': WHATEVER THE INPUT: true; the input reads as it did. -/
def divBackSpec : ChangeSpec := { name := "divBack", fn := fun _ => fun
  | [d1, d2] => { results := [.lit (.bool true)], args := [d1, d2] }
  | _ => none }
def divBackRow : OpenClaim := { program := "ythdmfggcfkeenaa", sum := "bdf09b8fbdc1b8692db4c6888496057394d974564d74fb33ab8eecaac9cf50aa", func := "facetroom/facetroomlaw03.DivBack", spec := "divBack", inPlace := ["math/bits.Add64", "math/bits.Sub64"], unfollowed := true, recurses := true, named := ["math/bits.divideError", "math/bits.overflowError"], apart := false }
def DivBackSaid : Prop := divBackRow.holds Try.pinned (OpenSpec.ofChange divBackSpec)

/-- ITS FALSE NEIGHBOUR: 'it returns false'. Refute it at one input. -/
def divBackWrong : ChangeSpec := { name := "divBack", fn := fun _ => fun
  | [d1, d2] => { results := [.lit (.bool false)], args := [d1, d2] }
  | _ => none }
def DivBackWrongFalsely : Prop := divBackRow.holds Try.pinned (OpenSpec.ofChange divBackWrong)

/-- 'facetroomlaw03.DivProduct': WHATEVER THE INPUT: true; the input reads as it did. -/
def divProductSpec : ChangeSpec := { name := "divProduct", fn := fun _ => fun
  | [d1, d2, d3] => { results := [.lit (.bool true)], args := [d1, d2, d3] }
  | _ => none }
def divProductRow : OpenClaim := { program := "ythdmfggcfkeenaa", sum := "bdf09b8fbdc1b8692db4c6888496057394d974564d74fb33ab8eecaac9cf50aa", func := "facetroom/facetroomlaw03.DivProduct", spec := "divProduct", inPlace := ["math/bits.Add64", "math/bits.Sub64"], unfollowed := true, recurses := true, named := ["math/bits.divideError", "math/bits.overflowError"], apart := false }
def DivProductSaid : Prop := divProductRow.holds Try.pinned (OpenSpec.ofChange divProductSpec)

/-- ITS FALSE NEIGHBOUR: 'it returns false'. Refute it at one input. -/
def divProductWrong : ChangeSpec := { name := "divProduct", fn := fun _ => fun
  | [d1, d2, d3] => { results := [.lit (.bool false)], args := [d1, d2, d3] }
  | _ => none }
def DivProductWrongFalsely : Prop := divProductRow.holds Try.pinned (OpenSpec.ofChange divProductWrong)

/-- 'facetroomlaw05.WholeTells': WHATEVER THE INPUT: true; the input reads as it did. -/
def wholeTellsSpec : ChangeSpec := { name := "wholeTells", fn := fun _ => fun
  | [d1, d2, d3] => { results := [.lit (.bool true)], args := [d1, d2, d3] }
  | _ => none }
def wholeTellsRow : OpenClaim := { program := "ythdmfggcfkeenaa", sum := "bdf09b8fbdc1b8692db4c6888496057394d974564d74fb33ab8eecaac9cf50aa", func := "facetroom/facetroomlaw05.WholeTells", spec := "wholeTells", inPlace := ["math/bits.Add64", "math/bits.Sub64"], unfollowed := true, recurses := true, apart := false }
def WholeTellsSaid : Prop := wholeTellsRow.holds Try.pinned (OpenSpec.ofChange wholeTellsSpec)

/-- ITS FALSE NEIGHBOUR: 'it returns false'. Refute it at one input. -/
def wholeTellsWrong : ChangeSpec := { name := "wholeTells", fn := fun _ => fun
  | [d1, d2, d3] => { results := [.lit (.bool false)], args := [d1, d2, d3] }
  | _ => none }
def WholeTellsWrongFalsely : Prop := wholeTellsRow.holds Try.pinned (OpenSpec.ofChange wholeTellsWrong)

/-- 'facetroomlaw05.WholeRing': WHATEVER THE INPUT: true; the input reads as it did. -/
def wholeRingSpec : ChangeSpec := { name := "wholeRing", fn := fun _ => fun
  | [d1, d2, d3] => { results := [.lit (.bool true)], args := [d1, d2, d3] }
  | _ => none }
def wholeRingRow : OpenClaim := { program := "ythdmfggcfkeenaa", sum := "bdf09b8fbdc1b8692db4c6888496057394d974564d74fb33ab8eecaac9cf50aa", func := "facetroom/facetroomlaw05.WholeRing", spec := "wholeRing", inPlace := ["math/bits.Add64", "math/bits.Sub64"], unfollowed := true, recurses := true, named := ["math/bits.divideError", "math/bits.overflowError"], apart := false }
def WholeRingSaid : Prop := wholeRingRow.holds Try.pinned (OpenSpec.ofChange wholeRingSpec)

/-- ITS FALSE NEIGHBOUR: 'it returns false'. Refute it at one input. -/
def wholeRingWrong : ChangeSpec := { name := "wholeRing", fn := fun _ => fun
  | [d1, d2, d3] => { results := [.lit (.bool false)], args := [d1, d2, d3] }
  | _ => none }
def WholeRingWrongFalsely : Prop := wholeRingRow.holds Try.pinned (OpenSpec.ofChange wholeRingWrong)

/-- 'facetroomlaw05.WholeOrder': WHATEVER THE INPUT: true; the input reads as it did. -/
def wholeOrderSpec : ChangeSpec := { name := "wholeOrder", fn := fun _ => fun
  | [d1, d2, d3] => { results := [.lit (.bool true)], args := [d1, d2, d3] }
  | _ => none }
def wholeOrderRow : OpenClaim := { program := "ythdmfggcfkeenaa", sum := "bdf09b8fbdc1b8692db4c6888496057394d974564d74fb33ab8eecaac9cf50aa", func := "facetroom/facetroomlaw05.WholeOrder", spec := "wholeOrder", inPlace := ["math/bits.Add64", "math/bits.Sub64"], unfollowed := true, recurses := true, named := ["math/bits.divideError", "math/bits.overflowError"], apart := false }
def WholeOrderSaid : Prop := wholeOrderRow.holds Try.pinned (OpenSpec.ofChange wholeOrderSpec)

/-- ITS FALSE NEIGHBOUR: 'it returns false'. Refute it at one input. -/
def wholeOrderWrong : ChangeSpec := { name := "wholeOrder", fn := fun _ => fun
  | [d1, d2, d3] => { results := [.lit (.bool false)], args := [d1, d2, d3] }
  | _ => none }
def WholeOrderWrongFalsely : Prop := wholeOrderRow.holds Try.pinned (OpenSpec.ofChange wholeOrderWrong)

/-- 'facetroomlaw05.WholeRounds': WHATEVER THE INPUT: true; the input reads as it did. -/
def wholeRoundsSpec : ChangeSpec := { name := "wholeRounds", fn := fun _ => fun
  | [d1, d2] => { results := [.lit (.bool true)], args := [d1, d2] }
  | _ => none }
def wholeRoundsRow : OpenClaim := { program := "ythdmfggcfkeenaa", sum := "bdf09b8fbdc1b8692db4c6888496057394d974564d74fb33ab8eecaac9cf50aa", func := "facetroom/facetroomlaw05.WholeRounds", spec := "wholeRounds", inPlace := ["math/bits.Add64", "math/bits.Sub64"], unfollowed := true, recurses := true, named := ["math/bits.divideError", "math/bits.overflowError"], apart := false }
def WholeRoundsSaid : Prop := wholeRoundsRow.holds Try.pinned (OpenSpec.ofChange wholeRoundsSpec)

/-- ITS FALSE NEIGHBOUR: 'it returns false'. Refute it at one input. -/
def wholeRoundsWrong : ChangeSpec := { name := "wholeRounds", fn := fun _ => fun
  | [d1, d2] => { results := [.lit (.bool false)], args := [d1, d2] }
  | _ => none }
def WholeRoundsWrongFalsely : Prop := wholeRoundsRow.holds Try.pinned (OpenSpec.ofChange wholeRoundsWrong)

/-- 'facetroomlaw07.VecDots': WHATEVER THE INPUT: true; the input reads as it did. -/
def vecDotsSpec : ChangeSpec := { name := "vecDots", fn := fun _ => fun
  | [d1, d2, d3, d4, d5] => { results := [.lit (.bool true)], args := [d1, d2, d3, d4, d5] }
  | _ => none }
def vecDotsRow : OpenClaim := { program := "ythdmfggcfkeenaa", sum := "bdf09b8fbdc1b8692db4c6888496057394d974564d74fb33ab8eecaac9cf50aa", func := "facetroom/facetroomlaw07.VecDots", spec := "vecDots", inPlace := ["math/bits.Add64", "math/bits.Sub64"], unfollowed := true, recurses := true, apart := false }
def VecDotsSaid : Prop := vecDotsRow.holds Try.pinned (OpenSpec.ofChange vecDotsSpec)

/-- ITS FALSE NEIGHBOUR: 'it returns false'. Refute it at one input. -/
def vecDotsWrong : ChangeSpec := { name := "vecDots", fn := fun _ => fun
  | [d1, d2, d3, d4, d5] => { results := [.lit (.bool false)], args := [d1, d2, d3, d4, d5] }
  | _ => none }
def VecDotsWrongFalsely : Prop := vecDotsRow.holds Try.pinned (OpenSpec.ofChange vecDotsWrong)

/- THE SECOND FORM. 'bulk': how many values and letters a reading holds, each counted each time it is reached (what is shared counts as often as it is met; a slice's spare places count too). A statement '..UptoSaid' is the law's where the arguments, and the package variables that the reading takes, are together of bulk at most 1048576: NARROWER than '..Said'. Prove '..Said' where nothing that the law and all that it calls make is longer than what came in: it says more and counts as full. Else prove '..UptoSaid'. A law counts once. -/
mutual
def uptoBulk {H : Type} : DataW H → Nat
  | .lit (.string bytes) => bytes.length + 1
  | .lit _ => 1
  | .nil => 1
  | .ptr d => uptoBulk d + 1
  | .slice elems spare => uptoBulkAll elems + uptoBulkAll spare + 1
  | .agg parts => uptoBulkAll parts + 1
  | .iface _ d => uptoBulk d + 1
  | .map entries => uptoBulkEntries entries + 1
  | .held _ => 1
def uptoBulkAll {H : Type} : List (DataW H) → Nat
  | [] => 0
  | d :: r => uptoBulk d + uptoBulkAll r
def uptoBulkEntries {H : Type} : List (Lit × DataW H) → Nat
  | [] => 0
  | x :: r => uptoBulkEntry x + uptoBulkEntries r
def uptoBulkEntry {H : Type} : Lit × DataW H → Nat
  | (.string bytes, d) => bytes.length + uptoBulk d + 1
  | (_, d) => uptoBulk d + 1
 end
def uptoSmall : (H : Type) → List (DataW H) → Bool := fun _ ds => decide (uptoBulkAll ds ≤ 1048576)
def OpenSpec.upto (s : _root_.Go.ChangeSpec) : _root_.Go.OpenSpec := { _root_.Go.OpenSpec.ofChange s with cond := some uptoSmall }

/-- 'facetroomlaw02.MulNames', WHERE WHAT IT READS IS OF BULK AT MOST 1048576: true; the input reads as it did. -/
def mulNamesUptoRow : OpenClaim := { program := "ythdmfggcfkeenaa", sum := "bdf09b8fbdc1b8692db4c6888496057394d974564d74fb33ab8eecaac9cf50aa", func := "facetroom/facetroomlaw02.MulNames", spec := "mulNames", inPlace := ["math/bits.Add64", "math/bits.Sub64"], unfollowed := true, recurses := true, apart := false, narrowed := true }
def MulNamesUptoSaid : Prop := mulNamesUptoRow.holds Try.pinned (OpenSpec.upto mulNamesSpec)

/-- 'facetroomlaw02.MulLong', WHERE WHAT IT READS IS OF BULK AT MOST 1048576: true; the input reads as it did. -/
def mulLongUptoRow : OpenClaim := { program := "ythdmfggcfkeenaa", sum := "bdf09b8fbdc1b8692db4c6888496057394d974564d74fb33ab8eecaac9cf50aa", func := "facetroom/facetroomlaw02.MulLong", spec := "mulLong", inPlace := ["math/bits.Add64", "math/bits.Sub64"], unfollowed := true, recurses := true, apart := false, narrowed := true }
def MulLongUptoSaid : Prop := mulLongUptoRow.holds Try.pinned (OpenSpec.upto mulLongSpec)

/-- 'facetroomlaw03.DivTwice', WHERE WHAT IT READS IS OF BULK AT MOST 1048576: true; the input reads as it did. -/
def divTwiceUptoRow : OpenClaim := { program := "ythdmfggcfkeenaa", sum := "bdf09b8fbdc1b8692db4c6888496057394d974564d74fb33ab8eecaac9cf50aa", func := "facetroom/facetroomlaw03.DivTwice", spec := "divTwice", inPlace := ["math/bits.Add64", "math/bits.Sub64"], unfollowed := true, recurses := true, named := ["math/bits.divideError", "math/bits.overflowError"], apart := false, narrowed := true }
def DivTwiceUptoSaid : Prop := divTwiceUptoRow.holds Try.pinned (OpenSpec.upto divTwiceSpec)

/-- 'facetroomlaw03.DivNames', WHERE WHAT IT READS IS OF BULK AT MOST 1048576: true; the input reads as it did. -/
def divNamesUptoRow : OpenClaim := { program := "ythdmfggcfkeenaa", sum := "bdf09b8fbdc1b8692db4c6888496057394d974564d74fb33ab8eecaac9cf50aa", func := "facetroom/facetroomlaw03.DivNames", spec := "divNames", inPlace := ["math/bits.Add64", "math/bits.Sub64"], unfollowed := true, recurses := true, named := ["math/bits.divideError", "math/bits.overflowError"], apart := false, narrowed := true }
def DivNamesUptoSaid : Prop := divNamesUptoRow.holds Try.pinned (OpenSpec.upto divNamesSpec)

/-- 'facetroomlaw03.DivTells', WHERE WHAT IT READS IS OF BULK AT MOST 1048576: true; the input reads as it did. -/
def divTellsUptoRow : OpenClaim := { program := "ythdmfggcfkeenaa", sum := "bdf09b8fbdc1b8692db4c6888496057394d974564d74fb33ab8eecaac9cf50aa", func := "facetroom/facetroomlaw03.DivTells", spec := "divTells", inPlace := ["math/bits.Add64", "math/bits.Sub64"], unfollowed := true, recurses := true, named := ["math/bits.divideError", "math/bits.overflowError"], apart := false, narrowed := true }
def DivTellsUptoSaid : Prop := divTellsUptoRow.holds Try.pinned (OpenSpec.upto divTellsSpec)

/-- 'facetroomlaw03.DivBack', WHERE WHAT IT READS IS OF BULK AT MOST 1048576: true; the input reads as it did. -/
def divBackUptoRow : OpenClaim := { program := "ythdmfggcfkeenaa", sum := "bdf09b8fbdc1b8692db4c6888496057394d974564d74fb33ab8eecaac9cf50aa", func := "facetroom/facetroomlaw03.DivBack", spec := "divBack", inPlace := ["math/bits.Add64", "math/bits.Sub64"], unfollowed := true, recurses := true, named := ["math/bits.divideError", "math/bits.overflowError"], apart := false, narrowed := true }
def DivBackUptoSaid : Prop := divBackUptoRow.holds Try.pinned (OpenSpec.upto divBackSpec)

/-- 'facetroomlaw03.DivProduct', WHERE WHAT IT READS IS OF BULK AT MOST 1048576: true; the input reads as it did. -/
def divProductUptoRow : OpenClaim := { program := "ythdmfggcfkeenaa", sum := "bdf09b8fbdc1b8692db4c6888496057394d974564d74fb33ab8eecaac9cf50aa", func := "facetroom/facetroomlaw03.DivProduct", spec := "divProduct", inPlace := ["math/bits.Add64", "math/bits.Sub64"], unfollowed := true, recurses := true, named := ["math/bits.divideError", "math/bits.overflowError"], apart := false, narrowed := true }
def DivProductUptoSaid : Prop := divProductUptoRow.holds Try.pinned (OpenSpec.upto divProductSpec)

/-- 'facetroomlaw05.WholeTells', WHERE WHAT IT READS IS OF BULK AT MOST 1048576: true; the input reads as it did. -/
def wholeTellsUptoRow : OpenClaim := { program := "ythdmfggcfkeenaa", sum := "bdf09b8fbdc1b8692db4c6888496057394d974564d74fb33ab8eecaac9cf50aa", func := "facetroom/facetroomlaw05.WholeTells", spec := "wholeTells", inPlace := ["math/bits.Add64", "math/bits.Sub64"], unfollowed := true, recurses := true, apart := false, narrowed := true }
def WholeTellsUptoSaid : Prop := wholeTellsUptoRow.holds Try.pinned (OpenSpec.upto wholeTellsSpec)

/-- 'facetroomlaw05.WholeRing', WHERE WHAT IT READS IS OF BULK AT MOST 1048576: true; the input reads as it did. -/
def wholeRingUptoRow : OpenClaim := { program := "ythdmfggcfkeenaa", sum := "bdf09b8fbdc1b8692db4c6888496057394d974564d74fb33ab8eecaac9cf50aa", func := "facetroom/facetroomlaw05.WholeRing", spec := "wholeRing", inPlace := ["math/bits.Add64", "math/bits.Sub64"], unfollowed := true, recurses := true, named := ["math/bits.divideError", "math/bits.overflowError"], apart := false, narrowed := true }
def WholeRingUptoSaid : Prop := wholeRingUptoRow.holds Try.pinned (OpenSpec.upto wholeRingSpec)

/-- 'facetroomlaw05.WholeOrder', WHERE WHAT IT READS IS OF BULK AT MOST 1048576: true; the input reads as it did. -/
def wholeOrderUptoRow : OpenClaim := { program := "ythdmfggcfkeenaa", sum := "bdf09b8fbdc1b8692db4c6888496057394d974564d74fb33ab8eecaac9cf50aa", func := "facetroom/facetroomlaw05.WholeOrder", spec := "wholeOrder", inPlace := ["math/bits.Add64", "math/bits.Sub64"], unfollowed := true, recurses := true, named := ["math/bits.divideError", "math/bits.overflowError"], apart := false, narrowed := true }
def WholeOrderUptoSaid : Prop := wholeOrderUptoRow.holds Try.pinned (OpenSpec.upto wholeOrderSpec)

/-- 'facetroomlaw05.WholeRounds', WHERE WHAT IT READS IS OF BULK AT MOST 1048576: true; the input reads as it did. -/
def wholeRoundsUptoRow : OpenClaim := { program := "ythdmfggcfkeenaa", sum := "bdf09b8fbdc1b8692db4c6888496057394d974564d74fb33ab8eecaac9cf50aa", func := "facetroom/facetroomlaw05.WholeRounds", spec := "wholeRounds", inPlace := ["math/bits.Add64", "math/bits.Sub64"], unfollowed := true, recurses := true, named := ["math/bits.divideError", "math/bits.overflowError"], apart := false, narrowed := true }
def WholeRoundsUptoSaid : Prop := wholeRoundsUptoRow.holds Try.pinned (OpenSpec.upto wholeRoundsSpec)

/-- 'facetroomlaw07.VecDots', WHERE WHAT IT READS IS OF BULK AT MOST 1048576: true; the input reads as it did. -/
def vecDotsUptoRow : OpenClaim := { program := "ythdmfggcfkeenaa", sum := "bdf09b8fbdc1b8692db4c6888496057394d974564d74fb33ab8eecaac9cf50aa", func := "facetroom/facetroomlaw07.VecDots", spec := "vecDots", inPlace := ["math/bits.Add64", "math/bits.Sub64"], unfollowed := true, recurses := true, apart := false, narrowed := true }
def VecDotsUptoSaid : Prop := vecDotsUptoRow.holds Try.pinned (OpenSpec.upto vecDotsSpec)

end Rows
end Go.Proofs.Ythdmfggcfkeenaa
