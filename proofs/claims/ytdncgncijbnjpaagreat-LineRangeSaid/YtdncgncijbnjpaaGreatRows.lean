/-
  NARROWER THAN 'FOR EVERY INPUT', by the rows' own cells (each row's printed sentence says how): LineRange: loops · LineGreater: loops · LineSound: loops · LineDoes: loops.
  DERIVED. THE GIVEN ROWS OF THIS SEAT. 4 by the template 'for every input the law returns true; each argument reads behind the call as it read before'; 0 by the template 'total and deterministic' (their statements: YtdncgncijbnjpaaGreatTotals.lean).
  GIVEN WITH THE SEED: the statements are not yours to turn. If you find one false, say at which input.
  Laid BY PROGRAM, IN A SANDBOX (cutbox-rows.mjs): the forced cells as the released guide's own fill.sh prints them over the translation b4720ce0513c5395… (all of the seat's roots in one cut). By AI agents, Wed Nov 11 2026. No macro, syntax, notation, axiom, sorry.
-/
import Derived.Test.YtdncgncijbnjpaaGreatChecked
import GoSem.Claim
import GoSem.ClaimJoined
import GoSem.ClaimMapViews
import Derived.JoinedTies
import Derived.KernelRfl
namespace Go.Proofs.YtdncgncijbnjpaaGreat
/- THE CELL 'sum', in the pinned program and in every row, IS THE sha256 OF THE DUMP (.gsa) THAT YtdncgncijbnjpaaGreatProg.lean LOADS. Nothing in Lean hashes anything: it is a label: what it is worth is what the hold of that sum in a sandbox is worth. -/
noncomputable def Tryz.pinned : Pinned := { name := "ytdncgncijbnjpaagreat", sum := "b4720ce0513c5395cfa8d4ebd19cf6bd9f2da4a56eb2bca5259f69a5036d45a0", checked := Tryz.checked }
namespace Rows
def none {H : Type} : Left H := { results := [], args := [] }

/-- 'facetroomlaw27.LineRange': WHATEVER THE INPUT: true; the input reads as it did. -/
def lineRangeSpec : ChangeSpec := { name := "lineRange", fn := fun _ => fun
  | [d1, d2, d3, d4] => { results := [.lit (.bool true)], args := [d1, d2, d3, d4] }
  | _ => none }
def lineRangeRow : OpenClaim := { program := "ytdncgncijbnjpaagreat", sum := "b4720ce0513c5395cfa8d4ebd19cf6bd9f2da4a56eb2bca5259f69a5036d45a0", func := "facetroom/facetroomlaw27.LineRange", spec := "lineRange", inPlace := ["math/bits.Add64", "math/bits.Sub64"], unfollowed := true, recurses := true, named := ["math/bits.divideError", "math/bits.overflowError"], loops := true, apart := false }
def LineRangeSaid : Prop := lineRangeRow.holds Tryz.pinned (OpenSpec.ofChange lineRangeSpec)

/-- ITS FALSE NEIGHBOUR: 'it returns false'. Refute it at one input. -/
def lineRangeWrong : ChangeSpec := { name := "lineRange", fn := fun _ => fun
  | [d1, d2, d3, d4] => { results := [.lit (.bool false)], args := [d1, d2, d3, d4] }
  | _ => none }
def LineRangeWrongFalsely : Prop := lineRangeRow.holds Tryz.pinned (OpenSpec.ofChange lineRangeWrong)

/-- 'facetroomlaw27.LineGreater': WHATEVER THE INPUT: true; the input reads as it did. -/
def lineGreaterSpec : ChangeSpec := { name := "lineGreater", fn := fun _ => fun
  | [d1, d2, d3, d4, d5, d6] => { results := [.lit (.bool true)], args := [d1, d2, d3, d4, d5, d6] }
  | _ => none }
def lineGreaterRow : OpenClaim := { program := "ytdncgncijbnjpaagreat", sum := "b4720ce0513c5395cfa8d4ebd19cf6bd9f2da4a56eb2bca5259f69a5036d45a0", func := "facetroom/facetroomlaw27.LineGreater", spec := "lineGreater", inPlace := ["math/bits.Add64", "math/bits.Sub64"], unfollowed := true, recurses := true, named := ["math/bits.divideError", "math/bits.overflowError"], loops := true, apart := false }
def LineGreaterSaid : Prop := lineGreaterRow.holds Tryz.pinned (OpenSpec.ofChange lineGreaterSpec)

/-- ITS FALSE NEIGHBOUR: 'it returns false'. Refute it at one input. -/
def lineGreaterWrong : ChangeSpec := { name := "lineGreater", fn := fun _ => fun
  | [d1, d2, d3, d4, d5, d6] => { results := [.lit (.bool false)], args := [d1, d2, d3, d4, d5, d6] }
  | _ => none }
def LineGreaterWrongFalsely : Prop := lineGreaterRow.holds Tryz.pinned (OpenSpec.ofChange lineGreaterWrong)

/-- 'facetroomlaw27.LineSound': WHATEVER THE INPUT: true; the input reads as it did. -/
def lineSoundSpec : ChangeSpec := { name := "lineSound", fn := fun _ => fun
  | [d1, d2, d3, d4, d5] => { results := [.lit (.bool true)], args := [d1, d2, d3, d4, d5] }
  | _ => none }
def lineSoundRow : OpenClaim := { program := "ytdncgncijbnjpaagreat", sum := "b4720ce0513c5395cfa8d4ebd19cf6bd9f2da4a56eb2bca5259f69a5036d45a0", func := "facetroom/facetroomlaw27.LineSound", spec := "lineSound", inPlace := ["math/bits.Add64", "math/bits.Sub64"], unfollowed := true, recurses := true, named := ["math/bits.divideError", "math/bits.overflowError"], loops := true, apart := false }
def LineSoundSaid : Prop := lineSoundRow.holds Tryz.pinned (OpenSpec.ofChange lineSoundSpec)

/-- ITS FALSE NEIGHBOUR: 'it returns false'. Refute it at one input. -/
def lineSoundWrong : ChangeSpec := { name := "lineSound", fn := fun _ => fun
  | [d1, d2, d3, d4, d5] => { results := [.lit (.bool false)], args := [d1, d2, d3, d4, d5] }
  | _ => none }
def LineSoundWrongFalsely : Prop := lineSoundRow.holds Tryz.pinned (OpenSpec.ofChange lineSoundWrong)

/-- 'facetroomlaw27.LineDoes': WHATEVER THE INPUT: true; the input reads as it did. -/
def lineDoesSpec : ChangeSpec := { name := "lineDoes", fn := fun _ => fun
  | [d1, d2, d3, d4, d5] => { results := [.lit (.bool true)], args := [d1, d2, d3, d4, d5] }
  | _ => none }
def lineDoesRow : OpenClaim := { program := "ytdncgncijbnjpaagreat", sum := "b4720ce0513c5395cfa8d4ebd19cf6bd9f2da4a56eb2bca5259f69a5036d45a0", func := "facetroom/facetroomlaw27.LineDoes", spec := "lineDoes", inPlace := ["math/bits.Add64", "math/bits.Sub64"], unfollowed := true, recurses := true, named := ["math/bits.divideError", "math/bits.overflowError"], loops := true, apart := false }
def LineDoesSaid : Prop := lineDoesRow.holds Tryz.pinned (OpenSpec.ofChange lineDoesSpec)

/-- ITS FALSE NEIGHBOUR: 'it returns false'. Refute it at one input. -/
def lineDoesWrong : ChangeSpec := { name := "lineDoes", fn := fun _ => fun
  | [d1, d2, d3, d4, d5] => { results := [.lit (.bool false)], args := [d1, d2, d3, d4, d5] }
  | _ => none }
def LineDoesWrongFalsely : Prop := lineDoesRow.holds Tryz.pinned (OpenSpec.ofChange lineDoesWrong)

/- THE SECOND FORM. 'bulk': how many values and letters a reading holds, each counted each time it is reached (what is shared counts as often as it is met; a slice's spare places count too). A statement '..UptoSaid' is the law's where the arguments, and the package variables that the reading takes, are together of bulk at most 1048576: NARROWER than '..Said'. Prove '..Said' where nothing that the law and all that it calls make is longer than what came in: it says more and counts as full. Else prove '..UptoSaid'. A law counts once. -/
mutual
def uptoBulk {H : Type} : DataW H → Nat
  | .lit (.string bytes) => bytes.length + 1
  | .lit _ => 1
  | .nil => 1
  | .ptr d => uptoBulk d + 1
  | .slice elems spare => uptoBulkAll elems + uptoBulkAll spare + 1
  | .agg parts => uptoBulkAll parts + 1
  | .iface _ d => uptoBulk d + 1
  | .map entries => uptoBulkEntries entries + 1
  | .held _ => 1
def uptoBulkAll {H : Type} : List (DataW H) → Nat
  | [] => 0
  | d :: r => uptoBulk d + uptoBulkAll r
def uptoBulkEntries {H : Type} : List (Lit × DataW H) → Nat
  | [] => 0
  | x :: r => uptoBulkEntry x + uptoBulkEntries r
def uptoBulkEntry {H : Type} : Lit × DataW H → Nat
  | (.string bytes, d) => bytes.length + uptoBulk d + 1
  | (_, d) => uptoBulk d + 1
 end
def uptoSmall : (H : Type) → List (DataW H) → Bool := fun _ ds => decide (uptoBulkAll ds ≤ 1048576)
def OpenSpec.upto (s : _root_.Go.ChangeSpec) : _root_.Go.OpenSpec := { _root_.Go.OpenSpec.ofChange s with cond := some uptoSmall }

/-- 'facetroomlaw27.LineRange', WHERE WHAT IT READS IS OF BULK AT MOST 1048576: true; the input reads as it did. -/
def lineRangeUptoRow : OpenClaim := { program := "ytdncgncijbnjpaagreat", sum := "b4720ce0513c5395cfa8d4ebd19cf6bd9f2da4a56eb2bca5259f69a5036d45a0", func := "facetroom/facetroomlaw27.LineRange", spec := "lineRange", inPlace := ["math/bits.Add64", "math/bits.Sub64"], unfollowed := true, recurses := true, named := ["math/bits.divideError", "math/bits.overflowError"], loops := true, apart := false, narrowed := true }
def LineRangeUptoSaid : Prop := lineRangeUptoRow.holds Tryz.pinned (OpenSpec.upto lineRangeSpec)

/-- 'facetroomlaw27.LineGreater', WHERE WHAT IT READS IS OF BULK AT MOST 1048576: true; the input reads as it did. -/
def lineGreaterUptoRow : OpenClaim := { program := "ytdncgncijbnjpaagreat", sum := "b4720ce0513c5395cfa8d4ebd19cf6bd9f2da4a56eb2bca5259f69a5036d45a0", func := "facetroom/facetroomlaw27.LineGreater", spec := "lineGreater", inPlace := ["math/bits.Add64", "math/bits.Sub64"], unfollowed := true, recurses := true, named := ["math/bits.divideError", "math/bits.overflowError"], loops := true, apart := false, narrowed := true }
def LineGreaterUptoSaid : Prop := lineGreaterUptoRow.holds Tryz.pinned (OpenSpec.upto lineGreaterSpec)

/-- 'facetroomlaw27.LineSound', WHERE WHAT IT READS IS OF BULK AT MOST 1048576: true; the input reads as it did. -/
def lineSoundUptoRow : OpenClaim := { program := "ytdncgncijbnjpaagreat", sum := "b4720ce0513c5395cfa8d4ebd19cf6bd9f2da4a56eb2bca5259f69a5036d45a0", func := "facetroom/facetroomlaw27.LineSound", spec := "lineSound", inPlace := ["math/bits.Add64", "math/bits.Sub64"], unfollowed := true, recurses := true, named := ["math/bits.divideError", "math/bits.overflowError"], loops := true, apart := false, narrowed := true }
def LineSoundUptoSaid : Prop := lineSoundUptoRow.holds Tryz.pinned (OpenSpec.upto lineSoundSpec)

/-- 'facetroomlaw27.LineDoes', WHERE WHAT IT READS IS OF BULK AT MOST 1048576: true; the input reads as it did. -/
def lineDoesUptoRow : OpenClaim := { program := "ytdncgncijbnjpaagreat", sum := "b4720ce0513c5395cfa8d4ebd19cf6bd9f2da4a56eb2bca5259f69a5036d45a0", func := "facetroom/facetroomlaw27.LineDoes", spec := "lineDoes", inPlace := ["math/bits.Add64", "math/bits.Sub64"], unfollowed := true, recurses := true, named := ["math/bits.divideError", "math/bits.overflowError"], loops := true, apart := false, narrowed := true }
def LineDoesUptoSaid : Prop := lineDoesUptoRow.holds Tryz.pinned (OpenSpec.upto lineDoesSpec)

end Rows
end Go.Proofs.YtdncgncijbnjpaaGreat
