/-
  No cell of these rows narrows 'for every input' (looked for: loops, veiled, ifaces, maps, wideKeys, modest, calm, conditions, laid).
  DERIVED. THE GIVEN ROWS OF THIS SEAT. 10 by the template 'for every input the law returns true; each argument reads behind the call as it read before'; 0 by the template 'total and deterministic' (their statements: YtjnjlgknmocdlaaTotals.lean).
  GIVEN WITH THE SEED: the statements are not yours to turn. If you find one false, say at which input.
  Laid BY PROGRAM, IN A SANDBOX (cutbox-rows.mjs): the forced cells as the released guide's own fill.sh prints them over the translation 3713e5489864b824… (all of the seat's roots in one cut). By AI agents, Wed Nov 11 2026. No macro, syntax, notation, axiom, sorry.
-/
import Derived.Test.YtjnjlgknmocdlaaChecked
import GoSem.Claim
import GoSem.ClaimJoined
import GoSem.ClaimMapViews
import Derived.JoinedTies
import Derived.KernelRfl
namespace Go.Proofs.Ytjnjlgknmocdlaa
/- THE CELL 'sum', in the pinned program and in every row, IS THE sha256 OF THE DUMP (.gsa) THAT YtjnjlgknmocdlaaProg.lean LOADS. Nothing in Lean hashes anything: it is a label: what it is worth is what the hold of that sum in a sandbox is worth. -/
noncomputable def Try.pinned : Pinned := { name := "ytjnjlgknmocdlaa", sum := "3713e5489864b824a6b27cb0fc1f85616442890845f81882b71043e12026b713", checked := Try.checked }
namespace Rows
def none {H : Type} : Left H := { results := [], args := [] }

/-- 'facetroomlaw06.RatOf': WHATEVER THE INPUT: true; the input reads as it did. -/
def ratOfSpec : ChangeSpec := { name := "ratOf", fn := fun _ => fun
  | [d1, d2] => { results := [.lit (.bool true)], args := [d1, d2] }
  | _ => none }
def ratOfRow : OpenClaim := { program := "ytjnjlgknmocdlaa", sum := "3713e5489864b824a6b27cb0fc1f85616442890845f81882b71043e12026b713", func := "facetroom/facetroomlaw06.RatOf", spec := "ratOf", inPlace := ["math/bits.Add64", "math/bits.Sub64"], unfollowed := true, recurses := true, named := ["math/bits.divideError", "math/bits.overflowError"], apart := false }
def RatOfSaid : Prop := ratOfRow.holds Try.pinned (OpenSpec.ofChange ratOfSpec)

/-- ITS FALSE NEIGHBOUR: 'it returns false'. Refute it at one input. -/
def ratOfWrong : ChangeSpec := { name := "ratOf", fn := fun _ => fun
  | [d1, d2] => { results := [.lit (.bool false)], args := [d1, d2] }
  | _ => none }
def RatOfWrongFalsely : Prop := ratOfRow.holds Try.pinned (OpenSpec.ofChange ratOfWrong)

/-- 'facetroomlaw19.SatMasks': WHATEVER THE INPUT: true; the input reads as it did. -/
def satMasksSpec : ChangeSpec := { name := "satMasks", fn := fun _ => fun
  | [d1, d2, d3, d4] => { results := [.lit (.bool true)], args := [d1, d2, d3, d4] }
  | _ => none }
def satMasksRow : OpenClaim := { program := "ytjnjlgknmocdlaa", sum := "3713e5489864b824a6b27cb0fc1f85616442890845f81882b71043e12026b713", func := "facetroom/facetroomlaw19.SatMasks", spec := "satMasks", unfollowed := true, recurses := true, apart := false }
def SatMasksSaid : Prop := satMasksRow.holds Try.pinned (OpenSpec.ofChange satMasksSpec)

/-- ITS FALSE NEIGHBOUR: 'it returns false'. Refute it at one input. -/
def satMasksWrong : ChangeSpec := { name := "satMasks", fn := fun _ => fun
  | [d1, d2, d3, d4] => { results := [.lit (.bool false)], args := [d1, d2, d3, d4] }
  | _ => none }
def SatMasksWrongFalsely : Prop := satMasksRow.holds Try.pinned (OpenSpec.ofChange satMasksWrong)

/-- 'facetroomlaw19.SatTells': WHATEVER THE INPUT: true; the input reads as it did. -/
def satTellsSpec : ChangeSpec := { name := "satTells", fn := fun _ => fun
  | [d1, d2, d3] => { results := [.lit (.bool true)], args := [d1, d2, d3] }
  | _ => none }
def satTellsRow : OpenClaim := { program := "ytjnjlgknmocdlaa", sum := "3713e5489864b824a6b27cb0fc1f85616442890845f81882b71043e12026b713", func := "facetroom/facetroomlaw19.SatTells", spec := "satTells", inPlace := ["math/bits.Add64", "math/bits.Sub64"], unfollowed := true, recurses := true, apart := false }
def SatTellsSaid : Prop := satTellsRow.holds Try.pinned (OpenSpec.ofChange satTellsSpec)

/-- ITS FALSE NEIGHBOUR: 'it returns false'. Refute it at one input. -/
def satTellsWrong : ChangeSpec := { name := "satTells", fn := fun _ => fun
  | [d1, d2, d3] => { results := [.lit (.bool false)], args := [d1, d2, d3] }
  | _ => none }
def SatTellsWrongFalsely : Prop := satTellsRow.holds Try.pinned (OpenSpec.ofChange satTellsWrong)

/-- 'facetroomlaw19.SatSigns': WHATEVER THE INPUT: true; the input reads as it did. -/
def satSignsSpec : ChangeSpec := { name := "satSigns", fn := fun _ => fun
  | [d1, d2] => { results := [.lit (.bool true)], args := [d1, d2] }
  | _ => none }
def satSignsRow : OpenClaim := { program := "ytjnjlgknmocdlaa", sum := "3713e5489864b824a6b27cb0fc1f85616442890845f81882b71043e12026b713", func := "facetroom/facetroomlaw19.SatSigns", spec := "satSigns", inPlace := ["math/bits.Add64", "math/bits.Sub64"], unfollowed := true, recurses := true, apart := false }
def SatSignsSaid : Prop := satSignsRow.holds Try.pinned (OpenSpec.ofChange satSignsSpec)

/-- ITS FALSE NEIGHBOUR: 'it returns false'. Refute it at one input. -/
def satSignsWrong : ChangeSpec := { name := "satSigns", fn := fun _ => fun
  | [d1, d2] => { results := [.lit (.bool false)], args := [d1, d2] }
  | _ => none }
def SatSignsWrongFalsely : Prop := satSignsRow.holds Try.pinned (OpenSpec.ofChange satSignsWrong)

/-- 'facetroomlaw19.SatMost': WHATEVER THE INPUT: true; the input reads as it did. -/
def satMostSpec : ChangeSpec := { name := "satMost", fn := fun _ => fun
  | [d] => { results := [.lit (.bool true)], args := [d] }
  | _ => none }
def satMostRow : OpenClaim := { program := "ytjnjlgknmocdlaa", sum := "3713e5489864b824a6b27cb0fc1f85616442890845f81882b71043e12026b713", func := "facetroom/facetroomlaw19.SatMost", spec := "satMost", inPlace := ["math/bits.Add64", "math/bits.Sub64"], unfollowed := true, recurses := true, apart := false }
def SatMostSaid : Prop := satMostRow.holds Try.pinned (OpenSpec.ofChange satMostSpec)

/-- ITS FALSE NEIGHBOUR: 'it returns false'. Refute it at one input. -/
def satMostWrong : ChangeSpec := { name := "satMost", fn := fun _ => fun
  | [d] => { results := [.lit (.bool false)], args := [d] }
  | _ => none }
def SatMostWrongFalsely : Prop := satMostRow.holds Try.pinned (OpenSpec.ofChange satMostWrong)

/-- 'facetroomlaw19.SatNear': WHATEVER THE INPUT: true; the input reads as it did. -/
def satNearSpec : ChangeSpec := { name := "satNear", fn := fun _ => fun
  | [d1, d2, d3] => { results := [.lit (.bool true)], args := [d1, d2, d3] }
  | _ => none }
def satNearRow : OpenClaim := { program := "ytjnjlgknmocdlaa", sum := "3713e5489864b824a6b27cb0fc1f85616442890845f81882b71043e12026b713", func := "facetroom/facetroomlaw19.SatNear", spec := "satNear", inPlace := ["math/bits.Add64", "math/bits.Sub64"], unfollowed := true, recurses := true, apart := false }
def SatNearSaid : Prop := satNearRow.holds Try.pinned (OpenSpec.ofChange satNearSpec)

/-- ITS FALSE NEIGHBOUR: 'it returns false'. Refute it at one input. -/
def satNearWrong : ChangeSpec := { name := "satNear", fn := fun _ => fun
  | [d1, d2, d3] => { results := [.lit (.bool false)], args := [d1, d2, d3] }
  | _ => none }
def SatNearWrongFalsely : Prop := satNearRow.holds Try.pinned (OpenSpec.ofChange satNearWrong)

/-- 'facetroomlaw19.SatTurns': WHATEVER THE INPUT: true; the input reads as it did. -/
def satTurnsSpec : ChangeSpec := { name := "satTurns", fn := fun _ => fun
  | [d1, d2] => { results := [.lit (.bool true)], args := [d1, d2] }
  | _ => none }
def satTurnsRow : OpenClaim := { program := "ytjnjlgknmocdlaa", sum := "3713e5489864b824a6b27cb0fc1f85616442890845f81882b71043e12026b713", func := "facetroom/facetroomlaw19.SatTurns", spec := "satTurns", inPlace := ["math/bits.Add64", "math/bits.Sub64"], unfollowed := true, recurses := true, apart := false }
def SatTurnsSaid : Prop := satTurnsRow.holds Try.pinned (OpenSpec.ofChange satTurnsSpec)

/-- ITS FALSE NEIGHBOUR: 'it returns false'. Refute it at one input. -/
def satTurnsWrong : ChangeSpec := { name := "satTurns", fn := fun _ => fun
  | [d1, d2] => { results := [.lit (.bool false)], args := [d1, d2] }
  | _ => none }
def SatTurnsWrongFalsely : Prop := satTurnsRow.holds Try.pinned (OpenSpec.ofChange satTurnsWrong)

/-- 'facetroomlaw19.SatNames': WHATEVER THE INPUT: true; the input reads as it did. -/
def satNamesSpec : ChangeSpec := { name := "satNames", fn := fun _ => fun
  | [] => { results := [.lit (.bool true)], args := [] }
  | _ => none }
def satNamesRow : OpenClaim := { program := "ytjnjlgknmocdlaa", sum := "3713e5489864b824a6b27cb0fc1f85616442890845f81882b71043e12026b713", func := "facetroom/facetroomlaw19.SatNames", spec := "satNames", inPlace := ["math/bits.Add64", "math/bits.Sub64"], unfollowed := true, recurses := true, apart := false }
def SatNamesSaid : Prop := satNamesRow.holds Try.pinned (OpenSpec.ofChange satNamesSpec)

/-- ITS FALSE NEIGHBOUR: 'it returns false'. Refute it at one input. -/
def satNamesWrong : ChangeSpec := { name := "satNames", fn := fun _ => fun
  | [] => { results := [.lit (.bool false)], args := [] }
  | _ => none }
def SatNamesWrongFalsely : Prop := satNamesRow.holds Try.pinned (OpenSpec.ofChange satNamesWrong)

/-- 'facetroomlaw16.ItvTells': WHATEVER THE INPUT: true; the input reads as it did. -/
def itvTellsSpec : ChangeSpec := { name := "itvTells", fn := fun _ => fun
  | [d1, d2, d3, d4, d5] => { results := [.lit (.bool true)], args := [d1, d2, d3, d4, d5] }
  | _ => none }
def itvTellsRow : OpenClaim := { program := "ytjnjlgknmocdlaa", sum := "3713e5489864b824a6b27cb0fc1f85616442890845f81882b71043e12026b713", func := "facetroom/facetroomlaw16.ItvTells", spec := "itvTells", inPlace := ["math/bits.Add64", "math/bits.Sub64"], unfollowed := true, recurses := true, apart := false }
def ItvTellsSaid : Prop := itvTellsRow.holds Try.pinned (OpenSpec.ofChange itvTellsSpec)

/-- ITS FALSE NEIGHBOUR: 'it returns false'. Refute it at one input. -/
def itvTellsWrong : ChangeSpec := { name := "itvTells", fn := fun _ => fun
  | [d1, d2, d3, d4, d5] => { results := [.lit (.bool false)], args := [d1, d2, d3, d4, d5] }
  | _ => none }
def ItvTellsWrongFalsely : Prop := itvTellsRow.holds Try.pinned (OpenSpec.ofChange itvTellsWrong)

/-- 'facetroomlaw16.ItvLattice': WHATEVER THE INPUT: true; the input reads as it did. -/
def itvLatticeSpec : ChangeSpec := { name := "itvLattice", fn := fun _ => fun
  | [d1, d2, d3] => { results := [.lit (.bool true)], args := [d1, d2, d3] }
  | _ => none }
def itvLatticeRow : OpenClaim := { program := "ytjnjlgknmocdlaa", sum := "3713e5489864b824a6b27cb0fc1f85616442890845f81882b71043e12026b713", func := "facetroom/facetroomlaw16.ItvLattice", spec := "itvLattice", inPlace := ["math/bits.Add64", "math/bits.Sub64"], unfollowed := true, recurses := true, named := ["math/bits.divideError", "math/bits.overflowError"], apart := false }
def ItvLatticeSaid : Prop := itvLatticeRow.holds Try.pinned (OpenSpec.ofChange itvLatticeSpec)

/-- ITS FALSE NEIGHBOUR: 'it returns false'. Refute it at one input. -/
def itvLatticeWrong : ChangeSpec := { name := "itvLattice", fn := fun _ => fun
  | [d1, d2, d3] => { results := [.lit (.bool false)], args := [d1, d2, d3] }
  | _ => none }
def ItvLatticeWrongFalsely : Prop := itvLatticeRow.holds Try.pinned (OpenSpec.ofChange itvLatticeWrong)

/- THE SECOND FORM. 'bulk': how many values and letters a reading holds, each counted each time it is reached (what is shared counts as often as it is met; a slice's spare places count too). A statement '..UptoSaid' is the law's where the arguments, and the package variables that the reading takes, are together of bulk at most 1048576: NARROWER than '..Said'. Prove '..Said' where nothing that the law and all that it calls make is longer than what came in: it says more and counts as full. Else prove '..UptoSaid'. A law counts once. -/
mutual
def uptoBulk {H : Type} : DataW H → Nat
  | .lit (.string bytes) => bytes.length + 1
  | .lit _ => 1
  | .nil => 1
  | .ptr d => uptoBulk d + 1
  | .slice elems spare => uptoBulkAll elems + uptoBulkAll spare + 1
  | .agg parts => uptoBulkAll parts + 1
  | .iface _ d => uptoBulk d + 1
  | .map entries => uptoBulkEntries entries + 1
  | .held _ => 1
def uptoBulkAll {H : Type} : List (DataW H) → Nat
  | [] => 0
  | d :: r => uptoBulk d + uptoBulkAll r
def uptoBulkEntries {H : Type} : List (Lit × DataW H) → Nat
  | [] => 0
  | x :: r => uptoBulkEntry x + uptoBulkEntries r
def uptoBulkEntry {H : Type} : Lit × DataW H → Nat
  | (.string bytes, d) => bytes.length + uptoBulk d + 1
  | (_, d) => uptoBulk d + 1
 end
def uptoSmall : (H : Type) → List (DataW H) → Bool := fun _ ds => decide (uptoBulkAll ds ≤ 1048576)
def OpenSpec.upto (s : _root_.Go.ChangeSpec) : _root_.Go.OpenSpec := { _root_.Go.OpenSpec.ofChange s with cond := some uptoSmall }

/-- 'facetroomlaw06.RatOf', WHERE WHAT IT READS IS OF BULK AT MOST 1048576: true; the input reads as it did. -/
def ratOfUptoRow : OpenClaim := { program := "ytjnjlgknmocdlaa", sum := "3713e5489864b824a6b27cb0fc1f85616442890845f81882b71043e12026b713", func := "facetroom/facetroomlaw06.RatOf", spec := "ratOf", inPlace := ["math/bits.Add64", "math/bits.Sub64"], unfollowed := true, recurses := true, named := ["math/bits.divideError", "math/bits.overflowError"], apart := false, narrowed := true }
def RatOfUptoSaid : Prop := ratOfUptoRow.holds Try.pinned (OpenSpec.upto ratOfSpec)

/-- 'facetroomlaw19.SatMasks', WHERE WHAT IT READS IS OF BULK AT MOST 1048576: true; the input reads as it did. -/
def satMasksUptoRow : OpenClaim := { program := "ytjnjlgknmocdlaa", sum := "3713e5489864b824a6b27cb0fc1f85616442890845f81882b71043e12026b713", func := "facetroom/facetroomlaw19.SatMasks", spec := "satMasks", unfollowed := true, recurses := true, apart := false, narrowed := true }
def SatMasksUptoSaid : Prop := satMasksUptoRow.holds Try.pinned (OpenSpec.upto satMasksSpec)

/-- 'facetroomlaw19.SatTells', WHERE WHAT IT READS IS OF BULK AT MOST 1048576: true; the input reads as it did. -/
def satTellsUptoRow : OpenClaim := { program := "ytjnjlgknmocdlaa", sum := "3713e5489864b824a6b27cb0fc1f85616442890845f81882b71043e12026b713", func := "facetroom/facetroomlaw19.SatTells", spec := "satTells", inPlace := ["math/bits.Add64", "math/bits.Sub64"], unfollowed := true, recurses := true, apart := false, narrowed := true }
def SatTellsUptoSaid : Prop := satTellsUptoRow.holds Try.pinned (OpenSpec.upto satTellsSpec)

/-- 'facetroomlaw19.SatSigns', WHERE WHAT IT READS IS OF BULK AT MOST 1048576: true; the input reads as it did. -/
def satSignsUptoRow : OpenClaim := { program := "ytjnjlgknmocdlaa", sum := "3713e5489864b824a6b27cb0fc1f85616442890845f81882b71043e12026b713", func := "facetroom/facetroomlaw19.SatSigns", spec := "satSigns", inPlace := ["math/bits.Add64", "math/bits.Sub64"], unfollowed := true, recurses := true, apart := false, narrowed := true }
def SatSignsUptoSaid : Prop := satSignsUptoRow.holds Try.pinned (OpenSpec.upto satSignsSpec)

/-- 'facetroomlaw19.SatMost', WHERE WHAT IT READS IS OF BULK AT MOST 1048576: true; the input reads as it did. -/
def satMostUptoRow : OpenClaim := { program := "ytjnjlgknmocdlaa", sum := "3713e5489864b824a6b27cb0fc1f85616442890845f81882b71043e12026b713", func := "facetroom/facetroomlaw19.SatMost", spec := "satMost", inPlace := ["math/bits.Add64", "math/bits.Sub64"], unfollowed := true, recurses := true, apart := false, narrowed := true }
def SatMostUptoSaid : Prop := satMostUptoRow.holds Try.pinned (OpenSpec.upto satMostSpec)

/-- 'facetroomlaw19.SatNear', WHERE WHAT IT READS IS OF BULK AT MOST 1048576: true; the input reads as it did. -/
def satNearUptoRow : OpenClaim := { program := "ytjnjlgknmocdlaa", sum := "3713e5489864b824a6b27cb0fc1f85616442890845f81882b71043e12026b713", func := "facetroom/facetroomlaw19.SatNear", spec := "satNear", inPlace := ["math/bits.Add64", "math/bits.Sub64"], unfollowed := true, recurses := true, apart := false, narrowed := true }
def SatNearUptoSaid : Prop := satNearUptoRow.holds Try.pinned (OpenSpec.upto satNearSpec)

/-- 'facetroomlaw19.SatTurns', WHERE WHAT IT READS IS OF BULK AT MOST 1048576: true; the input reads as it did. -/
def satTurnsUptoRow : OpenClaim := { program := "ytjnjlgknmocdlaa", sum := "3713e5489864b824a6b27cb0fc1f85616442890845f81882b71043e12026b713", func := "facetroom/facetroomlaw19.SatTurns", spec := "satTurns", inPlace := ["math/bits.Add64", "math/bits.Sub64"], unfollowed := true, recurses := true, apart := false, narrowed := true }
def SatTurnsUptoSaid : Prop := satTurnsUptoRow.holds Try.pinned (OpenSpec.upto satTurnsSpec)

/-- 'facetroomlaw19.SatNames', WHERE WHAT IT READS IS OF BULK AT MOST 1048576: true; the input reads as it did. -/
def satNamesUptoRow : OpenClaim := { program := "ytjnjlgknmocdlaa", sum := "3713e5489864b824a6b27cb0fc1f85616442890845f81882b71043e12026b713", func := "facetroom/facetroomlaw19.SatNames", spec := "satNames", inPlace := ["math/bits.Add64", "math/bits.Sub64"], unfollowed := true, recurses := true, apart := false, narrowed := true }
def SatNamesUptoSaid : Prop := satNamesUptoRow.holds Try.pinned (OpenSpec.upto satNamesSpec)

/-- 'facetroomlaw16.ItvTells', WHERE WHAT IT READS IS OF BULK AT MOST 1048576: true; the input reads as it did. -/
def itvTellsUptoRow : OpenClaim := { program := "ytjnjlgknmocdlaa", sum := "3713e5489864b824a6b27cb0fc1f85616442890845f81882b71043e12026b713", func := "facetroom/facetroomlaw16.ItvTells", spec := "itvTells", inPlace := ["math/bits.Add64", "math/bits.Sub64"], unfollowed := true, recurses := true, apart := false, narrowed := true }
def ItvTellsUptoSaid : Prop := itvTellsUptoRow.holds Try.pinned (OpenSpec.upto itvTellsSpec)

/-- 'facetroomlaw16.ItvLattice', WHERE WHAT IT READS IS OF BULK AT MOST 1048576: true; the input reads as it did. -/
def itvLatticeUptoRow : OpenClaim := { program := "ytjnjlgknmocdlaa", sum := "3713e5489864b824a6b27cb0fc1f85616442890845f81882b71043e12026b713", func := "facetroom/facetroomlaw16.ItvLattice", spec := "itvLattice", inPlace := ["math/bits.Add64", "math/bits.Sub64"], unfollowed := true, recurses := true, named := ["math/bits.divideError", "math/bits.overflowError"], apart := false, narrowed := true }
def ItvLatticeUptoSaid : Prop := itvLatticeUptoRow.holds Try.pinned (OpenSpec.upto itvLatticeSpec)

end Rows
end Go.Proofs.Ytjnjlgknmocdlaa
