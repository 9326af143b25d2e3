/-
  No cell of these rows narrows 'for every input' (looked for: loops, veiled, ifaces, maps, wideKeys, modest, calm, conditions, laid).
  DERIVED. THE GIVEN ROWS OF THIS SEAT. 11 by the template 'for every input the law returns true; each argument reads behind the call as it read before'; 0 by the template 'total and deterministic' (their statements: YtmeknjfffhblaaaTotals.lean).
  GIVEN WITH THE SEED: the statements are not yours to turn. If you find one false, say at which input.
  Laid BY PROGRAM, IN A SANDBOX (cutbox-rows.mjs): the forced cells as the released guide's own fill.sh prints them over the translation 1524aba2de7e69f8… (all of the seat's roots in one cut). By AI agents, Wed Nov 11 2026. No macro, syntax, notation, axiom, sorry.
-/
import Derived.Test.YtmeknjfffhblaaaChecked
import GoSem.Claim
import GoSem.ClaimJoined
import GoSem.ClaimMapViews
import Derived.JoinedTies
import Derived.KernelRfl
namespace Go.Proofs.Ytmeknjfffhblaaa
/- THE CELL 'sum', in the pinned program and in every row, IS THE sha256 OF THE DUMP (.gsa) THAT YtmeknjfffhblaaaProg.lean LOADS. Nothing in Lean hashes anything: it is a label: what it is worth is what the hold of that sum in a sandbox is worth. -/
noncomputable def Try.pinned : Pinned := { name := "ytmeknjfffhblaaa", sum := "1524aba2de7e69f8eac98d4e918bc83887e3e04e98151b1a2e2601598f9698bb", checked := Try.checked }
namespace Rows
def none {H : Type} : Left H := { results := [], args := [] }

/-- 'facetroomlaw07.VecOrder': WHATEVER THE INPUT: true; the input reads as it did. -/
def vecOrderSpec : ChangeSpec := { name := "vecOrder", fn := fun _ => fun
  | [d1, d2, d3] => { results := [.lit (.bool true)], args := [d1, d2, d3] }
  | _ => none }
def vecOrderRow : OpenClaim := { program := "ytmeknjfffhblaaa", sum := "1524aba2de7e69f8eac98d4e918bc83887e3e04e98151b1a2e2601598f9698bb", func := "facetroom/facetroomlaw07.VecOrder", spec := "vecOrder", inPlace := ["math/bits.Add64", "math/bits.Sub64"], unfollowed := true, recurses := true, apart := false }
def VecOrderSaid : Prop := vecOrderRow.holds Try.pinned (OpenSpec.ofChange vecOrderSpec)

/-- ITS FALSE NEIGHBOUR: 'it returns false'. Refute it at one input. -/
def vecOrderWrong : ChangeSpec := { name := "vecOrder", fn := fun _ => fun
  | [d1, d2, d3] => { results := [.lit (.bool false)], args := [d1, d2, d3] }
  | _ => none }
def VecOrderWrongFalsely : Prop := vecOrderRow.holds Try.pinned (OpenSpec.ofChange vecOrderWrong)

/-- 'facetroomlaw07.VecPrime': WHATEVER THE INPUT: true; the input reads as it did. -/
def vecPrimeSpec : ChangeSpec := { name := "vecPrime", fn := fun _ => fun
  | [d1, d2] => { results := [.lit (.bool true)], args := [d1, d2] }
  | _ => none }
def vecPrimeRow : OpenClaim := { program := "ytmeknjfffhblaaa", sum := "1524aba2de7e69f8eac98d4e918bc83887e3e04e98151b1a2e2601598f9698bb", func := "facetroom/facetroomlaw07.VecPrime", spec := "vecPrime", inPlace := ["math/bits.Add64", "math/bits.Sub64"], unfollowed := true, recurses := true, named := ["math/bits.divideError", "math/bits.overflowError"], apart := false }
def VecPrimeSaid : Prop := vecPrimeRow.holds Try.pinned (OpenSpec.ofChange vecPrimeSpec)

/-- ITS FALSE NEIGHBOUR: 'it returns false'. Refute it at one input. -/
def vecPrimeWrong : ChangeSpec := { name := "vecPrime", fn := fun _ => fun
  | [d1, d2] => { results := [.lit (.bool false)], args := [d1, d2] }
  | _ => none }
def VecPrimeWrongFalsely : Prop := vecPrimeRow.holds Try.pinned (OpenSpec.ofChange vecPrimeWrong)

/-- 'facetroomlaw07.VecNames': WHATEVER THE INPUT: true; the input reads as it did. -/
def vecNamesSpec : ChangeSpec := { name := "vecNames", fn := fun _ => fun
  | [] => { results := [.lit (.bool true)], args := [] }
  | _ => none }
def vecNamesRow : OpenClaim := { program := "ytmeknjfffhblaaa", sum := "1524aba2de7e69f8eac98d4e918bc83887e3e04e98151b1a2e2601598f9698bb", func := "facetroom/facetroomlaw07.VecNames", spec := "vecNames", inPlace := ["math/bits.Add64", "math/bits.Sub64"], unfollowed := true, recurses := true, named := ["math/bits.divideError", "math/bits.overflowError"], apart := false }
def VecNamesSaid : Prop := vecNamesRow.holds Try.pinned (OpenSpec.ofChange vecNamesSpec)

/-- ITS FALSE NEIGHBOUR: 'it returns false'. Refute it at one input. -/
def vecNamesWrong : ChangeSpec := { name := "vecNames", fn := fun _ => fun
  | [] => { results := [.lit (.bool false)], args := [] }
  | _ => none }
def VecNamesWrongFalsely : Prop := vecNamesRow.holds Try.pinned (OpenSpec.ofChange vecNamesWrong)

/-- 'facetroomlaw04.GcdTells': WHATEVER THE INPUT: true; the input reads as it did. -/
def gcdTellsSpec : ChangeSpec := { name := "gcdTells", fn := fun _ => fun
  | [d1, d2] => { results := [.lit (.bool true)], args := [d1, d2] }
  | _ => none }
def gcdTellsRow : OpenClaim := { program := "ytmeknjfffhblaaa", sum := "1524aba2de7e69f8eac98d4e918bc83887e3e04e98151b1a2e2601598f9698bb", func := "facetroom/facetroomlaw04.GcdTells", spec := "gcdTells", inPlace := ["math/bits.Add64", "math/bits.Sub64"], unfollowed := true, recurses := true, named := ["math/bits.divideError", "math/bits.overflowError"], apart := false }
def GcdTellsSaid : Prop := gcdTellsRow.holds Try.pinned (OpenSpec.ofChange gcdTellsSpec)

/-- ITS FALSE NEIGHBOUR: 'it returns false'. Refute it at one input. -/
def gcdTellsWrong : ChangeSpec := { name := "gcdTells", fn := fun _ => fun
  | [d1, d2] => { results := [.lit (.bool false)], args := [d1, d2] }
  | _ => none }
def GcdTellsWrongFalsely : Prop := gcdTellsRow.holds Try.pinned (OpenSpec.ofChange gcdTellsWrong)

/-- 'facetroomlaw06.RatOf': WHATEVER THE INPUT: true; the input reads as it did. -/
def ratOfSpec : ChangeSpec := { name := "ratOf", fn := fun _ => fun
  | [d1, d2] => { results := [.lit (.bool true)], args := [d1, d2] }
  | _ => none }
def ratOfRow : OpenClaim := { program := "ytmeknjfffhblaaa", sum := "1524aba2de7e69f8eac98d4e918bc83887e3e04e98151b1a2e2601598f9698bb", func := "facetroom/facetroomlaw06.RatOf", spec := "ratOf", inPlace := ["math/bits.Add64", "math/bits.Sub64"], unfollowed := true, recurses := true, named := ["math/bits.divideError", "math/bits.overflowError"], apart := false }
def RatOfSaid : Prop := ratOfRow.holds Try.pinned (OpenSpec.ofChange ratOfSpec)

/-- ITS FALSE NEIGHBOUR: 'it returns false'. Refute it at one input. -/
def ratOfWrong : ChangeSpec := { name := "ratOf", fn := fun _ => fun
  | [d1, d2] => { results := [.lit (.bool false)], args := [d1, d2] }
  | _ => none }
def RatOfWrongFalsely : Prop := ratOfRow.holds Try.pinned (OpenSpec.ofChange ratOfWrong)

/-- 'facetroomlaw19.SatMasks': WHATEVER THE INPUT: true; the input reads as it did. -/
def satMasksSpec : ChangeSpec := { name := "satMasks", fn := fun _ => fun
  | [d1, d2, d3, d4] => { results := [.lit (.bool true)], args := [d1, d2, d3, d4] }
  | _ => none }
def satMasksRow : OpenClaim := { program := "ytmeknjfffhblaaa", sum := "1524aba2de7e69f8eac98d4e918bc83887e3e04e98151b1a2e2601598f9698bb", func := "facetroom/facetroomlaw19.SatMasks", spec := "satMasks", unfollowed := true, recurses := true, apart := false }
def SatMasksSaid : Prop := satMasksRow.holds Try.pinned (OpenSpec.ofChange satMasksSpec)

/-- ITS FALSE NEIGHBOUR: 'it returns false'. Refute it at one input. -/
def satMasksWrong : ChangeSpec := { name := "satMasks", fn := fun _ => fun
  | [d1, d2, d3, d4] => { results := [.lit (.bool false)], args := [d1, d2, d3, d4] }
  | _ => none }
def SatMasksWrongFalsely : Prop := satMasksRow.holds Try.pinned (OpenSpec.ofChange satMasksWrong)

/-- 'facetroomlaw19.SatTells': WHATEVER THE INPUT: true; the input reads as it did. -/
def satTellsSpec : ChangeSpec := { name := "satTells", fn := fun _ => fun
  | [d1, d2, d3] => { results := [.lit (.bool true)], args := [d1, d2, d3] }
  | _ => none }
def satTellsRow : OpenClaim := { program := "ytmeknjfffhblaaa", sum := "1524aba2de7e69f8eac98d4e918bc83887e3e04e98151b1a2e2601598f9698bb", func := "facetroom/facetroomlaw19.SatTells", spec := "satTells", inPlace := ["math/bits.Add64", "math/bits.Sub64"], unfollowed := true, recurses := true, apart := false }
def SatTellsSaid : Prop := satTellsRow.holds Try.pinned (OpenSpec.ofChange satTellsSpec)

/-- ITS FALSE NEIGHBOUR: 'it returns false'. Refute it at one input. -/
def satTellsWrong : ChangeSpec := { name := "satTells", fn := fun _ => fun
  | [d1, d2, d3] => { results := [.lit (.bool false)], args := [d1, d2, d3] }
  | _ => none }
def SatTellsWrongFalsely : Prop := satTellsRow.holds Try.pinned (OpenSpec.ofChange satTellsWrong)

/-- 'facetroomlaw19.SatSigns': WHATEVER THE INPUT: true; the input reads as it did. -/
def satSignsSpec : ChangeSpec := { name := "satSigns", fn := fun _ => fun
  | [d1, d2] => { results := [.lit (.bool true)], args := [d1, d2] }
  | _ => none }
def satSignsRow : OpenClaim := { program := "ytmeknjfffhblaaa", sum := "1524aba2de7e69f8eac98d4e918bc83887e3e04e98151b1a2e2601598f9698bb", func := "facetroom/facetroomlaw19.SatSigns", spec := "satSigns", inPlace := ["math/bits.Add64", "math/bits.Sub64"], unfollowed := true, recurses := true, apart := false }
def SatSignsSaid : Prop := satSignsRow.holds Try.pinned (OpenSpec.ofChange satSignsSpec)

/-- ITS FALSE NEIGHBOUR: 'it returns false'. Refute it at one input. -/
def satSignsWrong : ChangeSpec := { name := "satSigns", fn := fun _ => fun
  | [d1, d2] => { results := [.lit (.bool false)], args := [d1, d2] }
  | _ => none }
def SatSignsWrongFalsely : Prop := satSignsRow.holds Try.pinned (OpenSpec.ofChange satSignsWrong)

/-- 'facetroomlaw19.SatMost': WHATEVER THE INPUT: true; the input reads as it did. -/
def satMostSpec : ChangeSpec := { name := "satMost", fn := fun _ => fun
  | [d] => { results := [.lit (.bool true)], args := [d] }
  | _ => none }
def satMostRow : OpenClaim := { program := "ytmeknjfffhblaaa", sum := "1524aba2de7e69f8eac98d4e918bc83887e3e04e98151b1a2e2601598f9698bb", func := "facetroom/facetroomlaw19.SatMost", spec := "satMost", inPlace := ["math/bits.Add64", "math/bits.Sub64"], unfollowed := true, recurses := true, apart := false }
def SatMostSaid : Prop := satMostRow.holds Try.pinned (OpenSpec.ofChange satMostSpec)

/-- ITS FALSE NEIGHBOUR: 'it returns false'. Refute it at one input. -/
def satMostWrong : ChangeSpec := { name := "satMost", fn := fun _ => fun
  | [d] => { results := [.lit (.bool false)], args := [d] }
  | _ => none }
def SatMostWrongFalsely : Prop := satMostRow.holds Try.pinned (OpenSpec.ofChange satMostWrong)

/-- 'facetroomlaw19.SatNear': WHATEVER THE INPUT: true; the input reads as it did. -/
def satNearSpec : ChangeSpec := { name := "satNear", fn := fun _ => fun
  | [d1, d2, d3] => { results := [.lit (.bool true)], args := [d1, d2, d3] }
  | _ => none }
def satNearRow : OpenClaim := { program := "ytmeknjfffhblaaa", sum := "1524aba2de7e69f8eac98d4e918bc83887e3e04e98151b1a2e2601598f9698bb", func := "facetroom/facetroomlaw19.SatNear", spec := "satNear", inPlace := ["math/bits.Add64", "math/bits.Sub64"], unfollowed := true, recurses := true, apart := false }
def SatNearSaid : Prop := satNearRow.holds Try.pinned (OpenSpec.ofChange satNearSpec)

/-- ITS FALSE NEIGHBOUR: 'it returns false'. Refute it at one input. -/
def satNearWrong : ChangeSpec := { name := "satNear", fn := fun _ => fun
  | [d1, d2, d3] => { results := [.lit (.bool false)], args := [d1, d2, d3] }
  | _ => none }
def SatNearWrongFalsely : Prop := satNearRow.holds Try.pinned (OpenSpec.ofChange satNearWrong)

/-- 'facetroomlaw19.SatTurns': WHATEVER THE INPUT: true; the input reads as it did. -/
def satTurnsSpec : ChangeSpec := { name := "satTurns", fn := fun _ => fun
  | [d1, d2] => { results := [.lit (.bool true)], args := [d1, d2] }
  | _ => none }
def satTurnsRow : OpenClaim := { program := "ytmeknjfffhblaaa", sum := "1524aba2de7e69f8eac98d4e918bc83887e3e04e98151b1a2e2601598f9698bb", func := "facetroom/facetroomlaw19.SatTurns", spec := "satTurns", inPlace := ["math/bits.Add64", "math/bits.Sub64"], unfollowed := true, recurses := true, apart := false }
def SatTurnsSaid : Prop := satTurnsRow.holds Try.pinned (OpenSpec.ofChange satTurnsSpec)

/-- ITS FALSE NEIGHBOUR: 'it returns false'. Refute it at one input. -/
def satTurnsWrong : ChangeSpec := { name := "satTurns", fn := fun _ => fun
  | [d1, d2] => { results := [.lit (.bool false)], args := [d1, d2] }
  | _ => none }
def SatTurnsWrongFalsely : Prop := satTurnsRow.holds Try.pinned (OpenSpec.ofChange satTurnsWrong)

/- THE SECOND FORM. 'bulk': how many values and letters a reading holds, each counted each time it is reached (what is shared counts as often as it is met; a slice's spare places count too). A statement '..UptoSaid' is the law's where the arguments, and the package variables that the reading takes, are together of bulk at most 1048576: NARROWER than '..Said'. Prove '..Said' where nothing that the law and all that it calls make is longer than what came in: it says more and counts as full. Else prove '..UptoSaid'. A law counts once. -/
mutual
def uptoBulk {H : Type} : DataW H → Nat
  | .lit (.string bytes) => bytes.length + 1
  | .lit _ => 1
  | .nil => 1
  | .ptr d => uptoBulk d + 1
  | .slice elems spare => uptoBulkAll elems + uptoBulkAll spare + 1
  | .agg parts => uptoBulkAll parts + 1
  | .iface _ d => uptoBulk d + 1
  | .map entries => uptoBulkEntries entries + 1
  | .held _ => 1
def uptoBulkAll {H : Type} : List (DataW H) → Nat
  | [] => 0
  | d :: r => uptoBulk d + uptoBulkAll r
def uptoBulkEntries {H : Type} : List (Lit × DataW H) → Nat
  | [] => 0
  | x :: r => uptoBulkEntry x + uptoBulkEntries r
def uptoBulkEntry {H : Type} : Lit × DataW H → Nat
  | (.string bytes, d) => bytes.length + uptoBulk d + 1
  | (_, d) => uptoBulk d + 1
 end
def uptoSmall : (H : Type) → List (DataW H) → Bool := fun _ ds => decide (uptoBulkAll ds ≤ 1048576)
def OpenSpec.upto (s : _root_.Go.ChangeSpec) : _root_.Go.OpenSpec := { _root_.Go.OpenSpec.ofChange s with cond := some uptoSmall }

/-- 'facetroomlaw07.VecOrder', WHERE WHAT IT READS IS OF BULK AT MOST 1048576: true; the input reads as it did. -/
def vecOrderUptoRow : OpenClaim := { program := "ytmeknjfffhblaaa", sum := "1524aba2de7e69f8eac98d4e918bc83887e3e04e98151b1a2e2601598f9698bb", func := "facetroom/facetroomlaw07.VecOrder", spec := "vecOrder", inPlace := ["math/bits.Add64", "math/bits.Sub64"], unfollowed := true, recurses := true, apart := false, narrowed := true }
def VecOrderUptoSaid : Prop := vecOrderUptoRow.holds Try.pinned (OpenSpec.upto vecOrderSpec)

/-- 'facetroomlaw07.VecPrime', WHERE WHAT IT READS IS OF BULK AT MOST 1048576: true; the input reads as it did. -/
def vecPrimeUptoRow : OpenClaim := { program := "ytmeknjfffhblaaa", sum := "1524aba2de7e69f8eac98d4e918bc83887e3e04e98151b1a2e2601598f9698bb", func := "facetroom/facetroomlaw07.VecPrime", spec := "vecPrime", inPlace := ["math/bits.Add64", "math/bits.Sub64"], unfollowed := true, recurses := true, named := ["math/bits.divideError", "math/bits.overflowError"], apart := false, narrowed := true }
def VecPrimeUptoSaid : Prop := vecPrimeUptoRow.holds Try.pinned (OpenSpec.upto vecPrimeSpec)

/-- 'facetroomlaw07.VecNames', WHERE WHAT IT READS IS OF BULK AT MOST 1048576: true; the input reads as it did. -/
def vecNamesUptoRow : OpenClaim := { program := "ytmeknjfffhblaaa", sum := "1524aba2de7e69f8eac98d4e918bc83887e3e04e98151b1a2e2601598f9698bb", func := "facetroom/facetroomlaw07.VecNames", spec := "vecNames", inPlace := ["math/bits.Add64", "math/bits.Sub64"], unfollowed := true, recurses := true, named := ["math/bits.divideError", "math/bits.overflowError"], apart := false, narrowed := true }
def VecNamesUptoSaid : Prop := vecNamesUptoRow.holds Try.pinned (OpenSpec.upto vecNamesSpec)

/-- 'facetroomlaw04.GcdTells', WHERE WHAT IT READS IS OF BULK AT MOST 1048576: true; the input reads as it did. -/
def gcdTellsUptoRow : OpenClaim := { program := "ytmeknjfffhblaaa", sum := "1524aba2de7e69f8eac98d4e918bc83887e3e04e98151b1a2e2601598f9698bb", func := "facetroom/facetroomlaw04.GcdTells", spec := "gcdTells", inPlace := ["math/bits.Add64", "math/bits.Sub64"], unfollowed := true, recurses := true, named := ["math/bits.divideError", "math/bits.overflowError"], apart := false, narrowed := true }
def GcdTellsUptoSaid : Prop := gcdTellsUptoRow.holds Try.pinned (OpenSpec.upto gcdTellsSpec)

/-- 'facetroomlaw06.RatOf', WHERE WHAT IT READS IS OF BULK AT MOST 1048576: true; the input reads as it did. -/
def ratOfUptoRow : OpenClaim := { program := "ytmeknjfffhblaaa", sum := "1524aba2de7e69f8eac98d4e918bc83887e3e04e98151b1a2e2601598f9698bb", func := "facetroom/facetroomlaw06.RatOf", spec := "ratOf", inPlace := ["math/bits.Add64", "math/bits.Sub64"], unfollowed := true, recurses := true, named := ["math/bits.divideError", "math/bits.overflowError"], apart := false, narrowed := true }
def RatOfUptoSaid : Prop := ratOfUptoRow.holds Try.pinned (OpenSpec.upto ratOfSpec)

/-- 'facetroomlaw19.SatMasks', WHERE WHAT IT READS IS OF BULK AT MOST 1048576: true; the input reads as it did. -/
def satMasksUptoRow : OpenClaim := { program := "ytmeknjfffhblaaa", sum := "1524aba2de7e69f8eac98d4e918bc83887e3e04e98151b1a2e2601598f9698bb", func := "facetroom/facetroomlaw19.SatMasks", spec := "satMasks", unfollowed := true, recurses := true, apart := false, narrowed := true }
def SatMasksUptoSaid : Prop := satMasksUptoRow.holds Try.pinned (OpenSpec.upto satMasksSpec)

/-- 'facetroomlaw19.SatTells', WHERE WHAT IT READS IS OF BULK AT MOST 1048576: true; the input reads as it did. -/
def satTellsUptoRow : OpenClaim := { program := "ytmeknjfffhblaaa", sum := "1524aba2de7e69f8eac98d4e918bc83887e3e04e98151b1a2e2601598f9698bb", func := "facetroom/facetroomlaw19.SatTells", spec := "satTells", inPlace := ["math/bits.Add64", "math/bits.Sub64"], unfollowed := true, recurses := true, apart := false, narrowed := true }
def SatTellsUptoSaid : Prop := satTellsUptoRow.holds Try.pinned (OpenSpec.upto satTellsSpec)

/-- 'facetroomlaw19.SatSigns', WHERE WHAT IT READS IS OF BULK AT MOST 1048576: true; the input reads as it did. -/
def satSignsUptoRow : OpenClaim := { program := "ytmeknjfffhblaaa", sum := "1524aba2de7e69f8eac98d4e918bc83887e3e04e98151b1a2e2601598f9698bb", func := "facetroom/facetroomlaw19.SatSigns", spec := "satSigns", inPlace := ["math/bits.Add64", "math/bits.Sub64"], unfollowed := true, recurses := true, apart := false, narrowed := true }
def SatSignsUptoSaid : Prop := satSignsUptoRow.holds Try.pinned (OpenSpec.upto satSignsSpec)

/-- 'facetroomlaw19.SatMost', WHERE WHAT IT READS IS OF BULK AT MOST 1048576: true; the input reads as it did. -/
def satMostUptoRow : OpenClaim := { program := "ytmeknjfffhblaaa", sum := "1524aba2de7e69f8eac98d4e918bc83887e3e04e98151b1a2e2601598f9698bb", func := "facetroom/facetroomlaw19.SatMost", spec := "satMost", inPlace := ["math/bits.Add64", "math/bits.Sub64"], unfollowed := true, recurses := true, apart := false, narrowed := true }
def SatMostUptoSaid : Prop := satMostUptoRow.holds Try.pinned (OpenSpec.upto satMostSpec)

/-- 'facetroomlaw19.SatNear', WHERE WHAT IT READS IS OF BULK AT MOST 1048576: true; the input reads as it did. -/
def satNearUptoRow : OpenClaim := { program := "ytmeknjfffhblaaa", sum := "1524aba2de7e69f8eac98d4e918bc83887e3e04e98151b1a2e2601598f9698bb", func := "facetroom/facetroomlaw19.SatNear", spec := "satNear", inPlace := ["math/bits.Add64", "math/bits.Sub64"], unfollowed := true, recurses := true, apart := false, narrowed := true }
def SatNearUptoSaid : Prop := satNearUptoRow.holds Try.pinned (OpenSpec.upto satNearSpec)

/-- 'facetroomlaw19.SatTurns', WHERE WHAT IT READS IS OF BULK AT MOST 1048576: true; the input reads as it did. -/
def satTurnsUptoRow : OpenClaim := { program := "ytmeknjfffhblaaa", sum := "1524aba2de7e69f8eac98d4e918bc83887e3e04e98151b1a2e2601598f9698bb", func := "facetroom/facetroomlaw19.SatTurns", spec := "satTurns", inPlace := ["math/bits.Add64", "math/bits.Sub64"], unfollowed := true, recurses := true, apart := false, narrowed := true }
def SatTurnsUptoSaid : Prop := satTurnsUptoRow.holds Try.pinned (OpenSpec.upto satTurnsSpec)

end Rows
end Go.Proofs.Ytmeknjfffhblaaa
