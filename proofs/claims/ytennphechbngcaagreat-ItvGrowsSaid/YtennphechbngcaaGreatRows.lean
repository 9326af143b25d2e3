/-
  No cell of these rows narrows 'for every input' (looked for: loops, veiled, ifaces, maps, wideKeys, modest, calm, conditions, laid).
  DERIVED. THE GIVEN ROWS OF THIS SEAT. 3 by the template 'for every input the law returns true; each argument reads behind the call as it read before'; 0 by the template 'total and deterministic' (their statements: YtennphechbngcaaGreatTotals.lean).
  GIVEN WITH THE SEED: the statements are not yours to turn. If you find one false, say at which input.
  Laid BY PROGRAM, IN A SANDBOX (cutbox-rows.mjs): the forced cells as the released guide's own fill.sh prints them over the translation b35a16431eef9c2b… (all of the seat's roots in one cut). By AI agents, Wed Nov 11 2026. No macro, syntax, notation, axiom, sorry.
-/
import Derived.Test.YtennphechbngcaaGreatChecked
import GoSem.Claim
import GoSem.ClaimJoined
import GoSem.ClaimMapViews
import Derived.JoinedTies
import Derived.KernelRfl
namespace Go.Proofs.YtennphechbngcaaGreat
/- THE CELL 'sum', in the pinned program and in every row, IS THE sha256 OF THE DUMP (.gsa) THAT YtennphechbngcaaGreatProg.lean LOADS. Nothing in Lean hashes anything: it is a label: what it is worth is what the hold of that sum in a sandbox is worth. -/
noncomputable def Tryz.pinned : Pinned := { name := "ytennphechbngcaagreat", sum := "b35a16431eef9c2b48f4e1ed70a26f8864be8f28e23a8e0e65b3e67595107556", checked := Tryz.checked }
namespace Rows
def none {H : Type} : Left H := { results := [], args := [] }

/-- 'facetroomlaw16.ItvSound': WHATEVER THE INPUT: true; the input reads as it did. -/
def itvSoundSpec : ChangeSpec := { name := "itvSound", fn := fun _ => fun
  | [d1, d2, d3, d4] => { results := [.lit (.bool true)], args := [d1, d2, d3, d4] }
  | _ => none }
def itvSoundRow : OpenClaim := { program := "ytennphechbngcaagreat", sum := "b35a16431eef9c2b48f4e1ed70a26f8864be8f28e23a8e0e65b3e67595107556", func := "facetroom/facetroomlaw16.ItvSound", spec := "itvSound", inPlace := ["math/bits.Add64", "math/bits.Sub64"], unfollowed := true, recurses := true, named := ["math/bits.divideError", "math/bits.overflowError"], apart := false }
def ItvSoundSaid : Prop := itvSoundRow.holds Tryz.pinned (OpenSpec.ofChange itvSoundSpec)

/-- ITS FALSE NEIGHBOUR: 'it returns false'. Refute it at one input. -/
def itvSoundWrong : ChangeSpec := { name := "itvSound", fn := fun _ => fun
  | [d1, d2, d3, d4] => { results := [.lit (.bool false)], args := [d1, d2, d3, d4] }
  | _ => none }
def ItvSoundWrongFalsely : Prop := itvSoundRow.holds Tryz.pinned (OpenSpec.ofChange itvSoundWrong)

/-- 'facetroomlaw16.ItvGrows': WHATEVER THE INPUT: true; the input reads as it did. -/
def itvGrowsSpec : ChangeSpec := { name := "itvGrows", fn := fun _ => fun
  | [d1, d2, d3] => { results := [.lit (.bool true)], args := [d1, d2, d3] }
  | _ => none }
def itvGrowsRow : OpenClaim := { program := "ytennphechbngcaagreat", sum := "b35a16431eef9c2b48f4e1ed70a26f8864be8f28e23a8e0e65b3e67595107556", func := "facetroom/facetroomlaw16.ItvGrows", spec := "itvGrows", inPlace := ["math/bits.Add64", "math/bits.Sub64"], unfollowed := true, recurses := true, named := ["math/bits.divideError", "math/bits.overflowError"], apart := false }
def ItvGrowsSaid : Prop := itvGrowsRow.holds Tryz.pinned (OpenSpec.ofChange itvGrowsSpec)

/-- ITS FALSE NEIGHBOUR: 'it returns false'. Refute it at one input. -/
def itvGrowsWrong : ChangeSpec := { name := "itvGrows", fn := fun _ => fun
  | [d1, d2, d3] => { results := [.lit (.bool false)], args := [d1, d2, d3] }
  | _ => none }
def ItvGrowsWrongFalsely : Prop := itvGrowsRow.holds Tryz.pinned (OpenSpec.ofChange itvGrowsWrong)

/-- 'facetroomlaw16.ItvReckons': WHATEVER THE INPUT: true; the input reads as it did. -/
def itvReckonsSpec : ChangeSpec := { name := "itvReckons", fn := fun _ => fun
  | [d1, d2] => { results := [.lit (.bool true)], args := [d1, d2] }
  | _ => none }
def itvReckonsRow : OpenClaim := { program := "ytennphechbngcaagreat", sum := "b35a16431eef9c2b48f4e1ed70a26f8864be8f28e23a8e0e65b3e67595107556", func := "facetroom/facetroomlaw16.ItvReckons", spec := "itvReckons", inPlace := ["math/bits.Add64", "math/bits.Sub64"], unfollowed := true, recurses := true, named := ["math/bits.divideError", "math/bits.overflowError"], apart := false }
def ItvReckonsSaid : Prop := itvReckonsRow.holds Tryz.pinned (OpenSpec.ofChange itvReckonsSpec)

/-- ITS FALSE NEIGHBOUR: 'it returns false'. Refute it at one input. -/
def itvReckonsWrong : ChangeSpec := { name := "itvReckons", fn := fun _ => fun
  | [d1, d2] => { results := [.lit (.bool false)], args := [d1, d2] }
  | _ => none }
def ItvReckonsWrongFalsely : Prop := itvReckonsRow.holds Tryz.pinned (OpenSpec.ofChange itvReckonsWrong)

/- THE SECOND FORM. 'bulk': how many values and letters a reading holds, each counted each time it is reached (what is shared counts as often as it is met; a slice's spare places count too). A statement '..UptoSaid' is the law's where the arguments, and the package variables that the reading takes, are together of bulk at most 1048576: NARROWER than '..Said'. Prove '..Said' where nothing that the law and all that it calls make is longer than what came in: it says more and counts as full. Else prove '..UptoSaid'. A law counts once. -/
mutual
def uptoBulk {H : Type} : DataW H → Nat
  | .lit (.string bytes) => bytes.length + 1
  | .lit _ => 1
  | .nil => 1
  | .ptr d => uptoBulk d + 1
  | .slice elems spare => uptoBulkAll elems + uptoBulkAll spare + 1
  | .agg parts => uptoBulkAll parts + 1
  | .iface _ d => uptoBulk d + 1
  | .map entries => uptoBulkEntries entries + 1
  | .held _ => 1
def uptoBulkAll {H : Type} : List (DataW H) → Nat
  | [] => 0
  | d :: r => uptoBulk d + uptoBulkAll r
def uptoBulkEntries {H : Type} : List (Lit × DataW H) → Nat
  | [] => 0
  | x :: r => uptoBulkEntry x + uptoBulkEntries r
def uptoBulkEntry {H : Type} : Lit × DataW H → Nat
  | (.string bytes, d) => bytes.length + uptoBulk d + 1
  | (_, d) => uptoBulk d + 1
 end
def uptoSmall : (H : Type) → List (DataW H) → Bool := fun _ ds => decide (uptoBulkAll ds ≤ 1048576)
def OpenSpec.upto (s : _root_.Go.ChangeSpec) : _root_.Go.OpenSpec := { _root_.Go.OpenSpec.ofChange s with cond := some uptoSmall }

/-- 'facetroomlaw16.ItvSound', WHERE WHAT IT READS IS OF BULK AT MOST 1048576: true; the input reads as it did. -/
def itvSoundUptoRow : OpenClaim := { program := "ytennphechbngcaagreat", sum := "b35a16431eef9c2b48f4e1ed70a26f8864be8f28e23a8e0e65b3e67595107556", func := "facetroom/facetroomlaw16.ItvSound", spec := "itvSound", inPlace := ["math/bits.Add64", "math/bits.Sub64"], unfollowed := true, recurses := true, named := ["math/bits.divideError", "math/bits.overflowError"], apart := false, narrowed := true }
def ItvSoundUptoSaid : Prop := itvSoundUptoRow.holds Tryz.pinned (OpenSpec.upto itvSoundSpec)

/-- 'facetroomlaw16.ItvGrows', WHERE WHAT IT READS IS OF BULK AT MOST 1048576: true; the input reads as it did. -/
def itvGrowsUptoRow : OpenClaim := { program := "ytennphechbngcaagreat", sum := "b35a16431eef9c2b48f4e1ed70a26f8864be8f28e23a8e0e65b3e67595107556", func := "facetroom/facetroomlaw16.ItvGrows", spec := "itvGrows", inPlace := ["math/bits.Add64", "math/bits.Sub64"], unfollowed := true, recurses := true, named := ["math/bits.divideError", "math/bits.overflowError"], apart := false, narrowed := true }
def ItvGrowsUptoSaid : Prop := itvGrowsUptoRow.holds Tryz.pinned (OpenSpec.upto itvGrowsSpec)

/-- 'facetroomlaw16.ItvReckons', WHERE WHAT IT READS IS OF BULK AT MOST 1048576: true; the input reads as it did. -/
def itvReckonsUptoRow : OpenClaim := { program := "ytennphechbngcaagreat", sum := "b35a16431eef9c2b48f4e1ed70a26f8864be8f28e23a8e0e65b3e67595107556", func := "facetroom/facetroomlaw16.ItvReckons", spec := "itvReckons", inPlace := ["math/bits.Add64", "math/bits.Sub64"], unfollowed := true, recurses := true, named := ["math/bits.divideError", "math/bits.overflowError"], apart := false, narrowed := true }
def ItvReckonsUptoSaid : Prop := itvReckonsUptoRow.holds Tryz.pinned (OpenSpec.upto itvReckonsSpec)

end Rows
end Go.Proofs.YtennphechbngcaaGreat
