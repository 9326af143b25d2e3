/-
  No cell of these rows narrows 'for every input' (looked for: loops, veiled, ifaces, maps, wideKeys, modest, calm, conditions, laid).
  DERIVED. THE GIVEN ROWS OF THIS SEAT. 12 by the template 'for every input the law returns true; each argument reads behind the call as it read before'; 0 by the template 'total and deterministic' (their statements: YtodcjaobbnjikaaTotals.lean).
  GIVEN WITH THE SEED: the statements are not yours to turn. If you find one false, say at which input.
  Laid BY PROGRAM, IN A SANDBOX (cutbox-rows.mjs): the forced cells as the released guide's own fill.sh prints them over the translation 7444fbfa4612ac56… (all of the seat's roots in one cut). By AI agents, Wed Nov 11 2026. No macro, syntax, notation, axiom, sorry.
-/
import Derived.Test.YtodcjaobbnjikaaChecked
import GoSem.Claim
import GoSem.ClaimJoined
import GoSem.ClaimMapViews
import Derived.JoinedTies
import Derived.KernelRfl
namespace Go.Proofs.Ytodcjaobbnjikaa
/- THE CELL 'sum', in the pinned program and in every row, IS THE sha256 OF THE DUMP (.gsa) THAT YtodcjaobbnjikaaProg.lean LOADS. Nothing in Lean hashes anything: it is a label: what it is worth is what the hold of that sum in a sandbox is worth. -/
noncomputable def Try.pinned : Pinned := { name := "ytodcjaobbnjikaa", sum := "7444fbfa4612ac5685e8ef4bcbff557dec8fbbbd8b6bbb748ba5770edb3f704f", checked := Try.checked }
namespace Rows
def none {H : Type} : Left H := { results := [], args := [] }

/-- 'facetroomlaw07.VecOf': WHATEVER THE INPUT: true; the input reads as it did. -/
def vecOfSpec : ChangeSpec := { name := "vecOf", fn := fun _ => fun
  | [d] => { results := [.lit (.bool true)], args := [d] }
  | _ => none }
def vecOfRow : OpenClaim := { program := "ytodcjaobbnjikaa", sum := "7444fbfa4612ac5685e8ef4bcbff557dec8fbbbd8b6bbb748ba5770edb3f704f", func := "facetroom/facetroomlaw07.VecOf", spec := "vecOf", apart := false }
def VecOfSaid : Prop := vecOfRow.holds Try.pinned (OpenSpec.ofChange vecOfSpec)

/-- ITS FALSE NEIGHBOUR: 'it returns false'. Refute it at one input. -/
def vecOfWrong : ChangeSpec := { name := "vecOf", fn := fun _ => fun
  | [d] => { results := [.lit (.bool false)], args := [d] }
  | _ => none }
def VecOfWrongFalsely : Prop := vecOfRow.holds Try.pinned (OpenSpec.ofChange vecOfWrong)

/-- 'facetroomlaw19.SatMasks': WHATEVER THE INPUT: true; the input reads as it did. -/
def satMasksSpec : ChangeSpec := { name := "satMasks", fn := fun _ => fun
  | [d1, d2, d3, d4] => { results := [.lit (.bool true)], args := [d1, d2, d3, d4] }
  | _ => none }
def satMasksRow : OpenClaim := { program := "ytodcjaobbnjikaa", sum := "7444fbfa4612ac5685e8ef4bcbff557dec8fbbbd8b6bbb748ba5770edb3f704f", func := "facetroom/facetroomlaw19.SatMasks", spec := "satMasks", unfollowed := true, recurses := true, apart := false }
def SatMasksSaid : Prop := satMasksRow.holds Try.pinned (OpenSpec.ofChange satMasksSpec)

/-- ITS FALSE NEIGHBOUR: 'it returns false'. Refute it at one input. -/
def satMasksWrong : ChangeSpec := { name := "satMasks", fn := fun _ => fun
  | [d1, d2, d3, d4] => { results := [.lit (.bool false)], args := [d1, d2, d3, d4] }
  | _ => none }
def SatMasksWrongFalsely : Prop := satMasksRow.holds Try.pinned (OpenSpec.ofChange satMasksWrong)

/-- 'facetroomlaw01.NatSums': WHATEVER THE INPUT: true; the input reads as it did. -/
def natSumsSpec : ChangeSpec := { name := "natSums", fn := fun _ => fun
  | [d1, d2, d3] => { results := [.lit (.bool true)], args := [d1, d2, d3] }
  | _ => none }
def natSumsRow : OpenClaim := { program := "ytodcjaobbnjikaa", sum := "7444fbfa4612ac5685e8ef4bcbff557dec8fbbbd8b6bbb748ba5770edb3f704f", func := "facetroom/facetroomlaw01.NatSums", spec := "natSums", inPlace := ["math/bits.Add64", "math/bits.Sub64"], unfollowed := true, recurses := true, apart := false }
def NatSumsSaid : Prop := natSumsRow.holds Try.pinned (OpenSpec.ofChange natSumsSpec)

/-- ITS FALSE NEIGHBOUR: 'it returns false'. Refute it at one input. -/
def natSumsWrong : ChangeSpec := { name := "natSums", fn := fun _ => fun
  | [d1, d2, d3] => { results := [.lit (.bool false)], args := [d1, d2, d3] }
  | _ => none }
def NatSumsWrongFalsely : Prop := natSumsRow.holds Try.pinned (OpenSpec.ofChange natSumsWrong)

/-- 'facetroomlaw01.NatShifts': WHATEVER THE INPUT: true; the input reads as it did. -/
def natShiftsSpec : ChangeSpec := { name := "natShifts", fn := fun _ => fun
  | [d1, d2, d3] => { results := [.lit (.bool true)], args := [d1, d2, d3] }
  | _ => none }
def natShiftsRow : OpenClaim := { program := "ytodcjaobbnjikaa", sum := "7444fbfa4612ac5685e8ef4bcbff557dec8fbbbd8b6bbb748ba5770edb3f704f", func := "facetroom/facetroomlaw01.NatShifts", spec := "natShifts", apart := false }
def NatShiftsSaid : Prop := natShiftsRow.holds Try.pinned (OpenSpec.ofChange natShiftsSpec)

/-- ITS FALSE NEIGHBOUR: 'it returns false'. Refute it at one input. -/
def natShiftsWrong : ChangeSpec := { name := "natShifts", fn := fun _ => fun
  | [d1, d2, d3] => { results := [.lit (.bool false)], args := [d1, d2, d3] }
  | _ => none }
def NatShiftsWrongFalsely : Prop := natShiftsRow.holds Try.pinned (OpenSpec.ofChange natShiftsWrong)

/-- 'facetroomlaw01.NatBit': WHATEVER THE INPUT: true; the input reads as it did. -/
def natBitSpec : ChangeSpec := { name := "natBit", fn := fun _ => fun
  | [d1, d2] => { results := [.lit (.bool true)], args := [d1, d2] }
  | _ => none }
def natBitRow : OpenClaim := { program := "ytodcjaobbnjikaa", sum := "7444fbfa4612ac5685e8ef4bcbff557dec8fbbbd8b6bbb748ba5770edb3f704f", func := "facetroom/facetroomlaw01.NatBit", spec := "natBit", inPlace := ["math/bits.Add64", "math/bits.Sub64"], unfollowed := true, recurses := true, apart := false }
def NatBitSaid : Prop := natBitRow.holds Try.pinned (OpenSpec.ofChange natBitSpec)

/-- ITS FALSE NEIGHBOUR: 'it returns false'. Refute it at one input. -/
def natBitWrong : ChangeSpec := { name := "natBit", fn := fun _ => fun
  | [d1, d2] => { results := [.lit (.bool false)], args := [d1, d2] }
  | _ => none }
def NatBitWrongFalsely : Prop := natBitRow.holds Try.pinned (OpenSpec.ofChange natBitWrong)

/-- 'facetroomlaw01.NatOrder': WHATEVER THE INPUT: true; the input reads as it did. -/
def natOrderSpec : ChangeSpec := { name := "natOrder", fn := fun _ => fun
  | [d1, d2, d3] => { results := [.lit (.bool true)], args := [d1, d2, d3] }
  | _ => none }
def natOrderRow : OpenClaim := { program := "ytodcjaobbnjikaa", sum := "7444fbfa4612ac5685e8ef4bcbff557dec8fbbbd8b6bbb748ba5770edb3f704f", func := "facetroom/facetroomlaw01.NatOrder", spec := "natOrder", inPlace := ["math/bits.Add64", "math/bits.Sub64"], unfollowed := true, recurses := true, apart := false }
def NatOrderSaid : Prop := natOrderRow.holds Try.pinned (OpenSpec.ofChange natOrderSpec)

/-- ITS FALSE NEIGHBOUR: 'it returns false'. Refute it at one input. -/
def natOrderWrong : ChangeSpec := { name := "natOrder", fn := fun _ => fun
  | [d1, d2, d3] => { results := [.lit (.bool false)], args := [d1, d2, d3] }
  | _ => none }
def NatOrderWrongFalsely : Prop := natOrderRow.holds Try.pinned (OpenSpec.ofChange natOrderWrong)

/-- 'facetroomlaw01.NatTells': WHATEVER THE INPUT: true; the input reads as it did. -/
def natTellsSpec : ChangeSpec := { name := "natTells", fn := fun _ => fun
  | [d1, d2, d3] => { results := [.lit (.bool true)], args := [d1, d2, d3] }
  | _ => none }
def natTellsRow : OpenClaim := { program := "ytodcjaobbnjikaa", sum := "7444fbfa4612ac5685e8ef4bcbff557dec8fbbbd8b6bbb748ba5770edb3f704f", func := "facetroom/facetroomlaw01.NatTells", spec := "natTells", inPlace := ["math/bits.Add64", "math/bits.Sub64"], unfollowed := true, recurses := true, apart := false }
def NatTellsSaid : Prop := natTellsRow.holds Try.pinned (OpenSpec.ofChange natTellsSpec)

/-- ITS FALSE NEIGHBOUR: 'it returns false'. Refute it at one input. -/
def natTellsWrong : ChangeSpec := { name := "natTells", fn := fun _ => fun
  | [d1, d2, d3] => { results := [.lit (.bool false)], args := [d1, d2, d3] }
  | _ => none }
def NatTellsWrongFalsely : Prop := natTellsRow.holds Try.pinned (OpenSpec.ofChange natTellsWrong)

/-- 'facetroomlaw02.MulTells': WHATEVER THE INPUT: true; the input reads as it did. -/
def mulTellsSpec : ChangeSpec := { name := "mulTells", fn := fun _ => fun
  | [d1, d2] => { results := [.lit (.bool true)], args := [d1, d2] }
  | _ => none }
def mulTellsRow : OpenClaim := { program := "ytodcjaobbnjikaa", sum := "7444fbfa4612ac5685e8ef4bcbff557dec8fbbbd8b6bbb748ba5770edb3f704f", func := "facetroom/facetroomlaw02.MulTells", spec := "mulTells", inPlace := ["math/bits.Add64", "math/bits.Sub64"], unfollowed := true, recurses := true, apart := false }
def MulTellsSaid : Prop := mulTellsRow.holds Try.pinned (OpenSpec.ofChange mulTellsSpec)

/-- ITS FALSE NEIGHBOUR: 'it returns false'. Refute it at one input. -/
def mulTellsWrong : ChangeSpec := { name := "mulTells", fn := fun _ => fun
  | [d1, d2] => { results := [.lit (.bool false)], args := [d1, d2] }
  | _ => none }
def MulTellsWrongFalsely : Prop := mulTellsRow.holds Try.pinned (OpenSpec.ofChange mulTellsWrong)

/-- 'facetroomlaw01.NatBits': WHATEVER THE INPUT: true; the input reads as it did. -/
def natBitsSpec : ChangeSpec := { name := "natBits", fn := fun _ => fun
  | [d1, d2] => { results := [.lit (.bool true)], args := [d1, d2] }
  | _ => none }
def natBitsRow : OpenClaim := { program := "ytodcjaobbnjikaa", sum := "7444fbfa4612ac5685e8ef4bcbff557dec8fbbbd8b6bbb748ba5770edb3f704f", func := "facetroom/facetroomlaw01.NatBits", spec := "natBits", inPlace := ["math/bits.Add64", "math/bits.Sub64"], unfollowed := true, recurses := true, apart := false }
def NatBitsSaid : Prop := natBitsRow.holds Try.pinned (OpenSpec.ofChange natBitsSpec)

/-- ITS FALSE NEIGHBOUR: 'it returns false'. Refute it at one input. -/
def natBitsWrong : ChangeSpec := { name := "natBits", fn := fun _ => fun
  | [d1, d2] => { results := [.lit (.bool false)], args := [d1, d2] }
  | _ => none }
def NatBitsWrongFalsely : Prop := natBitsRow.holds Try.pinned (OpenSpec.ofChange natBitsWrong)

/-- 'facetroomlaw01.NatNames': WHATEVER THE INPUT: true; the input reads as it did. -/
def natNamesSpec : ChangeSpec := { name := "natNames", fn := fun _ => fun
  | [] => { results := [.lit (.bool true)], args := [] }
  | _ => none }
def natNamesRow : OpenClaim := { program := "ytodcjaobbnjikaa", sum := "7444fbfa4612ac5685e8ef4bcbff557dec8fbbbd8b6bbb748ba5770edb3f704f", func := "facetroom/facetroomlaw01.NatNames", spec := "natNames", inPlace := ["math/bits.Add64", "math/bits.Sub64"], unfollowed := true, recurses := true, apart := false }
def NatNamesSaid : Prop := natNamesRow.holds Try.pinned (OpenSpec.ofChange natNamesSpec)

/-- ITS FALSE NEIGHBOUR: 'it returns false'. Refute it at one input. -/
def natNamesWrong : ChangeSpec := { name := "natNames", fn := fun _ => fun
  | [] => { results := [.lit (.bool false)], args := [] }
  | _ => none }
def NatNamesWrongFalsely : Prop := natNamesRow.holds Try.pinned (OpenSpec.ofChange natNamesWrong)

/-- 'facetroomlaw02.MulPowers': WHATEVER THE INPUT: true; the input reads as it did. -/
def mulPowersSpec : ChangeSpec := { name := "mulPowers", fn := fun _ => fun
  | [d1, d2] => { results := [.lit (.bool true)], args := [d1, d2] }
  | _ => none }
def mulPowersRow : OpenClaim := { program := "ytodcjaobbnjikaa", sum := "7444fbfa4612ac5685e8ef4bcbff557dec8fbbbd8b6bbb748ba5770edb3f704f", func := "facetroom/facetroomlaw02.MulPowers", spec := "mulPowers", inPlace := ["math/bits.Add64", "math/bits.Sub64"], unfollowed := true, recurses := true, apart := false }
def MulPowersSaid : Prop := mulPowersRow.holds Try.pinned (OpenSpec.ofChange mulPowersSpec)

/-- ITS FALSE NEIGHBOUR: 'it returns false'. Refute it at one input. -/
def mulPowersWrong : ChangeSpec := { name := "mulPowers", fn := fun _ => fun
  | [d1, d2] => { results := [.lit (.bool false)], args := [d1, d2] }
  | _ => none }
def MulPowersWrongFalsely : Prop := mulPowersRow.holds Try.pinned (OpenSpec.ofChange mulPowersWrong)

/-- 'facetroomlaw02.MulSums': WHATEVER THE INPUT: true; the input reads as it did. -/
def mulSumsSpec : ChangeSpec := { name := "mulSums", fn := fun _ => fun
  | [d1, d2, d3] => { results := [.lit (.bool true)], args := [d1, d2, d3] }
  | _ => none }
def mulSumsRow : OpenClaim := { program := "ytodcjaobbnjikaa", sum := "7444fbfa4612ac5685e8ef4bcbff557dec8fbbbd8b6bbb748ba5770edb3f704f", func := "facetroom/facetroomlaw02.MulSums", spec := "mulSums", inPlace := ["math/bits.Add64", "math/bits.Sub64"], unfollowed := true, recurses := true, apart := false }
def MulSumsSaid : Prop := mulSumsRow.holds Try.pinned (OpenSpec.ofChange mulSumsSpec)

/-- ITS FALSE NEIGHBOUR: 'it returns false'. Refute it at one input. -/
def mulSumsWrong : ChangeSpec := { name := "mulSums", fn := fun _ => fun
  | [d1, d2, d3] => { results := [.lit (.bool false)], args := [d1, d2, d3] }
  | _ => none }
def MulSumsWrongFalsely : Prop := mulSumsRow.holds Try.pinned (OpenSpec.ofChange mulSumsWrong)

/- THE SECOND FORM. 'bulk': how many values and letters a reading holds, each counted each time it is reached (what is shared counts as often as it is met; a slice's spare places count too). A statement '..UptoSaid' is the law's where the arguments, and the package variables that the reading takes, are together of bulk at most 1048576: NARROWER than '..Said'. Prove '..Said' where nothing that the law and all that it calls make is longer than what came in: it says more and counts as full. Else prove '..UptoSaid'. A law counts once. -/
mutual
def uptoBulk {H : Type} : DataW H → Nat
  | .lit (.string bytes) => bytes.length + 1
  | .lit _ => 1
  | .nil => 1
  | .ptr d => uptoBulk d + 1
  | .slice elems spare => uptoBulkAll elems + uptoBulkAll spare + 1
  | .agg parts => uptoBulkAll parts + 1
  | .iface _ d => uptoBulk d + 1
  | .map entries => uptoBulkEntries entries + 1
  | .held _ => 1
def uptoBulkAll {H : Type} : List (DataW H) → Nat
  | [] => 0
  | d :: r => uptoBulk d + uptoBulkAll r
def uptoBulkEntries {H : Type} : List (Lit × DataW H) → Nat
  | [] => 0
  | x :: r => uptoBulkEntry x + uptoBulkEntries r
def uptoBulkEntry {H : Type} : Lit × DataW H → Nat
  | (.string bytes, d) => bytes.length + uptoBulk d + 1
  | (_, d) => uptoBulk d + 1
 end
def uptoSmall : (H : Type) → List (DataW H) → Bool := fun _ ds => decide (uptoBulkAll ds ≤ 1048576)
def OpenSpec.upto (s : _root_.Go.ChangeSpec) : _root_.Go.OpenSpec := { _root_.Go.OpenSpec.ofChange s with cond := some uptoSmall }

/-- 'facetroomlaw07.VecOf', WHERE WHAT IT READS IS OF BULK AT MOST 1048576: true; the input reads as it did. -/
def vecOfUptoRow : OpenClaim := { program := "ytodcjaobbnjikaa", sum := "7444fbfa4612ac5685e8ef4bcbff557dec8fbbbd8b6bbb748ba5770edb3f704f", func := "facetroom/facetroomlaw07.VecOf", spec := "vecOf", apart := false, narrowed := true }
def VecOfUptoSaid : Prop := vecOfUptoRow.holds Try.pinned (OpenSpec.upto vecOfSpec)

/-- 'facetroomlaw19.SatMasks', WHERE WHAT IT READS IS OF BULK AT MOST 1048576: true; the input reads as it did. -/
def satMasksUptoRow : OpenClaim := { program := "ytodcjaobbnjikaa", sum := "7444fbfa4612ac5685e8ef4bcbff557dec8fbbbd8b6bbb748ba5770edb3f704f", func := "facetroom/facetroomlaw19.SatMasks", spec := "satMasks", unfollowed := true, recurses := true, apart := false, narrowed := true }
def SatMasksUptoSaid : Prop := satMasksUptoRow.holds Try.pinned (OpenSpec.upto satMasksSpec)

/-- 'facetroomlaw01.NatSums', WHERE WHAT IT READS IS OF BULK AT MOST 1048576: true; the input reads as it did. -/
def natSumsUptoRow : OpenClaim := { program := "ytodcjaobbnjikaa", sum := "7444fbfa4612ac5685e8ef4bcbff557dec8fbbbd8b6bbb748ba5770edb3f704f", func := "facetroom/facetroomlaw01.NatSums", spec := "natSums", inPlace := ["math/bits.Add64", "math/bits.Sub64"], unfollowed := true, recurses := true, apart := false, narrowed := true }
def NatSumsUptoSaid : Prop := natSumsUptoRow.holds Try.pinned (OpenSpec.upto natSumsSpec)

/-- 'facetroomlaw01.NatShifts', WHERE WHAT IT READS IS OF BULK AT MOST 1048576: true; the input reads as it did. -/
def natShiftsUptoRow : OpenClaim := { program := "ytodcjaobbnjikaa", sum := "7444fbfa4612ac5685e8ef4bcbff557dec8fbbbd8b6bbb748ba5770edb3f704f", func := "facetroom/facetroomlaw01.NatShifts", spec := "natShifts", apart := false, narrowed := true }
def NatShiftsUptoSaid : Prop := natShiftsUptoRow.holds Try.pinned (OpenSpec.upto natShiftsSpec)

/-- 'facetroomlaw01.NatBit', WHERE WHAT IT READS IS OF BULK AT MOST 1048576: true; the input reads as it did. -/
def natBitUptoRow : OpenClaim := { program := "ytodcjaobbnjikaa", sum := "7444fbfa4612ac5685e8ef4bcbff557dec8fbbbd8b6bbb748ba5770edb3f704f", func := "facetroom/facetroomlaw01.NatBit", spec := "natBit", inPlace := ["math/bits.Add64", "math/bits.Sub64"], unfollowed := true, recurses := true, apart := false, narrowed := true }
def NatBitUptoSaid : Prop := natBitUptoRow.holds Try.pinned (OpenSpec.upto natBitSpec)

/-- 'facetroomlaw01.NatOrder', WHERE WHAT IT READS IS OF BULK AT MOST 1048576: true; the input reads as it did. -/
def natOrderUptoRow : OpenClaim := { program := "ytodcjaobbnjikaa", sum := "7444fbfa4612ac5685e8ef4bcbff557dec8fbbbd8b6bbb748ba5770edb3f704f", func := "facetroom/facetroomlaw01.NatOrder", spec := "natOrder", inPlace := ["math/bits.Add64", "math/bits.Sub64"], unfollowed := true, recurses := true, apart := false, narrowed := true }
def NatOrderUptoSaid : Prop := natOrderUptoRow.holds Try.pinned (OpenSpec.upto natOrderSpec)

/-- 'facetroomlaw01.NatTells', WHERE WHAT IT READS IS OF BULK AT MOST 1048576: true; the input reads as it did. -/
def natTellsUptoRow : OpenClaim := { program := "ytodcjaobbnjikaa", sum := "7444fbfa4612ac5685e8ef4bcbff557dec8fbbbd8b6bbb748ba5770edb3f704f", func := "facetroom/facetroomlaw01.NatTells", spec := "natTells", inPlace := ["math/bits.Add64", "math/bits.Sub64"], unfollowed := true, recurses := true, apart := false, narrowed := true }
def NatTellsUptoSaid : Prop := natTellsUptoRow.holds Try.pinned (OpenSpec.upto natTellsSpec)

/-- 'facetroomlaw02.MulTells', WHERE WHAT IT READS IS OF BULK AT MOST 1048576: true; the input reads as it did. -/
def mulTellsUptoRow : OpenClaim := { program := "ytodcjaobbnjikaa", sum := "7444fbfa4612ac5685e8ef4bcbff557dec8fbbbd8b6bbb748ba5770edb3f704f", func := "facetroom/facetroomlaw02.MulTells", spec := "mulTells", inPlace := ["math/bits.Add64", "math/bits.Sub64"], unfollowed := true, recurses := true, apart := false, narrowed := true }
def MulTellsUptoSaid : Prop := mulTellsUptoRow.holds Try.pinned (OpenSpec.upto mulTellsSpec)

/-- 'facetroomlaw01.NatBits', WHERE WHAT IT READS IS OF BULK AT MOST 1048576: true; the input reads as it did. -/
def natBitsUptoRow : OpenClaim := { program := "ytodcjaobbnjikaa", sum := "7444fbfa4612ac5685e8ef4bcbff557dec8fbbbd8b6bbb748ba5770edb3f704f", func := "facetroom/facetroomlaw01.NatBits", spec := "natBits", inPlace := ["math/bits.Add64", "math/bits.Sub64"], unfollowed := true, recurses := true, apart := false, narrowed := true }
def NatBitsUptoSaid : Prop := natBitsUptoRow.holds Try.pinned (OpenSpec.upto natBitsSpec)

/-- 'facetroomlaw01.NatNames', WHERE WHAT IT READS IS OF BULK AT MOST 1048576: true; the input reads as it did. -/
def natNamesUptoRow : OpenClaim := { program := "ytodcjaobbnjikaa", sum := "7444fbfa4612ac5685e8ef4bcbff557dec8fbbbd8b6bbb748ba5770edb3f704f", func := "facetroom/facetroomlaw01.NatNames", spec := "natNames", inPlace := ["math/bits.Add64", "math/bits.Sub64"], unfollowed := true, recurses := true, apart := false, narrowed := true }
def NatNamesUptoSaid : Prop := natNamesUptoRow.holds Try.pinned (OpenSpec.upto natNamesSpec)

/-- 'facetroomlaw02.MulPowers', WHERE WHAT IT READS IS OF BULK AT MOST 1048576: true; the input reads as it did. -/
def mulPowersUptoRow : OpenClaim := { program := "ytodcjaobbnjikaa", sum := "7444fbfa4612ac5685e8ef4bcbff557dec8fbbbd8b6bbb748ba5770edb3f704f", func := "facetroom/facetroomlaw02.MulPowers", spec := "mulPowers", inPlace := ["math/bits.Add64", "math/bits.Sub64"], unfollowed := true, recurses := true, apart := false, narrowed := true }
def MulPowersUptoSaid : Prop := mulPowersUptoRow.holds Try.pinned (OpenSpec.upto mulPowersSpec)

/-- 'facetroomlaw02.MulSums', WHERE WHAT IT READS IS OF BULK AT MOST 1048576: true; the input reads as it did. -/
def mulSumsUptoRow : OpenClaim := { program := "ytodcjaobbnjikaa", sum := "7444fbfa4612ac5685e8ef4bcbff557dec8fbbbd8b6bbb748ba5770edb3f704f", func := "facetroom/facetroomlaw02.MulSums", spec := "mulSums", inPlace := ["math/bits.Add64", "math/bits.Sub64"], unfollowed := true, recurses := true, apart := false, narrowed := true }
def MulSumsUptoSaid : Prop := mulSumsUptoRow.holds Try.pinned (OpenSpec.upto mulSumsSpec)

end Rows
end Go.Proofs.Ytodcjaobbnjikaa
