/-
  DERIVED. GIVEN WITH THE SEED: THE CARDS: each row of YtncnbcdppdkmcaaGreatDoorRows.lean that lists a variable, with what it lists TIED to the program's text (the seventh form; the later family's looks); each row that meets fmt, with fmt's text TOLD by the authors' own Lean function (tested against real Go, not proved from fmt's source: count such statements apart). THE CARD IS WHAT COUNTS. Prove the row's statement (the work); the ties are given (YtncnbcdppdkmcaaGreatDoorTie.lean); close each card by the builder's one call (the guide's Derived/Test/ToyasCard.lean, 'card_holds'). Laid BY PROGRAM, IN A SANDBOX (cutbox-door.mjs). By AI agents, Wed Nov 11 2026. No macro, syntax, notation, axiom, sorry.
-/
import Derived.Test.YtncnbcdppdkmcaaGreatDoorRows
import GoSem.ClaimSeven
namespace Go.Proofs.YtncnbcdppdkmcaaGreatDoor
namespace Rows

/-- THE TIED CARD OF 'facetroomlaw04.GcdNames'. -/
def gcdNamesCard : Claim7 := { stood := { row := gcdNamesRow, standIns := [], harness := (true, "0f1bcc56e926ed1efe525fac5486e4f16b0a1fd9ef73d7c24cf3060c2492a23d"), looks := true }, kinds := [], alts := [], laidByText := true, laidKinds := [.data, .data, .data, .data, .sentinel, .sentinel, .pinned], laidTests := true, laidLooks := .later }
def GcdNamesCardSaid : Prop := Claim7.holds Tryz.pinned (.plain (OpenSpec.ofChange gcdNamesSpec)) gcdNamesCard

/-- THE TIED CARD OF 'facetroomlaw04.GcdDigits'. -/
def gcdDigitsCard : Claim7 := { stood := { row := gcdDigitsRow, standIns := [], harness := (true, "0f1bcc56e926ed1efe525fac5486e4f16b0a1fd9ef73d7c24cf3060c2492a23d"), looks := true }, kinds := [], alts := [], laidByText := true, laidKinds := [.data, .data, .data, .data, .sentinel, .sentinel, .pinned], laidTests := true, laidLooks := .later }
def GcdDigitsCardSaid : Prop := Claim7.holds Tryz.pinned (.plain (OpenSpec.ofChange gcdDigitsSpec)) gcdDigitsCard

/-- THE SECOND FORM's CARD OF 'facetroomlaw04.GcdNames'. -/
def gcdNamesUptoCard : Claim7 := { stood := { row := gcdNamesUptoRow, standIns := [], harness := (true, "0f1bcc56e926ed1efe525fac5486e4f16b0a1fd9ef73d7c24cf3060c2492a23d"), looks := true }, kinds := [], alts := [], laidByText := true, laidKinds := [.data, .data, .data, .data, .sentinel, .sentinel, .pinned], laidTests := true, laidLooks := .later }
def GcdNamesUptoCardSaid : Prop := Claim7.holds Tryz.pinned (.plain (OpenSpec.upto gcdNamesSpec)) gcdNamesUptoCard

/-- THE SECOND FORM's CARD OF 'facetroomlaw04.GcdDigits'. -/
def gcdDigitsUptoCard : Claim7 := { stood := { row := gcdDigitsUptoRow, standIns := [], harness := (true, "0f1bcc56e926ed1efe525fac5486e4f16b0a1fd9ef73d7c24cf3060c2492a23d"), looks := true }, kinds := [], alts := [], laidByText := true, laidKinds := [.data, .data, .data, .data, .sentinel, .sentinel, .pinned], laidTests := true, laidLooks := .later }
def GcdDigitsUptoCardSaid : Prop := Claim7.holds Tryz.pinned (.plain (OpenSpec.upto gcdDigitsSpec)) gcdDigitsUptoCard
end Rows
end Go.Proofs.YtncnbcdppdkmcaaGreatDoor
