/-
  DERIVED. GIVEN WITH THE SEED: THE CARDS: each row of YtceenaegchlbcaaGreatDoorRows.lean that lists a variable, with what it lists TIED to the program's text (the seventh form; the later family's looks); each row that meets fmt, with fmt's text TOLD by the authors' own Lean function (tested against real Go, not proved from fmt's source: count such statements apart). THE CARD IS WHAT COUNTS. Prove the row's statement (the work); the ties are given (YtceenaegchlbcaaGreatDoorTie.lean); close each card by the builder's one call (the guide's Derived/Test/ToyasCard.lean, 'card_holds'). Laid BY PROGRAM, IN A SANDBOX (cutbox-door.mjs). By AI agents, Wed Nov 11 2026. No macro, syntax, notation, axiom, sorry.
-/
import Derived.Test.YtceenaegchlbcaaGreatDoorRows
import GoSem.ClaimSeven
namespace Go.Proofs.YtceenaegchlbcaaGreatDoor
namespace Rows

/-- THE TIED CARD OF 'facetroomlaw04.GcdTexts'. -/
def gcdTextsCard : Claim7 := { stood := { row := gcdTextsRow, standIns := [], harness := (true, "0870b0042921b0b908b43af576ddf92dbbaae637ed52fc948af4efbb1ff540d5"), looks := true }, kinds := [], alts := [], laidByText := true, laidKinds := [.data, .data, .data, .data, .sentinel, .sentinel, .pinned], laidTests := true, laidLooks := .later }
def GcdTextsCardSaid : Prop := Claim7.holds Tryz.pinned (.plain (OpenSpec.ofChange gcdTextsSpec)) gcdTextsCard

/-- THE TIED CARD OF 'facetroomlaw05.WholeQuotients'. -/
def wholeQuotientsCard : Claim7 := { stood := { row := wholeQuotientsRow, standIns := [], harness := (true, "0870b0042921b0b908b43af576ddf92dbbaae637ed52fc948af4efbb1ff540d5"), looks := true }, kinds := [], alts := [], laidByText := true, laidKinds := [.data, .data, .data, .data, .sentinel, .sentinel, .pinned], laidTests := true, laidLooks := .later }
def WholeQuotientsCardSaid : Prop := Claim7.holds Tryz.pinned (.plain (OpenSpec.ofChange wholeQuotientsSpec)) wholeQuotientsCard

/-- THE TIED CARD OF 'facetroomlaw06.RatTells'. -/
def ratTellsCard : Claim7 := { stood := { row := ratTellsRow, standIns := [], harness := (true, "0870b0042921b0b908b43af576ddf92dbbaae637ed52fc948af4efbb1ff540d5"), looks := true }, kinds := [], alts := [], laidByText := true, laidKinds := [.data, .data, .data], laidTests := true, laidLooks := .later }
def RatTellsCardSaid : Prop := Claim7.holds Tryz.pinned (.plain (OpenSpec.ofChange ratTellsSpec)) ratTellsCard

/-- THE SECOND FORM's CARD OF 'facetroomlaw04.GcdTexts'. -/
def gcdTextsUptoCard : Claim7 := { stood := { row := gcdTextsUptoRow, standIns := [], harness := (true, "0870b0042921b0b908b43af576ddf92dbbaae637ed52fc948af4efbb1ff540d5"), looks := true }, kinds := [], alts := [], laidByText := true, laidKinds := [.data, .data, .data, .data, .sentinel, .sentinel, .pinned], laidTests := true, laidLooks := .later }
def GcdTextsUptoCardSaid : Prop := Claim7.holds Tryz.pinned (.plain (OpenSpec.upto gcdTextsSpec)) gcdTextsUptoCard

/-- THE SECOND FORM's CARD OF 'facetroomlaw05.WholeQuotients'. -/
def wholeQuotientsUptoCard : Claim7 := { stood := { row := wholeQuotientsUptoRow, standIns := [], harness := (true, "0870b0042921b0b908b43af576ddf92dbbaae637ed52fc948af4efbb1ff540d5"), looks := true }, kinds := [], alts := [], laidByText := true, laidKinds := [.data, .data, .data, .data, .sentinel, .sentinel, .pinned], laidTests := true, laidLooks := .later }
def WholeQuotientsUptoCardSaid : Prop := Claim7.holds Tryz.pinned (.plain (OpenSpec.upto wholeQuotientsSpec)) wholeQuotientsUptoCard

/-- THE SECOND FORM's CARD OF 'facetroomlaw06.RatTells'. -/
def ratTellsUptoCard : Claim7 := { stood := { row := ratTellsUptoRow, standIns := [], harness := (true, "0870b0042921b0b908b43af576ddf92dbbaae637ed52fc948af4efbb1ff540d5"), looks := true }, kinds := [], alts := [], laidByText := true, laidKinds := [.data, .data, .data], laidTests := true, laidLooks := .later }
def RatTellsUptoCardSaid : Prop := Claim7.holds Tryz.pinned (.plain (OpenSpec.upto ratTellsSpec)) ratTellsUptoCard
end Rows
end Go.Proofs.YtceenaegchlbcaaGreatDoor
