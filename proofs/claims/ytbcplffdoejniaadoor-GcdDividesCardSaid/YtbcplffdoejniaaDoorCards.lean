/-
  DERIVED. GIVEN WITH THE SEED: THE CARDS: each row of YtbcplffdoejniaaDoorRows.lean that lists a variable, with what it lists TIED to the program's text (the seventh form; the later family's looks); each row that meets fmt, with fmt's text TOLD by the authors' own Lean function (tested against real Go, not proved from fmt's source: count such statements apart). THE CARD IS WHAT COUNTS. Prove the row's statement (the work); the ties are given (YtbcplffdoejniaaDoorTie.lean); close each card by the builder's one call (the guide's Derived/Test/ToyasCard.lean, 'card_holds'). Laid BY PROGRAM, IN A SANDBOX (cutbox-door.mjs). By AI agents, Wed Nov 11 2026. No macro, syntax, notation, axiom, sorry.
-/
import Derived.Test.YtbcplffdoejniaaDoorRows
import GoSem.ClaimSeven
namespace Go.Proofs.YtbcplffdoejniaaDoor
namespace Rows

/-- THE TIED CARD OF 'facetroomlaw04.GcdDivides'. -/
def gcdDividesCard : Claim7 := { stood := { row := gcdDividesRow, standIns := [], harness := (true, "32522541af489b05b63539afed3c9c1932c9d43b7c3af12fb789c280b971493b"), looks := false }, kinds := [], alts := [], laidByText := true, laidKinds := [.data, .data, .data], laidTests := true, laidLooks := .later }
def GcdDividesCardSaid : Prop := Claim7.holds Tryd.pinned (.plain (OpenSpec.ofChange gcdDividesSpec)) gcdDividesCard

/-- THE TIED CARD OF 'facetroomlaw04.GcdProduct'. -/
def gcdProductCard : Claim7 := { stood := { row := gcdProductRow, standIns := [], harness := (true, "32522541af489b05b63539afed3c9c1932c9d43b7c3af12fb789c280b971493b"), looks := false }, kinds := [], alts := [], laidByText := true, laidKinds := [.data, .data, .data], laidTests := true, laidLooks := .later }
def GcdProductCardSaid : Prop := Claim7.holds Tryd.pinned (.plain (OpenSpec.ofChange gcdProductSpec)) gcdProductCard

/-- THE SECOND FORM's CARD OF 'facetroomlaw04.GcdDivides'. -/
def gcdDividesUptoCard : Claim7 := { stood := { row := gcdDividesUptoRow, standIns := [], harness := (true, "32522541af489b05b63539afed3c9c1932c9d43b7c3af12fb789c280b971493b"), looks := false }, kinds := [], alts := [], laidByText := true, laidKinds := [.data, .data, .data], laidTests := true, laidLooks := .later }
def GcdDividesUptoCardSaid : Prop := Claim7.holds Tryd.pinned (.plain (OpenSpec.upto gcdDividesSpec)) gcdDividesUptoCard

/-- THE SECOND FORM's CARD OF 'facetroomlaw04.GcdProduct'. -/
def gcdProductUptoCard : Claim7 := { stood := { row := gcdProductUptoRow, standIns := [], harness := (true, "32522541af489b05b63539afed3c9c1932c9d43b7c3af12fb789c280b971493b"), looks := false }, kinds := [], alts := [], laidByText := true, laidKinds := [.data, .data, .data], laidTests := true, laidLooks := .later }
def GcdProductUptoCardSaid : Prop := Claim7.holds Tryd.pinned (.plain (OpenSpec.upto gcdProductSpec)) gcdProductUptoCard
end Rows
end Go.Proofs.YtbcplffdoejniaaDoor
