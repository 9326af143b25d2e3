/-
  DERIVED. GIVEN WITH THE SEED: THE CARDS: each row of YtbcplffdoejniaaGreatDoorRows.lean that lists a variable, with what it lists TIED to the program's text (the seventh form; the later family's looks); each row that meets fmt, with fmt's text TOLD by the authors' own Lean function (tested against real Go, not proved from fmt's source: count such statements apart). THE CARD IS WHAT COUNTS. Prove the row's statement (the work); the ties are given (YtbcplffdoejniaaGreatDoorTie.lean); close each card by the builder's one call (the guide's Derived/Test/ToyasCard.lean, 'card_holds'). Laid BY PROGRAM, IN A SANDBOX (cutbox-door.mjs). By AI agents, Wed Nov 11 2026. No macro, syntax, notation, axiom, sorry.
-/
import Derived.Test.YtbcplffdoejniaaGreatDoorRows
import GoSem.ClaimSeven
namespace Go.Proofs.YtbcplffdoejniaaGreatDoor
namespace Rows

/-- THE TIED CARD OF 'facetroomlaw06.RatTold'. -/
def ratToldCard : Claim7 := { stood := { row := ratToldRow, standIns := [], harness := (true, "37ed06bb20d70f6451b97f5840801f40021d5a2652a1e27cfa9b8d1e425d3721"), looks := false }, kinds := [], alts := [], laidByText := true, laidKinds := [.data, .data, .data], laidTests := true, laidLooks := .later }
def RatToldCardSaid : Prop := Claim7.holds Tryz.pinned (.plain (OpenSpec.ofChange ratToldSpec)) ratToldCard

/-- THE TIED CARD OF 'facetroomlaw06.RatField'. -/
def ratFieldCard : Claim7 := { stood := { row := ratFieldRow, standIns := [], harness := (true, "37ed06bb20d70f6451b97f5840801f40021d5a2652a1e27cfa9b8d1e425d3721"), looks := false }, kinds := [], alts := [], laidByText := true, laidKinds := [.data, .data, .data], laidTests := true, laidLooks := .later }
def RatFieldCardSaid : Prop := Claim7.holds Tryz.pinned (.plain (OpenSpec.ofChange ratFieldSpec)) ratFieldCard

/-- THE TIED CARD OF 'facetroomlaw06.RatOrder'. -/
def ratOrderCard : Claim7 := { stood := { row := ratOrderRow, standIns := [], harness := (true, "37ed06bb20d70f6451b97f5840801f40021d5a2652a1e27cfa9b8d1e425d3721"), looks := false }, kinds := [], alts := [], laidByText := true, laidKinds := [.data, .data, .data], laidTests := true, laidLooks := .later }
def RatOrderCardSaid : Prop := Claim7.holds Tryz.pinned (.plain (OpenSpec.ofChange ratOrderSpec)) ratOrderCard

/-- THE TIED CARD OF 'facetroomlaw06.RatNames'. -/
def ratNamesCard : Claim7 := { stood := { row := ratNamesRow, standIns := [], harness := (true, "37ed06bb20d70f6451b97f5840801f40021d5a2652a1e27cfa9b8d1e425d3721"), looks := false }, kinds := [], alts := [], laidByText := true, laidKinds := [.data, .data, .data], laidTests := true, laidLooks := .later }
def RatNamesCardSaid : Prop := Claim7.holds Tryz.pinned (.plain (OpenSpec.ofChange ratNamesSpec)) ratNamesCard

/-- THE SECOND FORM's CARD OF 'facetroomlaw06.RatTold'. -/
def ratToldUptoCard : Claim7 := { stood := { row := ratToldUptoRow, standIns := [], harness := (true, "37ed06bb20d70f6451b97f5840801f40021d5a2652a1e27cfa9b8d1e425d3721"), looks := false }, kinds := [], alts := [], laidByText := true, laidKinds := [.data, .data, .data], laidTests := true, laidLooks := .later }
def RatToldUptoCardSaid : Prop := Claim7.holds Tryz.pinned (.plain (OpenSpec.upto ratToldSpec)) ratToldUptoCard

/-- THE SECOND FORM's CARD OF 'facetroomlaw06.RatField'. -/
def ratFieldUptoCard : Claim7 := { stood := { row := ratFieldUptoRow, standIns := [], harness := (true, "37ed06bb20d70f6451b97f5840801f40021d5a2652a1e27cfa9b8d1e425d3721"), looks := false }, kinds := [], alts := [], laidByText := true, laidKinds := [.data, .data, .data], laidTests := true, laidLooks := .later }
def RatFieldUptoCardSaid : Prop := Claim7.holds Tryz.pinned (.plain (OpenSpec.upto ratFieldSpec)) ratFieldUptoCard

/-- THE SECOND FORM's CARD OF 'facetroomlaw06.RatOrder'. -/
def ratOrderUptoCard : Claim7 := { stood := { row := ratOrderUptoRow, standIns := [], harness := (true, "37ed06bb20d70f6451b97f5840801f40021d5a2652a1e27cfa9b8d1e425d3721"), looks := false }, kinds := [], alts := [], laidByText := true, laidKinds := [.data, .data, .data], laidTests := true, laidLooks := .later }
def RatOrderUptoCardSaid : Prop := Claim7.holds Tryz.pinned (.plain (OpenSpec.upto ratOrderSpec)) ratOrderUptoCard

/-- THE SECOND FORM's CARD OF 'facetroomlaw06.RatNames'. -/
def ratNamesUptoCard : Claim7 := { stood := { row := ratNamesUptoRow, standIns := [], harness := (true, "37ed06bb20d70f6451b97f5840801f40021d5a2652a1e27cfa9b8d1e425d3721"), looks := false }, kinds := [], alts := [], laidByText := true, laidKinds := [.data, .data, .data], laidTests := true, laidLooks := .later }
def RatNamesUptoCardSaid : Prop := Claim7.holds Tryz.pinned (.plain (OpenSpec.upto ratNamesSpec)) ratNamesUptoCard
end Rows
end Go.Proofs.YtbcplffdoejniaaGreatDoor
