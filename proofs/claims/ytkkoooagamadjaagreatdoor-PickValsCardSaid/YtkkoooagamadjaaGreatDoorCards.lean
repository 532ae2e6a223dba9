/-
  DERIVED. GIVEN WITH THE SEED: THE CARDS: each row of YtkkoooagamadjaaGreatDoorRows.lean that lists a variable, with what it lists TIED to the program's text (the seventh form; the later family's looks); each row that meets fmt, with fmt's text TOLD by the authors' own Lean function (tested against real Go, not proved from fmt's source: count such statements apart). THE CARD IS WHAT COUNTS. Prove the row's statement (the work); the ties are given (YtkkoooagamadjaaGreatDoorTie.lean); close each card by the builder's one call (the guide's Derived/Test/ToyasCard.lean, 'card_holds'). Laid BY PROGRAM, IN A SANDBOX (cutbox-door.mjs). By AI agents, Wed Nov 11 2026. No macro, syntax, notation, axiom, sorry.
-/
import Derived.Test.YtkkoooagamadjaaGreatDoorRows
import GoSem.ClaimSeven
namespace Go.Proofs.YtkkoooagamadjaaGreatDoor
namespace Rows

/-- THE TIED CARD OF 'warderlaw25.WriteOrder'. -/
def writeOrderCard : Claim7 := { stood := { row := writeOrderRow, standIns := [], harness := (true, "2a3e320776695a08a8f0163b01d38128008ec94ea1ddcebbf689db0b78aa17d1"), looks := false }, kinds := [], alts := [], laidByText := true, laidKinds := [.data, .data, .data], laidTests := true, laidLooks := .later }
def WriteOrderCardSaid : Prop := Claim7.holds Tryz.pinned (.plain (OpenSpec.ofChange writeOrderSpec)) writeOrderCard

/-- THE TIED CARD OF 'warderlaw36.PickVals'. -/
def pickValsCard : Claim7 := { stood := { row := pickValsRow, standIns := [], harness := (true, "2a3e320776695a08a8f0163b01d38128008ec94ea1ddcebbf689db0b78aa17d1"), looks := false }, kinds := [], alts := [], laidByText := true, laidKinds := [.data, .data, .data], laidTests := true, laidLooks := .later }
def PickValsCardSaid : Prop := Claim7.holds Tryz.pinned (.plain (OpenSpec.ofChange pickValsSpec)) pickValsCard

/-- THE SECOND FORM's CARD OF 'warderlaw25.WriteOrder'. -/
def writeOrderUptoCard : Claim7 := { stood := { row := writeOrderUptoRow, standIns := [], harness := (true, "2a3e320776695a08a8f0163b01d38128008ec94ea1ddcebbf689db0b78aa17d1"), looks := false }, kinds := [], alts := [], laidByText := true, laidKinds := [.data, .data, .data], laidTests := true, laidLooks := .later }
def WriteOrderUptoCardSaid : Prop := Claim7.holds Tryz.pinned (.plain (OpenSpec.upto writeOrderSpec)) writeOrderUptoCard

/-- THE SECOND FORM's CARD OF 'warderlaw36.PickVals'. -/
def pickValsUptoCard : Claim7 := { stood := { row := pickValsUptoRow, standIns := [], harness := (true, "2a3e320776695a08a8f0163b01d38128008ec94ea1ddcebbf689db0b78aa17d1"), looks := false }, kinds := [], alts := [], laidByText := true, laidKinds := [.data, .data, .data], laidTests := true, laidLooks := .later }
def PickValsUptoCardSaid : Prop := Claim7.holds Tryz.pinned (.plain (OpenSpec.upto pickValsSpec)) pickValsUptoCard
end Rows
end Go.Proofs.YtkkoooagamadjaaGreatDoor
