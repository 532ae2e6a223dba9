/-
  DERIVED. GIVEN WITH THE SEED: THE CARDS: each row of YtignjhbajjephaaGreatDoorRows.lean that lists a variable, with what it lists TIED to the program's text (the seventh form; the later family's looks); each row that meets fmt, with fmt's text TOLD by the authors' own Lean function (tested against real Go, not proved from fmt's source: count such statements apart). THE CARD IS WHAT COUNTS. Prove the row's statement (the work); the ties are given (YtignjhbajjephaaGreatDoorTie.lean); close each card by the builder's one call (the guide's Derived/Test/ToyasCard.lean, 'card_holds'). Laid BY PROGRAM, IN A SANDBOX (cutbox-door.mjs). By AI agents, Wed Nov 11 2026. No macro, syntax, notation, axiom, sorry.
-/
import Derived.Test.YtignjhbajjephaaGreatDoorRows
import GoSem.ClaimSeven
namespace Go.Proofs.YtignjhbajjephaaGreatDoor
namespace Rows

/-- THE TIED CARD OF 'warderlaw05.CondReads'. -/
def condReadsCard : Claim7 := { stood := { row := condReadsRow, standIns := [], harness := (true, "a73caf73ee97600f9e50cc39d83bb160d02c603a9c37a0701afdb5b98c562e94"), looks := false }, kinds := [], alts := [], laidByText := true, laidKinds := [.data, .pinned, .pinned], laidTests := true, laidLooks := .later }
def CondReadsCardSaid : Prop := Claim7.holds Tryz.pinned (.plain (OpenSpec.ofChange condReadsSpec)) condReadsCard

/-- THE SECOND FORM's CARD OF 'warderlaw05.CondReads'. -/
def condReadsUptoCard : Claim7 := { stood := { row := condReadsUptoRow, standIns := [], harness := (true, "a73caf73ee97600f9e50cc39d83bb160d02c603a9c37a0701afdb5b98c562e94"), looks := false }, kinds := [], alts := [], laidByText := true, laidKinds := [.data, .pinned, .pinned], laidTests := true, laidLooks := .later }
def CondReadsUptoCardSaid : Prop := Claim7.holds Tryz.pinned (.plain (OpenSpec.upto condReadsSpec)) condReadsUptoCard
end Rows
end Go.Proofs.YtignjhbajjephaaGreatDoor
