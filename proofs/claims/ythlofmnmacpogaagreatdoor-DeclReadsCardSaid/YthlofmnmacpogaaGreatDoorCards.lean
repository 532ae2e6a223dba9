/-
  DERIVED. GIVEN WITH THE SEED: THE CARDS: each row of YthlofmnmacpogaaGreatDoorRows.lean that lists a variable, with what it lists TIED to the program's text (the seventh form; the later family's looks); each row that meets fmt, with fmt's text TOLD by the authors' own Lean function (tested against real Go, not proved from fmt's source: count such statements apart). THE CARD IS WHAT COUNTS. Prove the row's statement (the work); the ties are given (YthlofmnmacpogaaGreatDoorTie.lean); close each card by the builder's one call (the guide's Derived/Test/ToyasCard.lean, 'card_holds'). Laid BY PROGRAM, IN A SANDBOX (cutbox-door.mjs). By AI agents, Wed Nov 11 2026. No macro, syntax, notation, axiom, sorry.
-/
import Derived.Test.YthlofmnmacpogaaGreatDoorRows
import GoSem.ClaimSeven
namespace Go.Proofs.YthlofmnmacpogaaGreatDoor
namespace Rows

/-- THE TIED CARD OF 'warderlaw07.DeclReads'. -/
def declReadsCard : Claim7 := { stood := { row := declReadsRow, standIns := [], harness := (true, "d29ee60ef64dcaf6dc3b8313e312305c8bee6250734fc1be6109b3e81c14d66a"), looks := false }, kinds := [], alts := [], laidByText := true, laidKinds := [.data, .pinned, .pinned], laidTests := true, laidLooks := .later }
def DeclReadsCardSaid : Prop := Claim7.holds Tryz.pinned (.plain (OpenSpec.ofChange declReadsSpec)) declReadsCard

/-- THE TIED CARD OF 'warderlaw07.DeclOnes'. -/
def declOnesCard : Claim7 := { stood := { row := declOnesRow, standIns := [], harness := (true, "d29ee60ef64dcaf6dc3b8313e312305c8bee6250734fc1be6109b3e81c14d66a"), looks := false }, kinds := [], alts := [], laidByText := true, laidKinds := [.data, .pinned, .pinned], laidTests := true, laidLooks := .later }
def DeclOnesCardSaid : Prop := Claim7.holds Tryz.pinned (.plain (OpenSpec.ofChange declOnesSpec)) declOnesCard

/-- THE TIED CARD OF 'warderlaw07.DeclJoins'. -/
def declJoinsCard : Claim7 := { stood := { row := declJoinsRow, standIns := [], harness := (true, "d29ee60ef64dcaf6dc3b8313e312305c8bee6250734fc1be6109b3e81c14d66a"), looks := false }, kinds := [], alts := [], laidByText := true, laidKinds := [.data, .pinned, .pinned], laidTests := true, laidLooks := .later }
def DeclJoinsCardSaid : Prop := Claim7.holds Tryz.pinned (.plain (OpenSpec.ofChange declJoinsSpec)) declJoinsCard

/-- THE TIED CARD OF 'warderlaw07.DeclEmpty'. -/
def declEmptyCard : Claim7 := { stood := { row := declEmptyRow, standIns := [], harness := (true, "d29ee60ef64dcaf6dc3b8313e312305c8bee6250734fc1be6109b3e81c14d66a"), looks := false }, kinds := [], alts := [], laidByText := true, laidKinds := [.data, .pinned, .pinned], laidTests := true, laidLooks := .later }
def DeclEmptyCardSaid : Prop := Claim7.holds Tryz.pinned (.plain (OpenSpec.ofChange declEmptySpec)) declEmptyCard

/-- THE SECOND FORM's CARD OF 'warderlaw07.DeclReads'. -/
def declReadsUptoCard : Claim7 := { stood := { row := declReadsUptoRow, standIns := [], harness := (true, "d29ee60ef64dcaf6dc3b8313e312305c8bee6250734fc1be6109b3e81c14d66a"), looks := false }, kinds := [], alts := [], laidByText := true, laidKinds := [.data, .pinned, .pinned], laidTests := true, laidLooks := .later }
def DeclReadsUptoCardSaid : Prop := Claim7.holds Tryz.pinned (.plain (OpenSpec.upto declReadsSpec)) declReadsUptoCard

/-- THE SECOND FORM's CARD OF 'warderlaw07.DeclOnes'. -/
def declOnesUptoCard : Claim7 := { stood := { row := declOnesUptoRow, standIns := [], harness := (true, "d29ee60ef64dcaf6dc3b8313e312305c8bee6250734fc1be6109b3e81c14d66a"), looks := false }, kinds := [], alts := [], laidByText := true, laidKinds := [.data, .pinned, .pinned], laidTests := true, laidLooks := .later }
def DeclOnesUptoCardSaid : Prop := Claim7.holds Tryz.pinned (.plain (OpenSpec.upto declOnesSpec)) declOnesUptoCard

/-- THE SECOND FORM's CARD OF 'warderlaw07.DeclJoins'. -/
def declJoinsUptoCard : Claim7 := { stood := { row := declJoinsUptoRow, standIns := [], harness := (true, "d29ee60ef64dcaf6dc3b8313e312305c8bee6250734fc1be6109b3e81c14d66a"), looks := false }, kinds := [], alts := [], laidByText := true, laidKinds := [.data, .pinned, .pinned], laidTests := true, laidLooks := .later }
def DeclJoinsUptoCardSaid : Prop := Claim7.holds Tryz.pinned (.plain (OpenSpec.upto declJoinsSpec)) declJoinsUptoCard

/-- THE SECOND FORM's CARD OF 'warderlaw07.DeclEmpty'. -/
def declEmptyUptoCard : Claim7 := { stood := { row := declEmptyUptoRow, standIns := [], harness := (true, "d29ee60ef64dcaf6dc3b8313e312305c8bee6250734fc1be6109b3e81c14d66a"), looks := false }, kinds := [], alts := [], laidByText := true, laidKinds := [.data, .pinned, .pinned], laidTests := true, laidLooks := .later }
def DeclEmptyUptoCardSaid : Prop := Claim7.holds Tryz.pinned (.plain (OpenSpec.upto declEmptySpec)) declEmptyUptoCard
end Rows
end Go.Proofs.YthlofmnmacpogaaGreatDoor
