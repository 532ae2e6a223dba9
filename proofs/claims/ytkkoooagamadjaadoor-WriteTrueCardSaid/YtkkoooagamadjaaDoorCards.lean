/-
  DERIVED. GIVEN WITH THE SEED: THE CARDS: each row of YtkkoooagamadjaaDoorRows.lean that lists a variable, with what it lists TIED to the program's text (the seventh form; the later family's looks); each row that meets fmt, with fmt's text TOLD by the authors' own Lean function (tested against real Go, not proved from fmt's source: count such statements apart). THE CARD IS WHAT COUNTS. Prove the row's statement (the work); the ties are given (YtkkoooagamadjaaDoorTie.lean); close each card by the builder's one call (the guide's Derived/Test/ToyasCard.lean, 'card_holds'). Laid BY PROGRAM, IN A SANDBOX (cutbox-door.mjs). By AI agents, Wed Nov 11 2026. No macro, syntax, notation, axiom, sorry.
-/
import Derived.Test.YtkkoooagamadjaaDoorRows
import GoSem.ClaimSeven
namespace Go.Proofs.YtkkoooagamadjaaDoor
namespace Rows

/-- THE TIED CARD OF 'warderlaw25.WriteUnique'. -/
def writeUniqueCard : Claim7 := { stood := { row := writeUniqueRow, standIns := [], harness := (true, "82dec58c2de37109664e789c7496af2232e488533c633259bc3fd204a13a93f8"), looks := false }, kinds := [], alts := [], laidByText := true, laidKinds := [.data, .data, .data], laidTests := true, laidLooks := .later }
def WriteUniqueCardSaid : Prop := Claim7.holds Tryd.pinned (.plain (OpenSpec.ofChange writeUniqueSpec)) writeUniqueCard

/-- THE TIED CARD OF 'warderlaw25.WriteTrue'. -/
def writeTrueCard : Claim7 := { stood := { row := writeTrueRow, standIns := [], harness := (true, "82dec58c2de37109664e789c7496af2232e488533c633259bc3fd204a13a93f8"), looks := false }, kinds := [], alts := [], laidByText := true, laidKinds := [.data, .data, .data], laidTests := true, laidLooks := .later }
def WriteTrueCardSaid : Prop := Claim7.holds Tryd.pinned (.plain (OpenSpec.ofChange writeTrueSpec)) writeTrueCard

/-- THE SECOND FORM's CARD OF 'warderlaw25.WriteUnique'. -/
def writeUniqueUptoCard : Claim7 := { stood := { row := writeUniqueUptoRow, standIns := [], harness := (true, "82dec58c2de37109664e789c7496af2232e488533c633259bc3fd204a13a93f8"), looks := false }, kinds := [], alts := [], laidByText := true, laidKinds := [.data, .data, .data], laidTests := true, laidLooks := .later }
def WriteUniqueUptoCardSaid : Prop := Claim7.holds Tryd.pinned (.plain (OpenSpec.upto writeUniqueSpec)) writeUniqueUptoCard

/-- THE SECOND FORM's CARD OF 'warderlaw25.WriteTrue'. -/
def writeTrueUptoCard : Claim7 := { stood := { row := writeTrueUptoRow, standIns := [], harness := (true, "82dec58c2de37109664e789c7496af2232e488533c633259bc3fd204a13a93f8"), looks := false }, kinds := [], alts := [], laidByText := true, laidKinds := [.data, .data, .data], laidTests := true, laidLooks := .later }
def WriteTrueUptoCardSaid : Prop := Claim7.holds Tryd.pinned (.plain (OpenSpec.upto writeTrueSpec)) writeTrueUptoCard
end Rows
end Go.Proofs.YtkkoooagamadjaaDoor
