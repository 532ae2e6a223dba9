/-
  DERIVED. GIVEN WITH THE SEED: THE CARDS: each row of YthbbbccefjemmaaDoorRows.lean that lists a variable, with what it lists TIED to the program's text (the seventh form; the later family's looks); each row that meets fmt, with fmt's text TOLD by the authors' own Lean function (tested against real Go, not proved from fmt's source: count such statements apart). THE CARD IS WHAT COUNTS. Prove the row's statement (the work); the ties are given (YthbbbccefjemmaaDoorTie.lean); close each card by the builder's one call (the guide's Derived/Test/ToyasCard.lean, 'card_holds'). Laid BY PROGRAM, IN A SANDBOX (cutbox-door.mjs). By AI agents, Wed Nov 11 2026. No macro, syntax, notation, axiom, sorry.
-/
import Derived.Test.YthbbbccefjemmaaDoorRows
import GoSem.ClaimSeven
namespace Go.Proofs.YthbbbccefjemmaaDoor
namespace Rows

/-- THE TIED CARD OF 'warderlaw02.TokenReads'. -/
def tokenReadsCard : Claim7 := { stood := { row := tokenReadsRow, standIns := [], harness := (true, "7c9cef3637e6ae16c5d8a62438021255db22841f9037b20a832bdf6330ab6d0f"), looks := false }, kinds := [], alts := [], laidByText := true, laidKinds := [.data, .pinned, .pinned], laidTests := true, laidLooks := .later }
def TokenReadsCardSaid : Prop := Claim7.holds Tryd.pinned (.plain (OpenSpec.ofChange tokenReadsSpec)) tokenReadsCard

/-- THE TIED CARD OF 'warderlaw02.TokenKnown'. -/
def tokenKnownCard : Claim7 := { stood := { row := tokenKnownRow, standIns := [], harness := (true, "7c9cef3637e6ae16c5d8a62438021255db22841f9037b20a832bdf6330ab6d0f"), looks := false }, kinds := [], alts := [], laidByText := true, laidKinds := [.data, .pinned, .pinned], laidTests := true, laidLooks := .later }
def TokenKnownCardSaid : Prop := Claim7.holds Tryd.pinned (.plain (OpenSpec.ofChange tokenKnownSpec)) tokenKnownCard

/-- THE TIED CARD OF 'warderlaw02.TokenAgain'. -/
def tokenAgainCard : Claim7 := { stood := { row := tokenAgainRow, standIns := [], harness := (true, "7c9cef3637e6ae16c5d8a62438021255db22841f9037b20a832bdf6330ab6d0f"), looks := false }, kinds := [], alts := [], laidByText := true, laidKinds := [.data, .pinned, .pinned], laidTests := true, laidLooks := .later }
def TokenAgainCardSaid : Prop := Claim7.holds Tryd.pinned (.plain (OpenSpec.ofChange tokenAgainSpec)) tokenAgainCard

/-- THE TIED CARD OF 'warderlaw02.TokenRises'. -/
def tokenRisesCard : Claim7 := { stood := { row := tokenRisesRow, standIns := [], harness := (true, "7c9cef3637e6ae16c5d8a62438021255db22841f9037b20a832bdf6330ab6d0f"), looks := false }, kinds := [], alts := [], laidByText := true, laidKinds := [.data, .pinned, .pinned], laidTests := true, laidLooks := .later }
def TokenRisesCardSaid : Prop := Claim7.holds Tryd.pinned (.plain (OpenSpec.ofChange tokenRisesSpec)) tokenRisesCard

/-- THE SECOND FORM's CARD OF 'warderlaw02.TokenReads'. -/
def tokenReadsUptoCard : Claim7 := { stood := { row := tokenReadsUptoRow, standIns := [], harness := (true, "7c9cef3637e6ae16c5d8a62438021255db22841f9037b20a832bdf6330ab6d0f"), looks := false }, kinds := [], alts := [], laidByText := true, laidKinds := [.data, .pinned, .pinned], laidTests := true, laidLooks := .later }
def TokenReadsUptoCardSaid : Prop := Claim7.holds Tryd.pinned (.plain (OpenSpec.upto tokenReadsSpec)) tokenReadsUptoCard

/-- THE SECOND FORM's CARD OF 'warderlaw02.TokenKnown'. -/
def tokenKnownUptoCard : Claim7 := { stood := { row := tokenKnownUptoRow, standIns := [], harness := (true, "7c9cef3637e6ae16c5d8a62438021255db22841f9037b20a832bdf6330ab6d0f"), looks := false }, kinds := [], alts := [], laidByText := true, laidKinds := [.data, .pinned, .pinned], laidTests := true, laidLooks := .later }
def TokenKnownUptoCardSaid : Prop := Claim7.holds Tryd.pinned (.plain (OpenSpec.upto tokenKnownSpec)) tokenKnownUptoCard

/-- THE SECOND FORM's CARD OF 'warderlaw02.TokenAgain'. -/
def tokenAgainUptoCard : Claim7 := { stood := { row := tokenAgainUptoRow, standIns := [], harness := (true, "7c9cef3637e6ae16c5d8a62438021255db22841f9037b20a832bdf6330ab6d0f"), looks := false }, kinds := [], alts := [], laidByText := true, laidKinds := [.data, .pinned, .pinned], laidTests := true, laidLooks := .later }
def TokenAgainUptoCardSaid : Prop := Claim7.holds Tryd.pinned (.plain (OpenSpec.upto tokenAgainSpec)) tokenAgainUptoCard

/-- THE SECOND FORM's CARD OF 'warderlaw02.TokenRises'. -/
def tokenRisesUptoCard : Claim7 := { stood := { row := tokenRisesUptoRow, standIns := [], harness := (true, "7c9cef3637e6ae16c5d8a62438021255db22841f9037b20a832bdf6330ab6d0f"), looks := false }, kinds := [], alts := [], laidByText := true, laidKinds := [.data, .pinned, .pinned], laidTests := true, laidLooks := .later }
def TokenRisesUptoCardSaid : Prop := Claim7.holds Tryd.pinned (.plain (OpenSpec.upto tokenRisesSpec)) tokenRisesUptoCard
end Rows
end Go.Proofs.YthbbbccefjemmaaDoor
