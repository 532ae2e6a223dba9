/-
  DERIVED. GIVEN WITH THE SEED: THE CARDS: each row of YtignjhbajjephaaDoorRows.lean that lists a variable, with what it lists TIED to the program's text (the seventh form; the later family's looks); each row that meets fmt, with fmt's text TOLD by the authors' own Lean function (tested against real Go, not proved from fmt's source: count such statements apart). THE CARD IS WHAT COUNTS. Prove the row's statement (the work); the ties are given (YtignjhbajjephaaDoorTie.lean); close each card by the builder's one call (the guide's Derived/Test/ToyasCard.lean, 'card_holds'). Laid BY PROGRAM, IN A SANDBOX (cutbox-door.mjs). By AI agents, Wed Nov 11 2026. No macro, syntax, notation, axiom, sorry.
-/
import Derived.Test.YtignjhbajjephaaDoorRows
import GoSem.ClaimSeven
namespace Go.Proofs.YtignjhbajjephaaDoor
namespace Rows

/-- THE TIED CARD OF 'warderlaw05.CondTokens'. -/
def condTokensCard : Claim7 := { stood := { row := condTokensRow, standIns := [], harness := (true, "e05b7ce8403aa8c3db4955d591227a22658e5ca443a4907a10e412795c8551a1"), looks := false }, kinds := [], alts := [], laidByText := true, laidKinds := [.data, .pinned, .pinned], laidTests := true, laidLooks := .later }
def CondTokensCardSaid : Prop := Claim7.holds Tryd.pinned (.plain (OpenSpec.ofChange condTokensSpec)) condTokensCard

/-- THE TIED CARD OF 'warderlaw05.CondBrackets'. -/
def condBracketsCard : Claim7 := { stood := { row := condBracketsRow, standIns := [], harness := (true, "e05b7ce8403aa8c3db4955d591227a22658e5ca443a4907a10e412795c8551a1"), looks := false }, kinds := [], alts := [], laidByText := true, laidKinds := [.data, .pinned, .pinned], laidTests := true, laidLooks := .later }
def CondBracketsCardSaid : Prop := Claim7.holds Tryd.pinned (.plain (OpenSpec.ofChange condBracketsSpec)) condBracketsCard

/-- THE TIED CARD OF 'warderlaw05.CondForms'. -/
def condFormsCard : Claim7 := { stood := { row := condFormsRow, standIns := [], harness := (true, "e05b7ce8403aa8c3db4955d591227a22658e5ca443a4907a10e412795c8551a1"), looks := false }, kinds := [], alts := [], laidByText := true, laidKinds := [.data, .pinned, .pinned], laidTests := true, laidLooks := .later }
def CondFormsCardSaid : Prop := Claim7.holds Tryd.pinned (.plain (OpenSpec.ofChange condFormsSpec)) condFormsCard

/-- THE SECOND FORM's CARD OF 'warderlaw05.CondTokens'. -/
def condTokensUptoCard : Claim7 := { stood := { row := condTokensUptoRow, standIns := [], harness := (true, "e05b7ce8403aa8c3db4955d591227a22658e5ca443a4907a10e412795c8551a1"), looks := false }, kinds := [], alts := [], laidByText := true, laidKinds := [.data, .pinned, .pinned], laidTests := true, laidLooks := .later }
def CondTokensUptoCardSaid : Prop := Claim7.holds Tryd.pinned (.plain (OpenSpec.upto condTokensSpec)) condTokensUptoCard

/-- THE SECOND FORM's CARD OF 'warderlaw05.CondBrackets'. -/
def condBracketsUptoCard : Claim7 := { stood := { row := condBracketsUptoRow, standIns := [], harness := (true, "e05b7ce8403aa8c3db4955d591227a22658e5ca443a4907a10e412795c8551a1"), looks := false }, kinds := [], alts := [], laidByText := true, laidKinds := [.data, .pinned, .pinned], laidTests := true, laidLooks := .later }
def CondBracketsUptoCardSaid : Prop := Claim7.holds Tryd.pinned (.plain (OpenSpec.upto condBracketsSpec)) condBracketsUptoCard

/-- THE SECOND FORM's CARD OF 'warderlaw05.CondForms'. -/
def condFormsUptoCard : Claim7 := { stood := { row := condFormsUptoRow, standIns := [], harness := (true, "e05b7ce8403aa8c3db4955d591227a22658e5ca443a4907a10e412795c8551a1"), looks := false }, kinds := [], alts := [], laidByText := true, laidKinds := [.data, .pinned, .pinned], laidTests := true, laidLooks := .later }
def CondFormsUptoCardSaid : Prop := Claim7.holds Tryd.pinned (.plain (OpenSpec.upto condFormsSpec)) condFormsUptoCard
end Rows
end Go.Proofs.YtignjhbajjephaaDoor
