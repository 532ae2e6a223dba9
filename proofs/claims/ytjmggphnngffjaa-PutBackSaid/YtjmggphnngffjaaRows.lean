/-
  No cell of these rows narrows 'for every input' (looked for: loops, veiled, ifaces, maps, wideKeys, modest, calm, conditions, laid).
  DERIVED. THE GIVEN ROWS OF THIS SEAT. 4 by the template 'for every input the law returns true; each argument reads behind the call as it read before'; 0 by the template 'total and deterministic' (their statements: YtjmggphnngffjaaTotals.lean).
  GIVEN WITH THE SEED: the statements are not yours to turn. If you find one false, say at which input.
  Laid BY PROGRAM, IN A SANDBOX (cutbox-rows.mjs): the forced cells as the released guide's own fill.sh prints them over the translation 943c1b77953ea735… (all of the seat's roots in one cut). By AI agents, Wed Nov 11 2026. No macro, syntax, notation, axiom, sorry.
-/
import Derived.Test.YtjmggphnngffjaaChecked
import GoSem.Claim
import GoSem.ClaimJoined
import GoSem.ClaimMapViews
import Derived.JoinedTies
import Derived.KernelRfl
namespace Go.Proofs.Ytjmggphnngffjaa
/- THE CELL 'sum', in the pinned program and in every row, IS THE sha256 OF THE DUMP (.gsa) THAT YtjmggphnngffjaaProg.lean LOADS. Nothing in Lean hashes anything: it is a label: what it is worth is what the hold of that sum in a sandbox is worth. -/
noncomputable def Try.pinned : Pinned := { name := "ytjmggphnngffjaa", sum := "943c1b77953ea7358610d9055d0b1300068e8376a8f22ad1333f90b1fadf5b41", checked := Try.checked }
namespace Rows
def none {H : Type} : Left H := { results := [], args := [] }

/-- 'warderlaw48.ShrinkLists': WHATEVER THE INPUT: true; the input reads as it did. -/
def shrinkListsSpec : ChangeSpec := { name := "shrinkLists", fn := fun _ => fun
  | [d1, d2, d3] => { results := [.lit (.bool true)], args := [d1, d2, d3] }
  | _ => none }
def shrinkListsRow : OpenClaim := { program := "ytjmggphnngffjaa", sum := "943c1b77953ea7358610d9055d0b1300068e8376a8f22ad1333f90b1fadf5b41", func := "warder/warderlaw48.ShrinkLists", spec := "shrinkLists", unfollowed := true, recurses := true, plainKeys := false, apart := false }
def ShrinkListsSaid : Prop := shrinkListsRow.holds Try.pinned (OpenSpec.ofChange shrinkListsSpec)

/-- ITS FALSE NEIGHBOUR: 'it returns false'. Refute it at one input. -/
def shrinkListsWrong : ChangeSpec := { name := "shrinkLists", fn := fun _ => fun
  | [d1, d2, d3] => { results := [.lit (.bool false)], args := [d1, d2, d3] }
  | _ => none }
def ShrinkListsWrongFalsely : Prop := shrinkListsRow.holds Try.pinned (OpenSpec.ofChange shrinkListsWrong)

/-- 'warderlaw24.PutTrue': WHATEVER THE INPUT: true; the input reads as it did. -/
def putTrueSpec : ChangeSpec := { name := "putTrue", fn := fun _ => fun
  | [d1, d2, d3] => { results := [.lit (.bool true)], args := [d1, d2, d3] }
  | _ => none }
def putTrueRow : OpenClaim := { program := "ytjmggphnngffjaa", sum := "943c1b77953ea7358610d9055d0b1300068e8376a8f22ad1333f90b1fadf5b41", func := "warder/warderlaw24.PutTrue", spec := "putTrue", inPlace := ["slices.overlaps[warder/api.Class]", "slices.overlaps[int]"], unfollowed := true, recurses := true, plainKeys := false, apart := false }
def PutTrueSaid : Prop := putTrueRow.holds Try.pinned (OpenSpec.ofChange putTrueSpec)

/-- ITS FALSE NEIGHBOUR: 'it returns false'. Refute it at one input. -/
def putTrueWrong : ChangeSpec := { name := "putTrue", fn := fun _ => fun
  | [d1, d2, d3] => { results := [.lit (.bool false)], args := [d1, d2, d3] }
  | _ => none }
def PutTrueWrongFalsely : Prop := putTrueRow.holds Try.pinned (OpenSpec.ofChange putTrueWrong)

/-- 'warderlaw24.PutBack': WHATEVER THE INPUT: true; the input reads as it did. -/
def putBackSpec : ChangeSpec := { name := "putBack", fn := fun _ => fun
  | [d1, d2, d3] => { results := [.lit (.bool true)], args := [d1, d2, d3] }
  | _ => none }
def putBackRow : OpenClaim := { program := "ytjmggphnngffjaa", sum := "943c1b77953ea7358610d9055d0b1300068e8376a8f22ad1333f90b1fadf5b41", func := "warder/warderlaw24.PutBack", spec := "putBack", inPlace := ["slices.overlaps[warder/api.Class]", "slices.overlaps[int]"], unfollowed := true, recurses := true, plainKeys := false, apart := false }
def PutBackSaid : Prop := putBackRow.holds Try.pinned (OpenSpec.ofChange putBackSpec)

/-- ITS FALSE NEIGHBOUR: 'it returns false'. Refute it at one input. -/
def putBackWrong : ChangeSpec := { name := "putBack", fn := fun _ => fun
  | [d1, d2, d3] => { results := [.lit (.bool false)], args := [d1, d2, d3] }
  | _ => none }
def PutBackWrongFalsely : Prop := putBackRow.holds Try.pinned (OpenSpec.ofChange putBackWrong)

/-- 'warderlaw24.PutPuts': WHATEVER THE INPUT: true; the input reads as it did. -/
def putPutsSpec : ChangeSpec := { name := "putPuts", fn := fun _ => fun
  | [d1, d2, d3] => { results := [.lit (.bool true)], args := [d1, d2, d3] }
  | _ => none }
def putPutsRow : OpenClaim := { program := "ytjmggphnngffjaa", sum := "943c1b77953ea7358610d9055d0b1300068e8376a8f22ad1333f90b1fadf5b41", func := "warder/warderlaw24.PutPuts", spec := "putPuts", inPlace := ["slices.overlaps[warder/api.Class]", "slices.overlaps[int]"], unfollowed := true, recurses := true, plainKeys := false, apart := false }
def PutPutsSaid : Prop := putPutsRow.holds Try.pinned (OpenSpec.ofChange putPutsSpec)

/-- ITS FALSE NEIGHBOUR: 'it returns false'. Refute it at one input. -/
def putPutsWrong : ChangeSpec := { name := "putPuts", fn := fun _ => fun
  | [d1, d2, d3] => { results := [.lit (.bool false)], args := [d1, d2, d3] }
  | _ => none }
def PutPutsWrongFalsely : Prop := putPutsRow.holds Try.pinned (OpenSpec.ofChange putPutsWrong)

/- THE SECOND FORM. 'bulk': how many values and letters a reading holds, each counted each time it is reached (what is shared counts as often as it is met; a slice's spare places count too). A statement '..UptoSaid' is the law's where the arguments, and the package variables that the reading takes, are together of bulk at most 1048576: NARROWER than '..Said'. Prove '..Said' where nothing that the law and all that it calls make is longer than what came in: it says more and counts as full. Else prove '..UptoSaid'. A law counts once. -/
mutual
def uptoBulk {H : Type} : DataW H → Nat
  | .lit (.string bytes) => bytes.length + 1
  | .lit _ => 1
  | .nil => 1
  | .ptr d => uptoBulk d + 1
  | .slice elems spare => uptoBulkAll elems + uptoBulkAll spare + 1
  | .agg parts => uptoBulkAll parts + 1
  | .iface _ d => uptoBulk d + 1
  | .map entries => uptoBulkEntries entries + 1
  | .held _ => 1
def uptoBulkAll {H : Type} : List (DataW H) → Nat
  | [] => 0
  | d :: r => uptoBulk d + uptoBulkAll r
def uptoBulkEntries {H : Type} : List (Lit × DataW H) → Nat
  | [] => 0
  | x :: r => uptoBulkEntry x + uptoBulkEntries r
def uptoBulkEntry {H : Type} : Lit × DataW H → Nat
  | (.string bytes, d) => bytes.length + uptoBulk d + 1
  | (_, d) => uptoBulk d + 1
 end
def uptoSmall : (H : Type) → List (DataW H) → Bool := fun _ ds => decide (uptoBulkAll ds ≤ 1048576)
def OpenSpec.upto (s : _root_.Go.ChangeSpec) : _root_.Go.OpenSpec := { _root_.Go.OpenSpec.ofChange s with cond := some uptoSmall }

/-- 'warderlaw48.ShrinkLists', WHERE WHAT IT READS IS OF BULK AT MOST 1048576: true; the input reads as it did. -/
def shrinkListsUptoRow : OpenClaim := { program := "ytjmggphnngffjaa", sum := "943c1b77953ea7358610d9055d0b1300068e8376a8f22ad1333f90b1fadf5b41", func := "warder/warderlaw48.ShrinkLists", spec := "shrinkLists", unfollowed := true, recurses := true, plainKeys := false, apart := false, narrowed := true }
def ShrinkListsUptoSaid : Prop := shrinkListsUptoRow.holds Try.pinned (OpenSpec.upto shrinkListsSpec)

/-- 'warderlaw24.PutTrue', WHERE WHAT IT READS IS OF BULK AT MOST 1048576: true; the input reads as it did. -/
def putTrueUptoRow : OpenClaim := { program := "ytjmggphnngffjaa", sum := "943c1b77953ea7358610d9055d0b1300068e8376a8f22ad1333f90b1fadf5b41", func := "warder/warderlaw24.PutTrue", spec := "putTrue", inPlace := ["slices.overlaps[warder/api.Class]", "slices.overlaps[int]"], unfollowed := true, recurses := true, plainKeys := false, apart := false, narrowed := true }
def PutTrueUptoSaid : Prop := putTrueUptoRow.holds Try.pinned (OpenSpec.upto putTrueSpec)

/-- 'warderlaw24.PutBack', WHERE WHAT IT READS IS OF BULK AT MOST 1048576: true; the input reads as it did. -/
def putBackUptoRow : OpenClaim := { program := "ytjmggphnngffjaa", sum := "943c1b77953ea7358610d9055d0b1300068e8376a8f22ad1333f90b1fadf5b41", func := "warder/warderlaw24.PutBack", spec := "putBack", inPlace := ["slices.overlaps[warder/api.Class]", "slices.overlaps[int]"], unfollowed := true, recurses := true, plainKeys := false, apart := false, narrowed := true }
def PutBackUptoSaid : Prop := putBackUptoRow.holds Try.pinned (OpenSpec.upto putBackSpec)

/-- 'warderlaw24.PutPuts', WHERE WHAT IT READS IS OF BULK AT MOST 1048576: true; the input reads as it did. -/
def putPutsUptoRow : OpenClaim := { program := "ytjmggphnngffjaa", sum := "943c1b77953ea7358610d9055d0b1300068e8376a8f22ad1333f90b1fadf5b41", func := "warder/warderlaw24.PutPuts", spec := "putPuts", inPlace := ["slices.overlaps[warder/api.Class]", "slices.overlaps[int]"], unfollowed := true, recurses := true, plainKeys := false, apart := false, narrowed := true }
def PutPutsUptoSaid : Prop := putPutsUptoRow.holds Try.pinned (OpenSpec.upto putPutsSpec)

end Rows
end Go.Proofs.Ytjmggphnngffjaa
