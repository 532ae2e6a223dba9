/-
  No cell of these rows narrows 'for every input' (looked for: loops, veiled, ifaces, maps, wideKeys, modest, calm, conditions, laid).
  DERIVED. THE GIVEN ROWS OF THIS SEAT. 10 by the template 'for every input the law returns true; each argument reads behind the call as it read before'; 0 by the template 'total and deterministic' (their statements: YtbhmimegcnfjcaaTotals.lean).
  GIVEN WITH THE SEED: the statements are not yours to turn. If you find one false, say at which input.
  Laid BY PROGRAM, IN A SANDBOX (cutbox-rows.mjs): the forced cells as the released guide's own fill.sh prints them over the translation a5b456c105e00400… (all of the seat's roots in one cut). By AI agents, Wed Nov 11 2026. No macro, syntax, notation, axiom, sorry.
-/
import Derived.Test.YtbhmimegcnfjcaaChecked
import GoSem.Claim
import GoSem.ClaimJoined
import GoSem.ClaimMapViews
import Derived.JoinedTies
import Derived.KernelRfl
namespace Go.Proofs.Ytbhmimegcnfjcaa
/- THE CELL 'sum', in the pinned program and in every row, IS THE sha256 OF THE DUMP (.gsa) THAT YtbhmimegcnfjcaaProg.lean LOADS. Nothing in Lean hashes anything: it is a label: what it is worth is what the hold of that sum in a sandbox is worth. -/
noncomputable def Try.pinned : Pinned := { name := "ytbhmimegcnfjcaa", sum := "a5b456c105e0040046cb8988e72f5729a885e89a654d5240e8ec386a124b0a87", checked := Try.checked }
namespace Rows
def none {H : Type} : Left H := { results := [], args := [] }

/-- 'warderlaw14.BitsLists': WHATEVER THE INPUT: true; the input reads as it did. -/
def bitsListsSpec : ChangeSpec := { name := "bitsLists", fn := fun _ => fun
  | [d1, d2, d3] => { results := [.lit (.bool true)], args := [d1, d2, d3] }
  | _ => none }
def bitsListsRow : OpenClaim := { program := "ytbhmimegcnfjcaa", sum := "a5b456c105e0040046cb8988e72f5729a885e89a654d5240e8ec386a124b0a87", func := "warder/warderlaw14.BitsLists", spec := "bitsLists", plainKeys := false, apart := false }
def BitsListsSaid : Prop := bitsListsRow.holds Try.pinned (OpenSpec.ofChange bitsListsSpec)

/-- ITS FALSE NEIGHBOUR: 'it returns false'. Refute it at one input. -/
def bitsListsWrong : ChangeSpec := { name := "bitsLists", fn := fun _ => fun
  | [d1, d2, d3] => { results := [.lit (.bool false)], args := [d1, d2, d3] }
  | _ => none }
def BitsListsWrongFalsely : Prop := bitsListsRow.holds Try.pinned (OpenSpec.ofChange bitsListsWrong)

/-- 'warderlaw14.BitsSets': WHATEVER THE INPUT: true; the input reads as it did. -/
def bitsSetsSpec : ChangeSpec := { name := "bitsSets", fn := fun _ => fun
  | [d1, d2] => { results := [.lit (.bool true)], args := [d1, d2] }
  | _ => none }
def bitsSetsRow : OpenClaim := { program := "ytbhmimegcnfjcaa", sum := "a5b456c105e0040046cb8988e72f5729a885e89a654d5240e8ec386a124b0a87", func := "warder/warderlaw14.BitsSets", spec := "bitsSets", plainKeys := false, apart := false }
def BitsSetsSaid : Prop := bitsSetsRow.holds Try.pinned (OpenSpec.ofChange bitsSetsSpec)

/-- ITS FALSE NEIGHBOUR: 'it returns false'. Refute it at one input. -/
def bitsSetsWrong : ChangeSpec := { name := "bitsSets", fn := fun _ => fun
  | [d1, d2] => { results := [.lit (.bool false)], args := [d1, d2] }
  | _ => none }
def BitsSetsWrongFalsely : Prop := bitsSetsRow.holds Try.pinned (OpenSpec.ofChange bitsSetsWrong)

/-- 'warderlaw14.BitsBack': WHATEVER THE INPUT: true; the input reads as it did. -/
def bitsBackSpec : ChangeSpec := { name := "bitsBack", fn := fun _ => fun
  | [d1, d2, d3] => { results := [.lit (.bool true)], args := [d1, d2, d3] }
  | _ => none }
def bitsBackRow : OpenClaim := { program := "ytbhmimegcnfjcaa", sum := "a5b456c105e0040046cb8988e72f5729a885e89a654d5240e8ec386a124b0a87", func := "warder/warderlaw14.BitsBack", spec := "bitsBack", plainKeys := false, apart := false }
def BitsBackSaid : Prop := bitsBackRow.holds Try.pinned (OpenSpec.ofChange bitsBackSpec)

/-- ITS FALSE NEIGHBOUR: 'it returns false'. Refute it at one input. -/
def bitsBackWrong : ChangeSpec := { name := "bitsBack", fn := fun _ => fun
  | [d1, d2, d3] => { results := [.lit (.bool false)], args := [d1, d2, d3] }
  | _ => none }
def BitsBackWrongFalsely : Prop := bitsBackRow.holds Try.pinned (OpenSpec.ofChange bitsBackWrong)

/-- 'warderlaw48.ShrinkLists': WHATEVER THE INPUT: true; the input reads as it did. -/
def shrinkListsSpec : ChangeSpec := { name := "shrinkLists", fn := fun _ => fun
  | [d1, d2, d3] => { results := [.lit (.bool true)], args := [d1, d2, d3] }
  | _ => none }
def shrinkListsRow : OpenClaim := { program := "ytbhmimegcnfjcaa", sum := "a5b456c105e0040046cb8988e72f5729a885e89a654d5240e8ec386a124b0a87", func := "warder/warderlaw48.ShrinkLists", spec := "shrinkLists", unfollowed := true, recurses := true, plainKeys := false, apart := false }
def ShrinkListsSaid : Prop := shrinkListsRow.holds Try.pinned (OpenSpec.ofChange shrinkListsSpec)

/-- ITS FALSE NEIGHBOUR: 'it returns false'. Refute it at one input. -/
def shrinkListsWrong : ChangeSpec := { name := "shrinkLists", fn := fun _ => fun
  | [d1, d2, d3] => { results := [.lit (.bool false)], args := [d1, d2, d3] }
  | _ => none }
def ShrinkListsWrongFalsely : Prop := shrinkListsRow.holds Try.pinned (OpenSpec.ofChange shrinkListsWrong)

/-- 'warderlaw41.BoundTimes': WHATEVER THE INPUT: true; the input reads as it did. -/
def boundTimesSpec : ChangeSpec := { name := "boundTimes", fn := fun _ => fun
  | [d1, d2, d3] => { results := [.lit (.bool true)], args := [d1, d2, d3] }
  | _ => none }
def boundTimesRow : OpenClaim := { program := "ytbhmimegcnfjcaa", sum := "a5b456c105e0040046cb8988e72f5729a885e89a654d5240e8ec386a124b0a87", func := "warder/warderlaw41.BoundTimes", spec := "boundTimes", plainKeys := false, apart := false }
def BoundTimesSaid : Prop := boundTimesRow.holds Try.pinned (OpenSpec.ofChange boundTimesSpec)

/-- ITS FALSE NEIGHBOUR: 'it returns false'. Refute it at one input. -/
def boundTimesWrong : ChangeSpec := { name := "boundTimes", fn := fun _ => fun
  | [d1, d2, d3] => { results := [.lit (.bool false)], args := [d1, d2, d3] }
  | _ => none }
def BoundTimesWrongFalsely : Prop := boundTimesRow.holds Try.pinned (OpenSpec.ofChange boundTimesWrong)

/-- 'warderlaw21.HalveSame': WHATEVER THE INPUT: true; the input reads as it did. -/
def halveSameSpec : ChangeSpec := { name := "halveSame", fn := fun _ => fun
  | [d1, d2] => { results := [.lit (.bool true)], args := [d1, d2] }
  | _ => none }
def halveSameRow : OpenClaim := { program := "ytbhmimegcnfjcaa", sum := "a5b456c105e0040046cb8988e72f5729a885e89a654d5240e8ec386a124b0a87", func := "warder/warderlaw21.HalveSame", spec := "halveSame", unfollowed := true, recurses := true, plainKeys := false, apart := false }
def HalveSameSaid : Prop := halveSameRow.holds Try.pinned (OpenSpec.ofChange halveSameSpec)

/-- ITS FALSE NEIGHBOUR: 'it returns false'. Refute it at one input. -/
def halveSameWrong : ChangeSpec := { name := "halveSame", fn := fun _ => fun
  | [d1, d2] => { results := [.lit (.bool false)], args := [d1, d2] }
  | _ => none }
def HalveSameWrongFalsely : Prop := halveSameRow.holds Try.pinned (OpenSpec.ofChange halveSameWrong)

/-- 'warderlaw21.HalveCaps': WHATEVER THE INPUT: true; the input reads as it did. -/
def halveCapsSpec : ChangeSpec := { name := "halveCaps", fn := fun _ => fun
  | [d1, d2, d3] => { results := [.lit (.bool true)], args := [d1, d2, d3] }
  | _ => none }
def halveCapsRow : OpenClaim := { program := "ytbhmimegcnfjcaa", sum := "a5b456c105e0040046cb8988e72f5729a885e89a654d5240e8ec386a124b0a87", func := "warder/warderlaw21.HalveCaps", spec := "halveCaps", unfollowed := true, recurses := true, plainKeys := false, apart := false }
def HalveCapsSaid : Prop := halveCapsRow.holds Try.pinned (OpenSpec.ofChange halveCapsSpec)

/-- ITS FALSE NEIGHBOUR: 'it returns false'. Refute it at one input. -/
def halveCapsWrong : ChangeSpec := { name := "halveCaps", fn := fun _ => fun
  | [d1, d2, d3] => { results := [.lit (.bool false)], args := [d1, d2, d3] }
  | _ => none }
def HalveCapsWrongFalsely : Prop := halveCapsRow.holds Try.pinned (OpenSpec.ofChange halveCapsWrong)

/-- 'warderlaw21.HalveSplits': WHATEVER THE INPUT: true; the input reads as it did. -/
def halveSplitsSpec : ChangeSpec := { name := "halveSplits", fn := fun _ => fun
  | [d1, d2] => { results := [.lit (.bool true)], args := [d1, d2] }
  | _ => none }
def halveSplitsRow : OpenClaim := { program := "ytbhmimegcnfjcaa", sum := "a5b456c105e0040046cb8988e72f5729a885e89a654d5240e8ec386a124b0a87", func := "warder/warderlaw21.HalveSplits", spec := "halveSplits", unfollowed := true, recurses := true, plainKeys := false, apart := false }
def HalveSplitsSaid : Prop := halveSplitsRow.holds Try.pinned (OpenSpec.ofChange halveSplitsSpec)

/-- ITS FALSE NEIGHBOUR: 'it returns false'. Refute it at one input. -/
def halveSplitsWrong : ChangeSpec := { name := "halveSplits", fn := fun _ => fun
  | [d1, d2] => { results := [.lit (.bool false)], args := [d1, d2] }
  | _ => none }
def HalveSplitsWrongFalsely : Prop := halveSplitsRow.holds Try.pinned (OpenSpec.ofChange halveSplitsWrong)

/-- 'warderlaw23.DropOrder': WHATEVER THE INPUT: true; the input reads as it did. -/
def dropOrderSpec : ChangeSpec := { name := "dropOrder", fn := fun _ => fun
  | [d1, d2, d3] => { results := [.lit (.bool true)], args := [d1, d2, d3] }
  | _ => none }
def dropOrderRow : OpenClaim := { program := "ytbhmimegcnfjcaa", sum := "a5b456c105e0040046cb8988e72f5729a885e89a654d5240e8ec386a124b0a87", func := "warder/warderlaw23.DropOrder", spec := "dropOrder", plainKeys := false, apart := false }
def DropOrderSaid : Prop := dropOrderRow.holds Try.pinned (OpenSpec.ofChange dropOrderSpec)

/-- ITS FALSE NEIGHBOUR: 'it returns false'. Refute it at one input. -/
def dropOrderWrong : ChangeSpec := { name := "dropOrder", fn := fun _ => fun
  | [d1, d2, d3] => { results := [.lit (.bool false)], args := [d1, d2, d3] }
  | _ => none }
def DropOrderWrongFalsely : Prop := dropOrderRow.holds Try.pinned (OpenSpec.ofChange dropOrderWrong)

/-- 'warderlaw23.DropLeaves': WHATEVER THE INPUT: true; the input reads as it did. -/
def dropLeavesSpec : ChangeSpec := { name := "dropLeaves", fn := fun _ => fun
  | [d1, d2, d3] => { results := [.lit (.bool true)], args := [d1, d2, d3] }
  | _ => none }
def dropLeavesRow : OpenClaim := { program := "ytbhmimegcnfjcaa", sum := "a5b456c105e0040046cb8988e72f5729a885e89a654d5240e8ec386a124b0a87", func := "warder/warderlaw23.DropLeaves", spec := "dropLeaves", plainKeys := false, apart := false }
def DropLeavesSaid : Prop := dropLeavesRow.holds Try.pinned (OpenSpec.ofChange dropLeavesSpec)

/-- ITS FALSE NEIGHBOUR: 'it returns false'. Refute it at one input. -/
def dropLeavesWrong : ChangeSpec := { name := "dropLeaves", fn := fun _ => fun
  | [d1, d2, d3] => { results := [.lit (.bool false)], args := [d1, d2, d3] }
  | _ => none }
def DropLeavesWrongFalsely : Prop := dropLeavesRow.holds Try.pinned (OpenSpec.ofChange dropLeavesWrong)

/- THE SECOND FORM. 'bulk': how many values and letters a reading holds, each counted each time it is reached (what is shared counts as often as it is met; a slice's spare places count too). A statement '..UptoSaid' is the law's where the arguments, and the package variables that the reading takes, are together of bulk at most 1048576: NARROWER than '..Said'. Prove '..Said' where nothing that the law and all that it calls make is longer than what came in: it says more and counts as full. Else prove '..UptoSaid'. A law counts once. -/
mutual
def uptoBulk {H : Type} : DataW H → Nat
  | .lit (.string bytes) => bytes.length + 1
  | .lit _ => 1
  | .nil => 1
  | .ptr d => uptoBulk d + 1
  | .slice elems spare => uptoBulkAll elems + uptoBulkAll spare + 1
  | .agg parts => uptoBulkAll parts + 1
  | .iface _ d => uptoBulk d + 1
  | .map entries => uptoBulkEntries entries + 1
  | .held _ => 1
def uptoBulkAll {H : Type} : List (DataW H) → Nat
  | [] => 0
  | d :: r => uptoBulk d + uptoBulkAll r
def uptoBulkEntries {H : Type} : List (Lit × DataW H) → Nat
  | [] => 0
  | x :: r => uptoBulkEntry x + uptoBulkEntries r
def uptoBulkEntry {H : Type} : Lit × DataW H → Nat
  | (.string bytes, d) => bytes.length + uptoBulk d + 1
  | (_, d) => uptoBulk d + 1
 end
def uptoSmall : (H : Type) → List (DataW H) → Bool := fun _ ds => decide (uptoBulkAll ds ≤ 1048576)
def OpenSpec.upto (s : _root_.Go.ChangeSpec) : _root_.Go.OpenSpec := { _root_.Go.OpenSpec.ofChange s with cond := some uptoSmall }

/-- 'warderlaw14.BitsLists', WHERE WHAT IT READS IS OF BULK AT MOST 1048576: true; the input reads as it did. -/
def bitsListsUptoRow : OpenClaim := { program := "ytbhmimegcnfjcaa", sum := "a5b456c105e0040046cb8988e72f5729a885e89a654d5240e8ec386a124b0a87", func := "warder/warderlaw14.BitsLists", spec := "bitsLists", plainKeys := false, apart := false, narrowed := true }
def BitsListsUptoSaid : Prop := bitsListsUptoRow.holds Try.pinned (OpenSpec.upto bitsListsSpec)

/-- 'warderlaw14.BitsSets', WHERE WHAT IT READS IS OF BULK AT MOST 1048576: true; the input reads as it did. -/
def bitsSetsUptoRow : OpenClaim := { program := "ytbhmimegcnfjcaa", sum := "a5b456c105e0040046cb8988e72f5729a885e89a654d5240e8ec386a124b0a87", func := "warder/warderlaw14.BitsSets", spec := "bitsSets", plainKeys := false, apart := false, narrowed := true }
def BitsSetsUptoSaid : Prop := bitsSetsUptoRow.holds Try.pinned (OpenSpec.upto bitsSetsSpec)

/-- 'warderlaw14.BitsBack', WHERE WHAT IT READS IS OF BULK AT MOST 1048576: true; the input reads as it did. -/
def bitsBackUptoRow : OpenClaim := { program := "ytbhmimegcnfjcaa", sum := "a5b456c105e0040046cb8988e72f5729a885e89a654d5240e8ec386a124b0a87", func := "warder/warderlaw14.BitsBack", spec := "bitsBack", plainKeys := false, apart := false, narrowed := true }
def BitsBackUptoSaid : Prop := bitsBackUptoRow.holds Try.pinned (OpenSpec.upto bitsBackSpec)

/-- 'warderlaw48.ShrinkLists', WHERE WHAT IT READS IS OF BULK AT MOST 1048576: true; the input reads as it did. -/
def shrinkListsUptoRow : OpenClaim := { program := "ytbhmimegcnfjcaa", sum := "a5b456c105e0040046cb8988e72f5729a885e89a654d5240e8ec386a124b0a87", func := "warder/warderlaw48.ShrinkLists", spec := "shrinkLists", unfollowed := true, recurses := true, plainKeys := false, apart := false, narrowed := true }
def ShrinkListsUptoSaid : Prop := shrinkListsUptoRow.holds Try.pinned (OpenSpec.upto shrinkListsSpec)

/-- 'warderlaw41.BoundTimes', WHERE WHAT IT READS IS OF BULK AT MOST 1048576: true; the input reads as it did. -/
def boundTimesUptoRow : OpenClaim := { program := "ytbhmimegcnfjcaa", sum := "a5b456c105e0040046cb8988e72f5729a885e89a654d5240e8ec386a124b0a87", func := "warder/warderlaw41.BoundTimes", spec := "boundTimes", plainKeys := false, apart := false, narrowed := true }
def BoundTimesUptoSaid : Prop := boundTimesUptoRow.holds Try.pinned (OpenSpec.upto boundTimesSpec)

/-- 'warderlaw21.HalveSame', WHERE WHAT IT READS IS OF BULK AT MOST 1048576: true; the input reads as it did. -/
def halveSameUptoRow : OpenClaim := { program := "ytbhmimegcnfjcaa", sum := "a5b456c105e0040046cb8988e72f5729a885e89a654d5240e8ec386a124b0a87", func := "warder/warderlaw21.HalveSame", spec := "halveSame", unfollowed := true, recurses := true, plainKeys := false, apart := false, narrowed := true }
def HalveSameUptoSaid : Prop := halveSameUptoRow.holds Try.pinned (OpenSpec.upto halveSameSpec)

/-- 'warderlaw21.HalveCaps', WHERE WHAT IT READS IS OF BULK AT MOST 1048576: true; the input reads as it did. -/
def halveCapsUptoRow : OpenClaim := { program := "ytbhmimegcnfjcaa", sum := "a5b456c105e0040046cb8988e72f5729a885e89a654d5240e8ec386a124b0a87", func := "warder/warderlaw21.HalveCaps", spec := "halveCaps", unfollowed := true, recurses := true, plainKeys := false, apart := false, narrowed := true }
def HalveCapsUptoSaid : Prop := halveCapsUptoRow.holds Try.pinned (OpenSpec.upto halveCapsSpec)

/-- 'warderlaw21.HalveSplits', WHERE WHAT IT READS IS OF BULK AT MOST 1048576: true; the input reads as it did. -/
def halveSplitsUptoRow : OpenClaim := { program := "ytbhmimegcnfjcaa", sum := "a5b456c105e0040046cb8988e72f5729a885e89a654d5240e8ec386a124b0a87", func := "warder/warderlaw21.HalveSplits", spec := "halveSplits", unfollowed := true, recurses := true, plainKeys := false, apart := false, narrowed := true }
def HalveSplitsUptoSaid : Prop := halveSplitsUptoRow.holds Try.pinned (OpenSpec.upto halveSplitsSpec)

/-- 'warderlaw23.DropOrder', WHERE WHAT IT READS IS OF BULK AT MOST 1048576: true; the input reads as it did. -/
def dropOrderUptoRow : OpenClaim := { program := "ytbhmimegcnfjcaa", sum := "a5b456c105e0040046cb8988e72f5729a885e89a654d5240e8ec386a124b0a87", func := "warder/warderlaw23.DropOrder", spec := "dropOrder", plainKeys := false, apart := false, narrowed := true }
def DropOrderUptoSaid : Prop := dropOrderUptoRow.holds Try.pinned (OpenSpec.upto dropOrderSpec)

/-- 'warderlaw23.DropLeaves', WHERE WHAT IT READS IS OF BULK AT MOST 1048576: true; the input reads as it did. -/
def dropLeavesUptoRow : OpenClaim := { program := "ytbhmimegcnfjcaa", sum := "a5b456c105e0040046cb8988e72f5729a885e89a654d5240e8ec386a124b0a87", func := "warder/warderlaw23.DropLeaves", spec := "dropLeaves", plainKeys := false, apart := false, narrowed := true }
def DropLeavesUptoSaid : Prop := dropLeavesUptoRow.holds Try.pinned (OpenSpec.upto dropLeavesSpec)

end Rows
end Go.Proofs.Ytbhmimegcnfjcaa
