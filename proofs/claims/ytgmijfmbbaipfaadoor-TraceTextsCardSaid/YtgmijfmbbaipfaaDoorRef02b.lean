/- Contracts of warderref02's sign and hasGreat. -/
import Derived.Test.YtgmijfmbbaipfaaDoorRef02
namespace Go.Proofs.YtgmijfmbbaipfaaDoor
open Go.RowKit

/-- how many runes the sign has that begins with c, d behind it -/
def signN (c d : Int) : Nat :=
  if (c = 60 ∨ c = 62 ∨ c = 33) ∧ d = 61 then 2
  else if c = 60 ∨ c = 62 ∨ c = 61 ∨ c = 40 ∨ c = 41 ∨ c = 91 ∨ c = 93 ∨ c = 44 ∨ c = 59 then 1 else 0

/-- is a great letter in a text? -/
def hasGreatB (s : ByteArray) : Bool := s.data.toList.any fun b => greatB (b.toNat : Int)

end Go.Proofs.YtgmijfmbbaipfaaDoor
