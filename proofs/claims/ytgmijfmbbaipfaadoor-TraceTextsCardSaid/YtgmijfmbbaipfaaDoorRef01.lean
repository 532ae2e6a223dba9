/- Contracts of warderref01: tail, low, First. -/
import Derived.Test.YtgmijfmbbaipfaaDoorKit
import Derived.Test.YtgmijfmbbaipfaaDoorFirstPlain
namespace Go.Proofs.YtgmijfmbbaipfaaDoor
open Go.RowKit

theorem tail_lt {s : ByteArray} {i a b : Nat} (h : tailB s i a b = true) : i < s.size := by
  unfold tailB at h; simp at h; exact h.1
theorem ret_two {a b c d : Int} (h1 : a = c) (h2 : b = d) : Ending.returned (.tuple #[.int .i64 a, .int .i64 b]) = .returned (.tuple #[.int .i64 c, .int .i64 d]) := by rw [h1, h2]

end Go.Proofs.YtgmijfmbbaipfaaDoor
