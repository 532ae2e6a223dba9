/- Contract of warderref02's value. -/
import Derived.Test.YtgmijfmbbaipfaaDoorNumPlain
namespace Go.Proofs.YtgmijfmbbaipfaaDoor
open Go.RowKit

theorem ret_val {a c : Int} {b d : Bool} (h1 : a = c) (h2 : b = d) : Ending.returned (.tuple #[.int .i64 a, .bool b]) = .returned (.tuple #[.int .i64 c, .bool d]) := by rw [h1, h2]

end Go.Proofs.YtgmijfmbbaipfaaDoor
