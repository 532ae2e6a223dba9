/- Contracts of warderref02's small functions. -/
import Derived.Test.YtgmijfmbbaipfaaDoorRef01b
import Derived.Test.YtgmijfmbbaipfaaDoorTokPlain
namespace Go.Proofs.YtgmijfmbbaipfaaDoor
open Go.RowKit

theorem innerB_cases (c : Int) : (innerB c = true ∧ smallB c = true) ∨ (innerB c = true ∧ smallB c = false ∧ greatB c = true) ∨ (innerB c = true ∧ smallB c = false ∧ greatB c = false ∧ digitB c = true) ∨
    (smallB c = false ∧ greatB c = false ∧ digitB c = false ∧ innerB c = (c == 95)) := by
  unfold innerB letterB
  cases smallB c <;> cases greatB c <;> cases digitB c <;> simp <;> rfl

end Go.Proofs.YtgmijfmbbaipfaaDoor
