/- Contracts of warderref02's small functions. -/
import Derived.Test.YthhjepgcbfmfeaaDoorRef01b
import Derived.Test.YthhjepgcbfmfeaaDoorTokPlain
namespace Go.Proofs.YthhjepgcbfmfeaaDoor
open Go.RowKit

theorem innerB_cases (c : Int) : (innerB c = true ∧ smallB c = true) ∨ (innerB c = true ∧ smallB c = false ∧ greatB c = true) ∨ (innerB c = true ∧ smallB c = false ∧ greatB c = false ∧ digitB c = true) ∨
    (smallB c = false ∧ greatB c = false ∧ digitB c = false ∧ innerB c = (c == 95)) := by
  unfold innerB letterB
  cases smallB c <;> cases greatB c <;> cases digitB c <;> simp <;> rfl

end Go.Proofs.YthhjepgcbfmfeaaDoor
