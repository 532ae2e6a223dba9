/- Contract of strings.TrimPrefix at a -, for token's value. -/
import Derived.Test.YtgmijfmbbaipfaaDoorRef02d
import Derived.Lib.Strings
namespace Go.Proofs.YtgmijfmbbaipfaaDoor
open Go.RowKit

theorem bytes_cons (s : ByteArray) (h0 : 0 < s.size) : s.data.toList = s[0]'h0 :: s.data.toList.drop 1 := by
  have h : 0 < s.data.toList.length := by simpa using h0
  rw [List.drop_one]
  exact (List.cons_head_tail (List.ne_nil_of_length_pos h)).symm.trans (by rw [List.head_eq_getElem]; rfl)

theorem dash_is (s : ByteArray) (h0 : 0 < s.size) : ((s.extract 0 1).toList == [45]) = decide ((s[0]'h0).toNat = 45) := by
  rw [show ([45] : List UInt8) = (⟨#[45]⟩ : ByteArray).toList by rw [ByteArray.toList_eq], beq_bytes, Bool.eq_iff_iff, decide_eq_true_iff, decide_eq_true_iff]
  have h1 : (s.extract 0 1).data.toList = [s[0]'h0] := by rw [Lib.extract_data, List.drop_zero, bytes_cons s h0]; rfl
  constructor
  · intro h
    have : [s[0]'h0] = [45] := by rw [← h1, h]
    rw [List.cons.inj this |>.1]; rfl
  · intro h
    refine ByteArray.ext (Array.ext' ?_)
    rw [h1]
    have : s[0]'h0 = 45 := UInt8.toNat_inj.1 h
    rw [this]

/-- the text without its - -/
def noDash (s : ByteArray) (below : Bool) : ByteArray := if below then s.extract 1 s.size else s

end Go.Proofs.YtgmijfmbbaipfaaDoor
