/- Contract of token's value. -/
import Derived.Test.YtgmijfmbbaipfaaDoorTokVal
namespace Go.Proofs.YtgmijfmbbaipfaaDoor
open Go.RowKit

/-- bytes that are digits -/
def DigT (s : ByteArray) : Prop := ∀ (k : Nat) (h : k < s.size), 48 ≤ (s[k]'h).toNat ∧ (s[k]'h).toNat ≤ 57

theorem tdiv_dash (c : Nat) (h1 : 48 ≤ c) (h2 : c ≤ 57) : (-9223372036854775808 + ((c : Int) - 48)).tdiv 10 = -((9223372036854775808 - ((c : Int) - 48)) / 10) := by
  rw [show (-9223372036854775808 + ((c : Int) - 48)) = -(9223372036854775808 - ((c : Int) - 48)) by omega, Int.neg_tdiv, Int.tdiv_eq_ediv_of_nonneg (by omega)]

theorem numV_dash (s : ByteArray) (h0 : 0 < s.size) (h : (s[0]'h0).toNat = 45) : numV (s.extract 1 s.size).data.toList = numV s.data.toList := by
  rw [Lib.extract_data, List.take_of_length_le (by simp)]
  conv => rhs; rw [bytes_cons s h0]
  show _ = (s.data.toList.drop 1).foldl stepV (stepV 0 (s[0]'h0))
  unfold stepV
  rw [if_pos h]
  rfl

end Go.Proofs.YtgmijfmbbaipfaaDoor
