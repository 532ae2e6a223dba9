/- Plain: the number of a text of digits, a - anywhere passed by. -/
import Derived.Test.YtgmijfmbbaipfaaDoorRef02b
namespace Go.Proofs.YtgmijfmbbaipfaaDoor
open Go.RowKit

def stepV (n : Nat) (b : UInt8) : Nat := if b.toNat = 45 then n else n * 10 + (b.toNat - 48)

def numV (l : List UInt8) : Nat := l.foldl stepV 0

theorem numV_snoc (l : List UInt8) (b : UInt8) : numV (l ++ [b]) = stepV (numV l) b := by simp [numV]

theorem stepV_ge (n : Nat) (b : UInt8) : n ≤ stepV n b := by unfold stepV; split <;> omega

theorem foldV_ge (l : List UInt8) (n : Nat) : n ≤ l.foldl stepV n := by
  induction l generalizing n with
  | nil => exact Nat.le_refl _
  | cons b t ih => exact Nat.le_trans (stepV_ge n b) (ih _)

theorem numV_take (l : List UInt8) (k : Nat) : numV (l.take k) ≤ numV l := by
  have h : numV l = (l.drop k).foldl stepV (numV (l.take k)) := by
    unfold numV
    rw [← List.foldl_append, List.take_append_drop]
  rw [h]; exact foldV_ge _ _

theorem numV_next (s : ByteArray) (k : Nat) (h : k < s.size) : numV (s.data.toList.take (k + 1)) = stepV (numV (s.data.toList.take k)) (s[k]'h) := by
  have e1 : s.data.toList.take (k + 1) = s.data.toList.take k ++ [s[k]'h] := by rw [List.take_succ_eq_append_getElem (by simpa using h)]; rfl
  rw [e1, numV_snoc]

/-- bytes that are digits, or - -/
def NumT (s : ByteArray) : Prop := ∀ (k : Nat) (h : k < s.size), (s[k]'h).toNat = 45 ∨ (48 ≤ (s[k]'h).toNat ∧ (s[k]'h).toNat ≤ 57)

/-- what value answers: the number, and whether it is within 64 bits -/
def valN (s : ByteArray) (below : Bool) : Int × Bool :=
  if below then (if numV s.data.toList ≤ 9223372036854775808 then (-(numV s.data.toList : Int), true) else (0, false))
  else (if numV s.data.toList ≤ 9223372036854775807 then ((numV s.data.toList : Int), true) else (0, false))

end Go.Proofs.YtgmijfmbbaipfaaDoor
