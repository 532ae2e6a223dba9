/- Contracts of Runes and At of package text. -/
import Derived.Test.YtgmijfmbbaipfaaDoorText
namespace Go.Proofs.YtgmijfmbbaipfaaDoor
open Go.RowKit

theorem allR_len (s : ByteArray) : (allR s).length = (allRaw s).length := by rw [← all_fix, List.length_map]

/-- the place behind the last rune -/
def endAt (s : ByteArray) : Nat → Nat → Int → Int → Int × Int
  | 0, _, line, col => (line, col)
  | k + 1, p, line, col => if p < s.size then endAt s k (p + decN s p) (nextLine (decR s p) line) (nextCol (decR s p) col) else (line, col)
theorem endAt_more (s : ByteArray) (k p : Nat) (line col : Int) (h : s.size ≤ p + k) : endAt s (k + 1) p line col = endAt s k p line col := by
  induction k generalizing p line col with
  | zero => simp only [endAt]; rw [if_neg (by omega)]
  | succ k ih =>
    by_cases hp : p < s.size
    · have := decN_pos s p
      rw [endAt]
      conv => rhs; rw [endAt]
      rw [if_pos hp, if_pos hp, ih _ _ _ (by omega)]
    · rw [endAt]; conv => rhs; rw [endAt]
      rw [if_neg hp, if_neg hp]
theorem endAt_eq (s : ByteArray) (k j p : Nat) (line col : Int) (h : s.size ≤ p + k) (h' : s.size ≤ p + j) : endAt s k p line col = endAt s j p line col := by
  have key : ∀ d m, s.size ≤ p + m → endAt s (m + d) p line col = endAt s m p line col := by
    intro d
    induction d with
    | zero => intro m _; rfl
    | succ d ih => intro m hm; rw [← Nat.add_assoc, endAt_more s (m + d) p line col (by omega), ih m hm]
  rcases Nat.le_total k j with hkj | hkj
  · have := key (j - k) k h; rw [show k + (j - k) = j by omega] at this; exact this.symm
  · have := key (k - j) j h'; rw [show j + (k - j) = k by omega] at this; exact this
def endP (s : ByteArray) (p : Nat) (line col : Int) : Int × Int := endAt s (s.size - p) p line col
theorem endP_next (s : ByteArray) (p : Nat) (line col : Int) (h : p < s.size) : endP s p line col = endP s (p + decN s p) (nextLine (decR s p) line) (nextCol (decR s p) col) := by
  unfold endP
  obtain ⟨k, hk⟩ : ∃ k, s.size - p = k + 1 := ⟨s.size - p - 1, by omega⟩
  rw [hk, endAt, if_pos h]
  have := decN_pos s p
  exact endAt_eq s _ _ _ _ _ (by omega) (by omega)
theorem endP_end (s : ByteArray) (p : Nat) (line col : Int) (h : ¬ p < s.size) : endP s p line col = (line, col) := by
  unfold endP; rw [show s.size - p = 0 by omega]; rfl
def endL (s : ByteArray) : Int := (endP s 0 1 1).1
def endC (s : ByteArray) : Int := (endP s 0 1 1).2

theorem nextRaw (s : ByteArray) (p : Nat) (line col : Int) : nextLine (rawR s p) line = nextLine (decR s p) line ∧ nextCol (rawR s p) col = nextCol (decR s p) col := by
  constructor
  · unfold nextLine; simp only [raw_ten]
  · unfold nextCol; simp only [raw_ten]

theorem next_bd (r line col : Int) (p d : Nat) (hd : 1 ≤ d) (a : 0 ≤ line ∧ line ≤ p + 1 ∧ 0 ≤ col ∧ col ≤ p + 1) : 0 ≤ nextLine r line ∧ nextLine r line ≤ (p + d : Nat) + 1 ∧ 0 ≤ nextCol r col ∧ nextCol r col ≤ (p + d : Nat) + 1 := by
  unfold nextLine nextCol
  refine ⟨?_, ?_, ?_, ?_⟩ <;> split <;> omega

end Go.Proofs.YtgmijfmbbaipfaaDoor
