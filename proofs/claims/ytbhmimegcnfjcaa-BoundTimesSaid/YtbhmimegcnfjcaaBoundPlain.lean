/- Plain laws of products and powers, capped at 2 to the 62nd; no program in sight. -/
import Derived.WalkKit
namespace Go.Proofs.Ytbhmimegcnfjcaa
open Go.RowKit

def timesZ (a b : Int) : Int := if a < 1 ∨ b < 1 then 0 else if a * b ≤ 4611686018427387904 then a * b else 4611686018427387904

theorem times_low {a b : Int} (h : a < 1 ∨ b < 1) : timesZ a b = 0 := by unfold timesZ; rw [if_pos h]
theorem times_mid {a b : Int} (ha : 1 ≤ a) (hb : 1 ≤ b) (h : a * b ≤ 4611686018427387904) : timesZ a b = a * b := by
  unfold timesZ; rw [if_neg (by omega), if_pos h]
theorem times_high {a b : Int} (ha : 1 ≤ a) (hb : 1 ≤ b) (h : 4611686018427387904 < a * b) : timesZ a b = 4611686018427387904 := by
  unfold timesZ; rw [if_neg (by omega), if_neg (by omega)]
theorem times_bd (a b : Int) : 0 ≤ timesZ a b ∧ timesZ a b ≤ 4611686018427387904 := by
  by_cases h : a < 1 ∨ b < 1
  · rw [times_low h]; omega
  · have : 0 ≤ a * b := Int.mul_nonneg (by omega) (by omega)
    by_cases h2 : a * b ≤ 4611686018427387904
    · rw [times_mid (by omega) (by omega) h2]; omega
    · rw [times_high (by omega) (by omega) (by omega)]; omega
theorem times_comm (a b : Int) : timesZ b a = timesZ a b := by
  unfold timesZ; rw [Int.mul_comm b a]
  by_cases h : a < 1 ∨ b < 1
  · rw [if_pos h, if_pos (by omega)]
  · rw [if_neg h, if_neg (by omega)]

theorem quo_gt {a b : Int} (hb : 1 ≤ b) : (4611686018427387904 / b < a) ↔ 4611686018427387904 < a * b := Int.ediv_lt_iff_lt_mul (by omega)

def powZ (a : Int) : Nat → Int
  | 0 => 1
  | k + 1 => timesZ (powZ a k) a

theorem pow_bd62 (a : Int) (k : Nat) : 0 ≤ powZ a k ∧ powZ a k ≤ 4611686018427387904 := by
  cases k with
  | zero => unfold powZ; omega
  | succ k => exact times_bd _ _

theorem pow_zero_stays (a : Int) (k j : Nat) (h : powZ a k = 0) : powZ a (k + j) = 0 := by
  induction j with
  | zero => exact h
  | succ j ih => show timesZ (powZ a (k + j)) a = 0; rw [ih]; exact times_low (by omega)

theorem pow_one (k : Nat) : powZ 1 k = 1 := by
  induction k with
  | zero => rfl
  | succ k ih => show timesZ (powZ 1 k) 1 = 1; rw [ih]; rfl

theorem pow_most_stays (a : Int) (k j : Nat) (h : 4611686018427387904 ≤ powZ a k) : powZ a (k + j) = powZ a k := by
  have hk : powZ a k = 4611686018427387904 := by have := (pow_bd62 a k).2; omega
  have ha : 1 ≤ a := by
    by_cases h1 : 1 ≤ a
    · exact h1
    · cases k with
      | zero => unfold powZ at hk; omega
      | succ k =>
        have : powZ a (k + 1) = 0 := times_low (by omega)
        omega
  induction j with
  | zero => rfl
  | succ j ih =>
    show timesZ (powZ a (k + j)) a = _
    rw [ih, hk]
    by_cases h2 : 4611686018427387904 * a ≤ 4611686018427387904
    · rw [times_mid (by omega) ha h2]; omega
    · rw [times_high (by omega) ha (by omega)]

/-- doubling and adding: a round -/
theorem dbl_odd {A o a b : Int} (h : A = o + a * b) (hb : b % 2 = 1) : A = (o + a) + (a * 2) * (b / 2) := by
  have e : b = 2 * (b / 2) + 1 := by omega
  rw [h]
  conv => lhs; rw [e]
  rw [Int.mul_add, Int.mul_one, ← Int.mul_assoc]; omega
theorem dbl_even {A o a b : Int} (h : A = o + a * b) (hb : b % 2 = 0) : A = o + (a * 2) * (b / 2) := by
  have e : b = 2 * (b / 2) := by omega
  rw [h]
  conv => lhs; rw [e]
  rw [← Int.mul_assoc]
theorem mul_ge {a b : Int} (ha : 0 ≤ a) (hb : 1 ≤ b) : a ≤ a * b := by
  have := Int.mul_le_mul_of_nonneg_left hb ha; omega

end Go.Proofs.Ytbhmimegcnfjcaa
