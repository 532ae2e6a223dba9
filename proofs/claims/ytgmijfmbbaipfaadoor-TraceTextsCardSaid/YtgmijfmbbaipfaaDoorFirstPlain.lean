/- Plain law: the reference's reading of UTF-8, byte by byte, is the model's; no program in sight. -/
import Derived.Test.YtgmijfmbbaipfaaDoorRunesPlain
namespace Go.Proofs.YtgmijfmbbaipfaaDoor
open Go.RowKit

/- the reference's reading, byte by byte -/
def byteAt (s : ByteArray) (i : Nat) : Nat := (s.get! i).toNat
theorem byteAt_lt (s : ByteArray) (i : Nat) : byteAt s i < 256 := (s.get! i).toNat_lt
theorem byteAt_get (s : ByteArray) (i : Nat) (h : i < s.size) : byteAt s i = (s[i]'h).toNat := by
  unfold byteAt
  have := get_at s i h
  rw [Nat.add_zero] at this
  rw [this]

def tailB (s : ByteArray) (i least most : Nat) : Bool := decide (i < s.size) && (decide (least ≤ byteAt s i) && decide (byteAt s i ≤ most))

def firstRef (s : ByteArray) (i : Nat) : Int × Nat :=
  let c := byteAt s i
  if c < 128 then (c, 1) else
  if 194 ≤ c ∧ c ≤ 223 ∧ tailB s (i + 1) 128 191 then (((c % 32 * 64 + byteAt s (i + 1) % 64 : Nat) : Int), 2) else
  let least := if c = 240 then 144 else if c = 224 then 160 else 128
  let most := if c = 244 then 143 else if c = 237 then 159 else 191
  if tailB s (i + 1) least most = false ∨ tailB s (i + 2) 128 191 = false then (-1, 1) else
  if 224 ≤ c ∧ c ≤ 239 then (((c % 16 * 4096 + byteAt s (i + 1) % 64 * 64 + byteAt s (i + 2) % 64 : Nat) : Int), 3) else
  if 240 ≤ c ∧ c ≤ 244 ∧ tailB s (i + 3) 128 191 then (((c % 8 * 262144 + byteAt s (i + 1) % 64 * 4096 + byteAt s (i + 2) % 64 * 64 + byteAt s (i + 3) % 64 : Nat) : Int), 4) else
  (-1, 1)

def decP (c d e f : Nat) (p1 p2 p3 : Bool) : Nat × Nat :=
  if c < 128 then (c, 1)
  else if c / 32 = 6 ∧ p1 = true ∧ d / 64 = 2 then
    if 128 ≤ c % 32 * 64 + d % 64 then (c % 32 * 64 + d % 64, 2) else (65533, 1)
  else if c / 16 = 14 ∧ p1 = true ∧ d / 64 = 2 ∧ p2 = true ∧ e / 64 = 2 then
    if 2048 ≤ c % 16 * 4096 + d % 64 * 64 + e % 64 ∧ (c % 16 * 4096 + d % 64 * 64 + e % 64 < 55296 ∨ (57344 ≤ c % 16 * 4096 + d % 64 * 64 + e % 64 ∧ c % 16 * 4096 + d % 64 * 64 + e % 64 ≤ 1114111)) then (c % 16 * 4096 + d % 64 * 64 + e % 64, 3) else (65533, 1)
  else if c / 8 = 30 ∧ p1 = true ∧ d / 64 = 2 ∧ p2 = true ∧ e / 64 = 2 ∧ p3 = true ∧ f / 64 = 2 then
    if 65536 ≤ c % 8 * 262144 + d % 64 * 4096 + e % 64 * 64 + f % 64 ∧ (c % 8 * 262144 + d % 64 * 4096 + e % 64 * 64 + f % 64 < 55296 ∨ (57344 ≤ c % 8 * 262144 + d % 64 * 4096 + e % 64 * 64 + f % 64 ∧ c % 8 * 262144 + d % 64 * 4096 + e % 64 * 64 + f % 64 ≤ 1114111)) then (c % 8 * 262144 + d % 64 * 4096 + e % 64 * 64 + f % 64, 4) else (65533, 1)
  else (65533, 1)

theorem dec_is (s : ByteArray) (i : Nat) : Utf8.decode s i = decP (byteAt s i) (byteAt s (i + 1)) (byteAt s (i + 2)) (byteAt s (i + 3)) (decide (i + 1 < s.size)) (decide (i + 2 < s.size)) (decide (i + 3 < s.size)) := by
  unfold Utf8.decode decP Utf8.valid Utf8.runeError
  simp only [show ∀ k, (s.get! k).toNat = byteAt s k from fun _ => rfl, Nat.add_zero, Bool.and_eq_true, beq_iff_eq, decide_eq_true_eq, Bool.or_eq_true, ge_iff_le, and_assoc]
  have z : ∀ n : Nat, (0 : Int) ≤ n := fun n => by omega
  have z1 : ∀ n : Nat, ((n : Int) < 55296) = (n < 55296) := fun n => propext ⟨fun h => by omega, fun h => by omega⟩
  have z2 : ∀ n : Nat, ((57344 : Int) ≤ n) = (57344 ≤ n) := fun n => propext ⟨fun h => by omega, fun h => by omega⟩
  have z3 : ∀ n : Nat, ((n : Int) ≤ 1114111) = (n ≤ 1114111) := fun n => propext ⟨fun h => by omega, fun h => by omega⟩
  simp only [z, true_and, z1, z2, z3]

set_option maxHeartbeats 4000000 in
theorem first_is (s : ByteArray) (i : Nat) : firstRef s i = (decR s i, decN s i) := by
  have b0 := byteAt_lt s i
  have b1 := byteAt_lt s (i + 1)
  have b2 := byteAt_lt s (i + 2)
  have b3 := byteAt_lt s (i + 3)
  unfold firstRef decR decN tailB
  rw [dec_is]
  generalize byteAt s i = c at *
  generalize byteAt s (i + 1) = d at *
  generalize byteAt s (i + 2) = e at *
  generalize byteAt s (i + 3) = f at *
  generalize decide (i + 1 < s.size) = p1
  generalize decide (i + 2 < s.size) = p2
  generalize decide (i + 3 < s.size) = p3
  have dd : d / 64 = 2 ↔ (128 ≤ d ∧ d ≤ 191) := by omega
  have de : e / 64 = 2 ↔ (128 ≤ e ∧ e ≤ 191) := by omega
  have df : f / 64 = 2 ↔ (128 ≤ f ∧ f ≤ 191) := by omega
  unfold decP
  simp only [dd, de, df]
  clear dd de df
  rcases (show c < 128 ∨ (128 ≤ c ∧ c < 192) ∨ (192 ≤ c ∧ c < 194) ∨ (194 ≤ c ∧ c ≤ 223) ∨ c = 224 ∨ (225 ≤ c ∧ c ≤ 236) ∨ c = 237 ∨ (238 ≤ c ∧ c ≤ 239) ∨ c = 240 ∨ (241 ≤ c ∧ c ≤ 243) ∨ c = 244 ∨ (245 ≤ c ∧ c ≤ 247) ∨ 248 ≤ c by omega) with h | h | h | h | h | h | h | h | h | h | h | h | h
  · simp [h]; omega
  all_goals
    have q0 : ¬ c < 128 := by omega
    first | (have q1 : c / 32 = 6 := by omega) | (have q1 : ¬ c / 32 = 6 := by omega)
    first | (have q2 : c / 16 = 14 := by omega) | (have q2 : ¬ c / 16 = 14 := by omega)
    first | (have q3 : c / 8 = 30 := by omega) | (have q3 : ¬ c / 8 = 30 := by omega)
    first | (have q4 : 194 ≤ c := by omega) | (have q4 : ¬ 194 ≤ c := by omega)
    first | (have q5 : c ≤ 223 := by omega) | (have q5 : ¬ c ≤ 223 := by omega)
    first | (have q6 : c = 240 := by omega) | (have q6 : ¬ c = 240 := by omega)
    first | (have q7 : c = 224 := by omega) | (have q7 : ¬ c = 224 := by omega)
    first | (have q8 : c = 244 := by omega) | (have q8 : ¬ c = 244 := by omega)
    first | (have q9 : c = 237 := by omega) | (have q9 : ¬ c = 237 := by omega)
    first | (have qa : 224 ≤ c := by omega) | (have qa : ¬ 224 ≤ c := by omega)
    first | (have qb : c ≤ 239 := by omega) | (have qb : ¬ c ≤ 239 := by omega)
    first | (have qc : 240 ≤ c := by omega) | (have qc : ¬ 240 ≤ c := by omega)
    first | (have qd : c ≤ 244 := by omega) | (have qd : ¬ c ≤ 244 := by omega)
    simp only [q0, q1, q2, q3, q4, q5, q6, q7, q8, q9, qa, qb, qc, qd, if_false, if_true, true_and, and_true, false_and, and_false]
    clear q0 q1 q2 q3 q4 q5 q6 q7 q8 q9 qa qb qc qd
  all_goals
    by_cases hd1 : 128 ≤ d <;> by_cases hd2 : d ≤ 191 <;> by_cases he1 : 128 ≤ e <;> by_cases he2 : e ≤ 191 <;> cases p1 <;> cases p2 <;> simp only [hd1, hd2, he1, he2, if_false, true_and, and_true, false_and, and_false, decide_true, decide_false, Bool.and_true, Bool.and_false, Bool.true_and, Bool.false_and, true_or, or_true, reduceCtorEq, Bool.false_eq_true, or_self, if_pos]
  all_goals (repeat' split)
  all_goals first
    | (exfalso; omega)
    | (refine Prod.ext ?_ ?_ <;> (dsimp only; omega))
    | (simp_all; done)
    | (simp_all; omega)

end Go.Proofs.YtgmijfmbbaipfaaDoor
