/- Plain laws of a text's runes: where each lies, and that the reference's reading of UTF-8, byte by byte, is the model's; no program in sight. -/
import Derived.WalkKit
import Derived.Laws.RangeAny
namespace Go.Proofs.YtgmijfmbbaipfaaDoor
open Go.RowKit

/-- a rune as a range over a string tells it, or its place taken by a byte that begins none: -1 -/
def decR (s : ByteArray) (i : Nat) : Int := if (Utf8.decode s i).1 = 65533 ∧ (Utf8.decode s i).2 = 1 then -1 else ((Utf8.decode s i).1 : Int)
def decN (s : ByteArray) (i : Nat) : Nat := (Utf8.decode s i).2

theorem dec_cases (s : ByteArray) (i : Nat) : ((Utf8.decode s i).2 = 1 ∧ ((Utf8.decode s i).1 < 128 ∨ (Utf8.decode s i).1 = 65533)) ∨ ((Utf8.decode s i).2 = 2 ∧ i + 1 < s.size ∧ 128 ≤ (Utf8.decode s i).1) ∨ ((Utf8.decode s i).2 = 3 ∧ i + 2 < s.size ∧ 128 ≤ (Utf8.decode s i).1) ∨ ((Utf8.decode s i).2 = 4 ∧ i + 3 < s.size ∧ 128 ≤ (Utf8.decode s i).1) := by
  simp only [Utf8.decode]
  repeat' split
  all_goals simp_all [Utf8.runeError]
  all_goals omega

theorem decN_pos (s : ByteArray) (i : Nat) : 1 ≤ decN s i := by
  unfold decN
  rcases dec_cases s i with h | h | h | h <;> omega

theorem decN_le (s : ByteArray) (i : Nat) (hi : i < s.size) : i + decN s i ≤ s.size := by
  unfold decN
  rcases dec_cases s i with h | h | h | h <;> omega

theorem decR_bd (s : ByteArray) (i : Nat) : -1 ≤ decR s i ∧ decR s i ≤ 2147483647 := by
  unfold decR
  have := decode_le s i
  split <;> omega

/-- a rune, its bytes, its place -/
structure Rn where
  r : Int
  fr : Nat
  to : Nat
  line : Int
  col : Int

def nextLine (r line : Int) : Int := if r = 10 then line + 1 else line
def nextCol (r col : Int) : Int := if r = 10 then 1 else col + 1

/-- the runes from a byte on; g tells what stands at a byte -/
def runesAt (g : Nat → Int) (s : ByteArray) : Nat → Nat → Int → Int → List Rn
  | 0, _, _, _ => []
  | k + 1, p, line, col =>
    if p < s.size then ⟨g p, p, p + decN s p, line, col⟩ :: runesAt g s k (p + decN s p) (nextLine (g p) line) (nextCol (g p) col) else []

theorem runesAt_more (g : Nat → Int) (s : ByteArray) (k p : Nat) (line col : Int) (h : s.size ≤ p + k) : runesAt g s (k + 1) p line col = runesAt g s k p line col := by
  induction k generalizing p line col with
  | zero => simp only [runesAt]; rw [if_neg (by omega)]
  | succ k ih =>
    by_cases hp : p < s.size
    · have := decN_pos s p
      rw [runesAt]
      conv => rhs; rw [runesAt]
      rw [if_pos hp, if_pos hp, ih _ _ _ (by omega)]
    · rw [runesAt]; conv => rhs; rw [runesAt]
      rw [if_neg hp, if_neg hp]

theorem runesAt_eq (g : Nat → Int) (s : ByteArray) (k j p : Nat) (line col : Int) (h : s.size ≤ p + k) (h' : s.size ≤ p + j) : runesAt g s k p line col = runesAt g s j p line col := by
  have key : ∀ d m, s.size ≤ p + m → runesAt g s (m + d) p line col = runesAt g s m p line col := by
    intro d
    induction d with
    | zero => intro m _; rfl
    | succ d ih => intro m hm; rw [← Nat.add_assoc, runesAt_more g s (m + d) p line col (by omega), ih m hm]
  rcases Nat.le_total k j with hkj | hkj
  · have := key (j - k) k h; rw [show k + (j - k) = j by omega] at this; exact this.symm
  · have := key (k - j) j h'; rw [show j + (k - j) = k by omega] at this; exact this

/-- all runes from a byte on -/
def restG (g : Nat → Int) (s : ByteArray) (p : Nat) (line col : Int) : List Rn := runesAt g s (s.size - p) p line col

theorem restG_cons (g : Nat → Int) (s : ByteArray) (p : Nat) (line col : Int) (h : p < s.size) :
    restG g s p line col = ⟨g p, p, p + decN s p, line, col⟩ :: restG g s (p + decN s p) (nextLine (g p) line) (nextCol (g p) col) := by
  unfold restG
  obtain ⟨k, hk⟩ : ∃ k, s.size - p = k + 1 := ⟨s.size - p - 1, by omega⟩
  rw [hk, runesAt, if_pos h]
  congr 1
  have := decN_pos s p
  exact runesAt_eq g s _ _ _ _ _ (by omega) (by omega)

theorem restG_nil (g : Nat → Int) (s : ByteArray) (p : Nat) (line col : Int) (h : ¬ p < s.size) : restG g s p line col = [] := by
  unfold restG
  rw [show s.size - p = 0 by omega]; rfl

/-- what a range over a string tells -/
def rawR (s : ByteArray) (i : Nat) : Int := ((Utf8.decode s i).1 : Int)
def Rn.fix (x : Rn) : Rn := { x with r := if x.r = 65533 ∧ x.to = x.fr + 1 then -1 else x.r }

theorem raw_ten (s : ByteArray) (i : Nat) : (rawR s i = 10) = (decR s i = 10) := by
  unfold rawR decR
  apply propext
  split <;> omega

theorem restG_fix (s : ByteArray) (k p : Nat) (line col : Int) : (runesAt (rawR s) s k p line col).map Rn.fix = runesAt (decR s) s k p line col := by
  induction k generalizing p line col with
  | zero => rfl
  | succ k ih =>
    simp only [runesAt]
    by_cases hp : p < s.size
    · rw [if_pos hp, if_pos hp, List.map_cons, ih]
      have e1 : nextLine (rawR s p) line = nextLine (decR s p) line := by unfold nextLine; simp only [raw_ten]
      have e2 : nextCol (rawR s p) col = nextCol (decR s p) col := by unfold nextCol; simp only [raw_ten]
      rw [e1, e2]
      congr 1
      unfold Rn.fix decR rawR decN
      simp only [Rn.mk.injEq, and_true]
      by_cases h : (Utf8.decode s p).1 = 65533 ∧ (Utf8.decode s p).2 = 1
      · rw [if_pos h, if_pos (by omega)]
      · rw [if_neg h, if_neg (by omega)]
    · rw [if_neg hp, if_neg hp]; rfl

def allR (s : ByteArray) : List Rn := restG (decR s) s 0 1 1
def allRaw (s : ByteArray) : List Rn := restG (rawR s) s 0 1 1
theorem all_fix (s : ByteArray) : (allRaw s).map Rn.fix = allR s := restG_fix s _ _ _ _

theorem restG_len (g : Nat → Int) (s : ByteArray) (p : Nat) (line col : Int) : (restG g s p line col).length ≤ s.size - p := by
  unfold restG
  generalize s.size - p = k
  induction k generalizing p line col with
  | zero => simp [runesAt]
  | succ k ih =>
    simp only [runesAt]
    split
    · simp only [List.length_cons]; exact Nat.succ_le_succ (ih _ _ _)
    · simp

def rnCells (k : IntKind) (x : Rn) : List Value := [.int k x.r, .int .i64 x.fr, .int .i64 x.to, .int .i64 x.line, .int .i64 x.col]
def rnFlat (k : IntKind) (l : List Rn) : List Value := l.flatMap (rnCells k)
theorem rnFlat_len (k : IntKind) (l : List Rn) : (rnFlat k l).length = l.length * 5 := by
  induction l with
  | nil => rfl
  | cons x r ih => simp only [rnFlat, List.flatMap_cons, List.length_append, List.length_cons] at *; rw [ih]; simp [rnCells]; omega
theorem rnFlat_snoc (k : IntKind) (l : List Rn) (x : Rn) : rnFlat k (l ++ [x]) = rnFlat k l ++ rnCells k x := by simp [rnFlat]
theorem rnFlat_append (k : IntKind) (l m : List Rn) : rnFlat k (l ++ m) = rnFlat k l ++ rnFlat k m := by simp [rnFlat]
theorem rnFlat_cons (k : IntKind) (x : Rn) (l : List Rn) : rnFlat k (x :: l) = rnCells k x ++ rnFlat k l := by simp [rnFlat]

theorem rnFlat_get (k : IntKind) (l : List Rn) (i j : Nat) (x : Rn) (hx : l[i]? = some x) (hj : j < 5) : (rnFlat k l)[i * 5 + j]? = (rnCells k x)[j]? := by
  induction l generalizing i with
  | nil => simp at hx
  | cons y r ih =>
    rw [rnFlat_cons]
    cases i with
    | zero =>
      simp only [List.getElem?_cons_zero, Option.some.injEq] at hx
      subst hx
      rw [Nat.zero_mul, Nat.zero_add, List.getElem?_append_left (by simp [rnCells]; omega)]
    | succ i =>
      rw [List.getElem?_append_right (by simp [rnCells]; omega)]
      rw [show (i + 1) * 5 + j - (rnCells k y).length = i * 5 + j by simp [rnCells]; omega]
      exact ih i (by simpa using hx)

theorem rnFlat_set (k : IntKind) (l : List Rn) (i j : Nat) (x y : Rn) (v : Value) (hx : l[i]? = some x) (hj : j < 5) (hy : (rnCells k x).set j v = rnCells k y) : (rnFlat k l).set (i * 5 + j) v = rnFlat k (l.set i y) := by
  induction l generalizing i with
  | nil => simp at hx
  | cons z r ih =>
    rw [rnFlat_cons]
    cases i with
    | zero =>
      simp only [List.getElem?_cons_zero, Option.some.injEq] at hx
      subst hx
      rw [Nat.zero_mul, Nat.zero_add, List.set_append_left _ _ (by simp [rnCells]; omega), hy, List.set_cons_zero, rnFlat_cons]
    | succ i =>
      rw [List.set_append_right _ _ (by simp [rnCells]; omega)]
      rw [show (i + 1) * 5 + j - (rnCells k z).length = i * 5 + j by simp [rnCells]; omega]
      rw [ih i (by simpa using hx), List.set_cons_succ, rnFlat_cons]

end Go.Proofs.YtgmijfmbbaipfaaDoor
