/- Plain: runes at places, kinds of runes, tokens as cells; no program in sight. -/
import Derived.Test.YtgmijfmbbaipfaaDoorRunesPlain
namespace Go.Proofs.YtgmijfmbbaipfaaDoor
open Go.RowKit

def rAt (L : List Rn) (i : Nat) : Int := match L[i]? with | some x => x.r | none => -1
theorem rAt_some {L : List Rn} {i : Nat} {x : Rn} (h : L[i]? = some x) : rAt L i = x.r := by unfold rAt; rw [h]
theorem rAt_none {L : List Rn} {i : Nat} (h : L.length ≤ i) : rAt L i = -1 := by unfold rAt; rw [List.getElem?_eq_none h]

def smallB (c : Int) : Bool := decide (97 ≤ c ∧ c ≤ 122)
def greatB (c : Int) : Bool := decide (65 ≤ c ∧ c ≤ 90)
def digitB (c : Int) : Bool := decide (48 ≤ c ∧ c ≤ 57)
def blankB (c : Int) : Bool := decide (c = 32 ∨ c = 9 ∨ c = 10 ∨ c = 13)
def letterB (c : Int) : Bool := smallB c || greatB c
def innerB (c : Int) : Bool := letterB c || (digitB c || decide (c = 95))

/-- where a row of runes of a kind ends -/
def rowF (q : Int → Bool) (L : List Rn) : Nat → Nat → Nat
  | 0, i => i
  | k + 1, i => if q (rAt L i) then rowF q L k (i + 1) else i
def rowE (q : Int → Bool) (L : List Rn) (i : Nat) : Nat := rowF q L (L.length - i) i
theorem rowF_more (q : Int → Bool) (hq : q (-1) = false) (L : List Rn) (k i : Nat) (h : L.length ≤ i + k) : rowF q L (k + 1) i = rowF q L k i := by
  induction k generalizing i with
  | zero => simp only [rowF]; rw [rAt_none (by omega), hq]; rfl
  | succ k ih =>
    rw [rowF]
    conv => rhs; rw [rowF]
    cases q (rAt L i)
    · rfl
    · simp only [if_true]; exact ih _ (by omega)
theorem rowE_yes (q : Int → Bool) (hq : q (-1) = false) (L : List Rn) (i : Nat) (h : q (rAt L i) = true) : rowE q L i = rowE q L (i + 1) := by
  have hi : i < L.length := by
    by_cases hc : i < L.length
    · exact hc
    · rw [rAt_none (by omega), hq] at h; cases h
  unfold rowE
  obtain ⟨k, hk⟩ : ∃ k, L.length - i = k + 1 := ⟨L.length - i - 1, by omega⟩
  rw [hk, rowF, if_pos h, show L.length - (i + 1) = k by omega]
theorem rowE_no (q : Int → Bool) (L : List Rn) (i : Nat) (h : q (rAt L i) = false) : rowE q L i = i := by
  unfold rowE
  cases L.length - i with
  | zero => rfl
  | succ k => rw [rowF, h]; rfl
theorem rowF_ge (q : Int → Bool) (L : List Rn) (k i : Nat) : i ≤ rowF q L k i ∧ rowF q L k i ≤ i + k := by
  induction k generalizing i with
  | zero => simp [rowF]
  | succ k ih =>
    rw [rowF]
    split
    · have := ih (i + 1); omega
    · omega
theorem rowE_ge (q : Int → Bool) (L : List Rn) (i : Nat) : i ≤ rowE q L i ∧ (i ≤ L.length → rowE q L i ≤ L.length) := by
  have := rowF_ge q L (L.length - i) i
  unfold rowE
  exact ⟨this.1, fun h => by omega⟩
theorem rowE_all (q : Int → Bool) (L : List Rn) (i j : Nat) (h0 : i ≤ j) (h1 : j < rowE q L i) : q (rAt L j) = true := by
  have key : ∀ k i, i ≤ j → j < rowF q L k i → q (rAt L j) = true := by
    intro k
    induction k with
    | zero => intro i a b; simp only [rowF] at b; omega
    | succ k ih =>
      intro i a b
      rw [rowF] at b
      by_cases hq : q (rAt L i) = true
      · rw [if_pos hq] at b
        by_cases e : i = j
        · subst e; exact hq
        · exact ih (i + 1) (by omega) b
      · rw [if_neg hq] at b; omega
  exact key _ i h0 h1

/-- a token -/
structure Tk where
  kind : Int
  text : ByteArray
  num : Int
  line : Int
  col : Int
def tkCells (x : Tk) : List Value := [.int .i64 x.kind, .string x.text, .int .i64 x.num, .int .i64 x.line, .int .i64 x.col]
def tkFlat (l : List Tk) : List Value := l.flatMap tkCells
theorem tkFlat_len (l : List Tk) : (tkFlat l).length = l.length * 5 := by
  induction l with
  | nil => rfl
  | cons x r ih => simp only [tkFlat, List.flatMap_cons, List.length_append, List.length_cons] at *; rw [ih]; simp [tkCells]; omega
theorem tkFlat_snoc (l : List Tk) (x : Tk) : tkFlat (l ++ [x]) = tkFlat l ++ tkCells x := by simp [tkFlat]
theorem tkFlat_cons (x : Tk) (l : List Tk) : tkFlat (x :: l) = tkCells x ++ tkFlat l := by simp [tkFlat]
theorem tkFlat_get (l : List Tk) (i j : Nat) (x : Tk) (hx : l[i]? = some x) (hj : j < 5) : (tkFlat l)[i * 5 + j]? = (tkCells x)[j]? := by
  induction l generalizing i with
  | nil => simp at hx
  | cons y r ih =>
    rw [tkFlat_cons]
    cases i with
    | zero =>
      simp only [List.getElem?_cons_zero, Option.some.injEq] at hx
      subst hx
      rw [Nat.zero_mul, Nat.zero_add, List.getElem?_append_left (by simp [tkCells]; omega)]
    | succ i =>
      rw [List.getElem?_append_right (by simp [tkCells]; omega)]
      rw [show (i + 1) * 5 + j - (tkCells y).length = i * 5 + j by simp [tkCells]; omega]
      exact ih i (by simpa using hx)
theorem tkFlat_last (l : List Tk) (j : Nat) (x y : Tk) (v : Value) (hj : j < 5) (hy : (tkCells x).set j v = tkCells y) : (tkFlat (l ++ [x])).set (l.length * 5 + j) v = tkFlat (l ++ [y]) := by
  rw [tkFlat_snoc, tkFlat_snoc, List.set_append_right _ _ (by rw [tkFlat_len]; omega), tkFlat_len]
  rw [show l.length * 5 + j - l.length * 5 = j by omega, hy]

end Go.Proofs.YtgmijfmbbaipfaaDoor
