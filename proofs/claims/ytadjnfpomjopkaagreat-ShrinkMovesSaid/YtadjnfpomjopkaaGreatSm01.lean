/- Plain laws of a text's runes: where each lies, and that the reference's reading of UTF-8, byte by byte, is the model's; no program in sight. Plain: runes at places, kinds of runes, tokens as cells; no program in sight. Plain: formulas read from tokens: what is read, and where it ends, or what is wrong first, and where; no program in sight. Plain: what is read lies within the tokens, and has no more items than tokens. -/
import Derived.WalkKit
import Derived.Laws.RangeAny

namespace Go.Proofs.YtadjnfpomjopkaaGreat
open Go.RowKit

/-- a rune as a range over a string tells it, or its place taken by a byte that begins none: -1 -/
def decR (s : ByteArray) (i : Nat) : Int := if (Utf8.decode s i).1 = 65533 ∧ (Utf8.decode s i).2 = 1 then -1 else ((Utf8.decode s i).1 : Int)
def decN (s : ByteArray) (i : Nat) : Nat := (Utf8.decode s i).2

theorem dec_cases (s : ByteArray) (i : Nat) : ((Utf8.decode s i).2 = 1 ∧ ((Utf8.decode s i).1 < 128 ∨ (Utf8.decode s i).1 = 65533)) ∨ ((Utf8.decode s i).2 = 2 ∧ i + 1 < s.size ∧ 128 ≤ (Utf8.decode s i).1) ∨ ((Utf8.decode s i).2 = 3 ∧ i + 2 < s.size ∧ 128 ≤ (Utf8.decode s i).1) ∨ ((Utf8.decode s i).2 = 4 ∧ i + 3 < s.size ∧ 128 ≤ (Utf8.decode s i).1) := by
  simp only [Utf8.decode]
  repeat' split
  all_goals simp_all [Utf8.runeError]
  all_goals omega

theorem decN_pos (s : ByteArray) (i : Nat) : 1 ≤ decN s i := by
  unfold decN
  rcases dec_cases s i with h | h | h | h <;> omega

theorem decN_le (s : ByteArray) (i : Nat) (hi : i < s.size) : i + decN s i ≤ s.size := by
  unfold decN
  rcases dec_cases s i with h | h | h | h <;> omega

theorem decR_bd (s : ByteArray) (i : Nat) : -1 ≤ decR s i ∧ decR s i ≤ 2147483647 := by
  unfold decR
  have := decode_le s i
  split <;> omega

/-- a rune, its bytes, its place -/
structure Rn where
  r : Int
  fr : Nat
  to : Nat
  line : Int
  col : Int

def nextLine (r line : Int) : Int := if r = 10 then line + 1 else line
def nextCol (r col : Int) : Int := if r = 10 then 1 else col + 1

/-- the runes from a byte on; g tells what stands at a byte -/
def runesAt (g : Nat → Int) (s : ByteArray) : Nat → Nat → Int → Int → List Rn
  | 0, _, _, _ => []
  | k + 1, p, line, col =>
    if p < s.size then ⟨g p, p, p + decN s p, line, col⟩ :: runesAt g s k (p + decN s p) (nextLine (g p) line) (nextCol (g p) col) else []

theorem runesAt_more (g : Nat → Int) (s : ByteArray) (k p : Nat) (line col : Int) (h : s.size ≤ p + k) : runesAt g s (k + 1) p line col = runesAt g s k p line col := by
  induction k generalizing p line col with
  | zero => simp only [runesAt]; rw [if_neg (by omega)]
  | succ k ih =>
    by_cases hp : p < s.size
    · have := decN_pos s p
      rw [runesAt]
      conv => rhs; rw [runesAt]
      rw [if_pos hp, if_pos hp, ih _ _ _ (by omega)]
    · rw [runesAt]; conv => rhs; rw [runesAt]
      rw [if_neg hp, if_neg hp]

theorem runesAt_eq (g : Nat → Int) (s : ByteArray) (k j p : Nat) (line col : Int) (h : s.size ≤ p + k) (h' : s.size ≤ p + j) : runesAt g s k p line col = runesAt g s j p line col := by
  have key : ∀ d m, s.size ≤ p + m → runesAt g s (m + d) p line col = runesAt g s m p line col := by
    intro d
    induction d with
    | zero => intro m _; rfl
    | succ d ih => intro m hm; rw [← Nat.add_assoc, runesAt_more g s (m + d) p line col (by omega), ih m hm]
  rcases Nat.le_total k j with hkj | hkj
  · have := key (j - k) k h; rw [show k + (j - k) = j by omega] at this; exact this.symm
  · have := key (k - j) j h'; rw [show j + (k - j) = k by omega] at this; exact this

/-- all runes from a byte on -/
def restG (g : Nat → Int) (s : ByteArray) (p : Nat) (line col : Int) : List Rn := runesAt g s (s.size - p) p line col

theorem restG_cons (g : Nat → Int) (s : ByteArray) (p : Nat) (line col : Int) (h : p < s.size) :
    restG g s p line col = ⟨g p, p, p + decN s p, line, col⟩ :: restG g s (p + decN s p) (nextLine (g p) line) (nextCol (g p) col) := by
  unfold restG
  obtain ⟨k, hk⟩ : ∃ k, s.size - p = k + 1 := ⟨s.size - p - 1, by omega⟩
  rw [hk, runesAt, if_pos h]
  congr 1
  have := decN_pos s p
  exact runesAt_eq g s _ _ _ _ _ (by omega) (by omega)

theorem restG_nil (g : Nat → Int) (s : ByteArray) (p : Nat) (line col : Int) (h : ¬ p < s.size) : restG g s p line col = [] := by
  unfold restG
  rw [show s.size - p = 0 by omega]; rfl

/-- what a range over a string tells -/
def rawR (s : ByteArray) (i : Nat) : Int := ((Utf8.decode s i).1 : Int)
def Rn.fix (x : Rn) : Rn := { x with r := if x.r = 65533 ∧ x.to = x.fr + 1 then -1 else x.r }

theorem raw_ten (s : ByteArray) (i : Nat) : (rawR s i = 10) = (decR s i = 10) := by
  unfold rawR decR
  apply propext
  split <;> omega

theorem restG_fix (s : ByteArray) (k p : Nat) (line col : Int) : (runesAt (rawR s) s k p line col).map Rn.fix = runesAt (decR s) s k p line col := by
  induction k generalizing p line col with
  | zero => rfl
  | succ k ih =>
    simp only [runesAt]
    by_cases hp : p < s.size
    · rw [if_pos hp, if_pos hp, List.map_cons, ih]
      have e1 : nextLine (rawR s p) line = nextLine (decR s p) line := by unfold nextLine; simp only [raw_ten]
      have e2 : nextCol (rawR s p) col = nextCol (decR s p) col := by unfold nextCol; simp only [raw_ten]
      rw [e1, e2]
      congr 1
      unfold Rn.fix decR rawR decN
      simp only [Rn.mk.injEq, and_true]
      by_cases h : (Utf8.decode s p).1 = 65533 ∧ (Utf8.decode s p).2 = 1
      · rw [if_pos h, if_pos (by omega)]
      · rw [if_neg h, if_neg (by omega)]
    · rw [if_neg hp, if_neg hp]; rfl

def allR (s : ByteArray) : List Rn := restG (decR s) s 0 1 1
def allRaw (s : ByteArray) : List Rn := restG (rawR s) s 0 1 1
theorem all_fix (s : ByteArray) : (allRaw s).map Rn.fix = allR s := restG_fix s _ _ _ _

theorem restG_len (g : Nat → Int) (s : ByteArray) (p : Nat) (line col : Int) : (restG g s p line col).length ≤ s.size - p := by
  unfold restG
  generalize s.size - p = k
  induction k generalizing p line col with
  | zero => simp [runesAt]
  | succ k ih =>
    simp only [runesAt]
    split
    · simp only [List.length_cons]; exact Nat.succ_le_succ (ih _ _ _)
    · simp

def rnCells (k : IntKind) (x : Rn) : List Value := [.int k x.r, .int .i64 x.fr, .int .i64 x.to, .int .i64 x.line, .int .i64 x.col]
def rnFlat (k : IntKind) (l : List Rn) : List Value := l.flatMap (rnCells k)
theorem rnFlat_len (k : IntKind) (l : List Rn) : (rnFlat k l).length = l.length * 5 := by
  induction l with
  | nil => rfl
  | cons x r ih => simp only [rnFlat, List.flatMap_cons, List.length_append, List.length_cons] at *; rw [ih]; simp [rnCells]; omega
theorem rnFlat_snoc (k : IntKind) (l : List Rn) (x : Rn) : rnFlat k (l ++ [x]) = rnFlat k l ++ rnCells k x := by simp [rnFlat]
theorem rnFlat_append (k : IntKind) (l m : List Rn) : rnFlat k (l ++ m) = rnFlat k l ++ rnFlat k m := by simp [rnFlat]
theorem rnFlat_cons (k : IntKind) (x : Rn) (l : List Rn) : rnFlat k (x :: l) = rnCells k x ++ rnFlat k l := by simp [rnFlat]

theorem rnFlat_get (k : IntKind) (l : List Rn) (i j : Nat) (x : Rn) (hx : l[i]? = some x) (hj : j < 5) : (rnFlat k l)[i * 5 + j]? = (rnCells k x)[j]? := by
  induction l generalizing i with
  | nil => simp at hx
  | cons y r ih =>
    rw [rnFlat_cons]
    cases i with
    | zero =>
      simp only [List.getElem?_cons_zero, Option.some.injEq] at hx
      subst hx
      rw [Nat.zero_mul, Nat.zero_add, List.getElem?_append_left (by simp [rnCells]; omega)]
    | succ i =>
      rw [List.getElem?_append_right (by simp [rnCells]; omega)]
      rw [show (i + 1) * 5 + j - (rnCells k y).length = i * 5 + j by simp [rnCells]; omega]
      exact ih i (by simpa using hx)

theorem rnFlat_set (k : IntKind) (l : List Rn) (i j : Nat) (x y : Rn) (v : Value) (hx : l[i]? = some x) (hj : j < 5) (hy : (rnCells k x).set j v = rnCells k y) : (rnFlat k l).set (i * 5 + j) v = rnFlat k (l.set i y) := by
  induction l generalizing i with
  | nil => simp at hx
  | cons z r ih =>
    rw [rnFlat_cons]
    cases i with
    | zero =>
      simp only [List.getElem?_cons_zero, Option.some.injEq] at hx
      subst hx
      rw [Nat.zero_mul, Nat.zero_add, List.set_append_left _ _ (by simp [rnCells]; omega), hy, List.set_cons_zero, rnFlat_cons]
    | succ i =>
      rw [List.set_append_right _ _ (by simp [rnCells]; omega)]
      rw [show (i + 1) * 5 + j - (rnCells k z).length = i * 5 + j by simp [rnCells]; omega]
      rw [ih i (by simpa using hx), List.set_cons_succ, rnFlat_cons]

end Go.Proofs.YtadjnfpomjopkaaGreat

namespace Go.Proofs.YtadjnfpomjopkaaGreat
open Go.RowKit

def rAt (L : List Rn) (i : Nat) : Int := match L[i]? with | some x => x.r | none => -1
theorem rAt_some {L : List Rn} {i : Nat} {x : Rn} (h : L[i]? = some x) : rAt L i = x.r := by unfold rAt; rw [h]
theorem rAt_none {L : List Rn} {i : Nat} (h : L.length ≤ i) : rAt L i = -1 := by unfold rAt; rw [List.getElem?_eq_none h]

def smallB (c : Int) : Bool := decide (97 ≤ c ∧ c ≤ 122)
def greatB (c : Int) : Bool := decide (65 ≤ c ∧ c ≤ 90)
def digitB (c : Int) : Bool := decide (48 ≤ c ∧ c ≤ 57)
def blankB (c : Int) : Bool := decide (c = 32 ∨ c = 9 ∨ c = 10 ∨ c = 13)
def letterB (c : Int) : Bool := smallB c || greatB c
def innerB (c : Int) : Bool := letterB c || (digitB c || decide (c = 95))

/-- where a row of runes of a kind ends -/
def rowF (q : Int → Bool) (L : List Rn) : Nat → Nat → Nat
  | 0, i => i
  | k + 1, i => if q (rAt L i) then rowF q L k (i + 1) else i
def rowE (q : Int → Bool) (L : List Rn) (i : Nat) : Nat := rowF q L (L.length - i) i
theorem rowF_more (q : Int → Bool) (hq : q (-1) = false) (L : List Rn) (k i : Nat) (h : L.length ≤ i + k) : rowF q L (k + 1) i = rowF q L k i := by
  induction k generalizing i with
  | zero => simp only [rowF]; rw [rAt_none (by omega), hq]; rfl
  | succ k ih =>
    rw [rowF]
    conv => rhs; rw [rowF]
    cases q (rAt L i)
    · rfl
    · simp only [if_true]; exact ih _ (by omega)
theorem rowE_yes (q : Int → Bool) (hq : q (-1) = false) (L : List Rn) (i : Nat) (h : q (rAt L i) = true) : rowE q L i = rowE q L (i + 1) := by
  have hi : i < L.length := by
    by_cases hc : i < L.length
    · exact hc
    · rw [rAt_none (by omega), hq] at h; cases h
  unfold rowE
  obtain ⟨k, hk⟩ : ∃ k, L.length - i = k + 1 := ⟨L.length - i - 1, by omega⟩
  rw [hk, rowF, if_pos h, show L.length - (i + 1) = k by omega]
theorem rowE_no (q : Int → Bool) (L : List Rn) (i : Nat) (h : q (rAt L i) = false) : rowE q L i = i := by
  unfold rowE
  cases L.length - i with
  | zero => rfl
  | succ k => rw [rowF, h]; rfl
theorem rowF_ge (q : Int → Bool) (L : List Rn) (k i : Nat) : i ≤ rowF q L k i ∧ rowF q L k i ≤ i + k := by
  induction k generalizing i with
  | zero => simp [rowF]
  | succ k ih =>
    rw [rowF]
    split
    · have := ih (i + 1); omega
    · omega
theorem rowE_ge (q : Int → Bool) (L : List Rn) (i : Nat) : i ≤ rowE q L i ∧ (i ≤ L.length → rowE q L i ≤ L.length) := by
  have := rowF_ge q L (L.length - i) i
  unfold rowE
  exact ⟨this.1, fun h => by omega⟩
theorem rowE_all (q : Int → Bool) (L : List Rn) (i j : Nat) (h0 : i ≤ j) (h1 : j < rowE q L i) : q (rAt L j) = true := by
  have key : ∀ k i, i ≤ j → j < rowF q L k i → q (rAt L j) = true := by
    intro k
    induction k with
    | zero => intro i a b; simp only [rowF] at b; omega
    | succ k ih =>
      intro i a b
      rw [rowF] at b
      by_cases hq : q (rAt L i) = true
      · rw [if_pos hq] at b
        by_cases e : i = j
        · subst e; exact hq
        · exact ih (i + 1) (by omega) b
      · rw [if_neg hq] at b; omega
  exact key _ i h0 h1

/-- a token -/
structure Tk where
  kind : Int
  text : ByteArray
  num : Int
  line : Int
  col : Int
def tkCells (x : Tk) : List Value := [.int .i64 x.kind, .string x.text, .int .i64 x.num, .int .i64 x.line, .int .i64 x.col]
def tkFlat (l : List Tk) : List Value := l.flatMap tkCells
theorem tkFlat_len (l : List Tk) : (tkFlat l).length = l.length * 5 := by
  induction l with
  | nil => rfl
  | cons x r ih => simp only [tkFlat, List.flatMap_cons, List.length_append, List.length_cons] at *; rw [ih]; simp [tkCells]; omega
theorem tkFlat_snoc (l : List Tk) (x : Tk) : tkFlat (l ++ [x]) = tkFlat l ++ tkCells x := by simp [tkFlat]
theorem tkFlat_cons (x : Tk) (l : List Tk) : tkFlat (x :: l) = tkCells x ++ tkFlat l := by simp [tkFlat]
theorem tkFlat_get (l : List Tk) (i j : Nat) (x : Tk) (hx : l[i]? = some x) (hj : j < 5) : (tkFlat l)[i * 5 + j]? = (tkCells x)[j]? := by
  induction l generalizing i with
  | nil => simp at hx
  | cons y r ih =>
    rw [tkFlat_cons]
    cases i with
    | zero =>
      simp only [List.getElem?_cons_zero, Option.some.injEq] at hx
      subst hx
      rw [Nat.zero_mul, Nat.zero_add, List.getElem?_append_left (by simp [tkCells]; omega)]
    | succ i =>
      rw [List.getElem?_append_right (by simp [tkCells]; omega)]
      rw [show (i + 1) * 5 + j - (tkCells y).length = i * 5 + j by simp [tkCells]; omega]
      exact ih i (by simpa using hx)
theorem tkFlat_last (l : List Tk) (j : Nat) (x y : Tk) (v : Value) (hj : j < 5) (hy : (tkCells x).set j v = tkCells y) : (tkFlat (l ++ [x])).set (l.length * 5 + j) v = tkFlat (l ++ [y]) := by
  rw [tkFlat_snoc, tkFlat_snoc, List.set_append_right _ _ (by rw [tkFlat_len]; omega), tkFlat_len]
  rw [show l.length * 5 + j - l.length * 5 = j by omega, hy]

end Go.Proofs.YtadjnfpomjopkaaGreat

namespace Go.Proofs.YtadjnfpomjopkaaGreat
open Go.RowKit

/-- an item of a formula -/
structure It where
  op : Int
  ln : ByteArray
  lnum : Int
  rn : ByteArray
  rnum : Int
  name : ByteArray
  user : ByteArray
  line : Int
  col : Int
def itCells (x : It) : List Value := [.int .i64 x.op, .string x.ln, .int .i64 x.lnum, .string x.rn, .int .i64 x.rnum, .string x.name, .string x.user, .int .i64 x.line, .int .i64 x.col]
def itFlat (l : List It) : List Value := l.flatMap itCells
theorem itFlat_len (l : List It) : (itFlat l).length = l.length * 9 := by
  induction l with
  | nil => rfl
  | cons x r ih => simp only [itFlat, List.flatMap_cons, List.length_append, List.length_cons] at *; rw [ih]; simp [itCells]; omega
theorem itFlat_snoc (l : List It) (x : It) : itFlat (l ++ [x]) = itFlat l ++ itCells x := by simp [itFlat]
theorem itFlat_cons (x : It) (l : List It) : itFlat (x :: l) = itCells x ++ itFlat l := by simp [itFlat]
theorem itFlat_get (l : List It) (i j : Nat) (x : It) (hx : l[i]? = some x) (hj : j < 9) : (itFlat l)[i * 9 + j]? = (itCells x)[j]? := by
  induction l generalizing i with
  | nil => simp at hx
  | cons y r ih =>
    rw [itFlat_cons]
    cases i with
    | zero =>
      simp only [List.getElem?_cons_zero, Option.some.injEq] at hx
      subst hx
      rw [Nat.zero_mul, Nat.zero_add, List.getElem?_append_left (by simp [itCells]; omega)]
    | succ i =>
      rw [List.getElem?_append_right (by simp [itCells]; omega)]
      rw [show (i + 1) * 9 + j - (itCells y).length = i * 9 + j by simp [itCells]; omega]
      exact ih i (by simpa using hx)

/-- what no token is: the end -/
def noTk : Tk := ⟨5, ⟨#[]⟩, 0, 0, 0⟩
/-- the token at a place, behind the last one the end -/
def tkAt (T : List Tk) (i : Int) : Tk := if i < 0 then noTk else match T[i.toNat]? with | some x => x | none => noTk
def isTk (T : List Tk) (i : Int) (kind : Int) (s : ByteArray) : Bool := decide ((tkAt T i).kind = kind) && decide ((tkAt T i).text = s)

/-- what was read: items, and the token behind; or what is wrong, and where -/
inductive PR where
  | ok (out : List It) (at_ : Int)
  | bad (er line col : Int)

def badP (T : List Tk) (i : Int) (er : Int) : PR := .bad er (tkAt T i).line (tkAt T i).col
def PR.also (p : PR) (f : List It → Int → PR) : PR := match p with | .ok o a => f o a | .bad e l c => .bad e l c
def item (op : Int) (t : Tk) : It := ⟨op, ⟨#[]⟩, 0, ⟨#[]⟩, 0, ⟨#[]⟩, ⟨#[]⟩, t.line, t.col⟩

/-- a row of formulas with a word between each two, of which the first one is read -/
def rowP (T : List Tk) (one : Int → PR) (wd : ByteArray) (op : Int) : Nat → Int → List It → PR
  | 0, i, out => .ok out i
  | k + 1, i, out => if isTk T i 2 wd then (one (i + 1)).also fun o a => rowP T one wd op k a (out ++ o ++ [item op (tkAt T i)]) else .ok out i
def rowsP (T : List Tk) (one : Int → PR) (wd : ByteArray) (op : Int) (i : Int) : PR := (one i).also fun o a => rowP T one wd op (T.length + 1) a o

def wAnd : ByteArray := ⟨#[97, 110, 100]⟩
def wOr : ByteArray := ⟨#[111, 114]⟩
def wImplies : ByteArray := ⟨#[105, 109, 112, 108, 105, 101, 115]⟩
def wNot : ByteArray := ⟨#[110, 111, 116]⟩
def wOpen : ByteArray := ⟨#[111, 112, 101, 110]⟩
def wDone : ByteArray := ⟨#[100, 111, 110, 101]⟩
def wTrue : ByteArray := ⟨#[116, 114, 117, 101]⟩
def wFalse : ByteArray := ⟨#[102, 97, 108, 115, 101]⟩
def wCan : ByteArray := ⟨#[99, 97, 110]⟩
def wDid : ByteArray := ⟨#[100, 105, 100]⟩
def wComplete : ByteArray := ⟨#[99, 111, 109, 112, 108, 101, 116, 101]⟩
def wStuck : ByteArray := ⟨#[115, 116, 117, 99, 107]⟩
def wA : ByteArray := ⟨#[65]⟩
def wE : ByteArray := ⟨#[69]⟩
def wU : ByteArray := ⟨#[85]⟩
def sOpen : ByteArray := ⟨#[40]⟩
def sClose : ByteArray := ⟨#[41]⟩
def sBegin : ByteArray := ⟨#[91]⟩
def sEnd : ByteArray := ⟨#[93]⟩

/-- the Op of a word that is put ahead; 0: it is none -/
def tempN (s : ByteArray) : Int :=
  if s = ⟨#[65, 88]⟩ then 19 else if s = ⟨#[69, 88]⟩ then 20 else if s = ⟨#[65, 70]⟩ then 21 else if s = ⟨#[69, 70]⟩ then 22 else if s = ⟨#[65, 71]⟩ then 23 else if s = ⟨#[69, 71]⟩ then 24 else 0
/-- the Op of a sign of a comparison; 0: it is none -/
def compN (T : List Tk) (i : Int) : Int :=
  if (tkAt T i).kind ≠ 4 then 0
  else if (tkAt T i).text = ⟨#[60]⟩ then 3 else if (tkAt T i).text = ⟨#[60, 61]⟩ then 4 else if (tkAt T i).text = ⟨#[62]⟩ then 5 else if (tkAt T i).text = ⟨#[62, 61]⟩ then 6 else if (tkAt T i).text = ⟨#[61]⟩ then 7 else if (tkAt T i).text = ⟨#[33, 61]⟩ then 8 else 0

def isWord (t : Tk) : Bool := decide (t.kind = 1) || decide (t.kind = 3)
def wordName (t : Tk) : ByteArray := if t.kind = 1 then t.text else ⟨#[]⟩
def wordNum (t : Tk) : Int := if t.kind = 1 then 0 else t.num
def compP (T : List Tk) (i : Int) : PR :=
  if isWord (tkAt T i) then
    (if compN T (i + 1) = 0 then badP T (i + 1) 4
    else if isWord (tkAt T (i + 2)) then .ok [⟨compN T (i + 1), wordName (tkAt T i), wordNum (tkAt T i), wordName (tkAt T (i + 2)), wordNum (tkAt T (i + 2)), ⟨#[]⟩, ⟨#[]⟩, (tkAt T i).line, (tkAt T i).col⟩] (i + 3)
    else badP T (i + 2) 4)
  else badP T i 4
def namedP (T : List Tk) (i : Int) (op : Int) : PR :=
  if (tkAt T (i + 1)).kind = 1 then .ok [⟨op, ⟨#[]⟩, 0, ⟨#[]⟩, 0, (tkAt T (i + 1)).text, ⟨#[]⟩, (tkAt T (i + 1)).line, (tkAt T (i + 1)).col⟩] (i + 2) else badP T (i + 1) 4
def didP (T : List Tk) (i : Int) : PR :=
  if (tkAt T (i + 1)).kind = 1 then
    (if (tkAt T (i + 2)).kind = 1 then .ok [⟨12, ⟨#[]⟩, 0, ⟨#[]⟩, 0, (tkAt T (i + 2)).text, (tkAt T (i + 1)).text, (tkAt T (i + 1)).line, (tkAt T (i + 1)).col⟩] (i + 3) else badP T (i + 2) 4)
  else badP T (i + 1) 4
def atomP (T : List Tk) (prop : Bool) (i : Int) : PR :=
  if (tkAt T i).text = wOpen then namedP T i 9
  else if (tkAt T i).text = wDone then namedP T i 10
  else if (tkAt T i).text = wTrue then .ok [item 1 (tkAt T i)] (i + 1)
  else if (tkAt T i).text = wFalse then .ok [item 2 (tkAt T i)] (i + 1)
  else if prop = false then badP T i 4
  else if (tkAt T i).text = wCan then namedP T i 11
  else if (tkAt T i).text = wDid then didP T i
  else if (tkAt T i).text = wComplete then .ok [item 13 (tkAt T i)] (i + 1)
  else if (tkAt T i).text = wStuck then .ok [item 14 (tkAt T i)] (i + 1)
  else badP T i 4

def needP (T : List Tk) (i : Int) (kind : Int) (s : ByteArray) (f : Int → PR) : PR := if isTk T i kind s then f (i + 1) else badP T i 4
/-- A or E, and what stands in brackets -/
def untilP (T : List Tk) (form : Int → PR) (op i : Int) : PR :=
  needP T (i + 1) 4 sBegin fun a => (form a).also fun o1 b => needP T b 2 wU fun c => (form c).also fun o2 d => needP T d 4 sEnd fun e => .ok (o1 ++ o2 ++ [item op (tkAt T i)]) e
/-- a sign, over what signs and formulas are one deeper -/
def signP (T : List Tk) (prop : Bool) (sg form : Int → PR) (i : Int) : PR :=
  if isTk T i 4 sOpen then (form (i + 1)).also fun o a => needP T a 4 sClose fun b => .ok o b
  else if (tkAt T i).kind ≠ 2 then compP T i
  else if (tkAt T i).text = wNot then (sg (i + 1)).also fun o a => .ok (o ++ [item 15 (tkAt T i)]) a
  else if prop = false ∧ (tempN (tkAt T i).text > 0 ∨ (tkAt T i).text = wA ∨ (tkAt T i).text = wE) then badP T i 4
  else if (tkAt T i).text = wA then untilP T form 25 i
  else if (tkAt T i).text = wE then untilP T form 26 i
  else if tempN (tkAt T i).text = 0 then atomP T prop i
  else (sg (i + 1)).also fun o a => .ok (o ++ [item (tempN (tkAt T i).text) (tkAt T i)]) a
/-- a formula, over what a sign is, and what a formula one deeper is -/
def formP (T : List Tk) (sg form : Int → PR) (i : Int) : PR :=
  (rowsP T (rowsP T sg wAnd 16) wOr 17 i).also fun o a =>
    if isTk T a 2 wImplies then (form (a + 1)).also fun o2 b => .ok (o ++ o2 ++ [item 18 (tkAt T a)]) b else .ok o a
/-- signs and formulas that may be so many deep -/
def bothP (T : List Tk) (prop : Bool) : Nat → (Int → PR) × (Int → PR)
  | 0 => (fun i => badP T i 5, fun i => badP T i 5)
  | n + 1 => (signP T prop (bothP T prop n).1 (bothP T prop n).2, formP T (signP T prop (bothP T prop n).1 (bothP T prop n).2) (bothP T prop n).2)

end Go.Proofs.YtadjnfpomjopkaaGreat

namespace Go.Proofs.YtadjnfpomjopkaaGreat
open Go.RowKit

def Good (T : List Tk) (one : Int → PR) : Prop := ∀ i o a, one i = .ok o a → 0 ≤ i ∧ i < a ∧ a ≤ T.length ∧ (o.length : Int) ≤ a - i

theorem tkAt_in {T : List Tk} {i : Int} (h : (tkAt T i).kind ≠ 5) : 0 ≤ i ∧ i < T.length := by
  unfold tkAt at h
  split at h
  · exact absurd rfl h
  · split at h
    · rename_i h1 x hx
      have := (List.getElem?_eq_some_iff.1 hx).1
      omega
    · exact absurd rfl h
theorem isTk_kind {T : List Tk} {i kind : Int} {s : ByteArray} (h : isTk T i kind s = true) : (tkAt T i).kind = kind := by
  unfold isTk at h
  simp only [Bool.and_eq_true, decide_eq_true_eq] at h
  exact h.1
theorem isTk_in {T : List Tk} {i kind : Int} {s : ByteArray} (h : isTk T i kind s = true) (hk : kind ≠ 5) : 0 ≤ i ∧ i < T.length :=
  tkAt_in (by rw [isTk_kind h]; exact hk)

theorem also_ok {p : PR} {f : List It → Int → PR} {o : List It} {a : Int} (h : p.also f = .ok o a) : ∃ o1 a1, p = .ok o1 a1 ∧ f o1 a1 = .ok o a := by
  cases p with
  | ok o1 a1 => exact ⟨o1, a1, rfl, h⟩
  | bad er l c => cases h
theorem need_ok {T : List Tk} {i kind : Int} {s : ByteArray} {f : Int → PR} {o : List It} {a : Int} (h : needP T i kind s f = .ok o a) : isTk T i kind s = true ∧ f (i + 1) = .ok o a := by
  unfold needP at h
  split at h
  · rename_i hq; exact ⟨hq, h⟩
  · cases h

theorem rowP_good {T : List Tk} {one : Int → PR} (h : Good T one) (wd : ByteArray) (op : Int) : ∀ (k : Nat) (i : Int) (out : List It) (o : List It) (a : Int), 0 ≤ i → i ≤ T.length → rowP T one wd op k i out = .ok o a → i ≤ a ∧ a ≤ T.length ∧ (o.length : Int) - out.length ≤ a - i
  | 0, i, out, o, a, _, _, he => by
    simp only [rowP, PR.ok.injEq] at he
    obtain ⟨rfl, rfl⟩ := he
    omega
  | k + 1, i, out, o, a, h0, h1, he => by
    rw [rowP] at he
    split at he
    · rename_i hq
      obtain ⟨o1, a1, he1, he2⟩ := also_ok he
      have g1 := h _ _ _ he1
      have g2 := rowP_good h wd op k _ _ _ _ (by omega) (by omega) he2
      simp only [List.length_append, List.length_cons, List.length_nil] at g2
      omega
    · simp only [PR.ok.injEq] at he
      obtain ⟨rfl, rfl⟩ := he
      omega
theorem rowsP_good {T : List Tk} {one : Int → PR} (h : Good T one) (wd : ByteArray) (op : Int) : Good T (rowsP T one wd op) := by
  intro i o a he
  obtain ⟨o1, a1, he1, he2⟩ := also_ok he
  have g1 := h _ _ _ he1
  have g2 := rowP_good h wd op _ _ _ _ _ (by omega) (by omega) he2
  omega

theorem comp_sign {T : List Tk} {i : Int} (h : compN T i ≠ 0) : (tkAt T i).kind = 4 := by
  unfold compN at h
  split at h
  · exact absurd rfl h
  · rename_i h1; omega
theorem isWord_kind {t : Tk} (h : isWord t = true) : t.kind ≠ 5 := by
  unfold isWord at h
  simp only [Bool.or_eq_true, decide_eq_true_eq] at h
  omega
theorem compP_good (T : List Tk) : Good T (compP T) := by
  intro i o a he
  unfold compP at he
  split at he
  · rename_i h1
    have g1 := tkAt_in (isWord_kind h1)
    split at he
    · cases he
    · split at he
      · rename_i h2 h3
        have g3 := tkAt_in (isWord_kind h3)
        simp only [PR.ok.injEq] at he
        obtain ⟨rfl, rfl⟩ := he
        simp only [List.length_cons, List.length_nil]
        omega
      · cases he
  · cases he
theorem namedP_good (T : List Tk) (i : Int) (op : Int) (o : List It) (a : Int) (he : namedP T i op = .ok o a) : i < a ∧ a ≤ T.length ∧ (o.length : Int) ≤ a - i := by
  unfold namedP at he
  split at he
  · rename_i h1
    have g1 := tkAt_in (T := T) (i := i + 1) (by omega)
    simp only [PR.ok.injEq] at he
    obtain ⟨rfl, rfl⟩ := he
    simp only [List.length_cons, List.length_nil]
    omega
  · cases he
theorem didP_good (T : List Tk) (i : Int) (o : List It) (a : Int) (he : didP T i = .ok o a) : i < a ∧ a ≤ T.length ∧ (o.length : Int) ≤ a - i := by
  unfold didP at he
  split at he
  · split at he
    · rename_i h1 h2
      have g1 := tkAt_in (T := T) (i := i + 2) (by omega)
      simp only [PR.ok.injEq] at he
      obtain ⟨rfl, rfl⟩ := he
      simp only [List.length_cons, List.length_nil]
      omega
    · cases he
  · cases he
theorem item_good {T : List Tk} {i : Int} {x : It} {o : List It} {a : Int} (hi : 0 ≤ i ∧ i < T.length) (he : PR.ok [x] (i + 1) = .ok o a) : i < a ∧ a ≤ T.length ∧ (o.length : Int) ≤ a - i := by
  simp only [PR.ok.injEq] at he
  obtain ⟨rfl, rfl⟩ := he
  simp only [List.length_cons, List.length_nil]
  omega
theorem atomP_good (T : List Tk) (prop : Bool) (i : Int) (o : List It) (a : Int) (hi : 0 ≤ i ∧ i < T.length) (he : atomP T prop i = .ok o a) : i < a ∧ a ≤ T.length ∧ (o.length : Int) ≤ a - i := by
  unfold atomP at he
  split at he
  · exact namedP_good _ _ _ _ _ he
  split at he
  · exact namedP_good _ _ _ _ _ he
  split at he
  · exact item_good hi he
  split at he
  · exact item_good hi he
  split at he
  · cases he
  split at he
  · exact namedP_good _ _ _ _ _ he
  split at he
  · exact didP_good _ _ _ _ he
  split at he
  · exact item_good hi he
  split at he
  · exact item_good hi he
  · cases he
theorem untilP_good {T : List Tk} {form : Int → PR} (h : Good T form) (op i : Int) (o : List It) (a : Int) (he : untilP T form op i = .ok o a) : i < a ∧ a ≤ T.length ∧ (o.length : Int) ≤ a - i := by
  unfold untilP at he
  obtain ⟨h1, he⟩ := need_ok he
  obtain ⟨o1, b, hf, he⟩ := also_ok he
  obtain ⟨h2, he⟩ := need_ok he
  obtain ⟨o2, d, hf2, he⟩ := also_ok he
  obtain ⟨h3, he⟩ := need_ok he
  have g1 := h _ _ _ hf
  have g2 := h _ _ _ hf2
  have g3 := isTk_in h3 (by decide)
  simp only [PR.ok.injEq] at he
  obtain ⟨rfl, rfl⟩ := he
  simp only [List.length_append, List.length_cons, List.length_nil]
  omega
theorem signP_good {T : List Tk} {prop : Bool} {sg form : Int → PR} (hs : Good T sg) (hf : Good T form) : Good T (signP T prop sg form) := by
  intro i o a he
  unfold signP at he
  split at he
  · rename_i h1
    have g0 := isTk_in h1 (by decide)
    obtain ⟨o1, b, h2, he⟩ := also_ok he
    obtain ⟨h3, he⟩ := need_ok he
    have g1 := hf _ _ _ h2
    have g3 := isTk_in h3 (by decide)
    simp only [PR.ok.injEq] at he
    obtain ⟨rfl, rfl⟩ := he
    omega
  split at he
  · exact compP_good T i o a he
  rename_i hk
  have g0 := tkAt_in (T := T) (i := i) (by omega)
  split at he
  · obtain ⟨o1, b, h2, he⟩ := also_ok he
    have g1 := hs _ _ _ h2
    simp only [PR.ok.injEq] at he
    obtain ⟨rfl, rfl⟩ := he
    simp only [List.length_append, List.length_cons, List.length_nil]
    omega
  split at he
  · cases he
  split at he
  · exact ⟨g0.1, untilP_good hf _ _ _ _ he⟩
  split at he
  · exact ⟨g0.1, untilP_good hf _ _ _ _ he⟩
  split at he
  · exact ⟨g0.1, atomP_good T prop i o a g0 he⟩
  · obtain ⟨o1, b, h2, he⟩ := also_ok he
    have g1 := hs _ _ _ h2
    simp only [PR.ok.injEq] at he
    obtain ⟨rfl, rfl⟩ := he
    simp only [List.length_append, List.length_cons, List.length_nil]
    omega
theorem formP_good {T : List Tk} {sg form : Int → PR} (hs : Good T sg) (hf : Good T form) : Good T (formP T sg form) := by
  intro i o a he
  unfold formP at he
  obtain ⟨o1, b, h1, he⟩ := also_ok he
  have g1 := rowsP_good (rowsP_good hs wAnd 16) wOr 17 _ _ _ h1
  split at he
  · obtain ⟨o2, c, h2, he⟩ := also_ok he
    have g2 := hf _ _ _ h2
    simp only [PR.ok.injEq] at he
    obtain ⟨rfl, rfl⟩ := he
    simp only [List.length_append, List.length_cons, List.length_nil]
    omega
  · simp only [PR.ok.injEq] at he
    obtain ⟨rfl, rfl⟩ := he
    omega
theorem both_good (T : List Tk) (prop : Bool) : ∀ n, Good T (bothP T prop n).1 ∧ Good T (bothP T prop n).2
  | 0 => ⟨fun i o a h => (by have h : badP T i 5 = .ok o a := h; cases h), fun i o a h => (by have h : badP T i 5 = .ok o a := h; cases h)⟩
  | n + 1 => by
    have ih := both_good T prop n
    have hs := signP_good (prop := prop) ih.1 ih.2
    exact ⟨hs, formP_good hs ih.2⟩

end Go.Proofs.YtadjnfpomjopkaaGreat
