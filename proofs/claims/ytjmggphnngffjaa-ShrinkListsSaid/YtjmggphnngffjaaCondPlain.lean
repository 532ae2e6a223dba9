/- Plain: formulas read from tokens: what is read, and where it ends, or what is wrong first, and where; no program in sight. -/
import Derived.Test.YtjmggphnngffjaaTokPlain
namespace Go.Proofs.Ytjmggphnngffjaa
open Go.RowKit

/-- an item of a formula -/
structure It where
  op : Int
  ln : ByteArray
  lnum : Int
  rn : ByteArray
  rnum : Int
  name : ByteArray
  user : ByteArray
  line : Int
  col : Int
def itCells (x : It) : List Value := [.int .i64 x.op, .string x.ln, .int .i64 x.lnum, .string x.rn, .int .i64 x.rnum, .string x.name, .string x.user, .int .i64 x.line, .int .i64 x.col]
def itFlat (l : List It) : List Value := l.flatMap itCells
theorem itFlat_len (l : List It) : (itFlat l).length = l.length * 9 := by
  induction l with
  | nil => rfl
  | cons x r ih => simp only [itFlat, List.flatMap_cons, List.length_append, List.length_cons] at *; rw [ih]; simp [itCells]; omega
theorem itFlat_snoc (l : List It) (x : It) : itFlat (l ++ [x]) = itFlat l ++ itCells x := by simp [itFlat]
theorem itFlat_cons (x : It) (l : List It) : itFlat (x :: l) = itCells x ++ itFlat l := by simp [itFlat]
theorem itFlat_get (l : List It) (i j : Nat) (x : It) (hx : l[i]? = some x) (hj : j < 9) : (itFlat l)[i * 9 + j]? = (itCells x)[j]? := by
  induction l generalizing i with
  | nil => simp at hx
  | cons y r ih =>
    rw [itFlat_cons]
    cases i with
    | zero =>
      simp only [List.getElem?_cons_zero, Option.some.injEq] at hx
      subst hx
      rw [Nat.zero_mul, Nat.zero_add, List.getElem?_append_left (by simp [itCells]; omega)]
    | succ i =>
      rw [List.getElem?_append_right (by simp [itCells]; omega)]
      rw [show (i + 1) * 9 + j - (itCells y).length = i * 9 + j by simp [itCells]; omega]
      exact ih i (by simpa using hx)

/-- what no token is: the end -/
def noTk : Tk := ⟨5, ⟨#[]⟩, 0, 0, 0⟩
/-- the token at a place, behind the last one the end -/
def tkAt (T : List Tk) (i : Int) : Tk := if i < 0 then noTk else match T[i.toNat]? with | some x => x | none => noTk
def isTk (T : List Tk) (i : Int) (kind : Int) (s : ByteArray) : Bool := decide ((tkAt T i).kind = kind) && decide ((tkAt T i).text = s)

/-- what was read: items, and the token behind; or what is wrong, and where -/
inductive PR where
  | ok (out : List It) (at_ : Int)
  | bad (er line col : Int)

def badP (T : List Tk) (i : Int) (er : Int) : PR := .bad er (tkAt T i).line (tkAt T i).col
def PR.also (p : PR) (f : List It → Int → PR) : PR := match p with | .ok o a => f o a | .bad e l c => .bad e l c
def item (op : Int) (t : Tk) : It := ⟨op, ⟨#[]⟩, 0, ⟨#[]⟩, 0, ⟨#[]⟩, ⟨#[]⟩, t.line, t.col⟩

/-- a row of formulas with a word between each two, of which the first one is read -/
def rowP (T : List Tk) (one : Int → PR) (wd : ByteArray) (op : Int) : Nat → Int → List It → PR
  | 0, i, out => .ok out i
  | k + 1, i, out => if isTk T i 2 wd then (one (i + 1)).also fun o a => rowP T one wd op k a (out ++ o ++ [item op (tkAt T i)]) else .ok out i
def rowsP (T : List Tk) (one : Int → PR) (wd : ByteArray) (op : Int) (i : Int) : PR := (one i).also fun o a => rowP T one wd op (T.length + 1) a o

def wAnd : ByteArray := ⟨#[97, 110, 100]⟩
def wOr : ByteArray := ⟨#[111, 114]⟩
def wImplies : ByteArray := ⟨#[105, 109, 112, 108, 105, 101, 115]⟩
def wNot : ByteArray := ⟨#[110, 111, 116]⟩
def wOpen : ByteArray := ⟨#[111, 112, 101, 110]⟩
def wDone : ByteArray := ⟨#[100, 111, 110, 101]⟩
def wTrue : ByteArray := ⟨#[116, 114, 117, 101]⟩
def wFalse : ByteArray := ⟨#[102, 97, 108, 115, 101]⟩
def wCan : ByteArray := ⟨#[99, 97, 110]⟩
def wDid : ByteArray := ⟨#[100, 105, 100]⟩
def wComplete : ByteArray := ⟨#[99, 111, 109, 112, 108, 101, 116, 101]⟩
def wStuck : ByteArray := ⟨#[115, 116, 117, 99, 107]⟩
def wA : ByteArray := ⟨#[65]⟩
def wE : ByteArray := ⟨#[69]⟩
def wU : ByteArray := ⟨#[85]⟩
def sOpen : ByteArray := ⟨#[40]⟩
def sClose : ByteArray := ⟨#[41]⟩
def sBegin : ByteArray := ⟨#[91]⟩
def sEnd : ByteArray := ⟨#[93]⟩

/-- the Op of a word that is put ahead; 0: it is none -/
def tempN (s : ByteArray) : Int :=
  if s = ⟨#[65, 88]⟩ then 19 else if s = ⟨#[69, 88]⟩ then 20 else if s = ⟨#[65, 70]⟩ then 21 else if s = ⟨#[69, 70]⟩ then 22 else if s = ⟨#[65, 71]⟩ then 23 else if s = ⟨#[69, 71]⟩ then 24 else 0
/-- the Op of a sign of a comparison; 0: it is none -/
def compN (T : List Tk) (i : Int) : Int :=
  if (tkAt T i).kind ≠ 4 then 0
  else if (tkAt T i).text = ⟨#[60]⟩ then 3 else if (tkAt T i).text = ⟨#[60, 61]⟩ then 4 else if (tkAt T i).text = ⟨#[62]⟩ then 5 else if (tkAt T i).text = ⟨#[62, 61]⟩ then 6 else if (tkAt T i).text = ⟨#[61]⟩ then 7 else if (tkAt T i).text = ⟨#[33, 61]⟩ then 8 else 0

def isWord (t : Tk) : Bool := decide (t.kind = 1) || decide (t.kind = 3)
def wordName (t : Tk) : ByteArray := if t.kind = 1 then t.text else ⟨#[]⟩
def wordNum (t : Tk) : Int := if t.kind = 1 then 0 else t.num
def compP (T : List Tk) (i : Int) : PR :=
  if isWord (tkAt T i) then
    (if compN T (i + 1) = 0 then badP T (i + 1) 4
    else if isWord (tkAt T (i + 2)) then .ok [⟨compN T (i + 1), wordName (tkAt T i), wordNum (tkAt T i), wordName (tkAt T (i + 2)), wordNum (tkAt T (i + 2)), ⟨#[]⟩, ⟨#[]⟩, (tkAt T i).line, (tkAt T i).col⟩] (i + 3)
    else badP T (i + 2) 4)
  else badP T i 4
def namedP (T : List Tk) (i : Int) (op : Int) : PR :=
  if (tkAt T (i + 1)).kind = 1 then .ok [⟨op, ⟨#[]⟩, 0, ⟨#[]⟩, 0, (tkAt T (i + 1)).text, ⟨#[]⟩, (tkAt T (i + 1)).line, (tkAt T (i + 1)).col⟩] (i + 2) else badP T (i + 1) 4
def didP (T : List Tk) (i : Int) : PR :=
  if (tkAt T (i + 1)).kind = 1 then
    (if (tkAt T (i + 2)).kind = 1 then .ok [⟨12, ⟨#[]⟩, 0, ⟨#[]⟩, 0, (tkAt T (i + 2)).text, (tkAt T (i + 1)).text, (tkAt T (i + 1)).line, (tkAt T (i + 1)).col⟩] (i + 3) else badP T (i + 2) 4)
  else badP T (i + 1) 4
def atomP (T : List Tk) (prop : Bool) (i : Int) : PR :=
  if (tkAt T i).text = wOpen then namedP T i 9
  else if (tkAt T i).text = wDone then namedP T i 10
  else if (tkAt T i).text = wTrue then .ok [item 1 (tkAt T i)] (i + 1)
  else if (tkAt T i).text = wFalse then .ok [item 2 (tkAt T i)] (i + 1)
  else if prop = false then badP T i 4
  else if (tkAt T i).text = wCan then namedP T i 11
  else if (tkAt T i).text = wDid then didP T i
  else if (tkAt T i).text = wComplete then .ok [item 13 (tkAt T i)] (i + 1)
  else if (tkAt T i).text = wStuck then .ok [item 14 (tkAt T i)] (i + 1)
  else badP T i 4

def needP (T : List Tk) (i : Int) (kind : Int) (s : ByteArray) (f : Int → PR) : PR := if isTk T i kind s then f (i + 1) else badP T i 4
/-- A or E, and what stands in brackets -/
def untilP (T : List Tk) (form : Int → PR) (op i : Int) : PR :=
  needP T (i + 1) 4 sBegin fun a => (form a).also fun o1 b => needP T b 2 wU fun c => (form c).also fun o2 d => needP T d 4 sEnd fun e => .ok (o1 ++ o2 ++ [item op (tkAt T i)]) e
/-- a sign, over what signs and formulas are one deeper -/
def signP (T : List Tk) (prop : Bool) (sg form : Int → PR) (i : Int) : PR :=
  if isTk T i 4 sOpen then (form (i + 1)).also fun o a => needP T a 4 sClose fun b => .ok o b
  else if (tkAt T i).kind ≠ 2 then compP T i
  else if (tkAt T i).text = wNot then (sg (i + 1)).also fun o a => .ok (o ++ [item 15 (tkAt T i)]) a
  else if prop = false ∧ (tempN (tkAt T i).text > 0 ∨ (tkAt T i).text = wA ∨ (tkAt T i).text = wE) then badP T i 4
  else if (tkAt T i).text = wA then untilP T form 25 i
  else if (tkAt T i).text = wE then untilP T form 26 i
  else if tempN (tkAt T i).text = 0 then atomP T prop i
  else (sg (i + 1)).also fun o a => .ok (o ++ [item (tempN (tkAt T i).text) (tkAt T i)]) a
/-- a formula, over what a sign is, and what a formula one deeper is -/
def formP (T : List Tk) (sg form : Int → PR) (i : Int) : PR :=
  (rowsP T (rowsP T sg wAnd 16) wOr 17 i).also fun o a =>
    if isTk T a 2 wImplies then (form (a + 1)).also fun o2 b => .ok (o ++ o2 ++ [item 18 (tkAt T a)]) b else .ok o a
/-- signs and formulas that may be so many deep -/
def bothP (T : List Tk) (prop : Bool) : Nat → (Int → PR) × (Int → PR)
  | 0 => (fun i => badP T i 5, fun i => badP T i 5)
  | n + 1 => (signP T prop (bothP T prop n).1 (bothP T prop n).2, formP T (signP T prop (bothP T prop n).1 (bothP T prop n).2) (bothP T prop n).2)

end Go.Proofs.Ytjmggphnngffjaa
