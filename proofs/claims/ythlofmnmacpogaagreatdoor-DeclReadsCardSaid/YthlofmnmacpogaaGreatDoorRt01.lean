/- A part of a proof of DeclReadsProof. -/
import Derived.WalkKit
import Derived.Laws.RangeAny
import Derived.Test.YthlofmnmacpogaaGreatDoorRows
import Derived.ProofKit
import Derived.WalkSpells
import Derived.WalkLawsBesides
import Derived.Deep.QuietTactic
import Derived.BigQuiet
import Derived.Lib.Hide
import Derived.OpenShut
import Derived.Lib.OthersKept
import Derived.Deep.RegionHeld3
import Derived.Deep.AppendLies
import Derived.Deep.RegionLaw
import Derived.BigRegion
set_option maxRecDepth 100000
set_option maxHeartbeats 40000000
namespace Go.Proofs.YthlofmnmacpogaaGreatDoor
open Go.RowKit
def decR (s:ByteArray) (i:Nat):Int:=if(Utf8.decode s i).1=65533∧(Utf8.decode s i).2=1 then -1 else((Utf8.decode s i).1:Int)
def decN (s:ByteArray) (i:Nat):Nat:=(Utf8.decode s i).2
theorem dec_cases (s:ByteArray) (i:Nat): ((Utf8.decode s i).2=1∧((Utf8.decode s i).1 < 128∨(Utf8.decode s i).1=65533))∨((Utf8.decode s i).2=2∧i+1 < s.size∧128≤(Utf8.decode s i).1)∨((Utf8.decode s i).2=3∧i+2 < s.size∧128≤(Utf8.decode s i).1)∨((Utf8.decode s i).2=4∧i+3 < s.size∧128≤(Utf8.decode s i).1):=by
 simp only[Utf8.decode]
 repeat' split
 all_goals simp_all [Utf8.runeError]
 all_goals omega
theorem decN_pos (s:ByteArray) (i:Nat):1≤decN s i:=by
 unfold decN
 rcases dec_cases s i with h|h|h|h <;> omega
theorem decN_le (s:ByteArray) (i:Nat) (hi:i < s.size):i+decN s i≤s.size:=by
 unfold decN
 rcases dec_cases s i with h|h|h|h <;> omega
structure Rn where
 r:Int
 fr:Nat
 to:Nat
 line:Int
 col:Int
def nextLine (r line:Int):Int:=if r=10 then line+1 else line
def nextCol (r col:Int):Int:=if r=10 then 1 else col+1
def runesAt (g:Nat→Int) (s:ByteArray):Nat→Nat→Int→Int→List Rn
 | 0,_,_,_=>[]
 | k+1,p,line,col=>
   if p < s.size then⟨g p,p,p+decN s p,line,col⟩ :: runesAt g s k (p+decN s p) (nextLine (g p) line) (nextCol (g p) col) else[]
theorem runesAt_more (g:Nat→Int) (s:ByteArray) (k p:Nat) (line col:Int) (h:s.size≤p+k):runesAt g s (k+1) p line col=runesAt g s k p line col:=by
 induction k generalizing p line col with
 | zero=>simp only[runesAt];rw[if_neg (by omega)]
 | succ k ih=>
   by_cases hp:p < s.size
   · have:=decN_pos s p
     rw[runesAt]
     conv=>rhs;rw[runesAt]
     rw[if_pos hp,if_pos hp,ih _ _ _ (by omega)]
   · rw[runesAt];conv=>rhs;rw[runesAt]
     rw[if_neg hp,if_neg hp]
theorem runesAt_eq (g:Nat→Int) (s:ByteArray) (k j p:Nat) (line col:Int) (h:s.size≤p+k) (h':s.size≤p+j):runesAt g s k p line col=runesAt g s j p line col:=by
 have key:∀ d m,s.size≤p+m→runesAt g s (m+d) p line col=runesAt g s m p line col:=by
  intro d
  induction d with
  | zero=>intro m _;rfl
  | succ d ih=>intro m hm;rw[←Nat.add_assoc,runesAt_more g s (m+d) p line col (by omega),ih m hm]
 rcases Nat.le_total k j with hkj|hkj
 · have:=key (j - k) k h;rw[show k+ (j - k)=j by omega] at this;exact this.symm
 · have:=key (k - j) j h';rw[show j+ (k - j)=k by omega] at this;exact this
def restG (g:Nat→Int) (s:ByteArray) (p:Nat) (line col:Int):List Rn:=runesAt g s (s.size - p) p line col
theorem restG_cons (g:Nat→Int) (s:ByteArray) (p:Nat) (line col:Int) (h:p < s.size) :
 restG g s p line col= ⟨g p,p,p+decN s p,line,col⟩ :: restG g s (p+decN s p) (nextLine (g p) line) (nextCol (g p) col):=by
 unfold restG
 obtain⟨k,hk⟩:∃ k,s.size - p=k+1:=⟨s.size - p - 1,by omega⟩
 rw[hk,runesAt,if_pos h]
 congr 1
 have:=decN_pos s p
 exact runesAt_eq g s _ _ _ _ _ (by omega) (by omega)
theorem restG_nil (g:Nat→Int) (s:ByteArray) (p:Nat) (line col:Int) (h:¬p < s.size):restG g s p line col= []:=by
 unfold restG
 rw[show s.size - p=0 by omega];rfl
def rawR (s:ByteArray) (i:Nat):Int:=((Utf8.decode s i).1:Int)
def Rn.fix (x:Rn):Rn:={ x with r:=if x.r=65533∧x.to=x.fr+1 then -1 else x.r }
theorem raw_ten (s:ByteArray) (i:Nat): (rawR s i=10)= (decR s i=10):=by
 unfold rawR decR
 apply propext
 split <;> omega
theorem restG_fix (s:ByteArray) (k p:Nat) (line col:Int): (runesAt (rawR s) s k p line col).map Rn.fix=runesAt (decR s) s k p line col:=by
 induction k generalizing p line col with
 | zero=>rfl
 | succ k ih=>
   simp only[runesAt]
   by_cases hp:p < s.size
   · rw[if_pos hp,if_pos hp,List.map_cons,ih]
     have e1:nextLine (rawR s p) line=nextLine (decR s p) line:=by unfold nextLine;simp only[raw_ten]
     have e2:nextCol (rawR s p) col=nextCol (decR s p) col:=by unfold nextCol;simp only[raw_ten]
     rw[e1,e2]
     congr 1
     unfold Rn.fix decR rawR decN
     simp only[Rn.mk.injEq,and_true]
     by_cases h: (Utf8.decode s p).1=65533∧(Utf8.decode s p).2=1
     · rw[if_pos h,if_pos (by omega)]
     · rw[if_neg h,if_neg (by omega)]
   · rw[if_neg hp,if_neg hp];rfl
def allR (s:ByteArray):List Rn:=restG (decR s) s 0 1 1
def allRaw (s:ByteArray):List Rn:=restG (rawR s) s 0 1 1
theorem all_fix (s:ByteArray): (allRaw s).map Rn.fix=allR s:=restG_fix s _ _ _ _
theorem restG_len (g:Nat→Int) (s:ByteArray) (p:Nat) (line col:Int): (restG g s p line col).length≤s.size - p:=by
 unfold restG
 generalize s.size - p=k
 induction k generalizing p line col with
 | zero=>simp[runesAt]
 | succ k ih=>
   simp only[runesAt]
   split
   · simp only[List.length_cons];exact Nat.succ_le_succ (ih _ _ _)
   · simp
def rnCells (k:IntKind) (x:Rn):List Value:=[.int k x.r,.int .i64 x.fr,.int .i64 x.to,.int .i64 x.line,.int .i64 x.col]
def rnFlat (k:IntKind) (l:List Rn):List Value:=l.flatMap (rnCells k)
theorem rnFlat_snoc (k:IntKind) (l:List Rn) (x:Rn):rnFlat k (l ++ [x])=rnFlat k l ++rnCells k x:=by simp[rnFlat]
theorem rnFlat_cons (k:IntKind) (x:Rn) (l:List Rn):rnFlat k (x :: l)=rnCells k x ++rnFlat k l:=by simp[rnFlat]
theorem rnFlat_get (k:IntKind) (l:List Rn) (i j:Nat) (x:Rn) (hx:l[i]?=some x) (hj:j < 5): (rnFlat k l)[i * 5+j]?= (rnCells k x)[j]?:=by
 induction l generalizing i with
 | nil=>simp at hx
 | cons y r ih=>
   rw[rnFlat_cons]
   cases i with
   | zero=>
     simp only[List.getElem?_cons_zero,Option.some.injEq] at hx
     subst hx
     rw[Nat.zero_mul,Nat.zero_add,List.getElem?_append_left (by simp[rnCells];omega)]
   | succ i=>
     rw[List.getElem?_append_right (by simp[rnCells];omega)]
     rw[show(i+1) * 5+j - (rnCells k y).length=i * 5+j by simp[rnCells];omega]
     exact ih i (by simpa using hx)
theorem rnFlat_set (k:IntKind) (l:List Rn) (i j:Nat) (x y:Rn) (v:Value) (hx:l[i]?=some x) (hj:j < 5) (hy: (rnCells k x).set j v=rnCells k y): (rnFlat k l).set (i * 5+j) v=rnFlat k (l.set i y):=by
 induction l generalizing i with
 | nil=>simp at hx
 | cons z r ih=>
   rw[rnFlat_cons]
   cases i with
   | zero=>
     simp only[List.getElem?_cons_zero,Option.some.injEq] at hx
     subst hx
     rw[Nat.zero_mul,Nat.zero_add,List.set_append_left _ _ (by simp[rnCells];omega),hy,List.set_cons_zero,rnFlat_cons]
   | succ i=>
     rw[List.set_append_right _ _ (by simp[rnCells];omega)]
     rw[show(i+1) * 5+j - (rnCells k z).length=i * 5+j by simp[rnCells];omega]
     rw[ih i (by simpa using hx),List.set_cons_succ,rnFlat_cons]
def rAt (L:List Rn) (i:Nat):Int:=match L[i]? with|some x=>x.r|none=>-1
theorem rAt_some {L:List Rn} {i:Nat} {x:Rn} (h:L[i]?=some x):rAt L i=x.r:=by unfold rAt;rw[h]
theorem rAt_none {L:List Rn} {i:Nat} (h:L.length≤i):rAt L i= -1:=by unfold rAt;rw[List.getElem?_eq_none h]
def smallB (c:Int):Bool:=decide (97≤c∧c≤122)
def greatB (c:Int):Bool:=decide (65≤c∧c≤90)
def digitB (c:Int):Bool:=decide (48≤c∧c≤57)
def blankB (c:Int):Bool:=decide (c=32∨c=9∨c=10∨c=13)
def letterB (c:Int):Bool:=smallB c || greatB c
def innerB (c:Int):Bool:=letterB c || (digitB c || decide (c=95))
def rowF (q:Int→Bool) (L:List Rn):Nat→Nat→Nat
 | 0,i=>i
 | k+1,i=>if q (rAt L i) then rowF q L k (i+1) else i
def rowE (q:Int→Bool) (L:List Rn) (i:Nat):Nat:=rowF q L (L.length - i) i
theorem rowE_yes (q:Int→Bool) (hq:q (-1)=false) (L:List Rn) (i:Nat) (h:q (rAt L i)=true):rowE q L i=rowE q L (i+1):=by
 have hi:i < L.length:=by
  by_cases hc:i < L.length
  · exact hc
  · rw[rAt_none (by omega),hq] at h;cases h
 unfold rowE
 obtain⟨k,hk⟩:∃ k,L.length - i=k+1:=⟨L.length - i - 1,by omega⟩
 rw[hk,rowF,if_pos h,show L.length - (i+1)=k by omega]
theorem rowE_no (q:Int→Bool) (L:List Rn) (i:Nat) (h:q (rAt L i)=false):rowE q L i=i:=by
 unfold rowE
 cases L.length - i with
 | zero=>rfl
 | succ k=>rw[rowF,h];rfl
theorem rowF_ge (q:Int→Bool) (L:List Rn) (k i:Nat):i≤rowF q L k i∧rowF q L k i≤i+k:=by
 induction k generalizing i with
 | zero=>simp[rowF]
 | succ k ih=>
   rw[rowF]
   split
   · have:=ih (i+1);omega
   · omega
theorem rowE_ge (q:Int→Bool) (L:List Rn) (i:Nat):i≤rowE q L i∧(i≤L.length→rowE q L i≤L.length):=by
 have:=rowF_ge q L (L.length - i) i
 unfold rowE
 exact⟨this.1,fun h=>by omega⟩
theorem rowE_all (q:Int→Bool) (L:List Rn) (i j:Nat) (h0:i≤j) (h1:j < rowE q L i):q (rAt L j)=true:=by
 have key:∀ k i,i≤j→j < rowF q L k i→q (rAt L j)=true:=by
  intro k
  induction k with
  | zero=>intro i a b;simp only[rowF] at b;omega
  | succ k ih=>
    intro i a b
    rw[rowF] at b
    by_cases hq:q (rAt L i)=true
    · rw[if_pos hq] at b
      by_cases e:i=j
      · subst e;exact hq
      · exact ih (i+1) (by omega) b
    · rw[if_neg hq] at b;omega
 exact key _ i h0 h1
structure Tk where
 kind:Int
 text:ByteArray
 num:Int
 line:Int
 col:Int
def tkCells (x:Tk):List Value:=[.int .i64 x.kind,.string x.text,.int .i64 x.num,.int .i64 x.line,.int .i64 x.col]
def tkFlat (l:List Tk):List Value:=l.flatMap tkCells
theorem tkFlat_len (l:List Tk): (tkFlat l).length=l.length * 5:=by
 induction l with
 | nil=>rfl
 | cons x r ih=>simp only[tkFlat,List.flatMap_cons,List.length_append,List.length_cons] at *;rw[ih];simp[tkCells];omega
theorem tkFlat_snoc (l:List Tk) (x:Tk):tkFlat (l ++ [x])=tkFlat l ++tkCells x:=by simp[tkFlat]
theorem tkFlat_cons (x:Tk) (l:List Tk):tkFlat (x :: l)=tkCells x ++tkFlat l:=by simp[tkFlat]
theorem tkFlat_get (l:List Tk) (i j:Nat) (x:Tk) (hx:l[i]?=some x) (hj:j < 5): (tkFlat l)[i * 5+j]?= (tkCells x)[j]?:=by
 induction l generalizing i with
 | nil=>simp at hx
 | cons y r ih=>
   rw[tkFlat_cons]
   cases i with
   | zero=>
     simp only[List.getElem?_cons_zero,Option.some.injEq] at hx
     subst hx
     rw[Nat.zero_mul,Nat.zero_add,List.getElem?_append_left (by simp[tkCells];omega)]
   | succ i=>
     rw[List.getElem?_append_right (by simp[tkCells];omega)]
     rw[show(i+1) * 5+j - (tkCells y).length=i * 5+j by simp[tkCells];omega]
     exact ih i (by simpa using hx)
theorem tkFlat_last (l:List Tk) (j:Nat) (x y:Tk) (v:Value) (hj:j < 5) (hy: (tkCells x).set j v=tkCells y): (tkFlat (l ++ [x])).set (l.length * 5+j) v=tkFlat (l ++ [y]):=by
 rw[tkFlat_snoc,tkFlat_snoc,List.set_append_right _ _ (by rw[tkFlat_len];omega),tkFlat_len]
 rw[show l.length * 5+j - l.length * 5=j by omega,hy]
abbrev tO(x:Tk):Obj:=.cells #[.int .i64 x.kind,.string x.text,.int .i64 x.num,.int .i64 x.line,.int .i64 x.col] 48
abbrev oB1:Obj:=.cells #[.string ⟨#[110,111,116]⟩,.string ⟨#[65,88]⟩,.string ⟨#[69,88]⟩,.string ⟨#[65,70]⟩,.string ⟨#[69,70]⟩,.string ⟨#[65,71]⟩,.string ⟨#[69,71]⟩,.string ⟨#[65]⟩,.string ⟨#[69]⟩] 9
abbrev oB2:Obj:=.cells #[.string ⟨#[116,114,117,101]⟩,.string ⟨#[102,97,108,115,101]⟩,.string ⟨#[99,111,109,112,108,101,116,101]⟩,.string ⟨#[115,116,117,99,107]⟩] 9
abbrev oB3:Obj:=.cells #[.int .i64 0,.int .i64 0,.int .i64 0] 28
abbrev oB4:Obj:=.cells #[.int .i64 0,.string ⟨#[]⟩,.int .i64 0,.int .i64 0,.int .i64 0,.slice none 0 0,.string ⟨#[]⟩,.string ⟨#[]⟩,.string ⟨#[]⟩,.int .i64 0,.slice none 0 0,.bool false,.int .i64 0,.int .i64 0,.int .i64 0,.int .i64 0] 62
abbrev oB5:Obj:=.cells #[.int .i64 0,.string ⟨#[]⟩,.int .i64 0,.int .i64 0,.int .i64 0,.slice none 0 0,.string ⟨#[]⟩,.string ⟨#[]⟩,.string ⟨#[]⟩,.int .i64 0,.slice none 0 0,.bool false] 37
abbrev oB6:Obj:=.cells #[.slice none 0 0,.int .i64 0,.int .i64 0,.int .i64 0,.int .i64 0] 117
abbrev oB7:Obj:=.cells #[.string ⟨#[111,112,101,110]⟩,.string ⟨#[100,111,110,101]⟩,.string ⟨#[99,97,110]⟩,.string ⟨#[100,105,100]⟩] 9
abbrev oB8:Obj:=.cells #[.int .i64 15,.int .i64 19,.int .i64 20,.int .i64 21,.int .i64 22,.int .i64 23,.int .i64 24] 3
abbrev oB9:Obj:=.cells #[.string ⟨#[60]⟩,.string ⟨#[60,61]⟩,.string ⟨#[62]⟩,.string ⟨#[62,61]⟩,.string ⟨#[61]⟩,.string ⟨#[33,61]⟩] 9
abbrev oB10:Obj:=.cells #[.string ⟨#[110,111,116]⟩,.string ⟨#[65,88]⟩,.string ⟨#[69,88]⟩,.string ⟨#[65,70]⟩,.string ⟨#[69,70]⟩,.string ⟨#[65,71]⟩,.string ⟨#[69,71]⟩,.string ⟨#[65]⟩,.string ⟨#[69]⟩] 9 (0,0)
abbrev oB11:Obj:=.cells #[.int .i64 0,.string ⟨#[]⟩,.int .i64 0,.int .i64 0,.int .i64 0] 48
abbrev oB12:Obj:=.cells #[.int .i64 15,.int .i64 19,.int .i64 20,.int .i64 21,.int .i64 22,.int .i64 23,.int .i64 24] 3 (0,0)
abbrev oB13:Obj:=.cells #[.int .i64 1,.int .i64 2,.int .i64 13,.int .i64 14] 3
theorem Lh {p:Prop} (h:p):Hid p:=Lib.hid h
structure It where
 op:Int
 ln:ByteArray
 lnum:Int
 rn:ByteArray
 rnum:Int
 name:ByteArray
 user:ByteArray
 line:Int
 col:Int
def itCells (x:It):List Value:=[.int .i64 x.op,.string x.ln,.int .i64 x.lnum,.string x.rn,.int .i64 x.rnum,.string x.name,.string x.user,.int .i64 x.line,.int .i64 x.col]
def itFlat (l:List It):List Value:=l.flatMap itCells
theorem itFlat_snoc (l:List It) (x:It):itFlat (l ++ [x])=itFlat l ++itCells x:=by simp[itFlat]
theorem itFlat_cons (x:It) (l:List It):itFlat (x :: l)=itCells x ++itFlat l:=by simp[itFlat]
theorem itFlat_get (l:List It) (i j:Nat) (x:It) (hx:l[i]?=some x) (hj:j < 9): (itFlat l)[i * 9+j]?= (itCells x)[j]?:=by
 induction l generalizing i with
 | nil=>simp at hx
 | cons y r ih=>
   rw[itFlat_cons]
   cases i with
   | zero=>
     simp only[List.getElem?_cons_zero,Option.some.injEq] at hx
     subst hx
     rw[Nat.zero_mul,Nat.zero_add,List.getElem?_append_left (by simp[itCells];omega)]
   | succ i=>
     rw[List.getElem?_append_right (by simp[itCells];omega)]
     rw[show(i+1) * 9+j - (itCells y).length=i * 9+j by simp[itCells];omega]
     exact ih i (by simpa using hx)
def noTk:Tk:=⟨5,⟨#[]⟩,0,0,0⟩
def tkAt (T:List Tk) (i:Int):Tk:=if i < 0 then noTk else match T[i.toNat]? with|some x=>x|none=>noTk
def isTk (T:List Tk) (i:Int) (kind:Int) (s:ByteArray):Bool:=decide ((tkAt T i).kind=kind) && decide ((tkAt T i).text=s)
inductive PR where
 | ok (out:List It) (at_:Int)
 | bad (er line col:Int)
def badP (T:List Tk) (i:Int) (er:Int):PR:=.bad er (tkAt T i).line (tkAt T i).col
def PR.also (p:PR) (f:List It→Int→PR):PR:=match p with|.ok o a=>f o a|.bad e l c=>.bad e l c
def item (op:Int) (t:Tk):It:=⟨op,⟨#[]⟩,0,⟨#[]⟩,0,⟨#[]⟩,⟨#[]⟩,t.line,t.col⟩
def rowP (T:List Tk) (one:Int→PR) (wd:ByteArray) (op:Int):Nat→Int→List It→PR
 | 0,i,out=>.ok out i
 | k+1,i,out=>if isTk T i 2 wd then(one (i+1)).also fun o a=>rowP T one wd op k a (out ++o ++ [item op (tkAt T i)]) else .ok out i
def rowsP (T:List Tk) (one:Int→PR) (wd:ByteArray) (op:Int) (i:Int):PR:=(one i).also fun o a=>rowP T one wd op (T.length+1) a o
def wAnd:ByteArray:=⟨#[97,110,100]⟩
def wOr:ByteArray:=⟨#[111,114]⟩
def wImplies:ByteArray:=⟨#[105,109,112,108,105,101,115]⟩
def wNot:ByteArray:=⟨#[110,111,116]⟩
def wOpen:ByteArray:=⟨#[111,112,101,110]⟩
def wDone:ByteArray:=⟨#[100,111,110,101]⟩
def wTrue:ByteArray:=⟨#[116,114,117,101]⟩
def wFalse:ByteArray:=⟨#[102,97,108,115,101]⟩
def wCan:ByteArray:=⟨#[99,97,110]⟩
def wDid:ByteArray:=⟨#[100,105,100]⟩
def wComplete:ByteArray:=⟨#[99,111,109,112,108,101,116,101]⟩
def wStuck:ByteArray:=⟨#[115,116,117,99,107]⟩
def wA:ByteArray:=⟨#[65]⟩
def wE:ByteArray:=⟨#[69]⟩
def wU:ByteArray:=⟨#[85]⟩
def sOpen:ByteArray:=⟨#[40]⟩
def sClose:ByteArray:=⟨#[41]⟩
def sBegin:ByteArray:=⟨#[91]⟩
def sEnd:ByteArray:=⟨#[93]⟩
def tempN (s:ByteArray):Int:=
 if s= ⟨#[65,88]⟩ then 19 else if s= ⟨#[69,88]⟩ then 20 else if s= ⟨#[65,70]⟩ then 21 else if s= ⟨#[69,70]⟩ then 22 else if s= ⟨#[65,71]⟩ then 23 else if s= ⟨#[69,71]⟩ then 24 else 0
def compN (T:List Tk) (i:Int):Int:=
 if(tkAt T i).kind≠4 then 0
 else if(tkAt T i).text= ⟨#[60]⟩ then 3 else if(tkAt T i).text= ⟨#[60,61]⟩ then 4 else if(tkAt T i).text= ⟨#[62]⟩ then 5 else if(tkAt T i).text= ⟨#[62,61]⟩ then 6 else if(tkAt T i).text= ⟨#[61]⟩ then 7 else if(tkAt T i).text= ⟨#[33,61]⟩ then 8 else 0
def isWord (t:Tk):Bool:=decide (t.kind=1) || decide (t.kind=3)
def wordName (t:Tk):ByteArray:=if t.kind=1 then t.text else⟨#[]⟩
def wordNum (t:Tk):Int:=if t.kind=1 then 0 else t.num
def compP (T:List Tk) (i:Int):PR:=
 if isWord (tkAt T i) then
  (if compN T (i+1)=0 then badP T (i+1) 4
  else if isWord (tkAt T (i+2)) then .ok [⟨compN T (i+1),wordName (tkAt T i),wordNum (tkAt T i),wordName (tkAt T (i+2)),wordNum (tkAt T (i+2)),⟨#[]⟩,⟨#[]⟩,(tkAt T i).line,(tkAt T i).col⟩] (i+3)
  else badP T (i+2) 4)
 else badP T i 4
def namedP (T:List Tk) (i:Int) (op:Int):PR:=
 if(tkAt T (i+1)).kind=1 then .ok [⟨op,⟨#[]⟩,0,⟨#[]⟩,0,(tkAt T (i+1)).text,⟨#[]⟩,(tkAt T (i+1)).line,(tkAt T (i+1)).col⟩] (i+2) else badP T (i+1) 4
def didP (T:List Tk) (i:Int):PR:=
 if(tkAt T (i+1)).kind=1 then
  (if(tkAt T (i+2)).kind=1 then .ok [⟨12,⟨#[]⟩,0,⟨#[]⟩,0,(tkAt T (i+2)).text,(tkAt T (i+1)).text,(tkAt T (i+1)).line,(tkAt T (i+1)).col⟩] (i+3) else badP T (i+2) 4)
 else badP T (i+1) 4
def atomP (T:List Tk) (prop:Bool) (i:Int):PR:=
 if(tkAt T i).text=wOpen then namedP T i 9
 else if(tkAt T i).text=wDone then namedP T i 10
 else if(tkAt T i).text=wTrue then .ok [item 1 (tkAt T i)] (i+1)
 else if(tkAt T i).text=wFalse then .ok [item 2 (tkAt T i)] (i+1)
 else if prop=false then badP T i 4
 else if(tkAt T i).text=wCan then namedP T i 11
 else if(tkAt T i).text=wDid then didP T i
 else if(tkAt T i).text=wComplete then .ok [item 13 (tkAt T i)] (i+1)
 else if(tkAt T i).text=wStuck then .ok [item 14 (tkAt T i)] (i+1)
 else badP T i 4
def needP (T:List Tk) (i:Int) (kind:Int) (s:ByteArray) (f:Int→PR):PR:=if isTk T i kind s then f (i+1) else badP T i 4
def untilP (T:List Tk) (form:Int→PR) (op i:Int):PR:=
 needP T (i+1) 4 sBegin fun a=>(form a).also fun o1 b=>needP T b 2 wU fun c=>(form c).also fun o2 d=>needP T d 4 sEnd fun e=>.ok (o1 ++o2 ++ [item op (tkAt T i)]) e
def signP (T:List Tk) (prop:Bool) (sg form:Int→PR) (i:Int):PR:=
 if isTk T i 4 sOpen then(form (i+1)).also fun o a=>needP T a 4 sClose fun b=>.ok o b
 else if(tkAt T i).kind≠2 then compP T i
 else if(tkAt T i).text=wNot then(sg (i+1)).also fun o a=>.ok (o ++ [item 15 (tkAt T i)]) a
 else if prop=false∧(tempN (tkAt T i).text > 0∨(tkAt T i).text=wA∨(tkAt T i).text=wE) then badP T i 4
 else if(tkAt T i).text=wA then untilP T form 25 i
 else if(tkAt T i).text=wE then untilP T form 26 i
 else if tempN (tkAt T i).text=0 then atomP T prop i
 else(sg (i+1)).also fun o a=>.ok (o ++ [item (tempN (tkAt T i).text) (tkAt T i)]) a
def formP (T:List Tk) (sg form:Int→PR) (i:Int):PR:=
 (rowsP T (rowsP T sg wAnd 16) wOr 17 i).also fun o a=>
   if isTk T a 2 wImplies then(form (a+1)).also fun o2 b=>.ok (o ++o2 ++ [item 18 (tkAt T a)]) b else .ok o a
def bothP (T:List Tk) (prop:Bool):Nat→(Int→PR) × (Int→PR)
 | 0=>(fun i=>badP T i 5,fun i=>badP T i 5)
 | n+1=>(signP T prop (bothP T prop n).1 (bothP T prop n).2,formP T (signP T prop (bothP T prop n).1 (bothP T prop n).2) (bothP T prop n).2)
theorem ret_int {k:IntKind} {a b:Int} (h:a=b):Ending.returned (.int k a)=.returned (.int k b):=by rw[h]
theorem ret_bool {a b:Bool} (h:a=b):Ending.returned (.bool a)=.returned (.bool b):=by rw[h]
def Reads (w:World) (v:Value) (xs:List Value):Prop:=
 (∃ ad cap,v=.slice ad 0 cap∧xs= [])∨∃ b off cap,v=.slice (some ⟨b,off,none⟩) xs.length cap∧b < w.heap.size∧xs.length≤maxLen∧∀ t x,xs[t]?=some x→w.cell? ⟨b,off+t,none⟩ = some x
theorem owns_mono {w:World} {base base':Nat} {e:TypeId} {sz:Nat} {v:Value} {n:Nat} {xs:List Value} (h:w.ownsRow base e sz v n xs) (hb:base'≤base):w.ownsRow base' e sz v n xs:=by
 refine⟨h.1,?_⟩
 rcases h.2 with h0| ⟨g,cap,cur,hv,hbb,r⟩
 · exact .inl h0
 · exact .inr ⟨g,cap,cur,hv,by omega,r⟩
theorem owns_below {w w':World} {base:Nat} {e:TypeId} {sz:Nat} {v:Value} {n:Nat} {xs:List Value} (h:w.ownsRow base e sz v n xs) (hb:Below w.heap.size w w'):w'.ownsRow base e sz v n xs:=
 h.kept (row:=none) ⟨hb.os,hb.tape,hb.output,hb.size,fun k hk _=>hb.block k hk⟩ (by cases hv:v.ownBlock <;> simp)
theorem below_of_grown {w w':World} {base:Nat} {row:Option Nat} (hg:w.grownBy w' row) (hr:∀ k,row=some k→base≤k) (hb:base≤w.heap.size):Below base w w':=
 (Below.refl base w).grown hg hb hr
theorem app1 {P:Program} {ops:Array Oper} {rest:List Oper} {o:Oper} {a:Act} {Q:Exit→Act→World→Prop} (w0:World) (us:Array Value) (hgd:o.guard=none) (s x:Operand) (t:TypeId)
 (ho:o.op=.call { callee:=.builtin .append,args:=#[s,x],argTypes:=#[t,t] })
 (base:Nat) (e:TypeId) (z:Value) (size bytes:Nat) (ht:P.underlying t=some (.slice e)) (hinfo: (P.info? e).map (fun i=>(i.zero,i.size,i.bytes))=some (some z,size,bytes))
 (hzs:z.cells.size=size) (hsz:0 < size) (hby:0 < bytes)
 (v:Value) (n:Nat) (xs:List Value) (hs:a.eval s=v) (hown:w0.ownsRow base e size v n xs)
 {z0:Nat} (hx:a.eval x=.slice (some ⟨z0,0,none⟩) 1 1) (hz0:z0=w0.heap.size) (hl:us.size=size) (h1:∀ u ∈ us.toList,u.oneCell'=true)
 (hbytes: (n+1) * bytes≤140737488355328) (hbase:base≤w0.heap.size)
 (h:∀ v' w',w'.ownsRow base e size v' (n+1) (xs ++us.toList)→w0.grownBy w' v.ownBlock→Below base w0 w'→wpList P ops Q rest (a.put o.dst v') w') :
 wpList P ops Q (o :: rest) a (w0.alloc (.cells us e)):=by
 subst hz0
 obtain⟨i,hi,hz0,hz1,hz2⟩:=info_parts hinfo
 have h63:n+1≤maxLen:=by
  have: (n+1) * 1≤(n+1) * bytes:=Nat.mul_le_mul_left _ hby
  unfold maxLen;omega
 refine wpList_append_own _ hgd s x t ho base e i z size bytes ht hi hz0 hz1 hz2 hzs hsz v n xs hs (hown.alloc _) ⟨w0.heap.size,0,none⟩ 1 1 us.toList hx (by simp[hl]) ?_ h1 h63 hbytes (by simp;omega) ?_
 · intro j u hj
   have: (⟨w0.heap.size,0,none⟩:Addr).add j= ⟨w0.heap.size,j,none⟩:=by unfold Addr.add;split <;> simp_all
   rw[this,World.cell?_alloc_at _ _ _ _ rfl]
   simpa using hj
 · intro v' w' hown' hg _
   have hg0:w0.grownBy w' v.ownBlock:=by
    refine⟨hg.os,hg.tape,hg.output,Nat.le_trans (by simp) hg.size,fun k hk hne=>?_⟩
    rw[hg.block k (by simp;omega) hne]
    exact Below.heap_alloc w0 _ k hk
   exact h v' w' hown' hg0 (below_of_grown hg0 (fun k hk=>(hown.lt k hk).1) hbase)
theorem owns_shape {w:World} {base:Nat} {e:TypeId} {sz:Nat} {v:Value} {n:Nat} {xs:List Value} (h:w.ownsRow base e sz v n xs) (hn:0 < n) :
 ∃ g cap,v=.slice (some ⟨g,0,none⟩) n cap∧base≤g∧g < w.heap.size:=by
 rcases h.2 with⟨_,h0⟩ | ⟨g,cap,cur,hv,hb,hg,_⟩
 · omega
 · exact⟨g,cap,hv,hb,(Array.getElem?_eq_some_iff.1 hg).1⟩
theorem owns_len {w:World} {base:Nat} {e:TypeId} {sz:Nat} {v:Value} {n:Nat} {xs:List Value} (h:w.ownsRow base e sz v n xs):∃ ad cap,v=.slice ad n cap:=by
 rcases h.2 with⟨rfl,h0⟩ | ⟨g,cap,cur,rfl,_⟩
 · exact⟨none,0,by rw[h0]⟩
 · exact⟨_,_,rfl⟩
theorem row_apart {w:World} {base:Nat} {e t:TypeId} {sz:Nat} {v:Value} {n k:Nat} {xs:List Value} {cs:Array Value} {fr:Nat × Nat} (h:w.ownsRow base e sz v n xs) (hk:w.heap[k]?=some (.cells cs t fr)) (hne:t≠e):v.ownBlock≠some k:=by
 rcases h.2 with⟨rfl,_⟩ | ⟨g,cap,cur,rfl,_,hg,_⟩
 · simp[Value.ownBlock]
 · intro hgk
   simp[Value.ownBlock] at hgk
   subst hgk
   rw[hk] at hg
   simp at hg
   exact hne hg.2.1
theorem row_store {w:World} {base:Nat} {e t:TypeId} {sz:Nat} {v:Value} {n k:Nat} {xs:List Value} {cs:Array Value} {fr:Nat × Nat} (h:w.ownsRow base e sz v n xs) (hk:w.heap[k]?=some (.cells cs t fr)) (hne:t≠e) (j:Nat) (u:Value) :
 (w.setCell ⟨k,j,none⟩ u).ownsRow base e sz v n xs:=by
 have hnb:=row_apart h hk hne
 refine⟨h.1,?_⟩
 rcases h.2 with hn| ⟨g,cap,cur,hv,hBg,hgg,r⟩
 · exact .inl hn
 · exact .inr ⟨g,cap,cur,hv,hBg,(Below.heap_setCell _ _ _ _ (by show g≠k;intro e';exact hnb (by rw[hv,e'];rfl))).trans hgg,r⟩
theorem bytes_beq (x s:ByteArray): (x.toList == s.toList)=decide (x=s):=by
 rw[Bool.eq_iff_iff,decide_eq_true_iff,beq_iff_eq,ByteArray.toList_eq,ByteArray.toList_eq]
 exact⟨fun h=>ByteArray.ext (Array.ext' h),fun h=>by rw[h]⟩
def tokV (x:Tk):Value:=.agg #[.int .i64 x.kind,.string x.text,.int .i64 x.num,.int .i64 x.line,.int .i64 x.col]
def TkIn (w:World) (B:Nat) (v:Value) (T:List Tk):Prop:=
 ∃ ad cap,v=.slice ad T.length cap∧T.length≤1000000∧(T= []∨∃ g off,ad=some ⟨g,off,none⟩∧g < B∧g < w.heap.size∧∀ (k:Nat) (x:Tk),T[k]?=some x→w.cell? ⟨g,off+k * 5,none⟩ = some (.int .i64 x.kind)∧w.cell? ⟨g,off+k * 5+1,none⟩ = some (.string x.text)∧
  w.cell? ⟨g,off+k * 5+2,none⟩ = some (.int .i64 x.num)∧w.cell? ⟨g,off+k * 5+3,none⟩ = some (.int .i64 x.line)∧w.cell? ⟨g,off+k * 5+4,none⟩ = some (.int .i64 x.col))
theorem TkIn.below {w w':World} {B:Nat} {v:Value} {T:List Tk} (h:TkIn w B v T) (hb:Below B w w'):TkIn w' B v T:=by
 obtain⟨ad,cap,hv,hl,h⟩:=h
 refine⟨ad,cap,hv,hl,?_⟩
 rcases h with h| ⟨g,off,ha,hg,hgw,hc⟩
 · exact .inl h
 · refine .inr ⟨g,off,ha,hg,?_,fun k x hx=>?_⟩
   · have e:=hb.block g hg
     have h1:w.heap[g]?=some w.heap[g]:=Array.getElem?_eq_getElem hgw
     rw[h1] at e
     exact(Array.getElem?_eq_some_iff.1 e).1
   · obtain⟨a,b,c,d,e⟩:=hc k x hx
     exact⟨(hb.cell (p:=⟨g,off+k * 5,none⟩) hg).trans a,(hb.cell (p:=⟨g,off+k * 5+1,none⟩) hg).trans b,(hb.cell (p:=⟨g,off+k * 5+2,none⟩) hg).trans c,(hb.cell (p:=⟨g,off+k * 5+3,none⟩) hg).trans d,(hb.cell (p:=⟨g,off+k * 5+4,none⟩) hg).trans e⟩
structure Cr (w:World) (B b:Nat) (lv:Value) (T:List Tk) (i:Int) (prop:Bool) (ov:Value) (O:List It) (er line col:Int):Prop where
 blk:w.heap[b]?=some (.cells #[lv,.int .i64 i,.bool prop,ov,.int .i64 er,.int .i64 line,.int .i64 col] 137 (0,0))
 low:B≤b
 tk:TkIn w B lv T
 out:w.ownsRow B 87 9 ov O.length (itFlat O)
theorem Cr.lt {w:World} {B b:Nat} {lv:Value} {T:List Tk} {i:Int} {prop:Bool} {ov:Value} {O:List It} {er line col:Int} (h:Cr w B b lv T i prop ov O er line col):b < w.heap.size:=(Array.getElem?_eq_some_iff.1 h.blk).1
theorem Cr.facts {w:World} {B b:Nat} {lv:Value} {T:List Tk} {i:Int} {prop:Bool} {ov:Value} {O:List It} {er line col:Int} (h:Cr w B b lv T i prop ov O er line col) :
 w.cell? ⟨b,0,none⟩ = some lv∧w.cell? ⟨b,1,none⟩ = some (.int .i64 i)∧w.cell? ⟨b,2,none⟩ = some (.bool prop)∧w.cell? ⟨b,3,none⟩ = some ov∧w.cell? ⟨b,4,none⟩ = some (.int .i64 er)∧w.cell? ⟨b,5,none⟩ = some (.int .i64 line)∧w.cell? ⟨b,6,none⟩ = some (.int .i64 col):=by
 have hb:=h.blk
 refine⟨?_,?_,?_,?_,?_,?_,?_⟩ <;> simp[World.cell?,hb]
theorem Cr.free {w:World} {B b:Nat} {lv:Value} {T:List Tk} {i:Int} {prop:Bool} {ov:Value} {O:List It} {er line col:Int} (h:Cr w B b lv T i prop ov O er line col) :
 w.frozen? ⟨b,1,none⟩ = false∧w.frozen? ⟨b,3,none⟩ = false∧w.frozen? ⟨b,4,none⟩ = false∧w.frozen? ⟨b,5,none⟩ = false∧w.frozen? ⟨b,6,none⟩ = false:=by
 have hb:=h.blk
 refine⟨?_,?_,?_,?_,?_⟩ <;> simp[World.frozen?,hb]
theorem Cr.keep {w w':World} {B b:Nat} {lv:Value} {T:List Tk} {i:Int} {prop:Bool} {ov:Value} {O:List It} {er line col:Int} (h:Cr w B b lv T i prop ov O er line col) (hb:Below w.heap.size w w') (hB:B≤w.heap.size):Cr w' B b lv T i prop ov O er line col:=
 ⟨(hb.block b h.lt).trans h.blk,h.low,h.tk.below (hb.mono hB),owns_below h.out hb⟩
theorem Cr.moved {w:World} {B b:Nat} {lv:Value} {T:List Tk} {i:Int} {prop:Bool} {ov:Value} {O:List It} {er line col:Int} (h:Cr w B b lv T i prop ov O er line col) (j:Int):Cr (w.setCell ⟨b,1,none⟩ (.int .i64 j)) B b lv T j prop ov O er line col:=
 ⟨heap_setCell_same w b 1 _ _ _ h.blk,h.low,h.tk.below ((Below.refl B w).setCell (p:=⟨b,1,none⟩) h.low _),row_store h.out h.blk (by decide) _ _⟩
theorem Cr.failed {w:World} {B b:Nat} {lv:Value} {T:List Tk} {i:Int} {prop:Bool} {ov:Value} {O:List It} {er line col:Int} (h:Cr w B b lv T i prop ov O er line col) (e l c:Int) :
 Cr (((w.setCell ⟨b,4,none⟩ (.int .i64 e)).setCell ⟨b,5,none⟩ (.int .i64 l)).setCell ⟨b,6,none⟩ (.int .i64 c)) B b lv T i prop ov O e l c:=by
 have h1:=heap_setCell_same w b 4 _ _ (.int .i64 e) h.blk
 have h2:=heap_setCell_same _ b 5 _ _ (.int .i64 l) h1
 have h3:=heap_setCell_same _ b 6 _ _ (.int .i64 c) h2
 refine⟨h3,h.low,h.tk.below ((((Below.refl B w).setCell (p:=⟨b,4,none⟩) h.low _).setCell (p:=⟨b,5,none⟩) h.low _).setCell (p:=⟨b,6,none⟩) h.low _),?_⟩
 exact row_store (row_store (row_store h.out h.blk (by decide) _ _) h1 (by decide) _ _) h2 (by decide) _ _
structure CTook (w w':World) (B b:Nat) (lv:Value) (T:List Tk) (i:Int) (prop:Bool) (ov:Value) (O:List It) (er line col:Int):Prop where
 rd:Cr w' B b lv T i prop ov O er line col
 low:Below B w w'
 kept:Lib.OthersKept 87 (some b) w w'
theorem TkIn.at {w:World} {B:Nat} {v:Value} {T:List Tk} (h:TkIn w B v T) {k:Nat} {x:Tk} (hx:T[k]?=some x) :
 ∃ g off cap,v=.slice (some ⟨g,off,none⟩) T.length cap∧g < B∧g < w.heap.size∧w.cell? ⟨g,off+k * 5,none⟩ = some (.int .i64 x.kind)∧w.cell? ⟨g,off+k * 5+1,none⟩ = some (.string x.text)∧
  w.cell? ⟨g,off+k * 5+2,none⟩ = some (.int .i64 x.num)∧w.cell? ⟨g,off+k * 5+3,none⟩ = some (.int .i64 x.line)∧w.cell? ⟨g,off+k * 5+4,none⟩ = some (.int .i64 x.col):=by
 obtain⟨ad,cap,rfl,_,h⟩:=h
 rcases h with rfl| ⟨g,off,rfl,hg,hgw,hc⟩
 · simp at hx
 · exact⟨g,off,cap,rfl,hg,hgw,hc k x hx⟩
theorem below_tok {w0 w:World} {B k:Nat} (h:Below B w0 w) (hk:B≤k) (a b c d e:Value):Below B w0 (((((w.setCell ⟨k,0,none⟩ a).setCell ⟨k,1,none⟩ b).setCell ⟨k,2,none⟩ c).setCell ⟨k,3,none⟩ d).setCell ⟨k,4,none⟩ e):=
 ((((h.setCell (p:=⟨k,0,none⟩) hk _).setCell (p:=⟨k,1,none⟩) hk _).setCell (p:=⟨k,2,none⟩) hk _).setCell (p:=⟨k,3,none⟩) hk _).setCell (p:=⟨k,4,none⟩) hk _
theorem cell_tok {w:World} {g k j:Nat} {v:Value} (a b c d e:Value) (hne:g≠k) (h:w.cell? ⟨g,j,none⟩ = some v): (((((w.setCell ⟨k,0,none⟩ a).setCell ⟨k,1,none⟩ b).setCell ⟨k,2,none⟩ c).setCell ⟨k,3,none⟩ d).setCell ⟨k,4,none⟩ e).cell? ⟨g,j,none⟩ = some v:=by
 have e1: (((((w.setCell ⟨k,0,none⟩ a).setCell ⟨k,1,none⟩ b).setCell ⟨k,2,none⟩ c).setCell ⟨k,3,none⟩ d).setCell ⟨k,4,none⟩ e).heap[g]?=w.heap[g]?:=by
  rw[Below.heap_setCell _ _ _ _ (by show g≠k;exact hne),Below.heap_setCell _ _ _ _ (by show g≠k;exact hne),Below.heap_setCell _ _ _ _ (by show g≠k;exact hne),Below.heap_setCell _ _ _ _ (by show g≠k;exact hne),Below.heap_setCell _ _ _ _ (by show g≠k;exact hne)]
 exact(World.cell?_of_block (a:=⟨g,j,none⟩) e1).trans h
theorem old_cell {w:World} {g j:Nat} {v:Value} (o:Obj) (n:Nat) (hg:g < w.heap.size) (h:w.cell? ⟨g,j,none⟩ = some v): ((w.alloc o).drewN n).cell? ⟨g,j,none⟩ = some v:=
 ((below_drewN ((Below.refl w.heap.size w).alloc (Nat.le_refl _) o) n).cell (p:=⟨g,j,none⟩) hg).trans h
theorem tkAt_some {T:List Tk} {k:Nat} {x:Tk} (h:T[k]?=some x):tkAt T k=x:=by
 unfold tkAt;rw[if_neg (by omega),Int.toNat_natCast,h]
theorem tkAt_far {T:List Tk} {k:Nat} (h:T.length≤k):tkAt T k=noTk:=by
 unfold tkAt;rw[if_neg (by omega),Int.toNat_natCast,List.getElem?_eq_none h]
theorem now_any {w:World} {B b:Nat} {lv:Value} {T:List Tk} {i:Int} {prop:Bool} {ov:Value} {O:List It} {er line col:Int} (h:Cr w B b lv T i prop ov O er line col) :
 Calls Tryz.prog 103 #[.pointer (some ⟨b,0,none⟩)] w fun e w'=>e=.returned (tokV (tkAt T i))∧Below w.heap.size w w':=by
 obtain⟨c0,c1,_,_,_,_,_⟩:=h.facts
 obtain⟨ad,cap,hv,hl,_⟩:=h.tk
 have hbl:=h.lt
 by_cases hneg:i < 0
 · have HN:Hid (tkAt T i=noTk):=by unfold Hid tkAt;rw[if_pos hneg]
   have hnd:decide (i < 0)=true:=decide_eq_true hneg
   rw[hv] at c0
   clear h hv hneg
   go_enter Tryz.func103,Tryz.ntmps103
   go_wp2
   go_quiet (fail)
   go_wp2
   exact bodyPost_ret (v:=.agg #[.int .i64 5,.string ⟨#[]⟩,.int .i64 0,.int .i64 0,.int .i64 0]) (by simp[results,Tryz.results103,go_sem]) rfl ⟨by rw[HN.out];rfl,below_tok (below_drewN ((Below.refl _ _).alloc (Nat.le_refl _) _) _) (Nat.le_refl _) _ _ _ _ _⟩
 · obtain⟨k,rfl⟩:=Int.eq_ofNat_of_zero_le (Int.not_lt.1 hneg)
   have hnd:decide ((k:Int) < 0)=false:=decide_eq_false (by omega)
   clear hneg
   by_cases hlt:k < T.length
   · obtain⟨x,hx⟩:∃ x,T[k]?=some x:=⟨_,List.getElem?_eq_getElem hlt⟩
     have HN:=Lh (tkAt_some hx)
     obtain⟨g,off,cap2,hv2,hgB,hgw,x0,x1,x2,x3,x4⟩:=h.tk.at hx
     rw[hv2] at c0
     have hkz:decide ((T.length:Int)≤(k:Int))=false:=decide_eq_false (by omega)
     have hk2: (k:Int) < (T.length:Int):=by omega
     clear h hv hv2 hx
     go_enter Tryz.func103,Tryz.ntmps103
     go_wp2
     go_quiet (fail)
     go_wp2
     have f0:=cell_tok (.int .i64 x.kind) (.string x.text) (.int .i64 x.num) (.int .i64 x.line) (.int .i64 x.col) (k:=w.heap.size) (Nat.ne_of_lt hbl) (old_cell oB11 (nq+1) hbl c0)
     have f1:=cell_tok (.int .i64 x.kind) (.string x.text) (.int .i64 x.num) (.int .i64 x.line) (.int .i64 x.col) (k:=w.heap.size) (Nat.ne_of_lt hbl) (old_cell oB11 (nq+1) hbl c1)
     have f2:=cell_tok (.int .i64 x.kind) (.string x.text) (.int .i64 x.num) (.int .i64 x.line) (.int .i64 x.col) (k:=w.heap.size) (Nat.ne_of_lt hgw) (old_cell oB11 (nq+1) hgw x0)
     have f3:=cell_tok (.int .i64 x.kind) (.string x.text) (.int .i64 x.num) (.int .i64 x.line) (.int .i64 x.col) (k:=w.heap.size) (Nat.ne_of_lt hgw) (old_cell oB11 (nq+1) hgw x1)
     have f4:=cell_tok (.int .i64 x.kind) (.string x.text) (.int .i64 x.num) (.int .i64 x.line) (.int .i64 x.col) (k:=w.heap.size) (Nat.ne_of_lt hgw) (old_cell oB11 (nq+1) hgw x2)
     have f5:=cell_tok (.int .i64 x.kind) (.string x.text) (.int .i64 x.num) (.int .i64 x.line) (.int .i64 x.col) (k:=w.heap.size) (Nat.ne_of_lt hgw) (old_cell oB11 (nq+1) hgw x3)
     have f6:=cell_tok (.int .i64 x.kind) (.string x.text) (.int .i64 x.num) (.int .i64 x.line) (.int .i64 x.col) (k:=w.heap.size) (Nat.ne_of_lt hgw) (old_cell oB11 (nq+1) hgw x4)
     go_region_held3 (fun w'=>w'.cell? ⟨b,0,none⟩ = some (.slice (some ⟨g,off,none⟩) T.length cap2)∧w'.cell? ⟨b,1,none⟩ = some (.int .i64 k)∧w'.cell? ⟨g,off+k * 5,none⟩ = some (.int .i64 x.kind)∧w'.cell? ⟨g,off+k * 5+1,none⟩ = some (.string x.text)∧w'.cell? ⟨g,off+k * 5+2,none⟩ = some (.int .i64 x.num)∧w'.cell? ⟨g,off+k * 5+3,none⟩ = some (.int .i64 x.line)∧w'.cell? ⟨g,off+k * 5+4,none⟩ = some (.int .i64 x.col))
      (first|go_keep|exact⟨f0,f1,f2,f3,f4,f5,f6⟩ | (refine⟨?_,?_,?_,?_,?_,?_,?_⟩ <;> assumption))
      (first|fail)
     go_wp2
     exact bodyPost_ret (v:=tokV x) (by simp[results,Tryz.results103,go_sem,tokV]) rfl ⟨by rw[HN.out],below_tok (below_drewN ((Below.refl _ _).alloc (Nat.le_refl _) _) _) (Nat.le_refl _) _ _ _ _ _⟩
   · have HN:=Lh (tkAt_far (T:=T) (k:=k) (by omega))
     rw[hv] at c0
     have hkz: (T.length:Int)≤(k:Int):=by omega
     have hkn:T.length≤k:=by omega
     clear h hv hlt
     go_enter Tryz.func103,Tryz.ntmps103
     go_wp2
     go_quiet (fail)
     go_wp2
     exact bodyPost_ret (v:=.agg #[.int .i64 5,.string ⟨#[]⟩,.int .i64 0,.int .i64 0,.int .i64 0]) (by simp[results,Tryz.results103,go_sem]) rfl ⟨by rw[HN.out];rfl,below_tok (below_drewN ((Below.refl _ _).alloc (Nat.le_refl _) _) _) (Nat.le_refl _) _ _ _ _ _⟩
theorem is_any {w:World} {B b:Nat} {lv:Value} {T:List Tk} {i:Int} {prop:Bool} {ov:Value} {O:List It} {er line col:Int} (h:Cr w B b lv T i prop ov O er line col) (kind:Int) (s:ByteArray) :
 Calls Tryz.prog 140 #[.pointer (some ⟨b,0,none⟩),.int .i64 kind,.string s] w fun e w'=>e=.returned (.bool (isTk T i kind s))∧Below w.heap.size w w':=by
 have HR:=Lh h
 obtain⟨x,hx⟩:∃ x,tkAt T i=x:=⟨_,rfl⟩
 have HX:=Lh hx
 have HI:Hid (isTk T i kind s= (decide (x.kind=kind) && decide (x.text=s))):=by unfold Hid isTk;rw[hx]
 clear h hx
 go_enter Tryz.func140,Tryz.ntmps140
 go_wp2_with fail
 refine(now_any HR.out).mono ?_
 rintro e w1 ⟨rfl,hb1⟩
 have HB1:=Lh (hb1.alloc hb1.size (tO x))
 clear hb1
 rw[HX.out]
 unfold tokV
 by_cases hk:x.kind=kind
 · have hkb: (x.kind == kind)=true:=by rw[beq_iff_eq];exact hk
   by_cases ht:x.text=s
   · have htb: (x.text.toList == s.toList)=true:=by rw[bytes_beq];exact decide_eq_true ht
     have HF:Hid (isTk T i kind s=true):=by unfold Hid;rw[HI.out,decide_eq_true hk,decide_eq_true ht];rfl
     clear hk ht
     go_wp2
     go_ret
     exact⟨ret_bool HF.out.symm,HB1.out⟩
   · have htb: (x.text.toList == s.toList)=false:=by rw[bytes_beq];exact decide_eq_false ht
     have HF:Hid (isTk T i kind s=false):=by unfold Hid;rw[HI.out,decide_eq_false ht,Bool.and_false]
     clear hk ht
     go_wp2
     go_ret
     exact⟨ret_bool HF.out.symm,HB1.out⟩
 · have hkb: (x.kind == kind)=false:=beq_eq_false_iff_ne.2 hk
   have HF:Hid (isTk T i kind s=false):=by unfold Hid;rw[HI.out,decide_eq_false hk,Bool.false_and]
   clear hk
   go_wp2
   go_ret
   exact⟨ret_bool HF.out.symm,HB1.out⟩
theorem Cr.drew {w:World} {B b:Nat} {lv:Value} {T:List Tk} {i:Int} {prop:Bool} {ov:Value} {O:List It} {er line col:Int} (h:Cr w B b lv T i prop ov O er line col):Cr w.drew B b lv T i prop ov O er line col:=⟨h.blk,h.low,h.tk,h.out⟩
theorem CTook.of_rd {w:World} {B b:Nat} {lv:Value} {T:List Tk} {i:Int} {prop:Bool} {ov:Value} {O:List It} {er line col:Int} (h:Cr w B b lv T i prop ov O er line col):CTook w w B b lv T i prop ov O er line col:=⟨h,Below.refl _ _,Lib.OthersKept.refl _ _ _⟩
theorem kept_below {t:TypeId} {b:Option Nat} {w w':World} (h:Below w.heap.size w w'):Lib.OthersKept t b w w':=
 fun k _ hk _ _=>(h.block k (Array.getElem?_eq_some_iff.1 hk).1).trans hk
theorem CTook.then {w w1 w':World} {B b:Nat} {lv:Value} {T:List Tk} {i:Int} {prop:Bool} {ov:Value} {O:List It} {er line col:Int} (h:CTook w w1 B b lv T i prop ov O er line col) (hb:Below w1.heap.size w1 w') (hB:B≤w.heap.size):CTook w w' B b lv T i prop ov O er line col:=
 ⟨h.rd.keep hb (Nat.le_trans hB h.low.size),h.low.trans (hb.mono (Nat.le_trans hB h.low.size)),h.kept.trans (kept_below hb)⟩
theorem CTook.after {w w1 w':World} {B b:Nat} {lv:Value} {T:List Tk} {i:Int} {prop:Bool} {ov:Value} {O:List It} {er line col:Int} (h:CTook w1 w' B b lv T i prop ov O er line col) (hb:Below w.heap.size w w1) (hB:B≤w.heap.size):CTook w w' B b lv T i prop ov O er line col:=
 ⟨h.rd,(hb.mono hB).trans h.low,(kept_below hb).trans h.kept⟩
theorem CTook.moved {w w1:World} {B b:Nat} {lv:Value} {T:List Tk} {i:Int} {prop:Bool} {ov:Value} {O:List It} {er line col:Int} (h:CTook w w1 B b lv T i prop ov O er line col) (j:Int):CTook w (w1.setCell ⟨b,1,none⟩ (.int .i64 j)) B b lv T j prop ov O er line col:=
 ⟨h.rd.moved j,h.low.setCell (p:=⟨b,1,none⟩) h.rd.low _,h.kept.setCell ⟨b,1,none⟩ rfl _⟩
theorem CTook.failed {w w1:World} {B b:Nat} {lv:Value} {T:List Tk} {i:Int} {prop:Bool} {ov:Value} {O:List It} {er line col:Int} (h:CTook w w1 B b lv T i prop ov O er line col) (e l c:Int) :
 CTook w (((w1.setCell ⟨b,4,none⟩ (.int .i64 e)).setCell ⟨b,5,none⟩ (.int .i64 l)).setCell ⟨b,6,none⟩ (.int .i64 c)) B b lv T i prop ov O e l c:=
 ⟨h.rd.failed e l c,((h.low.setCell (p:=⟨b,4,none⟩) h.rd.low _).setCell (p:=⟨b,5,none⟩) h.rd.low _).setCell (p:=⟨b,6,none⟩) h.rd.low _,
   ((h.kept.setCell ⟨b,4,none⟩ rfl _).setCell ⟨b,5,none⟩ rfl _).setCell ⟨b,6,none⟩ rfl _⟩
def Taken (w:World) (B b:Nat) (lv:Value) (T:List Tk) (i:Int) (prop:Bool) (ov:Value) (O:List It) (er line col:Int) (ok:Bool) (e:Ending) (w':World):Prop:=
 e=.returned (.bool ok)∧CTook w w' B b lv T (if ok then i+1 else i) prop ov O er line col
theorem ctake_any {w:World} {B b:Nat} {lv:Value} {T:List Tk} {i:Int} {prop:Bool} {ov:Value} {O:List It} {er line col:Int} (h:Cr w B b lv T i prop ov O er line col) (hB:B≤w.heap.size) (kind:Int) (s:ByteArray) (hlo:-9223372036854775808≤i) (hhi:i≤2000000) :
 Calls Tryz.prog 122 #[.pointer (some ⟨b,0,none⟩),.int .i64 kind,.string s] w (Taken w B b lv T i prop ov O er line col (isTk T i kind s)):=by
 have HR:=Lh h
 obtain⟨ok,hok⟩:∃ ok,isTk T i kind s=ok:=⟨_,rfl⟩
 have HK:=Lh hok
 rw[hok]
 clear h hok
 go_enter Tryz.func122,Tryz.ntmps122
 go_wp2_with fail
 refine(is_any HR.out kind s).mono ?_
 rintro e w1 ⟨rfl,hb1⟩
 rw[HK.out]
 have HC:=Lh ((CTook.of_rd HR.out).then hb1 hB)
 clear hb1
 cases ok
 · go_wp2
   go_ret
   exact⟨rfl,HC.out⟩
 · obtain⟨_,c1,_,_,_,_,_⟩:=HC.out.rd.facts
   obtain⟨f1,_,_,_,_⟩:=HC.out.rd.free
   have HM:=Lh (HC.out.moved (i+1))
   go_wp2
   go_ret
   exact⟨rfl,HM.out⟩
theorem cfail_any {w:World} {B b:Nat} {lv:Value} {T:List Tk} {i:Int} {prop:Bool} {ov:Value} {O:List It} {er line col:Int} (h:Cr w B b lv T i prop ov O er line col) (hB:B≤w.heap.size) (e:Int) (h0:er=0) :
 Calls Tryz.prog 134 #[.pointer (some ⟨b,0,none⟩),.int .i64 e] w fun en w'=>en=.returned (.bool false)∧CTook w w' B b lv T i prop ov O e (tkAt T i).line (tkAt T i).col:=by
 subst h0
 have HR:=Lh h
 obtain⟨x,hx⟩:∃ x,tkAt T i=x:=⟨_,rfl⟩
 have HX:=Lh hx
 obtain⟨_,_,_,_,c4,_,_⟩:=h.facts
 rw[hx]
 clear h hx
 go_enter Tryz.func134,Tryz.ntmps134
 go_wp2_with fail
 refine(now_any HR.out).mono ?_
 rintro en w1 ⟨rfl,hb1⟩
 rw[HX.out]
 unfold tokV
 have HC:=Lh ((CTook.of_rd HR.out).then hb1 hB)
 clear hb1
 obtain⟨_,_,_,_,d4,d5,d6⟩:=HC.out.rd.facts
 obtain⟨_,_,f4,f5,f6⟩:=HC.out.rd.free
 have HM:=Lh (HC.out.failed e x.line x.col)
 have hfd:∀ w:World,(Instr.field 48 (.agg #[.int .i64 x.kind,.string x.text,.int .i64 x.num,.int .i64 x.line,.int .i64 x.col]) 3).run Tryz.prog w=.ok (.agg #[.int .i64 x.line,.int .i64 x.col]) w:=fun _=>by kernel_rfl
 go_wp2
 go_ret
 exact⟨rfl,HM.out⟩
def Needed (w:World) (B b:Nat) (lv:Value) (T:List Tk) (i:Int) (prop:Bool) (ov:Value) (O:List It) (ok:Bool) (e:Ending) (w':World):Prop:=
 e=.returned (.bool ok)∧(ok=true→∃ l c,CTook w w' B b lv T (i+1) prop ov O 0 l c)∧(ok=false→CTook w w' B b lv T i prop ov O 4 (tkAt T i).line (tkAt T i).col)
theorem need_any {w:World} {B b:Nat} {lv:Value} {T:List Tk} {i:Int} {prop:Bool} {ov:Value} {O:List It} {line col:Int} (h:Cr w B b lv T i prop ov O 0 line col) (hB:B≤w.heap.size) (kind:Int) (s:ByteArray) (hlo:-9223372036854775808≤i) (hhi:i≤2000000) :
 Calls Tryz.prog 135 #[.pointer (some ⟨b,0,none⟩),.int .i64 kind,.string s] w (Needed w B b lv T i prop ov O (isTk T i kind s)):=by
 have HR:=Lh h
 obtain⟨ok,hok⟩:∃ ok,isTk T i kind s=ok:=⟨_,rfl⟩
 have HK:=Lh hok
 rw[hok]
 clear h hok
 go_enter Tryz.func135,Tryz.ntmps135
 go_wp2_with fail
 refine(ctake_any HR.out hB kind s hlo hhi).mono ?_
 rw[HK.out]
 rintro e w1 ⟨rfl,hc⟩
 have HC:=Lh hc
 clear hc
 cases ok
 · have HC0:=Lh (show CTook w w1 B b lv T i prop ov O 0 line col from HC.out)
   go_wp2_with fail
   refine(cfail_any HC0.out.rd (Nat.le_trans hB HC0.out.low.size) 4 rfl).mono ?_
   rintro e w2 ⟨rfl,hc2⟩
   have HF:=Lh (show CTook w w2 B b lv T i prop ov O 4 (tkAt T i).line (tkAt T i).col from⟨hc2.rd,HC0.out.low.trans hc2.low,HC0.out.kept.trans hc2.kept⟩)
   clear hc2
   go_wp2
   go_ret
   exact⟨rfl,fun e=>by simp at e,fun _=>HF.out⟩
 · have HC1:=Lh (show CTook w w1 B b lv T (i+1) prop ov O 0 line col from HC.out)
   go_wp2
   go_ret
   exact⟨rfl,fun _=>⟨line,col,HC1.out⟩,fun e=>by simp at e⟩
def TkB (w:World) (b:Nat) (x:Tk):Prop:=w.heap[b]?=some (.cells #[.int .i64 x.kind,.string x.text,.int .i64 x.num,.int .i64 x.line,.int .i64 x.col] 48 (0,0))
theorem TkB.facts {w:World} {b:Nat} {x:Tk} (h:TkB w b x) :
 w.cell? ⟨b,0,none⟩ = some (.int .i64 x.kind)∧w.cell? ⟨b,1,none⟩ = some (.string x.text)∧w.cell? ⟨b,2,none⟩ = some (.int .i64 x.num)∧w.cell? ⟨b,3,none⟩ = some (.int .i64 x.line)∧w.cell? ⟨b,4,none⟩ = some (.int .i64 x.col):=by
 unfold TkB at h
 refine⟨?_,?_,?_,?_,?_⟩ <;> simp[World.cell?,h]
theorem TkB.free {w:World} {b:Nat} {x:Tk} (h:TkB w b x) :
 w.frozen? ⟨b,0,none⟩ = false∧w.frozen? ⟨b,1,none⟩ = false∧w.frozen? ⟨b,2,none⟩ = false∧w.frozen? ⟨b,3,none⟩ = false∧w.frozen? ⟨b,4,none⟩ = false:=by
 unfold TkB at h
 refine⟨?_,?_,?_,?_,?_⟩ <;> simp[World.frozen?,h]
theorem TkB.stored {w:World} {b:Nat} {x:Tk} (h:TkB w b x) (y:Tk) :
 TkB (((((w.setCell ⟨b,0,none⟩ (.int .i64 y.kind)).setCell ⟨b,1,none⟩ (.string y.text)).setCell ⟨b,2,none⟩ (.int .i64 y.num)).setCell ⟨b,3,none⟩ (.int .i64 y.line)).setCell ⟨b,4,none⟩ (.int .i64 y.col)) b y:=by
 have h1:=heap_setCell_same w b 0 _ _ (.int .i64 y.kind) h
 have h2:=heap_setCell_same _ b 1 _ _ (.string y.text) h1
 have h3:=heap_setCell_same _ b 2 _ _ (.int .i64 y.num) h2
 have h4:=heap_setCell_same _ b 3 _ _ (.int .i64 y.line) h3
 exact heap_setCell_same _ b 4 _ _ (.int .i64 y.col) h4
theorem TkB.lt {w:World} {b:Nat} {x:Tk} (h:TkB w b x):b < w.heap.size:=(Array.getElem?_eq_some_iff.1 h).1
theorem TkB.below {w w':World} {b B:Nat} {x:Tk} (h:TkB w b x) (hb:Below B w w') (hB:b < B):TkB w' b x:=(hb.block b hB).trans h
theorem TkB.alloc {w:World} {b:Nat} {x:Tk} (h:TkB w b x) (o:Obj):TkB (w.alloc o) b x:=(Below.heap_alloc _ _ _ h.lt).trans h
theorem TkB.drew {w:World} {b:Nat} {x:Tk} (h:TkB w b x):TkB w.drew b x:=h
theorem TkB.setOther {w:World} {b g j:Nat} {x:Tk} (h:TkB w b x) (hne:g≠b) (u:Value):TkB (w.setCell ⟨g,j,none⟩ u) b x:=(Below.heap_setCell _ _ _ _ (by show b≠g;omega)).trans h
theorem TkB.kept {w w':World} {b k:Nat} {x:Tk} (h:TkB w k x) (ht:Lib.OthersKept 87 (some b) w w') (hkb:k≠b):TkB w' k x:=
 ht k _ h (fun e=>hkb (Option.some.inj e)) (fun c fz e=>by simp at e)
theorem CTook.storedTok {w w1:World} {B b:Nat} {lv:Value} {T:List Tk} {i:Int} {prop:Bool} {ov:Value} {O:List It} {er line col:Int} (h:CTook w w1 B b lv T i prop ov O er line col) {k:Nat} {x:Tk} (hx:TkB w1 k x) (hk:w.heap.size≤k) (hb:b < w.heap.size) (hB:B≤w.heap.size) (y:Tk) :
 CTook w (((((w1.setCell ⟨k,0,none⟩ (.int .i64 y.kind)).setCell ⟨k,1,none⟩ (.string y.text)).setCell ⟨k,2,none⟩ (.int .i64 y.num)).setCell ⟨k,3,none⟩ (.int .i64 y.line)).setCell ⟨k,4,none⟩ (.int .i64 y.col)) B b lv T i prop ov O er line col:=by
 have one:∀ (W:World) (cs:Array Value) (j:Nat) (u:Value),W.heap[k]?=some (.cells cs 48 (0,0))→CTook w W B b lv T i prop ov O er line col→CTook w (W.setCell ⟨k,j,none⟩ u) B b lv T i prop ov O er line col:=by
  intro W cs j u hW h
  have hbb:Below B W (W.setCell ⟨k,j,none⟩ u):=(Below.refl B W).setCell (p:=⟨k,j,none⟩) (by show B≤k;omega) _
  refine⟨⟨?_,h.rd.low,h.rd.tk.below hbb,row_store h.rd.out hW (by decide) j u⟩,h.low.trans hbb,?_⟩
  · rw[Below.heap_setCell _ _ _ _ (by show b≠k;omega)];exact h.rd.blk
  · intro q o hq hqb hqo
    rw[Below.heap_setCell _ _ _ _ (by show q≠k;have:=(Array.getElem?_eq_some_iff.1 hq).1;omega)]
    exact h.kept q o hq hqb hqo
 have h1:=heap_setCell_same w1 k 0 _ _ (.int .i64 y.kind) hx
 have h2:=heap_setCell_same _ k 1 _ _ (.string y.text) h1
 have h3:=heap_setCell_same _ k 2 _ _ (.int .i64 y.num) h2
 have h4:=heap_setCell_same _ k 3 _ _ (.int .i64 y.line) h3
 exact one _ _ 4 _ h4 (one _ _ 3 _ h3 (one _ _ 2 _ h2 (one _ _ 1 _ h1 (one _ _ 0 _ hx h))))
def Named (w:World) (B b:Nat) (lv:Value) (T:List Tk) (i:Int) (prop:Bool) (ov:Value) (O:List It) (e:Ending) (w':World):Prop:=
 e=.returned (.tuple #[tokV (tkAt T i),.bool (decide ((tkAt T i).kind=1))])∧((tkAt T i).kind=1→∃ l c,CTook w w' B b lv T (i+1) prop ov O 0 l c)∧((tkAt T i).kind≠1→CTook w w' B b lv T i prop ov O 4 (tkAt T i).line (tkAt T i).col)
theorem name_any {w:World} {B b:Nat} {lv:Value} {T:List Tk} {i:Int} {prop:Bool} {ov:Value} {O:List It} {line col:Int} (h:Cr w B b lv T i prop ov O 0 line col) (hB:B≤w.heap.size) (hlo:-9223372036854775808≤i) (hhi:i≤2000000) :
 Calls Tryz.prog 154 #[.pointer (some ⟨b,0,none⟩)] w (Named w B b lv T i prop ov O):=by
 have HR:=Lh h
 have hbl:=h.lt
 obtain⟨x,hx⟩:∃ x,tkAt T i=x:=⟨_,rfl⟩
 have HX:=Lh hx
 clear h hx
 go_enter Tryz.func154,Tryz.ntmps154
 go_wp2_with fail
 refine(now_any (HR.out.keep ((Below.refl _ _).alloc (Nat.le_refl _) _) hB)).mono ?_
 rintro e w1 ⟨rfl,hb1⟩
 rw[HX.out]
 unfold tokV
 have HB1:=Lh (((Below.refl _ w).alloc (Nat.le_refl _) oB11).trans (hb1.mono (by simp)))
 have HC1:=Lh ((CTook.of_rd HR.out).then HB1.out hB)
 have hr:=(show TkB (w.alloc oB11) w.heap.size ⟨0,⟨#[]⟩,0,0,0⟩ from heap_alloc_new w _).below hb1 (by simp)
 have hsz:=HB1.out.size
 have hrl:=hr.lt
 have hbl1:=HC1.out.rd.lt
 have HCT:=Lh (HC1.out.then ((Below.refl _ _).alloc (Nat.le_refl _) (tO x)) hB)
 have HR0:=Lh hr
 have HR1:=Lh (hr.alloc (tO x))
 have HT1:=Lh (show TkB (w1.alloc (tO x)) w1.heap.size x from heap_alloc_new w1 _)
 clear hb1 hr
 by_cases hk:x.kind=1
 · have hkb: (x.kind == 1)=true:=by rw[beq_iff_eq];exact hk
   have hk1:=Lh hk
   clear hk
   obtain⟨_,c1,_,_,_,_,_⟩:=HC1.out.rd.facts
   obtain⟨f1,_,_,_,_⟩:=HC1.out.rd.free
   have hR2:=HR0.out.setOther (g:=b) (j:=1) (by omega) (.int .i64 (i+1))
   have HM:=Lh (((HC1.out.moved (i+1)).storedTok hR2 (Nat.le_refl _) hbl hB x).then ((Below.refl _ _).alloc (Nat.le_refl _) (tO x)) hB)
   have HE:=Lh ((hR2.stored x).alloc (tO x)).facts
   clear hR2
   obtain⟨r0,r1,r2,r3,r4⟩:=HR0.out.free
   obtain⟨s0,s1,s2,s3,s4⟩:=HR0.out.facts
   go_wp2
   obtain⟨e0,e1,e2,e3,e4⟩:=HE.out
   exact bodyPost_ret (v:=.tuple #[tokV x,.bool true]) (by simp[results,Tryz.results154,go_sem,tokV,e0,e1,e2,e3,e4]) rfl ⟨by rw[HX.out,decide_eq_true hk1.out],fun _=>⟨line,col,HM.out⟩,fun hh=>absurd (by rw[HX.out];exact hk1.out) hh⟩
 · have hkb: (x.kind == 1)=false:=beq_eq_false_iff_ne.2 hk
   have hk1:=Lh hk
   clear hk
   have hbz:=Nat.le_trans hB HCT.out.low.size
   obtain⟨t0,t1,t2,t3,t4⟩:=HT1.out.facts
   have HCall:Calls Tryz.prog 134 #[.pointer (some ⟨b,0,none⟩),.int .i64 4] (w1.alloc (tO x)).drew (fun e w2=>e=.returned (.bool false)∧TkB w2 w1.heap.size x∧TkB w2 w.heap.size ⟨0,⟨#[]⟩,0,0,0⟩∧CTook w w2 B b lv T i prop ov O 4 (tkAt T i).line (tkAt T i).col):=by
    refine(cfail_any HCT.out.rd.drew hbz 4 rfl).mono ?_
    rintro e w2 ⟨rfl,hc2⟩
    exact⟨rfl,HT1.out.drew.kept hc2.kept (by omega),HR1.out.drew.kept hc2.kept (by omega),⟨hc2.rd,(HCT.out.low.drew).trans hc2.low,HCT.out.kept.trans hc2.kept⟩⟩
   have HCall:=Lh HCall
   go_wp2_with fail
   go_region_with (go_at_call 134;refine HCall.out.mono ?_;rintro e w2 ⟨rfl,hx2,hr2,hf2⟩;obtain⟨s0,s1,s2,s3,s4⟩:=hr2.facts;obtain⟨r0,r1,r2,r3,r4⟩:=hr2.free;obtain⟨u0,u1,u2,u3,u4⟩:=hx2.facts;have HM:=Lh (hf2.storedTok hr2 (Nat.le_refl _) hbl hB x);have HE:=Lh (hr2.stored x).facts;clear hx2 hr2 hf2)
   all_goals go_wp2
   all_goals (obtain⟨e0,e1,e2,e3,e4⟩:=HE.out)
   all_goals exact bodyPost_ret (v:=.tuple #[tokV x,.bool false]) (by simp[results,Tryz.results154,go_sem,tokV,e0,e1,e2,e3,e4]) rfl ⟨by rw[HX.out,decide_eq_false hk1.out],fun hh=>absurd (by rw[HX.out] at hh;exact hh) hk1.out,fun _=>HM.out⟩
theorem owns_beside {w w':World} {b1 b2:Nat} {e1 e2:TypeId} {s1 s2 n1 n2:Nat} {v1 v2:Value} {xs1 xs2:List Value} (h1:w.ownsRow b1 e1 s1 v1 n1 xs1) (h2:w.ownsRow b2 e2 s2 v2 n2 xs2) (he:e1≠e2) (hg:w.grownBy w' v1.ownBlock):w'.ownsRow b2 e2 s2 v2 n2 xs2:=by
 refine h2.kept hg ?_
 rcases h2.2 with⟨rfl,_⟩ | ⟨g2,cap2,cur2,rfl,_,hg2,_⟩
 · exact .inl rfl
 · refine .inr fun e=>?_
   rcases h1.2 with⟨rfl,_⟩ | ⟨g1,cap1,cur1,rfl,_,hg1,_⟩
   · simp[Value.ownBlock] at e
   · have e3:g1=g2:=by
      simp[Value.ownBlock] at e
      omega
     subst e3
     rw[hg1] at hg2;cases hg2;exact he rfl
def ItRow (w:World) (v:Value) (T:List It):Prop:=∃ B,w.ownsRow B 87 9 v T.length (itFlat T)
theorem ItRow.keep {w w':World} {v:Value} {T:List It} (h:ItRow w v T) (hb:Below w.heap.size w w'):ItRow w' v T:=by
 obtain⟨B,h⟩:=h;exact⟨B,owns_below h hb⟩
theorem ItRow.drewN {w:World} {v:Value} {T:List It} (h:ItRow w v T) (n:Nat):ItRow (w.drewN n) v T:=h
theorem ItRow.alloc {w:World} {v:Value} {T:List It} (h:ItRow w v T) (o:Obj):ItRow (w.alloc o) v T:=h.keep ((Below.refl _ _).alloc (Nat.le_refl _) o)
theorem ItRow.len {w:World} {v:Value} {T:List It} (h:ItRow w v T):∃ ad cap,v=.slice ad T.length cap:=by
 obtain⟨B,h⟩:=h;exact owns_len h
theorem ItRow.at {w:World} {v:Value} {T:List It} (h:ItRow w v T) {k:Nat} {x:It} (hx:T[k]?=some x) :
 ∃ g cap,v=.slice (some ⟨g,0,none⟩) T.length cap∧g < w.heap.size∧w.cell? ⟨g,k * 9,none⟩ = some (.int .i64 x.op)∧w.cell? ⟨g,k * 9+1,none⟩ = some (.string x.ln)∧w.cell? ⟨g,k * 9+2,none⟩ = some (.int .i64 x.lnum)∧
  w.cell? ⟨g,k * 9+3,none⟩ = some (.string x.rn)∧w.cell? ⟨g,k * 9+4,none⟩ = some (.int .i64 x.rnum)∧w.cell? ⟨g,k * 9+5,none⟩ = some (.string x.name)∧w.cell? ⟨g,k * 9+6,none⟩ = some (.string x.user)∧
  w.cell? ⟨g,k * 9+7,none⟩ = some (.int .i64 x.line)∧w.cell? ⟨g,k * 9+8,none⟩ = some (.int .i64 x.col):=by
 obtain⟨B,h⟩:=h
 have hk:=(List.getElem?_eq_some_iff.1 hx).1
 obtain⟨g,cap,rfl,hg,hgs⟩:=owns_shape h (by omega)
 have c:=fun j (hj:j < 9)=>(World.ownsRow.cellAt h (k * 9+j) (by omega)).trans (itFlat_get _ k j x hx hj)
 exact⟨g,cap,rfl,hgs,c 0 (by omega),c 1 (by omega),c 2 (by omega),c 3 (by omega),c 4 (by omega),c 5 (by omega),c 6 (by omega),c 7 (by omega),c 8 (by omega)⟩
theorem Reads.len {w:World} {v:Value} {xs:List Value} (h:Reads w v xs):∃ ad cap,v=.slice ad xs.length cap∧xs.length≤maxLen:=by
 rcases h with⟨ad,cap,rfl,rfl⟩ | ⟨b,off,cap,rfl,_,hm,_⟩
 · exact⟨ad,cap,rfl,Nat.zero_le _⟩
 · exact⟨_,cap,rfl,hm⟩
theorem Reads.at {w:World} {ad:Option Addr} {n cap:Nat} {xs:List Value} (h:Reads w (.slice ad n cap) xs) (hn:0 < n):∃ b off,ad=some ⟨b,off,none⟩∧∀ t x,xs[t]?=some x→w.cell? ⟨b,off+t,none⟩ = some x:=by
 rcases h with⟨ad',cap',e,_⟩ | ⟨b,off,cap',e,_,_,hc⟩
 · cases e;omega
 · cases e;exact⟨b,off,rfl,hc⟩
end Go.Proofs.YthlofmnmacpogaaGreatDoor
