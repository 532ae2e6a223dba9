/- A part of a proof: 'warder/warderlaw07.DeclOnes' returns true for every input and leaves its arguments as they were; no condition. The row lists package-level variables of Go's library with what they hold at the start; the card ties them to the program's text. -/
import Derived.Test.YthlofmnmacpogaaGreatDoorOn32
import Derived.Test.YthlofmnmacpogaaGreatDoorOn33
namespace Go.Proofs.YthlofmnmacpogaaGreatDoor
open Go.RowKit
theorem idxN_range (s:ByteArray):∀ (L:List ByteArray) (k m:Nat),idxN s L k=some m→k≤m∧m < k+L.length
 | [],k,m,h=>by simp[idxN] at h
 | x :: r,k,m,h=>by
   rw[idxN] at h
   split at h
   · simp only[Option.some.injEq] at h;subst h;simp
   · have:=idxN_range s r (k+1) m h
     simp only[List.length_cons];omega
theorem idxP_range (L:List ByteArray) (s:ByteArray):idxP L s= -1∨(0≤idxP L s∧idxP L s < L.length):=by
 unfold idxP
 cases h:idxN s L 0 with
 | none=>exact .inl rfl
 | some k=>have:=idxN_range s L 0 k h;exact .inr ⟨by simp,by simp;omega⟩
theorem true_open (s:ByteArray) (h:0≤idxP trueL s):idxP openL s= -1:=by
 by_cases h0:s=wTrue
 · subst h0;decide
 by_cases h1:s=wFalse
 · subst h1;decide
 by_cases h2:s=wComplete
 · subst h2;decide
 by_cases h3:s=wStuck
 · subst h3;decide
 have e1:idxP trueL s= -1:=by simp[idxP,trueL,idxN,Ne.symm h0,Ne.symm h1,Ne.symm h2,Ne.symm h3]
 omega
theorem ratom_any {w:World} {B:Nat} {lv:Value} {T:List Tk} (h:TkIn w B lv T) (hB:B≤w.heap.size) (i:Int) (hlo:-9223372036854775808≤i) (hhi:i≤1000000) (prop:Bool) :
 Calls Tryz.prog 144 #[lv,.int .i64 i,.bool prop] w (RPost w (atomP T prop i)):=by
 rw[←ratom_is]
 unfold ratomP
 have hk:=idxP_range trueL (tkAt T i).text
 have hj:=idxP_range openL (tkAt T i).text
 have hto:=true_open (tkAt T i).text
 obtain⟨k,ek⟩:∃ k,idxP trueL (tkAt T i).text=k:=⟨_,rfl⟩
 obtain⟨j,ej⟩:∃ j,idxP openL (tkAt T i).text=j:=⟨_,rfl⟩
 rw[ek] at hk hto ⊢;rw[ej] at hj hto ⊢
 simp only[show((trueL.length:Nat):Int)=4 from rfl] at hk
 simp only[show((openL.length:Nat):Int)=4 from rfl] at hj
 by_cases hc:0≤k∧(k < 2∨prop=true)
 · rw[if_pos hc]
   refine ratom_true h hB i hlo hhi prop k ek ?_
   cases prop
   · have:k < 2:=by rcases hc.2 with h|h;exact h;exact absurd h (by simp)
     omega
   · simp only[and_true];omega
 rw[if_neg hc]
 by_cases hk0:0≤k
 · have hp:prop=false:=by cases prop;rfl;exact absurd ⟨hk0,.inr rfl⟩ hc
   have hk2:k=2∨k=3:=by
    have:¬k < 2:=fun h=>hc ⟨hk0,.inl h⟩
    omega
   have hj0:=hto hk0
   rw[if_pos (.inl (by omega))]
   rcases hk2 with rfl|rfl
   · exact ratom_no2 h hB i prop ek (ej.trans hj0) hp
   · exact ratom_no3 h hB i prop ek (ej.trans hj0) hp
 have hk1:k= -1:=by omega
 subst hk1
 have hj5:j= -1∨j=0∨j=1∨j=2∨j=3:=by omega
 rcases hj5 with rfl|rfl|rfl|rfl|rfl
 · exact ratom_no1 h hB i prop ek ej
 · exact ratom_open h hB i hlo hhi prop ek ej
 · exact ratom_done h hB i hlo hhi prop ek ej
 · cases prop
   · exact ratom_no4 h hB i false ek ej rfl
   · exact ratom_can h hB i hlo hhi true ek ej rfl
 · cases prop
   · exact ratom_no5 h hB i false ek ej rfl
   · exact ratom_did h hB i hlo hhi true ek ej rfl
end Go.Proofs.YthlofmnmacpogaaGreatDoor
