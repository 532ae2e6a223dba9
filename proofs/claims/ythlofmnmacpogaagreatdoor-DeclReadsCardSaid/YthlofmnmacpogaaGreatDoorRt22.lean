/- A part of a proof of DeclReadsProof. -/
import Derived.Test.YthlofmnmacpogaaGreatDoorRt19
set_option maxRecDepth 100000
set_option maxHeartbeats 40000000
namespace Go.Proofs.YthlofmnmacpogaaGreatDoor
open Go.RowKit
def compL:List ByteArray:=[⟨#[60]⟩,⟨#[60,61]⟩,⟨#[62]⟩,⟨#[62,61]⟩,⟨#[61]⟩,⟨#[33,61]⟩]
def trueL:List ByteArray:=[wTrue,wFalse,wComplete,wStuck]
def openL:List ByteArray:=[wOpen,wDone,wCan,wDid]
def notL:List ByteArray:=[wNot,⟨#[65,88]⟩,⟨#[69,88]⟩,⟨#[65,70]⟩,⟨#[69,70]⟩,⟨#[65,71]⟩,⟨#[69,71]⟩,wA,wE]
theorem comp_idx (T:List Tk) (i:Int) :
 (compN T i=0∧(idxP compL (tkAt T i).text < 0∨(tkAt T i).kind≠4))∨
 ((tkAt T i).kind=4∧0≤idxP compL (tkAt T i).text∧compN T i=3+idxP compL (tkAt T i).text∧idxP compL (tkAt T i).text < 6):=by
 unfold compN
 obtain⟨x,hx⟩:∃ x,tkAt T i=x:=⟨_,rfl⟩
 rw[hx]
 by_cases hk:x.kind=4
 · rw[if_neg (by omega)]
   by_cases h0:x.text= ⟨#[60]⟩
   · rw[h0];right;refine⟨hk,?_⟩;decide
   by_cases h1:x.text= ⟨#[60,61]⟩
   · rw[h1];right;refine⟨hk,?_⟩;decide
   by_cases h2:x.text= ⟨#[62]⟩
   · rw[h2];right;refine⟨hk,?_⟩;decide
   by_cases h3:x.text= ⟨#[62,61]⟩
   · rw[h3];right;refine⟨hk,?_⟩;decide
   by_cases h4:x.text= ⟨#[61]⟩
   · rw[h4];right;refine⟨hk,?_⟩;decide
   by_cases h5:x.text= ⟨#[33,61]⟩
   · rw[h5];right;refine⟨hk,?_⟩;decide
   left
   rw[if_neg h0,if_neg h1,if_neg h2,if_neg h3,if_neg h4,if_neg h5]
   refine⟨rfl,.inl ?_⟩
   simp[idxP,compL,idxN,Ne.symm h0,Ne.symm h1,Ne.symm h2,Ne.symm h3,Ne.symm h4,Ne.symm h5]
 · left;rw[if_pos hk];exact⟨rfl,.inr hk⟩
def ratomP (T:List Tk) (prop:Bool) (i:Int):PR:=
 let k:=idxP trueL (tkAt T i).text
 if 0≤k∧(k < 2∨prop=true) then .ok [item (if k=0 then 1 else if k=1 then 2 else if k=2 then 13 else 14) (tkAt T i)] (i+1)
 else
  let j:=idxP openL (tkAt T i).text
  if j < 0∨(1 < j∧prop=false) then badP T i 4
  else if j < 3 then namedP T i (9+j) else didP T i
theorem ratom_is (T:List Tk) (prop:Bool) (i:Int):ratomP T prop i=atomP T prop i:=by
 unfold ratomP atomP
 obtain⟨x,hx⟩:∃ x,tkAt T i=x:=⟨_,rfl⟩
 obtain⟨t,ht⟩:∃ t,x.text=t:=⟨_,rfl⟩
 rw[hx,ht]
 by_cases h0:t=wOpen
 · subst h0;rw[show idxP trueL wOpen= -1 by decide,show idxP openL wOpen=0 by decide];simp
 by_cases h1:t=wDone
 · subst h1;rw[show idxP trueL wDone= -1 by decide,show idxP openL wDone=1 by decide];simp[h0]
 by_cases h2:t=wTrue
 · subst h2;rw[show idxP trueL wTrue=0 by decide];simp[h0,h1]
 by_cases h3:t=wFalse
 · subst h3;rw[show idxP trueL wFalse=1 by decide];simp[h0,h1,h2]
 by_cases h4:t=wCan
 · subst h4;rw[show idxP trueL wCan= -1 by decide,show idxP openL wCan=2 by decide];cases prop <;> simp[h0,h1,h2,h3]
 by_cases h5:t=wDid
 · subst h5;rw[show idxP trueL wDid= -1 by decide,show idxP openL wDid=3 by decide];cases prop <;> simp[h0,h1,h2,h3,h4]
 by_cases h6:t=wComplete
 · subst h6;rw[show idxP trueL wComplete=2 by decide,show idxP openL wComplete= -1 by decide];cases prop <;> simp[h0,h1,h2,h3,h4,h5]
 by_cases h7:t=wStuck
 · subst h7;rw[show idxP trueL wStuck=3 by decide,show idxP openL wStuck= -1 by decide];cases prop <;> simp[h0,h1,h2,h3,h4,h5,h6]
 have e1:idxP trueL t= -1:=by simp[idxP,trueL,idxN,Ne.symm h2,Ne.symm h3,Ne.symm h6,Ne.symm h7]
 have e2:idxP openL t= -1:=by simp[idxP,openL,idxN,Ne.symm h0,Ne.symm h1,Ne.symm h4,Ne.symm h5]
 rw[e1,e2]
 cases prop <;> simp[h0,h1,h2,h3,h4,h5,h6,h7]
def rsignP (T:List Tk) (prop:Bool) (sg form:Int→PR) (i:Int):PR:=
 if isTk T i 4 sOpen then(form (i+1)).also fun o a=>needP T a 4 sClose fun b=>.ok o b
 else if(tkAt T i).kind≠2 then compP T i
 else
  let k:=idxP notL (tkAt T i).text
  if k < 0 then atomP T prop i
  else if 0 < k∧prop=false then badP T i 4
  else if 6 < k then untilP T form (18+k) i
  else(sg (i+1)).also fun o a=>.ok (o ++ [item (if k=0 then 15 else 18+k) (tkAt T i)]) a
theorem rsign_is (T:List Tk) (prop:Bool) (sg form:Int→PR) (i:Int):rsignP T prop sg form i=signP T prop sg form i:=by
 unfold rsignP signP
 by_cases ho:isTk T i 4 sOpen=true
 · rw[if_pos ho,if_pos ho]
 rw[if_neg ho,if_neg ho]
 by_cases hk: (tkAt T i).kind≠2
 · rw[if_pos hk,if_pos hk]
 rw[if_neg hk,if_neg hk]
 obtain⟨x,hx⟩:∃ x,tkAt T i=x:=⟨_,rfl⟩
 obtain⟨t,ht⟩:∃ t,x.text=t:=⟨_,rfl⟩
 rw[hx,ht]
 by_cases h0:t=wNot
 · subst h0;rw[show idxP notL wNot=0 by decide];simp
 by_cases h1:t= ⟨#[65,88]⟩
 · subst h1;rw[show idxP notL ⟨#[65,88]⟩ = 1 by decide,show tempN ⟨#[65,88]⟩ = 19 by decide,if_neg h0,if_neg (show ¬(⟨#[65,88]⟩:ByteArray)=wA by decide),if_neg (show ¬(⟨#[65,88]⟩:ByteArray)=wE by decide)];cases prop <;> simp
 by_cases h2:t= ⟨#[69,88]⟩
 · subst h2;rw[show idxP notL ⟨#[69,88]⟩ = 2 by decide,show tempN ⟨#[69,88]⟩ = 20 by decide,if_neg h0,if_neg (show ¬(⟨#[69,88]⟩:ByteArray)=wA by decide),if_neg (show ¬(⟨#[69,88]⟩:ByteArray)=wE by decide)];cases prop <;> simp
 by_cases h3:t= ⟨#[65,70]⟩
 · subst h3;rw[show idxP notL ⟨#[65,70]⟩ = 3 by decide,show tempN ⟨#[65,70]⟩ = 21 by decide,if_neg h0,if_neg (show ¬(⟨#[65,70]⟩:ByteArray)=wA by decide),if_neg (show ¬(⟨#[65,70]⟩:ByteArray)=wE by decide)];cases prop <;> simp
 by_cases h4:t= ⟨#[69,70]⟩
 · subst h4;rw[show idxP notL ⟨#[69,70]⟩ = 4 by decide,show tempN ⟨#[69,70]⟩ = 22 by decide,if_neg h0,if_neg (show ¬(⟨#[69,70]⟩:ByteArray)=wA by decide),if_neg (show ¬(⟨#[69,70]⟩:ByteArray)=wE by decide)];cases prop <;> simp
 by_cases h5:t= ⟨#[65,71]⟩
 · subst h5;rw[show idxP notL ⟨#[65,71]⟩ = 5 by decide,show tempN ⟨#[65,71]⟩ = 23 by decide,if_neg h0,if_neg (show ¬(⟨#[65,71]⟩:ByteArray)=wA by decide),if_neg (show ¬(⟨#[65,71]⟩:ByteArray)=wE by decide)];cases prop <;> simp
 by_cases h6:t= ⟨#[69,71]⟩
 · subst h6;rw[show idxP notL ⟨#[69,71]⟩ = 6 by decide,show tempN ⟨#[69,71]⟩ = 24 by decide,if_neg h0,if_neg (show ¬(⟨#[69,71]⟩:ByteArray)=wA by decide),if_neg (show ¬(⟨#[69,71]⟩:ByteArray)=wE by decide)];cases prop <;> simp
 by_cases h7:t=wA
 · subst h7;rw[show idxP notL wA=7 by decide,if_neg h0];cases prop <;> simp
 by_cases h8:t=wE
 · subst h8;rw[show idxP notL wE=8 by decide,if_neg h0,if_neg (show ¬wE=wA by decide)];cases prop <;> simp
 have e1:idxP notL t= -1:=by simp[idxP,notL,idxN,Ne.symm h0,Ne.symm h1,Ne.symm h2,Ne.symm h3,Ne.symm h4,Ne.symm h5,Ne.symm h6,Ne.symm h7,Ne.symm h8]
 have e2:tempN t=0:=by simp[tempN,h1,h2,h3,h4,h5,h6]
 rw[e1,e2,if_neg h0,if_neg h7,if_neg h8]
 cases prop <;> simp[h7,h8]
def RPost (w:World) (p:PR) (e:Ending) (w':World):Prop:=match p with
 | .ok o a=>∃ g cap,e=.returned (.agg #[.slice (some ⟨g,0,none⟩) o.length cap,.int .i64 a,.int .i64 0,.int .i64 0,.int .i64 0])∧w'.ownsRow w.heap.size 87 9 (.slice (some ⟨g,0,none⟩) o.length cap) o.length (itFlat o)∧Below w.heap.size w w'
 | .bad er l c=>∃ a,er≠0∧e=.returned (.agg #[.slice none 0 0,.int .i64 a,.int .i64 er,.int .i64 l,.int .i64 c])∧Below w.heap.size w w'
theorem RPost.fault {w w':World} {p:PR} {e:Ending} {er l c:Int} (hp:p=.bad er l c) (a:Int) (h0:er≠0) (he:e=.returned (.agg #[.slice none 0 0,.int .i64 a,.int .i64 er,.int .i64 l,.int .i64 c])) (hb:Below w.heap.size w w'):RPost w p e w':=by
 rw[hp];exact⟨a,h0,he,hb⟩
theorem blk_reads {w:World} {b:Nat} {us:Array Value} {e:TypeId} (h:w.heap[b]?=some (.cells us e (0,0))) (cap:Nat) (hm:us.size≤maxLen):Reads w (.slice (some ⟨b,0,none⟩) us.size cap) us.toList:=by
 have hlt:=(Array.getElem?_eq_some_iff.1 h).1
 refine .inr ⟨b,0,cap,by simp,by simpa using hlt,by simpa using hm,fun t x hx=>?_⟩
 rw[Nat.zero_add]
 simp only[World.cell?,h]
 simpa using hx
theorem SgB.reads {w:World} {b:Nat} (h:SgB w b):Reads w (.slice (some ⟨b,0,none⟩) 6 6) (strs compL):=blk_reads h 6 (by decide)
theorem WdB.drew {w:World} {b:Nat} {n:ByteArray} {m:Int} (h:WdB w b n m):WdB w.drew b n m:=h
theorem SgB.below {w w':World} {b:Nat} (h:SgB w b) (hb:Below w.heap.size w w'):SgB w' b:=(hb.block b h.lt).trans h
theorem rcompare_any {w:World} {B:Nat} {lv:Value} {T:List Tk} (h:TkIn w B lv T) (hB:B≤w.heap.size) (i:Int) (hlo:-9223372036854775808≤i) (hhi:i≤1000000) :
 Calls Tryz.prog 142 #[lv,.int .i64 i] w (RPost w (compP T i)):=by
 obtain⟨x,hx⟩:∃ x,tkAt T i=x:=⟨_,rfl⟩
 have HX:=Lh hx
 have HTK:Hid (∀ W,Below w.heap.size w W→TkIn W B lv T):=fun W hW=>h.below (hW.mono hB)
 have HB0:=Lh ((Below.refl w.heap.size w).alloc (Nat.le_refl _) oB6)
 have HQ:=Lh (show PrB (w.alloc oB6) w.heap.size (.slice none 0 0) 0 0 0 0 from heap_alloc_new w _)
 clear h hx
 by_cases hw:isWord x=true
 · have HW:=Lh hw
   obtain⟨y,hy⟩:∃ y,tkAt T (i+1)=y:=⟨_,rfl⟩
   obtain⟨z,hz⟩:∃ z,tkAt T (i+2)=z:=⟨_,rfl⟩
   have hci:=comp_idx T (i+1)
   rw[hy] at hci
   have HP:Hid (compP T i=if compN T (i+1)=0 then .bad 4 y.line y.col
    else if isWord z then .ok [⟨compN T (i+1),wordName x,wordNum x,wordName z,wordNum z,⟨#[]⟩,⟨#[]⟩,x.line,x.col⟩] (i+3)
    else .bad 4 z.line z.col):=by unfold Hid compP badP;rw[HX.out,if_pos hw,hy,hz]
   have HY:=Lh hy;have HZ:=Lh hz
   obtain⟨k,hk⟩:∃ k,idxP compL y.text=k:=⟨_,rfl⟩
   rw[hk] at hci
   have HK:=Lh hk
   have hfy0:∀ w:World,(Instr.field 48 (.agg #[.int .i64 y.kind,.string y.text,.int .i64 y.num,.int .i64 y.line,.int .i64 y.col]) 0).run Tryz.prog w=.ok (.int .i64 y.kind) w:=fun _=>by kernel_rfl
   have hfy1:∀ w:World,(Instr.field 48 (.agg #[.int .i64 y.kind,.string y.text,.int .i64 y.num,.int .i64 y.line,.int .i64 y.col]) 1).run Tryz.prog w=.ok (.string y.text) w:=fun _=>by kernel_rfl
   have hfx3:∀ w:World,(Instr.field 48 (.agg #[.int .i64 x.kind,.string x.text,.int .i64 x.num,.int .i64 x.line,.int .i64 x.col]) 3).run Tryz.prog w=.ok (.agg #[.int .i64 x.line,.int .i64 x.col]) w:=fun _=>by kernel_rfl
   clear hw hy hz hk
   have hcase: (k < 0∧compN T (i+1)=0)∨(0≤k∧y.kind≠4∧compN T (i+1)=0)∨(0≤k∧k < 6∧y.kind=4∧compN T (i+1)=3+k):=by
    rcases hci with⟨h1,h2⟩ | ⟨h1,h2,h3,h4⟩
    · by_cases h0:k < 0
      · exact .inl ⟨h0,h1⟩
      · exact .inr (.inl ⟨by omega,by rcases h2 with h2|h2;exact absurd h2 h0;exact h2,h1⟩)
    · exact .inr (.inr ⟨h2,h4,h1,h3⟩)
   clear hci
   rcases hcase with⟨hk0,hn⟩ | ⟨hk0,hky,hn⟩ | ⟨hk0,hk6,hky,hn⟩
   · have kd:decide (k < 0)=true:=decide_eq_true hk0
     replace HP:Hid (compP T i=.bad 4 y.line y.col):=by unfold Hid;rw[HP.out,if_pos hn]
     clear hn
     go_enter Tryz.func142,Tryz.ntmps142
     go_wp2_with fail
     refine(rctok_any (HTK.out _ HB0.out) i).mono ?_
     rintro e w1 ⟨rfl,hb1⟩
     rw[HX.out]
     have HB1:=Lh (HB0.out.trans (hb1.mono HB0.out.size))
     have HQ1:=Lh (HQ.out.below hb1)
     clear hb1
     go_wp2_with fail
     refine(rcword_any x w1).mono ?_
     rintro e w2 ⟨rfl,hb2⟩
     rw[HW.out,wordV_yes HW.out]
     have hsz2:w.heap.size≤w2.heap.size:=Nat.le_trans HB1.out.size hb2.size
     have HSZ:=Lh hb2.size
     have HB3:=Lh (((HB1.out.trans (hb2.mono HB1.out.size)).alloc hsz2 (.cells #[.string (wordName x),.int .i64 (wordNum x)] 85)).alloc (by simp;omega) oB9)
     have HQ3:=Lh (((HQ1.out.below hb2).alloc (.cells #[.string (wordName x),.int .i64 (wordNum x)] 85)).alloc oB9)
     have HA3:=Lh ((show WdB (w2.alloc (.cells #[.string (wordName x),.int .i64 (wordNum x)] 85)) w2.heap.size (wordName x) (wordNum x) from heap_alloc_new w2 _).alloc oB9)
     have HS3:=Lh (show SgB ((w2.alloc (.cells #[.string (wordName x),.int .i64 (wordNum x)] 85)).alloc oB9) (w2.heap.size+1) from heap_at_size _ _ _ (by simp))
     clear hb2
     go_wp2_with fail
     refine(rctok_any (HTK.out _ HB3.out) (i+1)).mono ?_
     rintro e w4 ⟨rfl,hb4⟩
     rw[HY.out]
     unfold tokV
     have HB4:=Lh (HB3.out.trans (hb4.mono HB3.out.size))
     have HQ4:=Lh (HQ3.out.below hb4)
     have HA4:=Lh (HA3.out.then hb4)
     have HS4:=Lh (HS3.out.below hb4)
     clear hb4
     go_wp2_with fail
     refine(rcindex_any _ compL y.text w4 HS4.out.reads (by decide)).mono ?_
     rintro e w' ⟨rfl,rfl⟩
     rw[HK.out]
     go_wp2_with fail
     refine(rcbad_any (HTK.out _ HB4.out) (Nat.le_trans hB HB4.out.size) (i+1) 4).mono ?_
     rintro e w5 ⟨rfl,hb3⟩
     rw[HY.out]
     have HBx:=Lh (HB4.out.trans (hb3.mono HB4.out.size))
     have hq3:=HQ4.out.below hb3
     obtain⟨c0,c1,c2,c3,c4⟩:=hq3.facts
     obtain⟨z0,z1,z2,z3,z4⟩:=hq3.free
     have hlt3:=hq3.lt
     have HE:=Lh (hq3.stored (.slice none 0 0) 0 4 y.line y.col).facts
     clear hb3 hq3
     go_wp2
     obtain⟨e0,e1,e2,e3,e4⟩:=HE.out
     refine bodyPost_ret (v:=.agg #[.slice none 0 0,.int .i64 0,.int .i64 4,.int .i64 y.line,.int .i64 y.col]) (by simp[results,Tryz.results142,go_sem,e0,e1,e2,e3,e4]) rfl ?_
     exact RPost.fault HP.out 0 (by decide) rfl (below_tok HBx.out (Nat.le_refl _) _ _ _ _ _)
   · have kd:decide (k < 0)=false:=decide_eq_false (by omega)
     have yd: (y.kind == 4)=false:=beq_eq_false_iff_ne.2 hky
     have yd2: (y.kind !=4)=true:=by simp[bne,yd]
     replace HP:Hid (compP T i=.bad 4 y.line y.col):=by unfold Hid;rw[HP.out,if_pos hn]
     clear hn hky
     go_enter Tryz.func142,Tryz.ntmps142
     go_wp2_with fail
     refine(rctok_any (HTK.out _ HB0.out) i).mono ?_
     rintro e w1 ⟨rfl,hb1⟩
     rw[HX.out]
     have HB1:=Lh (HB0.out.trans (hb1.mono HB0.out.size))
     have HQ1:=Lh (HQ.out.below hb1)
     clear hb1
     go_wp2_with fail
     refine(rcword_any x w1).mono ?_
     rintro e w2 ⟨rfl,hb2⟩
     rw[HW.out,wordV_yes HW.out]
     have hsz2:w.heap.size≤w2.heap.size:=Nat.le_trans HB1.out.size hb2.size
     have HSZ:=Lh hb2.size
     have HB3:=Lh (((HB1.out.trans (hb2.mono HB1.out.size)).alloc hsz2 (.cells #[.string (wordName x),.int .i64 (wordNum x)] 85)).alloc (by simp;omega) oB9)
     have HQ3:=Lh (((HQ1.out.below hb2).alloc (.cells #[.string (wordName x),.int .i64 (wordNum x)] 85)).alloc oB9)
     have HA3:=Lh ((show WdB (w2.alloc (.cells #[.string (wordName x),.int .i64 (wordNum x)] 85)) w2.heap.size (wordName x) (wordNum x) from heap_alloc_new w2 _).alloc oB9)
     have HS3:=Lh (show SgB ((w2.alloc (.cells #[.string (wordName x),.int .i64 (wordNum x)] 85)).alloc oB9) (w2.heap.size+1) from heap_at_size _ _ _ (by simp))
     clear hb2
     go_wp2_with fail
     refine(rctok_any (HTK.out _ HB3.out) (i+1)).mono ?_
     rintro e w4 ⟨rfl,hb4⟩
     rw[HY.out]
     unfold tokV
     have HB4:=Lh (HB3.out.trans (hb4.mono HB3.out.size))
     have HQ4:=Lh (HQ3.out.below hb4)
     have HA4:=Lh (HA3.out.then hb4)
     have HS4:=Lh (HS3.out.below hb4)
     clear hb4
     go_wp2_with fail
     refine(rcindex_any _ compL y.text w4 HS4.out.reads (by decide)).mono ?_
     rintro e w' ⟨rfl,rfl⟩
     rw[HK.out]
     go_wp2_with fail
     refine(rctok_any (HTK.out _ HB4.out) (i+1)).mono ?_
     rintro e w5 ⟨rfl,hb5⟩
     rw[HY.out]
     unfold tokV
     have HB5:=Lh (HB4.out.trans (hb5.mono HB4.out.size))
     have HQ5:=Lh (HQ4.out.below hb5)
     have HA5:=Lh (HA4.out.then hb5)
     clear hb5
     go_wp2_with fail
     refine(rcbad_any (HTK.out _ HB5.out) (Nat.le_trans hB HB5.out.size) (i+1) 4).mono ?_
     rintro e w6 ⟨rfl,hb3⟩
     rw[HY.out]
     have HBx:=Lh (HB5.out.trans (hb3.mono HB5.out.size))
     have hq3:=HQ5.out.below hb3
     obtain⟨c0,c1,c2,c3,c4⟩:=hq3.facts
     obtain⟨z0,z1,z2,z3,z4⟩:=hq3.free
     have hlt3:=hq3.lt
     have HE:=Lh (hq3.stored (.slice none 0 0) 0 4 y.line y.col).facts
     clear hb3 hq3
     go_wp2
     obtain⟨e0,e1,e2,e3,e4⟩:=HE.out
     refine bodyPost_ret (v:=.agg #[.slice none 0 0,.int .i64 0,.int .i64 4,.int .i64 y.line,.int .i64 y.col]) (by simp[results,Tryz.results142,go_sem,e0,e1,e2,e3,e4]) rfl ?_
     exact RPost.fault HP.out 0 (by decide) rfl (below_tok HBx.out (Nat.le_refl _) _ _ _ _ _)
   · have kd:decide (k < 0)=false:=decide_eq_false (by omega)
     have yd: (y.kind == 4)=true:=by rw[beq_iff_eq];exact hky
     have yd2: (y.kind !=4)=false:=by simp[bne,yd]
     clear hky
     by_cases hwz:isWord z=true
     · have HWZ:=Lh hwz
       replace HP:Hid (compP T i=.ok [⟨3+k,wordName x,wordNum x,wordName z,wordNum z,⟨#[]⟩,⟨#[]⟩,x.line,x.col⟩] (i+3)):=by unfold Hid;rw[HP.out,if_neg (by omega),if_pos hwz,hn]
       clear hn hwz
       go_enter Tryz.func142,Tryz.ntmps142
       go_wp2_with fail
       refine(rctok_any (HTK.out _ HB0.out) i).mono ?_
       rintro e w1 ⟨rfl,hb1⟩
       rw[HX.out]
       have HB1:=Lh (HB0.out.trans (hb1.mono HB0.out.size))
       have HQ1:=Lh (HQ.out.below hb1)
       clear hb1
       go_wp2_with fail
       refine(rcword_any x w1).mono ?_
       rintro e w2 ⟨rfl,hb2⟩
       rw[HW.out,wordV_yes HW.out]
       have hsz2:w.heap.size≤w2.heap.size:=Nat.le_trans HB1.out.size hb2.size
       have HSZ:=Lh hb2.size
       have HB3:=Lh (((HB1.out.trans (hb2.mono HB1.out.size)).alloc hsz2 (.cells #[.string (wordName x),.int .i64 (wordNum x)] 85)).alloc (by simp;omega) oB9)
       have HQ3:=Lh (((HQ1.out.below hb2).alloc (.cells #[.string (wordName x),.int .i64 (wordNum x)] 85)).alloc oB9)
       have HA3:=Lh ((show WdB (w2.alloc (.cells #[.string (wordName x),.int .i64 (wordNum x)] 85)) w2.heap.size (wordName x) (wordNum x) from heap_alloc_new w2 _).alloc oB9)
       have HS3:=Lh (show SgB ((w2.alloc (.cells #[.string (wordName x),.int .i64 (wordNum x)] 85)).alloc oB9) (w2.heap.size+1) from heap_at_size _ _ _ (by simp))
       clear hb2
       go_wp2_with fail
       refine(rctok_any (HTK.out _ HB3.out) (i+1)).mono ?_
       rintro e w4 ⟨rfl,hb4⟩
       rw[HY.out]
       unfold tokV
       have HB4:=Lh (HB3.out.trans (hb4.mono HB3.out.size))
       have HQ4:=Lh (HQ3.out.below hb4)
       have HA4:=Lh (HA3.out.then hb4)
       have HS4:=Lh (HS3.out.below hb4)
       clear hb4
       go_wp2_with fail
       refine(rcindex_any _ compL y.text w4 HS4.out.reads (by decide)).mono ?_
       rintro e w' ⟨rfl,rfl⟩
       rw[HK.out]
       go_wp2_with fail
       refine(rctok_any (HTK.out _ HB4.out) (i+1)).mono ?_
       rintro e w5 ⟨rfl,hb5⟩
       rw[HY.out]
       unfold tokV
       have HB5:=Lh (HB4.out.trans (hb5.mono HB4.out.size))
       have HQ5:=Lh (HQ4.out.below hb5)
       have HA5:=Lh (HA4.out.then hb5)
       clear hb5
       go_wp2_with fail
       refine(rctok_any (HTK.out _ HB5.out) (i+2)).mono ?_
       rintro e w6 ⟨rfl,hb6⟩
       rw[HZ.out]
       have HB6:=Lh (HB5.out.trans (hb6.mono HB5.out.size))
       have HQ6:=Lh (HQ5.out.below hb6)
       have HA6:=Lh (HA5.out.then hb6)
       clear hb6
       go_wp2_with fail
       refine(rcword_any z w6).mono ?_
       rintro e w7 ⟨rfl,hb7⟩
       rw[HWZ.out,wordV_yes HWZ.out]
       have hsz7:w.heap.size≤w7.heap.size:=Nat.le_trans HB6.out.size hb7.size
       have HB7:=Lh ((HB6.out.trans (hb7.mono HB6.out.size)).alloc hsz7 (.cells #[.string (wordName z),.int .i64 (wordNum z)] 85))
       have HQ7:=Lh ((HQ6.out.below hb7).alloc (.cells #[.string (wordName z),.int .i64 (wordNum z)] 85))
       have HA7:=Lh ((HA6.out.then hb7).alloc (.cells #[.string (wordName z),.int .i64 (wordNum z)] 85))
       have HC7:=Lh (show WdB (w7.alloc (.cells #[.string (wordName z),.int .i64 (wordNum z)] 85)) w7.heap.size (wordName z) (wordNum z) from heap_alloc_new w7 _)
       clear hb7
       go_wp2_with fail
       have hw3:IntKind.i64.wrap (3+k)=3+k:=IntWalk.i64_in _ ⟨by omega,by omega⟩
       have hwi:IntKind.i64.wrap (i+3)=i+3:=IntWalk.i64_in _ ⟨by omega,by omega⟩
       obtain⟨a0,a1⟩:=HA7.out.facts
       obtain⟨d0,d1⟩:=HC7.out.facts
       have hak:=HA7.out.lt
       have hdk:=HC7.out.lt
       obtain⟨n0,n1⟩:=HA7.out.drew.facts
       obtain⟨n2,n3⟩:=HC7.out.drew.facts
       have hsA:w.heap.size < w2.heap.size:=Nat.lt_of_lt_of_le HQ1.out.lt (HSZ.out)
       have hsB:w.heap.size < w7.heap.size:=by have h:=hak;rw[World.size_alloc] at h;omega
       first
       | (go_region_held3 (fun w'=>w'.cell? ⟨w2.heap.size,0,none⟩ = some (.string (wordName x))∧w'.cell? ⟨w2.heap.size,1,none⟩ = some (.int .i64 (wordNum x))∧w'.cell? ⟨w7.heap.size,0,none⟩ = some (.string (wordName z))∧w'.cell? ⟨w7.heap.size,1,none⟩ = some (.int .i64 (wordNum z)))
           (first| (with_reducible exact⟨t0,t1,t2,t3⟩)| (with_reducible exact⟨f0,f1,f2,f3⟩)| (with_reducible exact⟨b0,b1,b2,b3⟩)| (with_reducible exact⟨n0,n1,n2,n3⟩)| (trace_state;fail))
           (first
            | (go_simp;go_at_call 91;(with_reducible refine(rctok_any (HTK.out _ HB7.out.drew) i).mono ?_)
               rintro e w8 ⟨rfl,hb8⟩
               rw[HX.out]
               unfold tokV
               have hB8:=HB7.out.drew.trans (hb8.mono HB7.out.drew.size)
               have hq8:=HQ7.out.drew.below hb8
               obtain⟨b0,b1⟩:=(HA7.out.drew.then hb8).facts
               obtain⟨b2,b3⟩:=(HC7.out.drew.then hb8).facts
               obtain⟨c0,c1,c2,c3,c4⟩:=hq8.facts
               obtain⟨z0,z1,z2,z3,z4⟩:=hq8.free
               have hlt8:=hq8.lt
               have ha8:=HA7.out.drew.then hb8
               have hd8:=HC7.out.drew.then hb8
               have hl2:=ha8.lt
               have hl7:=hd8.lt
               obtain⟨f0,f1⟩:=(ha8.alloc (.cells #[.int .i64 (3+k),.string (wordName x),.int .i64 (wordNum x),.string (wordName z),.int .i64 (wordNum z),.string ⟨#[]⟩,.string ⟨#[]⟩,.int .i64 x.line,.int .i64 x.col] 87)).facts
               obtain⟨f2,f3⟩:=(hd8.alloc (.cells #[.int .i64 (3+k),.string (wordName x),.int .i64 (wordNum x),.string (wordName z),.int .i64 (wordNum z),.string ⟨#[]⟩,.string ⟨#[]⟩,.int .i64 x.line,.int .i64 x.col] 87)).facts
               obtain⟨t0,t1⟩:=(((((((ha8).setOther (g:=w.heap.size) (j:=0) (by omega) (.slice (some ⟨w8.heap.size,0,none⟩) 1 1)).setOther (g:=w.heap.size) (j:=1) (by omega) (.int .i64 (i+3))).setOther (g:=w.heap.size) (j:=2) (by omega) (.int .i64 0)).setOther (g:=w.heap.size) (j:=3) (by omega) (.int .i64 0)).setOther (g:=w.heap.size) (j:=4) (by omega) (.int .i64 0)).alloc (.cells #[.int .i64 (3+k),.string (wordName x),.int .i64 (wordNum x),.string (wordName z),.int .i64 (wordNum z),.string ⟨#[]⟩,.string ⟨#[]⟩,.int .i64 x.line,.int .i64 x.col] 87)).facts
               obtain⟨t2,t3⟩:=(((((((hd8).setOther (g:=w.heap.size) (j:=0) (by omega) (.slice (some ⟨w8.heap.size,0,none⟩) 1 1)).setOther (g:=w.heap.size) (j:=1) (by omega) (.int .i64 (i+3))).setOther (g:=w.heap.size) (j:=2) (by omega) (.int .i64 0)).setOther (g:=w.heap.size) (j:=3) (by omega) (.int .i64 0)).setOther (g:=w.heap.size) (j:=4) (by omega) (.int .i64 0)).alloc (.cells #[.int .i64 (3+k),.string (wordName x),.int .i64 (wordNum x),.string (wordName z),.int .i64 (wordNum z),.string ⟨#[]⟩,.string ⟨#[]⟩,.int .i64 x.line,.int .i64 x.col] 87)).facts
               have hq9:=hq8.stored (.slice (some ⟨w8.heap.size,0,none⟩) 1 1) (i+3) 0 0 0
               have hb9:=below_tok hB8 (Nat.le_refl _) (.slice (some ⟨w8.heap.size,0,none⟩) 1 1) (.int .i64 (i+3)) (.int .i64 0) (.int .i64 0) (.int .i64 0)
               have HE:=Lh (hq9.alloc (.cells #[.int .i64 (3+k),.string (wordName x),.int .i64 (wordNum x),.string (wordName z),.int .i64 (wordNum z),.string ⟨#[]⟩,.string ⟨#[]⟩,.int .i64 x.line,.int .i64 x.col] 87)).facts
               have HBE:=Lh (hb9.alloc hb9.size (.cells #[.int .i64 (3+k),.string (wordName x),.int .i64 (wordNum x),.string (wordName z),.int .i64 (wordNum z),.string ⟨#[]⟩,.string ⟨#[]⟩,.int .i64 x.line,.int .i64 x.col] 87))
               have HB8:=Lh hB8;have HQ8:=Lh hq8
               clear hb8 hB8 hq8 ha8 hd8 hq9 hb9)))
       | fail
       all_goals
        have hown:=World.ownsRow_lit (e:=87) (size:=9) (((((w8.setCell ⟨w.heap.size,0,none⟩ (.slice (some ⟨w8.heap.size,0,none⟩) 1 1)).setCell ⟨w.heap.size,1,none⟩ (.int .i64 (i+3))).setCell ⟨w.heap.size,2,none⟩ (.int .i64 0)).setCell ⟨w.heap.size,3,none⟩ (.int .i64 0)).setCell ⟨w.heap.size,4,none⟩ (.int .i64 0)) (#[.int .i64 (3+k),.string (wordName x),.int .i64 (wordNum x),.string (wordName z),.int .i64 (wordNum z),.string ⟨#[]⟩,.string ⟨#[]⟩,.int .i64 x.line,.int .i64 x.col]) 1 (Nat.le_refl _) (by decide) rfl
        simp only[World.size_setCell] at hown
        have HOWN:=Lh (owns_mono hown (show w.heap.size≤w8.heap.size by omega))
        clear hown
        go_wp2
        obtain⟨e0,e1,e2,e3,e4⟩:=HE.out
        refine bodyPost_ret (v:=.agg #[.slice (some ⟨w8.heap.size,0,none⟩) 1 1,.int .i64 (i+3),.int .i64 0,.int .i64 0,.int .i64 0]) (by simp[results,Tryz.results142,go_sem,e0,e1,e2,e3,e4]) rfl ?_
        rw[HP.out]
        exact⟨w8.heap.size,1,rfl,HOWN.out,HBE.out⟩
     · rw[Bool.not_eq_true] at hwz
       have HWZ:=Lh hwz
       replace HP:Hid (compP T i=.bad 4 z.line z.col):=by unfold Hid;rw[HP.out,if_neg (by omega),hwz];rfl
       clear hn hwz
       go_enter Tryz.func142,Tryz.ntmps142
       go_wp2_with fail
       refine(rctok_any (HTK.out _ HB0.out) i).mono ?_
       rintro e w1 ⟨rfl,hb1⟩
       rw[HX.out]
       have HB1:=Lh (HB0.out.trans (hb1.mono HB0.out.size))
       have HQ1:=Lh (HQ.out.below hb1)
       clear hb1
       go_wp2_with fail
       refine(rcword_any x w1).mono ?_
       rintro e w2 ⟨rfl,hb2⟩
       rw[HW.out,wordV_yes HW.out]
       have hsz2:w.heap.size≤w2.heap.size:=Nat.le_trans HB1.out.size hb2.size
       have HSZ:=Lh hb2.size
       have HB3:=Lh (((HB1.out.trans (hb2.mono HB1.out.size)).alloc hsz2 (.cells #[.string (wordName x),.int .i64 (wordNum x)] 85)).alloc (by simp;omega) oB9)
       have HQ3:=Lh (((HQ1.out.below hb2).alloc (.cells #[.string (wordName x),.int .i64 (wordNum x)] 85)).alloc oB9)
       have HA3:=Lh ((show WdB (w2.alloc (.cells #[.string (wordName x),.int .i64 (wordNum x)] 85)) w2.heap.size (wordName x) (wordNum x) from heap_alloc_new w2 _).alloc oB9)
       have HS3:=Lh (show SgB ((w2.alloc (.cells #[.string (wordName x),.int .i64 (wordNum x)] 85)).alloc oB9) (w2.heap.size+1) from heap_at_size _ _ _ (by simp))
       clear hb2
       go_wp2_with fail
       refine(rctok_any (HTK.out _ HB3.out) (i+1)).mono ?_
       rintro e w4 ⟨rfl,hb4⟩
       rw[HY.out]
       unfold tokV
       have HB4:=Lh (HB3.out.trans (hb4.mono HB3.out.size))
       have HQ4:=Lh (HQ3.out.below hb4)
       have HA4:=Lh (HA3.out.then hb4)
       have HS4:=Lh (HS3.out.below hb4)
       clear hb4
       go_wp2_with fail
       refine(rcindex_any _ compL y.text w4 HS4.out.reads (by decide)).mono ?_
       rintro e w' ⟨rfl,rfl⟩
       rw[HK.out]
       go_wp2_with fail
       refine(rctok_any (HTK.out _ HB4.out) (i+1)).mono ?_
       rintro e w5 ⟨rfl,hb5⟩
       rw[HY.out]
       unfold tokV
       have HB5:=Lh (HB4.out.trans (hb5.mono HB4.out.size))
       have HQ5:=Lh (HQ4.out.below hb5)
       have HA5:=Lh (HA4.out.then hb5)
       clear hb5
       go_wp2_with fail
       refine(rctok_any (HTK.out _ HB5.out) (i+2)).mono ?_
       rintro e w6 ⟨rfl,hb6⟩
       rw[HZ.out]
       have HB6:=Lh (HB5.out.trans (hb6.mono HB5.out.size))
       have HQ6:=Lh (HQ5.out.below hb6)
       have HA6:=Lh (HA5.out.then hb6)
       clear hb6
       go_wp2_with fail
       refine(rcword_any z w6).mono ?_
       rintro e w7 ⟨rfl,hb7⟩
       rw[HWZ.out,wordV_no HWZ.out]
       have hsz7:w.heap.size≤w7.heap.size:=Nat.le_trans HB6.out.size hb7.size
       have HB7:=Lh ((HB6.out.trans (hb7.mono HB6.out.size)).alloc hsz7 (.cells #[.string ⟨#[]⟩,.int .i64 0] 85))
       have HQ7:=Lh ((HQ6.out.below hb7).alloc (.cells #[.string ⟨#[]⟩,.int .i64 0] 85))
       have HA7:=Lh ((HA6.out.then hb7).alloc (.cells #[.string ⟨#[]⟩,.int .i64 0] 85))
       have HC7:=Lh (show WdB (w7.alloc (.cells #[.string ⟨#[]⟩,.int .i64 0] 85)) w7.heap.size ⟨#[]⟩ 0 from heap_alloc_new w7 _)
       clear hb7
       go_wp2_with fail
       refine(rcbad_any (HTK.out _ HB7.out) (Nat.le_trans hB HB7.out.size) (i+2) 4).mono ?_
       rintro e w8 ⟨rfl,hb3⟩
       rw[HZ.out]
       have HBx:=Lh (HB7.out.trans (hb3.mono HB7.out.size))
       have hq3:=HQ7.out.below hb3
       obtain⟨c0,c1,c2,c3,c4⟩:=hq3.facts
       obtain⟨z0,z1,z2,z3,z4⟩:=hq3.free
       have hlt3:=hq3.lt
       have HE:=Lh (hq3.stored (.slice none 0 0) 0 4 z.line z.col).facts
       clear hb3 hq3
       go_wp2
       obtain⟨e0,e1,e2,e3,e4⟩:=HE.out
       refine bodyPost_ret (v:=.agg #[.slice none 0 0,.int .i64 0,.int .i64 4,.int .i64 z.line,.int .i64 z.col]) (by simp[results,Tryz.results142,go_sem,e0,e1,e2,e3,e4]) rfl ?_
       exact RPost.fault HP.out 0 (by decide) rfl (below_tok HBx.out (Nat.le_refl _) _ _ _ _ _)
 · rw[Bool.not_eq_true] at hw
   have HW:=Lh hw
   have HP:Hid (compP T i=.bad 4 x.line x.col):=by unfold Hid compP badP;rw[HX.out,hw];rfl
   clear hw
   go_enter Tryz.func142,Tryz.ntmps142
   go_wp2_with fail
   refine(rctok_any (HTK.out _ HB0.out) i).mono ?_
   rintro e w1 ⟨rfl,hb1⟩
   rw[HX.out]
   have HB1:=Lh (HB0.out.trans (hb1.mono HB0.out.size))
   have HQ1:=Lh (HQ.out.below hb1)
   clear hb1
   go_wp2_with fail
   refine(rcword_any x w1).mono ?_
   rintro e w2 ⟨rfl,hb2⟩
   rw[HW.out,wordV_no HW.out]
   have HB2:=Lh ((HB1.out.trans (hb2.mono HB1.out.size)).alloc (by have:=HB1.out.size;have:=hb2.size;omega) (.cells #[.string ⟨#[]⟩,.int .i64 0] 85))
   have HQ2:=Lh ((HQ1.out.below hb2).alloc (.cells #[.string ⟨#[]⟩,.int .i64 0] 85))
   clear hb2
   go_wp2_with fail
   refine(rcbad_any (HTK.out _ HB2.out) (Nat.le_trans hB HB2.out.size) i 4).mono ?_
   rintro e w3 ⟨rfl,hb3⟩
   rw[HX.out]
   have HB3:=Lh (HB2.out.trans (hb3.mono HB2.out.size))
   have hq3:=HQ2.out.below hb3
   obtain⟨c0,c1,c2,c3,c4⟩:=hq3.facts
   obtain⟨z0,z1,z2,z3,z4⟩:=hq3.free
   have hlt3:=hq3.lt
   have HE:=Lh (hq3.stored (.slice none 0 0) 0 4 x.line x.col).facts
   clear hb3 hq3
   go_wp2
   obtain⟨e0,e1,e2,e3,e4⟩:=HE.out
   refine bodyPost_ret (v:=.agg #[.slice none 0 0,.int .i64 0,.int .i64 4,.int .i64 x.line,.int .i64 x.col]) (by simp[results,Tryz.results142,go_sem,e0,e1,e2,e3,e4]) rfl ?_
   exact RPost.fault HP.out 0 (by decide) rfl (below_tok HB3.out (Nat.le_refl _) _ _ _ _ _)
end Go.Proofs.YthlofmnmacpogaaGreatDoor
