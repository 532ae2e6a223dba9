/- A part of a proof: 'warder/warderlaw07.DeclOnes' returns true for every input and leaves its arguments as they were; no condition. The row lists package-level variables of Go's library with what they hold at the start; the card ties them to the program's text. -/
import Derived.Test.YthlofmnmacpogaaGreatDoorOn22
import Derived.Test.YthlofmnmacpogaaGreatDoorOn07
import Derived.Test.YthlofmnmacpogaaGreatDoorOn09
import Derived.Test.YthlofmnmacpogaaGreatDoorOn15
namespace Go.Proofs.YthlofmnmacpogaaGreatDoor
open Go.RowKit
theorem one_any {w:World} {B b:Nat} {s:ByteArray} {L:List Rn} {lv:Value} {i:Nat} {ov:Value} {T:List Tk} (h:Rd w B b s L lv i ov T) (hm:MaxCell w) (hB0:0 < B) (hB:B≤w.heap.size) (hO:RnOk s L) (hT:T.length≤5000) (hs:s.size≤4294967200) (hi:i < L.length) :
 Calls Tryz.prog 30 #[.pointer (some ⟨b,0,none⟩)] w (Stepped w B b s L lv (oneT s L i T)):=by
 by_cases hb:blankB (rAt L i)=true
 · exact one_word h hm hB0 hB hO hT hs hi (fun e=>by rw[hb] at e;cases e)
 · have hb:blankB (rAt L i)=false:=by simpa using hb
   by_cases h35:rAt L i=35
   · exact one_word h hm hB0 hB hO hT hs hi (fun _ e=>absurd h35 e)
   · by_cases hl:letterB (rAt L i)=true
     · exact one_word h hm hB0 hB hO hT hs hi (fun _ _=>hl)
     · have hl:letterB (rAt L i)=false:=by simpa using hl
       by_cases hd:digitB (rAt L i)=true
       · exact one_num1 h hm hB0 hB hO hT hs hi hb h35 hl hd
       · have hd:digitB (rAt L i)=false:=by simpa using hd
         by_cases h45:rAt L i=45
         · by_cases hd1:digitB (rAt L (i+1))=true
           · exact one_num2 h hm hB0 hB hO hT hs hi hb h35 hl hd h45 hd1
           · exact one_sign1 h hm hB0 hB hO hT hs hi hb h35 hl hd h45 (by simpa using hd1)
         · exact one_sign2 h hm hB0 hB hO hT hs hi hb h35 hl hd h45
theorem tokT_on (s:ByteArray) (L:List Rn) (i:Nat) (T:List Tk) (hi:i < L.length) (he: (tokT s L i T).er=0):i < (tokT s L i T).i∧∃ x,(tokT s L i T).T=T ++ [x]:=by
 unfold tokT at he ⊢
 by_cases hl:letterB (rAt L i)=true
 · rw[if_pos hl] at he ⊢
   have hin:innerB (rAt L i)=true:=by unfold innerB;rw[hl];rfl
   have h1:=(row_facts (q:=innerB) (by decide) hi hin).1
   exact⟨by unfold wordT wordN;show i < i+_;omega,_,rfl⟩
 · rw[if_neg hl] at he ⊢
   by_cases hn:isNum L i=true
   · rw[if_pos hn]
     have h1:=(rowE_ge digitB L (i+1)).1
     exact⟨by unfold numbT numN;show i < i+_;omega,_,rfl⟩
   · rw[if_neg hn] at he ⊢
     unfold signT at he ⊢
     by_cases hs:signN (rAt L i) (rAt L (i+1))=0
     · rw[if_pos hs] at he;simp at he
     · rw[if_neg hs]
       exact⟨by show i < i+_;omega,_,rfl⟩
theorem oneT_on (s:ByteArray) (L:List Rn) (i:Nat) (T:List Tk) (hi:i < L.length) (hT:T.length≤4096) (he: (oneT s L i T).er=0):i < (oneT s L i T).i∧(oneT s L i T).T.length≤4096:=by
 unfold oneT at he ⊢
 by_cases hb:blankB (rAt L i)=true
 · rw[if_pos hb];exact⟨by show i < i+1;omega,hT⟩
 · rw[if_neg hb] at he ⊢
   by_cases h35:rAt L i=35
   · rw[if_pos h35] at he ⊢
     have h1:=rowE_yes restB (by decide) L i (by rw[h35];decide)
     have h2:=(rowE_ge restB L (i+1)).1
     unfold restT at he ⊢
     split
     · rename_i h;rw[if_pos h] at he;simp at he
     · exact⟨by show i < rowE restB L i;omega,hT⟩
   · rw[if_neg h35] at he ⊢
     unfold capT at he ⊢
     by_cases hr: (tokT s L i T).er≠0
     · rw[if_pos hr] at he;exact absurd he hr
     · rw[if_neg hr] at he ⊢
       by_cases hc:4096 < (tokT s L i T).T.length
       · rw[if_pos hc] at he;simp at he
       · rw[if_neg hc]
         exact⟨(tokT_on s L i T hi (by omega)).1,by omega⟩
def endTk (s:ByteArray):Tk:=⟨5,⟨#[]⟩,0,endL s,endC s⟩
def tokRes (s:ByteArray):Res:=
 if 16384 < (allR s).length then⟨3,0,0,0,[]⟩
 else if(runT s (allR s) (allR s).length 0 []).er≠0 then{ runT s (allR s) (allR s).length 0 [] with T:=[] }
 else⟨0,0,0,0,(runT s (allR s) (allR s).length 0 []).T ++ [endTk s]⟩
def TokPost (w:World) (s:ByteArray) (e:Ending) (w':World):Prop:=
 ∃ v,e=.returned (.tuple #[v,faultV (tokRes s).er (tokRes s).line (tokRes s).col])∧w'.ownsRow w.heap.size 48 5 v (tokRes s).T.length (tkFlat (tokRes s).T)∧Below w.heap.size w w'
set_option maxHeartbeats 2000000 in
theorem tokens_long (s:ByteArray) (w:World) (hs:s.size≤4294967200) (hl:16384 < (allR s).length) :
 Calls Tryz.prog 13 #[.string s] w (TokPost w s):=by
 have HS:Hid (tokRes s= ⟨3,0,0,0,[]⟩):=by unfold Hid tokRes;rw[if_pos hl]
 go_enter Tryz.func13,Tryz.ntmps13
 go_wp2_with fail
 refine(textRunes_long s _ (by omega) hl).mono ?_
 rintro e w1 ⟨rfl,hb1⟩
 have hf1:=(FltAt.new w 0 0 0).below hb1 (by simp)
 obtain⟨a0,a1,a2,a3,a4,a5⟩:=hf1.facts
 obtain⟨e0,e1,e2,_,_,_⟩:=(hf1.stored 3 0 0).facts
 have HB1:=Lib.hid ((((((Below.refl w.heap.size w).alloc (Nat.le_refl _) _).trans (hb1.mono (by simp))).setCell (p:=⟨w.heap.size,0,none⟩) (Nat.le_refl _) (.int .i64 3)).setCell (p:=⟨w.heap.size,1,none⟩) (Nat.le_refl _) (.int .i64 0)).setCell (p:=⟨w.heap.size,2,none⟩) (Nat.le_refl _) (.int .i64 0))
 clear hb1 hf1
 go_wp2
 exact bodyPost_ret (v:=.tuple #[.slice none 0 0,.agg #[.int .i64 3,.int .i64 0,.int .i64 0]]) (by simp[results,Tryz.results13,go_sem,e0,e1,e2]) rfl ⟨_,by rw[HS.out];rfl,by rw[HS.out];exact World.ownsRow_nil _ _ _ _,HB1.out⟩
structure TokRel (s:ByteArray) (w:World) (b:Nat) (lv:Value) (wr:World) (i:Nat) (ov:Value) (T:List Tk) (k:Nat):Prop where
 rd:Rd wr (w.heap.size+1) b s (allR s) lv i ov T
 low:Below (w.heap.size+1) (w.alloc (.cells #[.int .i64 0,.int .i64 0,.int .i64 0] 28)) wr
 cap:T.length≤4096
 fuel: (allR s).length - i≤k
 eq:runT s (allR s) (allR s).length 0 []=runT s (allR s) k i T
theorem TokRel.step {s:ByteArray} {w:World} {b:Nat} {lv:Value} {wr w2:World} {i:Nat} {ov ov2:Value} {T:List Tk} {k:Nat} (h:TokRel s w b lv wr i ov T k) (hi:i < (allR s).length) (he: (oneT s (allR s) i T).er=0)
 (hk:Took wr w2 (w.heap.size+1) b s (allR s) lv (oneT s (allR s) i T).i ov2 (oneT s (allR s) i T).T) (o:Obj) :
 TokRel s w b lv (w2.alloc o) (oneT s (allR s) i T).i ov2 (oneT s (allR s) i T).T (k - 1):=by
 have h1:=oneT_on s (allR s) i T hi h.cap he
 have hf:=h.fuel
 have hsz:w.heap.size+1≤wr.heap.size:=by have:=h.low.size;simpa using this
 refine⟨(hk.then ((Below.refl _ _).alloc (Nat.le_refl _) o) hsz).rd,h.low.trans (hk.low.alloc (by have:=hk.low.size;omega) o),h1.2,by omega,?_⟩
 rw[h.eq]
 obtain⟨q,rfl⟩:∃ q,k=q+1:=⟨k - 1,by omega⟩
 rw[runT,if_pos hi,if_neg (by omega)]
 rfl
theorem cell_kept {wr w2 w3:World} {o:Obj} {row:Option Nat} {b j:Nat} {v:Value} (hg: (w2.alloc o).grownBy w3 row) (hb:Below wr.heap.size wr w2) (hlt:b < wr.heap.size) (hne:row≠some b) (h:wr.cell? ⟨b,j,none⟩ = some v):w3.cell? ⟨b,j,none⟩ = some v:=by
 have e:w3.heap[b]?=wr.heap[b]?:=by
  have:=hb.size
  rw[hg.block b (by simp;omega) (Ne.symm hne),Below.heap_alloc _ _ _ (by omega),hb.block b hlt]
 exact(World.cell?_of_block (a:=⟨b,j,none⟩) e).trans h
theorem flt_kept {wr w2 w3:World} {o:Obj} {row:Option Nat} {b:Nat} {er l c:Int} (hg: (w2.alloc o).grownBy w3 row) (hb:Below wr.heap.size wr w2) (hlt:b < wr.heap.size) (hne:row≠some b) (h:FltAt wr b er l c):FltAt w3 b er l c:=by
 have:=hb.size
 unfold FltAt at *
 rw[hg.block b (by simp;omega) (Ne.symm hne),Below.heap_alloc _ _ _ (by omega),hb.block b hlt]
 exact h
theorem own_stored {w:World} {base g n cap k:Nat} {xs:List Value} {er l c e' l' c':Int} (h:w.ownsRow base 48 5 (.slice (some ⟨g,0,none⟩) n cap) n xs) (hf:FltAt w k er l c) :
 (((w.setCell ⟨k,0,none⟩ (.int .i64 e')).setCell ⟨k,1,none⟩ (.int .i64 l')).setCell ⟨k,2,none⟩ (.int .i64 c')).ownsRow base 48 5 (.slice (some ⟨g,0,none⟩) n cap) n xs:=by
 have h1:=heap_setCell_same w k 0 _ _ (.int .i64 e') hf
 have h2:=heap_setCell_same _ k 1 _ _ (.int .i64 l') h1
 exact owns_setCell (owns_setCell (owns_setCell h hf (by decide) _ _) h1 (by decide) _ _) h2 (by decide) _ _
set_option maxRecDepth 100000 in
set_option maxHeartbeats 4000000 in
theorem tokens_ok (s:ByteArray) (w:World) (hm:MaxCell w) (hs:s.size≤4294967200) (hl: (allR s).length≤16384) :
 Calls Tryz.prog 13 #[.string s] w (TokPost w s):=by
 have hO:=Lib.hid (rnOk s hl)
 have HM:=Lib.hid hm
 have HL:Hid ((allR s).length≤16384):=hl
 have HZ:Hid (0 < w.heap.size):=by obtain⟨m,hm⟩:=hm;exact World.block_lt_of_cell? w _ hm
 have HT:Hid (tokRes s=if(runT s (allR s) (allR s).length 0 []).er≠0 then{ runT s (allR s) (allR s).length 0 [] with T:=[] } else⟨0,0,0,0,(runT s (allR s) (allR s).length 0 []).T ++ [endTk s]⟩):=by unfold Hid tokRes;rw[if_neg (by omega)]
 clear hm
 go_enter Tryz.func13,Tryz.ntmps13
 go_wp2_with fail
 refine(textRunes_ok s _ (by omega) hl).mono ?_
 rintro e w1 ⟨lv,rfl,hown,hb1⟩
 obtain⟨ad,cap,hlv⟩:=owns_len hown
 subst hlv
 have hB1:Below (w.heap.size+1) (w.alloc (.cells #[.int .i64 0,.int .i64 0,.int .i64 0] 28)) w1:=by simpa using hb1
 have hsz1:w.heap.size+1≤w1.heap.size:=by have:=hB1.size;simpa using this
 have H0:Hid (TokRel s w w1.heap.size (.slice ad (allR s).length cap) (w1.alloc (.cells #[.string s,.slice ad (allR s).length cap,.int .i64 0,.slice none 0 0] 72)) 0 (.slice none 0 0) [] (allR s).length):=by
  refine⟨⟨heap_alloc_new w1 _,hsz1,?_,World.ownsRow_nil _ _ _ _⟩,hB1.alloc hsz1 _,by simp,by omega,rfl⟩
  have:=World.ownsRow.alloc hown (.cells #[.string s,.slice ad (allR s).length cap,.int .i64 0,.slice none 0 0] 72)
  simpa using this
 clear hown hb1 hB1
 go_wp2
 go_loopw [] (fun wr=>∃ (i k:Nat) (ov:Value) (T:List Tk),TokRel s w w1.heap.size (.slice ad (allR s).length cap) wr i ov T k) (fun wr=>(allR s).length - placeOf wr w1.heap.size)
 case atStart=>exact⟨0,(allR s).length,_,[],H0.out⟩
 case round=>
  obtain⟨i,k,ov,T,R⟩:=hrel
  clear H0
  have hszr:w.heap.size+1≤wr.heap.size:=by have:=R.low.size;simpa using this
  have HR:=Lib.hid R
  obtain⟨c0,c1,c2,c3,f2,f3⟩:=R.rd.facts
  have hF:=(FltAt.new w 0 0 0).below R.low (Nat.lt_succ_self _)
  have HF:=Lib.hid hF
  have hTl:=R.cap
  have HMr:=Lib.hid ((HM.out.below ((Below.refl _ w).alloc (Nat.le_refl _) (.cells #[.int .i64 0,.int .i64 0,.int .i64 0] 28)) HZ.out).below R.low (Nat.succ_pos _))
  have hLl:=HL.out
  clear R hF
  by_cases hlt:i < (allR s).length
  · have hiz: (i:Int) < ((allR s).length:Int):=by omega
    obtain⟨⟨er,line,col,j,T2⟩,hr⟩:∃ r,oneT s (allR s) i T=r:=⟨_,rfl⟩
    have HRR:=Lib.hid hr
    clear hr
    go_wp2_with fail
    refine(one_any HR.out.rd HMr.out (Nat.succ_pos _) hszr hO.out (by omega) hs hlt).mono ?_
    rw[HRR.out]
    rintro e w2 ⟨rfl,ov2,hk⟩
    have hfr:=HF.out.took hk (by omega)
    have HK:=Lib.hid hk
    have HFR:=Lib.hid hfr
    have hfl:=hfr.lt
    clear hk hfr
    by_cases her:er=0
    · subst her
      rw[faultV_ok]
      have HN:=Lib.hid (HR.out.step (o:=.cells #[.int .i64 0,.int .i64 0,.int .i64 0] 28) hlt (by rw[HRR.out]) (by rw[HRR.out];exact HK.out))
      have hj:i < j:=by have:=(oneT_on s (allR s) i T hlt hTl (by rw[HRR.out])).1;rw[HRR.out] at this;exact this
      go_wp2
      go_roundw
      case rel=>exact⟨_,_,_,_,HN.out⟩
      case measure=>
       have p1:placeOf (w2.alloc (.cells #[.int .i64 0,.int .i64 0,.int .i64 0] 28)) w1.heap.size=j:=by have:=HN.out.rd.place;rw[HRR.out] at this;exact this
       have p2:=HR.out.rd.place
       omega
    · rw[faultV_no her]
      have HTR:Hid (tokRes s= ⟨er,line,col,j,[]⟩):=by
       unfold Hid
       have hq:runT s (allR s) (allR s).length 0 []= ⟨er,line,col,j,T2⟩:=by
        rw[HR.out.eq]
        have hf:=HR.out.fuel
        obtain⟨q,rfl⟩:∃ q,k=q+1:=⟨k - 1,by omega⟩
        rw[runT,if_pos hlt,if_pos (by rw[HRR.out];exact her),HRR.out]
       rw[HT.out,hq,if_pos her]
      have HER:=Lib.hid her
      have hern: (er == 0)=false:=beq_eq_false_iff_ne.2 her
      obtain⟨a0,a1,a2,a3,a4,a5⟩:=HFR.out.facts
      obtain⟨e0,e1,e2,_,_,_⟩:=((HFR.out.stored er line col).alloc (.cells #[.int .i64 er,.int .i64 line,.int .i64 col] 28)).facts
      clear her
      go_wp2
      have HB6:=Lib.hid (((((((Below.refl w.heap.size w).alloc (Nat.le_refl _) (.cells #[.int .i64 0,.int .i64 0,.int .i64 0] 28)).trans (HR.out.low.mono (Nat.le_succ _))).trans (HK.out.low.mono (Nat.le_succ _))).setCell (p:=⟨w.heap.size,0,none⟩) (Nat.le_refl _) (.int .i64 er)).setCell (p:=⟨w.heap.size,1,none⟩) (Nat.le_refl _) (.int .i64 line)).setCell (p:=⟨w.heap.size,2,none⟩) (Nat.le_refl _) (.int .i64 col))
      go_region
      all_goals go_wp2
      all_goals exact bodyPost_ret (v:=.tuple #[.slice none 0 0,.agg #[.int .i64 er,.int .i64 line,.int .i64 col]]) (by simp[results,Tryz.results13,go_sem,e0,e1,e2]) rfl ⟨_,by rw[HTR.out];show Ending.returned (.tuple #[_,_])=Ending.returned (.tuple #[_,faultV er line col]);rw[faultV_no HER.out],by rw[HTR.out];exact World.ownsRow_nil _ _ _ _,(HB6.out.alloc (by have:=HK.out.low.size;simp;omega) _).drew⟩
  · have hiz: ((allR s).length:Int)≤(i:Int):=by omega
    have HTR:Hid (tokRes s= ⟨0,0,0,0,T ++ [endTk s]⟩):=by
     unfold Hid
     have hq:runT s (allR s) (allR s).length 0 []= ⟨0,0,0,i,T⟩:=by
      rw[HR.out.eq]
      cases k with
      | zero=>rfl
      | succ q=>rw[runT,if_neg hlt]
     rw[HT.out,hq];rfl
    obtain⟨i0,hi0,hz0,hz1,hz2⟩:=info_parts info_token
    have HIP:=Lib.hid (And.intro hi0 (And.intro hz0 (And.intro hz1 hz2)))
    have HOWN:=Lib.hid HR.out.rd.out
    have hbr:=HR.out.rd.lt
    have HNE:=Lib.hid (owns_ne_block HR.out.rd.out HR.out.rd.blk (by decide))
    have hwl:w.heap.size < wr.heap.size:=by omega
    have HNW:Hid (ov.ownBlock≠some w.heap.size):=fun e=>by have:=(HR.out.rd.out.lt _ e).1;omega
    clear hi0 hz0 hz1 hz2
    go_wp2
    go_region_held3 (fun w'=>w'.cell? ⟨w1.heap.size,3,none⟩ = some ov)
     (first|go_keep|assumption| (rw[World.cell?_setCell_other _ _ _ _ (by first| (simp;done)| (simp;omega))];rw[World.cell?_setCell_other _ _ _ _ (by first| (simp;done)| (simp;omega))];rw[World.cell?_setCell_other _ _ _ _ (by first| (simp;done)| (simp;omega))];assumption))
     (first
       | (go_at_call 31;refine(at_any s _ (by omega)).mono ?_;rintro e w2 ⟨rfl,hb2⟩;have q3:=(hb2.cell (p:=⟨w1.heap.size,3,none⟩) hbr).trans c3;have HB2:=Lib.hid (((Below.refl wr.heap.size wr).drew).trans hb2);clear hb2)
       | (refine step_append_lies _ (by rfl) _ _ _ (by rfl) (w.heap.size+1) 48 i0 _ 5 48 Tryz.underlying33 HIP.out.1 HIP.out.2.1 HIP.out.2.2.1 HIP.out.2.2.2 rfl (by omega) ov T.length (tkFlat T) (by rfl) (World.ownsRow.alloc (owns_below HOWN.out HB2.out) _) ⟨w2.heap.size,0,none⟩ 1 1 [.int .i64 5,.string ⟨#[]⟩,.int .i64 0,.int .i64 (endL s),.int .i64 (endC s)] (by rfl) (by rfl) (World.news_of_block (cs:=#[.int .i64 5,.string ⟨#[]⟩,.int .i64 0,.int .i64 (endL s),.int .i64 (endC s)]) (t:=48) (fr:=(0,0)) (heap_alloc_new w2 _)) (by simp[Value.oneCell']) (by omega) (by unfold maxLen;omega) (by omega) (by have:=HB2.out.size;simp;omega) (w2.heap.size+1) (by simp) ?_;intro g3 cap3 w3 hown3 hgrow hat hlt3;have p3:=cell_kept hgrow HB2.out hbr HNE.out c3;have hf3:=flt_kept hgrow HB2.out hwl HNW.out HF.out;obtain⟨a0,a1,a2,a3,a4,a5⟩:=hf3.facts))
    all_goals
     have HF3:=Lib.hid hf3
     have HO3:=Lib.hid hown3
     have HB3:=Lib.hid (((((((Below.refl w.heap.size w).alloc (Nat.le_refl _) (.cells #[.int .i64 0,.int .i64 0,.int .i64 0] 28)).trans (HR.out.low.mono (Nat.le_succ _))).trans (HB2.out.mono (by omega))).alloc (by have:=HB2.out.size;omega) (.cells #[.int .i64 5,.string ⟨#[]⟩,.int .i64 0,.int .i64 (endL s),.int .i64 (endC s)] 48)).grown hgrow (by have:=HB2.out.size;simp;omega) (fun k e=>by have:=(HOWN.out.lt k e).1;omega)))
     obtain⟨e0,e1,e2,_,_,_⟩:=(hf3.stored 0 0 0).facts
     clear hf3 hown3 hgrow hat p3
     go_wp2
     exact bodyPost_ret (v:=.tuple #[.slice (some ⟨g3,0,none⟩) (T.length+1) cap3,.agg #[.int .i64 0,.int .i64 0,.int .i64 0]]) (by simp[results,Tryz.results13,go_sem,e0,e1,e2]) rfl
      ⟨_,by rw[HTR.out];rfl,by
        rw[HTR.out]
        show World.ownsRow _ _ _ _ _ (T ++ [endTk s]).length (tkFlat (T ++ [endTk s]))
        rw[tkFlat_snoc,List.length_append,List.length_singleton]
        exact owns_mono (own_stored HO3.out HF3.out) (Nat.le_succ _),((HB3.out.setCell (p:=⟨w.heap.size,0,none⟩) (Nat.le_refl _) _).setCell (p:=⟨w.heap.size,1,none⟩) (Nat.le_refl _) _).setCell (p:=⟨w.heap.size,2,none⟩) (Nat.le_refl _) _⟩
theorem tokens_any (s:ByteArray) (w:World) (hm:MaxCell w) (hs:s.size≤4294967200) :
 Calls Tryz.prog 13 #[.string s] w (TokPost w s):=by
 by_cases hl:16384 < (allR s).length
 · exact tokens_long s w hs hl
 · exact tokens_ok s w hm hs (by omega)
end Go.Proofs.YthlofmnmacpogaaGreatDoor
namespace Go.Proofs.YthlofmnmacpogaaGreatDoor
open Go.RowKit
theorem runT_capD (s:ByteArray) (L:List Rn):∀ (k i:Nat) (T:List Tk),T.length≤4096→(runT s L k i T).er=0→(runT s L k i T).T.length≤4096
 | 0,i,T,hT,_=>hT
 | k+1,i,T,hT,he=>by
   rw[runT] at he ⊢
   split
   · rename_i hi
     rw[if_pos hi] at he
     split
     · rename_i h;rw[if_pos h] at he;exact absurd he h
     · rename_i h
       rw[if_neg h] at he
       exact runT_capD s L k _ _ (oneT_on s L i T hi hT (by omega)).2 he
   · exact hT
theorem tokRes_endD (s:ByteArray) (h: (tokRes s).er=0):∃ X,(tokRes s).T=X ++ [endTk s]∧X.length≤4096:=by
 unfold tokRes at h ⊢
 split
 · rename_i h1;rw[if_pos h1] at h;simp at h
 · rename_i h1
   rw[if_neg h1] at h
   split
   · rename_i h2;rw[if_pos h2] at h;exact absurd h h2
   · rename_i h2
     exact⟨_,rfl,runT_capD _ _ _ _ _ (by simp) (by omega)⟩
theorem tkIn_ownsD {w:World} {base B:Nat} {v:Value} {T:List Tk} (h:w.ownsRow base 48 5 v T.length (tkFlat T)) (hB:w.heap.size≤B) (hT:T.length≤1000000):TkIn w B v T:=by
 rcases h.2 with⟨rfl,h0⟩ | ⟨g,cap,cur,rfl,hb,hg,_⟩
 · exact⟨none,0,by rw[h0],hT,.inl (List.length_eq_zero_iff.1 h0)⟩
 · have hlt:=(Array.getElem?_eq_some_iff.1 hg).1
   refine⟨_,cap,rfl,hT,.inr ⟨g,0,rfl,by omega,hlt,fun k x hx=>?_⟩⟩
   have hk:=(List.getElem?_eq_some_iff.1 hx).1
   have cell:∀ j,j < 5→w.cell? ⟨g,0+k * 5+j,none⟩ = (tkCells x)[j]?:=fun j hj=>by
    rw[Nat.zero_add,World.ownsRow.cellAt h (k * 5+j) (by omega),tkFlat_get T k j x hx hj]
   exact⟨cell 0 (by omega),cell 1 (by omega),cell 2 (by omega),cell 3 (by omega),cell 4 (by omega)⟩
end Go.Proofs.YthlofmnmacpogaaGreatDoor
namespace Go.Proofs.YthlofmnmacpogaaGreatDoor
open Go.RowKit
theorem up_attr (T:List Tk) (r:RS):r.i≤(attrD T r).i:=by
 have h1:=take_up T 1 r
 have h2:=need_up T 4 sEq (setName (nameV T r) (nameD T r))
 have h3:=take_up T 3 (needD T 4 sEq (setName (nameV T r) (nameD T r)))
 exact Int.le_trans h1 (Int.le_trans h2 h3)
theorem up_user (T:List Tk) (r:RS):r.i≤(userD T r).i:=take_up T 1 r
theorem up_more (T:List Tk) (r:RS):r.i≤(moreD T r).i:=take_up T 1 r
theorem up_roleL (T:List Tk):∀ (k:Nat) (r:RS),r.i≤(roleL T k r).i
 | 0,_=>Int.le_refl _
 | k+1,r=>by
   rw[roleL]
   split
   · exact Int.le_trans (up_more T r) (up_roleL T k _)
   · exact Int.le_refl _
theorem up_role (T:List Tk) (r:RS):r.i≤(roleD T r).i:=
 Int.le_trans (take_up T 1 r) (Int.le_trans (need_up T 4 sEq (setName (nameV T r) (nameD T r))) (Int.le_trans (up_more T _) (up_roleL T _ _)))
theorem up_stage (T:List Tk) (r:RS):r.i≤(stageD T r).i:=by
 have h1:r.i≤(setName (nameV T r) (nameD T r)).i:=take_up T 1 r
 unfold stageD
 dsimp only
 split
 · exact Int.le_trans h1 (Int.le_trans (may_up T 2 wIn _) (take_up T 1 _))
 · exact h1
theorem up_times (T:List Tk) (r:RS):r.i≤(timesD T r).i:=by
 unfold timesD
 dsimp only
 split
 · exact Int.le_trans (Int.le_of_eq (failD_i T 11 r).1.symm) (take_up T 3 (failD T 11 r))
 · exact take_up T 3 r
theorem up_setsL (T:List Tk):∀ (k:Nat) (r:RS),r.i≤(setsL T k r).i
 | 0,_=>Int.le_refl _
 | k+1,r=>by
   rw[setsL]
   split
   · exact Int.le_trans (may_up T 4 sComma r) (Int.le_trans (up_more T _) (up_setsL T k _))
   · exact Int.le_refl _
theorem up_event (T:List Tk) (r:RS):r.i≤(eventD T r).i:=by
 have h5:r.i≤(evHead T r).i:=by
  obtain⟨r1,e1⟩:∃ q,setName (nameV T r) (nameD T r)=q:=⟨_,rfl⟩
  have u1:r.i≤r1.i:=by rw[←e1];exact take_up T 1 r
  obtain⟨r2,e2⟩:∃ q,needD T 2 wBy r1=q:=⟨_,rfl⟩
  have u2:r1.i≤r2.i:=by rw[←e2];exact need_up T 2 wBy r1
  obtain⟨r3,e3⟩:∃ q,setRole (nameV T r2) (nameD T r2)=q:=⟨_,rfl⟩
  have u3:r2.i≤r3.i:=by rw[←e3];exact take_up T 1 r2
  obtain⟨r4,e4⟩:∃ q,needD T 2 wIn r3=q:=⟨_,rfl⟩
  have u4:r3.i≤r4.i:=by rw[←e4];exact need_up T 2 wIn r3
  have u5:r4.i≤(setStage (nameV T r4) (nameD T r4)).i:=take_up T 1 r4
  have e:evHead T r=setStage (nameV T r4) (nameD T r4):=by simp only[evHead,e1,e2,e3,e4]
  rw[e];omega
 have h6: (evHead T r).i≤(evSets T (evHead T r)).i:=by
  unfold evSets
  split
  · exact Int.le_trans (may_up T 2 wSets _) (Int.le_trans (up_more T _) (up_setsL T _ _))
  · exact Int.le_refl _
 rw[event_is]
 unfold evMax
 split
 · exact Int.le_trans h5 (Int.le_trans h6 (Int.le_trans (may_up T 2 wMax _) (up_times T _)))
 · exact Int.le_trans h5 h6
theorem up_on (T:List Tk) (r:RS):r.i≤(onD T r).i:=by
 unfold onD
 split
 · exact Int.le_trans (may_up T 2 wOn r) (take_up T 1 _)
 · exact Int.le_refl _
theorem up_if (T:List Tk) (r:RS):r.i≤(ifD T r).i:=by
 unfold ifD
 cases hp:readP T false r.i with
 | ok o a=>exact Int.le_of_lt (readD_in hp).2.1
 | bad e l c=>exact Int.le_refl _
theorem up_sentry (T:List Tk) (r:RS):r.i≤(sentryD T r).i:=by
 unfold sentryD
 split
 · exact Int.le_trans (up_on T r) (Int.le_trans (may_up T 2 wIf _) (up_if T _))
 · exact up_on T r
theorem up_guard (T:List Tk) (r:RS):r.i≤(guardD T r).i:=
 Int.le_trans (show r.i≤(setStage (nameV T r) (nameD T r)).i from take_up T 1 r) (up_sentry T _)
theorem up_mile (T:List Tk) (r:RS):r.i≤(mileD T r).i:=by
 obtain⟨r1,e1⟩:∃ q,setName (nameV T r) (nameD T r)=q:=⟨_,rfl⟩
 have u1:r.i≤r1.i:=by rw[←e1];exact take_up T 1 r
 obtain⟨r2,e2⟩:∃ q,needD T 2 wOf r1=q:=⟨_,rfl⟩
 have u2:r1.i≤r2.i:=by rw[←e2];exact need_up T 2 wOf r1
 obtain⟨r3,e3⟩:∃ q,setStage (nameV T r2) (nameD T r2)=q:=⟨_,rfl⟩
 have u3:r2.i≤r3.i:=by rw[←e3];exact take_up T 1 r2
 obtain⟨r4,e4⟩:∃ q,sentryD T r3=q:=⟨_,rfl⟩
 have u4:r3.i≤r4.i:=by rw[←e4];exact up_sentry T r3
 have u5:r4.i≤(setFinal (mayB T 2 wFinal r4) (mayD T 2 wFinal r4)).i:=may_up T 2 wFinal r4
 have e:mileD T r=setFinal (mayB T 2 wFinal r4) (mayD T 2 wFinal r4):=by simp only[mileD,e1,e2,e3,e4]
 rw[e];omega
theorem up_sod (T:List Tk) (r:RS):r.i≤(sodD T r).i:=
 Int.le_trans (take_up T 1 r) (Int.le_trans (need_up T 4 sComma (nameD T r)) (take_up T 1 _))
theorem up_rule (T:List Tk) (k:Int) (r:RS):r.i≤(ruleD T k r).i:=by
 unfold ruleD
 split
 · exact up_attr T r
 split
 · exact up_user T r
 split
 · exact up_role T r
 split
 · exact up_stage T r
 split
 · exact up_event T r
 split
 · exact up_guard T r
 split
 · exact up_mile T r
 · exact up_sod T r
theorem failD_no {T:List Tk} {r:RS}: (failD T 4 r).er≠0:=failD_er T (by decide) r
theorem oneD_ok {T:List Tk} {i:Int} {x:St} {a:Int} (h:oneD T i=.ok x a):0≤i∧i+2≤a∧a < T.length+1∧(tkAt T (a - 1)).kind≠5:=by
 unfold oneD at h
 split at h
 · cases h
 · rename_i hn
   have hin:0≤i∧i < (T.length:Int):=tk_in (fun e=>hn (.inl (by rw[e];decide)))
   obtain⟨r,hr⟩:∃ r,ruleD T (kindN (tkAt T i).text) (startD T i)=r:=⟨_,rfl⟩
   have hup:i+1≤r.i:=by have:=up_rule T (kindN (tkAt T i).text) (startD T i);rw[hr] at this;exact this
   dsimp only at h
   rw[hr] at h
   split at h
   · rename_i he
     injection h with _ ha
     unfold needD at he ha
     split at ha
     · rename_i hm
       have hk:=isTk_in (mayB_is hm).2 (by decide)
       have hkk:=(mayB_is hm).2
       unfold isTk at hkk
       simp only[Bool.and_eq_true,decide_eq_true_eq] at hkk
       have ha':r.i+1=a:=ha
       refine⟨hin.1,by omega,by omega,?_⟩
       rw[show a - 1=r.i by omega,hkk.1]
       decide
     · rename_i hm
       rw[if_neg hm] at he
       exact absurd he failD_no
   · cases h
theorem oneD_bad {T:List Tk} {i:Int} {e l c:Int} (h:oneD T i=.bad e l c):e≠0:=by
 unfold oneD at h
 split at h
 · injection h with h1 h2 h3;omega
 · dsimp only at h
   split at h
   · cases h
   · rename_i hn
     injection h with h1 h2 h3
     rw[←h1];exact hn
abbrev Sv:=St × Value × Value
def svCells (e:Sv):List Value:=[.int .i64 e.1.kind,.string e.1.name,.int .i64 e.1.line,.int .i64 e.1.col,.int .i64 e.1.init,e.2.1,.string e.1.role,.string e.1.stage,.string e.1.event,.int .i64 e.1.times,e.2.2,.bool e.1.final]
def svFlat (l:List Sv):List Value:=(l.map svCells).flatten
theorem svFlat_snoc (l:List Sv) (e:Sv):svFlat (l ++ [e])=svFlat l ++svCells e:=by simp[svFlat]
structure StRow (w:World) (B:Nat) (v:Value) (l:List Sv):Prop where
 row:w.ownsRow B 37 12 v l.length (svFlat l)
 nm:∀ e ∈ l,w.ownsRow B 9 1 e.2.1 e.1.names.length (strV e.1.names)
 it:∀ e ∈ l,w.ownsRow B 87 9 e.2.2 e.1.ifs.length (itFlat e.1.ifs)
theorem StRow.nil (w:World) (B:Nat):StRow w B (.slice none 0 0) []:=
 ⟨World.ownsRow_nil _ _ _ _,fun e h=>by simp at h,fun e h=>by simp at h⟩
theorem StRow.below {w w':World} {B:Nat} {v:Value} {l:List Sv} (h:StRow w B v l) (hb:Below w.heap.size w w'):StRow w' B v l:=
 ⟨owns_below h.row hb,fun e he=>owns_below (h.nm e he) hb,fun e he=>owns_below (h.it e he) hb⟩
theorem StRow.fault {w:World} {B b:Nat} {v:Value} {l:List Sv} {e l0 c:Int} (h:StRow w B v l) (hf:FtB w b e l0 c) (e2 l2 c2:Int):StRow (((w.setCell ⟨b,0,none⟩ (.int .i64 e2)).setCell ⟨b,1,none⟩ (.int .i64 l2)).setCell ⟨b,2,none⟩ (.int .i64 c2)) B v l:=
 ⟨hf.row h.row (by decide) e2 l2 c2,fun e he=>hf.row (h.nm e he) (by decide) e2 l2 c2,fun e he=>hf.row (h.it e he) (by decide) e2 l2 c2⟩
theorem StRow.put {w w':World} {B:Nat} {v v':Value} {l:List Sv} {x:Sv} (h:StRow w B v l) (hg:w.grownBy w' v.ownBlock) (hown:w'.ownsRow B 37 12 v' (l.length+1) (svFlat l ++svCells x))
 (hn:w.ownsRow B 9 1 x.2.1 x.1.names.length (strV x.1.names)) (hi:w.ownsRow B 87 9 x.2.2 x.1.ifs.length (itFlat x.1.ifs)):StRow w' B v' (l ++ [x]):=by
 refine⟨by rw[svFlat_snoc,List.length_append,List.length_singleton];exact hown,fun e he=>?_,fun e he=>?_⟩
 · rcases List.mem_append.1 he with h1|h1
   · exact owns_beside h.row (h.nm e h1) (by decide) hg
   · obtain rfl:e=x:=by simpa using h1
     exact owns_beside h.row hn (by decide) hg
 · rcases List.mem_append.1 he with h1|h1
   · exact owns_beside h.row (h.it e h1) (by decide) hg
   · obtain rfl:e=x:=by simpa using h1
     exact owns_beside h.row hi (by decide) hg
def readD (s:ByteArray):SR:=
 if(tokRes s).er≠0 then .bad (tokRes s).er (tokRes s).line (tokRes s).col else readS (tokRes s).T (tokRes s).T.length 0 []
def DReadPost (w:World) (p:SR) (e:Ending) (w':World):Prop:=
 match p with
 | .ok L=>∃ (l:List Sv) (v:Value),l.map (·.1)=L∧e=.returned (.tuple #[v,.agg #[.int .i64 0,.int .i64 0,.int .i64 0]])∧StRow w' w.heap.size v l∧Below w.heap.size w w'
 | .bad er l c=>e=.returned (.tuple #[.slice none 0 0,.agg #[.int .i64 er,.int .i64 l,.int .i64 c]])∧Below w.heap.size w w'
end Go.Proofs.YthlofmnmacpogaaGreatDoor
