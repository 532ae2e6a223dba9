/- A part of a proof of DeclReadsProof. -/
import Derived.Test.YthlofmnmacpogaaGreatDoorRt23
set_option maxRecDepth 100000
set_option maxHeartbeats 40000000
namespace Go.Proofs.YthlofmnmacpogaaGreatDoor
open Go.RowKit
structure RRel (s:ByteArray) (w:World) (lv:Value) (wr:World) (v:Value) (i:Nat) (bh:Bool) (T:List Tk):Prop where
 rr:RR wr lv (allR s)
 own:wr.ownsRow (w.heap.size+1) 48 5 v T.length (tkFlat T)
 low:Below (w.heap.size+1) (w.alloc oB3) wr
 cap:T.length≤4096
 le:i≤(allR s).length
 eq:runB s (allR s) 0 false []=runB s (allR s) i bh T
theorem RRel.move {s:ByteArray} {w:World} {lv:Value} {wr:World} {v:Value} {i:Nat} {bh:Bool} {T:List Tk} (h:RRel s w lv wr v i bh T) {j:Nat} {bh':Bool} (hj:j≤(allR s).length) (he:runB s (allR s) i bh T=runB s (allR s) j bh' T):RRel s w lv wr v j bh' T:=
 ⟨h.rr,h.own,h.low,h.cap,hj,h.eq.trans he⟩
theorem tokT_le {s:ByteArray} {L:List Rn} {i:Nat} {T:List Tk} (hi:i < L.length) (he: (tokT s L i T).er=0): (tokT s L i T).i≤L.length:=by
 unfold tokT at he ⊢
 by_cases hl:letterB (rAt L i)=true
 · rw[if_pos hl]
   have:=(rowE_ge innerB L i).2 (by omega)
   have:=(rowE_ge innerB L i).1
   unfold wordT wordN
   show i+ (rowE innerB L i - i)≤_
   omega
 · rw[if_neg hl] at he ⊢
   by_cases hn:isNum L i=true
   · rw[if_pos hn]
     have:=(rowE_ge digitB L (i+1)).2 (by omega)
     have:=(rowE_ge digitB L (i+1)).1
     unfold numbT numN
     show i+ (rowE digitB L (i+1) - i)≤_
     omega
   · rw[if_neg hn] at he ⊢
     unfold signT at he ⊢
     by_cases hz:signN (rAt L i) (rAt L (i+1))=0
     · rw[if_pos hz] at he;simp at he
     · rw[if_neg hz]
       obtain⟨y,hy⟩:=sign_end hi hz
       have:=(List.getElem?_eq_some_iff.1 hy).1
       show i+signN (rAt L i) (rAt L (i+1))≤_
       omega
theorem cell_stored3 {w:World} {g k j:Nat} {a b c v:Value} (hne:g≠k) (h:w.cell? ⟨g,j,none⟩ = some v): ((((w.setCell ⟨k,0,none⟩ a).setCell ⟨k,1,none⟩ b).setCell ⟨k,2,none⟩ c).drew).cell? ⟨g,j,none⟩ = some v:=by
 have e: ((((w.setCell ⟨k,0,none⟩ a).setCell ⟨k,1,none⟩ b).setCell ⟨k,2,none⟩ c).drew).heap[g]?=w.heap[g]?:=by
  show(((w.setCell ⟨k,0,none⟩ a).setCell ⟨k,1,none⟩ b).setCell ⟨k,2,none⟩ c).heap[g]?=_
  rw[Below.heap_setCell _ _ _ _ (by show g≠k;exact hne),Below.heap_setCell _ _ _ _ (by show g≠k;exact hne),Below.heap_setCell _ _ _ _ (by show g≠k;exact hne)]
 exact(World.cell?_of_block (a:=⟨g,j,none⟩) e).trans h
theorem rlong_tok (s:ByteArray) (w:World) (hs:s.size≤4294967200) (hl:16384 < (allR s).length) :
 Calls Tryz.prog 14 #[.string s] w (TokPost w s):=by
 have HS:Hid (tokRes s= ⟨3,0,0,0,[]⟩):=by unfold Hid tokRes;rw[if_pos hl]
 go_enter Tryz.func14,Tryz.ntmps14
 go_wp2_with fail
 refine(rrunes_long s _ (by omega) hl).mono ?_
 rintro e w1 ⟨rfl,hb1⟩
 have hf1:=(FltAt.new w 0 0 0).below hb1 (by simp)
 obtain⟨a0,a1,a2,a3,a4,a5⟩:=hf1.facts
 obtain⟨e0,e1,e2,_,_,_⟩:=(hf1.stored 3 0 0).facts
 have HB1:=Lh ((((((Below.refl w.heap.size w).alloc (Nat.le_refl _) _).trans (hb1.mono (by simp))).setCell (p:=⟨w.heap.size,0,none⟩) (Nat.le_refl _) (.int .i64 3)).setCell (p:=⟨w.heap.size,1,none⟩) (Nat.le_refl _) (.int .i64 0)).setCell (p:=⟨w.heap.size,2,none⟩) (Nat.le_refl _) (.int .i64 0))
 clear hb1 hf1
 go_wp2
 exact bodyPost_ret (v:=.tuple #[.slice none 0 0,.agg #[.int .i64 3,.int .i64 0,.int .i64 0]]) (by simp[results,Tryz.results14,go_sem,e0,e1,e2]) rfl ⟨_,by rw[HS.out];rfl,by rw[HS.out];exact World.ownsRow_nil _ _ _ _,HB1.out⟩
theorem rtokens_ok (s:ByteArray) (w:World) (hs:s.size≤4294967200) (hl: (allR s).length≤16384) :
 Calls Tryz.prog 14 #[.string s] w (TokPost w s):=by
 have hO:=Lh (rnOk s hl)
 have HL:Hid ((allR s).length≤16384):=hl
 have HT:=Lh (tokRes_of hl)
 go_enter Tryz.func14,Tryz.ntmps14
 go_wp2_with fail
 refine(rrunes_ok s _ (by omega) hl).mono ?_
 rintro e w1 ⟨lv,rfl,hown,hb1⟩
 obtain⟨ad,cap,hlv⟩:=owns_len hown
 subst hlv
 have hB1:Below (w.heap.size+1) (w.alloc oB3) w1:=by simpa using hb1
 have H0:Hid (RRel s w (.slice ad (allR s).length cap) w1 (.slice none 0 0) 0 false []):=
  ⟨⟨_,hown⟩,World.ownsRow_nil _ _ _ _,hB1,by simp,Nat.zero_le _,rfl⟩
 clear hown hb1 hB1
 go_wp2
 go_loopw [6,7,8] (fun v u b wr=>∃ (i:Nat) (bh:Bool) (T:List Tk),u=.int .i64 i∧b=.bool bh∧RRel s w (.slice ad (allR s).length cap) wr v i bh T) (fun _ u _ _=>(allR s).length - (intOf u).toNat)
 case atStart=>exact⟨0,false,[],by go_num,rfl,H0.out⟩
 case round=>
  obtain⟨i,bh,T,rfl,rfl,R⟩:=hrel
  clear H0
  have HR:=Lh R
  have hF:=(FltAt.new w 0 0 0).below R.low (Nat.lt_succ_self _)
  have HF:=Lh hF
  have hTl:=R.cap
  have hszr:w.heap.size+1≤wr.heap.size:=by have:=R.low.size;simpa using this
  have hLl:=HL.out
  clear R
  by_cases hlt:i < (allR s).length
  · have hiz: (i:Int) < ((allR s).length:Int):=by omega
    obtain⟨x,hx⟩:∃ x,(allR s)[i]?=some x:=⟨_,List.getElem?_eq_getElem hlt⟩
    have hxr:=rAt_some hx
    obtain⟨g,cap2,hv,d0,d1,d2,d3,d4⟩:=HR.out.rr.rune hx
    simp only[Value.slice.injEq,true_and] at hv
    obtain⟨rfl,rfl⟩:=hv
    obtain⟨c,hc⟩:∃ c,x.r=c:=⟨_,rfl⟩
    have HX:=Lh hx
    have HC:Hid (rAt (allR s) i=c):=by unfold Hid;rw[hxr,hc]
    rw[hc] at d0
    have hgl:=World.block_lt_of_cell? wr _ d0
    have hgw:g≠w.heap.size:=by
     obtain⟨B9,h9⟩:=HR.out.rr
     exact HF.out.ne_row h9 (by decide)
    clear hx hc hxr d1 d2 hF
    cases bh
    · by_cases hbk:c=32∨c=9∨c=13∨c=10
      · have HM:=Lh (HR.out.move (j:=i+1) (bh':=false) (by omega) (blank_step T hlt (by rw[HC.out];unfold blankB;exact decide_eq_true (by omega))))
        clear d3 d4
        rcases hbk with rfl|rfl|rfl|rfl
        all_goals
         go_wp2
         go_roundw
         case rel=>exact⟨i+1,false,T,by go_num,rfl,HM.out⟩
         case measure=>simp[intOf];omega
      · have HBK:Hid (blankB (rAt (allR s) i)=false):=by unfold Hid blankB;rw[HC.out];exact decide_eq_false (by omega)
        by_cases h35:c=35
        · subst h35
          have HM:=Lh (HR.out.move (j:=i+1) (by omega) (runB_note T hlt HC.out))
          clear d3 d4
          go_wp2
          go_roundw
          case rel=>exact⟨i+1,true,T,by go_num,rfl,HM.out⟩
          case measure=>simp[intOf];omega
        · have k1: (c == 32)=false:=beq_eq_false_iff_ne.2 (by omega)
          have k2: (c == 9)=false:=beq_eq_false_iff_ne.2 (by omega)
          have k3: (c == 10)=false:=beq_eq_false_iff_ne.2 (by omega)
          have k4: (c == 13)=false:=beq_eq_false_iff_ne.2 (by omega)
          have k5: (c == 35)=false:=beq_eq_false_iff_ne.2 (by omega)
          have H35:Hid (rAt (allR s) i≠35):=by unfold Hid;rw[HC.out];exact h35
          clear hbk h35
          obtain⟨tk,j,er,hone,hrel⟩:=rone_any HR.out.rr hO.out (by omega) hlt
          have HONE:=Lh hone
          have HREL:=Lh hrel
          clear hone hrel
          go_wp2_with fail
          refine HONE.out.mono ?_
          rintro e w2 ⟨rfl,hb2⟩
          have HB2:=Lh hb2
          have hf2:=HF.out.below hb2 HF.out.lt
          have d32:=(hb2.cell (p:=⟨g,i * 5+3,none⟩) hgl).trans d3
          have d42:=(hb2.cell (p:=⟨g,i * 5+4,none⟩) hgl).trans d4
          have HF2:=Lh hf2
          obtain⟨ad6,cap6,hv6⟩:=owns_len HR.out.own
          have HOWN2:=Lh (owns_below HR.out.own hb2)
          have hsz2:wr.heap.size≤w2.heap.size:=hb2.size
          have hgl2:g < w2.heap.size:=by omega
          clear hb2 d3 d4
          unfold tkV
          by_cases her:er=0
          · subst her
            obtain⟨hq1,hq2,_⟩:=HREL.out T
            obtain⟨hqT,hqi⟩:=hq2 rfl
            by_cases hfull:T.length=4096
            · have HO3:Hid (runB s (allR s) 0 false []= ⟨3,x.line,x.col,[]⟩):=by
               unfold Hid;rw[HR.out.eq,runB_many hlt HBK.out H35.out hq1 hqT hfull,(at_some HX.out).2.2.2.1,(at_some HX.out).2.2.2.2]
              have hfz: ((T.length:Int) == 4096)=true:=by rw[beq_iff_eq];omega
              clear hq1 hq2 hqT hqi hfull
              rw[hv6]
              have HTR:Hid ((tokRes s).er=3∧(tokRes s).line=x.line∧(tokRes s).col=x.col∧(tokRes s).T= []):=by
               have h1:=HT.out
               rw[HO3.out] at h1
               exact⟨h1.1,h1.2.1 (fun h=>by simp at h)⟩
              obtain⟨a0,a1,a2,a3,a4,a5⟩:=(HF2.out.alloc (tO tk)).facts
              have HB6:=Lh ((((((((Below.refl w.heap.size w).alloc (Nat.le_refl _) oB3).trans (HR.out.low.mono (Nat.le_succ _))).trans (HB2.out.mono (by omega))).alloc (by omega) (tO tk)).setCell (p:=⟨w.heap.size,0,none⟩) (Nat.le_refl _) (.int .i64 3)).setCell (p:=⟨w.heap.size,1,none⟩) (Nat.le_refl _) (.int .i64 x.line)).setCell (p:=⟨w.heap.size,2,none⟩) (Nat.le_refl _) (.int .i64 x.col))
              have d33:=(Below.cell (p:=⟨g,i * 5+3,none⟩) ((Below.refl _ w2).alloc (Nat.le_refl _) (tO tk)) hgl2).trans d32
              have d43:=(Below.cell (p:=⟨g,i * 5+4,none⟩) ((Below.refl _ w2).alloc (Nat.le_refl _) (tO tk)) hgl2).trans d42
              have f33:=cell_stored3 (a:=.int .i64 3) (b:=.int .i64 x.line) (c:=.int .i64 x.col) hgw d33
              have f43:=cell_stored3 (a:=.int .i64 3) (b:=.int .i64 x.line) (c:=.int .i64 x.col) hgw d43
              obtain⟨b0,b1,b2,b3,b4,b5⟩:=HF2.out.facts
              obtain⟨e0,e1,e2,_,_,_⟩:=((HF2.out.alloc (tO tk)).stored 3 x.line x.col).facts
              go_wp2_with fail
              go_region_held3 (fun w'=>w'.cell? ⟨g,i * 5+3,none⟩ = some (.int .i64 x.line)∧w'.cell? ⟨g,i * 5+4,none⟩ = some (.int .i64 x.col))
               (first|go_keep|exact⟨f33,f43⟩ | (refine⟨?_,?_⟩ <;> assumption))
               (first|fail)
              go_wp2
              exact bodyPost_ret (v:=.tuple #[.slice none 0 0,.agg #[.int .i64 3,.int .i64 x.line,.int .i64 x.col]]) (by simp[results,Tryz.results14,go_sem,e0,e1,e2]) rfl ⟨_,by rw[HTR.out.1,HTR.out.2.1,HTR.out.2.2.1];show Ending.returned (.tuple #[_,_])=Ending.returned (.tuple #[_,faultV 3 x.line x.col]);rw[faultV_no (by decide)],by rw[HTR.out.2.2.2];exact World.ownsRow_nil _ _ _ _,HB6.out.drew⟩
            · have HM:Hid (runB s (allR s) i false T=runB s (allR s) j false (T ++ [tk])):=runB_tok hlt HBK.out H35.out hq1 hqT hqi (by omega)
              have hfz: ((T.length:Int) == 4096)=false:=beq_eq_false_iff_ne.2 (by omega)
              have hjl:j≤(allR s).length:=by rw[←hqi];exact tokT_le hlt hq1
              have hij:i < j:=by rw[←hqi];exact(tokT_on s (allR s) i T hlt hq1).1
              have hT5:T.length+1≤4096:=by omega
              clear hq1 hq2 hqT hqi hfull hf2
              subst hv6
              go_wp2_with (first| (at_builtin;refine app1 (w2.alloc (tO tk)) #[.int .i64 tk.kind,.string tk.text,.int .i64 tk.num,.int .i64 tk.line,.int .i64 tk.col] rfl _ _ 33 rfl (w.heap.size+1) 48 _ 5 48 Tryz.underlying33 info_token rfl (by decide) (by decide) _ _ _ rfl (by exact World.ownsRow.alloc HOWN2.out _) rfl (by simp) rfl (by simp[Value.oneCell']) (by omega) (by simp;omega) ?_;intro v3 w3 hown3 hg3 hb3))
              have HN:Hid (RRel s w (.slice (some ⟨g,0,none⟩) (allR s).length cap) w3 v3 j false (T ++ [tk])):=by
               have hrr:=((HR.out.rr.keep HB2.out).keep (w':=w2.alloc (tO tk)) ((Below.refl _ _).alloc (Nat.le_refl _) _)).grown (World.ownsRow.alloc HOWN2.out _) hg3
               refine⟨hrr,?_,?_,by rw[List.length_append,List.length_singleton];omega,hjl,HR.out.eq.trans HM.out⟩
               · rw[List.length_append,List.length_singleton,tkFlat_snoc];exact hown3
               · exact((HR.out.low.trans (HB2.out.mono (by omega))).alloc (by omega) _).trans hb3
              clear hown3 hg3 hb3
              go_wp2
              go_roundw
              case rel=>exact⟨j,false,T ++ [tk],by go_num,rfl,HN.out⟩
              case measure=>simp[intOf];omega
          · have hern: (er == 0)=false:=beq_eq_false_iff_ne.2 her
            obtain⟨hq1,_,hq3⟩:=HREL.out T
            obtain⟨hql,hqc⟩:=hq3 her
            have HO3:Hid (runB s (allR s) 0 false []= ⟨er,x.line,x.col,[]⟩):=by
             unfold Hid;rw[HR.out.eq,runB_err hlt HBK.out H35.out (by rw[hq1];exact her) hql hqc,hq1,(at_some HX.out).2.2.2.1,(at_some HX.out).2.2.2.2]
            have HER:=Lh her
            clear hq1 hq3 hql hqc her
            rw[hv6]
            have HTR:Hid ((tokRes s).er=er∧(tokRes s).line=x.line∧(tokRes s).col=x.col∧(tokRes s).T= []):=by
             have h1:=HT.out
             rw[HO3.out] at h1
             exact⟨h1.1,h1.2.1 HER.out⟩
            obtain⟨a0,a1,a2,a3,a4,a5⟩:=(HF2.out.alloc (tO tk)).facts
            have HB6:=Lh ((((((((Below.refl w.heap.size w).alloc (Nat.le_refl _) oB3).trans (HR.out.low.mono (Nat.le_succ _))).trans (HB2.out.mono (by omega))).alloc (by omega) (tO tk)).setCell (p:=⟨w.heap.size,0,none⟩) (Nat.le_refl _) (.int .i64 er)).setCell (p:=⟨w.heap.size,1,none⟩) (Nat.le_refl _) (.int .i64 x.line)).setCell (p:=⟨w.heap.size,2,none⟩) (Nat.le_refl _) (.int .i64 x.col))
            have d33:=(Below.cell (p:=⟨g,i * 5+3,none⟩) ((Below.refl _ w2).alloc (Nat.le_refl _) (tO tk)) hgl2).trans d32
            have d43:=(Below.cell (p:=⟨g,i * 5+4,none⟩) ((Below.refl _ w2).alloc (Nat.le_refl _) (tO tk)) hgl2).trans d42
            have f33:=cell_stored3 (a:=.int .i64 er) (b:=.int .i64 x.line) (c:=.int .i64 x.col) hgw d33
            have f43:=cell_stored3 (a:=.int .i64 er) (b:=.int .i64 x.line) (c:=.int .i64 x.col) hgw d43
            obtain⟨b0,b1,b2,b3,b4,b5⟩:=HF2.out.facts
            obtain⟨e0,e1,e2,_,_,_⟩:=((HF2.out.alloc (tO tk)).stored er x.line x.col).facts
            go_wp2_with fail
            go_region_held3 (fun w'=>w'.cell? ⟨g,i * 5+3,none⟩ = some (.int .i64 x.line)∧w'.cell? ⟨g,i * 5+4,none⟩ = some (.int .i64 x.col))
             (first|go_keep|exact⟨f33,f43⟩ | (refine⟨?_,?_⟩ <;> assumption))
             (first|fail)
            go_wp2
            exact bodyPost_ret (v:=.tuple #[.slice none 0 0,.agg #[.int .i64 er,.int .i64 x.line,.int .i64 x.col]]) (by simp[results,Tryz.results14,go_sem,e0,e1,e2]) rfl ⟨_,by rw[HTR.out.1,HTR.out.2.1,HTR.out.2.2.1];show Ending.returned (.tuple #[_,_])=Ending.returned (.tuple #[_,faultV er x.line x.col]);rw[faultV_no HER.out],by rw[HTR.out.2.2.2];exact World.ownsRow_nil _ _ _ _,HB6.out.drew⟩
    · by_cases h10:c=10
      · subst h10
        have HM:=Lh (HR.out.move (j:=i+1) (by omega) (runB_line T hlt HC.out))
        clear d3 d4
        go_wp2
        go_roundw
        case rel=>exact⟨i+1,false,T,by go_num,rfl,HM.out⟩
        case measure=>simp[intOf];omega
      · by_cases hm1:c= -1
        · subst hm1
          have HO3:Hid (runB s (allR s) 0 false []= ⟨1,x.line,x.col,[]⟩):=by
           unfold Hid;rw[HR.out.eq,runB_bad T hlt HC.out,(at_some HX.out).2.2.2.1,(at_some HX.out).2.2.2.2]
          obtain⟨tk,j,er,hone,hrel⟩:=rone_any HR.out.rr hO.out (by omega) hlt
          obtain rfl:er=1:=by
           have:=(hrel T).1
           rw[←this]
           unfold tokT
           rw[HC.out,if_neg (by decide)]
           unfold isNum
           rw[HC.out,if_neg (by simp[digitB])]
           unfold signT
           rw[HC.out,if_pos (by unfold signN;rw[if_neg (by omega),if_neg (by omega)])]
          have HONE:=Lh hone
          clear hone hrel h10
          go_wp2_with fail
          refine HONE.out.mono ?_
          rintro e w2 ⟨rfl,hb2⟩
          have HB2:=Lh hb2
          have hf2:=HF.out.below hb2 HF.out.lt
          have d32:=(hb2.cell (p:=⟨g,i * 5+3,none⟩) hgl).trans d3
          have d42:=(hb2.cell (p:=⟨g,i * 5+4,none⟩) hgl).trans d4
          have HF2:=Lh hf2
          have hsz2:wr.heap.size≤w2.heap.size:=hb2.size
          have hgl2:g < w2.heap.size:=by omega
          clear hb2 d3 d4
          unfold tkV
          have HTR:Hid ((tokRes s).er=1∧(tokRes s).line=x.line∧(tokRes s).col=x.col∧(tokRes s).T= []):=by
           have h1:=HT.out
           rw[HO3.out] at h1
           exact⟨h1.1,h1.2.1 (fun h=>by simp at h)⟩
          obtain⟨a0,a1,a2,a3,a4,a5⟩:=(HF2.out.alloc (tO tk)).facts
          have HB6:=Lh ((((((((Below.refl w.heap.size w).alloc (Nat.le_refl _) oB3).trans (HR.out.low.mono (Nat.le_succ _))).trans (HB2.out.mono (by omega))).alloc (by omega) (tO tk)).setCell (p:=⟨w.heap.size,0,none⟩) (Nat.le_refl _) (.int .i64 1)).setCell (p:=⟨w.heap.size,1,none⟩) (Nat.le_refl _) (.int .i64 x.line)).setCell (p:=⟨w.heap.size,2,none⟩) (Nat.le_refl _) (.int .i64 x.col))
          have d33:=(Below.cell (p:=⟨g,i * 5+3,none⟩) ((Below.refl _ w2).alloc (Nat.le_refl _) (tO tk)) hgl2).trans d32
          have d43:=(Below.cell (p:=⟨g,i * 5+4,none⟩) ((Below.refl _ w2).alloc (Nat.le_refl _) (tO tk)) hgl2).trans d42
          have f33:=cell_stored3 (a:=.int .i64 1) (b:=.int .i64 x.line) (c:=.int .i64 x.col) hgw d33
          have f43:=cell_stored3 (a:=.int .i64 1) (b:=.int .i64 x.line) (c:=.int .i64 x.col) hgw d43
          obtain⟨b0,b1,b2,b3,b4,b5⟩:=HF2.out.facts
          obtain⟨e0,e1,e2,_,_,_⟩:=((HF2.out.alloc (tO tk)).stored 1 x.line x.col).facts
          go_wp2_with fail
          go_region_held3 (fun w'=>w'.cell? ⟨g,i * 5+3,none⟩ = some (.int .i64 x.line)∧w'.cell? ⟨g,i * 5+4,none⟩ = some (.int .i64 x.col))
           (first|go_keep|exact⟨f33,f43⟩ | (refine⟨?_,?_⟩ <;> assumption))
           (first|fail)
          go_wp2
          exact bodyPost_ret (v:=.tuple #[.slice none 0 0,.agg #[.int .i64 1,.int .i64 x.line,.int .i64 x.col]]) (by simp[results,Tryz.results14,go_sem,e0,e1,e2]) rfl ⟨_,by rw[HTR.out.1,HTR.out.2.1,HTR.out.2.2.1];show Ending.returned (.tuple #[_,_])=Ending.returned (.tuple #[_,faultV 1 x.line x.col]);rw[faultV_no (by decide)],by rw[HTR.out.2.2.2];exact World.ownsRow_nil _ _ _ _,HB6.out.drew⟩
        · have n1: (c !=10)=true:=by simp[h10]
          have n2: (c != -1)=true:=by simp[hm1]
          have HM:=Lh (HR.out.move (j:=i+1) (bh':=true) (by omega) (runB_skip T (by rw[HC.out];exact h10) (by rw[HC.out];exact hm1)))
          clear d3 d4 h10 hm1
          go_wp2
          go_roundw
          case rel=>exact⟨i+1,true,T,by go_num,rfl,HM.out⟩
          case measure=>simp[intOf];omega
  · have hiz: ((allR s).length:Int)≤(i:Int):=by omega
    have HO3:Hid (runB s (allR s) 0 false []= ⟨0,0,0,T⟩):=by
     unfold Hid;rw[HR.out.eq,runB_end bh T hlt]
    have HTR:Hid ((tokRes s).er=0∧(tokRes s).T=T ++ [endTk s]):=by
     have h1:=HT.out
     rw[HO3.out] at h1
     exact⟨h1.1,h1.2.2 rfl⟩
    obtain⟨ad6,cap6,hv6⟩:=owns_len HR.out.own
    have HOWN:=Lh HR.out.own
    subst hv6
    clear hF
    go_wp2_with fail
    refine(rend_any s _ (by omega)).mono ?_
    rintro e w2 ⟨rfl,hb2⟩
    have HB2:=Lh hb2
    have hsz2:wr.heap.size≤w2.heap.size:=hb2.size
    have HF2:=Lh (HF.out.below hb2 HF.out.lt)
    clear hb2
    go_wp2_with (first| (at_builtin;refine app1 w2 #[.int .i64 5,.string ⟨#[]⟩,.int .i64 0,.int .i64 (endL s),.int .i64 (endC s)] rfl _ _ 33 rfl (w.heap.size+1) 48 _ 5 48 Tryz.underlying33 info_token rfl (by decide) (by decide) _ _ _ rfl (by exact owns_below HOWN.out HB2.out) rfl (by simp) rfl (by simp[Value.oneCell']) (by omega) (by omega) ?_;intro v3 w3 hown3 hg3 hb3;have hf3:=HF2.out.below hb3 (Nat.lt_succ_self _);obtain⟨a0,a1,a2,a3,a4,a5⟩:=hf3.facts;obtain⟨e0,e1,e2,_,_,_⟩:=(hf3.stored 0 0 0).facts;have HF3:=Lh hf3;have HO4:=Lh hown3;have HB4:=Lh hb3;clear hown3 hg3 hb3 hf3))
    obtain⟨g3,cap3,hv3,_,_⟩:=owns_shape HO4.out (by omega)
    have HO5:Hid (w3.ownsRow (w.heap.size+1) 48 5 (.slice (some ⟨g3,0,none⟩) (T.length+1) cap3) (T.length+1) (tkFlat T ++tkCells (endTk s))):=by unfold Hid;rw[←hv3];exact HO4.out
    have HB5:=Lh (((Below.refl w.heap.size w).alloc (Nat.le_refl _) oB3).trans ((HR.out.low.trans ((HB2.out.mono (by omega)).trans HB4.out)).mono (Nat.le_succ _)))
    rw[hv3]
    clear hv3
    exact bodyPost_ret (v:=.tuple #[.slice (some ⟨g3,0,none⟩) (T.length+1) cap3,.agg #[.int .i64 0,.int .i64 0,.int .i64 0]]) (by simp[results,Tryz.results14,go_sem,e0,e1,e2]) rfl
     ⟨_,by rw[HTR.out.1];rfl,by
       rw[HTR.out.2,tkFlat_snoc,List.length_append,List.length_singleton]
       exact owns_mono (own_stored HO5.out HF3.out) (Nat.le_succ _),((HB5.out.setCell (p:=⟨w.heap.size,0,none⟩) (Nat.le_refl _) _).setCell (p:=⟨w.heap.size,1,none⟩) (Nat.le_refl _) _).setCell (p:=⟨w.heap.size,2,none⟩) (Nat.le_refl _) _⟩
theorem rtokens_any (s:ByteArray) (w:World) (hs:s.size≤4294967200) :
 Calls Tryz.prog 14 #[.string s] w (TokPost w s):=by
 by_cases hl:16384 < (allR s).length
 · exact rlong_tok s w hs hl
 · exact rtokens_ok s w hs (by omega)
end Go.Proofs.YthlofmnmacpogaaGreatDoor
