/- A part of a proof of DeclReadsProof. -/
import Derived.Test.YthlofmnmacpogaaGreatDoorRt13
import Derived.Test.YthlofmnmacpogaaGreatDoorRt15
set_option maxRecDepth 100000
set_option maxHeartbeats 40000000
namespace Go.Proofs.YthlofmnmacpogaaGreatDoor
open Go.RowKit
theorem one_num1 {w:World} {B b:Nat} {s:ByteArray} {L:List Rn} {lv:Value} {i:Nat} {ov:Value} {T:List Tk} (h:Rd w B b s L lv i ov T) (hm:MaxCell w) (_hB0:0 < B) (hB:B≤w.heap.size) (hO:RnOk s L) (hT:T.length≤5000) (hs:s.size≤4294967200) (hi:i < L.length) (hnb:blankB (rAt L i)=false) (hn35:rAt L i≠35) (hnl:letterB (rAt L i)=false) (hdig:digitB (rAt L i)=true) :
 Calls Tryz.prog 30 #[.pointer (some ⟨b,0,none⟩)] w (Stepped w B b s L lv (oneT s L i T)):=by
 have hL:=hO.len
 obtain⟨x,hx⟩:∃ x,L[i]?=some x:=⟨_,List.getElem?_eq_getElem hi⟩
 obtain⟨c,hc⟩:∃ c,rAt L i=c:=⟨_,rfl⟩
 have hbl:=h.lt
 have HR:=Lh h
 have HC:=Lh (show rAt L (i+0)=c from hc)
 have HM:=Lh hm
 have HX:=Lh hx
 have hS:oneT s L i T=if blankB c then⟨0,0,0,i+1,T⟩ else if c=35 then restT L i T else capT L i (tokT s L i T):=by unfold oneT;rw[hc]
 have HS:=Lh hS
 have hisn:isNum L i=true:=by unfold isNum;rw[hdig];rfl
 obtain⟨⟨y,hy⟩,hn1,h0,hdq⟩:=num_pre hO hi hisn
 have hg:=hO.le _ _ x y (by omega) hx hy
 have HW:=Lh (And.intro hy (And.intro hdq hg))
 have HN:=Lh hisn
 clear hy hdq hg hisn
 have HD:=Lh (show digitB (rAt L i)=true from hdig)
 clear hdig
 obtain⟨c0,c1,c2,c3,f2,f3⟩:=h.facts
 obtain⟨g,cap,rfl,_,_,_,d3,d4⟩:=h.rune hx
 have hgl:=World.block_lt_of_cell? w _ d3
 have hiz: (i:Int) < (L.length:Int):=by omega
 clear h hc hm hx hS
 go_enter Tryz.func30,Tryz.ntmps30
 go_wp2_with fail
 refine(rune_q (HR.out.keep ((Below.refl _ _).alloc (Nat.le_refl _) _)) 0 c HC.out hL (by omega) (by omega)).mono ?_
 rintro e w1 ⟨rfl,m,rfl⟩
 have HK1:=Lh ((Took.of_rd (HR.out.keep ((Below.refl _ _).alloc (Nat.le_refl _) oB3))).after ((Below.refl _ _).alloc (Nat.le_refl _) _) hB)
 have HF1:=Lh (FltAt.new w 0 0 0)
 have HS1:=Lh (show oneT s L i T=capT L i (tokT s L i T) by unfold oneT;rw[hnb,if_neg hn35];rfl)
 rw[show rAt L i=c from HC.out] at hnb hn35 hnl
 have h35:=hn35
 have HLET:=Lh hnl
 have HBL:=Lh hnb
 clear hnb hn35 hnl
 go_wp2_with fail
 refine(blankB_any c _).mono ?_
 rintro e w' ⟨rfl,rfl⟩
 rw[HBL.out]
 have h35': (c == 35)=false:=beq_eq_false_iff_ne.2 h35
 go_wp2_with fail
 go_region_held3 (fun w'=>w'.cell? ⟨b,1,none⟩ = some (.slice (some ⟨g,0,none⟩) L.length cap)∧w'.cell? ⟨b,2,none⟩ = some (.int .i64 i)∧w'.cell? ⟨g,i * 5+3,none⟩ = some (.int .i64 x.line)∧w'.cell? ⟨g,i * 5+4,none⟩ = some (.int .i64 x.col))
  (first|go_keep)
  (first|fail)
 have HB3:=Lh ((below_drewN ((Below.refl _ w).alloc (Nat.le_refl _) oB3) (m+1)).alloc (by simp) (.cells #[.int .i64 x.line,.int .i64 x.col] 26))
 have HF3:=Lh ((HF1.out.drewN (m+1)).alloc (.cells #[.int .i64 x.line,.int .i64 x.col] 26))
 have HR3:=Lh (HR.out.keep HB3.out)
 have HM3:=Lh (HM.out.below HB3.out (by omega))
 have hp3:PosAt (((w.alloc oB3).drewN (m+1)).alloc (.cells #[.int .i64 x.line,.int .i64 x.col] 26)) (w.heap.size+1) 26 x.line x.col:=by
  have:=heap_alloc_new ((w.alloc oB3).drewN (m+1)) (.cells #[.int .i64 x.line,.int .i64 x.col] 26)
  rw[show((w.alloc oB3).drewN (m+1)).heap.size=w.heap.size+1 by simp] at this
  exact this
 have HP3:=Lh hp3
 have hB3:B≤(((w.alloc oB3).drewN (m+1)).alloc (.cells #[.int .i64 x.line,.int .i64 x.col] 26)).heap.size:=by have:=HB3.out.size;omega
 have HBB:=Lh hB3
 clear hp3 hB3
 go_wp2_with fail
 replace HD:=Lh ((congrArg digitB (show rAt L i=c from HC.out)).symm.trans HD.out)
 refine(letterB_any c _).mono ?_
 rintro e w' ⟨rfl,rfl⟩
 rw[HLET.out]
 go_wp2_with fail
 refine(digitB_any c _).mono ?_
 rintro e w' ⟨rfl,rfl⟩
 rw[HD.out]
 obtain⟨⟨er,line,col,j,T2⟩,hr⟩:∃ r,numbT s L i T=r:=⟨_,rfl⟩
 have HRR:=Lh ((show oneT s L i T=capT L i (numbT s L i T) by rw[HS1.out];unfold tokT;rw[show rAt L i=c from HC.out,HLET.out,HN.out];rfl).trans (by rw[hr]))
 have HRR2:=Lh hr
 clear hr
 go_wp2_with fail
 refine(number_any HR3.out HBB.out hL (by omega) hs x y HX.out HW.out.1 hn1 HW.out.2.2.1 HW.out.2.2.2 h0 HW.out.2.1.1 HW.out.2.1.2).mono ?_
 rw[HRR2.out]
 rintro e w4 ⟨rfl,ov4,hk⟩
 have hfr:=HF3.out.took hk (by omega)
 have hfp:=HP3.out.took hk (by omega) (by decide)
 have HK:=Lh (hk.after HB3.out hB)
 clear hk
 obtain⟨a0,a1,a2,a3,a4,a5⟩:=hfr.facts
 obtain⟨p0,p1,p2,p3⟩:=hfp.facts
 have HFR:=Lh hfr
 have hfl:=hfr.lt
 have hpl:=hfp.lt
 have hbl4:=HK.out.rd.lt
 obtain⟨ad4,cap4,hov4⟩:=owns_len HK.out.rd.out
 obtain⟨_,_,_,q3,_,_⟩:=HK.out.rd.facts
 rw[hov4] at q3
 clear hfr hfp hov4
 by_cases her:er=0
 · subst her
   rw[faultV_ok]
   by_cases hcap:4096 < T2.length
   · have hcz: (4096:Int) < (T2.length:Int):=by omega
     have HE:Hid (oneT s L i T= ⟨3,x.line,x.col,j,T2⟩):=by
      unfold Hid;rw[HRR.out];unfold capT;rw[if_neg (by simp),if_pos hcap,(at_some HX.out).2.2.2.1,(at_some HX.out).2.2.2.2]
     have HK6:=Lh ((HK.out.stored (Nat.le_refl _) hbl hB HFR.out 3 x.line x.col).then ((Below.refl _ _).alloc (Nat.le_refl _) oB3) hB)
     obtain⟨e0,e1,e2,_,_,_⟩:=((HFR.out.stored 3 x.line x.col).alloc oB3).facts
     clear hcap
     go_wp2
     exact bodyPost_ret (v:=.agg #[.int .i64 3,.int .i64 x.line,.int .i64 x.col]) (by simp[results,Tryz.results30,go_sem,e0,e1,e2]) rfl ⟨by rw[HE.out];rfl,⟨_,by rw[HE.out];exact HK6.out⟩⟩
   · have hcz: (T2.length:Int)≤4096:=by omega
     have HE:Hid (oneT s L i T= ⟨0,line,col,j,T2⟩):=by
      unfold Hid;rw[HRR.out];unfold capT;rw[if_neg (by simp),if_neg hcap]
     have HK6:=Lh ((HK.out.stored (Nat.le_refl _) hbl hB HFR.out 0 0 0).then ((Below.refl _ _).alloc (Nat.le_refl _) oB3) hB)
     obtain⟨e0,e1,e2,_,_,_⟩:=((HFR.out.stored 0 0 0).alloc oB3).facts
     clear hcap
     go_wp2
     exact bodyPost_ret (v:=.agg #[.int .i64 0,.int .i64 0,.int .i64 0]) (by simp[results,Tryz.results30,go_sem,e0,e1,e2]) rfl ⟨by rw[HE.out];rfl,⟨_,by rw[HE.out];exact HK6.out⟩⟩
 · rw[faultV_no her]
   have HE:Hid (oneT s L i T= ⟨er,line,col,j,T2⟩):=by
    unfold Hid;rw[HRR.out];unfold capT;rw[if_pos her]
   have HK6:=Lh ((HK.out.stored (Nat.le_refl _) hbl hB HFR.out er line col).then ((Below.refl _ _).alloc (Nat.le_refl _) (.cells #[.int .i64 er,.int .i64 line,.int .i64 col] 28)) hB)
   obtain⟨e0,e1,e2,_,_,_⟩:=((HFR.out.stored er line col).alloc (.cells #[.int .i64 er,.int .i64 line,.int .i64 col] 28)).facts
   have HER:=Lh her
   have hern: (er == 0)=false:=beq_eq_false_iff_ne.2 her
   clear her
   go_wp2
   exact bodyPost_ret (v:=.agg #[.int .i64 er,.int .i64 line,.int .i64 col]) (by simp[results,Tryz.results30,go_sem,e0,e1,e2]) rfl ⟨by rw[HE.out];show _=Ending.returned (faultV er line col);rw[faultV_no HER.out],⟨_,by rw[HE.out];exact HK6.out⟩⟩
theorem one_num2 {w:World} {B b:Nat} {s:ByteArray} {L:List Rn} {lv:Value} {i:Nat} {ov:Value} {T:List Tk} (h:Rd w B b s L lv i ov T) (hm:MaxCell w) (_hB0:0 < B) (hB:B≤w.heap.size) (hO:RnOk s L) (hT:T.length≤5000) (hs:s.size≤4294967200) (hi:i < L.length) (hnb:blankB (rAt L i)=false) (hn35:rAt L i≠35) (hnl:letterB (rAt L i)=false) (hdig:digitB (rAt L i)=false) (h45:rAt L i=45) (hd1:digitB (rAt L (i+1))=true) :
 Calls Tryz.prog 30 #[.pointer (some ⟨b,0,none⟩)] w (Stepped w B b s L lv (oneT s L i T)):=by
 have hL:=hO.len
 obtain⟨x,hx⟩:∃ x,L[i]?=some x:=⟨_,List.getElem?_eq_getElem hi⟩
 obtain⟨c,hc⟩:∃ c,rAt L i=c:=⟨_,rfl⟩
 have hbl:=h.lt
 have HR:=Lh h
 have HC:=Lh (show rAt L (i+0)=c from hc)
 have HM:=Lh hm
 have HX:=Lh hx
 have hS:oneT s L i T=if blankB c then⟨0,0,0,i+1,T⟩ else if c=35 then restT L i T else capT L i (tokT s L i T):=by unfold oneT;rw[hc]
 have HS:=Lh hS
 have hisn:isNum L i=true:=by unfold isNum;rw[hdig,h45,hd1];rfl
 obtain⟨⟨y,hy⟩,hn1,h0,hdq⟩:=num_pre hO hi hisn
 have hg:=hO.le _ _ x y (by omega) hx hy
 have HW:=Lh (And.intro hy (And.intro hdq hg))
 have HN:=Lh hisn
 clear hy hdq hg hisn
 have HD:=Lh (show digitB (rAt L i)=false from hdig)
 clear hdig
 obtain⟨d,hd⟩:∃ d,rAt L (i+1)=d:=⟨_,rfl⟩
 rw[hd] at hd1
 have HD1:=Lh hd
 have HD2:=Lh hd1
 clear hd hd1
 have H45:=Lh h45
 clear h45
 obtain⟨c0,c1,c2,c3,f2,f3⟩:=h.facts
 obtain⟨g,cap,rfl,_,_,_,d3,d4⟩:=h.rune hx
 have hgl:=World.block_lt_of_cell? w _ d3
 have hiz: (i:Int) < (L.length:Int):=by omega
 clear h hc hm hx hS
 go_enter Tryz.func30,Tryz.ntmps30
 go_wp2_with fail
 refine(rune_q (HR.out.keep ((Below.refl _ _).alloc (Nat.le_refl _) _)) 0 c HC.out hL (by omega) (by omega)).mono ?_
 rintro e w1 ⟨rfl,m,rfl⟩
 have HK1:=Lh ((Took.of_rd (HR.out.keep ((Below.refl _ _).alloc (Nat.le_refl _) oB3))).after ((Below.refl _ _).alloc (Nat.le_refl _) _) hB)
 have HF1:=Lh (FltAt.new w 0 0 0)
 have HS1:=Lh (show oneT s L i T=capT L i (tokT s L i T) by unfold oneT;rw[hnb,if_neg hn35];rfl)
 rw[show rAt L i=c from HC.out] at hnb hn35 hnl
 have h35:=hn35
 have HLET:=Lh hnl
 have HBL:=Lh hnb
 clear hnb hn35 hnl
 go_wp2_with fail
 refine(blankB_any c _).mono ?_
 rintro e w' ⟨rfl,rfl⟩
 rw[HBL.out]
 have h35': (c == 35)=false:=beq_eq_false_iff_ne.2 h35
 go_wp2_with fail
 go_region_held3 (fun w'=>w'.cell? ⟨b,1,none⟩ = some (.slice (some ⟨g,0,none⟩) L.length cap)∧w'.cell? ⟨b,2,none⟩ = some (.int .i64 i)∧w'.cell? ⟨g,i * 5+3,none⟩ = some (.int .i64 x.line)∧w'.cell? ⟨g,i * 5+4,none⟩ = some (.int .i64 x.col))
  (first|go_keep)
  (first|fail)
 have HB3:=Lh ((below_drewN ((Below.refl _ w).alloc (Nat.le_refl _) oB3) (m+1)).alloc (by simp) (.cells #[.int .i64 x.line,.int .i64 x.col] 26))
 have HF3:=Lh ((HF1.out.drewN (m+1)).alloc (.cells #[.int .i64 x.line,.int .i64 x.col] 26))
 have HR3:=Lh (HR.out.keep HB3.out)
 have HM3:=Lh (HM.out.below HB3.out (by omega))
 have hp3:PosAt (((w.alloc oB3).drewN (m+1)).alloc (.cells #[.int .i64 x.line,.int .i64 x.col] 26)) (w.heap.size+1) 26 x.line x.col:=by
  have:=heap_alloc_new ((w.alloc oB3).drewN (m+1)) (.cells #[.int .i64 x.line,.int .i64 x.col] 26)
  rw[show((w.alloc oB3).drewN (m+1)).heap.size=w.heap.size+1 by simp] at this
  exact this
 have HP3:=Lh hp3
 have hB3:B≤(((w.alloc oB3).drewN (m+1)).alloc (.cells #[.int .i64 x.line,.int .i64 x.col] 26)).heap.size:=by have:=HB3.out.size;omega
 have HBB:=Lh hB3
 clear hp3 hB3
 go_wp2_with fail
 replace HD:=Lh ((congrArg digitB (show rAt L i=c from HC.out)).symm.trans HD.out)
 obtain rfl:c=45:=(show rAt L i=c from HC.out).symm.trans H45.out
 refine(letterB_any 45 _).mono ?_
 rintro e w' ⟨rfl,rfl⟩
 rw[HLET.out]
 go_wp2_with fail
 refine(digitB_any 45 _).mono ?_
 rintro e w' ⟨rfl,rfl⟩
 rw[HD.out]
 go_wp2_with fail
 refine(rune_q HR3.out 1 d HD1.out hL (by omega) (by omega)).mono ?_
 rintro e w' ⟨rfl,q,rfl⟩
 replace HB3:=Lh (below_drewN HB3.out q)
 replace HF3:=Lh (HF3.out.drewN q)
 replace HR3:=Lh (HR3.out.drewN q)
 replace HM3:=Lh (HM3.out.drewN q)
 replace HP3:=Lh (HP3.out.drewN q)
 replace HBB:=Lh (le_drewN HBB.out q)
 go_wp2_with fail
 refine(digitB_any d _).mono ?_
 rintro e w' ⟨rfl,rfl⟩
 rw[HD2.out]
 obtain⟨⟨er,line,col,j,T2⟩,hr⟩:∃ r,numbT s L i T=r:=⟨_,rfl⟩
 have HRR:=Lh ((show oneT s L i T=capT L i (numbT s L i T) by rw[HS1.out];unfold tokT;rw[show rAt L i=45 from HC.out,HLET.out,HN.out];rfl).trans (by rw[hr]))
 have HRR2:=Lh hr
 clear hr
 go_wp2_with fail
 refine(number_any HR3.out HBB.out hL (by omega) hs x y HX.out HW.out.1 hn1 HW.out.2.2.1 HW.out.2.2.2 h0 HW.out.2.1.1 HW.out.2.1.2).mono ?_
 rw[HRR2.out]
 rintro e w4 ⟨rfl,ov4,hk⟩
 have hfr:=HF3.out.took hk (by omega)
 have hfp:=HP3.out.took hk (by omega) (by decide)
 have HK:=Lh (hk.after HB3.out hB)
 clear hk
 obtain⟨a0,a1,a2,a3,a4,a5⟩:=hfr.facts
 obtain⟨p0,p1,p2,p3⟩:=hfp.facts
 have HFR:=Lh hfr
 have hfl:=hfr.lt
 have hpl:=hfp.lt
 have hbl4:=HK.out.rd.lt
 obtain⟨ad4,cap4,hov4⟩:=owns_len HK.out.rd.out
 obtain⟨_,_,_,q3,_,_⟩:=HK.out.rd.facts
 rw[hov4] at q3
 clear hfr hfp hov4
 by_cases her:er=0
 · subst her
   rw[faultV_ok]
   by_cases hcap:4096 < T2.length
   · have hcz: (4096:Int) < (T2.length:Int):=by omega
     have HE:Hid (oneT s L i T= ⟨3,x.line,x.col,j,T2⟩):=by
      unfold Hid;rw[HRR.out];unfold capT;rw[if_neg (by simp),if_pos hcap,(at_some HX.out).2.2.2.1,(at_some HX.out).2.2.2.2]
     have HK6:=Lh ((HK.out.stored (Nat.le_refl _) hbl hB HFR.out 3 x.line x.col).then ((Below.refl _ _).alloc (Nat.le_refl _) oB3) hB)
     obtain⟨e0,e1,e2,_,_,_⟩:=((HFR.out.stored 3 x.line x.col).alloc oB3).facts
     clear hcap
     go_wp2
     exact bodyPost_ret (v:=.agg #[.int .i64 3,.int .i64 x.line,.int .i64 x.col]) (by simp[results,Tryz.results30,go_sem,e0,e1,e2]) rfl ⟨by rw[HE.out];rfl,⟨_,by rw[HE.out];exact HK6.out⟩⟩
   · have hcz: (T2.length:Int)≤4096:=by omega
     have HE:Hid (oneT s L i T= ⟨0,line,col,j,T2⟩):=by
      unfold Hid;rw[HRR.out];unfold capT;rw[if_neg (by simp),if_neg hcap]
     have HK6:=Lh ((HK.out.stored (Nat.le_refl _) hbl hB HFR.out 0 0 0).then ((Below.refl _ _).alloc (Nat.le_refl _) oB3) hB)
     obtain⟨e0,e1,e2,_,_,_⟩:=((HFR.out.stored 0 0 0).alloc oB3).facts
     clear hcap
     go_wp2
     exact bodyPost_ret (v:=.agg #[.int .i64 0,.int .i64 0,.int .i64 0]) (by simp[results,Tryz.results30,go_sem,e0,e1,e2]) rfl ⟨by rw[HE.out];rfl,⟨_,by rw[HE.out];exact HK6.out⟩⟩
 · rw[faultV_no her]
   have HE:Hid (oneT s L i T= ⟨er,line,col,j,T2⟩):=by
    unfold Hid;rw[HRR.out];unfold capT;rw[if_pos her]
   have HK6:=Lh ((HK.out.stored (Nat.le_refl _) hbl hB HFR.out er line col).then ((Below.refl _ _).alloc (Nat.le_refl _) (.cells #[.int .i64 er,.int .i64 line,.int .i64 col] 28)) hB)
   obtain⟨e0,e1,e2,_,_,_⟩:=((HFR.out.stored er line col).alloc (.cells #[.int .i64 er,.int .i64 line,.int .i64 col] 28)).facts
   have HER:=Lh her
   have hern: (er == 0)=false:=beq_eq_false_iff_ne.2 her
   clear her
   go_wp2
   exact bodyPost_ret (v:=.agg #[.int .i64 er,.int .i64 line,.int .i64 col]) (by simp[results,Tryz.results30,go_sem,e0,e1,e2]) rfl ⟨by rw[HE.out];show _=Ending.returned (faultV er line col);rw[faultV_no HER.out],⟨_,by rw[HE.out];exact HK6.out⟩⟩
theorem one_any {w:World} {B b:Nat} {s:ByteArray} {L:List Rn} {lv:Value} {i:Nat} {ov:Value} {T:List Tk} (h:Rd w B b s L lv i ov T) (hm:MaxCell w) (hB0:0 < B) (hB:B≤w.heap.size) (hO:RnOk s L) (hT:T.length≤5000) (hs:s.size≤4294967200) (hi:i < L.length) :
 Calls Tryz.prog 30 #[.pointer (some ⟨b,0,none⟩)] w (Stepped w B b s L lv (oneT s L i T)):=by
 by_cases hb:blankB (rAt L i)=true
 · exact one_word h hm hB0 hB hO hT hs hi (fun e=>by rw[hb] at e;cases e)
 · have hb:blankB (rAt L i)=false:=by simpa using hb
   by_cases h35:rAt L i=35
   · exact one_word h hm hB0 hB hO hT hs hi (fun _ e=>absurd h35 e)
   · by_cases hl:letterB (rAt L i)=true
     · exact one_word h hm hB0 hB hO hT hs hi (fun _ _=>hl)
     · have hl:letterB (rAt L i)=false:=by simpa using hl
       by_cases hd:digitB (rAt L i)=true
       · exact one_num1 h hm hB0 hB hO hT hs hi hb h35 hl hd
       · have hd:digitB (rAt L i)=false:=by simpa using hd
         by_cases h45:rAt L i=45
         · by_cases hd1:digitB (rAt L (i+1))=true
           · exact one_num2 h hm hB0 hB hO hT hs hi hb h35 hl hd h45 hd1
           · exact one_sign1 h hm hB0 hB hO hT hs hi hb h35 hl hd h45 (by simpa using hd1)
         · exact one_sign2 h hm hB0 hB hO hT hs hi hb h35 hl hd h45
theorem tokT_on (s:ByteArray) (L:List Rn) (i:Nat) (T:List Tk) (hi:i < L.length) (he: (tokT s L i T).er=0):i < (tokT s L i T).i∧∃ x,(tokT s L i T).T=T ++ [x]:=by
 unfold tokT at he ⊢
 by_cases hl:letterB (rAt L i)=true
 · rw[if_pos hl] at he ⊢
   have hin:innerB (rAt L i)=true:=by unfold innerB;rw[hl];rfl
   have h1:=(row_facts (q:=innerB) (by decide) hi hin).1
   exact⟨by unfold wordT wordN;show i < i+_;omega,_,rfl⟩
 · rw[if_neg hl] at he ⊢
   by_cases hn:isNum L i=true
   · rw[if_pos hn]
     have h1:=(rowE_ge digitB L (i+1)).1
     exact⟨by unfold numbT numN;show i < i+_;omega,_,rfl⟩
   · rw[if_neg hn] at he ⊢
     unfold signT at he ⊢
     by_cases hs:signN (rAt L i) (rAt L (i+1))=0
     · rw[if_pos hs] at he;simp at he
     · rw[if_neg hs]
       exact⟨by show i < i+_;omega,_,rfl⟩
theorem oneT_on (s:ByteArray) (L:List Rn) (i:Nat) (T:List Tk) (hi:i < L.length) (hT:T.length≤4096) (he: (oneT s L i T).er=0):i < (oneT s L i T).i∧(oneT s L i T).T.length≤4096:=by
 unfold oneT at he ⊢
 by_cases hb:blankB (rAt L i)=true
 · rw[if_pos hb];exact⟨by show i < i+1;omega,hT⟩
 · rw[if_neg hb] at he ⊢
   by_cases h35:rAt L i=35
   · rw[if_pos h35] at he ⊢
     have h1:=rowE_yes restB (by decide) L i (by rw[h35];decide)
     have h2:=(rowE_ge restB L (i+1)).1
     unfold restT at he ⊢
     split
     · rename_i h;rw[if_pos h] at he;simp at he
     · exact⟨by show i < rowE restB L i;omega,hT⟩
   · rw[if_neg h35] at he ⊢
     unfold capT at he ⊢
     by_cases hr: (tokT s L i T).er≠0
     · rw[if_pos hr] at he;exact absurd he hr
     · rw[if_neg hr] at he ⊢
       by_cases hc:4096 < (tokT s L i T).T.length
       · rw[if_pos hc] at he;simp at he
       · rw[if_neg hc]
         exact⟨(tokT_on s L i T hi (by omega)).1,by omega⟩
def endTk (s:ByteArray):Tk:=⟨5,⟨#[]⟩,0,endL s,endC s⟩
def tokRes (s:ByteArray):Res:=
 if 16384 < (allR s).length then⟨3,0,0,0,[]⟩
 else if(runT s (allR s) (allR s).length 0 []).er≠0 then{ runT s (allR s) (allR s).length 0 [] with T:=[] }
 else⟨0,0,0,0,(runT s (allR s) (allR s).length 0 []).T ++ [endTk s]⟩
def TokPost (w:World) (s:ByteArray) (e:Ending) (w':World):Prop:=
 ∃ v,e=.returned (.tuple #[v,faultV (tokRes s).er (tokRes s).line (tokRes s).col])∧w'.ownsRow w.heap.size 48 5 v (tokRes s).T.length (tkFlat (tokRes s).T)∧Below w.heap.size w w'
theorem tokens_long (s:ByteArray) (w:World) (hs:s.size≤4294967200) (hl:16384 < (allR s).length) :
 Calls Tryz.prog 13 #[.string s] w (TokPost w s):=by
 have HS:Hid (tokRes s= ⟨3,0,0,0,[]⟩):=by unfold Hid tokRes;rw[if_pos hl]
 go_enter Tryz.func13,Tryz.ntmps13
 go_wp2_with fail
 refine(textRunes_long s _ (by omega) hl).mono ?_
 rintro e w1 ⟨rfl,hb1⟩
 have hf1:=(FltAt.new w 0 0 0).below hb1 (by simp)
 obtain⟨a0,a1,a2,a3,a4,a5⟩:=hf1.facts
 obtain⟨e0,e1,e2,_,_,_⟩:=(hf1.stored 3 0 0).facts
 have HB1:=Lib.hid ((((((Below.refl w.heap.size w).alloc (Nat.le_refl _) _).trans (hb1.mono (by simp))).setCell (p:=⟨w.heap.size,0,none⟩) (Nat.le_refl _) (.int .i64 3)).setCell (p:=⟨w.heap.size,1,none⟩) (Nat.le_refl _) (.int .i64 0)).setCell (p:=⟨w.heap.size,2,none⟩) (Nat.le_refl _) (.int .i64 0))
 clear hb1 hf1
 go_wp2
 exact bodyPost_ret (v:=.tuple #[.slice none 0 0,.agg #[.int .i64 3,.int .i64 0,.int .i64 0]]) (by simp[results,Tryz.results13,go_sem,e0,e1,e2]) rfl ⟨_,by rw[HS.out];rfl,by rw[HS.out];exact World.ownsRow_nil _ _ _ _,HB1.out⟩
structure TokRel (s:ByteArray) (w:World) (b:Nat) (lv:Value) (wr:World) (i:Nat) (ov:Value) (T:List Tk) (k:Nat):Prop where
 rd:Rd wr (w.heap.size+1) b s (allR s) lv i ov T
 low:Below (w.heap.size+1) (w.alloc (.cells #[.int .i64 0,.int .i64 0,.int .i64 0] 28)) wr
 cap:T.length≤4096
 fuel: (allR s).length - i≤k
 eq:runT s (allR s) (allR s).length 0 []=runT s (allR s) k i T
theorem TokRel.step {s:ByteArray} {w:World} {b:Nat} {lv:Value} {wr w2:World} {i:Nat} {ov ov2:Value} {T:List Tk} {k:Nat} (h:TokRel s w b lv wr i ov T k) (hi:i < (allR s).length) (he: (oneT s (allR s) i T).er=0)
 (hk:Took wr w2 (w.heap.size+1) b s (allR s) lv (oneT s (allR s) i T).i ov2 (oneT s (allR s) i T).T) (o:Obj) :
 TokRel s w b lv (w2.alloc o) (oneT s (allR s) i T).i ov2 (oneT s (allR s) i T).T (k - 1):=by
 have h1:=oneT_on s (allR s) i T hi h.cap he
 have hf:=h.fuel
 have hsz:w.heap.size+1≤wr.heap.size:=by have:=h.low.size;simpa using this
 refine⟨(hk.then ((Below.refl _ _).alloc (Nat.le_refl _) o) hsz).rd,h.low.trans (hk.low.alloc (by have:=hk.low.size;omega) o),h1.2,by omega,?_⟩
 rw[h.eq]
 obtain⟨q,rfl⟩:∃ q,k=q+1:=⟨k - 1,by omega⟩
 rw[runT,if_pos hi,if_neg (by omega)]
 rfl
theorem cell_kept {wr w2 w3:World} {o:Obj} {row:Option Nat} {b j:Nat} {v:Value} (hg: (w2.alloc o).grownBy w3 row) (hb:Below wr.heap.size wr w2) (hlt:b < wr.heap.size) (hne:row≠some b) (h:wr.cell? ⟨b,j,none⟩ = some v):w3.cell? ⟨b,j,none⟩ = some v:=by
 have e:w3.heap[b]?=wr.heap[b]?:=by
  have:=hb.size
  rw[hg.block b (by simp;omega) (Ne.symm hne),Below.heap_alloc _ _ _ (by omega),hb.block b hlt]
 exact(World.cell?_of_block (a:=⟨b,j,none⟩) e).trans h
theorem flt_kept {wr w2 w3:World} {o:Obj} {row:Option Nat} {b:Nat} {er l c:Int} (hg: (w2.alloc o).grownBy w3 row) (hb:Below wr.heap.size wr w2) (hlt:b < wr.heap.size) (hne:row≠some b) (h:FltAt wr b er l c):FltAt w3 b er l c:=by
 have:=hb.size
 unfold FltAt at *
 rw[hg.block b (by simp;omega) (Ne.symm hne),Below.heap_alloc _ _ _ (by omega),hb.block b hlt]
 exact h
theorem own_stored {w:World} {base g n cap k:Nat} {xs:List Value} {er l c e' l' c':Int} (h:w.ownsRow base 48 5 (.slice (some ⟨g,0,none⟩) n cap) n xs) (hf:FltAt w k er l c) :
 (((w.setCell ⟨k,0,none⟩ (.int .i64 e')).setCell ⟨k,1,none⟩ (.int .i64 l')).setCell ⟨k,2,none⟩ (.int .i64 c')).ownsRow base 48 5 (.slice (some ⟨g,0,none⟩) n cap) n xs:=by
 have h1:=heap_setCell_same w k 0 _ _ (.int .i64 e') hf
 have h2:=heap_setCell_same _ k 1 _ _ (.int .i64 l') h1
 exact owns_setCell (owns_setCell (owns_setCell h hf (by decide) _ _) h1 (by decide) _ _) h2 (by decide) _ _
theorem tokens_ok (s:ByteArray) (w:World) (hm:MaxCell w) (hs:s.size≤4294967200) (hl: (allR s).length≤16384) :
 Calls Tryz.prog 13 #[.string s] w (TokPost w s):=by
 have hO:=Lib.hid (rnOk s hl)
 have HM:=Lib.hid hm
 have HL:Hid ((allR s).length≤16384):=hl
 have HZ:Hid (0 < w.heap.size):=by obtain⟨m,hm⟩:=hm;exact World.block_lt_of_cell? w _ hm
 have HT:Hid (tokRes s=if(runT s (allR s) (allR s).length 0 []).er≠0 then{ runT s (allR s) (allR s).length 0 [] with T:=[] } else⟨0,0,0,0,(runT s (allR s) (allR s).length 0 []).T ++ [endTk s]⟩):=by unfold Hid tokRes;rw[if_neg (by omega)]
 clear hm
 go_enter Tryz.func13,Tryz.ntmps13
 go_wp2_with fail
 refine(textRunes_ok s _ (by omega) hl).mono ?_
 rintro e w1 ⟨lv,rfl,hown,hb1⟩
 obtain⟨ad,cap,hlv⟩:=owns_len hown
 subst hlv
 have hB1:Below (w.heap.size+1) (w.alloc (.cells #[.int .i64 0,.int .i64 0,.int .i64 0] 28)) w1:=by simpa using hb1
 have hsz1:w.heap.size+1≤w1.heap.size:=by have:=hB1.size;simpa using this
 have H0:Hid (TokRel s w w1.heap.size (.slice ad (allR s).length cap) (w1.alloc (.cells #[.string s,.slice ad (allR s).length cap,.int .i64 0,.slice none 0 0] 72)) 0 (.slice none 0 0) [] (allR s).length):=by
  refine⟨⟨heap_alloc_new w1 _,hsz1,?_,World.ownsRow_nil _ _ _ _⟩,hB1.alloc hsz1 _,by simp,by omega,rfl⟩
  have:=World.ownsRow.alloc hown (.cells #[.string s,.slice ad (allR s).length cap,.int .i64 0,.slice none 0 0] 72)
  simpa using this
 clear hown hb1 hB1
 go_wp2
 go_loopw [] (fun wr=>∃ (i k:Nat) (ov:Value) (T:List Tk),TokRel s w w1.heap.size (.slice ad (allR s).length cap) wr i ov T k) (fun wr=>(allR s).length - placeOf wr w1.heap.size)
 case atStart=>exact⟨0,(allR s).length,_,[],H0.out⟩
 case round=>
  obtain⟨i,k,ov,T,R⟩:=hrel
  clear H0
  have hszr:w.heap.size+1≤wr.heap.size:=by have:=R.low.size;simpa using this
  have HR:=Lib.hid R
  obtain⟨c0,c1,c2,c3,f2,f3⟩:=R.rd.facts
  have hF:=(FltAt.new w 0 0 0).below R.low (Nat.lt_succ_self _)
  have HF:=Lib.hid hF
  have hTl:=R.cap
  have HMr:=Lib.hid ((HM.out.below ((Below.refl _ w).alloc (Nat.le_refl _) (.cells #[.int .i64 0,.int .i64 0,.int .i64 0] 28)) HZ.out).below R.low (Nat.succ_pos _))
  have hLl:=HL.out
  clear R hF
  by_cases hlt:i < (allR s).length
  · have hiz: (i:Int) < ((allR s).length:Int):=by omega
    obtain⟨⟨er,line,col,j,T2⟩,hr⟩:∃ r,oneT s (allR s) i T=r:=⟨_,rfl⟩
    have HRR:=Lib.hid hr
    clear hr
    go_wp2_with fail
    refine(one_any HR.out.rd HMr.out (Nat.succ_pos _) hszr hO.out (by omega) hs hlt).mono ?_
    rw[HRR.out]
    rintro e w2 ⟨rfl,ov2,hk⟩
    have hfr:=HF.out.took hk (by omega)
    have HK:=Lib.hid hk
    have HFR:=Lib.hid hfr
    have hfl:=hfr.lt
    clear hk hfr
    by_cases her:er=0
    · subst her
      rw[faultV_ok]
      have HN:=Lib.hid (HR.out.step (o:=.cells #[.int .i64 0,.int .i64 0,.int .i64 0] 28) hlt (by rw[HRR.out]) (by rw[HRR.out];exact HK.out))
      have hj:i < j:=by have:=(oneT_on s (allR s) i T hlt hTl (by rw[HRR.out])).1;rw[HRR.out] at this;exact this
      go_wp2
      go_roundw
      case rel=>exact⟨_,_,_,_,HN.out⟩
      case measure=>
       have p1:placeOf (w2.alloc (.cells #[.int .i64 0,.int .i64 0,.int .i64 0] 28)) w1.heap.size=j:=by have:=HN.out.rd.place;rw[HRR.out] at this;exact this
       have p2:=HR.out.rd.place
       omega
    · rw[faultV_no her]
      have HTR:Hid (tokRes s= ⟨er,line,col,j,[]⟩):=by
       unfold Hid
       have hq:runT s (allR s) (allR s).length 0 []= ⟨er,line,col,j,T2⟩:=by
        rw[HR.out.eq]
        have hf:=HR.out.fuel
        obtain⟨q,rfl⟩:∃ q,k=q+1:=⟨k - 1,by omega⟩
        rw[runT,if_pos hlt,if_pos (by rw[HRR.out];exact her),HRR.out]
       rw[HT.out,hq,if_pos her]
      have HER:=Lib.hid her
      have hern: (er == 0)=false:=beq_eq_false_iff_ne.2 her
      obtain⟨a0,a1,a2,a3,a4,a5⟩:=HFR.out.facts
      obtain⟨e0,e1,e2,_,_,_⟩:=((HFR.out.stored er line col).alloc (.cells #[.int .i64 er,.int .i64 line,.int .i64 col] 28)).facts
      clear her
      go_wp2
      have HB6:=Lib.hid (((((((Below.refl w.heap.size w).alloc (Nat.le_refl _) (.cells #[.int .i64 0,.int .i64 0,.int .i64 0] 28)).trans (HR.out.low.mono (Nat.le_succ _))).trans (HK.out.low.mono (Nat.le_succ _))).setCell (p:=⟨w.heap.size,0,none⟩) (Nat.le_refl _) (.int .i64 er)).setCell (p:=⟨w.heap.size,1,none⟩) (Nat.le_refl _) (.int .i64 line)).setCell (p:=⟨w.heap.size,2,none⟩) (Nat.le_refl _) (.int .i64 col))
      go_region
      all_goals go_wp2
      all_goals exact bodyPost_ret (v:=.tuple #[.slice none 0 0,.agg #[.int .i64 er,.int .i64 line,.int .i64 col]]) (by simp[results,Tryz.results13,go_sem,e0,e1,e2]) rfl ⟨_,by rw[HTR.out];show Ending.returned (.tuple #[_,_])=Ending.returned (.tuple #[_,faultV er line col]);rw[faultV_no HER.out],by rw[HTR.out];exact World.ownsRow_nil _ _ _ _,(HB6.out.alloc (by have:=HK.out.low.size;simp;omega) _).drew⟩
  · have hiz: ((allR s).length:Int)≤(i:Int):=by omega
    have HTR:Hid (tokRes s= ⟨0,0,0,0,T ++ [endTk s]⟩):=by
     unfold Hid
     have hq:runT s (allR s) (allR s).length 0 []= ⟨0,0,0,i,T⟩:=by
      rw[HR.out.eq]
      cases k with
      | zero=>rfl
      | succ q=>rw[runT,if_neg hlt]
     rw[HT.out,hq];rfl
    obtain⟨i0,hi0,hz0,hz1,hz2⟩:=info_parts info_token
    have HIP:=Lib.hid (And.intro hi0 (And.intro hz0 (And.intro hz1 hz2)))
    have HOWN:=Lib.hid HR.out.rd.out
    have hbr:=HR.out.rd.lt
    have HNE:=Lib.hid (owns_ne_block HR.out.rd.out HR.out.rd.blk (by decide))
    have hwl:w.heap.size < wr.heap.size:=by omega
    have HNW:Hid (ov.ownBlock≠some w.heap.size):=fun e=>by have:=(HR.out.rd.out.lt _ e).1;omega
    clear hi0 hz0 hz1 hz2
    go_wp2
    go_region_held3 (fun w'=>w'.cell? ⟨w1.heap.size,3,none⟩ = some ov)
     (first|go_keep|assumption| (rw[World.cell?_setCell_other _ _ _ _ (by first| (simp;done)| (simp;omega))];rw[World.cell?_setCell_other _ _ _ _ (by first| (simp;done)| (simp;omega))];rw[World.cell?_setCell_other _ _ _ _ (by first| (simp;done)| (simp;omega))];assumption))
     (first
       | (go_at_call 31;refine(at_any s _ (by omega)).mono ?_;rintro e w2 ⟨rfl,hb2⟩;have q3:=(hb2.cell (p:=⟨w1.heap.size,3,none⟩) hbr).trans c3;have HB2:=Lib.hid (((Below.refl wr.heap.size wr).drew).trans hb2);clear hb2)
       | (refine step_append_lies _ (by rfl) _ _ _ (by rfl) (w.heap.size+1) 48 i0 _ 5 48 Tryz.underlying33 HIP.out.1 HIP.out.2.1 HIP.out.2.2.1 HIP.out.2.2.2 rfl (by omega) ov T.length (tkFlat T) (by rfl) (World.ownsRow.alloc (owns_below HOWN.out HB2.out) _) ⟨w2.heap.size,0,none⟩ 1 1 [.int .i64 5,.string ⟨#[]⟩,.int .i64 0,.int .i64 (endL s),.int .i64 (endC s)] (by rfl) (by rfl) (World.news_of_block (cs:=#[.int .i64 5,.string ⟨#[]⟩,.int .i64 0,.int .i64 (endL s),.int .i64 (endC s)]) (t:=48) (fr:=(0,0)) (heap_alloc_new w2 _)) (by simp[Value.oneCell']) (by omega) (by unfold maxLen;omega) (by omega) (by have:=HB2.out.size;simp;omega) (w2.heap.size+1) (by simp) ?_;intro g3 cap3 w3 hown3 hgrow hat hlt3;have p3:=cell_kept hgrow HB2.out hbr HNE.out c3;have hf3:=flt_kept hgrow HB2.out hwl HNW.out HF.out;obtain⟨a0,a1,a2,a3,a4,a5⟩:=hf3.facts))
    all_goals
     have HF3:=Lib.hid hf3
     have HO3:=Lib.hid hown3
     have HB3:=Lib.hid (((((((Below.refl w.heap.size w).alloc (Nat.le_refl _) (.cells #[.int .i64 0,.int .i64 0,.int .i64 0] 28)).trans (HR.out.low.mono (Nat.le_succ _))).trans (HB2.out.mono (by omega))).alloc (by have:=HB2.out.size;omega) (.cells #[.int .i64 5,.string ⟨#[]⟩,.int .i64 0,.int .i64 (endL s),.int .i64 (endC s)] 48)).grown hgrow (by have:=HB2.out.size;simp;omega) (fun k e=>by have:=(HOWN.out.lt k e).1;omega)))
     obtain⟨e0,e1,e2,_,_,_⟩:=(hf3.stored 0 0 0).facts
     clear hf3 hown3 hgrow hat p3
     go_wp2
     exact bodyPost_ret (v:=.tuple #[.slice (some ⟨g3,0,none⟩) (T.length+1) cap3,.agg #[.int .i64 0,.int .i64 0,.int .i64 0]]) (by simp[results,Tryz.results13,go_sem,e0,e1,e2]) rfl
      ⟨_,by rw[HTR.out];rfl,by
        rw[HTR.out]
        show World.ownsRow _ _ _ _ _ (T ++ [endTk s]).length (tkFlat (T ++ [endTk s]))
        rw[tkFlat_snoc,List.length_append,List.length_singleton]
        exact owns_mono (own_stored HO3.out HF3.out) (Nat.le_succ _),((HB3.out.setCell (p:=⟨w.heap.size,0,none⟩) (Nat.le_refl _) _).setCell (p:=⟨w.heap.size,1,none⟩) (Nat.le_refl _) _).setCell (p:=⟨w.heap.size,2,none⟩) (Nat.le_refl _) _⟩
theorem tokens_any (s:ByteArray) (w:World) (hm:MaxCell w) (hs:s.size≤4294967200) :
 Calls Tryz.prog 13 #[.string s] w (TokPost w s):=by
 by_cases hl:16384 < (allR s).length
 · exact tokens_long s w hs hl
 · exact tokens_ok s w hm hs (by omega)
theorem runT_capD (s:ByteArray) (L:List Rn):∀ (k i:Nat) (T:List Tk),T.length≤4096→(runT s L k i T).er=0→(runT s L k i T).T.length≤4096
 | 0,i,T,hT,_=>hT
 | k+1,i,T,hT,he=>by
   rw[runT] at he ⊢
   split
   · rename_i hi
     rw[if_pos hi] at he
     split
     · rename_i h;rw[if_pos h] at he;exact absurd he h
     · rename_i h
       rw[if_neg h] at he
       exact runT_capD s L k _ _ (oneT_on s L i T hi hT (by omega)).2 he
   · exact hT
theorem tokRes_endD (s:ByteArray) (h: (tokRes s).er=0):∃ X,(tokRes s).T=X ++ [endTk s]∧X.length≤4096:=by
 unfold tokRes at h ⊢
 split
 · rename_i h1;rw[if_pos h1] at h;simp at h
 · rename_i h1
   rw[if_neg h1] at h
   split
   · rename_i h2;rw[if_pos h2] at h;exact absurd h h2
   · rename_i h2
     exact⟨_,rfl,runT_capD _ _ _ _ _ (by simp) (by omega)⟩
theorem tkIn_ownsD {w:World} {base B:Nat} {v:Value} {T:List Tk} (h:w.ownsRow base 48 5 v T.length (tkFlat T)) (hB:w.heap.size≤B) (hT:T.length≤1000000):TkIn w B v T:=by
 rcases h.2 with⟨rfl,h0⟩ | ⟨g,cap,cur,rfl,hb,hg,_⟩
 · exact⟨none,0,by rw[h0],hT,.inl (List.length_eq_zero_iff.1 h0)⟩
 · have hlt:=(Array.getElem?_eq_some_iff.1 hg).1
   refine⟨_,cap,rfl,hT,.inr ⟨g,0,rfl,by omega,hlt,fun k x hx=>?_⟩⟩
   have hk:=(List.getElem?_eq_some_iff.1 hx).1
   have cell:∀ j,j < 5→w.cell? ⟨g,0+k * 5+j,none⟩ = (tkCells x)[j]?:=fun j hj=>by
    rw[Nat.zero_add,World.ownsRow.cellAt h (k * 5+j) (by omega),tkFlat_get T k j x hx hj]
   exact⟨cell 0 (by omega),cell 1 (by omega),cell 2 (by omega),cell 3 (by omega),cell 4 (by omega)⟩
def TkAt (w:World) (b:Nat) (x:Tk):Prop:=w.heap[b]?=some (.cells #[.int .i64 x.kind,.string x.text,.int .i64 x.num,.int .i64 x.line,.int .i64 x.col] 48 (0,0))
theorem TkAt.facts {w:World} {b:Nat} {x:Tk} (h:TkAt w b x) :
 w.cell? ⟨b,0,none⟩ = some (.int .i64 x.kind)∧w.cell? ⟨b,1,none⟩ = some (.string x.text)∧w.cell? ⟨b,2,none⟩ = some (.int .i64 x.num)∧w.cell? ⟨b,3,none⟩ = some (.int .i64 x.line)∧w.cell? ⟨b,4,none⟩ = some (.int .i64 x.col):=by
 unfold TkAt at h
 refine⟨?_,?_,?_,?_,?_⟩ <;> simp[World.cell?,h]
theorem TkAt.free {w:World} {b:Nat} {x:Tk} (h:TkAt w b x) :
 w.frozen? ⟨b,0,none⟩ = false∧w.frozen? ⟨b,1,none⟩ = false∧w.frozen? ⟨b,2,none⟩ = false∧w.frozen? ⟨b,3,none⟩ = false∧w.frozen? ⟨b,4,none⟩ = false:=by
 unfold TkAt at h
 refine⟨?_,?_,?_,?_,?_⟩ <;> simp[World.frozen?,h]
theorem TkAt.setKind {w:World} {b:Nat} {x:Tk} (h:TkAt w b x) (k:Int):TkAt (w.setCell ⟨b,0,none⟩ (.int .i64 k)) b { x with kind:=k }:=heap_setCell_same w b 0 _ _ (.int .i64 k) h
theorem TkAt.setOther {w:World} {b g j:Nat} {x:Tk} (h:TkAt w b x) (hne:g≠b) (u:Value):TkAt (w.setCell ⟨g,j,none⟩ u) b x:=(Below.heap_setCell _ _ _ _ (by show b≠g;omega)).trans h
theorem TkAt.lt {w:World} {b:Nat} {x:Tk} (h:TkAt w b x):b < w.heap.size:=(Array.getElem?_eq_some_iff.1 h).1
theorem TkAt.below {w w':World} {b B:Nat} {x:Tk} (h:TkAt w b x) (hb:Below B w w') (hB:b < B):TkAt w' b x:=(hb.block b hB).trans h
theorem TkAt.alloc {w:World} {b:Nat} {x:Tk} (h:TkAt w b x) (o:Obj):TkAt (w.alloc o) b x:=(Below.heap_alloc _ _ _ h.lt).trans h
theorem TkAt.drew {w:World} {b:Nat} {x:Tk} (h:TkAt w b x):TkAt w.drew b x:=h
theorem TkAt.stored {w:World} {b:Nat} {x:Tk} (h:TkAt w b x) (y:Tk) :
 TkAt (((((w.setCell ⟨b,0,none⟩ (.int .i64 y.kind)).setCell ⟨b,1,none⟩ (.string y.text)).setCell ⟨b,2,none⟩ (.int .i64 y.num)).setCell ⟨b,3,none⟩ (.int .i64 y.line)).setCell ⟨b,4,none⟩ (.int .i64 y.col)) b y:=by
 have h1:=heap_setCell_same w b 0 _ _ (.int .i64 y.kind) h
 have h2:=heap_setCell_same _ b 1 _ _ (.string y.text) h1
 have h3:=heap_setCell_same _ b 2 _ _ (.int .i64 y.num) h2
 have h4:=heap_setCell_same _ b 3 _ _ (.int .i64 y.line) h3
 exact heap_setCell_same _ b 4 _ _ (.int .i64 y.col) h4
theorem TkAt.new (w:World) (k n l c:Int) (t:ByteArray):TkAt (w.alloc (.cells #[.int .i64 k,.string t,.int .i64 n,.int .i64 l,.int .i64 c] 48)) w.heap.size ⟨k,t,n,l,c⟩:=heap_alloc_new w _
theorem below_stored {w0 w:World} {B b:Nat} (h:Below B w0 w) (hb:B≤b) (y:Tk):Below B w0 (((((w.setCell ⟨b,0,none⟩ (.int .i64 y.kind)).setCell ⟨b,1,none⟩ (.string y.text)).setCell ⟨b,2,none⟩ (.int .i64 y.num)).setCell ⟨b,3,none⟩ (.int .i64 y.line)).setCell ⟨b,4,none⟩ (.int .i64 y.col)):=
 ((((h.setCell (p:=⟨b,0,none⟩) hb _).setCell (p:=⟨b,1,none⟩) hb _).setCell (p:=⟨b,2,none⟩) hb _).setCell (p:=⟨b,3,none⟩) hb _).setCell (p:=⟨b,4,none⟩) hb _
def tkV (x:Tk):Value:=.agg #[.int .i64 x.kind,.string x.text,.int .i64 x.num,.int .i64 x.line,.int .i64 x.col]
def ROne (w:World) (x:Tk) (j:Nat) (er:Int) (e:Ending) (w':World):Prop:=e=.returned (.tuple #[tkV x,.int .i64 j,.int .i64 er])∧Below w.heap.size w w'
theorem RR.rune {w:World} {v:Value} {L:List Rn} (h:RR w v L) {j:Nat} {x:Rn} (hj:L[j]?=some x) :
 ∃ g cap,v=.slice (some ⟨g,0,none⟩) L.length cap∧w.cell? ⟨g,j * 5,none⟩ = some (.int .i64 x.r)∧w.cell? ⟨g,j * 5+1,none⟩ = some (.int .i64 x.fr)∧w.cell? ⟨g,j * 5+2,none⟩ = some (.int .i64 x.to)∧
  w.cell? ⟨g,j * 5+3,none⟩ = some (.int .i64 x.line)∧w.cell? ⟨g,j * 5+4,none⟩ = some (.int .i64 x.col):=by
 obtain⟨B,hr⟩:=h
 have hjl:=(List.getElem?_eq_some_iff.1 hj).1
 obtain⟨g,cap,rfl,hg,hgs⟩:=owns_shape hr (by omega)
 exact⟨g,cap,rfl,(World.ownsRow.cellAt hr (j * 5) (by omega)).trans (rnFlat_get .i64 _ j 0 x hj (by omega)),(World.ownsRow.cellAt hr (j * 5+1) (by omega)).trans (rnFlat_get .i64 _ j 1 x hj (by omega)),
  (World.ownsRow.cellAt hr (j * 5+2) (by omega)).trans (rnFlat_get .i64 _ j 2 x hj (by omega)),(World.ownsRow.cellAt hr (j * 5+3) (by omega)).trans (rnFlat_get .i64 _ j 3 x hj (by omega)),(World.ownsRow.cellAt hr (j * 5+4) (by omega)).trans (rnFlat_get .i64 _ j 4 x hj (by omega))⟩
theorem num_numT {s:ByteArray} {L:List Rn} {i:Nat} (hO:RnOk s L) (hi:i < L.length) (hl:isNum L i=true):NumT (txt s L i (numN L i)):=by
 obtain⟨_,_,h0,hd,_⟩:=num_pre hO hi hl
 intro k hk
 by_cases h: ((txt s L i (numN L i))[0]'h0).toNat=45
 · rw[if_pos h] at hd
   cases k with
   | zero=>exact .inl h
   | succ k=>
     have hk':k < ((txt s L i (numN L i)).extract 1 (txt s L i (numN L i)).size).size:=by rw[ByteArray.size_extract];omega
     have:=hd k hk'
     rw[ByteArray.getElem_extract] at this
     have e:1+k=k+1:=by omega
     simp only[e] at this
     exact .inr this
 · rw[if_neg h] at hd
   exact .inr (hd k hk)
theorem rone_num1 {w:World} {v:Value} {s:ByteArray} {L:List Rn} {i:Nat} (h:RR w v L) (hO:RnOk s L) (hs:s.size≤4294967200) (hi:i < L.length) (hl:letterB (rAt L i)=false) (hdig:digitB (rAt L i)=true) :
 Calls Tryz.prog 33 #[.string s,v,.int .i64 i] w (ROne w ⟨3,txt s L i (numN L i),(numVal s L i).1,lineAt L i,colAt L i⟩ (i+numN L i) (if(numVal s L i).2 then 0 else 2)):=by
 obtain⟨x,hx⟩:∃ x,L[i]?=some x:=⟨_,List.getElem?_eq_getElem hi⟩
 have hisn:isNum L i=true:=by unfold isNum;rw[hdig];rfl
 obtain⟨⟨y,hy⟩,hn1,h0,hdq,hq⟩:=num_pre hO hi hisn
 have hNT:=num_numT hO hi hisn
 obtain⟨hg1,hg2⟩:=hO.le _ _ x y (by omega) hx hy
 have hL:=hO.len
 rw[(at_some hx).2.2.2.1,(at_some hx).2.2.2.2]
 have hsm0:smallB (rAt L i)=false:=by unfold letterB at hl;simp at hl;exact hl.1
 have hgr0:greatB (rAt L i)=false:=by unfold letterB at hl;simp at hl;exact hl.2
 obtain⟨g,cap,hv,d0,d1,d2,d3,d4⟩:=h.rune hx
 subst hv
 have hgl:=World.block_lt_of_cell? w _ d0
 have hc:x.r=rAt L i:=(rAt_some hx).symm
 obtain⟨c,hcc⟩:∃ c,rAt L i=c:=⟨_,rfl⟩
 rw[hcc] at hc hsm0 hgr0
 rw[hc] at d0
 have HSM:=Lh hsm0
 have HGR:=Lh hgr0
 have HR:=Lh h
 have HC:=Lh hcc
 have hiz: (i:Int) < (L.length:Int):=by omega
 obtain⟨g',cap',hv',_,_,e2,_,_⟩:=h.rune hy
 simp only[Value.slice.injEq,Option.some.injEq,Addr.mk.injEq,true_and,and_true] at hv'
 obtain⟨rfl,rfl⟩:=hv'
 have hte:s.extract x.fr y.to=txt s L i (numN L i):=by unfold txt;rw[(at_some hx).2.1,(at_some hy).2.2.1]
 have hts: (txt s L i (numN L i)).size≤s.size:=by rw[←hte,ByteArray.size_extract];omega
 have hval:=fun W=>rvalue_any (txt s L i (numN L i)) W (by omega) h0 hNT
 have hdd:decide (((txt s L i (numN L i))[0]'h0).toNat=45)=decide (rAt L i=45):=by simp only[hq]
 rw[hdd] at hval
 obtain⟨⟨vn,ok⟩,hvv⟩:∃ vv,valN (txt s L i (numN L i)) (decide (rAt L i=45))=vv:=⟨_,rfl⟩
 have hnv:numVal s L i= (vn,ok):=hvv
 rw[hvv] at hval
 have HV:=Lh hval
 have HNV:=Lh hnv
 have hrow:rowE digitB L (i+1)=i+numN L i:=by unfold numN at *;omega
 have hrl:numN L i+i≤L.length:=by unfold numN;have:=(rowE_ge digitB L (i+1)).2 (by omega);omega
 have HT0:=Lh (show txt s L i (numN L i)=txt s L i (numN L i) from rfl)
 obtain⟨t,ht⟩:∃ t,txt s L i (numN L i)=t:=⟨_,rfl⟩
 obtain⟨n,hnn⟩:∃ n,numN L i=n:=⟨_,rfl⟩
 rw[ht] at hte hts HV ⊢
 rw[hnn] at hn1 hrow hy e2 hrl ⊢
 rw[hnv]
 obtain⟨er,her⟩:∃ er:Int,(if ok=true then(0:Int) else 2)=er:=⟨_,rfl⟩
 show Calls _ _ _ _ (ROne w ⟨3,t,vn,_,_⟩ _ (if ok=true then(0:Int) else 2))
 rw[her]
 have HER:=Lh her
 clear her
 clear ht hnn hval hvv hdd hdq hq hNT hnv HT0 hisn h0
 have HI:=Lh hte
 have HROW:=Lh hrow
 clear hte hrow
 have hjl:=(List.getElem?_eq_some_iff.1 hy).1
 have hjz: (i:Int)+n - 1 < (L.length:Int):=by omega
 have hjz0: (0:Int)≤(i:Int)+n - 1:=by omega
 have hq1: (1:Int)≤(i:Int)+n:=by omega
 have hjt: ((i:Int)+ (n:Int) - 1).toNat=i+ (n - 1):=by omega
 have hw2:IntKind.i64.wrap ((i:Int)+ (n:Int) - 1)= (i:Int)+n - 1:=IntWalk.i64_in _ (by omega)
 have hne: ((i:Int)+ (n:Int) == (i:Int))=false:=beq_eq_false_iff_ne.2 (by omega)
 have hxz: (x.fr:Int)≤(y.to:Int):=by omega
 have hyz: (y.to:Int)≤(s.size:Int):=by omega
 have hfz:¬(y.to:Int) < (x.fr:Int):=by omega
 clear hjl hy
 have HD:=Lh (show digitB c=true by rw[←hcc];exact hdig)
 clear hdig
 clear hl hsm0 hgr0 h hO hx hc hi hcc
 go_enter Tryz.func33,Tryz.ntmps33
 go_wp2_with fail
 refine(rsmallB_any c _).mono ?_
 rintro e w' ⟨rfl,rfl⟩
 rw[HSM.out]
 go_wp2_with fail
 refine(rgreatB_any c _).mono ?_
 rintro e w' ⟨rfl,rfl⟩
 rw[HGR.out]
 go_wp2_with fail
 refine(rdigitB_any c _).mono ?_
 rintro e w' ⟨rfl,rfl⟩
 rw[HD.out]
 go_wp2_with fail
 go_loop [11] (fun u=>∃ k:Nat,u=.int .i64 k∧k≤i+n∧Hid (rowE digitB L (i+1)=rowE digitB L k)) (fun u=>i+n - (intOf u).toNat)
 case atStart=>exact⟨i+1,by go_num,by omega,rfl⟩
 case round=>
  obtain⟨k,rfl,hk,HE⟩:=hrel
  cases hdk:digitB (rAt L k)
  · have hkn:k=i+n:=by rw[←HROW.out,HE.out,rowE_no _ _ _ hdk]
    have HDK:=Lh hdk
    subst hkn
    clear hdk
    go_wp2_with fail
    refine(rat_any (HR.out.keep ((Below.refl _ _).alloc (Nat.le_refl _) _ |>.alloc (by simp) _)) _ (by omega) (by omega)).mono ?_
    rintro e w' ⟨rfl,rfl⟩
    rw[show((i:Int)+ (n:Int)).toNat=i+n by omega]
    go_wp2_with fail
    refine(rdigitB_any _ _).mono ?_
    rintro e w' ⟨rfl,rfl⟩
    rw[HDK.out]
    go_wp2_with fail
    go_region_held3 (fun w'=>w'.cell? ⟨g,i * 5+1,none⟩ = some (.int .i64 x.fr)∧w'.cell? ⟨g,(i+ (n - 1)) * 5+2,none⟩ = some (.int .i64 y.to))
     (first|go_keep)
     (first|fail)
    rw[HI.out]
    go_wp2_with fail
    refine(HV.out _).mono ?_
    rintro e w' ⟨rfl,rfl⟩
    cases ok
    · go_wp2
      exact bodyPost_ret (v:=.tuple #[tkV ⟨3,t,vn,x.line,x.col⟩,.int .i64 ((i:Int)+n),.int .i64 2]) (by simp[results,Tryz.results33,go_sem,tkV]) rfl ⟨by rw[←HER.out];rfl,by repeat (first|exact Below.refl _ _|apply Below.drew|refine Below.alloc ?_ (by simp;try omega) _)⟩
    · go_wp2
      exact bodyPost_ret (v:=.tuple #[tkV ⟨3,t,vn,x.line,x.col⟩,.int .i64 ((i:Int)+n),.int .i64 0]) (by simp[results,Tryz.results33,go_sem,tkV]) rfl ⟨by rw[←HER.out];rfl,by repeat (first|exact Below.refl _ _|apply Below.drew|refine Below.alloc ?_ (by simp;try omega) _)⟩
  · have HDK:=Lh hdk
    have HE2:Hid (rowE digitB L (i+1)=rowE digitB L (k+1)):=by unfold Hid;rw[HE.out,rowE_yes _ (by decide) _ _ hdk]
    have hk2:k+1≤i+n:=by rw[←HROW.out,HE2.out];exact(rowE_ge _ _ _).1
    clear hdk
    go_wp2_with fail
    refine(rat_any (HR.out.keep ((Below.refl _ _).alloc (Nat.le_refl _) _ |>.alloc (by simp) _)) _ (by omega) (by omega)).mono ?_
    rintro e w' ⟨rfl,rfl⟩
    rw[Int.toNat_natCast]
    go_wp2_with fail
    refine(rdigitB_any _ _).mono ?_
    rintro e w' ⟨rfl,rfl⟩
    rw[HDK.out]
    go_wp2
    go_round
    case rel=>exact⟨k+1,by go_num,hk2,HE2⟩
    case measure=>simp[intOf];omega
theorem rone_num2 {w:World} {v:Value} {s:ByteArray} {L:List Rn} {i:Nat} (h:RR w v L) (hO:RnOk s L) (hs:s.size≤4294967200) (hi:i < L.length) (hl:letterB (rAt L i)=false) (hdig:digitB (rAt L i)=false) (h45:rAt L i=45) (hd1:digitB (rAt L (i+1))=true) :
 Calls Tryz.prog 33 #[.string s,v,.int .i64 i] w (ROne w ⟨3,txt s L i (numN L i),(numVal s L i).1,lineAt L i,colAt L i⟩ (i+numN L i) (if(numVal s L i).2 then 0 else 2)):=by
 obtain⟨x,hx⟩:∃ x,L[i]?=some x:=⟨_,List.getElem?_eq_getElem hi⟩
 have hisn:isNum L i=true:=by unfold isNum;rw[hdig,h45,hd1];rfl
 obtain⟨⟨y,hy⟩,hn1,h0,hdq,hq⟩:=num_pre hO hi hisn
 have hNT:=num_numT hO hi hisn
 obtain⟨hg1,hg2⟩:=hO.le _ _ x y (by omega) hx hy
 have hL:=hO.len
 rw[(at_some hx).2.2.2.1,(at_some hx).2.2.2.2]
 have hsm0:smallB (rAt L i)=false:=by unfold letterB at hl;simp at hl;exact hl.1
 have hgr0:greatB (rAt L i)=false:=by unfold letterB at hl;simp at hl;exact hl.2
 obtain⟨g,cap,hv,d0,d1,d2,d3,d4⟩:=h.rune hx
 subst hv
 have hgl:=World.block_lt_of_cell? w _ d0
 have hc:x.r=rAt L i:=(rAt_some hx).symm
 obtain⟨c,hcc⟩:∃ c,rAt L i=c:=⟨_,rfl⟩
 rw[hcc] at hc hsm0 hgr0
 rw[hc] at d0
 have HSM:=Lh hsm0
 have HGR:=Lh hgr0
 have HR:=Lh h
 have HC:=Lh hcc
 have hiz: (i:Int) < (L.length:Int):=by omega
 obtain⟨g',cap',hv',_,_,e2,_,_⟩:=h.rune hy
 simp only[Value.slice.injEq,Option.some.injEq,Addr.mk.injEq,true_and,and_true] at hv'
 obtain⟨rfl,rfl⟩:=hv'
 have hte:s.extract x.fr y.to=txt s L i (numN L i):=by unfold txt;rw[(at_some hx).2.1,(at_some hy).2.2.1]
 have hts: (txt s L i (numN L i)).size≤s.size:=by rw[←hte,ByteArray.size_extract];omega
 have hval:=fun W=>rvalue_any (txt s L i (numN L i)) W (by omega) h0 hNT
 have hdd:decide (((txt s L i (numN L i))[0]'h0).toNat=45)=decide (rAt L i=45):=by simp only[hq]
 rw[hdd] at hval
 obtain⟨⟨vn,ok⟩,hvv⟩:∃ vv,valN (txt s L i (numN L i)) (decide (rAt L i=45))=vv:=⟨_,rfl⟩
 have hnv:numVal s L i= (vn,ok):=hvv
 rw[hvv] at hval
 have HV:=Lh hval
 have HNV:=Lh hnv
 have hrow:rowE digitB L (i+1)=i+numN L i:=by unfold numN at *;omega
 have hrl:numN L i+i≤L.length:=by unfold numN;have:=(rowE_ge digitB L (i+1)).2 (by omega);omega
 have HT0:=Lh (show txt s L i (numN L i)=txt s L i (numN L i) from rfl)
 obtain⟨t,ht⟩:∃ t,txt s L i (numN L i)=t:=⟨_,rfl⟩
 obtain⟨n,hnn⟩:∃ n,numN L i=n:=⟨_,rfl⟩
 rw[ht] at hte hts HV ⊢
 rw[hnn] at hn1 hrow hy e2 hrl ⊢
 rw[hnv]
 obtain⟨er,her⟩:∃ er:Int,(if ok=true then(0:Int) else 2)=er:=⟨_,rfl⟩
 show Calls _ _ _ _ (ROne w ⟨3,t,vn,_,_⟩ _ (if ok=true then(0:Int) else 2))
 rw[her]
 have HER:=Lh her
 clear her
 clear ht hnn hval hvv hdd hdq hq hNT hnv HT0 hisn h0
 have HI:=Lh hte
 have HROW:=Lh hrow
 clear hte hrow
 have hjl:=(List.getElem?_eq_some_iff.1 hy).1
 have hjz: (i:Int)+n - 1 < (L.length:Int):=by omega
 have hjz0: (0:Int)≤(i:Int)+n - 1:=by omega
 have hq1: (1:Int)≤(i:Int)+n:=by omega
 have hjt: ((i:Int)+ (n:Int) - 1).toNat=i+ (n - 1):=by omega
 have hw2:IntKind.i64.wrap ((i:Int)+ (n:Int) - 1)= (i:Int)+n - 1:=IntWalk.i64_in _ (by omega)
 have hne: ((i:Int)+ (n:Int) == (i:Int))=false:=beq_eq_false_iff_ne.2 (by omega)
 have hxz: (x.fr:Int)≤(y.to:Int):=by omega
 have hyz: (y.to:Int)≤(s.size:Int):=by omega
 have hfz:¬(y.to:Int) < (x.fr:Int):=by omega
 clear hjl hy
 have HD:=Lh (show digitB c=false by rw[←hcc];exact hdig)
 obtain⟨d,hd⟩:∃ d,rAt L (i+1)=d:=⟨_,rfl⟩
 rw[hd] at hd1
 have HD1:=Lh hd
 have HD2:=Lh hd1
 have H45:Hid (c=45):=by unfold Hid;rw[←hcc];exact h45
 clear hdig hd hd1 h45
 clear hl hsm0 hgr0 h hO hx hc hi hcc
 go_enter Tryz.func33,Tryz.ntmps33
 go_wp2_with fail
 refine(rsmallB_any c _).mono ?_
 rintro e w' ⟨rfl,rfl⟩
 rw[HSM.out]
 go_wp2_with fail
 refine(rgreatB_any c _).mono ?_
 rintro e w' ⟨rfl,rfl⟩
 rw[HGR.out]
 go_wp2_with fail
 refine(rdigitB_any c _).mono ?_
 rintro e w' ⟨rfl,rfl⟩
 rw[HD.out]
 obtain rfl:c=45:=H45.out
 go_wp2_with fail
 refine(rat_any (HR.out.keep ((Below.refl _ _).alloc (Nat.le_refl _) _ |>.alloc (by simp) _)) _ (by omega) (by omega)).mono ?_
 rintro e w' ⟨rfl,rfl⟩
 rw[show((i:Int)+1).toNat=i+1 by omega,HD1.out]
 go_wp2_with fail
 refine(rdigitB_any d _).mono ?_
 rintro e w' ⟨rfl,rfl⟩
 rw[HD2.out]
 go_wp2_with fail
 go_loop [11] (fun u=>∃ k:Nat,u=.int .i64 k∧k≤i+n∧Hid (rowE digitB L (i+1)=rowE digitB L k)) (fun u=>i+n - (intOf u).toNat)
 case atStart=>exact⟨i+1,by go_num,by omega,rfl⟩
 case round=>
  obtain⟨k,rfl,hk,HE⟩:=hrel
  cases hdk:digitB (rAt L k)
  · have hkn:k=i+n:=by rw[←HROW.out,HE.out,rowE_no _ _ _ hdk]
    have HDK:=Lh hdk
    subst hkn
    clear hdk
    go_wp2_with fail
    refine(rat_any (HR.out.keep ((Below.refl _ _).alloc (Nat.le_refl _) _ |>.alloc (by simp) _)) _ (by omega) (by omega)).mono ?_
    rintro e w' ⟨rfl,rfl⟩
    rw[show((i:Int)+ (n:Int)).toNat=i+n by omega]
    go_wp2_with fail
    refine(rdigitB_any _ _).mono ?_
    rintro e w' ⟨rfl,rfl⟩
    rw[HDK.out]
    go_wp2_with fail
    go_region_held3 (fun w'=>w'.cell? ⟨g,i * 5+1,none⟩ = some (.int .i64 x.fr)∧w'.cell? ⟨g,(i+ (n - 1)) * 5+2,none⟩ = some (.int .i64 y.to))
     (first|go_keep)
     (first|fail)
    rw[HI.out]
    go_wp2_with fail
    refine(HV.out _).mono ?_
    rintro e w' ⟨rfl,rfl⟩
    cases ok
    · go_wp2
      exact bodyPost_ret (v:=.tuple #[tkV ⟨3,t,vn,x.line,x.col⟩,.int .i64 ((i:Int)+n),.int .i64 2]) (by simp[results,Tryz.results33,go_sem,tkV]) rfl ⟨by rw[←HER.out];rfl,by repeat (first|exact Below.refl _ _|apply Below.drew|refine Below.alloc ?_ (by simp;try omega) _)⟩
    · go_wp2
      exact bodyPost_ret (v:=.tuple #[tkV ⟨3,t,vn,x.line,x.col⟩,.int .i64 ((i:Int)+n),.int .i64 0]) (by simp[results,Tryz.results33,go_sem,tkV]) rfl ⟨by rw[←HER.out];rfl,by repeat (first|exact Below.refl _ _|apply Below.drew|refine Below.alloc ?_ (by simp;try omega) _)⟩
  · have HDK:=Lh hdk
    have HE2:Hid (rowE digitB L (i+1)=rowE digitB L (k+1)):=by unfold Hid;rw[HE.out,rowE_yes _ (by decide) _ _ hdk]
    have hk2:k+1≤i+n:=by rw[←HROW.out,HE2.out];exact(rowE_ge _ _ _).1
    clear hdk
    go_wp2_with fail
    refine(rat_any (HR.out.keep ((Below.refl _ _).alloc (Nat.le_refl _) _ |>.alloc (by simp) _)) _ (by omega) (by omega)).mono ?_
    rintro e w' ⟨rfl,rfl⟩
    rw[Int.toNat_natCast]
    go_wp2_with fail
    refine(rdigitB_any _ _).mono ?_
    rintro e w' ⟨rfl,rfl⟩
    rw[HDK.out]
    go_wp2
    go_round
    case rel=>exact⟨k+1,by go_num,hk2,HE2⟩
    case measure=>simp[intOf];omega
theorem sign_end {L:List Rn} {i:Nat} (hi:i < L.length) (_hz:signN (rAt L i) (rAt L (i+1))≠0):∃ y,L[i+ (signN (rAt L i) (rAt L (i+1)) - 1)]?=some y:=by
 have h:i+ (signN (rAt L i) (rAt L (i+1)) - 1) < L.length:=by
  unfold signN
  by_cases hq: (rAt L i=60∨rAt L i=62∨rAt L i=33)∧rAt L (i+1)=61
  · rw[if_pos hq]
    have:i+1 < L.length:=by
     by_cases hl:i+1 < L.length
     · exact hl
     · rw[rAt_none (L:=L) (i:=i+1) (by omega)] at hq;omega
    omega
  · rw[if_neg hq]
    split <;> omega
 exact⟨_,List.getElem?_eq_getElem h⟩
theorem rone_sign45z {w:World} {v:Value} {s:ByteArray} {L:List Rn} {i:Nat} (h:RR w v L) (hO:RnOk s L) (_hs:s.size≤4294967200) (hi:i < L.length) (hl:letterB (rAt L i)=false) (hdig:digitB (rAt L i)=false) (h45:rAt L i=45) (hd1:digitB (rAt L (i+1))=false) (hz:signN (rAt L i) (rAt L (i+1))=0) :
 Calls Tryz.prog 33 #[.string s,v,.int .i64 i] w (ROne w ⟨4,⟨#[]⟩,0,lineAt L i,colAt L i⟩ i 1):=by
 obtain⟨x,hx⟩:∃ x,L[i]?=some x:=⟨_,List.getElem?_eq_getElem hi⟩
 have HN:=Lh hz
 clear hz
 have hL:=hO.len
 rw[(at_some hx).2.2.2.1,(at_some hx).2.2.2.2]
 have hsm0:smallB (rAt L i)=false:=by unfold letterB at hl;simp at hl;exact hl.1
 have hgr0:greatB (rAt L i)=false:=by unfold letterB at hl;simp at hl;exact hl.2
 obtain⟨g,cap,hv,d0,d1,d2,d3,d4⟩:=h.rune hx
 subst hv
 have hgl:=World.block_lt_of_cell? w _ d0
 have hc:x.r=rAt L i:=(rAt_some hx).symm
 obtain⟨c,hcc⟩:∃ c,rAt L i=c:=⟨_,rfl⟩
 rw[hcc] at hc hsm0 hgr0
 rw[hc] at d0
 have HSM:=Lh hsm0
 have HGR:=Lh hgr0
 have HR:=Lh h
 have HC:=Lh hcc
 have hiz: (i:Int) < (L.length:Int):=by omega
 have HD:=Lh (show digitB c=false by rw[←hcc];exact hdig)
 obtain⟨d,hd⟩:∃ d,rAt L (i+1)=d:=⟨_,rfl⟩
 rw[hd] at hd1
 have HD1:=Lh hd
 have HD2:=Lh hd1
 have H45:Hid (c=45):=by unfold Hid;rw[←hcc];exact h45
 clear hdig hd hd1 h45
 clear hl hsm0 hgr0 h hO hx hc hi hcc
 go_enter Tryz.func33,Tryz.ntmps33
 go_wp2_with fail
 refine(rsmallB_any c _).mono ?_
 rintro e w' ⟨rfl,rfl⟩
 rw[HSM.out]
 go_wp2_with fail
 refine(rgreatB_any c _).mono ?_
 rintro e w' ⟨rfl,rfl⟩
 rw[HGR.out]
 go_wp2_with fail
 refine(rdigitB_any c _).mono ?_
 rintro e w' ⟨rfl,rfl⟩
 rw[HD.out]
 obtain rfl:c=45:=H45.out
 go_wp2_with fail
 refine(rat_any (HR.out.keep ((Below.refl _ _).alloc (Nat.le_refl _) _ |>.alloc (by simp) _)) _ (by omega) (by omega)).mono ?_
 rintro e w' ⟨rfl,rfl⟩
 rw[show((i:Int)+1).toNat=i+1 by omega,HD1.out]
 go_wp2_with fail
 refine(rdigitB_any d _).mono ?_
 rintro e w' ⟨rfl,rfl⟩
 rw[HD2.out]
 go_wp2_with fail
 refine(rsign_any (HR.out.keep ((Below.refl _ _).alloc (Nat.le_refl _) _ |>.alloc (by simp) _)) i (by omega)).mono ?_
 rintro e w' ⟨rfl,rfl⟩
 rw[HN.out]
 go_wp2
 exact bodyPost_ret (v:=.tuple #[tkV ⟨4,⟨#[]⟩,0,x.line,x.col⟩,.int .i64 i,.int .i64 1]) (by simp[results,Tryz.results33,go_sem,tkV]) rfl ⟨rfl,by repeat (first|exact Below.refl _ _|apply Below.drew|refine Below.alloc ?_ (by simp;try omega) _)⟩
theorem rone_sign45 {w:World} {v:Value} {s:ByteArray} {L:List Rn} {i:Nat} (h:RR w v L) (hO:RnOk s L) (_hs:s.size≤4294967200) (hi:i < L.length) (hl:letterB (rAt L i)=false) (hdig:digitB (rAt L i)=false) (h45:rAt L i=45) (hd1:digitB (rAt L (i+1))=false) (hz:signN (rAt L i) (rAt L (i+1))≠0) :
 Calls Tryz.prog 33 #[.string s,v,.int .i64 i] w (ROne w ⟨4,txt s L i (signN (rAt L i) (rAt L (i+1))),0,lineAt L i,colAt L i⟩ (i+signN (rAt L i) (rAt L (i+1))) 0):=by
 obtain⟨x,hx⟩:∃ x,L[i]?=some x:=⟨_,List.getElem?_eq_getElem hi⟩
 have hn1:1≤signN (rAt L i) (rAt L (i+1)):=by omega
 obtain⟨y,hy⟩:=sign_end hi hz
 obtain⟨hg1,hg2⟩:=hO.le _ _ x y (by omega) hx hy
 have hL:=hO.len
 rw[(at_some hx).2.2.2.1,(at_some hx).2.2.2.2]
 have hsm0:smallB (rAt L i)=false:=by unfold letterB at hl;simp at hl;exact hl.1
 have hgr0:greatB (rAt L i)=false:=by unfold letterB at hl;simp at hl;exact hl.2
 obtain⟨g,cap,hv,d0,d1,d2,d3,d4⟩:=h.rune hx
 subst hv
 have hgl:=World.block_lt_of_cell? w _ d0
 have hc:x.r=rAt L i:=(rAt_some hx).symm
 obtain⟨c,hcc⟩:∃ c,rAt L i=c:=⟨_,rfl⟩
 rw[hcc] at hc hsm0 hgr0
 rw[hc] at d0
 have HSM:=Lh hsm0
 have HGR:=Lh hgr0
 have HR:=Lh h
 have HC:=Lh hcc
 have hiz: (i:Int) < (L.length:Int):=by omega
 obtain⟨g',cap',hv',_,_,e2,_,_⟩:=h.rune hy
 simp only[Value.slice.injEq,Option.some.injEq,Addr.mk.injEq,true_and,and_true] at hv'
 obtain⟨rfl,rfl⟩:=hv'
 have hte:s.extract x.fr y.to=txt s L i (signN (rAt L i) (rAt L (i+1))):=by unfold txt;rw[(at_some hx).2.1,(at_some hy).2.2.1]
 have hts: (txt s L i (signN (rAt L i) (rAt L (i+1)))).size≤s.size:=by rw[←hte,ByteArray.size_extract];omega
 have hn2:signN (rAt L i) (rAt L (i+1))≤2:=by unfold signN;split <;> (try split) <;> omega
 obtain⟨t,ht⟩:∃ t,txt s L i (signN (rAt L i) (rAt L (i+1)))=t:=⟨_,rfl⟩
 obtain⟨n,hnn⟩:∃ n,signN (rAt L i) (rAt L (i+1))=n:=⟨_,rfl⟩
 rw[ht] at hte hts ⊢
 rw[hnn] at hn1 hn2 hy e2 ⊢
 have HN:=Lh hnn
 clear ht hnn hz
 have HI:=Lh hte
 clear hte
 have hjl:=(List.getElem?_eq_some_iff.1 hy).1
 have hjz: (i:Int)+n - 1 < (L.length:Int):=by omega
 have hjz0: (0:Int)≤(i:Int)+n - 1:=by omega
 have hq1: (1:Int)≤(i:Int)+n:=by omega
 have hjt: ((i:Int)+ (n:Int) - 1).toNat=i+ (n - 1):=by omega
 have hw2:IntKind.i64.wrap ((i:Int)+ (n:Int) - 1)= (i:Int)+n - 1:=IntWalk.i64_in _ (by omega)
 have hne: ((i:Int)+ (n:Int) == (i:Int))=false:=beq_eq_false_iff_ne.2 (by omega)
 have hxz: (x.fr:Int)≤(y.to:Int):=by omega
 have hyz: (y.to:Int)≤(s.size:Int):=by omega
 have hfz:¬(y.to:Int) < (x.fr:Int):=by omega
 clear hjl hy
 have HD:=Lh (show digitB c=false by rw[←hcc];exact hdig)
 obtain⟨d,hd⟩:∃ d,rAt L (i+1)=d:=⟨_,rfl⟩
 rw[hd] at hd1
 have HD1:=Lh hd
 have HD2:=Lh hd1
 have H45:Hid (c=45):=by unfold Hid;rw[←hcc];exact h45
 clear hdig hd hd1 h45
 clear hl hsm0 hgr0 h hO hx hc hi hcc
 go_enter Tryz.func33,Tryz.ntmps33
 go_wp2_with fail
 refine(rsmallB_any c _).mono ?_
 rintro e w' ⟨rfl,rfl⟩
 rw[HSM.out]
 go_wp2_with fail
 refine(rgreatB_any c _).mono ?_
 rintro e w' ⟨rfl,rfl⟩
 rw[HGR.out]
 go_wp2_with fail
 refine(rdigitB_any c _).mono ?_
 rintro e w' ⟨rfl,rfl⟩
 rw[HD.out]
 obtain rfl:c=45:=H45.out
 go_wp2_with fail
 refine(rat_any (HR.out.keep ((Below.refl _ _).alloc (Nat.le_refl _) _ |>.alloc (by simp) _)) _ (by omega) (by omega)).mono ?_
 rintro e w' ⟨rfl,rfl⟩
 rw[show((i:Int)+1).toNat=i+1 by omega,HD1.out]
 go_wp2_with fail
 refine(rdigitB_any d _).mono ?_
 rintro e w' ⟨rfl,rfl⟩
 rw[HD2.out]
 go_wp2_with fail
 refine(rsign_any (HR.out.keep ((Below.refl _ _).alloc (Nat.le_refl _) _ |>.alloc (by simp) _)) i (by omega)).mono ?_
 rintro e w' ⟨rfl,rfl⟩
 rw[HN.out]
 go_wp2_with fail
 go_region_held3 (fun w'=>w'.cell? ⟨g,i * 5+1,none⟩ = some (.int .i64 x.fr)∧w'.cell? ⟨g,(i+ (n - 1)) * 5+2,none⟩ = some (.int .i64 y.to))
  (first|go_keep)
  (first|fail)
 rw[HI.out]
 go_wp2
 exact bodyPost_ret (v:=.tuple #[tkV ⟨4,t,0,x.line,x.col⟩,.int .i64 ((i:Int)+n),.int .i64 0]) (by simp[results,Tryz.results33,go_sem,tkV]) rfl ⟨rfl,by repeat (first|exact Below.refl _ _|apply Below.drew|refine Below.alloc ?_ (by simp;try omega) _)⟩
theorem rone_signz {w:World} {v:Value} {s:ByteArray} {L:List Rn} {i:Nat} (h:RR w v L) (hO:RnOk s L) (_hs:s.size≤4294967200) (hi:i < L.length) (hl:letterB (rAt L i)=false) (hdig:digitB (rAt L i)=false) (h45:rAt L i≠45) (hz:signN (rAt L i) (rAt L (i+1))=0) :
 Calls Tryz.prog 33 #[.string s,v,.int .i64 i] w (ROne w ⟨4,⟨#[]⟩,0,lineAt L i,colAt L i⟩ i 1):=by
 obtain⟨x,hx⟩:∃ x,L[i]?=some x:=⟨_,List.getElem?_eq_getElem hi⟩
 have HN:=Lh hz
 clear hz
 have hL:=hO.len
 rw[(at_some hx).2.2.2.1,(at_some hx).2.2.2.2]
 have hsm0:smallB (rAt L i)=false:=by unfold letterB at hl;simp at hl;exact hl.1
 have hgr0:greatB (rAt L i)=false:=by unfold letterB at hl;simp at hl;exact hl.2
 obtain⟨g,cap,hv,d0,d1,d2,d3,d4⟩:=h.rune hx
 subst hv
 have hgl:=World.block_lt_of_cell? w _ d0
 have hc:x.r=rAt L i:=(rAt_some hx).symm
 obtain⟨c,hcc⟩:∃ c,rAt L i=c:=⟨_,rfl⟩
 rw[hcc] at hc hsm0 hgr0
 rw[hc] at d0
 have HSM:=Lh hsm0
 have HGR:=Lh hgr0
 have HR:=Lh h
 have HC:=Lh hcc
 have hiz: (i:Int) < (L.length:Int):=by omega
 have HD:=Lh (show digitB c=false by rw[←hcc];exact hdig)
 have h45': (c == 45)=false:=beq_eq_false_iff_ne.2 (fun e=>h45 (hcc.trans e))
 clear hdig h45
 clear hl hsm0 hgr0 h hO hx hc hi hcc
 go_enter Tryz.func33,Tryz.ntmps33
 go_wp2_with fail
 refine(rsmallB_any c _).mono ?_
 rintro e w' ⟨rfl,rfl⟩
 rw[HSM.out]
 go_wp2_with fail
 refine(rgreatB_any c _).mono ?_
 rintro e w' ⟨rfl,rfl⟩
 rw[HGR.out]
 go_wp2_with fail
 refine(rdigitB_any c _).mono ?_
 rintro e w' ⟨rfl,rfl⟩
 rw[HD.out]
 go_wp2_with fail
 refine(rsign_any (HR.out.keep ((Below.refl _ _).alloc (Nat.le_refl _) _ |>.alloc (by simp) _)) i (by omega)).mono ?_
 rintro e w' ⟨rfl,rfl⟩
 rw[HN.out]
 go_wp2
 exact bodyPost_ret (v:=.tuple #[tkV ⟨4,⟨#[]⟩,0,x.line,x.col⟩,.int .i64 i,.int .i64 1]) (by simp[results,Tryz.results33,go_sem,tkV]) rfl ⟨rfl,by repeat (first|exact Below.refl _ _|apply Below.drew|refine Below.alloc ?_ (by simp;try omega) _)⟩
theorem rone_sign {w:World} {v:Value} {s:ByteArray} {L:List Rn} {i:Nat} (h:RR w v L) (hO:RnOk s L) (_hs:s.size≤4294967200) (hi:i < L.length) (hl:letterB (rAt L i)=false) (hdig:digitB (rAt L i)=false) (h45:rAt L i≠45) (hz:signN (rAt L i) (rAt L (i+1))≠0) :
 Calls Tryz.prog 33 #[.string s,v,.int .i64 i] w (ROne w ⟨4,txt s L i (signN (rAt L i) (rAt L (i+1))),0,lineAt L i,colAt L i⟩ (i+signN (rAt L i) (rAt L (i+1))) 0):=by
 obtain⟨x,hx⟩:∃ x,L[i]?=some x:=⟨_,List.getElem?_eq_getElem hi⟩
 have hn1:1≤signN (rAt L i) (rAt L (i+1)):=by omega
 obtain⟨y,hy⟩:=sign_end hi hz
 obtain⟨hg1,hg2⟩:=hO.le _ _ x y (by omega) hx hy
 have hL:=hO.len
 rw[(at_some hx).2.2.2.1,(at_some hx).2.2.2.2]
 have hsm0:smallB (rAt L i)=false:=by unfold letterB at hl;simp at hl;exact hl.1
 have hgr0:greatB (rAt L i)=false:=by unfold letterB at hl;simp at hl;exact hl.2
 obtain⟨g,cap,hv,d0,d1,d2,d3,d4⟩:=h.rune hx
 subst hv
 have hgl:=World.block_lt_of_cell? w _ d0
 have hc:x.r=rAt L i:=(rAt_some hx).symm
 obtain⟨c,hcc⟩:∃ c,rAt L i=c:=⟨_,rfl⟩
 rw[hcc] at hc hsm0 hgr0
 rw[hc] at d0
 have HSM:=Lh hsm0
 have HGR:=Lh hgr0
 have HR:=Lh h
 have HC:=Lh hcc
 have hiz: (i:Int) < (L.length:Int):=by omega
 obtain⟨g',cap',hv',_,_,e2,_,_⟩:=h.rune hy
 simp only[Value.slice.injEq,Option.some.injEq,Addr.mk.injEq,true_and,and_true] at hv'
 obtain⟨rfl,rfl⟩:=hv'
 have hte:s.extract x.fr y.to=txt s L i (signN (rAt L i) (rAt L (i+1))):=by unfold txt;rw[(at_some hx).2.1,(at_some hy).2.2.1]
 have hts: (txt s L i (signN (rAt L i) (rAt L (i+1)))).size≤s.size:=by rw[←hte,ByteArray.size_extract];omega
 have hn2:signN (rAt L i) (rAt L (i+1))≤2:=by unfold signN;split <;> (try split) <;> omega
 obtain⟨t,ht⟩:∃ t,txt s L i (signN (rAt L i) (rAt L (i+1)))=t:=⟨_,rfl⟩
 obtain⟨n,hnn⟩:∃ n,signN (rAt L i) (rAt L (i+1))=n:=⟨_,rfl⟩
 rw[ht] at hte hts ⊢
 rw[hnn] at hn1 hn2 hy e2 ⊢
 have HN:=Lh hnn
 clear ht hnn hz
 have HI:=Lh hte
 clear hte
 have hjl:=(List.getElem?_eq_some_iff.1 hy).1
 have hjz: (i:Int)+n - 1 < (L.length:Int):=by omega
 have hjz0: (0:Int)≤(i:Int)+n - 1:=by omega
 have hq1: (1:Int)≤(i:Int)+n:=by omega
 have hjt: ((i:Int)+ (n:Int) - 1).toNat=i+ (n - 1):=by omega
 have hw2:IntKind.i64.wrap ((i:Int)+ (n:Int) - 1)= (i:Int)+n - 1:=IntWalk.i64_in _ (by omega)
 have hne: ((i:Int)+ (n:Int) == (i:Int))=false:=beq_eq_false_iff_ne.2 (by omega)
 have hxz: (x.fr:Int)≤(y.to:Int):=by omega
 have hyz: (y.to:Int)≤(s.size:Int):=by omega
 have hfz:¬(y.to:Int) < (x.fr:Int):=by omega
 clear hjl hy
 have HD:=Lh (show digitB c=false by rw[←hcc];exact hdig)
 have h45': (c == 45)=false:=beq_eq_false_iff_ne.2 (fun e=>h45 (hcc.trans e))
 clear hdig h45
 clear hl hsm0 hgr0 h hO hx hc hi hcc
 go_enter Tryz.func33,Tryz.ntmps33
 go_wp2_with fail
 refine(rsmallB_any c _).mono ?_
 rintro e w' ⟨rfl,rfl⟩
 rw[HSM.out]
 go_wp2_with fail
 refine(rgreatB_any c _).mono ?_
 rintro e w' ⟨rfl,rfl⟩
 rw[HGR.out]
 go_wp2_with fail
 refine(rdigitB_any c _).mono ?_
 rintro e w' ⟨rfl,rfl⟩
 rw[HD.out]
 go_wp2_with fail
 refine(rsign_any (HR.out.keep ((Below.refl _ _).alloc (Nat.le_refl _) _ |>.alloc (by simp) _)) i (by omega)).mono ?_
 rintro e w' ⟨rfl,rfl⟩
 rw[HN.out]
 go_wp2_with fail
 go_region_held3 (fun w'=>w'.cell? ⟨g,i * 5+1,none⟩ = some (.int .i64 x.fr)∧w'.cell? ⟨g,(i+ (n - 1)) * 5+2,none⟩ = some (.int .i64 y.to))
  (first|go_keep)
  (first|fail)
 rw[HI.out]
 go_wp2
 exact bodyPost_ret (v:=.tuple #[tkV ⟨4,t,0,x.line,x.col⟩,.int .i64 ((i:Int)+n),.int .i64 0]) (by simp[results,Tryz.results33,go_sem,tkV]) rfl ⟨rfl,by repeat (first|exact Below.refl _ _|apply Below.drew|refine Below.alloc ?_ (by simp;try omega) _)⟩
end Go.Proofs.YthlofmnmacpogaaGreatDoor
