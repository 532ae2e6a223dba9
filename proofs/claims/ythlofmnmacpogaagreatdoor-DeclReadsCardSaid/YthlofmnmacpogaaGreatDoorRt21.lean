/- A part of a proof of DeclReadsProof. -/
import Derived.Test.YthlofmnmacpogaaGreatDoorRt17
import Derived.Test.YthlofmnmacpogaaGreatDoorRt18
set_option maxRecDepth 100000
set_option maxHeartbeats 40000000
namespace Go.Proofs.YthlofmnmacpogaaGreatDoor
open Go.RowKit
def evHead (T:List Tk) (r:RS):RS:=
 let r1:=setName (nameV T r) (nameD T r)
 let r2:=needD T 2 wBy r1
 let r3:=setRole (nameV T r2) (nameD T r2)
 let r4:=needD T 2 wIn r3
 setStage (nameV T r4) (nameD T r4)
def evSets (T:List Tk) (r:RS):RS:=if mayB T 2 wSets r then setsL T (T.length+1) (moreD T (mayD T 2 wSets r)) else r
def evMax (T:List Tk) (r:RS):RS:=if mayB T 2 wMax r then timesD T (mayD T 2 wMax r) else r
theorem event_is (T:List Tk) (r:RS):eventD T r=evMax T (evSets T (evHead T r)):=rfl
theorem evHead_names {T:List Tk} {r:RS} (h:r.x.names= []): (evHead T r).x.names= []:=by
 have e: (evHead T r).x.names=r.x.names:=by
  simp only[evHead,setStage,setRole,setName,nameD,take_x,need_x]
 rw[e,h]
theorem devent_any {w:World} {B b:Nat} {lv iv:Value} {T:List Tk} {r:RS} (h:Dr w B b lv (.slice none 0 0) iv T r) (hnm:r.x.names= []) (hB:B≤w.heap.size) (hi:InD T r) :
 Calls Tryz.prog 41 #[.pointer (some ⟨b,0,none⟩)] w fun en w'=>en=.returned (.tuple #[])∧∃ nv,DT w w' B b lv nv iv T (eventD T r):=by
 have hTl:T.length≤1000000:=by obtain⟨_,_,_,hl,_⟩:=h.tk;exact hl
 have HC0:=Lh (DT.of_rd h)
 have HI0:=Lh hi
 have HNV:=Lh (show ∀ g,(Value.slice none 0 0).ownBlock=some g→w.heap.size≤g from fun g e=>by simp[Value.ownBlock] at e)
 have HNM:=Lh (evHead_names (T:=T) hnm)
 obtain⟨i0,hi0,hz0,hz1,hz2⟩:=info_parts info_strD
 have HIP:=Lh (And.intro hi0 (And.intro hz0 (And.intro hz1 hz2)))
 clear hi0 hz0 hz1 hz2 hnm
 clear h hi
 go_enter Tryz.func41,Tryz.ntmps41
 obtain⟨r1,hr1⟩:∃ q,nameD T r=q:=⟨_,rfl⟩
 have HN1:=Lh hr1
 have HI1:=Lh (show InD T r1 by rw[←hr1];exact HI0.out.name)
 clear hr1
 obtain⟨s1,hs1⟩:∃ q,nameV T r=q:=⟨_,rfl⟩
 have HS1:=Lh hs1
 clear hs1
 go_wp2_with fail
 refine(dname_any HC0.out.rd (HC0.out.size hB) (bndD HI0.out hTl).1 (bndD HI0.out hTl).2).mono ?_
 rw[HS1.out,HN1.out]
 rintro en w1 ⟨rfl,hc⟩
 have HC1:=Lh (HC0.out.trans hc)
 clear hc
 obtain⟨_,_,_,c3,_,_,_,_,_,_,_,_,_,_,_,_,_⟩:=HC1.out.rd.facts
 obtain⟨_,_,_,f3,_,_,_,_,_,_,_,_,_,_,_,_,_⟩:=HC1.out.rd.free
 have HD1:=Lh (HC1.out.setName s1)
 have HJ1:=Lh (show InD T (setName s1 r1) from HI1.out)
 obtain⟨r2,hr2⟩:∃ q,needD T 2 wBy (setName s1 r1)=q:=⟨_,rfl⟩
 have HN2:=Lh hr2
 have HI2:=Lh (show InD T r2 by rw[←hr2];exact HJ1.out.need 2 wBy (by decide))
 clear hr2
 go_wp2_with fail
 refine(dneed_any HD1.out.rd (HD1.out.size hB) 2 wBy (bndD HJ1.out hTl).1 (bndD HJ1.out hTl).2).mono ?_
 rw[HN2.out]
 rintro en w2 ⟨rfl,hc⟩
 have HC2:=Lh (HD1.out.trans hc)
 clear hc
 obtain⟨r3,hr3⟩:∃ q,nameD T r2=q:=⟨_,rfl⟩
 have HN3:=Lh hr3
 have HI3:=Lh (show InD T r3 by rw[←hr3];exact HI2.out.name)
 clear hr3
 obtain⟨s3,hs3⟩:∃ q,nameV T r2=q:=⟨_,rfl⟩
 have HS3:=Lh hs3
 clear hs3
 go_wp2_with fail
 refine(dname_any HC2.out.rd (HC2.out.size hB) (bndD HI2.out hTl).1 (bndD HI2.out hTl).2).mono ?_
 rw[HS3.out,HN3.out]
 rintro en w3 ⟨rfl,hc⟩
 have HC3:=Lh (HC2.out.trans hc)
 clear hc
 obtain⟨_,_,_,_,_,_,_,_,c8,_,_,_,_,_,_,_,_⟩:=HC3.out.rd.facts
 obtain⟨_,_,_,_,_,_,_,_,f8,_,_,_,_,_,_,_,_⟩:=HC3.out.rd.free
 have HD3:=Lh (HC3.out.setRole s3)
 have HJ3:=Lh (show InD T (setRole s3 r3) from HI3.out)
 obtain⟨r4,hr4⟩:∃ q,needD T 2 wIn (setRole s3 r3)=q:=⟨_,rfl⟩
 have HN4:=Lh hr4
 have HI4:=Lh (show InD T r4 by rw[←hr4];exact HJ3.out.need 2 wIn (by decide))
 clear hr4
 go_wp2_with fail
 refine(dneed_any HD3.out.rd (HD3.out.size hB) 2 wIn (bndD HJ3.out hTl).1 (bndD HJ3.out hTl).2).mono ?_
 rw[HN4.out]
 rintro en w4 ⟨rfl,hc⟩
 have HC4:=Lh (HD3.out.trans hc)
 clear hc
 obtain⟨r5,hr5⟩:∃ q,nameD T r4=q:=⟨_,rfl⟩
 have HN5:=Lh hr5
 have HI5:=Lh (show InD T r5 by rw[←hr5];exact HI4.out.name)
 clear hr5
 obtain⟨s5,hs5⟩:∃ q,nameV T r4=q:=⟨_,rfl⟩
 have HS5:=Lh hs5
 clear hs5
 go_wp2_with fail
 refine(dname_any HC4.out.rd (HC4.out.size hB) (bndD HI4.out hTl).1 (bndD HI4.out hTl).2).mono ?_
 rw[HS5.out,HN5.out]
 rintro en w5 ⟨rfl,hc⟩
 have HC5:=Lh (HC4.out.trans hc)
 clear hc
 obtain⟨_,_,_,_,_,_,_,_,_,c9,_,_,_,_,_,_,_⟩:=HC5.out.rd.facts
 obtain⟨_,_,_,_,_,_,_,_,_,f9,_,_,_,_,_,_,_⟩:=HC5.out.rd.free
 have HD5:=Lh (HC5.out.setStage s5)
 have HJ5:=Lh (show InD T (setStage s5 r5) from HI5.out)
 have HH:Hid (evHead T r= (setStage s5 r5)):=by unfold Hid;simp only[evHead,HN1.out,HS1.out,HN2.out,HN3.out,HS3.out,HN4.out,HN5.out,HS5.out]
 have HM5:Hid ((setStage s5 r5).x.names= []):=by unfold Hid;rw[←HH.out];exact HNM.out
 obtain⟨r6,hr6⟩:∃ q,mayD T 2 wSets (setStage s5 r5)=q:=⟨_,rfl⟩
 have HN6:=Lh hr6
 have HI6:=Lh (show InD T r6 by rw[←hr6];exact HJ5.out.may 2 wSets (by decide))
 clear hr6
 obtain⟨s6,hs6⟩:∃ q,mayB T 2 wSets (setStage s5 r5)=q:=⟨_,rfl⟩
 have HS6:=Lh hs6
 clear hs6
 go_wp2_with fail
 refine(dmay_any HD5.out.rd (HD5.out.size hB) 2 wSets (bndD HJ5.out hTl).1 (bndD HJ5.out hTl).2).mono ?_
 rw[HS6.out,HN6.out]
 rintro en w6 ⟨rfl,hc⟩
 have HC6:=Lh (HD5.out.trans hc)
 clear hc
 cases s6
 · have HEV:Hid (evSets T (evHead T r)= (setStage s5 r5)):=by unfold Hid evSets;rw[HH.out,HS6.out];rfl
   have e6:r6= (setStage s5 r5):=by rw[←HN6.out];unfold mayD;rw[HS6.out];rfl
   have HC6q:Hid (DT w w6 B b lv (.slice none 0 0) iv T (setStage s5 r5)):=by unfold Hid;rw[←e6];exact HC6.out
   have HI6q:Hid (InD T (setStage s5 r5)):=HJ5.out
   clear e6
   obtain⟨r11,hr11⟩:∃ q,mayD T 2 wMax (setStage s5 r5)=q:=⟨_,rfl⟩
   have HN11:=Lh hr11
   have HI11:=Lh (show InD T r11 by rw[←hr11];exact HI6q.out.may 2 wMax (by decide))
   clear hr11
   obtain⟨s11,hs11⟩:∃ q,mayB T 2 wMax (setStage s5 r5)=q:=⟨_,rfl⟩
   have HS11:=Lh hs11
   clear hs11
   go_wp2_with fail
   refine(dmay_any HC6q.out.rd (HC6q.out.size hB) 2 wMax (bndD HI6q.out hTl).1 (bndD HI6q.out hTl).2).mono ?_
   rw[HS11.out,HN11.out]
   rintro en w11 ⟨rfl,hc⟩
   have HC11:=Lh (HC6q.out.trans hc)
   clear hc
   cases s11
   · go_wp2
     first
     | go_end0
     | ((try simp only[Exit.inBlock,Exit.then]);refine bodyPost_ret (results_none rfl _ _ _) rfl ?_)
     exact⟨rfl,_,by
      have e:eventD T r= (setStage s5 r5):=by rw[event_is,HEV.out];unfold evMax;rw[HS11.out];rfl
      have e2:r11= (setStage s5 r5):=by rw[←HN11.out];unfold mayD;rw[HS11.out];rfl
      rw[e,←e2];exact HC11.out⟩
   · obtain⟨r12,hr12⟩:∃ q,timesD T r11=q:=⟨_,rfl⟩
     have HN12:=Lh hr12
     clear hr12
     go_wp2_with fail
     refine(dtimes_any HC11.out.rd (HC11.out.size hB) HI11.out).mono ?_
     rw[HN12.out]
     rintro en w12 ⟨rfl,hc⟩
     have HC12:=Lh (HC11.out.trans hc)
     clear hc
     go_wp2
     first
     | go_end0
     | ((try simp only[Exit.inBlock,Exit.then]);refine bodyPost_ret (results_none rfl _ _ _) rfl ?_)
     exact⟨rfl,_,by
      have e:eventD T r=r12:=by rw[event_is,HEV.out];unfold evMax;rw[HS11.out,if_pos rfl,HN11.out,HN12.out]
      rw[e];exact HC12.out⟩
 · have HM6:Hid (r6.x.names= []):=by unfold Hid;rw[←HN6.out,may_x];exact HM5.out
   obtain⟨r7,hr7⟩:∃ q,nameD T r6=q:=⟨_,rfl⟩
   have HN7:=Lh hr7
   have HI7:=Lh (show InD T r7 by rw[←hr7];exact HI6.out.name)
   have HX7:=Lh (show r7.x.names=r6.x.names by rw[←hr7];exact congrArg St.names (take_x T 1 r6))
   clear hr7
   obtain⟨s7,hs7⟩:∃ q,nameV T r6=q:=⟨_,rfl⟩
   have HS7:=Lh hs7
   clear hs7
   have hlen7:r7.x.names.length≤1000001:=by rw[HX7.out];exact(by rw[HM6.out];exact Nat.zero_le _)
   go_upto_region 6 with fail
   go_cut [] (fun wx=>∃ nv2:Value,Hid (DT w wx B b lv nv2 iv T (setNames (r7.x.names ++ [s7]) r7)∧∀ g,nv2.ownBlock=some g→w.heap.size≤g))
   case first=>
    obtain⟨_,_,_,_,_,_,_,c7,_,_,_,_,_,_,_,_,_⟩:=HC6.out.rd.drew.facts
    go_region_law (first
     | (go_simp;go_at_call 71;(with_reducible refine(dname_any HC6.out.drew.rd (HC6.out.drew.size hB) (bndD HI6.out hTl).1 (bndD HI6.out hTl).2).mono ?_)
        rw[HS7.out,HN7.out]
        rintro en w7 ⟨rfl,hc⟩
        have HC7:=Lh (HC6.out.drew.trans hc)
        obtain⟨_,_,_,_,_,_,_,d7,_,_,_,_,_,_,_,_,_⟩:=HC7.out.rd.facts
        obtain⟨_,_,_,_,_,_,_,x7,_,_,_,_,_,_,_,_,_⟩:=(HC7.out.alloc hB (.cells #[.string s7] 9)).rd.facts
        have hsz7:=HC7.out.gb.size
        clear hc)
     | (refine step_append_lies _ (by rfl) _ _ _ (by rfl) B 9 i0 _ 1 16 Tryz.underlying34 HIP.out.1 HIP.out.2.1 HIP.out.2.2.1 HIP.out.2.2.2 rfl (by omega) _ r7.x.names.length (strV r7.x.names) (by rfl) (World.ownsRow.alloc HC7.out.rd.nm _) ⟨w7.heap.size,0,none⟩ 1 1 [.string s7] (by rfl) (by rfl) (World.news_of_block (cs:=#[.string s7]) (t:=9) (fr:=(0,0)) (heap_at_size _ _ _ (by simp))) (by simp[Value.oneCell']) (by omega) (by unfold maxLen;omega) (by omega) (by simp;omega) (w7.heap.size+1) (by simp) ?_
        intro g7 cap7 v7 hown7 hgrow7 hat7 hlt7
        have HP7:=Lh (DT.put HC7.out hB HNV.out hgrow7 hown7 (by rcases hat7 with e|e;exact .inl e;exact .inr (by omega)))
        obtain⟨e7,z7⟩:=HC7.out.names_at hgrow7
        clear hown7 hgrow7 hat7))
    all_goals
     go_wp2_with fail
     go_meet
     exact⟨_,HP7.out⟩
   case rest=>
    obtain⟨nv7,hcut⟩:=hcut
    have HC7p:=Lh hcut.out.1
    have HNV7:=Lh hcut.out.2
    have HI7p:=Lh (show InD T (setNames (r7.x.names ++ [s7]) r7) from HI7.out)
    clear hcut
    have HL7:=Lh (show(setNames (r7.x.names ++ [s7]) r7).x.names.length=1 by show(r7.x.names ++ [s7]).length=1;rw[HX7.out,HM6.out];rfl)
    have HE3:Hid (evSets T (evHead T r)=setsL T (T.length+1) (setNames (r7.x.names ++ [s7]) r7)):=by
     unfold Hid evSets;rw[HH.out,HS6.out,if_pos rfl,HN6.out,moreD,HS7.out,HN7.out,HX7.out]
    go_wp2
    go_loopw [] (fun wr=>∃ (k:Nat) (rr:RS) (nv2:Value),Hid (DT w wr B b lv nv2 iv T rr∧(∀ g,nv2.ownBlock=some g→w.heap.size≤g)∧evSets T (evHead T r)=setsL T k rr∧InD T rr∧(T.length:Int) < rr.i+k∧(rr.x.names.length:Int)≤rr.i+1)) (fun wr=>T.length+1 - posOf wr b)
    case atStart=>exact⟨T.length+1,_,_,HC7p.out,HNV7.out,HE3.out,HI7p.out,by have:=HI7p.out.1;omega,by rw[HL7.out];have:=HI7p.out.1;omega⟩
    case round=>
     obtain⟨k,rr,nv2,HALL⟩:=hrel
     obtain⟨hDT,hnv2,hRL,hII,hfu,hnl⟩:=HALL.out
     have HC8:=Lh hDT;have HNV8:=Lh hnv2;have HRL:=Lh hRL;have HI8:=Lh hII;have HFU:=Lh hfu;have HNLH:=Lh hnl
     have hNL:rr.x.names.length≤1000001:=by have:=hII.2;omega
     have HPOS:Hid (posOf wr b=rr.i.toNat):=posD hDT.rd
     clear hDT hnv2 hRL hII hfu hnl HALL HC7p HNV7 HI7p
     obtain⟨r9,hr9⟩:∃ q,mayD T 4 sComma rr=q:=⟨_,rfl⟩
     have HN9:=Lh hr9
     have HI9:=Lh (show InD T r9 by rw[←hr9];exact HI8.out.may 4 sComma (by decide))
     clear hr9
     obtain⟨s9,hs9⟩:∃ q,mayB T 4 sComma rr=q:=⟨_,rfl⟩
     have HS9:=Lh hs9
     clear hs9
     go_wp2_with fail
     refine(dmay_any HC8.out.rd (HC8.out.size hB) 4 sComma (bndD HI8.out hTl).1 (bndD HI8.out hTl).2).mono ?_
     rw[HS9.out,HN9.out]
     rintro en w9 ⟨rfl,hc⟩
     have HC9:=Lh (HC8.out.trans hc)
     clear hc
     cases s9
     · have HE:Hid (evSets T (evHead T r)=rr):=by
        unfold Hid;rw[HRL.out]
        cases k with
        | zero=>rfl
        | succ k=>rw[setsL,HS9.out];rfl
       have HEV:Hid (evSets T (evHead T r)=rr):=HE.out
       have e9:r9=rr:=by rw[←HN9.out];unfold mayD;rw[HS9.out];rfl
       have HC9q:Hid (DT w w9 B b lv nv2 iv T rr):=by unfold Hid;rw[←e9];exact HC9.out
       clear e9
       obtain⟨r21,hr21⟩:∃ q,mayD T 2 wMax rr=q:=⟨_,rfl⟩
       have HN21:=Lh hr21
       have HI21:=Lh (show InD T r21 by rw[←hr21];exact HI8.out.may 2 wMax (by decide))
       clear hr21
       obtain⟨s21,hs21⟩:∃ q,mayB T 2 wMax rr=q:=⟨_,rfl⟩
       have HS21:=Lh hs21
       clear hs21
       go_wp2_with fail
       refine(dmay_any HC9q.out.rd (HC9q.out.size hB) 2 wMax (bndD HI8.out hTl).1 (bndD HI8.out hTl).2).mono ?_
       rw[HS21.out,HN21.out]
       rintro en w21 ⟨rfl,hc⟩
       have HC21:=Lh (HC9q.out.trans hc)
       clear hc
       cases s21
       · go_wp2
         first
         | go_end0
         | ((try simp only[Exit.inBlock,Exit.then]);refine bodyPost_ret (results_none rfl _ _ _) rfl ?_)
         exact⟨rfl,_,by
          have e:eventD T r=rr:=by rw[event_is,HEV.out];unfold evMax;rw[HS21.out];rfl
          have e2:r21=rr:=by rw[←HN21.out];unfold mayD;rw[HS21.out];rfl
          rw[e,←e2];exact HC21.out⟩
       · obtain⟨r22,hr22⟩:∃ q,timesD T r21=q:=⟨_,rfl⟩
         have HN22:=Lh hr22
         clear hr22
         go_wp2_with fail
         refine(dtimes_any HC21.out.rd (HC21.out.size hB) HI21.out).mono ?_
         rw[HN22.out]
         rintro en w22 ⟨rfl,hc⟩
         have HC22:=Lh (HC21.out.trans hc)
         clear hc
         go_wp2
         first
         | go_end0
         | ((try simp only[Exit.inBlock,Exit.then]);refine bodyPost_ret (results_none rfl _ _ _) rfl ?_)
         exact⟨rfl,_,by
          have e:eventD T r=r22:=by rw[event_is,HEV.out];unfold evMax;rw[HS21.out,if_pos rfl,HN21.out,HN22.out]
          rw[e];exact HC22.out⟩
     · have hinR:=isTk_in (mayB_is HS9.out).2 (by decide)
       obtain⟨k,rfl⟩:∃ q,k=q+1:=⟨k - 1,by have:=HFU.out;have:=HI8.out.2;omega⟩
       have HNX9:Hid (r9.i=rr.i+1∧r9.x.names=rr.x.names):=by unfold Hid;rw[←HN9.out];exact⟨may_next HS9.out,congrArg St.names (may_x T 4 sComma rr)⟩
       clear hinR
       obtain⟨r10,hr10⟩:∃ q,nameD T r9=q:=⟨_,rfl⟩
       have HN10:=Lh hr10
       have HI10:=Lh (show InD T r10 by rw[←hr10];exact HI9.out.name)
       have HX10:=Lh (show r10.x.names=r9.x.names by rw[←hr10];exact congrArg St.names (take_x T 1 r9))
       clear hr10
       obtain⟨s10,hs10⟩:∃ q,nameV T r9=q:=⟨_,rfl⟩
       have HS10:=Lh hs10
       clear hs10
       have hlen10:r10.x.names.length≤1000001:=by rw[HX10.out];exact(by rw[←HN9.out,may_x];exact hNL)
       go_upto_region 8 with fail
       obtain⟨_,_,_,_,_,_,_,c7,_,_,_,_,_,_,_,_,_⟩:=HC9.out.rd.drew.facts
       go_region_law (first
        | (go_simp;go_at_call 71;(with_reducible refine(dname_any HC9.out.drew.rd (HC9.out.drew.size hB) (bndD HI9.out hTl).1 (bndD HI9.out hTl).2).mono ?_)
           rw[HS10.out,HN10.out]
           rintro en w10 ⟨rfl,hc⟩
           have HC10:=Lh (HC9.out.drew.trans hc)
           obtain⟨_,_,_,_,_,_,_,d7,_,_,_,_,_,_,_,_,_⟩:=HC10.out.rd.facts
           obtain⟨_,_,_,_,_,_,_,x7,_,_,_,_,_,_,_,_,_⟩:=(HC10.out.alloc hB (.cells #[.string s10] 9)).rd.facts
           have hsz10:=HC10.out.gb.size
           clear hc)
        | (refine step_append_lies _ (by rfl) _ _ _ (by rfl) B 9 i0 _ 1 16 Tryz.underlying34 HIP.out.1 HIP.out.2.1 HIP.out.2.2.1 HIP.out.2.2.2 rfl (by omega) _ r10.x.names.length (strV r10.x.names) (by rfl) (World.ownsRow.alloc HC10.out.rd.nm _) ⟨w10.heap.size,0,none⟩ 1 1 [.string s10] (by rfl) (by rfl) (World.news_of_block (cs:=#[.string s10]) (t:=9) (fr:=(0,0)) (heap_at_size _ _ _ (by simp))) (by simp[Value.oneCell']) (by omega) (by unfold maxLen;omega) (by omega) (by simp;omega) (w10.heap.size+1) (by simp) ?_
           intro g10 cap10 v10 hown10 hgrow10 hat10 hlt10
           have HP10:=Lh (DT.put HC10.out hB HNV8.out hgrow10 hown10 (by rcases hat10 with e|e;exact .inl e;exact .inr (by omega)))
           obtain⟨e7,z7⟩:=HC10.out.names_at hgrow10
           clear hown10 hgrow10 hat10))
       all_goals
        have HC10p:=Lh HP10.out.1
        have HNV10:=Lh HP10.out.2
        have HI10p:=Lh (show InD T (setNames (r10.x.names ++ [s10]) r10) from HI10.out)
        have HUP:Hid (r9.i≤r10.i):=by unfold Hid;rw[←HN10.out];exact take_up T 1 r9
        have HRL6:Hid (evSets T (evHead T r)=setsL T k (setNames (r10.x.names ++ [s10]) r10)):=by
         unfold Hid;rw[HRL.out,setsL,HS9.out,if_pos rfl,HN9.out,moreD,HS10.out,HN10.out,HX10.out]
        have HLN:Hid ((r10.x.names ++ [s10]).length=rr.x.names.length+1):=by unfold Hid;rw[HX10.out,HNX9.out.2];simp
        go_wp2
        go_roundw
        case rel=>exact⟨k,_,_,HC10p.out,HNV10.out,HRL6.out,HI10p.out,by have:=HNX9.out.1;have:=HUP.out;have:=HFU.out;show(T.length:Int) < r10.i+k;omega,by have:=HNX9.out.1;have:=HUP.out;have:=HNLH.out;have:=HLN.out;show((r10.x.names ++ [s10]).length:Int)≤r10.i+1;omega⟩
        case measure=>
         rw[posD HC10p.out.rd,HPOS.out]
         have e: (setNames (r10.x.names ++ [s10]) r10).i=r10.i:=rfl
         rw[e]
         have:=HNX9.out.1;have:=HUP.out;have:=HI8.out.1
         have h9:r10.i≤(T.length:Int):=HI10p.out.2
         omega
def ruleF (k:Int):Value:=
 if k=1 then .func (.func 37) #[] #[] else if k=2 then .func (.func 38) #[] #[] else if k=3 then .func (.func 39) #[] #[] else if k=4 then .func (.func 40) #[] #[] else if k=5 then .func (.func 41) #[] #[] else if k=6 then .func (.func 42) #[] #[] else if k=7 then .func (.func 43) #[] #[] else if k=8 then .func (.func 44) #[] #[] else .nilFunc
theorem drule_any (s:ByteArray) (w:World) :
 Calls Tryz.prog 18 #[.string s] w fun e w'=>e=.returned (.tuple #[.int .i64 (kindN s),ruleF (kindN s)])∧w'=w:=by
 have e0:=eq_lit [97,116,116,114] s
 have e1:=eq_lit [117,115,101,114] s
 have e2:=eq_lit [114,111,108,101] s
 have e3:=eq_lit [115,116,97,103,101] s
 have e4:=eq_lit [101,118,101,110,116] s
 have e5:=eq_lit [103,117,97,114,100] s
 have e6:=eq_lit [109,105,108,101,115,116,111,110,101] s
 have e7:=eq_lit [115,111,100] s
 by_cases h0:s= ⟨#[97,116,116,114]⟩
 · have HT:Hid (kindN s=1):=by unfold Hid kindN;rw[if_pos h0]
   rw[decide_eq_true (by exact h0)] at e0
   clear h0 e1 e2 e3 e4 e5 e6 e7
   go_enter Tryz.func18,Tryz.ntmps18
   go_wp2
   refine bodyPost_ret (v:=.tuple #[.int .i64 1,ruleF 1]) (by simp[results,Tryz.results18,go_sem,ruleF]) rfl ?_
   exact⟨by rw[HT.out],rfl⟩
 rw[decide_eq_false (by exact h0)] at e0
 by_cases h1:s= ⟨#[117,115,101,114]⟩
 · have HT:Hid (kindN s=2):=by unfold Hid kindN;rw[if_neg h0,if_pos h1]
   rw[decide_eq_true (by exact h1)] at e1
   clear h0 h1 e2 e3 e4 e5 e6 e7
   go_enter Tryz.func18,Tryz.ntmps18
   go_wp2
   refine bodyPost_ret (v:=.tuple #[.int .i64 2,ruleF 2]) (by simp[results,Tryz.results18,go_sem,ruleF]) rfl ?_
   exact⟨by rw[HT.out],rfl⟩
 rw[decide_eq_false (by exact h1)] at e1
 by_cases h2:s= ⟨#[114,111,108,101]⟩
 · have HT:Hid (kindN s=3):=by unfold Hid kindN;rw[if_neg h0,if_neg h1,if_pos h2]
   rw[decide_eq_true (by exact h2)] at e2
   clear h0 h1 h2 e3 e4 e5 e6 e7
   go_enter Tryz.func18,Tryz.ntmps18
   go_wp2
   refine bodyPost_ret (v:=.tuple #[.int .i64 3,ruleF 3]) (by simp[results,Tryz.results18,go_sem,ruleF]) rfl ?_
   exact⟨by rw[HT.out],rfl⟩
 rw[decide_eq_false (by exact h2)] at e2
 by_cases h3:s= ⟨#[115,116,97,103,101]⟩
 · have HT:Hid (kindN s=4):=by unfold Hid kindN;rw[if_neg h0,if_neg h1,if_neg h2,if_pos h3]
   rw[decide_eq_true (by exact h3)] at e3
   clear h0 h1 h2 h3 e4 e5 e6 e7
   go_enter Tryz.func18,Tryz.ntmps18
   go_wp2
   refine bodyPost_ret (v:=.tuple #[.int .i64 4,ruleF 4]) (by simp[results,Tryz.results18,go_sem,ruleF]) rfl ?_
   exact⟨by rw[HT.out],rfl⟩
 rw[decide_eq_false (by exact h3)] at e3
 by_cases h4:s= ⟨#[101,118,101,110,116]⟩
 · have HT:Hid (kindN s=5):=by unfold Hid kindN;rw[if_neg h0,if_neg h1,if_neg h2,if_neg h3,if_pos h4]
   rw[decide_eq_true (by exact h4)] at e4
   clear h0 h1 h2 h3 h4 e5 e6 e7
   go_enter Tryz.func18,Tryz.ntmps18
   go_wp2
   refine bodyPost_ret (v:=.tuple #[.int .i64 5,ruleF 5]) (by simp[results,Tryz.results18,go_sem,ruleF]) rfl ?_
   exact⟨by rw[HT.out],rfl⟩
 rw[decide_eq_false (by exact h4)] at e4
 by_cases h5:s= ⟨#[103,117,97,114,100]⟩
 · have HT:Hid (kindN s=6):=by unfold Hid kindN;rw[if_neg h0,if_neg h1,if_neg h2,if_neg h3,if_neg h4,if_pos h5]
   rw[decide_eq_true (by exact h5)] at e5
   clear h0 h1 h2 h3 h4 h5 e6 e7
   go_enter Tryz.func18,Tryz.ntmps18
   go_wp2
   refine bodyPost_ret (v:=.tuple #[.int .i64 6,ruleF 6]) (by simp[results,Tryz.results18,go_sem,ruleF]) rfl ?_
   exact⟨by rw[HT.out],rfl⟩
 rw[decide_eq_false (by exact h5)] at e5
 by_cases h6:s= ⟨#[109,105,108,101,115,116,111,110,101]⟩
 · have HT:Hid (kindN s=7):=by unfold Hid kindN;rw[if_neg h0,if_neg h1,if_neg h2,if_neg h3,if_neg h4,if_neg h5,if_pos h6]
   rw[decide_eq_true (by exact h6)] at e6
   clear h0 h1 h2 h3 h4 h5 h6 e7
   go_enter Tryz.func18,Tryz.ntmps18
   go_wp2
   refine bodyPost_ret (v:=.tuple #[.int .i64 7,ruleF 7]) (by simp[results,Tryz.results18,go_sem,ruleF]) rfl ?_
   exact⟨by rw[HT.out],rfl⟩
 rw[decide_eq_false (by exact h6)] at e6
 by_cases h7:s= ⟨#[115,111,100]⟩
 · have HT:Hid (kindN s=8):=by unfold Hid kindN;rw[if_neg h0,if_neg h1,if_neg h2,if_neg h3,if_neg h4,if_neg h5,if_neg h6,if_pos h7]
   rw[decide_eq_true (by exact h7)] at e7
   clear h0 h1 h2 h3 h4 h5 h6 h7
   go_enter Tryz.func18,Tryz.ntmps18
   go_wp2
   refine bodyPost_ret (v:=.tuple #[.int .i64 8,ruleF 8]) (by simp[results,Tryz.results18,go_sem,ruleF]) rfl ?_
   exact⟨by rw[HT.out],rfl⟩
 rw[decide_eq_false (by exact h7)] at e7
 have HT:Hid (kindN s=0):=by unfold Hid kindN;rw[if_neg h0,if_neg h1,if_neg h2,if_neg h3,if_neg h4,if_neg h5,if_neg h6,if_neg h7]
 clear h0 h1 h2 h3 h4 h5 h6 h7
 go_enter Tryz.func18,Tryz.ntmps18
 go_wp2
 refine bodyPost_ret (v:=.tuple #[.int .i64 0,ruleF 0]) (by simp[results,Tryz.results18,go_sem,ruleF]) rfl ?_
 exact⟨by rw[HT.out],rfl⟩
def stV (x:St) (nv iv:Value):Value:=.agg #[.int .i64 x.kind,.string x.name,.int .i64 x.line,.int .i64 x.col,.int .i64 x.init,nv,.string x.role,.string x.stage,.string x.event,.int .i64 x.times,iv,.bool x.final]
def StB (w:World) (b:Nat) (x:St) (nv iv:Value):Prop:=w.heap[b]?=some (.cells #[.int .i64 x.kind,.string x.name,.int .i64 x.line,.int .i64 x.col,.int .i64 x.init,nv,.string x.role,.string x.stage,.string x.event,.int .i64 x.times,iv,.bool x.final] 37 (0,0))
theorem StB.facts {w:World} {b:Nat} {x:St} {nv iv:Value} (h:StB w b x nv iv):w.cell? ⟨b,0,none⟩ = some (.int .i64 x.kind)∧w.cell? ⟨b,1,none⟩ = some (.string x.name)∧w.cell? ⟨b,2,none⟩ = some (.int .i64 x.line)∧w.cell? ⟨b,3,none⟩ = some (.int .i64 x.col)∧w.cell? ⟨b,4,none⟩ = some (.int .i64 x.init)∧w.cell? ⟨b,5,none⟩ = some nv∧w.cell? ⟨b,6,none⟩ = some (.string x.role)∧w.cell? ⟨b,7,none⟩ = some (.string x.stage)∧w.cell? ⟨b,8,none⟩ = some (.string x.event)∧w.cell? ⟨b,9,none⟩ = some (.int .i64 x.times)∧w.cell? ⟨b,10,none⟩ = some iv∧w.cell? ⟨b,11,none⟩ = some (.bool x.final):=by
 unfold StB at h
 refine⟨?_,?_,?_,?_,?_,?_,?_,?_,?_,?_,?_,?_⟩ <;> simp[World.cell?,h]
theorem StB.free {w:World} {b:Nat} {x:St} {nv iv:Value} (h:StB w b x nv iv):w.frozen? ⟨b,0,none⟩ = false∧w.frozen? ⟨b,1,none⟩ = false∧w.frozen? ⟨b,2,none⟩ = false∧w.frozen? ⟨b,3,none⟩ = false∧w.frozen? ⟨b,4,none⟩ = false∧w.frozen? ⟨b,5,none⟩ = false∧w.frozen? ⟨b,6,none⟩ = false∧w.frozen? ⟨b,7,none⟩ = false∧w.frozen? ⟨b,8,none⟩ = false∧w.frozen? ⟨b,9,none⟩ = false∧w.frozen? ⟨b,10,none⟩ = false∧w.frozen? ⟨b,11,none⟩ = false:=by
 unfold StB at h
 refine⟨?_,?_,?_,?_,?_,?_,?_,?_,?_,?_,?_,?_⟩ <;> simp[World.frozen?,h]
theorem StB.lt {w:World} {b:Nat} {x:St} {nv iv:Value} (h:StB w b x nv iv):b < w.heap.size:=(Array.getElem?_eq_some_iff.1 h).1
theorem StB.alloc {w:World} {b:Nat} {x:St} {nv iv:Value} (h:StB w b x nv iv) (o:Obj):StB (w.alloc o) b x nv iv:=(Below.heap_alloc _ _ _ h.lt).trans h
theorem StB.below {w:World} {b:Nat} {x:St} {nv iv:Value} {w':World} (h:StB w b x nv iv) (hb:Below w.heap.size w w'):StB w' b x nv iv:=(hb.block b h.lt).trans h
theorem StB.grown {w:World} {b:Nat} {x:St} {nv iv:Value} {w':World} {k:Nat} (h:StB w b x nv iv) (hg:w.grownBy w' (some k)) (hne:b≠k):StB w' b x nv iv:=(hg.block b h.lt (fun e=>hne (Option.some.inj e))).trans h
theorem StB.drew {w:World} {b:Nat} {x:St} {nv iv:Value} (h:StB w b x nv iv):StB w.drew b x nv iv:=h
theorem StB.over {w:World} {b:Nat} {x:St} {nv iv:Value} (h:StB w b x nv iv) {k j:Nat} (hne:b≠k) (u:Value):StB (w.setCell ⟨k,j,none⟩ u) b x nv iv:=(Below.heap_setCell _ _ _ _ (by show b≠k;exact hne)).trans h
theorem FtB.grown {w w':World} {b k:Nat} {e l c:Int} (h:FtB w b e l c) (hg:w.grownBy w' (some k)) (hne:b≠k):FtB w' b e l c:=(hg.block b h.lt (fun e=>hne (Option.some.inj e))).trans h
theorem FtB.over1 {w:World} {b:Nat} {e l c:Int} (h:FtB w b e l c) {k j:Nat} (hne:b≠k) (u:Value):FtB (w.setCell ⟨k,j,none⟩ u) b e l c:=(Below.heap_setCell _ _ _ _ (by show b≠k;exact hne)).trans h
theorem StB.stored {w:World} {b:Nat} {x:St} {nv iv:Value} (h:StB w b x nv iv) (y:St) (nv2 iv2:Value):StB ((((((((((((w.setCell ⟨b,0,none⟩ (.int .i64 y.kind)).setCell ⟨b,1,none⟩ (.string y.name)).setCell ⟨b,2,none⟩ (.int .i64 y.line)).setCell ⟨b,3,none⟩ (.int .i64 y.col)).setCell ⟨b,4,none⟩ (.int .i64 y.init)).setCell ⟨b,5,none⟩ nv2).setCell ⟨b,6,none⟩ (.string y.role)).setCell ⟨b,7,none⟩ (.string y.stage)).setCell ⟨b,8,none⟩ (.string y.event)).setCell ⟨b,9,none⟩ (.int .i64 y.times)).setCell ⟨b,10,none⟩ iv2).setCell ⟨b,11,none⟩ (.bool y.final)) b y nv2 iv2:=by
 unfold StB at h ⊢
 obtain⟨w0,ew0⟩:∃ w0,w0=w.setCell ⟨b,0,none⟩ (.int .i64 y.kind):=⟨_,rfl⟩
 have h0:w0.heap[b]?=some (.cells #[.int .i64 y.kind,.string x.name,.int .i64 x.line,.int .i64 x.col,.int .i64 x.init,nv,.string x.role,.string x.stage,.string x.event,.int .i64 x.times,iv,.bool x.final] 37 (0,0)):=by rw[ew0];exact heap_setCell_same _ b 0 _ _ (.int .i64 y.kind) h
 obtain⟨w1,ew1⟩:∃ w1,w1=w0.setCell ⟨b,1,none⟩ (.string y.name):=⟨_,rfl⟩
 have h1:w1.heap[b]?=some (.cells #[.int .i64 y.kind,.string y.name,.int .i64 x.line,.int .i64 x.col,.int .i64 x.init,nv,.string x.role,.string x.stage,.string x.event,.int .i64 x.times,iv,.bool x.final] 37 (0,0)):=by rw[ew1];exact heap_setCell_same _ b 1 _ _ (.string y.name) h0
 obtain⟨w2,ew2⟩:∃ w2,w2=w1.setCell ⟨b,2,none⟩ (.int .i64 y.line):=⟨_,rfl⟩
 have h2:w2.heap[b]?=some (.cells #[.int .i64 y.kind,.string y.name,.int .i64 y.line,.int .i64 x.col,.int .i64 x.init,nv,.string x.role,.string x.stage,.string x.event,.int .i64 x.times,iv,.bool x.final] 37 (0,0)):=by rw[ew2];exact heap_setCell_same _ b 2 _ _ (.int .i64 y.line) h1
 obtain⟨w3,ew3⟩:∃ w3,w3=w2.setCell ⟨b,3,none⟩ (.int .i64 y.col):=⟨_,rfl⟩
 have h3:w3.heap[b]?=some (.cells #[.int .i64 y.kind,.string y.name,.int .i64 y.line,.int .i64 y.col,.int .i64 x.init,nv,.string x.role,.string x.stage,.string x.event,.int .i64 x.times,iv,.bool x.final] 37 (0,0)):=by rw[ew3];exact heap_setCell_same _ b 3 _ _ (.int .i64 y.col) h2
 obtain⟨w4,ew4⟩:∃ w4,w4=w3.setCell ⟨b,4,none⟩ (.int .i64 y.init):=⟨_,rfl⟩
 have h4:w4.heap[b]?=some (.cells #[.int .i64 y.kind,.string y.name,.int .i64 y.line,.int .i64 y.col,.int .i64 y.init,nv,.string x.role,.string x.stage,.string x.event,.int .i64 x.times,iv,.bool x.final] 37 (0,0)):=by rw[ew4];exact heap_setCell_same _ b 4 _ _ (.int .i64 y.init) h3
 obtain⟨w5,ew5⟩:∃ w5,w5=w4.setCell ⟨b,5,none⟩ nv2:=⟨_,rfl⟩
 have h5:w5.heap[b]?=some (.cells #[.int .i64 y.kind,.string y.name,.int .i64 y.line,.int .i64 y.col,.int .i64 y.init,nv2,.string x.role,.string x.stage,.string x.event,.int .i64 x.times,iv,.bool x.final] 37 (0,0)):=by rw[ew5];exact heap_setCell_same _ b 5 _ _ nv2 h4
 obtain⟨w6,ew6⟩:∃ w6,w6=w5.setCell ⟨b,6,none⟩ (.string y.role):=⟨_,rfl⟩
 have h6:w6.heap[b]?=some (.cells #[.int .i64 y.kind,.string y.name,.int .i64 y.line,.int .i64 y.col,.int .i64 y.init,nv2,.string y.role,.string x.stage,.string x.event,.int .i64 x.times,iv,.bool x.final] 37 (0,0)):=by rw[ew6];exact heap_setCell_same _ b 6 _ _ (.string y.role) h5
 obtain⟨w7,ew7⟩:∃ w7,w7=w6.setCell ⟨b,7,none⟩ (.string y.stage):=⟨_,rfl⟩
 have h7:w7.heap[b]?=some (.cells #[.int .i64 y.kind,.string y.name,.int .i64 y.line,.int .i64 y.col,.int .i64 y.init,nv2,.string y.role,.string y.stage,.string x.event,.int .i64 x.times,iv,.bool x.final] 37 (0,0)):=by rw[ew7];exact heap_setCell_same _ b 7 _ _ (.string y.stage) h6
 obtain⟨w8,ew8⟩:∃ w8,w8=w7.setCell ⟨b,8,none⟩ (.string y.event):=⟨_,rfl⟩
 have h8:w8.heap[b]?=some (.cells #[.int .i64 y.kind,.string y.name,.int .i64 y.line,.int .i64 y.col,.int .i64 y.init,nv2,.string y.role,.string y.stage,.string y.event,.int .i64 x.times,iv,.bool x.final] 37 (0,0)):=by rw[ew8];exact heap_setCell_same _ b 8 _ _ (.string y.event) h7
 obtain⟨w9,ew9⟩:∃ w9,w9=w8.setCell ⟨b,9,none⟩ (.int .i64 y.times):=⟨_,rfl⟩
 have h9:w9.heap[b]?=some (.cells #[.int .i64 y.kind,.string y.name,.int .i64 y.line,.int .i64 y.col,.int .i64 y.init,nv2,.string y.role,.string y.stage,.string y.event,.int .i64 y.times,iv,.bool x.final] 37 (0,0)):=by rw[ew9];exact heap_setCell_same _ b 9 _ _ (.int .i64 y.times) h8
 obtain⟨w10,ew10⟩:∃ w10,w10=w9.setCell ⟨b,10,none⟩ iv2:=⟨_,rfl⟩
 have h10:w10.heap[b]?=some (.cells #[.int .i64 y.kind,.string y.name,.int .i64 y.line,.int .i64 y.col,.int .i64 y.init,nv2,.string y.role,.string y.stage,.string y.event,.int .i64 y.times,iv2,.bool x.final] 37 (0,0)):=by rw[ew10];exact heap_setCell_same _ b 10 _ _ iv2 h9
 obtain⟨w11,ew11⟩:∃ w11,w11=w10.setCell ⟨b,11,none⟩ (.bool y.final):=⟨_,rfl⟩
 have h11:w11.heap[b]?=some (.cells #[.int .i64 y.kind,.string y.name,.int .i64 y.line,.int .i64 y.col,.int .i64 y.init,nv2,.string y.role,.string y.stage,.string y.event,.int .i64 y.times,iv2,.bool y.final] 37 (0,0)):=by rw[ew11];exact heap_setCell_same _ b 11 _ _ (.bool y.final) h10
 rw[←ew0,←ew1,←ew2,←ew3,←ew4,←ew5,←ew6,←ew7,←ew8,←ew9,←ew10,←ew11]
 exact h11
theorem StB.row {w:World} {b:Nat} {x:St} {nv iv:Value} {base n:Nat} {t:TypeId} {sz:Nat} {v:Value} {xs:List Value} (h:StB w b x nv iv) (hr:w.ownsRow base t sz v n xs) (ht:37≠t) (y:St) (nv2 iv2:Value): ((((((((((((w.setCell ⟨b,0,none⟩ (.int .i64 y.kind)).setCell ⟨b,1,none⟩ (.string y.name)).setCell ⟨b,2,none⟩ (.int .i64 y.line)).setCell ⟨b,3,none⟩ (.int .i64 y.col)).setCell ⟨b,4,none⟩ (.int .i64 y.init)).setCell ⟨b,5,none⟩ nv2).setCell ⟨b,6,none⟩ (.string y.role)).setCell ⟨b,7,none⟩ (.string y.stage)).setCell ⟨b,8,none⟩ (.string y.event)).setCell ⟨b,9,none⟩ (.int .i64 y.times)).setCell ⟨b,10,none⟩ iv2).setCell ⟨b,11,none⟩ (.bool y.final)).ownsRow base t sz v n xs:=by
 unfold StB at h
 obtain⟨w0,ew0⟩:∃ w0,w0=w.setCell ⟨b,0,none⟩ (.int .i64 y.kind):=⟨_,rfl⟩
 have h0:w0.heap[b]?=some (.cells #[.int .i64 y.kind,.string x.name,.int .i64 x.line,.int .i64 x.col,.int .i64 x.init,nv,.string x.role,.string x.stage,.string x.event,.int .i64 x.times,iv,.bool x.final] 37 (0,0)):=by rw[ew0];exact heap_setCell_same _ b 0 _ _ (.int .i64 y.kind) h
 obtain⟨w1,ew1⟩:∃ w1,w1=w0.setCell ⟨b,1,none⟩ (.string y.name):=⟨_,rfl⟩
 have h1:w1.heap[b]?=some (.cells #[.int .i64 y.kind,.string y.name,.int .i64 x.line,.int .i64 x.col,.int .i64 x.init,nv,.string x.role,.string x.stage,.string x.event,.int .i64 x.times,iv,.bool x.final] 37 (0,0)):=by rw[ew1];exact heap_setCell_same _ b 1 _ _ (.string y.name) h0
 obtain⟨w2,ew2⟩:∃ w2,w2=w1.setCell ⟨b,2,none⟩ (.int .i64 y.line):=⟨_,rfl⟩
 have h2:w2.heap[b]?=some (.cells #[.int .i64 y.kind,.string y.name,.int .i64 y.line,.int .i64 x.col,.int .i64 x.init,nv,.string x.role,.string x.stage,.string x.event,.int .i64 x.times,iv,.bool x.final] 37 (0,0)):=by rw[ew2];exact heap_setCell_same _ b 2 _ _ (.int .i64 y.line) h1
 obtain⟨w3,ew3⟩:∃ w3,w3=w2.setCell ⟨b,3,none⟩ (.int .i64 y.col):=⟨_,rfl⟩
 have h3:w3.heap[b]?=some (.cells #[.int .i64 y.kind,.string y.name,.int .i64 y.line,.int .i64 y.col,.int .i64 x.init,nv,.string x.role,.string x.stage,.string x.event,.int .i64 x.times,iv,.bool x.final] 37 (0,0)):=by rw[ew3];exact heap_setCell_same _ b 3 _ _ (.int .i64 y.col) h2
 obtain⟨w4,ew4⟩:∃ w4,w4=w3.setCell ⟨b,4,none⟩ (.int .i64 y.init):=⟨_,rfl⟩
 have h4:w4.heap[b]?=some (.cells #[.int .i64 y.kind,.string y.name,.int .i64 y.line,.int .i64 y.col,.int .i64 y.init,nv,.string x.role,.string x.stage,.string x.event,.int .i64 x.times,iv,.bool x.final] 37 (0,0)):=by rw[ew4];exact heap_setCell_same _ b 4 _ _ (.int .i64 y.init) h3
 obtain⟨w5,ew5⟩:∃ w5,w5=w4.setCell ⟨b,5,none⟩ nv2:=⟨_,rfl⟩
 have h5:w5.heap[b]?=some (.cells #[.int .i64 y.kind,.string y.name,.int .i64 y.line,.int .i64 y.col,.int .i64 y.init,nv2,.string x.role,.string x.stage,.string x.event,.int .i64 x.times,iv,.bool x.final] 37 (0,0)):=by rw[ew5];exact heap_setCell_same _ b 5 _ _ nv2 h4
 obtain⟨w6,ew6⟩:∃ w6,w6=w5.setCell ⟨b,6,none⟩ (.string y.role):=⟨_,rfl⟩
 have h6:w6.heap[b]?=some (.cells #[.int .i64 y.kind,.string y.name,.int .i64 y.line,.int .i64 y.col,.int .i64 y.init,nv2,.string y.role,.string x.stage,.string x.event,.int .i64 x.times,iv,.bool x.final] 37 (0,0)):=by rw[ew6];exact heap_setCell_same _ b 6 _ _ (.string y.role) h5
 obtain⟨w7,ew7⟩:∃ w7,w7=w6.setCell ⟨b,7,none⟩ (.string y.stage):=⟨_,rfl⟩
 have h7:w7.heap[b]?=some (.cells #[.int .i64 y.kind,.string y.name,.int .i64 y.line,.int .i64 y.col,.int .i64 y.init,nv2,.string y.role,.string y.stage,.string x.event,.int .i64 x.times,iv,.bool x.final] 37 (0,0)):=by rw[ew7];exact heap_setCell_same _ b 7 _ _ (.string y.stage) h6
 obtain⟨w8,ew8⟩:∃ w8,w8=w7.setCell ⟨b,8,none⟩ (.string y.event):=⟨_,rfl⟩
 have h8:w8.heap[b]?=some (.cells #[.int .i64 y.kind,.string y.name,.int .i64 y.line,.int .i64 y.col,.int .i64 y.init,nv2,.string y.role,.string y.stage,.string y.event,.int .i64 x.times,iv,.bool x.final] 37 (0,0)):=by rw[ew8];exact heap_setCell_same _ b 8 _ _ (.string y.event) h7
 obtain⟨w9,ew9⟩:∃ w9,w9=w8.setCell ⟨b,9,none⟩ (.int .i64 y.times):=⟨_,rfl⟩
 have h9:w9.heap[b]?=some (.cells #[.int .i64 y.kind,.string y.name,.int .i64 y.line,.int .i64 y.col,.int .i64 y.init,nv2,.string y.role,.string y.stage,.string y.event,.int .i64 y.times,iv,.bool x.final] 37 (0,0)):=by rw[ew9];exact heap_setCell_same _ b 9 _ _ (.int .i64 y.times) h8
 obtain⟨w10,ew10⟩:∃ w10,w10=w9.setCell ⟨b,10,none⟩ iv2:=⟨_,rfl⟩
 have h10:w10.heap[b]?=some (.cells #[.int .i64 y.kind,.string y.name,.int .i64 y.line,.int .i64 y.col,.int .i64 y.init,nv2,.string y.role,.string y.stage,.string y.event,.int .i64 y.times,iv2,.bool x.final] 37 (0,0)):=by rw[ew10];exact heap_setCell_same _ b 10 _ _ iv2 h9
 obtain⟨w11,ew11⟩:∃ w11,w11=w10.setCell ⟨b,11,none⟩ (.bool y.final):=⟨_,rfl⟩
 have h11:w11.heap[b]?=some (.cells #[.int .i64 y.kind,.string y.name,.int .i64 y.line,.int .i64 y.col,.int .i64 y.init,nv2,.string y.role,.string y.stage,.string y.event,.int .i64 y.times,iv2,.bool y.final] 37 (0,0)):=by rw[ew11];exact heap_setCell_same _ b 11 _ _ (.bool y.final) h10
 have r0:w0.ownsRow base t sz v n xs:=by rw[ew0];exact row_store hr h ht 0 (.int .i64 y.kind)
 have r1:w1.ownsRow base t sz v n xs:=by rw[ew1];exact row_store r0 h0 ht 1 (.string y.name)
 have r2:w2.ownsRow base t sz v n xs:=by rw[ew2];exact row_store r1 h1 ht 2 (.int .i64 y.line)
 have r3:w3.ownsRow base t sz v n xs:=by rw[ew3];exact row_store r2 h2 ht 3 (.int .i64 y.col)
 have r4:w4.ownsRow base t sz v n xs:=by rw[ew4];exact row_store r3 h3 ht 4 (.int .i64 y.init)
 have r5:w5.ownsRow base t sz v n xs:=by rw[ew5];exact row_store r4 h4 ht 5 nv2
 have r6:w6.ownsRow base t sz v n xs:=by rw[ew6];exact row_store r5 h5 ht 6 (.string y.role)
 have r7:w7.ownsRow base t sz v n xs:=by rw[ew7];exact row_store r6 h6 ht 7 (.string y.stage)
 have r8:w8.ownsRow base t sz v n xs:=by rw[ew8];exact row_store r7 h7 ht 8 (.string y.event)
 have r9:w9.ownsRow base t sz v n xs:=by rw[ew9];exact row_store r8 h8 ht 9 (.int .i64 y.times)
 have r10:w10.ownsRow base t sz v n xs:=by rw[ew10];exact row_store r9 h9 ht 10 iv2
 have r11:w11.ownsRow base t sz v n xs:=by rw[ew11];exact row_store r10 h10 ht 11 (.bool y.final)
 rw[←ew0,←ew1,←ew2,←ew3,←ew4,←ew5,←ew6,←ew7,←ew8,←ew9,←ew10,←ew11]
 exact r11
theorem below_st {w0 w:World} {B k:Nat} (h:Below B w0 w) (hk:B≤k) (v0 v1 v2 v3 v4 v5 v6 v7 v8 v9 v10 v11:Value):Below B w0 ((((((((((((w.setCell ⟨k,0,none⟩ v0).setCell ⟨k,1,none⟩ v1).setCell ⟨k,2,none⟩ v2).setCell ⟨k,3,none⟩ v3).setCell ⟨k,4,none⟩ v4).setCell ⟨k,5,none⟩ v5).setCell ⟨k,6,none⟩ v6).setCell ⟨k,7,none⟩ v7).setCell ⟨k,8,none⟩ v8).setCell ⟨k,9,none⟩ v9).setCell ⟨k,10,none⟩ v10).setCell ⟨k,11,none⟩ v11):=
 (((((((((((h.setCell (p:=⟨k,0,none⟩) hk _).setCell (p:=⟨k,1,none⟩) hk _).setCell (p:=⟨k,2,none⟩) hk _).setCell (p:=⟨k,3,none⟩) hk _).setCell (p:=⟨k,4,none⟩) hk _).setCell (p:=⟨k,5,none⟩) hk _).setCell (p:=⟨k,6,none⟩) hk _).setCell (p:=⟨k,7,none⟩) hk _).setCell (p:=⟨k,8,none⟩) hk _).setCell (p:=⟨k,9,none⟩) hk _).setCell (p:=⟨k,10,none⟩) hk _).setCell (p:=⟨k,11,none⟩) hk _
def OnePost (w:World) (p:DR) (e:Ending) (w':World):Prop:=
 match p with
 | .ok x a=>∃ nv iv,e=.returned (.tuple #[stV x nv iv,.int .i64 a,.agg #[.int .i64 0,.int .i64 0,.int .i64 0]])∧w'.ownsRow w.heap.size 9 1 nv x.names.length (strV x.names)∧w'.ownsRow w.heap.size 87 9 iv x.ifs.length (itFlat x.ifs)∧Below w.heap.size w w'
 | .bad er l c=>e=.returned (.tuple #[stV noSt (.slice none 0 0) (.slice none 0 0),.int .i64 0,.agg #[.int .i64 er,.int .i64 l,.int .i64 c]])∧Below w.heap.size w w'
structure OneS (w W:World) (B:Nat) (lv nv iv:Value) (T:List Tk) (r:RS):Prop where
 rd:Dr W B (w.heap.size+2) lv nv iv T r
 st:StB W w.heap.size noSt (.slice none 0 0) (.slice none 0 0)
 ft:FtB W (w.heap.size+1) 0 0 0
 lo:Below w.heap.size w W
 eq:B=w.heap.size
theorem OneS.then {w W W2:World} {B:Nat} {lv nv iv:Value} {T:List Tk} {r:RS} (h:OneS w W B lv nv iv T r) (hb:Below W.heap.size W W2):OneS w W2 B lv nv iv T r:=
 ⟨h.rd.keep hb (by rw[h.eq];exact h.lo.size),h.st.below hb,h.ft.below hb,h.lo.trans (hb.mono h.lo.size),h.eq⟩
theorem OneS.next {w W W2:World} {B:Nat} {lv nv iv nv2 iv2:Value} {T:List Tk} {r r2:RS} (h:OneS w W B lv nv iv T r) (k:DT W W2 B (w.heap.size+2) lv nv2 iv2 T r2):OneS w W2 B lv nv2 iv2 T r2:=
 ⟨k.rd,h.st.grown k.gb (by omega),h.ft.grown k.gb (by omega),⟨k.gb.os.trans h.lo.os,k.gb.tape.trans h.lo.tape,k.gb.output.trans h.lo.output,Nat.le_trans h.lo.size k.gb.size,fun q hq=>(k.gb.block q (Nat.lt_of_lt_of_le hq h.lo.size) (fun e=>by have:=Option.some.inj e;omega)).trans (h.lo.block q hq)⟩,h.eq⟩
theorem OneS.size {w W:World} {B:Nat} {lv nv iv:Value} {T:List Tk} {r:RS} (h:OneS w W B lv nv iv T r):B≤W.heap.size:=by rw[h.eq];exact h.lo.size
theorem OneS.bad {w W:World} {B:Nat} {lv nv iv:Value} {T:List Tk} {r:RS} (h:OneS w W B lv nv iv T r) (e l c:Int):Hid (StB (((((((((((((((W.setCell ⟨w.heap.size,0,none⟩ (.int .i64 noSt.kind)).setCell ⟨w.heap.size,1,none⟩ (.string noSt.name)).setCell ⟨w.heap.size,2,none⟩ (.int .i64 noSt.line)).setCell ⟨w.heap.size,3,none⟩ (.int .i64 noSt.col)).setCell ⟨w.heap.size,4,none⟩ (.int .i64 noSt.init)).setCell ⟨w.heap.size,5,none⟩ ((.slice none 0 0))).setCell ⟨w.heap.size,6,none⟩ (.string noSt.role)).setCell ⟨w.heap.size,7,none⟩ (.string noSt.stage)).setCell ⟨w.heap.size,8,none⟩ (.string noSt.event)).setCell ⟨w.heap.size,9,none⟩ (.int .i64 noSt.times)).setCell ⟨w.heap.size,10,none⟩ ((.slice none 0 0))).setCell ⟨w.heap.size,11,none⟩ (.bool noSt.final)).setCell ⟨(w.heap.size+1),0,none⟩ (.int .i64 e)).setCell ⟨(w.heap.size+1),1,none⟩ (.int .i64 l)).setCell ⟨(w.heap.size+1),2,none⟩ (.int .i64 c)) w.heap.size noSt (.slice none 0 0) (.slice none 0 0)∧FtB (((((((((((((((W.setCell ⟨w.heap.size,0,none⟩ (.int .i64 noSt.kind)).setCell ⟨w.heap.size,1,none⟩ (.string noSt.name)).setCell ⟨w.heap.size,2,none⟩ (.int .i64 noSt.line)).setCell ⟨w.heap.size,3,none⟩ (.int .i64 noSt.col)).setCell ⟨w.heap.size,4,none⟩ (.int .i64 noSt.init)).setCell ⟨w.heap.size,5,none⟩ ((.slice none 0 0))).setCell ⟨w.heap.size,6,none⟩ (.string noSt.role)).setCell ⟨w.heap.size,7,none⟩ (.string noSt.stage)).setCell ⟨w.heap.size,8,none⟩ (.string noSt.event)).setCell ⟨w.heap.size,9,none⟩ (.int .i64 noSt.times)).setCell ⟨w.heap.size,10,none⟩ ((.slice none 0 0))).setCell ⟨w.heap.size,11,none⟩ (.bool noSt.final)).setCell ⟨(w.heap.size+1),0,none⟩ (.int .i64 e)).setCell ⟨(w.heap.size+1),1,none⟩ (.int .i64 l)).setCell ⟨(w.heap.size+1),2,none⟩ (.int .i64 c)) (w.heap.size+1) e l c∧Below w.heap.size w (((((((((((((((W.setCell ⟨w.heap.size,0,none⟩ (.int .i64 noSt.kind)).setCell ⟨w.heap.size,1,none⟩ (.string noSt.name)).setCell ⟨w.heap.size,2,none⟩ (.int .i64 noSt.line)).setCell ⟨w.heap.size,3,none⟩ (.int .i64 noSt.col)).setCell ⟨w.heap.size,4,none⟩ (.int .i64 noSt.init)).setCell ⟨w.heap.size,5,none⟩ ((.slice none 0 0))).setCell ⟨w.heap.size,6,none⟩ (.string noSt.role)).setCell ⟨w.heap.size,7,none⟩ (.string noSt.stage)).setCell ⟨w.heap.size,8,none⟩ (.string noSt.event)).setCell ⟨w.heap.size,9,none⟩ (.int .i64 noSt.times)).setCell ⟨w.heap.size,10,none⟩ ((.slice none 0 0))).setCell ⟨w.heap.size,11,none⟩ (.bool noSt.final)).setCell ⟨(w.heap.size+1),0,none⟩ (.int .i64 e)).setCell ⟨(w.heap.size+1),1,none⟩ (.int .i64 l)).setCell ⟨(w.heap.size+1),2,none⟩ (.int .i64 c))):=by
 have hs:=h.st.stored noSt (.slice none 0 0) (.slice none 0 0)
 have hf:FtB ((((((((((((W.setCell ⟨w.heap.size,0,none⟩ (.int .i64 noSt.kind)).setCell ⟨w.heap.size,1,none⟩ (.string noSt.name)).setCell ⟨w.heap.size,2,none⟩ (.int .i64 noSt.line)).setCell ⟨w.heap.size,3,none⟩ (.int .i64 noSt.col)).setCell ⟨w.heap.size,4,none⟩ (.int .i64 noSt.init)).setCell ⟨w.heap.size,5,none⟩ ((.slice none 0 0))).setCell ⟨w.heap.size,6,none⟩ (.string noSt.role)).setCell ⟨w.heap.size,7,none⟩ (.string noSt.stage)).setCell ⟨w.heap.size,8,none⟩ (.string noSt.event)).setCell ⟨w.heap.size,9,none⟩ (.int .i64 noSt.times)).setCell ⟨w.heap.size,10,none⟩ ((.slice none 0 0))).setCell ⟨w.heap.size,11,none⟩ (.bool noSt.final)) (w.heap.size+1) 0 0 0:=((((((((((((h.ft).over1 (by omega) _).over1 (by omega) _).over1 (by omega) _).over1 (by omega) _).over1 (by omega) _).over1 (by omega) _).over1 (by omega) _).over1 (by omega) _).over1 (by omega) _).over1 (by omega) _).over1 (by omega) _).over1 (by omega) _
 exact⟨((hs.over (by omega) _).over (by omega) _).over (by omega) _,hf.stored e l c,below_fault (below_st h.lo (Nat.le_refl _) _ _ _ _ _ _ _ _ _ _ _ _) (by omega) _ _ _⟩
end Go.Proofs.YthlofmnmacpogaaGreatDoor
