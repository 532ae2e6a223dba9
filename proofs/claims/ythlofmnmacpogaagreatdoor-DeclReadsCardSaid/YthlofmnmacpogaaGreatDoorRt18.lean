/- A part of a proof of DeclReadsProof. -/
import Derived.Test.YthlofmnmacpogaaGreatDoorRt16
import Derived.Deep.RegionLaw
set_option maxRecDepth 100000
set_option maxHeartbeats 40000000
namespace Go.Proofs.YthlofmnmacpogaaGreatDoor
open Go.RowKit
theorem TkIn.mono {w:World} {B B':Nat} {v:Value} {T:List Tk} (h:TkIn w B v T) (hB:B≤B'):TkIn w B' v T:=by
 obtain⟨ad,cap,hv,hl,h⟩:=h
 rcases h with h| ⟨g,off,ha,hg,hgw,hc⟩
 · exact⟨ad,cap,hv,hl,.inl h⟩
 · exact⟨ad,cap,hv,hl,.inr ⟨g,off,ha,by omega,hgw,hc⟩⟩
theorem DT.storeF {w w1:World} {B b:Nat} {lv nv iv:Value} {T:List Tk} {r:RS} (h:DT w w1 B b lv nv iv T r) {k:Nat} {e0 l0 c0:Int} (hf:FtB w1 k e0 l0 c0) (hk:w.heap.size≤k) (hbl:b < w.heap.size) (hB:B≤w.heap.size) (e l c:Int) :
 DT w (((w1.setCell ⟨k,0,none⟩ (.int .i64 e)).setCell ⟨k,1,none⟩ (.int .i64 l)).setCell ⟨k,2,none⟩ (.int .i64 c)) B b lv nv iv T r:=by
 have hlow:Below w.heap.size w1 (((w1.setCell ⟨k,0,none⟩ (.int .i64 e)).setCell ⟨k,1,none⟩ (.int .i64 l)).setCell ⟨k,2,none⟩ (.int .i64 c)):=below_fault (Below.refl _ _) hk _ _ _
 refine⟨⟨(hlow.block b hbl).trans h.rd.blk,h.rd.low,h.rd.tk.below (hlow.mono hB),hf.row h.rd.nm (by decide) e l c,hf.row h.rd.it (by decide) e l c⟩,?_⟩
 exact⟨hlow.os.trans h.gb.os,hlow.tape.trans h.gb.tape,hlow.output.trans h.gb.output,Nat.le_trans h.gb.size hlow.size,fun q hq hne=>(hlow.block q hq).trans (h.gb.block q hq hne)⟩
theorem readD_in {T:List Tk} {prop:Bool} {i:Int} {o:List It} {a:Int} (h:readP T prop i=.ok o a):0≤i∧i < a∧a≤T.length∧o.length≤64:=by
 unfold readP at h
 cases hp: (bothP T prop 25).2 i with
 | bad e l c=>rw[hp] at h;cases h
 | ok o1 a1=>
   rw[hp] at h
   dsimp only at h
   split at h
   · cases h
   · simp only[PR.ok.injEq] at h
     obtain⟨rfl,rfl⟩:=h
     have g:=(both_good T prop 25).2 _ _ _ hp
     exact⟨g.1,g.2.1,g.2.2.1,by omega⟩
theorem readD_no {T:List Tk} {prop:Bool} {i:Int} {e l c:Int} (h:readP T prop i=.bad e l c):e≠0:=by
 unfold readP at h
 cases hp: (bothP T prop 25).2 i with
 | bad e1 l1 c1=>rw[hp] at h;simp only[PR.bad.injEq] at h;have:=(both_no T prop 25).2 _ _ _ _ hp;omega
 | ok o1 a1=>
   rw[hp] at h
   dsimp only at h
   split at h
   · simp only[PR.bad.injEq] at h;omega
   · cases h
theorem dtimes_any {w:World} {B b:Nat} {lv nv iv:Value} {T:List Tk} {r:RS} (h:Dr w B b lv nv iv T r) (hB:B≤w.heap.size) (hi:InD T r) :
 Calls Tryz.prog 73 #[.pointer (some ⟨b,0,none⟩)] w fun en w'=>en=.returned (.tuple #[])∧DT w w' B b lv nv iv T (timesD T r):=by
 have hTl:T.length≤1000000:=by obtain⟨_,_,_,hl,_⟩:=h.tk;exact hl
 have HC0:=Lh (DT.of_rd h)
 have HI0:=Lh hi
 obtain⟨x,hx⟩:∃ x,tkAt T r.i=x:=⟨_,rfl⟩
 have HX:=Lh hx
 have hfx0:∀ w:World,(Instr.field 48 (.agg #[.int .i64 x.kind,.string x.text,.int .i64 x.num,.int .i64 x.line,.int .i64 x.col]) 0).run Tryz.prog w=.ok (.int .i64 x.kind) w:=fun _=>by kernel_rfl
 have hfx2:∀ w:World,(Instr.field 48 (.agg #[.int .i64 x.kind,.string x.text,.int .i64 x.num,.int .i64 x.line,.int .i64 x.col]) 2).run Tryz.prog w=.ok (.int .i64 x.num) w:=fun _=>by kernel_rfl
 clear hx
 clear h hi
 go_enter Tryz.func73,Tryz.ntmps73
 go_wp2_with fail
 refine(dnow_any HC0.out.rd).mono ?_
 rintro en w1 ⟨rfl,hb⟩
 rw[HX.out]
 unfold tokV
 have HC1:=Lh (HC0.out.then hb hB)
 clear hb
 go_wp2_with fail
 refine(dnow_any HC1.out.rd).mono ?_
 rintro en w2 ⟨rfl,hb⟩
 rw[HX.out]
 unfold tokV
 have HC2:=Lh (HC1.out.then hb hB)
 clear hb
 by_cases hk:x.kind=3
 · have hkb: (x.kind == 3)=true:=by rw[beq_iff_eq];exact hk
   have HK:=Lh hk
   by_cases h1:x.num < 1
   · have d1:decide (x.num < 1)=true:=decide_eq_true h1
     have HN1:=Lh h1
     clear hk h1
     go_wp2_with fail
     refine(dfail_any HC2.out.rd (HC2.out.size hB) 11).mono ?_
     rintro en w3 ⟨rfl,hc⟩
     have HC3:=Lh (HC2.out.trans hc)
     have HI3:=Lh (HI0.out.fail 11)
     clear hc
     obtain⟨rf,hrf⟩:∃ q,failD T 11 r=q:=⟨_,rfl⟩
     have HRF:=Lh hrf
     rw[hrf] at HC3 HI3
     clear hrf
     obtain⟨r4,hr4⟩:∃ q,numD T rf=q:=⟨_,rfl⟩
     have HN4:=Lh hr4
     have HI4:=Lh (show InD T r4 by rw[←hr4];exact HI3.out.num)
     clear hr4
     obtain⟨s4,hs4⟩:∃ q,numW T rf=q:=⟨_,rfl⟩
     have HS4:=Lh hs4
     clear hs4
     go_wp2_with fail
     refine(dnum_any HC3.out.rd (HC3.out.size hB) (bndD HI3.out hTl).1 (bndD HI3.out hTl).2).mono ?_
     rw[HS4.out,HN4.out]
     rintro en w4 ⟨rfl,hc⟩
     have HC4:=Lh (HC3.out.trans hc)
     clear hc
     obtain⟨_,_,_,_,_,_,_,_,_,_,_,c11,_,_,_,_,_⟩:=HC4.out.rd.facts
     obtain⟨_,_,_,_,_,_,_,_,_,_,_,f11,_,_,_,_,_⟩:=HC4.out.rd.free
     have HD4:=Lh (HC4.out.setTimes s4)
     have HJ4:=Lh (show InD T (setTimes s4 r4) from HI4.out)
     go_wp2
     first
     | go_end0
     | ((try simp only[Exit.inBlock,Exit.then]);refine bodyPost_ret (results_none rfl _ _ _) rfl ?_)
     exact⟨rfl,by
      have e:timesD T r= (setTimes s4 r4):=by simp only[timesD,HX.out];rw[if_pos ⟨HK.out,.inl HN1.out⟩];simp only[HRF.out,HN4.out,HS4.out]
      rw[e];exact HD4.out⟩
   · have d1:decide (x.num < 1)=false:=decide_eq_false h1
     have HN1:=Lh h1
     by_cases h2:3 < x.num
     · have d2:decide (3 < x.num)=true:=decide_eq_true h2
       have HN2:=Lh h2
       clear hk h1 h2
       go_wp2_with fail
       refine(dfail_any HC2.out.rd (HC2.out.size hB) 11).mono ?_
       rintro en w3 ⟨rfl,hc⟩
       have HC3:=Lh (HC2.out.trans hc)
       have HI3:=Lh (HI0.out.fail 11)
       clear hc
       obtain⟨rf,hrf⟩:∃ q,failD T 11 r=q:=⟨_,rfl⟩
       have HRF:=Lh hrf
       rw[hrf] at HC3 HI3
       clear hrf
       obtain⟨r4,hr4⟩:∃ q,numD T rf=q:=⟨_,rfl⟩
       have HN4:=Lh hr4
       have HI4:=Lh (show InD T r4 by rw[←hr4];exact HI3.out.num)
       clear hr4
       obtain⟨s4,hs4⟩:∃ q,numW T rf=q:=⟨_,rfl⟩
       have HS4:=Lh hs4
       clear hs4
       go_wp2_with fail
       refine(dnum_any HC3.out.rd (HC3.out.size hB) (bndD HI3.out hTl).1 (bndD HI3.out hTl).2).mono ?_
       rw[HS4.out,HN4.out]
       rintro en w4 ⟨rfl,hc⟩
       have HC4:=Lh (HC3.out.trans hc)
       clear hc
       obtain⟨_,_,_,_,_,_,_,_,_,_,_,c11,_,_,_,_,_⟩:=HC4.out.rd.facts
       obtain⟨_,_,_,_,_,_,_,_,_,_,_,f11,_,_,_,_,_⟩:=HC4.out.rd.free
       have HD4:=Lh (HC4.out.setTimes s4)
       have HJ4:=Lh (show InD T (setTimes s4 r4) from HI4.out)
       go_wp2
       first
       | go_end0
       | ((try simp only[Exit.inBlock,Exit.then]);refine bodyPost_ret (results_none rfl _ _ _) rfl ?_)
       exact⟨rfl,by
        have e:timesD T r= (setTimes s4 r4):=by simp only[timesD,HX.out];rw[if_pos ⟨HK.out,.inr HN2.out⟩];simp only[HRF.out,HN4.out,HS4.out]
        rw[e];exact HD4.out⟩
     · have d2:decide (3 < x.num)=false:=decide_eq_false h2
       have HN2:=Lh h2
       clear hk h1 h2
       obtain⟨r3,hr3⟩:∃ q,numD T r=q:=⟨_,rfl⟩
       have HN3:=Lh hr3
       have HI3:=Lh (show InD T r3 by rw[←hr3];exact HI0.out.num)
       clear hr3
       obtain⟨s3,hs3⟩:∃ q,numW T r=q:=⟨_,rfl⟩
       have HS3:=Lh hs3
       clear hs3
       go_wp2_with fail
       refine(dnum_any HC2.out.rd (HC2.out.size hB) (bndD HI0.out hTl).1 (bndD HI0.out hTl).2).mono ?_
       rw[HS3.out,HN3.out]
       rintro en w3 ⟨rfl,hc⟩
       have HC3:=Lh (HC2.out.trans hc)
       clear hc
       obtain⟨_,_,_,_,_,_,_,_,_,_,_,c11,_,_,_,_,_⟩:=HC3.out.rd.facts
       obtain⟨_,_,_,_,_,_,_,_,_,_,_,f11,_,_,_,_,_⟩:=HC3.out.rd.free
       have HD3:=Lh (HC3.out.setTimes s3)
       have HJ3:=Lh (show InD T (setTimes s3 r3) from HI3.out)
       go_wp2
       first
       | go_end0
       | ((try simp only[Exit.inBlock,Exit.then]);refine bodyPost_ret (results_none rfl _ _ _) rfl ?_)
       exact⟨rfl,by
        have e:timesD T r= (setTimes s3 r3):=by simp only[timesD,HX.out];rw[if_neg (fun h=>by have:=HN1.out;have:=HN2.out;omega)];simp only[HN3.out,HS3.out]
        rw[e];exact HD3.out⟩
 · have hkb: (x.kind == 3)=false:=beq_eq_false_iff_ne.2 hk
   have HK:=Lh hk
   clear hk
   obtain⟨r3,hr3⟩:∃ q,numD T r=q:=⟨_,rfl⟩
   have HN3:=Lh hr3
   have HI3:=Lh (show InD T r3 by rw[←hr3];exact HI0.out.num)
   clear hr3
   obtain⟨s3,hs3⟩:∃ q,numW T r=q:=⟨_,rfl⟩
   have HS3:=Lh hs3
   clear hs3
   go_wp2_with fail
   refine(dnum_any HC2.out.rd (HC2.out.size hB) (bndD HI0.out hTl).1 (bndD HI0.out hTl).2).mono ?_
   rw[HS3.out,HN3.out]
   rintro en w3 ⟨rfl,hc⟩
   have HC3:=Lh (HC2.out.trans hc)
   clear hc
   obtain⟨_,_,_,_,_,_,_,_,_,_,_,c11,_,_,_,_,_⟩:=HC3.out.rd.facts
   obtain⟨_,_,_,_,_,_,_,_,_,_,_,f11,_,_,_,_,_⟩:=HC3.out.rd.free
   have HD3:=Lh (HC3.out.setTimes s3)
   have HJ3:=Lh (show InD T (setTimes s3 r3) from HI3.out)
   go_wp2
   first
   | go_end0
   | ((try simp only[Exit.inBlock,Exit.then]);refine bodyPost_ret (results_none rfl _ _ _) rfl ?_)
   exact⟨rfl,by
    have e:timesD T r= (setTimes s3 r3):=by simp only[timesD,HX.out];rw[if_neg (fun h=>by have:=HK.out;omega)];simp only[HN3.out,HS3.out]
    rw[e];exact HD3.out⟩
theorem dsentry_any {w:World} {B b:Nat} {lv nv iv:Value} {T:List Tk} {r:RS} (h:Dr w B b lv nv iv T r) (hB:B≤w.heap.size) (hi:InD T r) :
 Calls Tryz.prog 74 #[.pointer (some ⟨b,0,none⟩)] w fun en w'=>en=.returned (.tuple #[])∧∃ iv,DT w w' B b lv nv iv T (sentryD T r):=by
 have hTl:T.length≤1000000:=by obtain⟨_,_,_,hl,_⟩:=h.tk;exact hl
 have HC0:=Lh (DT.of_rd h)
 have HI0:=Lh hi
 clear h hi
 go_enter Tryz.func74,Tryz.ntmps74
 obtain⟨r1,hr1⟩:∃ q,mayD T 2 wOn r=q:=⟨_,rfl⟩
 have HN1:=Lh hr1
 have HI1:=Lh (show InD T r1 by rw[←hr1];exact HI0.out.may 2 wOn (by decide))
 clear hr1
 obtain⟨s1,hs1⟩:∃ q,mayB T 2 wOn r=q:=⟨_,rfl⟩
 have HS1:=Lh hs1
 clear hs1
 go_wp2_with fail
 refine(dmay_any HC0.out.rd (HC0.out.size hB) 2 wOn (bndD HI0.out hTl).1 (bndD HI0.out hTl).2).mono ?_
 rw[HS1.out,HN1.out]
 rintro en w1 ⟨rfl,hc⟩
 have HC1:=Lh (HC0.out.trans hc)
 clear hc
 cases s1
 · have HON:Hid (onD T r=r1):=by
    unfold Hid onD
    rw[HS1.out]
    rw[←HN1.out];unfold mayD;rw[HS1.out];rfl
   obtain⟨r2,hr2⟩:∃ q,mayD T 2 wIf r1=q:=⟨_,rfl⟩
   have HN2:=Lh hr2
   have HI2:=Lh (show InD T r2 by rw[←hr2];exact HI1.out.may 2 wIf (by decide))
   clear hr2
   obtain⟨s2,hs2⟩:∃ q,mayB T 2 wIf r1=q:=⟨_,rfl⟩
   have HS2:=Lh hs2
   clear hs2
   go_wp2_with fail
   refine(dmay_any HC1.out.rd (HC1.out.size hB) 2 wIf (bndD HI1.out hTl).1 (bndD HI1.out hTl).2).mono ?_
   rw[HS2.out,HN2.out]
   rintro en w2 ⟨rfl,hc⟩
   have HC2:=Lh (HC1.out.trans hc)
   clear hc
   cases s2
   · go_wp2
     first
     | go_end0
     | ((try simp only[Exit.inBlock,Exit.then]);refine bodyPost_ret (results_none rfl _ _ _) rfl ?_)
     exact⟨rfl,iv,by
      have e:sentryD T r=r1:=by unfold sentryD;rw[HON.out,HS2.out];rfl
      have e2:r2=r1:=by rw[←HN2.out];unfold mayD;rw[HS2.out];rfl
      rw[e,←e2];exact HC2.out⟩
   · cases hp:readP T false r2.i with
     | bad er l c=>
       have HU:Hid (ifD T r2=setBad er l c r2):=by unfold Hid ifD;rw[hp]
       have HP:Hid (readP T false r2.i=.bad er l c):=hp
       have hne:=readD_no hp
       have hneb: (er !=0)=true:=by simpa using hne
       clear hp hne
       have hbl:=HC0.out.rd.lt
       obtain⟨n0,n1,_,_,_,_,_,_,_,_,_,_,_,_,_,_,_⟩:=HC2.out.drew.rd.facts
       have HCB:=Lh ((HC2.out.alloc hB oB3).drew)
       obtain⟨m0,m1,_,_,_,_,_,_,_,_,_,_,_,_,_,_,_⟩:=HCB.out.rd.facts
       obtain⟨ii,hii⟩:∃ q,r2.i=q:=⟨_,rfl⟩
       rw[hii] at n1 m1
       have HII:=Lh hii
       clear hii
       have HPI:Hid (readP T false ii=.bad er l c):=by unfold Hid;rw[←HII.out];exact HP.out
       have HRDA:Hid (Calls Tryz.prog 89 #[lv,.int .i64 ii,.bool false] w2.drew (ReadPost w2.drew (readP T false ii))):=read_any (HC2.out.drew.rd.tk.mono (HC2.out.drew.size hB)) ii false (by have:=(bndD HI2.out hTl).1;rw[HII.out] at this;exact this) (by have:=HI2.out.2;rw[HII.out] at this;omega)
       have HRDB:Hid (Calls Tryz.prog 89 #[lv,.int .i64 ii,.bool false] (w2.alloc oB3).drew (ReadPost (w2.alloc oB3).drew (readP T false ii))):=read_any (HCB.out.rd.tk.mono (HCB.out.size hB)) ii false (by have:=(bndD HI2.out hTl).1;rw[HII.out] at this;exact this) (by have:=HI2.out.2;rw[HII.out] at this;omega)
       have hblk:=HC2.out.rd.lt
       have hszk:=HC2.out.gb.size
       go_upto_region 3 with fail
       go_cut [2,3,4] (fun v2 v3 v4 wx=>∃ (bf:Nat) (v5:Value),v2=v5∧v3=.int .i64 0∧v4=.pointer (some ⟨bf,0,none⟩)∧Hid (DT w wx B b lv nv iv T r2∧FtB wx bf er l c∧bf≠b))
       case first=>
        go_region_law (first
         | (go_simp;go_at_call 89;(with_reducible refine HRDA.out.mono ?_)
            rw[HPI.out]
            rintro en w5 ⟨rfl,hb5⟩
            have HC5:=Lh (HC2.out.drew.then hb5 hB)
            have h5:=hb5.size
            have HFIN:=Lh (show DT w (w5.alloc (.cells #[.int .i64 er,.int .i64 l,.int .i64 c] 28)) B b lv nv iv T r2∧FtB (w5.alloc (.cells #[.int .i64 er,.int .i64 l,.int .i64 c] 28)) w5.heap.size er l c∧w5.heap.size≠b from⟨HC5.out.alloc hB (.cells #[.int .i64 er,.int .i64 l,.int .i64 c] 28),heap_alloc_new w5 _,by have:w2.drew.heap.size=w2.heap.size:=rfl;omega⟩)
            clear hb5)
         | (go_simp;go_at_call 89;(with_reducible refine HRDB.out.mono ?_)
            rw[HPI.out]
            rintro en w5 ⟨rfl,hb5⟩
            have HC5:=Lh (HCB.out.then hb5 hB)
            have HFB:=Lh (FtB.below (show FtB ((w2.alloc oB3).drew) w2.heap.size 0 0 0 from heap_alloc_new w2 _) hb5)
            obtain⟨q0,q1,q2⟩:=HFB.out.facts
            obtain⟨z0,z1,z2⟩:=HFB.out.free
            have HFIN:=Lh (And.intro (HC5.out.storeF HFB.out hszk hbl hB er l c) (And.intro (HFB.out.stored er l c) (show w2.heap.size≠b by omega)))
            clear hb5))
        all_goals
         go_wp2_with fail
         go_meet
         exact⟨_,_,rfl,rfl,rfl,HFIN.out⟩
       case rest=>
        obtain⟨bf,v5,e2,rfl,rfl,hcut⟩:=hcut
        rw[e2]
        clear e2
        have HC6:=Lh hcut.out.1
        have HF6:=Lh hcut.out.2.1
        have hne6:=hcut.out.2.2
        skip
        clear hcut
        skip
        skip
        obtain⟨q0,q1,q2⟩:=HF6.out.facts
        obtain⟨_,_,_,_,_,_,_,_,_,_,_,_,_,_,c14,c15,c16⟩:=HC6.out.rd.facts
        obtain⟨_,_,_,_,_,_,_,_,_,_,_,_,_,_,f14,f15,f16⟩:=HC6.out.rd.free
        have HM:=Lh (((HC6.out.setEr er).setELine l).setECol c)
        go_wp2
        first
        | go_end0
        | ((try simp only[Exit.inBlock,Exit.then]);refine bodyPost_ret (results_none rfl _ _ _) rfl ?_)
        exact⟨rfl,iv,by
         have e:sentryD T r=setBad er l c r2:=by unfold sentryD;rw[HON.out,HS2.out,if_pos rfl,HN2.out,HU.out]
         rw[e];exact HM.out⟩
     | ok oo aa=>
       have HU:Hid (ifD T r2=setIf oo aa r2):=by unfold Hid ifD;rw[hp]
       have HP:Hid (readP T false r2.i=.ok oo aa):=hp
       clear hp
       have hbl:=HC0.out.rd.lt
       obtain⟨n0,n1,_,_,_,_,_,_,_,_,_,_,_,_,_,_,_⟩:=HC2.out.drew.rd.facts
       have HCB:=Lh ((HC2.out.alloc hB oB3).drew)
       obtain⟨m0,m1,_,_,_,_,_,_,_,_,_,_,_,_,_,_,_⟩:=HCB.out.rd.facts
       obtain⟨ii,hii⟩:∃ q,r2.i=q:=⟨_,rfl⟩
       rw[hii] at n1 m1
       have HII:=Lh hii
       clear hii
       have HPI:Hid (readP T false ii=.ok oo aa):=by unfold Hid;rw[←HII.out];exact HP.out
       have HRDA:Hid (Calls Tryz.prog 89 #[lv,.int .i64 ii,.bool false] w2.drew (ReadPost w2.drew (readP T false ii))):=read_any (HC2.out.drew.rd.tk.mono (HC2.out.drew.size hB)) ii false (by have:=(bndD HI2.out hTl).1;rw[HII.out] at this;exact this) (by have:=HI2.out.2;rw[HII.out] at this;omega)
       have HRDB:Hid (Calls Tryz.prog 89 #[lv,.int .i64 ii,.bool false] (w2.alloc oB3).drew (ReadPost (w2.alloc oB3).drew (readP T false ii))):=read_any (HCB.out.rd.tk.mono (HCB.out.size hB)) ii false (by have:=(bndD HI2.out hTl).1;rw[HII.out] at this;exact this) (by have:=HI2.out.2;rw[HII.out] at this;omega)
       have hblk:=HC2.out.rd.lt
       have hszk:=HC2.out.gb.size
       go_upto_region 3 with fail
       go_cut [2,3,4] (fun v2 v3 v4 wx=>∃ (bf:Nat) (v5:Value),v2=v5∧v3=.int .i64 aa∧v4=.pointer (some ⟨bf,0,none⟩)∧Hid (DT w wx B b lv nv iv T r2∧FtB wx bf 0 0 0∧bf≠b∧wx.ownsRow B 87 9 v5 oo.length (itFlat oo)))
       case first=>
        go_region_law (first
         | (go_simp;go_at_call 89;(with_reducible refine HRDA.out.mono ?_)
            rw[HPI.out]
            rintro en w5 ⟨v5,rfl,hown5,hb5⟩
            have HC5:=Lh (HC2.out.drew.then hb5 hB)
            have h5:=hb5.size
            have HFIN:=Lh (show DT w (w5.alloc oB3) B b lv nv iv T r2∧FtB (w5.alloc oB3) w5.heap.size 0 0 0∧w5.heap.size≠b∧(w5.alloc oB3).ownsRow B 87 9 v5 oo.length (itFlat oo) from⟨HC5.out.alloc hB oB3,heap_alloc_new w5 _,by have:w2.drew.heap.size=w2.heap.size:=rfl;omega,owns_mono (owns_below hown5 ((Below.refl _ _).alloc (Nat.le_refl _) oB3)) (HC2.out.drew.size hB)⟩)
            clear hown5 hb5)
         | (go_simp;go_at_call 89;(with_reducible refine HRDB.out.mono ?_)
            rw[HPI.out]
            rintro en w5 ⟨v5,rfl,hown5,hb5⟩
            have HC5:=Lh (HCB.out.then hb5 hB)
            have HFB:=Lh (FtB.below (show FtB ((w2.alloc oB3).drew) w2.heap.size 0 0 0 from heap_alloc_new w2 _) hb5)
            obtain⟨q0,q1,q2⟩:=HFB.out.facts
            obtain⟨z0,z1,z2⟩:=HFB.out.free
            have HFIN:=Lh (And.intro (HC5.out.storeF HFB.out hszk hbl hB 0 0 0) (And.intro (HFB.out.stored 0 0 0) (And.intro (show w2.heap.size≠b by omega) (FtB.row HFB.out (owns_mono hown5 (HCB.out.size hB)) (by decide) 0 0 0))))
            clear hown5 hb5))
        all_goals
         go_wp2_with fail
         go_meet
         exact⟨_,_,rfl,rfl,rfl,HFIN.out⟩
       case rest=>
        obtain⟨bf,v5,e2,rfl,rfl,hcut⟩:=hcut
        rw[e2]
        clear e2
        have HC6:=Lh hcut.out.1
        have HF6:=Lh hcut.out.2.1
        have hne6:=hcut.out.2.2.1
        have HO6:=Lh hcut.out.2.2.2
        clear hcut
        obtain⟨ad5,cap5,hv5⟩:=owns_len HO6.out
        subst hv5
        obtain⟨q0,q1,q2⟩:=HF6.out.facts
        obtain⟨_,c1,_,_,_,_,_,_,_,_,_,_,c12,_,_,_,_⟩:=HC6.out.rd.facts
        obtain⟨_,f1,_,_,_,_,_,_,_,_,_,_,f12,_,_,_,_⟩:=HC6.out.rd.free
        have HM:=Lh (show DT w (((wc.setCell ⟨b,12,none⟩ (.slice ad5 oo.length cap5)).setCell ⟨b,1,none⟩ (.int .i64 aa))) B b lv nv (.slice ad5 oo.length cap5) T (setIf oo aa r2) from⟨(HC6.out.rd.setIfs HO6.out).setI aa,gb_set (gb_set HC6.out.gb _ _) _ _⟩)
        go_wp2
        first
        | go_end0
        | ((try simp only[Exit.inBlock,Exit.then]);refine bodyPost_ret (results_none rfl _ _ _) rfl ?_)
        exact⟨rfl,_,by
         have e:sentryD T r=setIf oo aa r2:=by unfold sentryD;rw[HON.out,HS2.out,if_pos rfl,HN2.out,HU.out]
         rw[e];exact HM.out⟩
 · obtain⟨r2,hr2⟩:∃ q,nameD T r1=q:=⟨_,rfl⟩
   have HN2:=Lh hr2
   have HI2:=Lh (show InD T r2 by rw[←hr2];exact HI1.out.name)
   clear hr2
   obtain⟨s2,hs2⟩:∃ q,nameV T r1=q:=⟨_,rfl⟩
   have HS2:=Lh hs2
   clear hs2
   go_wp2_with fail
   refine(dname_any HC1.out.rd (HC1.out.size hB) (bndD HI1.out hTl).1 (bndD HI1.out hTl).2).mono ?_
   rw[HS2.out,HN2.out]
   rintro en w2 ⟨rfl,hc⟩
   have HC2:=Lh (HC1.out.trans hc)
   clear hc
   obtain⟨_,_,_,_,_,_,_,_,_,_,c10,_,_,_,_,_,_⟩:=HC2.out.rd.facts
   obtain⟨_,_,_,_,_,_,_,_,_,_,f10,_,_,_,_,_,_⟩:=HC2.out.rd.free
   have HD2:=Lh (HC2.out.setEvent s2)
   have HJ2:=Lh (show InD T (setEvent s2 r2) from HI2.out)
   have HON:Hid (onD T r= (setEvent s2 r2)):=by unfold Hid onD;rw[HS1.out,if_pos rfl,HN1.out,HS2.out,HN2.out]
   obtain⟨r3,hr3⟩:∃ q,mayD T 2 wIf (setEvent s2 r2)=q:=⟨_,rfl⟩
   have HN3:=Lh hr3
   have HI3:=Lh (show InD T r3 by rw[←hr3];exact HJ2.out.may 2 wIf (by decide))
   clear hr3
   obtain⟨s3,hs3⟩:∃ q,mayB T 2 wIf (setEvent s2 r2)=q:=⟨_,rfl⟩
   have HS3:=Lh hs3
   clear hs3
   go_wp2_with fail
   refine(dmay_any HD2.out.rd (HD2.out.size hB) 2 wIf (bndD HJ2.out hTl).1 (bndD HJ2.out hTl).2).mono ?_
   rw[HS3.out,HN3.out]
   rintro en w3 ⟨rfl,hc⟩
   have HC3:=Lh (HD2.out.trans hc)
   clear hc
   cases s3
   · go_wp2
     first
     | go_end0
     | ((try simp only[Exit.inBlock,Exit.then]);refine bodyPost_ret (results_none rfl _ _ _) rfl ?_)
     exact⟨rfl,iv,by
      have e:sentryD T r= (setEvent s2 r2):=by unfold sentryD;rw[HON.out,HS3.out];rfl
      have e2:r3= (setEvent s2 r2):=by rw[←HN3.out];unfold mayD;rw[HS3.out];rfl
      rw[e,←e2];exact HC3.out⟩
   · cases hp:readP T false r3.i with
     | bad er l c=>
       have HU:Hid (ifD T r3=setBad er l c r3):=by unfold Hid ifD;rw[hp]
       have HP:Hid (readP T false r3.i=.bad er l c):=hp
       have hne:=readD_no hp
       have hneb: (er !=0)=true:=by simpa using hne
       clear hp hne
       have hbl:=HC0.out.rd.lt
       obtain⟨n0,n1,_,_,_,_,_,_,_,_,_,_,_,_,_,_,_⟩:=HC3.out.drew.rd.facts
       have HCB:=Lh ((HC3.out.alloc hB oB3).drew)
       obtain⟨m0,m1,_,_,_,_,_,_,_,_,_,_,_,_,_,_,_⟩:=HCB.out.rd.facts
       obtain⟨ii,hii⟩:∃ q,r3.i=q:=⟨_,rfl⟩
       rw[hii] at n1 m1
       have HII:=Lh hii
       clear hii
       have HPI:Hid (readP T false ii=.bad er l c):=by unfold Hid;rw[←HII.out];exact HP.out
       have HRDA:Hid (Calls Tryz.prog 89 #[lv,.int .i64 ii,.bool false] w3.drew (ReadPost w3.drew (readP T false ii))):=read_any (HC3.out.drew.rd.tk.mono (HC3.out.drew.size hB)) ii false (by have:=(bndD HI3.out hTl).1;rw[HII.out] at this;exact this) (by have:=HI3.out.2;rw[HII.out] at this;omega)
       have HRDB:Hid (Calls Tryz.prog 89 #[lv,.int .i64 ii,.bool false] (w3.alloc oB3).drew (ReadPost (w3.alloc oB3).drew (readP T false ii))):=read_any (HCB.out.rd.tk.mono (HCB.out.size hB)) ii false (by have:=(bndD HI3.out hTl).1;rw[HII.out] at this;exact this) (by have:=HI3.out.2;rw[HII.out] at this;omega)
       have hblk:=HC3.out.rd.lt
       have hszk:=HC3.out.gb.size
       go_upto_region 3 with fail
       go_cut [2,3,4] (fun v2 v3 v4 wx=>∃ (bf:Nat) (v5:Value),v2=v5∧v3=.int .i64 0∧v4=.pointer (some ⟨bf,0,none⟩)∧Hid (DT w wx B b lv nv iv T r3∧FtB wx bf er l c∧bf≠b))
       case first=>
        go_region_law (first
         | (go_simp;go_at_call 89;(with_reducible refine HRDA.out.mono ?_)
            rw[HPI.out]
            rintro en w5 ⟨rfl,hb5⟩
            have HC5:=Lh (HC3.out.drew.then hb5 hB)
            have h5:=hb5.size
            have HFIN:=Lh (show DT w (w5.alloc (.cells #[.int .i64 er,.int .i64 l,.int .i64 c] 28)) B b lv nv iv T r3∧FtB (w5.alloc (.cells #[.int .i64 er,.int .i64 l,.int .i64 c] 28)) w5.heap.size er l c∧w5.heap.size≠b from⟨HC5.out.alloc hB (.cells #[.int .i64 er,.int .i64 l,.int .i64 c] 28),heap_alloc_new w5 _,by have:w3.drew.heap.size=w3.heap.size:=rfl;omega⟩)
            clear hb5)
         | (go_simp;go_at_call 89;(with_reducible refine HRDB.out.mono ?_)
            rw[HPI.out]
            rintro en w5 ⟨rfl,hb5⟩
            have HC5:=Lh (HCB.out.then hb5 hB)
            have HFB:=Lh (FtB.below (show FtB ((w3.alloc oB3).drew) w3.heap.size 0 0 0 from heap_alloc_new w3 _) hb5)
            obtain⟨q0,q1,q2⟩:=HFB.out.facts
            obtain⟨z0,z1,z2⟩:=HFB.out.free
            have HFIN:=Lh (And.intro (HC5.out.storeF HFB.out hszk hbl hB er l c) (And.intro (HFB.out.stored er l c) (show w3.heap.size≠b by omega)))
            clear hb5))
        all_goals
         go_wp2_with fail
         go_meet
         exact⟨_,_,rfl,rfl,rfl,HFIN.out⟩
       case rest=>
        obtain⟨bf,v5,e2,rfl,rfl,hcut⟩:=hcut
        rw[e2]
        clear e2
        have HC6:=Lh hcut.out.1
        have HF6:=Lh hcut.out.2.1
        have hne6:=hcut.out.2.2
        skip
        clear hcut
        skip
        skip
        obtain⟨q0,q1,q2⟩:=HF6.out.facts
        obtain⟨_,_,_,_,_,_,_,_,_,_,_,_,_,_,c14,c15,c16⟩:=HC6.out.rd.facts
        obtain⟨_,_,_,_,_,_,_,_,_,_,_,_,_,_,f14,f15,f16⟩:=HC6.out.rd.free
        have HM:=Lh (((HC6.out.setEr er).setELine l).setECol c)
        go_wp2
        first
        | go_end0
        | ((try simp only[Exit.inBlock,Exit.then]);refine bodyPost_ret (results_none rfl _ _ _) rfl ?_)
        exact⟨rfl,iv,by
         have e:sentryD T r=setBad er l c r3:=by unfold sentryD;rw[HON.out,HS3.out,if_pos rfl,HN3.out,HU.out]
         rw[e];exact HM.out⟩
     | ok oo aa=>
       have HU:Hid (ifD T r3=setIf oo aa r3):=by unfold Hid ifD;rw[hp]
       have HP:Hid (readP T false r3.i=.ok oo aa):=hp
       clear hp
       have hbl:=HC0.out.rd.lt
       obtain⟨n0,n1,_,_,_,_,_,_,_,_,_,_,_,_,_,_,_⟩:=HC3.out.drew.rd.facts
       have HCB:=Lh ((HC3.out.alloc hB oB3).drew)
       obtain⟨m0,m1,_,_,_,_,_,_,_,_,_,_,_,_,_,_,_⟩:=HCB.out.rd.facts
       obtain⟨ii,hii⟩:∃ q,r3.i=q:=⟨_,rfl⟩
       rw[hii] at n1 m1
       have HII:=Lh hii
       clear hii
       have HPI:Hid (readP T false ii=.ok oo aa):=by unfold Hid;rw[←HII.out];exact HP.out
       have HRDA:Hid (Calls Tryz.prog 89 #[lv,.int .i64 ii,.bool false] w3.drew (ReadPost w3.drew (readP T false ii))):=read_any (HC3.out.drew.rd.tk.mono (HC3.out.drew.size hB)) ii false (by have:=(bndD HI3.out hTl).1;rw[HII.out] at this;exact this) (by have:=HI3.out.2;rw[HII.out] at this;omega)
       have HRDB:Hid (Calls Tryz.prog 89 #[lv,.int .i64 ii,.bool false] (w3.alloc oB3).drew (ReadPost (w3.alloc oB3).drew (readP T false ii))):=read_any (HCB.out.rd.tk.mono (HCB.out.size hB)) ii false (by have:=(bndD HI3.out hTl).1;rw[HII.out] at this;exact this) (by have:=HI3.out.2;rw[HII.out] at this;omega)
       have hblk:=HC3.out.rd.lt
       have hszk:=HC3.out.gb.size
       go_upto_region 3 with fail
       go_cut [2,3,4] (fun v2 v3 v4 wx=>∃ (bf:Nat) (v5:Value),v2=v5∧v3=.int .i64 aa∧v4=.pointer (some ⟨bf,0,none⟩)∧Hid (DT w wx B b lv nv iv T r3∧FtB wx bf 0 0 0∧bf≠b∧wx.ownsRow B 87 9 v5 oo.length (itFlat oo)))
       case first=>
        go_region_law (first
         | (go_simp;go_at_call 89;(with_reducible refine HRDA.out.mono ?_)
            rw[HPI.out]
            rintro en w5 ⟨v5,rfl,hown5,hb5⟩
            have HC5:=Lh (HC3.out.drew.then hb5 hB)
            have h5:=hb5.size
            have HFIN:=Lh (show DT w (w5.alloc oB3) B b lv nv iv T r3∧FtB (w5.alloc oB3) w5.heap.size 0 0 0∧w5.heap.size≠b∧(w5.alloc oB3).ownsRow B 87 9 v5 oo.length (itFlat oo) from⟨HC5.out.alloc hB oB3,heap_alloc_new w5 _,by have:w3.drew.heap.size=w3.heap.size:=rfl;omega,owns_mono (owns_below hown5 ((Below.refl _ _).alloc (Nat.le_refl _) oB3)) (HC3.out.drew.size hB)⟩)
            clear hown5 hb5)
         | (go_simp;go_at_call 89;(with_reducible refine HRDB.out.mono ?_)
            rw[HPI.out]
            rintro en w5 ⟨v5,rfl,hown5,hb5⟩
            have HC5:=Lh (HCB.out.then hb5 hB)
            have HFB:=Lh (FtB.below (show FtB ((w3.alloc oB3).drew) w3.heap.size 0 0 0 from heap_alloc_new w3 _) hb5)
            obtain⟨q0,q1,q2⟩:=HFB.out.facts
            obtain⟨z0,z1,z2⟩:=HFB.out.free
            have HFIN:=Lh (And.intro (HC5.out.storeF HFB.out hszk hbl hB 0 0 0) (And.intro (HFB.out.stored 0 0 0) (And.intro (show w3.heap.size≠b by omega) (FtB.row HFB.out (owns_mono hown5 (HCB.out.size hB)) (by decide) 0 0 0))))
            clear hown5 hb5))
        all_goals
         go_wp2_with fail
         go_meet
         exact⟨_,_,rfl,rfl,rfl,HFIN.out⟩
       case rest=>
        obtain⟨bf,v5,e2,rfl,rfl,hcut⟩:=hcut
        rw[e2]
        clear e2
        have HC6:=Lh hcut.out.1
        have HF6:=Lh hcut.out.2.1
        have hne6:=hcut.out.2.2.1
        have HO6:=Lh hcut.out.2.2.2
        clear hcut
        obtain⟨ad5,cap5,hv5⟩:=owns_len HO6.out
        subst hv5
        obtain⟨q0,q1,q2⟩:=HF6.out.facts
        obtain⟨_,c1,_,_,_,_,_,_,_,_,_,_,c12,_,_,_,_⟩:=HC6.out.rd.facts
        obtain⟨_,f1,_,_,_,_,_,_,_,_,_,_,f12,_,_,_,_⟩:=HC6.out.rd.free
        have HM:=Lh (show DT w (((wc.setCell ⟨b,12,none⟩ (.slice ad5 oo.length cap5)).setCell ⟨b,1,none⟩ (.int .i64 aa))) B b lv nv (.slice ad5 oo.length cap5) T (setIf oo aa r3) from⟨(HC6.out.rd.setIfs HO6.out).setI aa,gb_set (gb_set HC6.out.gb _ _) _ _⟩)
        go_wp2
        first
        | go_end0
        | ((try simp only[Exit.inBlock,Exit.then]);refine bodyPost_ret (results_none rfl _ _ _) rfl ?_)
        exact⟨rfl,_,by
         have e:sentryD T r=setIf oo aa r3:=by unfold sentryD;rw[HON.out,HS3.out,if_pos rfl,HN3.out,HU.out]
         rw[e];exact HM.out⟩
theorem InD.sentry {T:List Tk} {r:RS} (h:InD T r):InD T (sentryD T r):=by
 have h1:InD T (onD T r):=by
  unfold onD;split
  · exact(h.may 2 wOn (by decide)).name
  · exact h
 unfold sentryD
 split
 · have h2:=h1.may 2 wIf (by decide)
   unfold ifD
   cases hp:readP T false (mayD T 2 wIf (onD T r)).i with
   | bad e l c=>exact h2
   | ok oo aa=>have:=readD_in hp;exact⟨by show 0≤aa;omega,this.2.2.1⟩
 · exact h1
theorem dguard_any {w:World} {B b:Nat} {lv nv iv:Value} {T:List Tk} {r:RS} (h:Dr w B b lv nv iv T r) (hB:B≤w.heap.size) (hi:InD T r) :
 Calls Tryz.prog 42 #[.pointer (some ⟨b,0,none⟩)] w fun en w'=>en=.returned (.tuple #[])∧∃ iv,DT w w' B b lv nv iv T (guardD T r):=by
 have hTl:T.length≤1000000:=by obtain⟨_,_,_,hl,_⟩:=h.tk;exact hl
 have HC0:=Lh (DT.of_rd h)
 have HI0:=Lh hi
 clear h hi
 go_enter Tryz.func42,Tryz.ntmps42
 obtain⟨r1,hr1⟩:∃ q,nameD T r=q:=⟨_,rfl⟩
 have HN1:=Lh hr1
 have HI1:=Lh (show InD T r1 by rw[←hr1];exact HI0.out.name)
 clear hr1
 obtain⟨s1,hs1⟩:∃ q,nameV T r=q:=⟨_,rfl⟩
 have HS1:=Lh hs1
 clear hs1
 go_wp2_with fail
 refine(dname_any HC0.out.rd (HC0.out.size hB) (bndD HI0.out hTl).1 (bndD HI0.out hTl).2).mono ?_
 rw[HS1.out,HN1.out]
 rintro en w1 ⟨rfl,hc⟩
 have HC1:=Lh (HC0.out.trans hc)
 clear hc
 obtain⟨_,_,_,_,_,_,_,_,_,c9,_,_,_,_,_,_,_⟩:=HC1.out.rd.facts
 obtain⟨_,_,_,_,_,_,_,_,_,f9,_,_,_,_,_,_,_⟩:=HC1.out.rd.free
 have HD1:=Lh (HC1.out.setStage s1)
 have HJ1:=Lh (show InD T (setStage s1 r1) from HI1.out)
 obtain⟨r2,hr2⟩:∃ q,sentryD T (setStage s1 r1)=q:=⟨_,rfl⟩
 have HN2:=Lh hr2
 have HI2:=Lh (show InD T r2 by rw[←hr2];exact HJ1.out.sentry)
 clear hr2
 go_wp2_with fail
 refine(dsentry_any HD1.out.rd (HD1.out.size hB) HJ1.out).mono ?_
 rw[HN2.out]
 rintro en w2 ⟨rfl,iv2,hc⟩
 have HC2:=Lh (HD1.out.trans hc)
 clear hc
 go_wp2
 first
 | go_end0
 | ((try simp only[Exit.inBlock,Exit.then]);refine bodyPost_ret (results_none rfl _ _ _) rfl ?_)
 exact⟨rfl,_,by
  have e:guardD T r=r2:=by simp only[guardD,HN1.out,HS1.out,HN2.out]
  rw[e];exact HC2.out⟩
theorem dmile_any {w:World} {B b:Nat} {lv nv iv:Value} {T:List Tk} {r:RS} (h:Dr w B b lv nv iv T r) (hB:B≤w.heap.size) (hi:InD T r) :
 Calls Tryz.prog 43 #[.pointer (some ⟨b,0,none⟩)] w fun en w'=>en=.returned (.tuple #[])∧∃ iv,DT w w' B b lv nv iv T (mileD T r):=by
 have hTl:T.length≤1000000:=by obtain⟨_,_,_,hl,_⟩:=h.tk;exact hl
 have HC0:=Lh (DT.of_rd h)
 have HI0:=Lh hi
 clear h hi
 go_enter Tryz.func43,Tryz.ntmps43
 obtain⟨r1,hr1⟩:∃ q,nameD T r=q:=⟨_,rfl⟩
 have HN1:=Lh hr1
 have HI1:=Lh (show InD T r1 by rw[←hr1];exact HI0.out.name)
 clear hr1
 obtain⟨s1,hs1⟩:∃ q,nameV T r=q:=⟨_,rfl⟩
 have HS1:=Lh hs1
 clear hs1
 go_wp2_with fail
 refine(dname_any HC0.out.rd (HC0.out.size hB) (bndD HI0.out hTl).1 (bndD HI0.out hTl).2).mono ?_
 rw[HS1.out,HN1.out]
 rintro en w1 ⟨rfl,hc⟩
 have HC1:=Lh (HC0.out.trans hc)
 clear hc
 obtain⟨_,_,_,c3,_,_,_,_,_,_,_,_,_,_,_,_,_⟩:=HC1.out.rd.facts
 obtain⟨_,_,_,f3,_,_,_,_,_,_,_,_,_,_,_,_,_⟩:=HC1.out.rd.free
 have HD1:=Lh (HC1.out.setName s1)
 have HJ1:=Lh (show InD T (setName s1 r1) from HI1.out)
 obtain⟨r2,hr2⟩:∃ q,needD T 2 wOf (setName s1 r1)=q:=⟨_,rfl⟩
 have HN2:=Lh hr2
 have HI2:=Lh (show InD T r2 by rw[←hr2];exact HJ1.out.need 2 wOf (by decide))
 clear hr2
 go_wp2_with fail
 refine(dneed_any HD1.out.rd (HD1.out.size hB) 2 wOf (bndD HJ1.out hTl).1 (bndD HJ1.out hTl).2).mono ?_
 rw[HN2.out]
 rintro en w2 ⟨rfl,hc⟩
 have HC2:=Lh (HD1.out.trans hc)
 clear hc
 obtain⟨r3,hr3⟩:∃ q,nameD T r2=q:=⟨_,rfl⟩
 have HN3:=Lh hr3
 have HI3:=Lh (show InD T r3 by rw[←hr3];exact HI2.out.name)
 clear hr3
 obtain⟨s3,hs3⟩:∃ q,nameV T r2=q:=⟨_,rfl⟩
 have HS3:=Lh hs3
 clear hs3
 go_wp2_with fail
 refine(dname_any HC2.out.rd (HC2.out.size hB) (bndD HI2.out hTl).1 (bndD HI2.out hTl).2).mono ?_
 rw[HS3.out,HN3.out]
 rintro en w3 ⟨rfl,hc⟩
 have HC3:=Lh (HC2.out.trans hc)
 clear hc
 obtain⟨_,_,_,_,_,_,_,_,_,c9,_,_,_,_,_,_,_⟩:=HC3.out.rd.facts
 obtain⟨_,_,_,_,_,_,_,_,_,f9,_,_,_,_,_,_,_⟩:=HC3.out.rd.free
 have HD3:=Lh (HC3.out.setStage s3)
 have HJ3:=Lh (show InD T (setStage s3 r3) from HI3.out)
 obtain⟨r4,hr4⟩:∃ q,sentryD T (setStage s3 r3)=q:=⟨_,rfl⟩
 have HN4:=Lh hr4
 have HI4:=Lh (show InD T r4 by rw[←hr4];exact HJ3.out.sentry)
 clear hr4
 go_wp2_with fail
 refine(dsentry_any HD3.out.rd (HD3.out.size hB) HJ3.out).mono ?_
 rw[HN4.out]
 rintro en w4 ⟨rfl,iv4,hc⟩
 have HC4:=Lh (HD3.out.trans hc)
 clear hc
 obtain⟨r5,hr5⟩:∃ q,mayD T 2 wFinal r4=q:=⟨_,rfl⟩
 have HN5:=Lh hr5
 have HI5:=Lh (show InD T r5 by rw[←hr5];exact HI4.out.may 2 wFinal (by decide))
 clear hr5
 obtain⟨s5,hs5⟩:∃ q,mayB T 2 wFinal r4=q:=⟨_,rfl⟩
 have HS5:=Lh hs5
 clear hs5
 go_wp2_with fail
 refine(dmay_any HC4.out.rd (HC4.out.size hB) 2 wFinal (bndD HI4.out hTl).1 (bndD HI4.out hTl).2).mono ?_
 rw[HS5.out,HN5.out]
 rintro en w5 ⟨rfl,hc⟩
 have HC5:=Lh (HC4.out.trans hc)
 clear hc
 obtain⟨_,_,_,_,_,_,_,_,_,_,_,_,_,c13,_,_,_⟩:=HC5.out.rd.facts
 obtain⟨_,_,_,_,_,_,_,_,_,_,_,_,_,f13,_,_,_⟩:=HC5.out.rd.free
 have HD5:=Lh (HC5.out.setFinal s5)
 have HJ5:=Lh (show InD T (setFinal s5 r5) from HI5.out)
 go_wp2
 first
 | go_end0
 | ((try simp only[Exit.inBlock,Exit.then]);refine bodyPost_ret (results_none rfl _ _ _) rfl ?_)
 exact⟨rfl,_,by
  have e:mileD T r= (setFinal s5 r5):=by simp only[mileD,HN1.out,HS1.out,HN2.out,HN3.out,HS3.out,HN4.out,HN5.out,HS5.out]
  rw[e];exact HD5.out⟩
theorem owns_lit2 {w:World} {B:Nat} (hB:B≤w.heap.size) (a b:ByteArray): (w.alloc (.cells #[.string a,.string b] 9)).ownsRow B 9 1 (.slice (some ⟨w.heap.size,0,none⟩) 2 2) [a,b].length (strV [a,b]):=
 ⟨rfl,.inr ⟨w.heap.size,2,#[.string a,.string b],rfl,hB,heap_alloc_new w _,Nat.le_refl _,by decide,rfl,rfl⟩⟩
theorem dsod_any {w:World} {B b:Nat} {lv nv iv:Value} {T:List Tk} {r:RS} (h:Dr w B b lv nv iv T r) (hB:B≤w.heap.size) (hi:InD T r) :
 Calls Tryz.prog 44 #[.pointer (some ⟨b,0,none⟩)] w fun en w'=>en=.returned (.tuple #[])∧∃ nv,DT w w' B b lv nv iv T (sodD T r):=by
 have hTl:T.length≤1000000:=by obtain⟨_,_,_,hl,_⟩:=h.tk;exact hl
 have HC0:=Lh (DT.of_rd h)
 have HI0:=Lh hi
 clear h hi
 go_enter Tryz.func44,Tryz.ntmps44
 obtain⟨r1,hr1⟩:∃ q,nameD T r=q:=⟨_,rfl⟩
 have HN1:=Lh hr1
 have HI1:=Lh (show InD T r1 by rw[←hr1];exact HI0.out.name)
 clear hr1
 obtain⟨s1,hs1⟩:∃ q,nameV T r=q:=⟨_,rfl⟩
 have HS1:=Lh hs1
 clear hs1
 go_wp2_with fail
 refine(dname_any HC0.out.rd (HC0.out.size hB) (bndD HI0.out hTl).1 (bndD HI0.out hTl).2).mono ?_
 rw[HS1.out,HN1.out]
 rintro en w1 ⟨rfl,hc⟩
 have HC1:=Lh (HC0.out.trans hc)
 clear hc
 obtain⟨r2,hr2⟩:∃ q,needD T 4 sComma r1=q:=⟨_,rfl⟩
 have HN2:=Lh hr2
 have HI2:=Lh (show InD T r2 by rw[←hr2];exact HI1.out.need 4 sComma (by decide))
 clear hr2
 go_wp2_with fail
 refine(dneed_any HC1.out.rd (HC1.out.size hB) 4 sComma (bndD HI1.out hTl).1 (bndD HI1.out hTl).2).mono ?_
 rw[HN2.out]
 rintro en w2 ⟨rfl,hc⟩
 have HC2:=Lh (HC1.out.trans hc)
 clear hc
 obtain⟨r3,hr3⟩:∃ q,nameD T r2=q:=⟨_,rfl⟩
 have HN3:=Lh hr3
 have HI3:=Lh (show InD T r3 by rw[←hr3];exact HI2.out.name)
 clear hr3
 obtain⟨s3,hs3⟩:∃ q,nameV T r2=q:=⟨_,rfl⟩
 have HS3:=Lh hs3
 clear hs3
 go_wp2_with fail
 refine(dname_any HC2.out.rd (HC2.out.size hB) (bndD HI2.out hTl).1 (bndD HI2.out hTl).2).mono ?_
 rw[HS3.out,HN3.out]
 rintro en w3 ⟨rfl,hc⟩
 have HC3:=Lh (HC2.out.trans hc)
 clear hc
 have HA:=Lh (HC3.out.alloc hB (.cells #[.string s1,.string s3] 9))
 obtain⟨_,_,_,_,_,_,_,c7,_,_,_,_,_,_,_,_,_⟩:=HA.out.rd.facts
 obtain⟨_,_,_,_,_,_,_,f7,_,_,_,_,_,_,_,_,_⟩:=HA.out.rd.free
 have HOW:Hid ((w3.alloc (.cells #[.string s1,.string s3] 9)).ownsRow B 9 1 (.slice (some ⟨w3.heap.size,0,none⟩) 2 2) [s1,s3].length (strV [s1,s3])):=owns_lit2 (HC3.out.size hB) _ _
 have HM:=Lh (show DT w ((w3.alloc (.cells #[.string s1,.string s3] 9)).setCell ⟨b,7,none⟩ (.slice (some ⟨w3.heap.size,0,none⟩) 2 2)) B b lv (.slice (some ⟨w3.heap.size,0,none⟩) 2 2) iv T (setNames [s1,s3] r3) from⟨HA.out.rd.setNames HOW.out,gb_set HA.out.gb _ _⟩)
 go_wp2
 first
 | go_end0
 | ((try simp only[Exit.inBlock,Exit.then]);refine bodyPost_ret (results_none rfl _ _ _) rfl ?_)
 exact⟨rfl,_,by
  have e:sodD T r=setNames [s1,s3] r3:=by simp only[sodD,HN1.out,HS1.out,HN2.out,HN3.out,HS3.out]
  rw[e];exact HM.out⟩
end Go.Proofs.YthlofmnmacpogaaGreatDoor
