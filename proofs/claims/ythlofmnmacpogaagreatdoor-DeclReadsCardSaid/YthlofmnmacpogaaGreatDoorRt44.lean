/- A part of a proof of DeclReadsProof. -/
import Derived.Test.YthlofmnmacpogaaGreatDoorRt42
import Derived.Test.YthlofmnmacpogaaGreatDoorRt37
set_option maxRecDepth 100000
set_option maxHeartbeats 40000000
namespace Go.Proofs.YthlofmnmacpogaaGreatDoor
open Go.RowKit
theorem rdrest_mile {w:World} {B:Nat} {lv:Value} {T:List Tk} (h:TkIn w B lv T) (hB:B≤w.heap.size) (r:RS) {nv iv:Value} (hnm:NmRow w nv r.x.names) (hit:ItRow w iv r.x.ifs) (hc:Clr T r) (hk:r.x.kind=7) (he:r.er=0) (hx0:r.x.names= []) (hfin:r.x.final=false) :
 Calls Tryz.prog 27 #[lv,pvV r nv iv] w (RdP w (miR T r)):=by
 have hTl:T.length≤1000000:=by obtain⟨_,_,_,hl,_⟩:=h;exact hl
 have HNM:=Lh hnm
 have HIT:=Lh hit
 obtain⟨ad1,n1,cap1,rfl⟩:=hnm.sl
 obtain⟨ad2,n2,cap2,rfl⟩:=hit.sl
 have PE:=pent w r (.slice ad1 n1 cap1) (.slice ad2 n2 cap2)
 obtain⟨W0,hW0⟩:∃ W,((w.alloc (.cells #[.int .i64 r.x.kind,.string r.x.name,.int .i64 r.x.line,.int .i64 r.x.col,.int .i64 r.x.init,.slice ad1 n1 cap1,.string r.x.role,.string r.x.stage,.string r.x.event,.int .i64 r.x.times,.slice ad2 n2 cap2,.bool r.x.final,.int .i64 r.i,.int .i64 r.er,.int .i64 r.line,.int .i64 r.col] 62)).alloc oB4)=W:=⟨_,rfl⟩
 rw[hW0] at PE
 have p0:=PE.p
 have q0:=PE.q
 have HB0:=Lh PE.lo
 have HTK:Hid (∀ W,Below w.heap.size w W→TkIn W B lv T):=fun W hW=>h.below (hW.mono hB)
 have HBB:=Lh hB
 have HCL:=Lh hc
 obtain⟨c0,c1,c2,c3,c4,c5,c6,c7,c8,c9,c10,c11,c12,c13,c14,c15⟩:=p0.facts
 obtain⟨y0,y1,y2,y3,y4,y5,y6,y7,y8,y9,y10,y11,y12,y13,y14,y15⟩:=p0.free
 clear h hB hnm hit PE hc
 have hk1: (r.x.kind == 1)=false:=by rw[hk];rfl
 have hk3: (r.x.kind == 3)=false:=by rw[hk];rfl
 have hk4: (r.x.kind == 4)=false:=by rw[hk];rfl
 have hk5: (r.x.kind == 5)=false:=by rw[hk];rfl
 have hk6: (r.x.kind == 6)=false:=by rw[hk];rfl
 have hk7: (r.x.kind == 7)=true:=by rw[hk];rfl
 have HE0:=Lh he
 have HX0:=Lh hx0
 have HFN:=Lh hfin
 clear hk he hx0 hfin
 rw[pv_is r]
 have M2:=fun W (hW:Below w.heap.size w W)=>rdmust_any (HTK.out W hW) (Nat.le_trans HBB.out hW.size) r (nv:=(.slice ad1 n1 cap1)) (iv:=(.slice ad2 n2 cap2)) ⟨_,_,_,rfl⟩ ⟨_,_,_,rfl⟩ 2 wOf (fun e=>(HCL.out e).1)
 obtain⟨r2,hr2⟩:∃ q,needD T 2 wOf r=q:=⟨_,rfl⟩
 have c2':Clr T r2:=by rw[←hr2];exact HCL.out.need 2 wOf (by decide)
 have HX2:Hid (r2.x.names=r.x.names∧r2.x.ifs=r.x.ifs):=by
  have:r2.x=r.x:=by rw[←hr2];exact needD_x _ _ _ _
  rw[this];exact⟨rfl,rfl⟩
 have CL2:=Lh c2'
 have c2n:=c2'.name
 have HN:=fun W (hW:Below w.heap.size w W)=>rdname_any (HTK.out W hW) (Nat.le_trans HBB.out hW.size) r2 (nv:=(.slice ad1 n1 cap1)) (iv:=(.slice ad2 n2 cap2)) ⟨_,_,_,rfl⟩ ⟨_,_,_,rfl⟩ (fun e=>(c2' e).1)
 obtain⟨R,hR⟩:∃ R,nameD T r2=R:=⟨_,rfl⟩
 obtain⟨s,hs⟩:∃ s,nameV T r2=s:=⟨_,rfl⟩
 rw[hR,hs] at HN
 rw[hR] at c2n
 replace HN:=Lh HN
 obtain⟨r3,hr3⟩:∃ q,setStage s R=q:=⟨_,rfl⟩
 have CL3:Hid (Clr T r3):=by rw[←hr3];exact c2n.stage s
 have HX3:Hid (r3.x.names=r.x.names∧r3.x.ifs=r.x.ifs):=by
  have h:R.x=r2.x:=by rw[←hR];exact takeD_x T 1 _
  rw[←hr3];show Hid (R.x.names=_∧R.x.ifs=_)
  rw[h];exact HX2
 have HFIN:Hid (r3.x.final=false):=by
  have h:R.x=r2.x:=by rw[←hR];exact takeD_x T 1 _
  have h2:r2.x=r.x:=by rw[←hr2];exact needD_x _ _ _ _
  rw[←hr3];show Hid (R.x.final=false)
  rw[h,h2];exact HFN
 obtain⟨F3,hF3⟩:∃ F,miR3 T r=F:=⟨_,rfl⟩
 have HU3:Hid (sentryD T r3=F3):=by unfold Hid;rw[←hF3];unfold miR3;rw[hr2,hR,hs,hr3]
 have HUM:miR T r=setFinal (mayB T 2 wFinal F3) (mayD T 2 wFinal F3):=by unfold miR;rw[hF3]
 rw[HUM]
 rw[hr2] at M2
 replace M2:=Lh M2
 have HR3:=Lh hr3
 clear hr2 c2' c2n hR hs hr3 hF3 HUM
 go_enter Tryz.func27,Tryz.ntmps27
 go_wp2_with (first| (refine lP rfl rfl rfl (by assumption) ?_)| (refine sP rfl rfl rfl rfl (by assumption) ?_)|fail)
 refine(M2.out _ HB0.out).mono ?_
 rintro en w1 ⟨rfl,hb1⟩
 skip
 have pp1:=p0.below hb1
 have qq1:=q0.below hb1
 have HBB1:=Lh (HB0.out.trans (hb1.mono HB0.out.size))
 clear hb1 p0 q0
 go_wp2_with (first| (refine lP rfl rfl rfl (by assumption) ?_)| (refine sP rfl rfl rfl rfl (by assumption) ?_)|fail)
 unfold Hid
 intro W1 p1 k1
 have q1:=k1.pb qq1 (show w.heap.size+1≠w.heap.size by omega)
 have HB1:=Lh (k1.below HBB1.out (Nat.le_refl _))
 try clear e0 e1 e2 e3 e4 e5 e6 e7 e8 e9 e10 e11 e12 e13 e14 e15
 try clear v0 v1 v2 v3 v4 v5 v6 v7 v8 v9 v10 v11 v12 v13 v14 v15
 obtain⟨e0,e1,e2,e3,e4,e5,e6,e7,e8,e9,e10,e11,e12,e13,e14,e15⟩:=p1.facts
 obtain⟨v0,v1,v2,v3,v4,v5,v6,v7,v8,v9,v10,v11,v12,v13,v14,v15⟩:=p1.free
 clear pp1 qq1 k1
 go_wp2_with (first| (refine lP rfl rfl rfl (by assumption) ?_)| (refine sP rfl rfl rfl rfl (by assumption) ?_)|fail)
 refine(HN.out _ HB1.out).mono ?_
 rintro en w2 ⟨rfl,hb2⟩
 have hal:=(Below.refl w2.heap.size w2).alloc (Nat.le_refl _) oB4
 have pp2:=(p1.below hb2).below hal
 have qq2:=(q1.below hb2).below hal
 have zz2:PB (w2.alloc oB4) w2.heap.size zeroR (.slice none 0 0) (.slice none 0 0):=heap_alloc_new w2 _
 have HBB2:=Lh ((HB1.out.trans (hb2.mono HB1.out.size)).trans (hal.mono (Nat.le_trans HB1.out.size hb2.size)))
 have hlt2:w.heap.size+1 < w2.heap.size:=Nat.lt_of_lt_of_le q1.lt hb2.size
 obtain⟨X2,hX2⟩:∃ W,(w2.alloc oB4)=W:=⟨_,rfl⟩
 rw[hX2] at pp2 qq2 zz2 HBB2
 clear hb2 hal p1 q1
 go_wp2_with (first| (refine lP rfl rfl rfl (by assumption) ?_)| (refine sP rfl rfl rfl rfl (by assumption) ?_)|fail)
 unfold Hid
 intro Y2 z2 k2
 have y2:=k2.pb pp2 (show w.heap.size≠w2.heap.size by omega)
 have x2:=k2.pb qq2 (show w.heap.size+1≠w2.heap.size by omega)
 have HBC2:=Lh (k2.below HBB2.out (show w.heap.size≤w2.heap.size by omega))
 clear pp2 qq2 zz2 k2
 go_wp2_with (first| (refine lP rfl rfl rfl (by assumption) ?_)| (refine sP rfl rfl rfl rfl (by assumption) ?_)|fail)
 unfold Hid
 intro W3 p3 k3
 have q3:=k3.pb x2 (show w.heap.size+1≠w.heap.size by omega)
 have HB3:=Lh (k3.below HBC2.out (Nat.le_refl _))
 try clear e0 e1 e2 e3 e4 e5 e6 e7 e8 e9 e10 e11 e12 e13 e14 e15
 try clear v0 v1 v2 v3 v4 v5 v6 v7 v8 v9 v10 v11 v12 v13 v14 v15
 obtain⟨e0,e1,e2,e3,e4,e5,e6,e7,e8,e9,e10,e11,e12,e13,e14,e15⟩:=p3.facts
 obtain⟨v0,v1,v2,v3,v4,v5,v6,v7,v8,v9,v10,v11,v12,v13,v14,v15⟩:=p3.free
 clear y2 x2 z2 k3
 obtain⟨W4,hW4⟩:∃ W,(W3.setCell ⟨w.heap.size,7,none⟩ (.string s))=W:=⟨_,rfl⟩
 have p4:=p3.putStage s
 have q4:=q3.over (show w.heap.size+1≠w.heap.size by omega) (.string s) (j:=7)
 have hbW4:=HB3.out.setCell (p:=⟨w.heap.size,7,none⟩) (Nat.le_refl _) (.string s)
 rw[hW4] at p4 q4 hbW4
 have HB4:=Lh hbW4
 clear hbW4
 rw[HR3.out] at p4
 clear p3 q3
 have NM4:=Lh (HNM.out.keep HB4.out)
 have IT4:=Lh (HIT.out.keep HB4.out)
 rw[←HX3.out.1] at NM4
 rw[←HX3.out.2] at IT4
 have HSE:=Lh (rdsentry_any (HTK.out _ HB4.out) (Nat.le_trans HBB.out HB4.out.size) r3 NM4.out IT4.out CL3.out)
 rw[HU3.out] at HSE
 go_wp2_with (first| (refine lP rfl rfl rfl (by assumption) ?_)| (refine sP rfl rfl rfl rfl (by assumption) ?_)|fail)
 refine HSE.out.mono ?_
 rintro en w5 ⟨R5,nv1,iv1,rfl,heq,hnm,hit,hb5⟩
 obtain⟨ad6,n6,cap6,rfl⟩:=hnm.sl
 obtain⟨ad5,n5,cap5,rfl⟩:=hit.sl
 have pp5:=p4.below hb5
 have qq5:=q4.below hb5
 have HBB5:=Lh (HB4.out.trans (hb5.mono HB4.out.size))
 have HEQ:=Lh heq
 have HNM5:=Lh hnm
 have HIT5:=Lh hit
 clear hb5 p4 q4 heq hnm hit
 go_wp2_with (first| (refine lP rfl rfl rfl (by assumption) ?_)| (refine sP rfl rfl rfl rfl (by assumption) ?_)|fail)
 unfold Hid
 intro W6 p6 k6
 have q6:=k6.pb qq5 (show w.heap.size+1≠w.heap.size by omega)
 have HB6:=Lh (k6.below HBB5.out (Nat.le_refl _))
 try clear e0 e1 e2 e3 e4 e5 e6 e7 e8 e9 e10 e11 e12 e13 e14 e15
 try clear v0 v1 v2 v3 v4 v5 v6 v7 v8 v9 v10 v11 v12 v13 v14 v15
 obtain⟨e0,e1,e2,e3,e4,e5,e6,e7,e8,e9,e10,e11,e12,e13,e14,e15⟩:=p6.facts
 obtain⟨v0,v1,v2,v3,v4,v5,v6,v7,v8,v9,v10,v11,v12,v13,v14,v15⟩:=p6.free
 have NM6:=Lh (k6.nm pp5 HNM5.out)
 have IT6:=Lh (k6.it pp5 HIT5.out)
 clear pp5 qq5 k6
 by_cases he5:R5.er=0
 · have heb: (R5.er == 0)=true:=by rw[beq_iff_eq];exact he5
   have HF5:Hid (F3=R5):=(HEQ.out.2.2.2 (by rw[←HEQ.out.1];exact he5)).symm
   have HI:=Lh (rdis_any (HTK.out _ HB6.out) (Nat.le_trans HBB.out HB6.out.size) R5.i 2 wFinal)
   cases hq:isTk T R5.i 2 wFinal
   · have HFF:Hid (EqR R5 (setFinal (mayB T 2 wFinal F3) (mayD T 2 wFinal F3))):=by
      unfold Hid
      rw[HF5.out]
      unfold mayD
      rw[if_neg (by rw[mayB_good he5,hq];decide),mayB_good he5,hq]
      have:setFinal false R5=R5:=by
       have hfin:R5.x.final=false:=by
        rw[←HF5.out,←HU3.out,sentry_final];exact HFIN.out
       unfold setFinal
       rw[←hfin]
      rw[this];exact EqR.refl _
     rw[hq] at HI
     clear hq he5
     go_wp2_with (first| (refine lP rfl rfl rfl (by assumption) ?_)| (refine sP rfl rfl rfl rfl (by assumption) ?_)|fail)
     refine HI.out.mono ?_
     rintro en w7 ⟨rfl,hb7⟩
     have p7:=p6.below hb7
     have q7:=q6.below hb7
     have HB7:=Lh (HB6.out.trans (hb7.mono HB6.out.size))
     have NM7:=Lh (NM6.out.keep hb7)
     have IT7:=Lh (IT6.out.keep hb7)
     clear hb7 p6 q6 HI
     go_wp2_with (first| (refine lP rfl rfl rfl (by assumption) ?_)| (refine sP rfl rfl rfl rfl (by assumption) ?_)|fail)
     unfold Hid
     intro W9 qe ke
     have hbe:=ke.below HB7.out (show w.heap.size≤w.heap.size+1 by omega)
     have hnm9:NmRow W9 (.slice ad6 n6 cap6) R5.x.names:=ke.nm q7 NM7.out
     have hit9:ItRow W9 (.slice ad5 n5 cap5) R5.x.ifs:=ke.it q7 IT7.out
     go_wp2
     exact bodyPost_ret (run_resP (by rfl) (by rfl) qe) rfl ⟨_,_,_,rfl,HFF.out,hnm9,hit9,hbe⟩
   · have HIN:=isTk_in hq (by decide)
     have hwr:IntKind.i64.wrap (R5.i+1)=R5.i+1:=IntWalk.i64_in _ ⟨by omega,by omega⟩
     have HFF:Hid (setFinal (mayB T 2 wFinal F3) (mayD T 2 wFinal F3)= { (setFinal true R5) with i:=R5.i+1 }):=by
      unfold Hid
      rw[HF5.out]
      unfold mayD
      rw[if_pos (by rw[mayB_good he5,hq]),mayB_good he5,hq];rfl
     rw[hq] at HI
     clear hq he5 HIN
     go_wp2_with (first| (refine lP rfl rfl rfl (by assumption) ?_)| (refine sP rfl rfl rfl rfl (by assumption) ?_)|fail)
     refine HI.out.mono ?_
     rintro en w7 ⟨rfl,hb7⟩
     have p7:=p6.below hb7
     have q7:=q6.below hb7
     have HB7:=Lh (HB6.out.trans (hb7.mono HB6.out.size))
     have NM7:=Lh (NM6.out.keep hb7)
     have IT7:=Lh (IT6.out.keep hb7)
     clear hb7 p6 q6 HI
     try clear e0 e1 e2 e3 e4 e5 e6 e7 e8 e9 e10 e11 e12 e13 e14 e15
     try clear v0 v1 v2 v3 v4 v5 v6 v7 v8 v9 v10 v11 v12 v13 v14 v15
     obtain⟨e0,e1,e2,e3,e4,e5,e6,e7,e8,e9,e10,e11,e12,e13,e14,e15⟩:=p7.facts
     obtain⟨v0,v1,v2,v3,v4,v5,v6,v7,v8,v9,v10,v11,v12,v13,v14,v15⟩:=p7.free
     obtain⟨V1,hV1⟩:∃ W,(w7.setCell ⟨w.heap.size,11,none⟩ (.bool true))=W:=⟨_,rfl⟩
     have p8:=p7.putFinal true
     have q8:=q7.over (show w.heap.size+1≠w.heap.size by omega) (.bool true) (j:=11)
     have hbV1:=HB7.out.setCell (p:=⟨w.heap.size,11,none⟩) (Nat.le_refl _) (.bool true)
     rw[hV1] at p8 q8 hbV1
     have HB8:=Lh hbV1
     clear hbV1
     have NM8:Hid (NmRow V1 (.slice ad6 n6 cap6) R5.x.names):=by unfold Hid;rw[←hV1];exact(KeptP.cell w7 w.heap.size 11 (.bool true)).nm p7 NM7.out
     have IT8:Hid (ItRow V1 (.slice ad5 n5 cap5) R5.x.ifs):=by unfold Hid;rw[←hV1];exact(KeptP.cell w7 w.heap.size 11 (.bool true)).it p7 IT7.out
     try clear g0 g1 g2 g3 g4 g5 g6 g7 g8 g9 g10 g11 g12 g13 g14 g15
     try clear u0 u1 u2 u3 u4 u5 u6 u7 u8 u9 u10 u11 u12 u13 u14 u15
     obtain⟨g0,g1,g2,g3,g4,g5,g6,g7,g8,g9,g10,g11,g12,g13,g14,g15⟩:=p8.facts
     obtain⟨u0,u1,u2,u3,u4,u5,u6,u7,u8,u9,u10,u11,u12,u13,u14,u15⟩:=p8.free
     replace g12:V1.cell? ⟨w.heap.size,12,none⟩ = some (.int .i64 R5.i):=g12
     obtain⟨V2,hV2⟩:∃ W,(V1.setCell ⟨w.heap.size,12,none⟩ (.int .i64 (R5.i+1)))=W:=⟨_,rfl⟩
     have p9:=p8.putI (R5.i+1)
     have q9:=q8.over (show w.heap.size+1≠w.heap.size by omega) (.int .i64 (R5.i+1)) (j:=12)
     have hbV2:=HB8.out.setCell (p:=⟨w.heap.size,12,none⟩) (Nat.le_refl _) (.int .i64 (R5.i+1))
     rw[hV2] at p9 q9 hbV2
     have HB9:=Lh hbV2
     clear hbV2
     have NM9:Hid (NmRow V2 (.slice ad6 n6 cap6) R5.x.names):=by unfold Hid;rw[←hV2];exact(KeptP.cell V1 w.heap.size 12 (.int .i64 (R5.i+1))).nm p8 NM8.out
     have IT9:Hid (ItRow V2 (.slice ad5 n5 cap5) R5.x.ifs):=by unfold Hid;rw[←hV2];exact(KeptP.cell V1 w.heap.size 12 (.int .i64 (R5.i+1))).it p8 IT8.out
     obtain⟨Rb,hRb⟩:∃ R,({ (setFinal true R5) with i:=R5.i+1 }:RS)=R:=⟨_,rfl⟩
     have HXN:Hid (Rb.x.names=R5.x.names∧Rb.x.ifs=R5.x.ifs):=by rw[←hRb];exact⟨rfl,rfl⟩
     have HEE:Hid (setFinal (mayB T 2 wFinal F3) (mayD T 2 wFinal F3)=Rb):=by unfold Hid;rw[HFF.out,←hRb]
     have pb':PB V2 w.heap.size Rb (.slice ad6 n6 cap6) (.slice ad5 n5 cap5):=by rw[←hRb];exact p9
     clear p7 q7 p8 q8 hRb p9
     go_wp2_with (first| (refine lP rfl rfl rfl (by assumption) ?_)| (refine sP rfl rfl rfl rfl (by assumption) ?_)|fail)
     unfold Hid
     intro W9 qe ke
     have hbe:=ke.below HB9.out (show w.heap.size≤w.heap.size+1 by omega)
     have hnm9:NmRow W9 (.slice ad6 n6 cap6) Rb.x.names:=by rw[HXN.out.1];exact ke.nm q9 NM9.out
     have hit9:ItRow W9 (.slice ad5 n5 cap5) Rb.x.ifs:=by rw[HXN.out.2];exact ke.it q9 IT9.out
     go_wp2
     exact bodyPost_ret (run_resP (by rfl) (by rfl) qe) rfl ⟨_,_,_,rfl,by rw[HEE.out];exact EqR.refl _,hnm9,hit9,hbe⟩
 · have heb: (R5.er == 0)=false:=beq_eq_false_iff_ne.2 he5
   have HFF:Hid (EqR R5 (setFinal (mayB T 2 wFinal F3) (mayD T 2 wFinal F3))):=by
    have hne:F3.er≠0:=by rw[←HEQ.out.1];exact he5
    unfold Hid mayD
    rw[if_neg (by rw[mayB_bad hne];decide)]
    exact⟨HEQ.out.1,HEQ.out.2.1,HEQ.out.2.2.1,fun h=>absurd (show F3.er=0 from h) hne⟩
   clear he5
   go_wp2_with (first| (refine lP rfl rfl rfl (by assumption) ?_)| (refine sP rfl rfl rfl rfl (by assumption) ?_)|fail)
   unfold Hid
   intro W9 qe ke
   have hbe:=ke.below HB6.out (show w.heap.size≤w.heap.size+1 by omega)
   have hnm9:NmRow W9 (.slice ad6 n6 cap6) R5.x.names:=ke.nm q6 NM6.out
   have hit9:ItRow W9 (.slice ad5 n5 cap5) R5.x.ifs:=ke.it q6 IT6.out
   go_wp2
   exact bodyPost_ret (run_resP (by rfl) (by rfl) qe) rfl ⟨_,_,_,rfl,HFF.out,hnm9,hit9,hbe⟩
end Go.Proofs.YthlofmnmacpogaaGreatDoor
