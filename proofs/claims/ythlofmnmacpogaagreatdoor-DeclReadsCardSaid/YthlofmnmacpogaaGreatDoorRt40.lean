/- A part of a proof of DeclReadsProof. -/
import Derived.Test.YthlofmnmacpogaaGreatDoorRt39
set_option maxRecDepth 100000
set_option maxHeartbeats 40000000
namespace Go.Proofs.YthlofmnmacpogaaGreatDoor
open Go.RowKit
theorem rdevent_no {w:World} {B:Nat} {lv:Value} {T:List Tk} (h:TkIn w B lv T) (hB:B≤w.heap.size) (r:RS) {nv iv:Value} (hnm:NmRow w nv r.x.names) (hit:ItRow w iv r.x.ifs) (hc:Clr T r) (hx0:r.x.names= []) (hv: (evR5 T r).er=0∧isTk T (evR5 T r).i 2 wSets=false) :
 Calls Tryz.prog 49 #[lv,pvV r nv iv] w (RdP w (evR7 T (evR6 T (evR5 T r)))):=by
 have hTl:T.length≤1000000:=by obtain⟨_,_,_,hl,_⟩:=h;exact hl
 have HNM:=Lh hnm
 have HIT:=Lh hit
 obtain⟨ad1,n1,cap1,rfl⟩:=hnm.sl
 obtain⟨ad2,n2,cap2,rfl⟩:=hit.sl
 have PE:=pent w r (.slice ad1 n1 cap1) (.slice ad2 n2 cap2)
 obtain⟨W0,hW0⟩:∃ W,((w.alloc (.cells #[.int .i64 r.x.kind,.string r.x.name,.int .i64 r.x.line,.int .i64 r.x.col,.int .i64 r.x.init,.slice ad1 n1 cap1,.string r.x.role,.string r.x.stage,.string r.x.event,.int .i64 r.x.times,.slice ad2 n2 cap2,.bool r.x.final,.int .i64 r.i,.int .i64 r.er,.int .i64 r.line,.int .i64 r.col] 62)).alloc oB4)=W:=⟨_,rfl⟩
 rw[hW0] at PE
 have p0:=PE.p
 have q0:=PE.q
 have HB0:=Lh PE.lo
 have HTK:Hid (∀ W,Below w.heap.size w W→TkIn W B lv T):=fun W hW=>h.below (hW.mono hB)
 have HBB:=Lh hB
 have HCL:=Lh hc
 obtain⟨c0,c1,c2,c3,c4,c5,c6,c7,c8,c9,c10,c11,c12,c13,c14,c15⟩:=p0.facts
 obtain⟨y0,y1,y2,y3,y4,y5,y6,y7,y8,y9,y10,y11,y12,y13,y14,y15⟩:=p0.free
 clear h hB hnm hit PE hc
 have HX0:=Lh hx0
 clear hx0
 rw[pv_is r]
 have c2':=HCL.out.need 2 wBy (by decide)
 obtain⟨r2,hr2⟩:∃ q,needD T 2 wBy r=q:=⟨_,rfl⟩
 have x2:r2.x=r.x:=by rw[←hr2];exact needD_x _ _ _ _
 rw[hr2] at c2'
 have c3':=c2'.name
 obtain⟨s2,hs2⟩:∃ q,nameV T r2=q:=⟨_,rfl⟩
 obtain⟨r2n,hr2n⟩:∃ q,nameD T r2=q:=⟨_,rfl⟩
 have x2n:r2n.x=r2.x:=by rw[←hr2n];exact takeD_x _ _ _
 rw[hr2n] at c3'
 obtain⟨r3,hr3⟩:∃ q,setRole s2 r2n=q:=⟨_,rfl⟩
 have c3:Clr T r3:=by rw[←hr3];exact c3'.role s2
 have c4:=c3.need 2 wIn (by decide)
 obtain⟨r4,hr4⟩:∃ q,needD T 2 wIn r3=q:=⟨_,rfl⟩
 have x4:r4.x=r3.x:=by rw[←hr4];exact needD_x _ _ _ _
 rw[hr4] at c4
 have c5':=c4.name
 obtain⟨s4,hs4⟩:∃ q,nameV T r4=q:=⟨_,rfl⟩
 obtain⟨r4n,hr4n⟩:∃ q,nameD T r4=q:=⟨_,rfl⟩
 have x4n:r4n.x=r4.x:=by rw[←hr4n];exact takeD_x _ _ _
 rw[hr4n] at c5'
 obtain⟨r5,hr5⟩:∃ q,setStage s4 r4n=q:=⟨_,rfl⟩
 have c5:Clr T r5:=by rw[←hr5];exact c5'.stage s4
 have HU5:Hid (evR5 T r=r5):=by unfold Hid evR5;dsimp only;rw[hr2,hs2,hr2n,hr3,hr4,hs4,hr4n,hr5]
 have HX5:Hid (r5.x.names=r.x.names∧r5.x.ifs=r.x.ifs):=by
  rw[←hr5];show Hid (r4n.x.names=_∧r4n.x.ifs=_)
  rw[x4n,x4,←hr3];show Hid (r2n.x.names=_∧r2n.x.ifs=_)
  rw[x2n,x2];exact⟨rfl,rfl⟩
 have M2:=fun W (hW:Below w.heap.size w W)=>rdmust_any (HTK.out W hW) (Nat.le_trans HBB.out hW.size) r (nv:=(.slice ad1 n1 cap1)) (iv:=(.slice ad2 n2 cap2)) ⟨_,_,_,rfl⟩ ⟨_,_,_,rfl⟩ 2 wBy (fun e=>(HCL.out e).1)
 have N2:=fun W (hW:Below w.heap.size w W)=>rdname_any (HTK.out W hW) (Nat.le_trans HBB.out hW.size) r2 (nv:=(.slice ad1 n1 cap1)) (iv:=(.slice ad2 n2 cap2)) ⟨_,_,_,rfl⟩ ⟨_,_,_,rfl⟩ (fun e=>(c2' e).1)
 have M4:=fun W (hW:Below w.heap.size w W)=>rdmust_any (HTK.out W hW) (Nat.le_trans HBB.out hW.size) r3 (nv:=(.slice ad1 n1 cap1)) (iv:=(.slice ad2 n2 cap2)) ⟨_,_,_,rfl⟩ ⟨_,_,_,rfl⟩ 2 wIn (fun e=>(c3 e).1)
 have N4:=fun W (hW:Below w.heap.size w W)=>rdname_any (HTK.out W hW) (Nat.le_trans HBB.out hW.size) r4 (nv:=(.slice ad1 n1 cap1)) (iv:=(.slice ad2 n2 cap2)) ⟨_,_,_,rfl⟩ ⟨_,_,_,rfl⟩ (fun e=>(c4 e).1)
 rw[hr2] at M2
 rw[hs2,hr2n] at N2
 rw[hr4] at M4
 rw[hs4,hr4n] at N4
 replace M2:=Lh M2;replace N2:=Lh N2;replace M4:=Lh M4;replace N4:=Lh N4
 have HR3:=Lh hr3;have HR5:=Lh hr5
 have CL5:=Lh c5
 clear c2' hr2 x2 c3' hs2 hr2n x2n hr3 c3 c4 hr4 x4 c5' hs4 hr4n x4n hr5 c5
 obtain⟨F6,hF6⟩:∃ F,evR6 T r5=F:=⟨_,rfl⟩
 rw[HU5.out] at hv
 rw[HU5.out,hF6]
 replace hv:=Lh hv
 replace hF6:=Lh hF6
 go_enter Tryz.func49,Tryz.ntmps49
 go_wp2_with (first| (refine lP rfl rfl rfl (by assumption) ?_)| (refine sP rfl rfl rfl rfl (by assumption) ?_)|fail)
 refine(M2.out _ HB0.out).mono ?_
 rintro en w1 ⟨rfl,hb1⟩
 skip
 have pp1:=p0.below hb1
 have qq1:=q0.below hb1
 have HBB1:=Lh (HB0.out.trans (hb1.mono HB0.out.size))
 clear hb1 p0 q0
 go_wp2_with (first| (refine lP rfl rfl rfl (by assumption) ?_)| (refine sP rfl rfl rfl rfl (by assumption) ?_)|fail)
 unfold Hid
 intro W1 p1 k1
 have q1:=k1.pb qq1 (show w.heap.size+1≠w.heap.size by omega)
 have HB1:=Lh (k1.below HBB1.out (Nat.le_refl _))
 try clear e0 e1 e2 e3 e4 e5 e6 e7 e8 e9 e10 e11 e12 e13 e14 e15
 try clear v0 v1 v2 v3 v4 v5 v6 v7 v8 v9 v10 v11 v12 v13 v14 v15
 obtain⟨e0,e1,e2,e3,e4,e5,e6,e7,e8,e9,e10,e11,e12,e13,e14,e15⟩:=p1.facts
 obtain⟨v0,v1,v2,v3,v4,v5,v6,v7,v8,v9,v10,v11,v12,v13,v14,v15⟩:=p1.free
 clear pp1 qq1 k1
 go_wp2_with (first| (refine lP rfl rfl rfl (by assumption) ?_)| (refine sP rfl rfl rfl rfl (by assumption) ?_)|fail)
 refine(N2.out _ HB1.out).mono ?_
 rintro en w2 ⟨rfl,hb2⟩
 skip
 have pp2:=p1.below hb2
 have qq2:=q1.below hb2
 have HBB2:=Lh (HB1.out.trans (hb2.mono HB1.out.size))
 clear hb2 p1 q1
 go_wp2_with (first| (refine lP rfl rfl rfl (by assumption) ?_)| (refine sP rfl rfl rfl rfl (by assumption) ?_)|fail)
 unfold Hid
 intro W2 p2 k2
 have q2:=k2.pb qq2 (show w.heap.size+1≠w.heap.size by omega)
 have HB2:=Lh (k2.below HBB2.out (Nat.le_refl _))
 try clear e0 e1 e2 e3 e4 e5 e6 e7 e8 e9 e10 e11 e12 e13 e14 e15
 try clear v0 v1 v2 v3 v4 v5 v6 v7 v8 v9 v10 v11 v12 v13 v14 v15
 obtain⟨e0,e1,e2,e3,e4,e5,e6,e7,e8,e9,e10,e11,e12,e13,e14,e15⟩:=p2.facts
 obtain⟨v0,v1,v2,v3,v4,v5,v6,v7,v8,v9,v10,v11,v12,v13,v14,v15⟩:=p2.free
 clear pp2 qq2 k2
 obtain⟨W3,hW3⟩:∃ W,(W2.setCell ⟨w.heap.size,6,none⟩ (.string s2))=W:=⟨_,rfl⟩
 have p3:=p2.putRole s2
 have q3:=q2.over (show w.heap.size+1≠w.heap.size by omega) (.string s2) (j:=6)
 have hbW3:=HB2.out.setCell (p:=⟨w.heap.size,6,none⟩) (Nat.le_refl _) (.string s2)
 rw[hW3] at p3 q3 hbW3
 have HB3:=Lh hbW3
 clear hbW3
 rw[HR3.out] at p3
 clear p2 q2
 go_wp2_with (first| (refine lP rfl rfl rfl (by assumption) ?_)| (refine sP rfl rfl rfl rfl (by assumption) ?_)|fail)
 refine(M4.out _ HB3.out).mono ?_
 rintro en w4 ⟨rfl,hb4⟩
 skip
 have pp4:=p3.below hb4
 have qq4:=q3.below hb4
 have HBB4:=Lh (HB3.out.trans (hb4.mono HB3.out.size))
 clear hb4 p3 q3
 go_wp2_with (first| (refine lP rfl rfl rfl (by assumption) ?_)| (refine sP rfl rfl rfl rfl (by assumption) ?_)|fail)
 unfold Hid
 intro W4 p4 k4
 have q4:=k4.pb qq4 (show w.heap.size+1≠w.heap.size by omega)
 have HB4:=Lh (k4.below HBB4.out (Nat.le_refl _))
 try clear e0 e1 e2 e3 e4 e5 e6 e7 e8 e9 e10 e11 e12 e13 e14 e15
 try clear v0 v1 v2 v3 v4 v5 v6 v7 v8 v9 v10 v11 v12 v13 v14 v15
 obtain⟨e0,e1,e2,e3,e4,e5,e6,e7,e8,e9,e10,e11,e12,e13,e14,e15⟩:=p4.facts
 obtain⟨v0,v1,v2,v3,v4,v5,v6,v7,v8,v9,v10,v11,v12,v13,v14,v15⟩:=p4.free
 clear pp4 qq4 k4
 go_wp2_with (first| (refine lP rfl rfl rfl (by assumption) ?_)| (refine sP rfl rfl rfl rfl (by assumption) ?_)|fail)
 refine(N4.out _ HB4.out).mono ?_
 rintro en w5 ⟨rfl,hb5⟩
 skip
 have pp5:=p4.below hb5
 have qq5:=q4.below hb5
 have HBB5:=Lh (HB4.out.trans (hb5.mono HB4.out.size))
 clear hb5 p4 q4
 go_wp2_with (first| (refine lP rfl rfl rfl (by assumption) ?_)| (refine sP rfl rfl rfl rfl (by assumption) ?_)|fail)
 unfold Hid
 intro W5 p5 k5
 have q5:=k5.pb qq5 (show w.heap.size+1≠w.heap.size by omega)
 have HB5:=Lh (k5.below HBB5.out (Nat.le_refl _))
 try clear e0 e1 e2 e3 e4 e5 e6 e7 e8 e9 e10 e11 e12 e13 e14 e15
 try clear v0 v1 v2 v3 v4 v5 v6 v7 v8 v9 v10 v11 v12 v13 v14 v15
 obtain⟨e0,e1,e2,e3,e4,e5,e6,e7,e8,e9,e10,e11,e12,e13,e14,e15⟩:=p5.facts
 obtain⟨v0,v1,v2,v3,v4,v5,v6,v7,v8,v9,v10,v11,v12,v13,v14,v15⟩:=p5.free
 clear pp5 qq5 k5
 obtain⟨W6,hW6⟩:∃ W,(W5.setCell ⟨w.heap.size,7,none⟩ (.string s4))=W:=⟨_,rfl⟩
 have p6:=p5.putStage s4
 have q6:=q5.over (show w.heap.size+1≠w.heap.size by omega) (.string s4) (j:=7)
 have hbW6:=HB5.out.setCell (p:=⟨w.heap.size,7,none⟩) (Nat.le_refl _) (.string s4)
 rw[hW6] at p6 q6 hbW6
 have HB6:=Lh hbW6
 clear hbW6
 rw[HR5.out] at p6
 try clear g0 g1 g2 g3 g4 g5 g6 g7 g8 g9 g10 g11 g12 g13 g14 g15
 try clear u0 u1 u2 u3 u4 u5 u6 u7 u8 u9 u10 u11 u12 u13 u14 u15
 obtain⟨g0,g1,g2,g3,g4,g5,g6,g7,g8,g9,g10,g11,g12,g13,g14,g15⟩:=p6.facts
 obtain⟨u0,u1,u2,u3,u4,u5,u6,u7,u8,u9,u10,u11,u12,u13,u14,u15⟩:=p6.free
 clear p5 q5 M2 N2 M4 N4
 have HNM6:=Lh (HNM.out.keep HB6.out)
 have HIT6:=Lh (HIT.out.keep HB6.out)
 obtain⟨he5,hq5⟩:=hv.out
 have heb: (r5.er == 0)=true:=by rw[beq_iff_eq];exact he5
 have HI:=Lh (rdis_any (HTK.out _ HB6.out) (Nat.le_trans HBB.out HB6.out.size) r5.i 2 wSets)
 · skip
   have hF:F6=r5:=by rw[←hF6.out];unfold evR6;rw[if_neg (by rw[mayB_good he5,hq5];decide)]
   obtain⟨R6,hR6⟩:∃ R,R=r5:=⟨_,rfl⟩
   have HU6:Hid (EqR R6 F6):=by rw[hF,hR6];exact EqR.refl _
   rw[hq5] at HI
   clear hq5 he5 hF hF6
   go_wp2_with (first| (refine lP rfl rfl rfl (by assumption) ?_)| (refine sP rfl rfl rfl rfl (by assumption) ?_)|fail)
   refine HI.out.mono ?_
   rintro en w7 ⟨rfl,hb7⟩
   have p30:=p6.below hb7
   have q30:=q6.below hb7
   have HB30:=Lh (HB6.out.trans (hb7.mono HB6.out.size))
   have NM6:Hid (NmRow w7 (.slice ad1 n1 cap1) R6.x.names):=by unfold Hid;rw[hR6,HX5.out.1];exact HNM6.out.keep hb7
   have IT6:Hid (ItRow w7 (.slice ad2 n2 cap2) R6.x.ifs):=by unfold Hid;rw[hR6,HX5.out.2];exact HIT6.out.keep hb7
   rw[←hR6] at p30
   try clear e0 e1 e2 e3 e4 e5 e6 e7 e8 e9 e10 e11 e12 e13 e14 e15
   try clear v0 v1 v2 v3 v4 v5 v6 v7 v8 v9 v10 v11 v12 v13 v14 v15
   obtain⟨e0,e1,e2,e3,e4,e5,e6,e7,e8,e9,e10,e11,e12,e13,e14,e15⟩:=p30.facts
   clear hb7 p6 q6 HI
   replace hR6:=Lh hR6
   by_cases her:R6.er=0
   · have hrb: (R6.er !=0)=false:=by simpa using her
     have HF6:Hid (F6=R6):=(HU6.out.2.2.2 (by rw[←HU6.out.1];exact her)).symm
     have HI:=Lh (rdis_any (HTK.out _ HB30.out) (Nat.le_trans HBB.out HB30.out.size) R6.i 2 wMax)
     cases hq:isTk T R6.i 2 wMax
     · have HF:Hid (evR7 T F6=R6):=by unfold Hid evR7;rw[HF6.out,if_neg (by rw[mayB_good her,hq];decide)]
       rw[hq] at HI
       clear hq her
       go_wp2_with (first| (refine lP rfl rfl rfl (by assumption) ?_)| (refine sP rfl rfl rfl rfl (by assumption) ?_)|fail)
       refine HI.out.mono ?_
       rintro en w7 ⟨rfl,hb7⟩
       have p7:=p30.below hb7
       have q7:=q30.below hb7
       have HB7:=Lh (HB30.out.trans (hb7.mono HB30.out.size))
       have NM7:=Lh (NM6.out.keep hb7)
       have IT7:=Lh (IT6.out.keep hb7)
       clear hb7 p30 q30
       go_wp2_with (first| (refine lP rfl rfl rfl (by assumption) ?_)| (refine sP rfl rfl rfl rfl (by assumption) ?_)|fail)
       unfold Hid
       intro W9 qe ke
       have hbe:=ke.below HB7.out (show w.heap.size≤w.heap.size+1 by omega)
       have hnm9:NmRow W9 (.slice ad1 n1 cap1) R6.x.names:=ke.nm q7 NM7.out
       have hit9:ItRow W9 (.slice ad2 n2 cap2) R6.x.ifs:=ke.it q7 IT7.out
       go_wp2
       exact bodyPost_ret (run_resP (by rfl) (by rfl) qe) rfl ⟨_,_,_,rfl,by rw[HF.out];exact EqR.refl _,hnm9,hit9,hbe⟩
     · have HIN:=Lh (isTk_in hq (by decide))
       obtain⟨R7,hR7⟩:∃ R,({ R6 with i:=R6.i+1 }:RS)=R:=⟨_,rfl⟩
       have HF:Hid (evR7 T F6=timesD T R7):=by
        unfold Hid evR7
        rw[HF6.out,if_pos (by rw[mayB_good her,hq])]
        unfold mayD
        rw[if_pos (by rw[mayB_good her,hq]),hR7]
       have H7E:Hid (R7.er=0):=by rw[←hR7];exact her
       have H7I:Hid (R7.i=R6.i+1):=by rw[←hR7];exact rfl
       have H7N:Hid (R7.x=R6.x):=by rw[←hR7];exact rfl
       rw[hq] at HI
       have hwr:IntKind.i64.wrap (R6.i+1)=R6.i+1:=IntWalk.i64_in _ ⟨by have:=HIN.out;omega,by have:=HIN.out;omega⟩
       have hwr7:IntKind.i64.wrap (R7.i+1)=R7.i+1:=IntWalk.i64_in _ ⟨by have:=HIN.out;have:=H7I.out;omega,by have:=HIN.out;have:=H7I.out;omega⟩
       have HR7:=Lh hR7
       clear hq her hR7
       go_wp2_with (first| (refine lP rfl rfl rfl (by assumption) ?_)| (refine sP rfl rfl rfl rfl (by assumption) ?_)|fail)
       refine HI.out.mono ?_
       rintro en w7 ⟨rfl,hb7⟩
       have p7:=p30.below hb7
       have q7:=q30.below hb7
       have HB7:=Lh (HB30.out.trans (hb7.mono HB30.out.size))
       have NM7:=Lh (NM6.out.keep hb7)
       have IT7:=Lh (IT6.out.keep hb7)
       try clear e0 e1 e2 e3 e4 e5 e6 e7 e8 e9 e10 e11 e12 e13 e14 e15
       try clear v0 v1 v2 v3 v4 v5 v6 v7 v8 v9 v10 v11 v12 v13 v14 v15
       obtain⟨e0,e1,e2,e3,e4,e5,e6,e7,e8,e9,e10,e11,e12,e13,e14,e15⟩:=p7.facts
       obtain⟨v0,v1,v2,v3,v4,v5,v6,v7,v8,v9,v10,v11,v12,v13,v14,v15⟩:=p7.free
       obtain⟨V1,hV1⟩:∃ W,(w7.setCell ⟨w.heap.size,12,none⟩ (.int .i64 (R6.i+1)))=W:=⟨_,rfl⟩
       have p8:=p7.putI (R6.i+1)
       have q8:=q7.over (show w.heap.size+1≠w.heap.size by omega) (.int .i64 (R6.i+1)) (j:=12)
       have hbV1:=HB7.out.setCell (p:=⟨w.heap.size,12,none⟩) (Nat.le_refl _) (.int .i64 (R6.i+1))
       rw[hV1] at p8 q8 hbV1
       have HB8:=Lh hbV1
       clear hbV1
       have NM8:Hid (NmRow V1 (.slice ad1 n1 cap1) R6.x.names):=by unfold Hid;rw[←hV1];exact(KeptP.cell w7 w.heap.size 12 (.int .i64 (R6.i+1))).nm p7 NM7.out
       have IT8:Hid (ItRow V1 (.slice ad2 n2 cap2) R6.x.ifs):=by unfold Hid;rw[←hV1];exact(KeptP.cell w7 w.heap.size 12 (.int .i64 (R6.i+1))).it p7 IT7.out
       rw[HR7.out] at p8
       try clear g0 g1 g2 g3 g4 g5 g6 g7 g8 g9 g10 g11 g12 g13 g14 g15
       try clear u0 u1 u2 u3 u4 u5 u6 u7 u8 u9 u10 u11 u12 u13 u14 u15
       obtain⟨g0,g1,g2,g3,g4,g5,g6,g7,g8,g9,g10,g11,g12,g13,g14,g15⟩:=p8.facts
       have hi7:=H7I.out
       rw[hi7] at g12
       have HT:=Lh (rdtok_any (HTK.out _ HB8.out) (R6.i+1))
       obtain⟨x,hx⟩:∃ x,tkAt T (R6.i+1)=x:=⟨_,rfl⟩
       have HX:=Lh hx
       have HX7:Hid (tkAt T R7.i=x):=by unfold Hid;rw[H7I.out];exact hx
       clear hb7 p7 q7 p30 q30 HI hx hi7
       go_wp2_with (first| (refine lP rfl rfl rfl (by assumption) ?_)| (refine sP rfl rfl rfl rfl (by assumption) ?_)|fail)
       refine HT.out.mono ?_
       rintro en w9 ⟨rfl,hb9⟩
       rw[HX.out]
       unfold tokV
       have hal:=(Below.refl w9.heap.size w9).alloc (Nat.le_refl _) (tO x)
       have p9:=(p8.below hb9).below hal
       have q9:=(q8.below hb9).below hal
       have t9: (w9.alloc (tO x)).heap[w9.heap.size]?=some (.cells #[.int .i64 x.kind,.string x.text,.int .i64 x.num,.int .i64 x.line,.int .i64 x.col] 48 (0,0)):=heap_alloc_new w9 _
       have HB9:=Lh ((HB8.out.trans (hb9.mono HB8.out.size)).trans (hal.mono (Nat.le_trans HB8.out.size hb9.size)))
       have NM9:=Lh ((NM8.out.keep hb9).keep hal)
       have IT9:=Lh ((IT8.out.keep hb9).keep hal)
       obtain⟨V2,hV2⟩:∃ W,(w9.alloc (tO x))=W:=⟨_,rfl⟩
       rw[hV2] at p9 q9 t9 HB9 NM9 IT9
       have o0:V2.cell? ⟨w9.heap.size,0,none⟩ = some (.int .i64 x.kind):=by simp[World.cell?,t9]
       have o2:V2.cell? ⟨w9.heap.size,2,none⟩ = some (.int .i64 x.num):=by simp[World.cell?,t9]
       try clear e0 e1 e2 e3 e4 e5 e6 e7 e8 e9 e10 e11 e12 e13 e14 e15
       try clear v0 v1 v2 v3 v4 v5 v6 v7 v8 v9 v10 v11 v12 v13 v14 v15
       obtain⟨e0,e1,e2,e3,e4,e5,e6,e7,e8,e9,e10,e11,e12,e13,e14,e15⟩:=p9.facts
       obtain⟨v0,v1,v2,v3,v4,v5,v6,v7,v8,v9,v10,v11,v12,v13,v14,v15⟩:=p9.free
       have HBD:=fun(en:Int)=>Lh (rdbad_any (HTK.out _ HB9.out) (Nat.le_trans HBB.out HB9.out.size) R7 (nv:=(.slice ad1 n1 cap1)) (iv:=(.slice ad2 n2 cap2)) ⟨_,_,_,rfl⟩ ⟨_,_,_,rfl⟩ en)
       clear hb9 hal p8 q8 HT t9
       by_cases hk:x.kind=3
       · have hkb: (x.kind !=3)=false:=by simpa using hk
         by_cases hn:x.num < 1∨3 < x.num
         · have HE:=Lh (times_far H7E.out (by rw[HX7.out];exact hk) (by rw[HX7.out];exact hn))
           have hcase: (x.num < 1)∨(¬x.num < 1∧3 < x.num):=by omega
           clear hk hn
           rcases hcase with hn| ⟨hn,hn2⟩
           · have hd:decide (x.num < 1)=true:=decide_eq_true hn
             go_wp2_with (first| (refine lP rfl rfl rfl (by assumption) ?_)| (refine sP rfl rfl rfl rfl (by assumption) ?_)|fail)
             refine(HBD 11).out.mono ?_
             rintro en wa ⟨rfl,hba⟩
             have qa:=q9.below hba
             have HBa:=Lh (HB9.out.trans (hba.mono HB9.out.size))
             have NMa:=Lh (NM9.out.keep hba)
             have ITa:=Lh (IT9.out.keep hba)
             have HXN:Hid ((failD T 11 R7).x.names=R6.x.names∧(failD T 11 R7).x.ifs=R6.x.ifs):=by
              have: (failD T 11 R7).x=R6.x:=by rw[←H7N.out];unfold failD;split <;> rfl
              rw[this];exact⟨rfl,rfl⟩
             obtain⟨Rb,hRb⟩:∃ R,failD T 11 R7=R:=⟨_,rfl⟩
             rw[hRb] at HXN HE ⊢
             clear hba p9 q9 hRb
             go_wp2_with (first| (refine lP rfl rfl rfl (by assumption) ?_)| (refine sP rfl rfl rfl rfl (by assumption) ?_)|fail)
             unfold Hid
             intro W9 qe ke
             have hbe:=ke.below HBa.out (show w.heap.size≤w.heap.size+1 by omega)
             have hnm9:NmRow W9 (.slice ad1 n1 cap1) Rb.x.names:=by rw[HXN.out.1];exact ke.nm qa NMa.out
             have hit9:ItRow W9 (.slice ad2 n2 cap2) Rb.x.ifs:=by rw[HXN.out.2];exact ke.it qa ITa.out
             go_wp2
             exact bodyPost_ret (run_resP (by rfl) (by rfl) qe) rfl ⟨_,_,_,rfl,by rw[HF.out];exact HE.out,hnm9,hit9,hbe⟩
           · have hd:decide (x.num < 1)=false:=decide_eq_false hn
             have hd2:decide (3 < x.num)=true:=decide_eq_true hn2
             go_wp2_with (first| (refine lP rfl rfl rfl (by assumption) ?_)| (refine sP rfl rfl rfl rfl (by assumption) ?_)|fail)
             refine(HBD 11).out.mono ?_
             rintro en wa ⟨rfl,hba⟩
             have qa:=q9.below hba
             have HBa:=Lh (HB9.out.trans (hba.mono HB9.out.size))
             have NMa:=Lh (NM9.out.keep hba)
             have ITa:=Lh (IT9.out.keep hba)
             have HXN:Hid ((failD T 11 R7).x.names=R6.x.names∧(failD T 11 R7).x.ifs=R6.x.ifs):=by
              have: (failD T 11 R7).x=R6.x:=by rw[←H7N.out];unfold failD;split <;> rfl
              rw[this];exact⟨rfl,rfl⟩
             obtain⟨Rb,hRb⟩:∃ R,failD T 11 R7=R:=⟨_,rfl⟩
             rw[hRb] at HXN HE ⊢
             clear hba p9 q9 hRb
             go_wp2_with (first| (refine lP rfl rfl rfl (by assumption) ?_)| (refine sP rfl rfl rfl rfl (by assumption) ?_)|fail)
             unfold Hid
             intro W9 qe ke
             have hbe:=ke.below HBa.out (show w.heap.size≤w.heap.size+1 by omega)
             have hnm9:NmRow W9 (.slice ad1 n1 cap1) Rb.x.names:=by rw[HXN.out.1];exact ke.nm qa NMa.out
             have hit9:ItRow W9 (.slice ad2 n2 cap2) Rb.x.ifs:=by rw[HXN.out.2];exact ke.it qa ITa.out
             go_wp2
             exact bodyPost_ret (run_resP (by rfl) (by rfl) qe) rfl ⟨_,_,_,rfl,by rw[HF.out];exact HE.out,hnm9,hit9,hbe⟩
         · have HE:=Lh (times_ok H7E.out (by rw[HX7.out];exact hk) (by rw[HX7.out];exact hn))
           have hn1:¬x.num < 1:=fun h=>hn (.inl h)
           have hn2:¬3 < x.num:=fun h=>hn (.inr h)
           clear hk hn
           obtain⟨V3,hV3⟩:∃ W,(V2.setCell ⟨w.heap.size,9,none⟩ (.int .i64 x.num))=W:=⟨_,rfl⟩
           have pa:=p9.putTimes x.num
           have qa:=q9.over (show w.heap.size+1≠w.heap.size by omega) (.int .i64 x.num) (j:=9)
           have hbV3:=HB9.out.setCell (p:=⟨w.heap.size,9,none⟩) (Nat.le_refl _) (.int .i64 x.num)
           rw[hV3] at pa qa hbV3
           have HBa:=Lh hbV3
           clear hbV3
           have NMa:Hid (NmRow V3 (.slice ad1 n1 cap1) R6.x.names):=by unfold Hid;rw[←hV3];exact(KeptP.cell V2 w.heap.size 9 (.int .i64 x.num)).nm p9 NM9.out
           have ITa:Hid (ItRow V3 (.slice ad2 n2 cap2) R6.x.ifs):=by unfold Hid;rw[←hV3];exact(KeptP.cell V2 w.heap.size 9 (.int .i64 x.num)).it p9 IT9.out
           try clear g0 g1 g2 g3 g4 g5 g6 g7 g8 g9 g10 g11 g12 g13 g14 g15
           try clear u0 u1 u2 u3 u4 u5 u6 u7 u8 u9 u10 u11 u12 u13 u14 u15
           obtain⟨g0,g1,g2,g3,g4,g5,g6,g7,g8,g9,g10,g11,g12,g13,g14,g15⟩:=pa.facts
           obtain⟨u0,u1,u2,u3,u4,u5,u6,u7,u8,u9,u10,u11,u12,u13,u14,u15⟩:=pa.free
           replace g12:V3.cell? ⟨w.heap.size,12,none⟩ = some (.int .i64 R7.i):=g12
           obtain⟨V4,hV4⟩:∃ W,(V3.setCell ⟨w.heap.size,12,none⟩ (.int .i64 (R7.i+1)))=W:=⟨_,rfl⟩
           have pb:=pa.putI (R7.i+1)
           have qb:=qa.over (show w.heap.size+1≠w.heap.size by omega) (.int .i64 (R7.i+1)) (j:=12)
           have hbV4:=HBa.out.setCell (p:=⟨w.heap.size,12,none⟩) (Nat.le_refl _) (.int .i64 (R7.i+1))
           rw[hV4] at pb qb hbV4
           have HBb:=Lh hbV4
           clear hbV4
           have NMb:Hid (NmRow V4 (.slice ad1 n1 cap1) R6.x.names):=by unfold Hid;rw[←hV4];exact(KeptP.cell V3 w.heap.size 12 (.int .i64 (R7.i+1))).nm pa NMa.out
           have ITb:Hid (ItRow V4 (.slice ad2 n2 cap2) R6.x.ifs):=by unfold Hid;rw[←hV4];exact(KeptP.cell V3 w.heap.size 12 (.int .i64 (R7.i+1))).it pa ITa.out
           obtain⟨Rb,hRb⟩:∃ R,({ (setTimes x.num R7) with i:=R7.i+1 }:RS)=R:=⟨_,rfl⟩
           have HXN:Hid (Rb.x.names=R6.x.names∧Rb.x.ifs=R6.x.ifs):=by rw[←hRb,←H7N.out];exact⟨rfl,rfl⟩
           have HEE:Hid (timesD T R7=Rb):=by unfold Hid;rw[HE.out,HX7.out,←hRb];rfl
           have pb':PB V4 w.heap.size Rb (.slice ad1 n1 cap1) (.slice ad2 n2 cap2):=by rw[←hRb];exact pb
           clear p9 q9 pa qa hRb pb
           go_wp2_with (first| (refine lP rfl rfl rfl (by assumption) ?_)| (refine sP rfl rfl rfl rfl (by assumption) ?_)|fail)
           unfold Hid
           intro W9 qe ke
           have hbe:=ke.below HBb.out (show w.heap.size≤w.heap.size+1 by omega)
           have hnm9:NmRow W9 (.slice ad1 n1 cap1) Rb.x.names:=by rw[HXN.out.1];exact ke.nm qb NMb.out
           have hit9:ItRow W9 (.slice ad2 n2 cap2) Rb.x.ifs:=by rw[HXN.out.2];exact ke.it qb ITb.out
           go_wp2
           exact bodyPost_ret (run_resP (by rfl) (by rfl) qe) rfl ⟨_,_,_,rfl,by rw[HF.out,HEE.out];exact EqR.refl _,hnm9,hit9,hbe⟩
       · have hkb: (x.kind !=3)=true:=by simpa using hk
         have HE:=Lh (times_kind (by rw[HX7.out];exact hk))
         clear hk
         go_wp2_with (first| (refine lP rfl rfl rfl (by assumption) ?_)| (refine sP rfl rfl rfl rfl (by assumption) ?_)|fail)
         refine(HBD 4).out.mono ?_
         rintro en wa ⟨rfl,hba⟩
         have qa:=q9.below hba
         have HBa:=Lh (HB9.out.trans (hba.mono HB9.out.size))
         have NMa:=Lh (NM9.out.keep hba)
         have ITa:=Lh (IT9.out.keep hba)
         have HXN:Hid ((failD T 4 R7).x.names=R6.x.names∧(failD T 4 R7).x.ifs=R6.x.ifs):=by
          have: (failD T 4 R7).x=R6.x:=by rw[←H7N.out];unfold failD;split <;> rfl
          rw[this];exact⟨rfl,rfl⟩
         obtain⟨Rb,hRb⟩:∃ R,failD T 4 R7=R:=⟨_,rfl⟩
         rw[hRb] at HXN HE ⊢
         clear hba p9 q9 hRb
         go_wp2_with (first| (refine lP rfl rfl rfl (by assumption) ?_)| (refine sP rfl rfl rfl rfl (by assumption) ?_)|fail)
         unfold Hid
         intro W9 qe ke
         have hbe:=ke.below HBa.out (show w.heap.size≤w.heap.size+1 by omega)
         have hnm9:NmRow W9 (.slice ad1 n1 cap1) Rb.x.names:=by rw[HXN.out.1];exact ke.nm qa NMa.out
         have hit9:ItRow W9 (.slice ad2 n2 cap2) Rb.x.ifs:=by rw[HXN.out.2];exact ke.it qa ITa.out
         go_wp2
         exact bodyPost_ret (run_resP (by rfl) (by rfl) qe) rfl ⟨_,_,_,rfl,by rw[HF.out];exact HE.out,hnm9,hit9,hbe⟩
   · have hrb: (R6.er !=0)=true:=by simpa using her
     have HF:Hid (EqR R6 (evR7 T F6)):=by
      unfold Hid evR7
      rw[if_neg (by rw[mayB_bad (by rw[←HU6.out.1];exact her)];decide)]
      exact HU6.out
     clear her
     go_wp2_with (first| (refine lP rfl rfl rfl (by assumption) ?_)| (refine sP rfl rfl rfl rfl (by assumption) ?_)|fail)
     unfold Hid
     intro W9 qe ke
     have hbe:=ke.below HB30.out (show w.heap.size≤w.heap.size+1 by omega)
     have hnm9:NmRow W9 (.slice ad1 n1 cap1) R6.x.names:=ke.nm q30 NM6.out
     have hit9:ItRow W9 (.slice ad2 n2 cap2) R6.x.ifs:=ke.it q30 IT6.out
     go_wp2
     exact bodyPost_ret (run_resP (by rfl) (by rfl) qe) rfl ⟨_,_,_,rfl,HF.out,hnm9,hit9,hbe⟩
end Go.Proofs.YthlofmnmacpogaaGreatDoor
